/- The laws of chapter 30: the law's own call, on a wave. -/
import Derived.Test.YtclkcbhghbdffaaWaveLaw
namespace Go.Proofs.Ytclkcbhghbdffaa
open Go.ChangeShapes Go.WideShapes Go.ChangeAt Go.RowKit
set_option linter.unusedVariables false
attribute [local go_sem ↓] Go.wp_at_zero Go.wp_at_succ

theorem do_keep {w0 w1 : World} {base g : Nat} {s' : WS} (h : WaveRel w0 base g s' w1) {b : Nat} {cs : Array Value} {t : TypeId} (hb : w0.heap[b]? = some (.cells cs t (0, 0))) (ht : t ∉ [55, 58]) : w1.heap[b]? = some (.cells cs t (0, 0)) :=
  h.keep.block b _ hb (by intro cs' t' fr' he; cases he; exact ht)
/-- A store in a block of another type that is new since w. -/
theorem WaveRel.store {w w1 : World} {base g q t : Nat} {s' : WS} (h : WaveRel w base g s' w1) (hT : TypeAt w1 q t) (h1 : 55 ≠ t) (h2 : 58 ≠ t) (hq : w.heap.size ≤ q) (hb : base ≤ w.heap.size) (o : Nat) (u : Value) : WaveRel w base g s' (w1.setCell ⟨q, o, none⟩ u) := by
  obtain ⟨⟨v, hh, hg, ho⟩, hB, hK⟩ := h
  refine ⟨⟨v, ?_, hg, ho.setCellT hT h2⟩, hB.setCell (Nat.le_trans hb hq) _, ⟨hK.os, hK.tape, hK.output, by simp [World.setCell]; exact hK.size, fun b o' hb' ht => ?_⟩⟩
  · obtain ⟨cs, fr, hq1⟩ := hT
    rw [Below.heap_setCell _ _ _ _ (by rintro rfl; rw [hh] at hq1; cases hq1; exact h1 rfl)]
    exact hh
  · have := lt_of_block hb'
    rw [Below.heap_setCell _ _ _ _ (by simp only; omega)]
    exact hK.block b o' hb' ht
theorem WaveRel.alloc {w w1 : World} {base g : Nat} {s' : WS} (h : WaveRel w base g s' w1) (hb : base ≤ w.heap.size) (o : Obj) : WaveRel w base g s' (w1.alloc o) := h.more hb ((Below.refl _ _).alloc (Nat.le_refl _) o)

theorem do_0 (s : WS) (o : OpS) (h : o.kind = 0) : s.do_ o = ((s.send (o.to_, o.text)).1, it0, (s.send (o.to_, o.text)).2) := by unfold WS.do_; rw [if_pos h]
theorem do_1 (s : WS) (o : OpS) (h : o.kind = 1) : s.do_ o = (s.take o.i, ((s.at_ o.i).1, (s.at_ o.i).2.1), if (s.at_ o.i).2.2 = true then 1 else 0) := by unfold WS.do_; rw [if_neg (by omega), if_pos h]
theorem do_2 (s : WS) (o : OpS) (h : o.kind = 2) : s.do_ o = ((s.lose o.i).1, it0, (s.lose o.i).2) := by unfold WS.do_; rw [if_neg (by omega), if_neg (by omega), if_pos h]
theorem do_4 (s : WS) (o : OpS) (h : o.kind = 4) : s.do_ o = ((s.spoil o.i o.at_ o.by_).1, it0, (s.spoil o.i o.at_ o.by_).2) := by unfold WS.do_; rw [if_neg (by omega), if_neg (by omega), if_neg (by omega), if_pos h]
theorem do_3 (s : WS) (o : OpS) (h0 : ¬ o.kind = 0) (h1 : ¬ o.kind = 1) (h2 : ¬ o.kind = 2) (h4 : ¬ o.kind = 4) : s.do_ o = ((s.copy o.i).1, it0, (s.copy o.i).2) := by unfold WS.do_; rw [if_neg h0, if_neg h1, if_neg h2, if_neg h4]

set_option maxRecDepth 100000 in
theorem law_do_0 (w : World) (base g : Nat) (s : WS) (I TO AT : Int) (TX : ByteArray) (BY : Int) (h : WaveAt w base g s) (hs : s.small) (hlen : s.items.length ≤ 256) (hsz : ∀ x ∈ s.items, x.2.size ≤ maxLen) (hBy : 0 ≤ BY ∧ BY ≤ 255) (hb : base ≤ w.heap.size)
    : Calls Try.prog 15 #[.pointer (some ⟨g, 0, none⟩), .agg #[.int .i64 0, .int .i64 I, .int .i64 TO, .int .i64 AT, .string TX, .int .u8 BY]] w (WavePost w base g (s.send (TO, TX)).1 (.tuple #[itV it0, .int .i64 (s.send (TO, TX)).2])) := by
  have K0 := Lib.hid ((heap_new_lt (w.alloc _) (.cells #[.int .i64 0, .string ⟨#[]⟩] 40) w.heap.size (by simp)).trans (heap_new_at w (.cells #[.int .i64 0, .int .i64 I, .int .i64 TO, .int .i64 AT, .string TX, .int .u8 BY] 38) _ rfl))
  have K1 := Lib.hid (heap_new_at (w.alloc (.cells #[.int .i64 0, .int .i64 I, .int .i64 TO, .int .i64 AT, .string TX, .int .u8 BY] 38)) (.cells #[.int .i64 0, .string ⟨#[]⟩] 40) (w.heap.size + 1) (by simp))
  have HR := Lib.hid (((WaveRel.refl h).alloc hb (.cells #[.int .i64 0, .int .i64 I, .int .i64 TO, .int .i64 AT, .string TX, .int .u8 BY] 38)).alloc hb (.cells #[.int .i64 0, .string ⟨#[]⟩] 40))
  clear h
  go_enter Try.func15, Try.ntmps15
  go_wp2_with fail
  refine (wave_Send _ base g s (TO, TX) HR.out.at_ hs hlen (by simp; omega)).mono ?_
  intro e w1 hp
  obtain ⟨rfl, hr0⟩ := hp.rel
  have hr := Lib.hid (HR.out.then_ hr0)
  have b0 := do_keep hr0 K0.out (by decide)
  have b1 := do_keep hr0 K1.out (by decide)
  have cc0 := blk_cell b0
  have cc1 := blk_cell b1
  have cf1 := blk_frozen b1
  have T1 := TypeAt.of b1
  have z1 := lt_of_block b1
  clear hp hr0 b0 b1
  go_wp2_with fail
  refine bodyPost_ret (v := .tuple #[.agg #[.int .i64 0, .string ⟨#[]⟩], .int .i64 ((s.send (TO, TX)).2 : Nat)]) (by simp only [results, Try.results15]; go_simp) rfl ?_
  exact ((hr.out.store T1 (by decide) (by decide) (by omega) hb _ _).store T1.setCell (by decide) (by decide) (by omega) hb _ _).post

set_option maxRecDepth 100000 in
theorem law_do_2 (w : World) (base g : Nat) (s : WS) (I TO AT : Int) (TX : ByteArray) (BY : Int) (h : WaveAt w base g s) (hs : s.small) (hlen : s.items.length ≤ 256) (hsz : ∀ x ∈ s.items, x.2.size ≤ maxLen) (hBy : 0 ≤ BY ∧ BY ≤ 255) (hb : base ≤ w.heap.size)
    : Calls Try.prog 15 #[.pointer (some ⟨g, 0, none⟩), .agg #[.int .i64 2, .int .i64 I, .int .i64 TO, .int .i64 AT, .string TX, .int .u8 BY]] w (WavePost w base g (s.lose I).1 (.tuple #[itV it0, .int .i64 (s.lose I).2])) := by
  have K0 := Lib.hid ((heap_new_lt (w.alloc _) (.cells #[.int .i64 0, .string ⟨#[]⟩] 40) w.heap.size (by simp)).trans (heap_new_at w (.cells #[.int .i64 2, .int .i64 I, .int .i64 TO, .int .i64 AT, .string TX, .int .u8 BY] 38) _ rfl))
  have K1 := Lib.hid (heap_new_at (w.alloc (.cells #[.int .i64 2, .int .i64 I, .int .i64 TO, .int .i64 AT, .string TX, .int .u8 BY] 38)) (.cells #[.int .i64 0, .string ⟨#[]⟩] 40) (w.heap.size + 1) (by simp))
  have HR := Lib.hid (((WaveRel.refl h).alloc hb (.cells #[.int .i64 2, .int .i64 I, .int .i64 TO, .int .i64 AT, .string TX, .int .u8 BY] 38)).alloc hb (.cells #[.int .i64 0, .string ⟨#[]⟩] 40))
  clear h
  go_enter Try.func15, Try.ntmps15
  go_wp2_with fail
  refine (wave_Lose _ base g s I HR.out.at_ hs hlen (by simp; omega)).mono ?_
  intro e w1 hp
  obtain ⟨rfl, hr0⟩ := hp.rel
  have hr := Lib.hid (HR.out.then_ hr0)
  have b0 := do_keep hr0 K0.out (by decide)
  have b1 := do_keep hr0 K1.out (by decide)
  have cc0 := blk_cell b0
  have cc1 := blk_cell b1
  have cf1 := blk_frozen b1
  have T1 := TypeAt.of b1
  have z1 := lt_of_block b1
  clear hp hr0 b0 b1
  go_wp2_with fail
  refine bodyPost_ret (v := .tuple #[.agg #[.int .i64 0, .string ⟨#[]⟩], .int .i64 ((s.lose I).2 : Nat)]) (by simp only [results, Try.results15]; go_simp) rfl ?_
  exact ((hr.out.store T1 (by decide) (by decide) (by omega) hb _ _).store T1.setCell (by decide) (by decide) (by omega) hb _ _).post

set_option maxRecDepth 100000 in
theorem law_do_4 (w : World) (base g : Nat) (s : WS) (I TO AT : Int) (TX : ByteArray) (BY : Int) (h : WaveAt w base g s) (hs : s.small) (hlen : s.items.length ≤ 256) (hsz : ∀ x ∈ s.items, x.2.size ≤ maxLen) (hBy : 0 ≤ BY ∧ BY ≤ 255) (hb : base ≤ w.heap.size)
    : Calls Try.prog 15 #[.pointer (some ⟨g, 0, none⟩), .agg #[.int .i64 4, .int .i64 I, .int .i64 TO, .int .i64 AT, .string TX, .int .u8 BY]] w (WavePost w base g (s.spoil I AT BY).1 (.tuple #[itV it0, .int .i64 (s.spoil I AT BY).2])) := by
  have K0 := Lib.hid ((heap_new_lt (w.alloc _) (.cells #[.int .i64 0, .string ⟨#[]⟩] 40) w.heap.size (by simp)).trans (heap_new_at w (.cells #[.int .i64 4, .int .i64 I, .int .i64 TO, .int .i64 AT, .string TX, .int .u8 BY] 38) _ rfl))
  have K1 := Lib.hid (heap_new_at (w.alloc (.cells #[.int .i64 4, .int .i64 I, .int .i64 TO, .int .i64 AT, .string TX, .int .u8 BY] 38)) (.cells #[.int .i64 0, .string ⟨#[]⟩] 40) (w.heap.size + 1) (by simp))
  have HR := Lib.hid (((WaveRel.refl h).alloc hb (.cells #[.int .i64 4, .int .i64 I, .int .i64 TO, .int .i64 AT, .string TX, .int .u8 BY] 38)).alloc hb (.cells #[.int .i64 0, .string ⟨#[]⟩] 40))
  clear h
  go_enter Try.func15, Try.ntmps15
  go_wp2_with fail
  refine (wave_Spoil _ base g s I AT BY HR.out.at_ hs (by simp; omega) hsz hBy).mono ?_
  intro e w1 hp
  obtain ⟨rfl, hr0⟩ := hp.rel
  have hr := Lib.hid (HR.out.then_ hr0)
  have b0 := do_keep hr0 K0.out (by decide)
  have b1 := do_keep hr0 K1.out (by decide)
  have cc0 := blk_cell b0
  have cc1 := blk_cell b1
  have cf1 := blk_frozen b1
  have T1 := TypeAt.of b1
  have z1 := lt_of_block b1
  clear hp hr0 b0 b1
  go_wp2_with fail
  refine bodyPost_ret (v := .tuple #[.agg #[.int .i64 0, .string ⟨#[]⟩], .int .i64 ((s.spoil I AT BY).2 : Nat)]) (by simp only [results, Try.results15]; go_simp) rfl ?_
  exact ((hr.out.store T1 (by decide) (by decide) (by omega) hb _ _).store T1.setCell (by decide) (by decide) (by omega) hb _ _).post

set_option maxRecDepth 100000 in
theorem law_do_3 (w : World) (base g : Nat) (s : WS) (K I TO AT : Int) (TX : ByteArray) (BY : Int) (h0 : ¬ K = 0) (h1 : ¬ K = 1) (h2 : ¬ K = 2) (h4 : ¬ K = 4) (h : WaveAt w base g s) (hs : s.small) (hlen : s.items.length ≤ 256) (hsz : ∀ x ∈ s.items, x.2.size ≤ maxLen) (hBy : 0 ≤ BY ∧ BY ≤ 255) (hb : base ≤ w.heap.size)
    : Calls Try.prog 15 #[.pointer (some ⟨g, 0, none⟩), .agg #[.int .i64 K, .int .i64 I, .int .i64 TO, .int .i64 AT, .string TX, .int .u8 BY]] w (WavePost w base g (s.copy I).1 (.tuple #[itV it0, .int .i64 (s.copy I).2])) := by
  have K0 := Lib.hid ((heap_new_lt (w.alloc _) (.cells #[.int .i64 0, .string ⟨#[]⟩] 40) w.heap.size (by simp)).trans (heap_new_at w (.cells #[.int .i64 K, .int .i64 I, .int .i64 TO, .int .i64 AT, .string TX, .int .u8 BY] 38) _ rfl))
  have K1 := Lib.hid (heap_new_at (w.alloc (.cells #[.int .i64 K, .int .i64 I, .int .i64 TO, .int .i64 AT, .string TX, .int .u8 BY] 38)) (.cells #[.int .i64 0, .string ⟨#[]⟩] 40) (w.heap.size + 1) (by simp))
  have HR := Lib.hid (((WaveRel.refl h).alloc hb (.cells #[.int .i64 K, .int .i64 I, .int .i64 TO, .int .i64 AT, .string TX, .int .u8 BY] 38)).alloc hb (.cells #[.int .i64 0, .string ⟨#[]⟩] 40))
  clear h
  go_enter Try.func15, Try.ntmps15
  go_wp2_with fail
  refine (wave_Copy _ base g s I HR.out.at_ hs hlen (by simp; omega)).mono ?_
  intro e w1 hp
  obtain ⟨rfl, hr0⟩ := hp.rel
  have hr := Lib.hid (HR.out.then_ hr0)
  have b0 := do_keep hr0 K0.out (by decide)
  have b1 := do_keep hr0 K1.out (by decide)
  have cc0 := blk_cell b0
  have cc1 := blk_cell b1
  have cf1 := blk_frozen b1
  have T1 := TypeAt.of b1
  have z1 := lt_of_block b1
  clear hp hr0 b0 b1
  go_wp2_with fail
  refine bodyPost_ret (v := .tuple #[.agg #[.int .i64 0, .string ⟨#[]⟩], .int .i64 ((s.copy I).2 : Nat)]) (by simp only [results, Try.results15]; go_simp) rfl ?_
  exact ((hr.out.store T1 (by decide) (by decide) (by omega) hb _ _).store T1.setCell (by decide) (by decide) (by omega) hb _ _).post

set_option maxRecDepth 100000 in
theorem law_do_1 (w : World) (base g : Nat) (s : WS) (I TO AT : Int) (TX : ByteArray) (BY : Int) (h : WaveAt w base g s) (hs : s.small) (hlen : s.items.length ≤ 256) (hsz : ∀ x ∈ s.items, x.2.size ≤ maxLen) (hBy : 0 ≤ BY ∧ BY ≤ 255) (hb : base ≤ w.heap.size)
    : Calls Try.prog 15 #[.pointer (some ⟨g, 0, none⟩), .agg #[.int .i64 1, .int .i64 I, .int .i64 TO, .int .i64 AT, .string TX, .int .u8 BY]] w (WavePost w base g (s.take I) (.tuple #[itV ((s.at_ I).1, (s.at_ I).2.1), .int .i64 (if (s.at_ I).2.2 = true then 1 else 0)])) := by
  have HT := fun W (hW : WaveAt W base g s) (hbW : base ≤ W.heap.size) => wave_Take W base g s I hW hs hlen hbW
  generalize s.at_ I = r at HT ⊢
  obtain ⟨r1, r2, r3⟩ := r
  generalize s.take I = s' at HT ⊢
  have HTT := Lib.hid HT
  clear HT
  cases r3
  · have K0 := Lib.hid ((heap_new_lt (w.alloc _) (.cells #[.int .i64 0, .string ⟨#[]⟩] 40) w.heap.size (by simp)).trans (heap_new_at w (.cells #[.int .i64 1, .int .i64 I, .int .i64 TO, .int .i64 AT, .string TX, .int .u8 BY] 38) _ rfl))
    have K1 := Lib.hid (heap_new_at (w.alloc (.cells #[.int .i64 1, .int .i64 I, .int .i64 TO, .int .i64 AT, .string TX, .int .u8 BY] 38)) (.cells #[.int .i64 0, .string ⟨#[]⟩] 40) (w.heap.size + 1) (by simp))
    have HR := Lib.hid (((WaveRel.refl h).alloc hb (.cells #[.int .i64 1, .int .i64 I, .int .i64 TO, .int .i64 AT, .string TX, .int .u8 BY] 38)).alloc hb (.cells #[.int .i64 0, .string ⟨#[]⟩] 40))
    clear h
    go_enter Try.func15, Try.ntmps15
    go_wp2_with fail
    refine (HTT.out _ HR.out.at_ (by simp; omega)).mono ?_
    intro e w1 hp
    obtain ⟨rfl, hr0⟩ := hp.rel
    have hr := Lib.hid (HR.out.then_ hr0)
    have b0 := do_keep hr0 K0.out (by decide)
    have b1 := do_keep hr0 K1.out (by decide)
    have cc0 := blk_cell b0
    have cc1 := blk_cell b1
    have cf1 := blk_frozen b1
    have T1 := TypeAt.of b1
    have z1 := lt_of_block b1
    clear hp hr0 b0 b1
    unfold atV
    go_wp2_with fail
    refine bodyPost_ret (v := .tuple #[.agg #[.int .i64 r1, .string r2], .int .i64 0]) (by simp only [results, Try.results15]; go_simp) rfl ?_
    exact ((hr.out.store T1 (by decide) (by decide) (by omega) hb _ _).store T1.setCell (by decide) (by decide) (by omega) hb _ _).post
  · have K0 := Lib.hid ((heap_new_lt (w.alloc _) (.cells #[.int .i64 0, .string ⟨#[]⟩] 40) w.heap.size (by simp)).trans (heap_new_at w (.cells #[.int .i64 1, .int .i64 I, .int .i64 TO, .int .i64 AT, .string TX, .int .u8 BY] 38) _ rfl))
    have K1 := Lib.hid (heap_new_at (w.alloc (.cells #[.int .i64 1, .int .i64 I, .int .i64 TO, .int .i64 AT, .string TX, .int .u8 BY] 38)) (.cells #[.int .i64 0, .string ⟨#[]⟩] 40) (w.heap.size + 1) (by simp))
    have HR := Lib.hid (((WaveRel.refl h).alloc hb (.cells #[.int .i64 1, .int .i64 I, .int .i64 TO, .int .i64 AT, .string TX, .int .u8 BY] 38)).alloc hb (.cells #[.int .i64 0, .string ⟨#[]⟩] 40))
    clear h
    go_enter Try.func15, Try.ntmps15
    go_wp2_with fail
    refine (HTT.out _ HR.out.at_ (by simp; omega)).mono ?_
    intro e w1 hp
    obtain ⟨rfl, hr0⟩ := hp.rel
    have hr := Lib.hid (HR.out.then_ hr0)
    have b0 := do_keep hr0 K0.out (by decide)
    have b1 := do_keep hr0 K1.out (by decide)
    have cc0 := blk_cell b0
    have cc1 := blk_cell b1
    have cf1 := blk_frozen b1
    have T1 := TypeAt.of b1
    have z1 := lt_of_block b1
    clear hp hr0 b0 b1
    unfold atV
    go_wp2_with fail
    refine bodyPost_ret (v := .tuple #[.agg #[.int .i64 r1, .string r2], .int .i64 1]) (by simp only [results, Try.results15]; go_simp) rfl ?_
    exact ((hr.out.store T1 (by decide) (by decide) (by omega) hb _ _).store T1.setCell (by decide) (by decide) (by omega) hb _ _).post

theorem law_do (w : World) (base g : Nat) (s : WS) (o : OpS) (h : WaveAt w base g s) (hs : s.small) (hlen : s.items.length ≤ 256) (hsz : ∀ x ∈ s.items, x.2.size ≤ maxLen) (hBy : o.ok) (hb : base ≤ w.heap.size) :
    Calls Try.prog 15 #[.pointer (some ⟨g, 0, none⟩), opV o] w (WavePost w base g (s.do_ o).1 (.tuple #[itV (s.do_ o).2.1, .int .i64 (s.do_ o).2.2])) := by
  by_cases h0 : o.kind = 0
  · have := law_do_0 w base g s o.i o.to_ o.at_ o.text o.by_ h hs hlen hsz ⟨hBy.1, hBy.2.1⟩ hb
    rw [do_0 s o h0]
    unfold opV
    rw [h0]
    exact this
  · by_cases h1 : o.kind = 1
    · have := law_do_1 w base g s o.i o.to_ o.at_ o.text o.by_ h hs hlen hsz ⟨hBy.1, hBy.2.1⟩ hb
      rw [do_1 s o h1]
      unfold opV
      rw [h1]
      refine this.mono fun e w' hp => ?_
      have hc : (((if (s.at_ o.i).2.2 = true then 1 else 0 : Nat) : Nat) : Int) = if (s.at_ o.i).2.2 = true then 1 else 0 := by split <;> rfl
      rw [hc]
      exact hp
    · by_cases h2 : o.kind = 2
      · have := law_do_2 w base g s o.i o.to_ o.at_ o.text o.by_ h hs hlen hsz ⟨hBy.1, hBy.2.1⟩ hb
        rw [do_2 s o h2]
        unfold opV
        rw [h2]
        exact this
      · by_cases h4 : o.kind = 4
        · have := law_do_4 w base g s o.i o.to_ o.at_ o.text o.by_ h hs hlen hsz ⟨hBy.1, hBy.2.1⟩ hb
          rw [do_4 s o h4]
          unfold opV
          rw [h4]
          exact this
        · have := law_do_3 w base g s o.kind o.i o.to_ o.at_ o.text o.by_ h0 h1 h2 h4 h hs hlen hsz ⟨hBy.1, hBy.2.1⟩ hb
          rw [do_3 s o h0 h1 h2 h4]
          exact this
end Go.Proofs.Ytclkcbhghbdffaa
