/- The law WaveKeeps, walked. -/
import Derived.Test.YtclkcbhghbdffaaWaveLike
namespace Go.Proofs.Ytclkcbhghbdffaa
open Go.ChangeShapes Go.WideShapes Go.ChangeAt Go.RowKit
set_option linter.unusedVariables false
attribute [local go_sem ↓] Go.wp_at_zero Go.wp_at_succ

theorem drop_next {l : List It} {k : Nat} {x : It} (hk : k < l.length) (h : x ∈ l.drop k) (hne : l[k] ≠ x) : x ∈ l.drop (k + 1) := by
  rw [List.drop_eq_getElem_cons hk] at h
  rcases List.mem_cons.1 h with h | h
  · exact absurd h.symm hne
  · exact h

set_option maxRecDepth 100000 in
theorem law_among (w : World) (A : Option Addr) (cap : Nat) (l : List It) (x : It) (hS : Sl w w.heap.size encI A l) (hx : x ∈ l) (hm : l.length ≤ 1000) :
    Calls Try.prog 17 #[.slice A l.length cap, itV x] w fun e w' => e = .returned (.bool true) ∧ Below w.heap.size w w' := by
  have HS := Lib.hid hS
  have HX := Lib.hid hx
  clear hS hx
  go_enter Try.func17, Try.ntmps17
  go_wp2_with fail
  go_loopw [9] (fun i wr => ∃ (k : Nat), k ≤ l.length ∧ x ∈ l.drop k ∧ i = .int .i64 k ∧ Below w.heap.size w wr ∧ wr.heap[w.heap.size]? = some (.cells #[.int .i64 x.1, .string x.2] 40 (0, 0))) (fun i _ => l.length - (intOf i).toNat)
  case atStart => exact ⟨0, by omega, HX.out, rfl, (by repeat (first | with_reducible exact Below.refl _ _ | with_reducible assumption | ((with_reducible refine Below.setCell ?_ ?_ _); rotate_left; · (first | omega | exact Nat.le_refl _ | (simp <;> omega))) | (with_reducible refine Below.allocW ?_ _) | (with_reducible refine Below.drew ?_) | (with_reducible refine Below.extW ?_ _))), heap_new_at _ _ _ rfl⟩
  case round =>
    obtain ⟨k, hk, hxk, rfl, hB, hK⟩ := hrel
    have HXK := Lib.hid hxk
    have HK := Lib.hid hK
    have cc := blk_cell hK
    have zz := lt_of_block hK
    clear hxk hK
    have hs := hB.size
    by_cases hlt : k < l.length
    · obtain ⟨b, off, rfl, hb, hc⟩ := (HS.out.below hB).at_ hlt
      have d0 := hc 0 (.int .i64 l[k].1) rfl
      have d1 := hc 1 (.string l[k].2) rfl
      simp only [Nat.add_zero] at d0
      clear hc
      have hn : l[k] ≠ x → x ∈ l.drop (k + 1) := drop_next hlt HXK.out
      have HN := Lib.hid hn
      clear hn
      obtain ⟨y, hy⟩ : ∃ y, y = l[k] := ⟨_, rfl⟩
      rw [← hy] at d0 d1
      have HY := Lib.hid hy
      clear hy
      have i0 : (0 : Int) ≤ (k : Int) := by omega
      have i1 : (k : Int) < (l.length : Int) := by omega
      by_cases he : y = x
      · subst he
        go_wp2_with fail
        go_ret
        exact ⟨rfl, (by repeat (first | with_reducible exact Below.refl _ _ | with_reducible assumption | ((with_reducible refine Below.setCell ?_ ?_ _); rotate_left; · (first | omega | exact Nat.le_refl _ | (simp <;> omega))) | (with_reducible refine Below.allocW ?_ _) | (with_reducible refine Below.drew ?_) | (with_reducible refine Below.extW ?_ _)))⟩
      · go_wp2_with fail
        all_goals
          first
            | (go_ret
               exact ⟨rfl, (by repeat (first | with_reducible exact Below.refl _ _ | with_reducible assumption | ((with_reducible refine Below.setCell ?_ ?_ _); rotate_left; · (first | omega | exact Nat.le_refl _ | (simp <;> omega))) | (with_reducible refine Below.allocW ?_ _) | (with_reducible refine Below.drew ?_) | (with_reducible refine Below.extW ?_ _)))⟩)
            | (go_roundw
               case rel => exact ⟨k + 1, by omega, HN.out (by rw [← HY.out]; exact he), by go_num, (by repeat (first | with_reducible exact Below.refl _ _ | with_reducible assumption | ((with_reducible refine Below.setCell ?_ ?_ _); rotate_left; · (first | omega | exact Nat.le_refl _ | (simp <;> omega))) | (with_reducible refine Below.allocW ?_ _) | (with_reducible refine Below.drew ?_) | (with_reducible refine Below.extW ?_ _))), (heap_new_lt _ _ _ (lt_of_block HK.out)).trans HK.out⟩
               case measure => simp [intOf]; omega)
    · obtain rfl : k = l.length := by omega
      have h0 := HXK.out
      simp at h0

/-- What holds ahead of the call k: sp spoilt, L was sent. -/
structure KeepInv (k : Nat) (s : WS) (sp : Nat) (L : List It) : Prop where
  plays : PlaysInv k s
  sum : s.sent + s.copied = s.taken + s.lost + s.items.length
  spoilt : s.spoilt = sp
  len : L.length ≤ k
  all : sp = 0 → ∀ x ∈ s.items, x ∈ L
theorem KeepInv.at_ {k : Nat} {s : WS} {sp : Nat} {L : List It} (h : KeepInv k s sp L) (h0 : sp = 0) {i : Int} (hi : s.has i = true) : s.items.getD i.toNat (0, ⟨#[]⟩) ∈ L := by
  obtain ⟨j, rfl, hj⟩ := WS.has_tt hi
  simp only [Int.toNat_natCast, List.getD_eq_getElem?_getD, List.getElem?_eq_getElem hj, Option.getD_some]
  exact h.all h0 _ (List.getElem_mem hj)
theorem cut_len {s : WS} {i : Int} (hi : s.has i = true) : (s.cut i.toNat).items.length + 1 = s.items.length := by
  obtain ⟨j, rfl, hj⟩ := WS.has_tt hi
  simp only [WS.cut, List.length_append, List.length_take, List.length_drop, Int.toNat_natCast]
  omega
theorem cut_mem {s : WS} {k : Nat} {x : It} (h : x ∈ (s.cut k).items) : x ∈ s.items := by
  simp only [WS.cut, List.mem_append] at h
  rcases h with h | h
  · exact List.mem_of_mem_take h
  · exact List.mem_of_mem_drop h
/-- What a call does to it. -/
structure KeepStep (k : Nat) (s : WS) (sp : Nat) (L : List It) (o : OpS) (s' : WS) (x : It) (N : Nat) : Prop where
  sent : o.kind = 0 → N = 0 → KeepInv (k + 1) s' sp (L ++ [(o.to_, o.text)])
  notsent : o.kind = 0 → N ≠ 0 → KeepInv (k + 1) s' sp L
  spoilt : o.kind = 4 → N = 0 → KeepInv (k + 1) s' (sp + 1) L
  rest : o.kind ≠ 0 → (o.kind = 4 → N ≠ 0) → KeepInv (k + 1) s' sp L
  taken : o.kind = 1 → N = 1 → sp = 0 → x ∈ L
theorem KeepInv.more {k : Nat} {s : WS} {sp : Nat} {L : List It} (h : KeepInv k s sp L) : KeepInv (k + 1) s sp L := ⟨h.plays.more, h.sum, h.spoilt, by have := h.len; omega, h.all⟩
theorem KeepInv.step {k : Nat} {s : WS} {sp : Nat} {L : List It} (h : KeepInv k s sp L) (o : OpS) (ho : o.ok) : KeepStep k s sp L o (s.do_ o).1 (s.do_ o).2.1 (s.do_ o).2.2 := by
  have hp := h.plays.do_ o ho
  have hm := h.more
  have hsum := h.sum
  by_cases h0 : o.kind = 0
  · rw [do_0 s o h0] at hp ⊢
    unfold WS.send at hp ⊢
    by_cases hf : s.items.length = 256
    · simp only [hf, if_true] at hp ⊢
      exact ⟨fun _ h => by simp at h, fun _ _ => hm, fun h => by omega, fun h => absurd h0 h, fun h => by omega⟩
    · simp only [if_neg hf] at hp ⊢
      refine ⟨fun _ _ => ⟨hp, by simp; omega, h.spoilt, by have := h.len; simp; omega, fun h1 x hx => ?_⟩, fun _ h => absurd rfl h, fun h => by omega, fun h => absurd h0 h, fun h => by omega⟩
      simp only [List.mem_append] at hx ⊢
      exact hx.imp (h.all h1 x) (fun h => h)
  · by_cases h1 : o.kind = 1
    · rw [do_1 s o h1] at hp ⊢
      cases hi : s.has o.i
      · have e1 : s.at_ o.i = (0, ⟨#[]⟩, false) := by simp [WS.at_, hi]
        have e2 : s.take o.i = s := by simp [WS.take, hi]
        rw [e1, e2]
        exact ⟨fun h => absurd h h0, fun h => absurd h h0, fun h => by omega, fun _ _ => hm, fun _ h => by simp at h⟩
      · have e1 : s.at_ o.i = ((s.items.getD o.i.toNat (0, ⟨#[]⟩)).1, (s.items.getD o.i.toNat (0, ⟨#[]⟩)).2, true) := by simp [WS.at_, hi]
        have e2 : s.take o.i = { s.cut o.i.toNat with taken := s.taken + 1 } := by simp [WS.take, hi]
        have hc := cut_len hi
        rw [e2] at hp
        rw [e1, e2]
        refine ⟨fun h => absurd h h0, fun h => absurd h h0, fun h => by omega, fun _ _ => ⟨hp, ?_, h.spoilt, hm.len, fun h1 x hx => h.all h1 x (cut_mem hx)⟩, fun _ _ h1 => h.at_ h1 hi⟩
        show s.sent + s.copied = s.taken + 1 + s.lost + (s.cut o.i.toNat).items.length
        omega
    · by_cases h2 : o.kind = 2
      · rw [do_2 s o h2] at hp ⊢
        unfold WS.lose at hp ⊢
        cases hi : s.has o.i
        · simp only [hi, Bool.false_eq_true, if_false] at hp ⊢
          exact ⟨fun h => absurd h h0, fun h => absurd h h0, fun h => by omega, fun _ _ => hm, fun h => by omega⟩
        · simp only [hi, if_true] at hp ⊢
          have hc := cut_len hi
          refine ⟨fun h => absurd h h0, fun h => absurd h h0, fun h => by omega, fun _ _ => ⟨hp, ?_, h.spoilt, hm.len, fun h1 x hx => h.all h1 x (cut_mem hx)⟩, fun h => by omega⟩
          show s.sent + s.copied = s.taken + (s.lost + 1) + (s.cut o.i.toNat).items.length
          omega
      · by_cases h4 : o.kind = 4
        · rw [do_4 s o h4] at hp ⊢
          unfold WS.spoil at hp ⊢
          split
          · rename_i hc
            rw [if_pos hc] at hp
            refine ⟨fun h => absurd h h0, fun h => absurd h h0, fun _ _ => ⟨hp, by simpa using hsum, by simp [h.spoilt], hm.len, fun h => by omega⟩, fun _ h => absurd rfl (h h4), fun h => by omega⟩
          · rename_i hc
            exact ⟨fun h => absurd h h0, fun h => absurd h h0, fun _ h => by simp at h, fun _ _ => hm, fun h => by omega⟩
        · rw [do_3 s o h0 h1 h2 h4] at hp ⊢
          unfold WS.copy at hp ⊢
          cases hi : s.has o.i
          · simp only [hi, Bool.false_eq_true, if_false] at hp ⊢
            exact ⟨fun h => absurd h h0, fun h => absurd h h0, fun h => by omega, fun _ _ => hm, fun h => by omega⟩
          · simp only [hi, if_true] at hp ⊢
            by_cases hf : s.items.length = 256
            · simp only [if_pos hf] at hp ⊢
              exact ⟨fun h => absurd h h0, fun h => absurd h h0, fun h => by omega, fun _ _ => hm, fun h => by omega⟩
            · simp only [if_neg hf] at hp ⊢
              refine ⟨fun h => absurd h h0, fun h => absurd h h0, fun h => by omega, fun _ _ => ⟨hp, by simp; omega, h.spoilt, hm.len, fun h1 x hx => ?_⟩, fun h => by omega⟩
              simp only [List.mem_append, List.mem_singleton] at hx
              rcases hx with hx | rfl
              · exact h.all h1 x hx
              · exact h.at_ h1 hi

theorem WaveRel.grown {w2 w w' : World} {base g b : Nat} {s : WS} {v : Value} {L : List It} (h : WaveRel w2 base g s w) (ho : Own w b 40 encI v L) (hg : w.grownBy w' v.ownBlock) (hb : base ≤ w2.heap.size) (hbb : w2.heap.size ≤ b) : WaveRel w2 base g s w' := by
  obtain ⟨⟨v', hh, hbg, ho'⟩, hB, hK⟩ := h
  refine ⟨⟨v', (hg.block g (lt_of_block hh) (Ne.symm (ho.ne_block hh (by decide)))).trans hh, hbg, ho'.kept hg (own_ne ho' ho (by decide))⟩, hB.grown hg (Nat.le_trans hb hB.size) (fun k hk => Nat.le_trans hb (Nat.le_trans hbb (ho.lt k hk).1)), ⟨hg.os.trans hK.os, hg.tape.trans hK.tape, hg.output.trans hK.output, Nat.le_trans hK.size hg.size, fun i o hi ht => ?_⟩⟩
  have h1 := hK.block i o hi ht
  have h2 := lt_of_block hi
  refine (hg.block i (lt_of_block h1) fun he => ?_).trans h1
  have := (ho.lt i he.symm).1
  omega

set_option maxRecDepth 100000 in
set_option maxHeartbeats 1000000 in
theorem law_WaveKeeps (l : List OpS) (A0 : Option Addr) (cap0 : Nat) (w : World) (hS : Sl w w.heap.size encO A0 l) (hok : ∀ o ∈ l, o.ok) (hm : l.length ≤ maxLen) :
    Calls Try.prog 5 #[.slice A0 l.length cap0] w fun e w' => e = .returned (.bool true) ∧ Below w.heap.size w w' := by
  have HS := Lib.hid hS
  have HF := Lib.hid (law_few l A0 cap0 w hS hm hok)
  clear hS
  go_enter Try.func5, Try.ntmps5
  go_wp2_with fail
  refine HF.out.mono ?_
  rintro e w1 ⟨⟨b, rfl, hb⟩, hb1⟩
  cases b
  · go_wp2_with fail
    refine (alive30 _).mono ?_
    rintro e w2 ⟨rfl, hb2⟩
    have B2 : Below w.heap.size w w2 := Below.then_ (by repeat (first | with_reducible exact Below.refl _ _ | with_reducible assumption | ((with_reducible refine Below.setCell ?_ ?_ _); rotate_left; · (first | omega | exact Nat.le_refl _ | (simp <;> omega))) | (with_reducible refine Below.allocW ?_ _) | (with_reducible refine Below.drew ?_) | (with_reducible refine Below.extW ?_ _))) hb2
    have s2 : w.heap.size ≤ w2.heap.size := B2.size
    go_wp2_with fail
    go_ret
    exact ⟨rfl, (by repeat (first | with_reducible exact Below.refl _ _ | with_reducible assumption | ((with_reducible refine Below.setCell ?_ ?_ _); rotate_left; · (first | omega | exact Nat.le_refl _ | (simp <;> omega))) | (with_reducible refine Below.allocW ?_ _) | (with_reducible refine Below.drew ?_) | (with_reducible refine Below.extW ?_ _)))⟩
  · have hlen := hb rfl
    clear hb HF
    unfold maxLen at hm
    go_wp2_with fail
    refine (wave_New w1).mono ?_
    rintro e w2 ⟨rfl, hb2, ha⟩
    have hr2 := Lib.hid (WaveRel.refl ha)
    have z12 := hb2.size
    have z01 := hb1.size
    have B2 : Below w.heap.size w w2 := Below.then_ hb1 hb2
    clear ha
    go_wp2_with fail
    go_loopw [4, 5, 18] (fun v sp i wr => ∃ (k p : Nat) (s : WS) (L : List It), k ≤ l.length ∧ i = .int .i64 k ∧ sp = .int .i64 p ∧ WaveRel w2 w1.heap.size w1.heap.size s wr ∧ KeepInv k s p L ∧ Own wr w2.heap.size 40 encI v L) (fun _ _ i _ => l.length - (intOf i).toNat)
    case atStart => exact ⟨0, 0, _, [], by omega, rfl, rfl, hr2.out, ⟨by constructor <;> simp, rfl, rfl, by simp, by simp⟩, .nil _ _ _ _⟩
    case round =>
      obtain ⟨k, p, s, L, hk, rfl, rfl, hr, hI, hO⟩ := hrel
      have HR := Lib.hid hr
      have HI := Lib.hid hI
      have HO := Lib.hid hO
      have B3 : Below w.heap.size w wr := B2.trans (hr.below.mono z01)
      have hs := B3.size
      have hp : (p : Int) ≤ 150 := by have := hI.plays.spoilt; have := hI.spoilt; omega
      have hLen : L.length ≤ 150 := by have := hI.len; omega
      have HLen := Lib.hid hLen
      clear hr hI hO hLen
      by_cases hlt : k < l.length
      · obtain ⟨b, off, rfl, hb, hc⟩ := (HS.out.below B3).at_ hlt
        obtain ⟨d0, d1, d2, d3, d4, d5⟩ := op_cells hc
        have ho := hok _ (List.getElem_mem hlt)
        generalize l[k] = o at d0 d1 d2 d3 d4 d5 ho
        clear hc
        have i0 : (0 : Int) ≤ (k : Int) := by omega
        have i1 : (k : Int) < (l.length : Int) := by omega
        have HL := fun W (hW : WaveAt W w1.heap.size w1.heap.size s) (hz : w1.heap.size ≤ W.heap.size) => law_do W w1.heap.size w1.heap.size s o hW (HI.out.plays.small (by omega)) HI.out.plays.le HI.out.plays.sizes ho hz
        have hd := HI.out.step o ho
        generalize s.do_ o = r at HL hd
        obtain ⟨s', x, N⟩ := r
        have HD := Lib.hid hd
        have HL := Lib.hid HL
        clear hd
        go_wp2_with fail
        have HR1 := Lib.hid (HR.out.alloc z12 (.cells #[.int .i64 o.kind, .int .i64 o.i, .int .i64 o.to_, .int .i64 o.at_, .string o.text, .int .u8 o.by_] 38))
        have k6 := heap_new_at wr (.cells #[.int .i64 o.kind, .int .i64 o.i, .int .i64 o.to_, .int .i64 o.at_, .string o.text, .int .u8 o.by_] 38) _ rfl
        refine (HL.out _ HR1.out.at_ (Nat.le_trans z12 HR1.out.below.size)).mono ?_
        intro e w3 hp3
        obtain ⟨rfl, hr3⟩ := hp3.rel
        have HR3 := Lib.hid (HR1.out.then_ hr3)
        have k63 := do_keep hr3 k6 (by decide)
        have cc6 := blk_cell k63
        have z6 := lt_of_block k63
        have HO3 := Lib.hid (hr3.keep.own (HO.out.alloc _) (by decide))
        have B4 : Below w.heap.size w w3 := B2.trans (HR3.out.below.mono z01)
        have hs3 := B4.size
        clear hp3 hr3 k63 k6 d0 d1 d2 d3 d4 d5
        by_cases h0 : o.kind = 0
        · by_cases hN : (N : Int) = 0
          · have hI2 := Lib.hid (HD.out.sent h0 (by omega))
            go_wp2_with ((at_builtin; refine wpList_push tyJ rfl _ _ rfl encI _ w2.heap.size u4 _ rfl (HO3.out.alloc _) (o.to_, o.text) (by go_simp) rfl ?c1 ?c2 ?c3 ?c4))
            case c1 => have := HLen.out; omega
            case c2 => have := HLen.out; simp only [maxLen]; omega
            case c3 => have := HR3.out.keep.size; simp; omega
            case c4 =>
              intro v' w4 ho4 hg4 hz4 hl4 hb4 _
              have HR4 := Lib.hid ((HR3.out.alloc z12 (.cells #[.int .i64 x.1, .string x.2] 40)).grown (HO3.out.alloc _) hg4 z12 (Nat.le_refl _))
              have HO4 := Lib.hid ho4
              clear ho4 hg4 hl4 hb4
              go_wp2_with fail
              go_roundw
              case rel => exact ⟨k + 1, p, s', _, by omega, by go_num, rfl, HR4.out, hI2.out, HO4.out⟩
              case measure => simp [intOf]; omega
          · have hI2 := Lib.hid (HD.out.notsent h0 (by omega))
            go_wp2_with fail
            go_roundw
            case rel => exact ⟨k + 1, p, s', L, by omega, by go_num, rfl, HR3.out.alloc z12 _, hI2.out, HO3.out.alloc _⟩
            case measure => simp [intOf]; omega
        · by_cases h4 : o.kind = 4
          · by_cases hN : (N : Int) = 0
            · have hI2 := Lib.hid (HD.out.spoilt h4 (by omega))
              go_wp2_with fail
              go_roundw
              case rel => exact ⟨k + 1, p + 1, s', L, by omega, by go_num, by go_num, HR3.out.alloc z12 _, hI2.out, HO3.out.alloc _⟩
              case measure => simp [intOf]; omega
            · have hI2 := Lib.hid (HD.out.rest h0 (fun _ => by omega))
              go_wp2_with fail
              go_roundw
              case rel => exact ⟨k + 1, p, s', L, by omega, by go_num, rfl, HR3.out.alloc z12 _, hI2.out, HO3.out.alloc _⟩
              case measure => simp [intOf]; omega
          · have hI2 := Lib.hid (HD.out.rest h0 (fun h => absurd h h4))
            by_cases h1 : o.kind = 1
            · by_cases hN : (N : Int) = 1
              · by_cases hp0 : (p : Int) = 0
                · have hx := Lib.hid (HD.out.taken h1 (by omega) (by omega))
                  obtain ⟨A4, n4, c4, rfl, hn4⟩ := own_form HO3.out
                  subst hn4
                  go_wp2_with fail
                  refine (law_among _ A4 c4 L x (Own.sl (HO3.out.alloc _)) hx.out (by have := HLen.out; omega)).mono ?_
                  rintro e w4 ⟨rfl, hb4⟩
                  go_wp2_with fail
                  go_roundw
                  case rel => exact ⟨k + 1, p, s', L, by omega, by go_num, by rw [hp0], (HR3.out.alloc z12 _).more z12 hb4, hI2.out, (HO3.out.alloc _).below hb4⟩
                  case measure => simp [intOf]; omega
                · go_wp2_with fail
                  go_roundw
                  case rel => exact ⟨k + 1, p, s', L, by omega, by go_num, rfl, HR3.out.alloc z12 _, hI2.out, HO3.out.alloc _⟩
                  case measure => simp [intOf]; omega
              · go_wp2_with fail
                go_roundw
                case rel => exact ⟨k + 1, p, s', L, by omega, by go_num, rfl, HR3.out.alloc z12 _, hI2.out, HO3.out.alloc _⟩
                case measure => simp [intOf]; omega
            · go_wp2_with fail
              go_roundw
              case rel => exact ⟨k + 1, p, s', L, by omega, by go_num, rfl, HR3.out.alloc z12 _, hI2.out, HO3.out.alloc _⟩
              case measure => simp [intOf]; omega
      · obtain rfl : k = l.length := by omega
        have HSum := Lib.hid HI.out.sum
        have HSp := Lib.hid HI.out.spoilt
        have b1 := HI.out.plays.sent
        have b2 := HI.out.plays.copied
        have b3 := HI.out.plays.taken
        have b4 := HI.out.plays.lost
        have b5 := HI.out.plays.le
        go_wp2_with fail
        refine (wave_Count _ _ _ s HR.out.at_).mono ?_
        rintro e w3 ⟨rfl, hb3⟩
        have HR3 := Lib.hid (HR.out.more z12 hb3)
        have B4 : Below w.heap.size w w3 := B2.trans (HR3.out.below.mono z01)
        rw [HSp.out]
        have hsum : (s.sent : Int) + s.copied = s.taken + s.lost + s.items.length := by have := HSum.out; omega
        go_wp2_with fail
        refine wp_region_ext (by kernel_rfl) (by kernel_rfl) ?_
        repeat (go_big_quiet_step (first | (go_at_call 11; exact quiet_ext (wave_Len _ _ _ s (HR3.out.at_.below (by repeat (first | with_reducible exact Below.refl _ _ | with_reducible assumption | ((with_reducible refine Below.setCell ?_ ?_ _); rotate_left; · (first | omega | exact Nat.le_refl _ | (simp <;> omega))) | (with_reducible refine Below.allocW ?_ _) | (with_reducible refine Below.drew ?_) | (with_reducible refine Below.extW ?_ _)))))) | (go_at_call 7; exact quiet_ext (alive30 _))))
        refine wpQuiet_nil ?_
        intro w4 hb4
        replace hb4 := below_of_ext hb4
        have B4 : Below w.heap.size w w4 := Below.then_ (by repeat (first | with_reducible exact Below.refl _ _ | with_reducible assumption | ((with_reducible refine Below.setCell ?_ ?_ _); rotate_left; · (first | omega | exact Nat.le_refl _ | (simp <;> omega))) | (with_reducible refine Below.allocW ?_ _) | (with_reducible refine Below.drew ?_) | (with_reducible refine Below.extW ?_ _))) hb4
        have s4 : w.heap.size ≤ w4.heap.size := B4.size
        go_wp2_with fail
        go_ret
        exact ⟨rfl, (by repeat (first | with_reducible exact Below.refl _ _ | with_reducible assumption | ((with_reducible refine Below.setCell ?_ ?_ _); rotate_left; · (first | omega | exact Nat.le_refl _ | (simp <;> omega))) | (with_reducible refine Below.allocW ?_ _) | (with_reducible refine Below.drew ?_) | (with_reducible refine Below.extW ?_ _)))⟩
end Go.Proofs.Ytclkcbhghbdffaa
