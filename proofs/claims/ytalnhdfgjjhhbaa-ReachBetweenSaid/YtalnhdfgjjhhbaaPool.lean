/- Package pool: a store of either kind. -/
import Derived.Test.YtalnhdfgjjhhbaaProbe3
namespace Go.Proofs.Ytalnhdfgjjhhbaa
open Go.ChangeShapes Go.WideShapes Go.ChangeAt Go.RowKit
set_option linter.unusedVariables false

def footP (g : Nat) (F0 : Nat → Prop) : Nat → Prop := fun b => b = g ∨ F0 b
/-- The pool in block g, of kind K, with the roll r; F: its blocks. -/
def PoolAt (w : World) (g K l : Nat) (r : List Nd) (F : Nat → Prop) : Prop :=
  1 ≤ l ∧ l ≤ 48 ∧ Fits l r ∧ ∃ h F0, F = footP g F0 ∧ ((K = 1 ∧ l ≤ 16 ∧ w.heap[g]? = some (.cells #[.pointer (some ⟨h, 0, none⟩), .pointer none] 89 (0, 0)) ∧ DenseAt w h l r F0) ∨
    (K = 2 ∧ w.heap[g]? = some (.cells #[.pointer none, .pointer (some ⟨h, 0, none⟩)] 89 (0, 0)) ∧ ProbeAt w h l r F0))
theorem PoolAt.keep {w w' : World} {g K l : Nat} {r : List Nd} {F : Nat → Prop} (h : PoolAt w g K l r F) (hk : ∀ b, F b → w'.heap[b]? = w.heap[b]?) : PoolAt w' g K l r F := by
  obtain ⟨h1, h2, h3, p, F0, rfl, h4⟩ := h
  refine ⟨h1, h2, h3, p, F0, rfl, ?_⟩
  rcases h4 with ⟨a, b, c, d⟩ | ⟨a, c, d⟩
  · exact .inl ⟨a, b, (hk g (.inl rfl)).trans c, d.keep fun q hq => hk q (.inr hq)⟩
  · exact .inr ⟨a, (hk g (.inl rfl)).trans c, d.keep fun q hq => hk q (.inr hq)⟩
theorem PoolAt.lt {w : World} {g K l : Nat} {r : List Nd} {F : Nat → Prop} (h : PoolAt w g K l r F) : ∀ b, F b → b < w.heap.size := by
  obtain ⟨h1, h2, h3, p, F0, rfl, h4⟩ := h
  rintro q (rfl | hq)
  · rcases h4 with ⟨a, b, c, d⟩ | ⟨a, c, d⟩
    · exact lt_of_block c
    · exact lt_of_block c
  · rcases h4 with ⟨a, b, c, d⟩ | ⟨a, c, d⟩
    · exact d.lt q hq
    · exact d.lt q hq
theorem PoolAt.below {w w' : World} {g K l : Nat} {r : List Nd} {F : Nat → Prop} (h : PoolAt w g K l r F) (hb : Below w.heap.size w w') : PoolAt w' g K l r F := h.keep fun b hf => hb.block b (h.lt b hf)
theorem PoolAt.fits {w : World} {g K l : Nat} {r : List Nd} {F : Nat → Prop} (h : PoolAt w g K l r F) : Fits l r := h.2.2.1
/-- Which types the footprint's blocks are of. -/
def PoolTypes (t : TypeId) : Prop := t = 89 ∨ t = 117 ∨ t = 3 ∨ t = 119 ∨ t = 59
theorem PoolAt.typed {w : World} {g K l : Nat} {r : List Nd} {F : Nat → Prop} (h : PoolAt w g K l r F) : ∀ b, F b → ∃ t, PoolTypes t ∧ TypeAt w b t := by
  obtain ⟨h1, h2, h3, p, F0, rfl, h4⟩ := h
  rintro q (rfl | hq)
  · rcases h4 with ⟨a, b, c, d⟩ | ⟨a, c, d⟩
    · exact ⟨_, .inl rfl, .of c⟩
    · exact ⟨_, .inl rfl, .of c⟩
  · rcases h4 with ⟨a, b, c, d⟩ | ⟨a, c, d⟩
    · rcases d.typed q hq with h | h
      · exact ⟨_, .inr (.inl rfl), h⟩
      · exact ⟨_, .inr (.inr (.inl rfl)), h⟩
    · rcases d.typed q hq with h | h
      · exact ⟨_, .inr (.inr (.inr (.inl rfl))), h⟩
      · exact ⟨_, .inr (.inr (.inr (.inr rfl))), h⟩
theorem typeAt_eq {w : World} {b t t' : Nat} (h : TypeAt w b t) (h' : TypeAt w b t') : t = t' := by
  obtain ⟨_, _, h⟩ := h
  obtain ⟨_, _, h'⟩ := h'
  rw [h] at h'
  cases h'
  rfl

theorem pool_isArray (w : World) (g h : Nat) (q0 : Value) (hh : w.heap[g]? = some (.cells #[.pointer (some ⟨h, 0, none⟩), q0] 89 (0, 0))) : Calls Try.prog 48 #[.pointer (some ⟨g, 0, none⟩)] w fun e w' => e = .returned (.bool true) ∧ Below w.heap.size w w' := by
  have c := blk_cell hh
  have z := lt_of_block hh
  clear hh
  go_enter Try.func48, Try.ntmps48
  go_wp2_with fail
  go_ret
  exact ⟨rfl, (by repeat (first | with_reducible exact Below.refl _ _ | with_reducible assumption | ((with_reducible refine Below.setCell ?_ ?_ _); rotate_left; · (first | omega | exact Nat.le_refl _ | (simp <;> omega))) | (with_reducible refine Below.allocW ?_ _) | (with_reducible refine Below.drew ?_) | (with_reducible refine Below.extW ?_ _)))⟩
theorem pool_isArray_no (w : World) (g : Nat) (q0 : Value) (hh : w.heap[g]? = some (.cells #[.pointer none, q0] 89 (0, 0))) : Calls Try.prog 48 #[.pointer (some ⟨g, 0, none⟩)] w fun e w' => e = .returned (.bool false) ∧ Below w.heap.size w w' := by
  have c := blk_cell hh
  have z := lt_of_block hh
  clear hh
  go_enter Try.func48, Try.ntmps48
  go_wp2_with fail
  go_ret
  exact ⟨rfl, (by repeat (first | with_reducible exact Below.refl _ _ | with_reducible assumption | ((with_reducible refine Below.setCell ?_ ?_ _); rotate_left; · (first | omega | exact Nat.le_refl _ | (simp <;> omega))) | (with_reducible refine Below.allocW ?_ _) | (with_reducible refine Below.drew ?_) | (with_reducible refine Below.extW ?_ _)))⟩
theorem pool_inner (w : World) (g : Nat) (p : Option Addr) (q0 : Value) (hh : w.heap[g]? = some (.cells #[q0, .pointer p] 89 (0, 0))) : Calls Try.prog 50 #[.pointer (some ⟨g, 0, none⟩)] w fun e w' => e = .returned (.pointer p) ∧ Below w.heap.size w w' := by
  have c := blk_cell hh
  have z := lt_of_block hh
  clear hh
  go_enter Try.func50, Try.ntmps50
  go_wp2_with fail
  go_ret
  exact ⟨rfl, (by repeat (first | with_reducible exact Below.refl _ _ | with_reducible assumption | ((with_reducible refine Below.setCell ?_ ?_ _); rotate_left; · (first | omega | exact Nat.le_refl _ | (simp <;> omega))) | (with_reducible refine Below.allocW ?_ _) | (with_reducible refine Below.drew ?_) | (with_reducible refine Below.extW ?_ _)))⟩

theorem pool_L (w : World) (g K l : Nat) (r : List Nd) (F : Nat → Prop) (h : PoolAt w g K l r F) : Calls Try.prog 55 #[.pointer (some ⟨g, 0, none⟩)] w fun e w' => e = .returned (.int .i64 l) ∧ Below w.heap.size w w' := by
  obtain ⟨h1, h2, h3, p, F0, rfl, h4⟩ := h
  rcases h4 with ⟨rfl, h16, hh, hd⟩ | ⟨rfl, hh, hd⟩
  · have H := Lib.hid hh
    have HD := Lib.hid hd
    clear hh hd
    go_enter Try.func55, Try.ntmps55
    go_wp2_with fail
    refine (pool_isArray _ g p _ H.out).mono ?_
    rintro e w1 ⟨rfl, hb1⟩
    have k1 := blk_below H.out hb1
    have c1 := blk_cell k1
    have z1 := lt_of_block k1
    have D1 := Lib.hid (HD.out.below hb1)
    clear k1
    go_wp2_with fail
    refine (dense_L _ p l r F0 D1.out).mono ?_
    rintro e w2 ⟨rfl, hb2⟩
    have HB2 := Lib.hid (hb1.trans (hb2.mono hb1.size))
    clear hb2
    go_wp2_with fail
    go_ret
    exact ⟨rfl, HB2.out⟩
  · have H := Lib.hid hh
    have HD := Lib.hid hd
    clear hh hd
    go_enter Try.func55, Try.ntmps55
    go_wp2_with fail
    refine (pool_isArray_no _ g _ H.out).mono ?_
    rintro e w0 ⟨rfl, hb0⟩
    have K0 := Lib.hid (blk_below H.out hb0)
    go_wp2_with fail
    refine (pool_inner _ g _ _ K0.out).mono ?_
    rintro e w1 ⟨rfl, hb1'⟩
    have hb1 := hb0.trans (hb1'.mono hb0.size)
    have D1 := Lib.hid (HD.out.below hb1)
    clear hb0 hb1' K0
    go_wp2_with fail
    refine (probe_L _ p l r F0 D1.out).mono ?_
    rintro e w2 ⟨rfl, hb2⟩
    have HB2 := Lib.hid (hb1.trans (hb2.mono hb1.size))
    clear hb2
    go_wp2_with fail
    go_ret
    exact ⟨rfl, HB2.out⟩

theorem pool_Total (w : World) (g K l : Nat) (r : List Nd) (F : Nat → Prop) (h : PoolAt w g K l r F) : Calls Try.prog 25 #[.pointer (some ⟨g, 0, none⟩)] w fun e w' => e = .returned (.int .i64 (sumR r)) ∧ Below w.heap.size w w' := by
  obtain ⟨h1, h2, h3, p, F0, rfl, h4⟩ := h
  rcases h4 with ⟨rfl, h16, hh, hd⟩ | ⟨rfl, hh, hd⟩
  · have H := Lib.hid hh
    have HD := Lib.hid hd
    clear hh hd
    go_enter Try.func25, Try.ntmps25
    go_wp2_with fail
    refine (pool_isArray _ g p _ H.out).mono ?_
    rintro e w1 ⟨rfl, hb1⟩
    have k1 := blk_below H.out hb1
    have c1 := blk_cell k1
    have z1 := lt_of_block k1
    have D1 := Lib.hid (HD.out.below hb1)
    clear k1
    go_wp2_with fail
    refine (dense_Total _ p l r F0 D1.out).mono ?_
    rintro e w2 ⟨rfl, hb2⟩
    have HB2 := Lib.hid (hb1.trans (hb2.mono hb1.size))
    clear hb2
    go_wp2_with fail
    go_ret
    exact ⟨rfl, HB2.out⟩
  · have H := Lib.hid hh
    have HD := Lib.hid hd
    clear hh hd
    go_enter Try.func25, Try.ntmps25
    go_wp2_with fail
    refine (pool_isArray_no _ g _ H.out).mono ?_
    rintro e w0 ⟨rfl, hb0⟩
    have K0 := Lib.hid (blk_below H.out hb0)
    go_wp2_with fail
    refine (pool_inner _ g _ _ K0.out).mono ?_
    rintro e w1 ⟨rfl, hb1'⟩
    have hb1 := hb0.trans (hb1'.mono hb0.size)
    have D1 := Lib.hid (HD.out.below hb1)
    clear hb0 hb1' K0
    go_wp2_with fail
    refine (probe_Total _ p l r F0 D1.out).mono ?_
    rintro e w2 ⟨rfl, hb2⟩
    have HB2 := Lib.hid (hb1.trans (hb2.mono hb1.size))
    clear hb2
    go_wp2_with fail
    go_ret
    exact ⟨rfl, HB2.out⟩

theorem pool_Snap (w : World) (g K l : Nat) (r : List Nd) (F : Nat → Prop) (h : PoolAt w g K l r F) (hn : r.length ≤ 67108864) : Calls Try.prog 81 #[.pointer (some ⟨g, 0, none⟩)] w (OwnPost 59 encN r w) := by
  obtain ⟨h1, h2, h3, p, F0, rfl, h4⟩ := h
  rcases h4 with ⟨rfl, h16, hh, hd⟩ | ⟨rfl, hh, hd⟩
  · have H := Lib.hid hh
    have HD := Lib.hid hd
    clear hh hd
    go_enter Try.func81, Try.ntmps81
    go_wp2_with fail
    refine (pool_isArray _ g p _ H.out).mono ?_
    rintro e w1 ⟨rfl, hb1⟩
    have k1 := blk_below H.out hb1
    have c1 := blk_cell k1
    have z1 := lt_of_block k1
    have D1 := Lib.hid (HD.out.below hb1)
    clear k1
    go_wp2_with fail
    refine (dense_Snap _ p l r F0 D1.out h3 h16).mono ?_
    rintro e w2 ⟨v, rfl, ho, hb2⟩
    have HB2 := Lib.hid (hb1.trans (hb2.mono hb1.size))
    have HO := Lib.hid ho
    clear ho
    clear hb2
    go_wp2_with fail
    go_ret
    exact ⟨_, rfl, HO.out.base_le hb1.size, HB2.out⟩
  · have H := Lib.hid hh
    have HD := Lib.hid hd
    clear hh hd
    go_enter Try.func81, Try.ntmps81
    go_wp2_with fail
    refine (pool_isArray_no _ g _ H.out).mono ?_
    rintro e w0 ⟨rfl, hb0⟩
    have K0 := Lib.hid (blk_below H.out hb0)
    go_wp2_with fail
    refine (pool_inner _ g _ _ K0.out).mono ?_
    rintro e w1 ⟨rfl, hb1'⟩
    have hb1 := hb0.trans (hb1'.mono hb0.size)
    have D1 := Lib.hid (HD.out.below hb1)
    clear hb0 hb1' K0
    go_wp2_with fail
    refine (probe_Snap _ p l r F0 D1.out h3 hn).mono ?_
    rintro e w2 ⟨v, rfl, ho, hb2⟩
    have HB2 := Lib.hid (hb1.trans (hb2.mono hb1.size))
    have HO := Lib.hid ho
    clear ho
    clear hb2
    go_wp2_with fail
    go_ret
    exact ⟨_, rfl, HO.out.base_le hb1.size, HB2.out⟩

theorem Fits.add {l : Nat} {r : List Nd} (h : Fits l r) {k c : Int} (hk1 : 1 ≤ k) (hk2 : k < 2 * 2 ^ l) (hc : 1 ≤ c) (hsum : sumR r + c ≤ 72057594037927935) : Fits l (addR r k c) :=
  ⟨h.roll.add hk1 hc, fun x hx => by
    rcases addR_mem hx with he | hx
    · rw [he]; exact hk2
    · exact h.lt x hx, by rw [sumR_add]; exact hsum⟩
/-- What Add leaves. -/
def PAddPost (w : World) (g K l : Nat) (r : List Nd) (F : Nat → Prop) (v : Value) (e : Ending) (w' : World) : Prop := ∃ F', e = .returned v ∧ PoolAt w' g K l r F' ∧ Turn F w w' ∧ Grow w F F'
theorem dense_Add (w : World) (g l : Nat) (r : List Nd) (F : Nat → Prop) (h : DenseAt w g l r F) (hf : Fits l r) (h1 : 1 ≤ l) (h2 : l ≤ 16) (k : Nat) (hk1 : 1 ≤ k) (hk2 : k < 2 * 2 ^ l) (c : Int) (hc : 0 < c) (hsum : sumR r + c ≤ 72057594037927935) :
    Calls Try.prog 102 #[.pointer (some ⟨g, 0, none⟩), .int .i64 k, .int .i64 c] w fun e w' => e = .returned (.int .i64 0) ∧ DenseAt w' g l (addR r k c) F ∧ Turn F w w' := by
  by_cases h0 : getR r k = 0
  · exact dense_Add_new w g l r F h hf h1 h2 k hk1 hk2 c hc hsum h0
  · have := getR_nonneg hf.roll (k : Int)
    exact dense_Add_old w g l r F h hf h1 h2 k hk1 hk2 c (by omega) hsum (by omega)
theorem Grow.foot {w : World} {g : Nat} {F F' : Nat → Prop} (h : Grow w F F') : Grow w (footP g F) (footP g F') := fun b hb => by
  rcases hb with hb | hb
  · exact .inl (.inl hb)
  · rcases h b hb with hb | hb
    · exact .inl (.inr hb)
    · exact .inr hb
theorem pool_Add (w : World) (g K l : Nat) (r : List Nd) (F : Nat → Prop) (h : PoolAt w g K l r F) (k : Nat) (hk1 : 1 ≤ k) (hk2 : k < 2 * 2 ^ l) (c : Int) (hc : 0 < c) (hsum : sumR r + c ≤ 72057594037927935) (hr30 : r.length < 1073741824) :
    Calls Try.prog 94 #[.pointer (some ⟨g, 0, none⟩), .int .i64 k, .int .i64 c] w (PAddPost w g K l (addR r k c) F (.int .i64 0)) := by
  obtain ⟨h1, h2, h3, p, F0, rfl, h4⟩ := h
  have hF := h3.add (k := (k : Int)) (c := c) (by omega) (by exact_mod_cast hk2) (by omega) hsum
  rcases h4 with ⟨rfl, h16, hh, hd⟩ | ⟨rfl, hh, hd⟩
  · have hgF : ¬ F0 g := fun hg => by
      rcases hd.typed g hg with h | h
      · exact absurd (typeAt_eq h (.of hh)) (by decide)
      · exact absurd (typeAt_eq h (.of hh)) (by decide)
    have H := Lib.hid hh
    have HD := Lib.hid hd
    clear hh hd
    go_enter Try.func94, Try.ntmps94
    go_wp2_with fail
    refine (pool_isArray _ g p _ H.out).mono ?_
    rintro e w1 ⟨rfl, hb1⟩
    have k1 := blk_below H.out hb1
    have c1 := blk_cell k1
    have z1 := lt_of_block k1
    have D1 := Lib.hid (HD.out.below hb1)
    have K1 := Lib.hid k1
    clear k1
    go_wp2_with fail
    refine (dense_Add _ p l r F0 D1.out h3 h1 h16 k hk1 hk2 c hc hsum).mono ?_
    rintro e w2 ⟨rfl, hd2, hT2⟩
    have HP : Hid (PAddPost w g 1 l (addR r k c) (footP g F0) (.int .i64 0) (.returned (.int .i64 0)) w2) :=
      ⟨_, rfl, ⟨h1, h2, hF, p, F0, rfl, .inl ⟨rfl, h16, hT2.keep K1.out hgF, hd2⟩⟩, (Turn.of_below hb1).trans hT2 (fun b hb => .inl (.inr hb)), Grow.refl⟩
    clear hd2 hT2
    go_wp2_with fail
    go_ret
    exact HP.out
  · have hgF : ¬ F0 g := fun hg => by
      rcases hd.typed g hg with h | h
      · exact absurd (typeAt_eq h (.of hh)) (by decide)
      · exact absurd (typeAt_eq h (.of hh)) (by decide)
    have H := Lib.hid hh
    have HD := Lib.hid hd
    clear hh hd
    go_enter Try.func94, Try.ntmps94
    go_wp2_with fail
    refine (pool_isArray_no _ g _ H.out).mono ?_
    rintro e w0 ⟨rfl, hb0⟩
    have K0 := Lib.hid (blk_below H.out hb0)
    go_wp2_with fail
    refine (pool_inner _ g _ _ K0.out).mono ?_
    rintro e w1 ⟨rfl, hb1'⟩
    have hb1 := hb0.trans (hb1'.mono hb0.size)
    have D1 := Lib.hid (HD.out.below hb1)
    have K1 := Lib.hid (blk_below H.out hb1)
    clear hb0 hb1' K0
    go_wp2_with fail
    refine (probe_Add _ p l r F0 D1.out h3 h1 h2 k hk1 hk2 c hc hsum hr30).mono ?_
    rintro e w2 ⟨F2, rfl, hd2, hT2, hG2⟩
    have HP : Hid (PAddPost w g 2 l (addR r k c) (footP g F0) (.int .i64 0) (.returned (.int .i64 0)) w2) :=
      ⟨_, rfl, ⟨h1, h2, hF, p, F2, rfl, .inr ⟨rfl, hT2.keep K1.out hgF, hd2⟩⟩, (Turn.of_below hb1).trans hT2 (fun b hb => .inl (.inr hb)), Grow.foot fun b hb => by
        rcases hG2 b hb with h | h
        · exact .inl h
        · exact .inr (Nat.le_trans hb1.size h)⟩
    clear hd2 hT2
    go_wp2_with fail
    go_ret
    exact HP.out
/-- Is there a pool of that kind for so many bits? -/
def isPool (K l : Int) : Bool := decide ((K = 1 ∧ 1 ≤ l ∧ l ≤ 16) ∨ (K = 2 ∧ 1 ≤ l ∧ l ≤ 48))
theorem pool_New_no (w : World) (K l : Int) (h : isPool K l = false) : Calls Try.prog 69 #[.int .i64 K, .int .i64 l] w fun e w' => e = .returned (.tuple #[.pointer none, .int .i64 2]) ∧ Below w.heap.size w w' := by
  simp only [isPool, decide_eq_false_iff_not] at h
  by_cases hK1 : K = 1
  · subst hK1
    have hl : l < 1 ∨ 16 < l := by omega
    have HC := Lib.hid (dense_New_no · l hl)
    clear h hl
    go_enter Try.func69, Try.ntmps69
    go_wp2_with fail
    refine (HC.out _).mono ?_
    rintro e w1 ⟨rfl, hb1⟩
    have B1 : Below w.heap.size w w1 := Below.then_ (by repeat (first | with_reducible exact Below.refl _ _ | with_reducible assumption | ((with_reducible refine Below.setCell ?_ ?_ _); rotate_left; · (first | omega | exact Nat.le_refl _ | (simp <;> omega))) | (with_reducible refine Below.allocW ?_ _) | (with_reducible refine Below.drew ?_) | (with_reducible refine Below.extW ?_ _))) hb1
    have s1 : w.heap.size ≤ w1.heap.size := B1.size
    have z1_0 : w.heap.size < w1.heap.size := by have := hb1.size; (try simp at this); omega
    have y1_0 : w.heap.size ≤ w1.heap.size := Nat.le_of_lt z1_0
    have c1_0 := fun o => hb1.cell (p := ⟨w.heap.size, o, none⟩) (by first | omega | (simp <;> omega))
    have f1_0 := fun o => hb1.frozen (p := ⟨w.heap.size, o, none⟩) (by first | omega | (simp <;> omega))
    go_wp2_with fail
    go_ret2
    exact ⟨rfl, (by repeat (first | with_reducible exact Below.refl _ _ | with_reducible assumption | ((with_reducible refine Below.setCell ?_ ?_ _); rotate_left; · (first | omega | exact Nat.le_refl _ | (simp <;> omega))) | (with_reducible refine Below.allocW ?_ _) | (with_reducible refine Below.drew ?_) | (with_reducible refine Below.extW ?_ _)))⟩
  · by_cases hK2 : K = 2
    · subst hK2
      have hl : l < 1 ∨ 48 < l := by omega
      have HC := Lib.hid (probe_New_no · l hl)
      clear h hl
      go_enter Try.func69, Try.ntmps69
      go_wp2_with fail
      refine (HC.out _).mono ?_
      rintro e w1 ⟨rfl, hb1⟩
      have B1 : Below w.heap.size w w1 := Below.then_ (by repeat (first | with_reducible exact Below.refl _ _ | with_reducible assumption | ((with_reducible refine Below.setCell ?_ ?_ _); rotate_left; · (first | omega | exact Nat.le_refl _ | (simp <;> omega))) | (with_reducible refine Below.allocW ?_ _) | (with_reducible refine Below.drew ?_) | (with_reducible refine Below.extW ?_ _))) hb1
      have s1 : w.heap.size ≤ w1.heap.size := B1.size
      have z1_0 : w.heap.size < w1.heap.size := by have := hb1.size; (try simp at this); omega
      have y1_0 : w.heap.size ≤ w1.heap.size := Nat.le_of_lt z1_0
      have c1_0 := fun o => hb1.cell (p := ⟨w.heap.size, o, none⟩) (by first | omega | (simp <;> omega))
      have f1_0 := fun o => hb1.frozen (p := ⟨w.heap.size, o, none⟩) (by first | omega | (simp <;> omega))
      go_wp2_with fail
      go_ret2
      exact ⟨rfl, (by repeat (first | with_reducible exact Below.refl _ _ | with_reducible assumption | ((with_reducible refine Below.setCell ?_ ?_ _); rotate_left; · (first | omega | exact Nat.le_refl _ | (simp <;> omega))) | (with_reducible refine Below.allocW ?_ _) | (with_reducible refine Below.drew ?_) | (with_reducible refine Below.extW ?_ _)))⟩
    · have e1 : (K == 1) = false := by simpa using hK1
      have e2 : (K == 2) = false := by simpa using hK2
      clear h
      go_enter Try.func69, Try.ntmps69
      go_wp2_with fail
      go_ret2
      exact ⟨rfl, (by repeat (first | with_reducible exact Below.refl _ _ | with_reducible assumption | ((with_reducible refine Below.setCell ?_ ?_ _); rotate_left; · (first | omega | exact Nat.le_refl _ | (simp <;> omega))) | (with_reducible refine Below.allocW ?_ _) | (with_reducible refine Below.drew ?_) | (with_reducible refine Below.extW ?_ _)))⟩
/-- A new pool. -/
def NewPost (K l : Nat) (r : List Nd) (w : World) (e : Ending) (w' : World) : Prop := ∃ g F, e = .returned (.tuple #[.pointer (some ⟨g, 0, none⟩), .int .i64 0]) ∧ PoolAt w' g K l r F ∧ (∀ b, F b → w.heap.size ≤ b) ∧ Below w.heap.size w w'
theorem Fits.nil (l : Nat) : Fits l [] := ⟨⟨.nil, by simp⟩, by simp, by simp [sumR]⟩
theorem pool_New (w : World) (K l : Nat) (h : isPool K l = true) : Calls Try.prog 69 #[.int .i64 K, .int .i64 l] w (NewPost K l [] w) := by
  simp only [isPool, decide_eq_true_eq] at h
  rcases h with ⟨h0, h1, h2⟩ | ⟨h0, h1, h2⟩
  · obtain rfl : K = 1 := by omega
    have HC := Lib.hid (dense_New · l (by omega) (by omega))
    go_enter Try.func69, Try.ntmps69
    go_wp2_with fail
    refine (HC.out _).mono ?_
    rintro e w1 ⟨p, F0, rfl, hd, hF, hb1⟩
    have B1 : Below w.heap.size w w1 := Below.then_ (by repeat (first | with_reducible exact Below.refl _ _ | with_reducible assumption | ((with_reducible refine Below.setCell ?_ ?_ _); rotate_left; · (first | omega | exact Nat.le_refl _ | (simp <;> omega))) | (with_reducible refine Below.allocW ?_ _) | (with_reducible refine Below.drew ?_) | (with_reducible refine Below.extW ?_ _))) hb1
    have s1 : w.heap.size ≤ w1.heap.size := B1.size
    have z1_0 : w.heap.size < w1.heap.size := by have := hb1.size; (try simp at this); omega
    have y1_0 : w.heap.size ≤ w1.heap.size := Nat.le_of_lt z1_0
    have c1_0 := fun o => hb1.cell (p := ⟨w.heap.size, o, none⟩) (by first | omega | (simp <;> omega))
    have f1_0 := fun o => hb1.frozen (p := ⟨w.heap.size, o, none⟩) (by first | omega | (simp <;> omega))
    have k1 := blk_below (heap_new_at w (.cells #[.pointer none, .pointer none] 89) _ rfl) hb1
    have c1 := blk_cell k1
    have f1 := blk_frozen k1
    have HD := Lib.hid hd
    have K1 := Lib.hid k1
    simp only [World.size_alloc] at hF
    have HF := Lib.hid hF
    clear hd k1 hF c1_0 f1_0
    go_wp2_with fail
    go_ret2
    refine ⟨w.heap.size, footP w.heap.size F0, rfl, ⟨by omega, by omega, Fits.nil l, p, F0, rfl, .inl ⟨rfl, by omega, heap_set_at K1.out _, ?_⟩⟩, ?_, (by repeat (first | with_reducible exact Below.refl _ _ | with_reducible assumption | ((with_reducible refine Below.setCell ?_ ?_ _); rotate_left; · (first | omega | exact Nat.le_refl _ | (simp <;> omega))) | (with_reducible refine Below.allocW ?_ _) | (with_reducible refine Below.drew ?_) | (with_reducible refine Below.extW ?_ _)))⟩
    · exact HD.out.keep fun b hb => Below.heap_setCell _ _ _ _ (by have := HF.out b hb; simp only; omega)
    · rintro b (rfl | hb)
      · exact Nat.le_refl _
      · have := HF.out b hb; omega
  · obtain rfl : K = 2 := by omega
    have HC := Lib.hid (probe_New · l (by omega) (by omega))
    go_enter Try.func69, Try.ntmps69
    go_wp2_with fail
    refine (HC.out _).mono ?_
    rintro e w1 ⟨p, F0, rfl, hd, hF, hb1⟩
    have B1 : Below w.heap.size w w1 := Below.then_ (by repeat (first | with_reducible exact Below.refl _ _ | with_reducible assumption | ((with_reducible refine Below.setCell ?_ ?_ _); rotate_left; · (first | omega | exact Nat.le_refl _ | (simp <;> omega))) | (with_reducible refine Below.allocW ?_ _) | (with_reducible refine Below.drew ?_) | (with_reducible refine Below.extW ?_ _))) hb1
    have s1 : w.heap.size ≤ w1.heap.size := B1.size
    have z1_0 : w.heap.size < w1.heap.size := by have := hb1.size; (try simp at this); omega
    have y1_0 : w.heap.size ≤ w1.heap.size := Nat.le_of_lt z1_0
    have c1_0 := fun o => hb1.cell (p := ⟨w.heap.size, o, none⟩) (by first | omega | (simp <;> omega))
    have f1_0 := fun o => hb1.frozen (p := ⟨w.heap.size, o, none⟩) (by first | omega | (simp <;> omega))
    have k1 := blk_below (heap_new_at w (.cells #[.pointer none, .pointer none] 89) _ rfl) hb1
    have c1 := blk_cell k1
    have f1 := blk_frozen k1
    have HD := Lib.hid hd
    have K1 := Lib.hid k1
    simp only [World.size_alloc] at hF
    have HF := Lib.hid hF
    clear hd k1 hF c1_0 f1_0
    go_wp2_with fail
    go_ret2
    refine ⟨w.heap.size, footP w.heap.size F0, rfl, ⟨by omega, by omega, Fits.nil l, p, F0, rfl, .inr ⟨rfl, heap_set_at K1.out _, ?_⟩⟩, ?_, (by repeat (first | with_reducible exact Below.refl _ _ | with_reducible assumption | ((with_reducible refine Below.setCell ?_ ?_ _); rotate_left; · (first | omega | exact Nat.le_refl _ | (simp <;> omega))) | (with_reducible refine Below.allocW ?_ _) | (with_reducible refine Below.drew ?_) | (with_reducible refine Below.extW ?_ _)))⟩
    · exact HD.out.keep fun b hb => Below.heap_setCell _ _ _ _ (by have := HF.out b hb; simp only; omega)
    · rintro b (rfl | hb)
      · exact Nat.le_refl _
      · have := HF.out b hb; omega

/-- A roll may be put onto another one: numbers ahead of it, and not too much. -/
def rollOf (l : List Nd) : List Nd := l.foldl (fun r x => addR r x.1 x.2) []
theorem addR_last {r : List Nd} {id c : Int} (h : ∀ x ∈ r, x.1 < id) : addR r id c = r ++ [(id, c)] := by
  induction r with
  | nil => rfl
  | cons x r ih =>
    have hx := h x (by simp)
    simp only [addR]
    rw [if_neg (by omega), if_neg (by omega), ih fun y hy => h y (by simp [hy])]
    rfl
theorem sumR_append (a b : List Nd) : sumR (a ++ b) = sumR a + sumR b := by
  induction a with
  | nil => simp [sumR]
  | cons x a ih => simp only [List.cons_append, sumR, ih]; omega
theorem Roll.take {r : List Nd} (h : Roll r) (k : Nat) : Roll (r.take k) := ⟨h.1.sublist (List.take_sublist k r), fun x hx => h.2 x (List.mem_of_mem_take hx)⟩
theorem addR_take {r : List Nd} (h : Roll r) {k : Nat} (hk : k < r.length) : addR (r.take k) r[k].1 r[k].2 = r.take (k + 1) := by
  rw [List.take_succ_eq_append_getElem hk, addR_last]
  intro x hx
  obtain ⟨i, hi, rfl⟩ := List.mem_take_iff_getElem.1 hx
  exact List.pairwise_iff_getElem.1 h.1 i k (by omega) hk (by omega)
theorem sumR_take_succ {r : List Nd} {k : Nat} (hk : k < r.length) : sumR (r.take (k + 1)) = sumR (r.take k) + r[k].2 := by
  rw [List.take_succ_eq_append_getElem hk, sumR_append]; simp [sumR]
theorem sumR_take_le {r : List Nd} (h : Roll r) (k : Nat) : sumR (r.take k) ≤ sumR r := by
  have h1 : sumR r = sumR (r.take k) + sumR (r.drop k) := by rw [← sumR_append, List.take_append_drop]
  have h2 : Roll (r.drop k) := ⟨h.1.sublist (List.drop_sublist k r), fun x hx => h.2 x (List.mem_of_mem_drop hx)⟩
  have := sumR_nonneg h2
  omega
/-- What put leaves. -/
def PutPost (w : World) (g K l : Nat) (r : List Nd) (F : Nat → Prop) (e : Ending) (w' : World) : Prop := ∃ F', e = .returned (.tuple #[]) ∧ PoolAt w' g K l r F' ∧ Turn F w w' ∧ Grow w F F'
set_option maxRecDepth 100000 in
theorem pool_put (w : World) (g K l : Nat) (F : Nat → Prop) (A : Option Addr) (cap : Nat) (r : List Nd) (h : PoolAt w g K l [] F) (hf : Fits l r) (hS : Sl w w.heap.size encN A r) (hFA : ∀ b o, A = some ⟨b, o, none⟩ → r ≠ [] → ¬ F b) (hn : r.length < 67108864) :
    Calls Try.prog 71 #[.pointer (some ⟨g, 0, none⟩), .slice A r.length cap] w (PutPost w g K l r F) := by
  have HP := Lib.hid h
  have HS := Lib.hid hS
  have HA := Lib.hid hFA
  clear h hS hFA
  go_enter Try.func71, Try.ntmps71
  go_wp2_with fail
  go_loopw [8] (fun i wr => ∃ (k : Nat) (F' : Nat → Prop), k ≤ r.length ∧ i = .int .i64 k ∧ PoolAt wr g K l (r.take k) F' ∧ Turn F w wr ∧ Grow w F F') (fun i _ => r.length - (intOf i).toNat)
  case atStart => exact ⟨0, F, Nat.zero_le _, rfl, HP.out, Turn.refl _ _, Grow.refl⟩
  case round =>
    obtain ⟨k, F', hk, rfl, hP, hT, hG⟩ := hrel
    have HK := Lib.hid hP
    have HT := Lib.hid hT
    have HG := Lib.hid hG
    have hs := hT.size
    clear hP hT hG
    by_cases hlt : k < r.length
    · obtain ⟨b, off, rfl, hb, hc⟩ := HS.out.at_ hlt
      have nF := HA.out b off rfl (fun h => by rw [h] at hlt; simp at hlt)
      have d0 := (HT.out.cell (o := off + k * 2 + 0) hb nF).trans (hc 0 (.int .i64 r[k].1) rfl)
      have d1 := (HT.out.cell (o := off + k * 2 + 1) hb nF).trans (hc 1 (.int .i64 r[k].2) rfl)
      simp only [Nat.add_zero] at d0
      have hx := hf.roll.2 _ (List.getElem_mem hlt)
      have hxl := hf.lt _ (List.getElem_mem hlt)
      have e1 := sumR_take_succ hlt
      have e2 := sumR_take_le hf.roll (k + 1)
      have e3 := hf.sum
      have e4 := addR_take hf.roll hlt
      obtain ⟨x, hxe⟩ : ∃ x, x = r[k] := ⟨_, rfl⟩
      rw [← hxe] at d0 d1 hx hxl e1 e4
      obtain ⟨n, hn1⟩ := Int.eq_ofNat_of_zero_le (show 0 ≤ x.1 by omega)
      have hlen : (r.take k).length ≤ r.length := List.length_take_le' _ _
      rw [hn1] at d0 hx hxl e4
      have HC : Hid (∀ W, PoolAt W g K l (r.take k) F' → Calls Try.prog 94 #[.pointer (some ⟨g, 0, none⟩), .int .i64 (n : Nat), .int .i64 x.2] W (PAddPost W g K l (r.take (k + 1)) F' (.int .i64 0))) := Lib.hid fun W hW => by
        have := pool_Add W g K l (r.take k) F' hW n (by omega) (by exact_mod_cast hxl) x.2 (by omega) (by omega) (by omega)
        rwa [e4] at this
      clear hc e1 e2 e3 e4 hxe hn1
      go_wp2_with fail
      refine (HC.out _ (HK.out.below ((Below.refl _ _).alloc (Nat.le_refl _) _))).mono ?_
      rintro e w2 ⟨F2, rfl, hP2, hT2, hG2⟩
      have KP2 := Lib.hid hP2
      have HT2 : Hid (Turn F w w2) := Lib.hid ((HT.out.alloc (.cells #[.int .i64 (n : Nat), .int .i64 x.2] 59)).trans hT2 HG.out)
      have HG2 : Hid (Grow w F F2) := Lib.hid (HG.out.trans hG2 (Nat.le_trans hs (by simp)))
      clear hP2 hT2 hG2
      go_wp2_with fail
      go_roundw
      case rel => exact ⟨k + 1, F2, by omega, by go_num, KP2.out, HT2.out, HG2.out⟩
      case measure => simp [intOf]; omega
    · obtain rfl : k = r.length := by omega
      rw [List.take_length] at HK
      go_wp2_with fail
      go_end0
      exact ⟨F', rfl, HK.out, HT.out, HG.out⟩
end Go.Proofs.Ytalnhdfgjjhhbaa
