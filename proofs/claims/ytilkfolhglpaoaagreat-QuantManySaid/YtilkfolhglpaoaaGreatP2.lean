/-
  Texts of this proof, one behind the other: Pool, Pool2, Each, Light, Tail, Digest, Rank, TabLaw, QuantLaw, SortK, Made, Quant, RegionN.
-/
import Derived.RangeFuncNested
import Derived.RangeFuncBound
import Derived.RangeFuncCalls
import Derived.RangeFuncLeaves
import Derived.RangeFuncWrites
import Derived.Shelf.Abstract
import Derived.Shelf.RegionOpen
import Derived.OwnWalkIn
import Derived.TacticsInMore
import Derived.LoopNIn
import Derived.LoopIn
import Derived.StillTail
import Derived.Shelf.SlSortCmp.NoneTotal
import Derived.Test.YtilkfolhglpaoaaGreatLaid
import Derived.Deep.RegionHeld3
import Derived.Deep.RegionLaw
import Derived.Test.YtilkfolhglpaoaaGreatP1
/- Package pool: a store of either kind. -/
set_option linter.unusedSimpArgs false namespace Go.Proofs.YtilkfolhglpaoaaGreat
open Go.ChangeShapes Go.WideShapes Go.ChangeAt Go.RowKit
set_option linter.unusedVariables false

def footP (g : Nat) (F0 : Nat → Prop) : Nat → Prop := fun b => b = g ∨ F0 b
/-- The pool in block g, of kind K, with the roll r; F: its blocks. -/
def PoolAt (w : World) (g K l : Nat) (r : List Nd) (F : Nat → Prop) : Prop :=
  1 ≤ l ∧ l ≤ 48 ∧ Fits l r ∧ ∃ h F0, F = footP g F0 ∧ ((K = 1 ∧ l ≤ 16 ∧ w.heap[g]? = some (.cells #[.pointer (some ⟨h, 0, none⟩), .pointer none] 209 (0, 0)) ∧ DenseAt w h l r F0) ∨
    (K = 2 ∧ w.heap[g]? = some (.cells #[.pointer none, .pointer (some ⟨h, 0, none⟩)] 209 (0, 0)) ∧ ProbeAt w h l r F0))
theorem PoolAt.keep {w w' : World} {g K l : Nat} {r : List Nd} {F : Nat → Prop} (h : PoolAt w g K l r F) (hk : ∀ b, F b → w'.heap[b]? = w.heap[b]?) : PoolAt w' g K l r F := by
  obtain ⟨h1, h2, h3, p, F0, rfl, h4⟩ := h
  refine ⟨h1, h2, h3, p, F0, rfl, ?_⟩
  rcases h4 with ⟨a, b, c, d⟩ | ⟨a, c, d⟩
  · exact .inl ⟨a, b, (hk g (.inl rfl)).trans c, d.keep fun q hq => hk q (.inr hq)⟩
  · exact .inr ⟨a, (hk g (.inl rfl)).trans c, d.keep fun q hq => hk q (.inr hq)⟩
theorem PoolAt.lt {w : World} {g K l : Nat} {r : List Nd} {F : Nat → Prop} (h : PoolAt w g K l r F) : ∀ b, F b → b < w.heap.size := by
  obtain ⟨h1, h2, h3, p, F0, rfl, h4⟩ := h
  rintro q (rfl | hq)
  · rcases h4 with ⟨a, b, c, d⟩ | ⟨a, c, d⟩
    · exact lt_of_block c
    · exact lt_of_block c
  · rcases h4 with ⟨a, b, c, d⟩ | ⟨a, c, d⟩
    · exact d.lt q hq
    · exact d.lt q hq
theorem PoolAt.below {w w' : World} {g K l : Nat} {r : List Nd} {F : Nat → Prop} (h : PoolAt w g K l r F) (hb : Below w.heap.size w w') : PoolAt w' g K l r F := h.keep fun b hf => hb.block b (h.lt b hf)
theorem PoolAt.fits {w : World} {g K l : Nat} {r : List Nd} {F : Nat → Prop} (h : PoolAt w g K l r F) : Fits l r := h.2.2.1
/-- Which types the footprint's blocks are of. -/
def PoolTypes (t : TypeId) : Prop := t = 209 ∨ t = 246 ∨ t = 3 ∨ t = 248 ∨ t = 102
theorem PoolAt.typed {w : World} {g K l : Nat} {r : List Nd} {F : Nat → Prop} (h : PoolAt w g K l r F) : ∀ b, F b → ∃ t, PoolTypes t ∧ TypeAt w b t := by
  obtain ⟨h1, h2, h3, p, F0, rfl, h4⟩ := h
  rintro q (rfl | hq)
  · rcases h4 with ⟨a, b, c, d⟩ | ⟨a, c, d⟩
    · exact ⟨_, .inl rfl, .of c⟩
    · exact ⟨_, .inl rfl, .of c⟩
  · rcases h4 with ⟨a, b, c, d⟩ | ⟨a, c, d⟩
    · rcases d.typed q hq with h | h
      · exact ⟨_, .inr (.inl rfl), h⟩
      · exact ⟨_, .inr (.inr (.inl rfl)), h⟩
    · rcases d.typed q hq with h | h
      · exact ⟨_, .inr (.inr (.inr (.inl rfl))), h⟩
      · exact ⟨_, .inr (.inr (.inr (.inr rfl))), h⟩
theorem typeAt_eq {w : World} {b t t' : Nat} (h : TypeAt w b t) (h' : TypeAt w b t') : t = t' := by
  obtain ⟨_, _, h⟩ := h
  obtain ⟨_, _, h'⟩ := h'
  rw [h] at h'
  cases h'
  rfl

theorem pool_isArray (w : World) (g h : Nat) (q0 : Value) (hh : w.heap[g]? = some (.cells #[.pointer (some ⟨h, 0, none⟩), q0] 209 (0, 0))) : Calls Tryz.prog 155 #[.pointer (some ⟨g, 0, none⟩)] w fun e w' => e = .returned (.bool true) ∧ Below w.heap.size w w' := by
  have c := blk_cell hh
  have z := lt_of_block hh
  clear hh
  go_enter Tryz.func155, Tryz.ntmps155
  go_wp2_with fail
  go_ret
  exact ⟨rfl, (by repeat (first | with_reducible exact Below.refl _ _ | with_reducible assumption | ((with_reducible refine Below.setCell ?_ ?_ _); rotate_left; · (first | omega | exact Nat.le_refl _ | (simp <;> omega))) | (with_reducible refine Below.allocW ?_ _) | (with_reducible refine Below.drew ?_) | (with_reducible refine Below.extW ?_ _)))⟩
theorem pool_isArray_no (w : World) (g : Nat) (q0 : Value) (hh : w.heap[g]? = some (.cells #[.pointer none, q0] 209 (0, 0))) : Calls Tryz.prog 155 #[.pointer (some ⟨g, 0, none⟩)] w fun e w' => e = .returned (.bool false) ∧ Below w.heap.size w w' := by
  have c := blk_cell hh
  have z := lt_of_block hh
  clear hh
  go_enter Tryz.func155, Tryz.ntmps155
  go_wp2_with fail
  go_ret
  exact ⟨rfl, (by repeat (first | with_reducible exact Below.refl _ _ | with_reducible assumption | ((with_reducible refine Below.setCell ?_ ?_ _); rotate_left; · (first | omega | exact Nat.le_refl _ | (simp <;> omega))) | (with_reducible refine Below.allocW ?_ _) | (with_reducible refine Below.drew ?_) | (with_reducible refine Below.extW ?_ _)))⟩
theorem pool_inner (w : World) (g : Nat) (p : Option Addr) (q0 : Value) (hh : w.heap[g]? = some (.cells #[q0, .pointer p] 209 (0, 0))) : Calls Tryz.prog 157 #[.pointer (some ⟨g, 0, none⟩)] w fun e w' => e = .returned (.pointer p) ∧ Below w.heap.size w w' := by
  have c := blk_cell hh
  have z := lt_of_block hh
  clear hh
  go_enter Tryz.func157, Tryz.ntmps157
  go_wp2_with fail
  go_ret
  exact ⟨rfl, (by repeat (first | with_reducible exact Below.refl _ _ | with_reducible assumption | ((with_reducible refine Below.setCell ?_ ?_ _); rotate_left; · (first | omega | exact Nat.le_refl _ | (simp <;> omega))) | (with_reducible refine Below.allocW ?_ _) | (with_reducible refine Below.drew ?_) | (with_reducible refine Below.extW ?_ _)))⟩

theorem pool_L (w : World) (g K l : Nat) (r : List Nd) (F : Nat → Prop) (h : PoolAt w g K l r F) : Calls Tryz.prog 132 #[.pointer (some ⟨g, 0, none⟩)] w fun e w' => e = .returned (.int .i64 l) ∧ Below w.heap.size w w' := by
  obtain ⟨h1, h2, h3, p, F0, rfl, h4⟩ := h
  rcases h4 with ⟨rfl, h16, hh, hd⟩ | ⟨rfl, hh, hd⟩
  · have H := Lib.hid hh
    have HD := Lib.hid hd
    clear hh hd
    go_enter Tryz.func132, Tryz.ntmps132
    go_wp2_with fail
    refine (pool_isArray _ g p _ H.out).mono ?_
    rintro e w1 ⟨rfl, hb1⟩
    have k1 := blk_below H.out hb1
    have c1 := blk_cell k1
    have z1 := lt_of_block k1
    have D1 := Lib.hid (HD.out.below hb1)
    clear k1
    go_wp2_with fail
    refine (dense_L _ p l r F0 D1.out).mono ?_
    rintro e w2 ⟨rfl, hb2⟩
    have HB2 := Lib.hid (hb1.trans (hb2.mono hb1.size))
    clear hb2
    go_wp2_with fail
    go_ret
    exact ⟨rfl, HB2.out⟩
  · have H := Lib.hid hh
    have HD := Lib.hid hd
    clear hh hd
    go_enter Tryz.func132, Tryz.ntmps132
    go_wp2_with fail
    refine (pool_isArray_no _ g _ H.out).mono ?_
    rintro e w0 ⟨rfl, hb0⟩
    have K0 := Lib.hid (blk_below H.out hb0)
    go_wp2_with fail
    refine (pool_inner _ g _ _ K0.out).mono ?_
    rintro e w1 ⟨rfl, hb1'⟩
    have hb1 := hb0.trans (hb1'.mono hb0.size)
    have D1 := Lib.hid (HD.out.below hb1)
    clear hb0 hb1' K0
    go_wp2_with fail
    refine (probe_L _ p l r F0 D1.out).mono ?_
    rintro e w2 ⟨rfl, hb2⟩
    have HB2 := Lib.hid (hb1.trans (hb2.mono hb1.size))
    clear hb2
    go_wp2_with fail
    go_ret
    exact ⟨rfl, HB2.out⟩

theorem pool_Total (w : World) (g K l : Nat) (r : List Nd) (F : Nat → Prop) (h : PoolAt w g K l r F) : Calls Tryz.prog 80 #[.pointer (some ⟨g, 0, none⟩)] w fun e w' => e = .returned (.int .i64 (sumR r)) ∧ Below w.heap.size w w' := by
  obtain ⟨h1, h2, h3, p, F0, rfl, h4⟩ := h
  rcases h4 with ⟨rfl, h16, hh, hd⟩ | ⟨rfl, hh, hd⟩
  · have H := Lib.hid hh
    have HD := Lib.hid hd
    clear hh hd
    go_enter Tryz.func80, Tryz.ntmps80
    go_wp2_with fail
    refine (pool_isArray _ g p _ H.out).mono ?_
    rintro e w1 ⟨rfl, hb1⟩
    have k1 := blk_below H.out hb1
    have c1 := blk_cell k1
    have z1 := lt_of_block k1
    have D1 := Lib.hid (HD.out.below hb1)
    clear k1
    go_wp2_with fail
    refine (dense_Total _ p l r F0 D1.out).mono ?_
    rintro e w2 ⟨rfl, hb2⟩
    have HB2 := Lib.hid (hb1.trans (hb2.mono hb1.size))
    clear hb2
    go_wp2_with fail
    go_ret
    exact ⟨rfl, HB2.out⟩
  · have H := Lib.hid hh
    have HD := Lib.hid hd
    clear hh hd
    go_enter Tryz.func80, Tryz.ntmps80
    go_wp2_with fail
    refine (pool_isArray_no _ g _ H.out).mono ?_
    rintro e w0 ⟨rfl, hb0⟩
    have K0 := Lib.hid (blk_below H.out hb0)
    go_wp2_with fail
    refine (pool_inner _ g _ _ K0.out).mono ?_
    rintro e w1 ⟨rfl, hb1'⟩
    have hb1 := hb0.trans (hb1'.mono hb0.size)
    have D1 := Lib.hid (HD.out.below hb1)
    clear hb0 hb1' K0
    go_wp2_with fail
    refine (probe_Total _ p l r F0 D1.out).mono ?_
    rintro e w2 ⟨rfl, hb2⟩
    have HB2 := Lib.hid (hb1.trans (hb2.mono hb1.size))
    clear hb2
    go_wp2_with fail
    go_ret
    exact ⟨rfl, HB2.out⟩

theorem pool_Snap (w : World) (g K l : Nat) (r : List Nd) (F : Nat → Prop) (h : PoolAt w g K l r F) (hn : r.length ≤ 67108864) : Calls Tryz.prog 204 #[.pointer (some ⟨g, 0, none⟩)] w (OwnPost 102 encN r w) := by
  obtain ⟨h1, h2, h3, p, F0, rfl, h4⟩ := h
  rcases h4 with ⟨rfl, h16, hh, hd⟩ | ⟨rfl, hh, hd⟩
  · have H := Lib.hid hh
    have HD := Lib.hid hd
    clear hh hd
    go_enter Tryz.func204, Tryz.ntmps204
    go_wp2_with fail
    refine (pool_isArray _ g p _ H.out).mono ?_
    rintro e w1 ⟨rfl, hb1⟩
    have k1 := blk_below H.out hb1
    have c1 := blk_cell k1
    have z1 := lt_of_block k1
    have D1 := Lib.hid (HD.out.below hb1)
    clear k1
    go_wp2_with fail
    refine (dense_Snap _ p l r F0 D1.out h3 h16).mono ?_
    rintro e w2 ⟨v, rfl, ho, hb2⟩
    have HB2 := Lib.hid (hb1.trans (hb2.mono hb1.size))
    have HO := Lib.hid ho
    clear ho
    clear hb2
    go_wp2_with fail
    go_ret
    exact ⟨_, rfl, HO.out.base_le hb1.size, HB2.out⟩
  · have H := Lib.hid hh
    have HD := Lib.hid hd
    clear hh hd
    go_enter Tryz.func204, Tryz.ntmps204
    go_wp2_with fail
    refine (pool_isArray_no _ g _ H.out).mono ?_
    rintro e w0 ⟨rfl, hb0⟩
    have K0 := Lib.hid (blk_below H.out hb0)
    go_wp2_with fail
    refine (pool_inner _ g _ _ K0.out).mono ?_
    rintro e w1 ⟨rfl, hb1'⟩
    have hb1 := hb0.trans (hb1'.mono hb0.size)
    have D1 := Lib.hid (HD.out.below hb1)
    clear hb0 hb1' K0
    go_wp2_with fail
    refine (probe_Snap _ p l r F0 D1.out h3 hn).mono ?_
    rintro e w2 ⟨v, rfl, ho, hb2⟩
    have HB2 := Lib.hid (hb1.trans (hb2.mono hb1.size))
    have HO := Lib.hid ho
    clear ho
    clear hb2
    go_wp2_with fail
    go_ret
    exact ⟨_, rfl, HO.out.base_le hb1.size, HB2.out⟩

theorem Fits.add {l : Nat} {r : List Nd} (h : Fits l r) {k c : Int} (hk1 : 1 ≤ k) (hk2 : k < 2 * 2 ^ l) (hc : 1 ≤ c) (hsum : sumR r + c ≤ 72057594037927935) : Fits l (addR r k c) :=
  ⟨h.roll.add hk1 hc, fun x hx => by
    rcases addR_mem hx with he | hx
    · rw [he]; exact hk2
    · exact h.lt x hx, by rw [sumR_add]; exact hsum⟩
/-- What Add leaves. -/
def PAddPost (w : World) (g K l : Nat) (r : List Nd) (F : Nat → Prop) (v : Value) (e : Ending) (w' : World) : Prop := ∃ F', e = .returned v ∧ PoolAt w' g K l r F' ∧ Turn F w w' ∧ Grow w F F'
theorem dense_Add (w : World) (g l : Nat) (r : List Nd) (F : Nat → Prop) (h : DenseAt w g l r F) (hf : Fits l r) (h1 : 1 ≤ l) (h2 : l ≤ 16) (k : Nat) (hk1 : 1 ≤ k) (hk2 : k < 2 * 2 ^ l) (c : Int) (hc : 0 < c) (hsum : sumR r + c ≤ 72057594037927935) :
    Calls Tryz.prog 251 #[.pointer (some ⟨g, 0, none⟩), .int .i64 k, .int .i64 c] w fun e w' => e = .returned (.int .i64 0) ∧ DenseAt w' g l (addR r k c) F ∧ Turn F w w' := by
  by_cases h0 : getR r k = 0
  · exact dense_Add_new w g l r F h hf h1 h2 k hk1 hk2 c hc hsum h0
  · have := getR_nonneg hf.roll (k : Int)
    exact dense_Add_old w g l r F h hf h1 h2 k hk1 hk2 c (by omega) hsum (by omega)
theorem Grow.foot {w : World} {g : Nat} {F F' : Nat → Prop} (h : Grow w F F') : Grow w (footP g F) (footP g F') := fun b hb => by
  rcases hb with hb | hb
  · exact .inl (.inl hb)
  · rcases h b hb with hb | hb
    · exact .inl (.inr hb)
    · exact .inr hb
theorem pool_Add (w : World) (g K l : Nat) (r : List Nd) (F : Nat → Prop) (h : PoolAt w g K l r F) (k : Nat) (hk1 : 1 ≤ k) (hk2 : k < 2 * 2 ^ l) (c : Int) (hc : 0 < c) (hsum : sumR r + c ≤ 72057594037927935) (hr30 : r.length < 1073741824) :
    Calls Tryz.prog 228 #[.pointer (some ⟨g, 0, none⟩), .int .i64 k, .int .i64 c] w (PAddPost w g K l (addR r k c) F (.int .i64 0)) := by
  obtain ⟨h1, h2, h3, p, F0, rfl, h4⟩ := h
  have hF := h3.add (k := (k : Int)) (c := c) (by omega) (by exact_mod_cast hk2) (by omega) hsum
  rcases h4 with ⟨rfl, h16, hh, hd⟩ | ⟨rfl, hh, hd⟩
  · have hgF : ¬ F0 g := fun hg => by
      rcases hd.typed g hg with h | h
      · exact absurd (typeAt_eq h (.of hh)) (by decide)
      · exact absurd (typeAt_eq h (.of hh)) (by decide)
    have H := Lib.hid hh
    have HD := Lib.hid hd
    clear hh hd
    go_enter Tryz.func228, Tryz.ntmps228
    go_wp2_with fail
    refine (pool_isArray _ g p _ H.out).mono ?_
    rintro e w1 ⟨rfl, hb1⟩
    have k1 := blk_below H.out hb1
    have c1 := blk_cell k1
    have z1 := lt_of_block k1
    have D1 := Lib.hid (HD.out.below hb1)
    have K1 := Lib.hid k1
    clear k1
    go_wp2_with fail
    refine (dense_Add _ p l r F0 D1.out h3 h1 h16 k hk1 hk2 c hc hsum).mono ?_
    rintro e w2 ⟨rfl, hd2, hT2⟩
    have HP : Hid (PAddPost w g 1 l (addR r k c) (footP g F0) (.int .i64 0) (.returned (.int .i64 0)) w2) :=
      ⟨_, rfl, ⟨h1, h2, hF, p, F0, rfl, .inl ⟨rfl, h16, hT2.keep K1.out hgF, hd2⟩⟩, (Turn.of_below hb1).trans hT2 (fun b hb => .inl (.inr hb)), Grow.refl⟩
    clear hd2 hT2
    go_wp2_with fail
    go_ret
    exact HP.out
  · have hgF : ¬ F0 g := fun hg => by
      rcases hd.typed g hg with h | h
      · exact absurd (typeAt_eq h (.of hh)) (by decide)
      · exact absurd (typeAt_eq h (.of hh)) (by decide)
    have H := Lib.hid hh
    have HD := Lib.hid hd
    clear hh hd
    go_enter Tryz.func228, Tryz.ntmps228
    go_wp2_with fail
    refine (pool_isArray_no _ g _ H.out).mono ?_
    rintro e w0 ⟨rfl, hb0⟩
    have K0 := Lib.hid (blk_below H.out hb0)
    go_wp2_with fail
    refine (pool_inner _ g _ _ K0.out).mono ?_
    rintro e w1 ⟨rfl, hb1'⟩
    have hb1 := hb0.trans (hb1'.mono hb0.size)
    have D1 := Lib.hid (HD.out.below hb1)
    have K1 := Lib.hid (blk_below H.out hb1)
    clear hb0 hb1' K0
    go_wp2_with fail
    refine (probe_Add _ p l r F0 D1.out h3 h1 h2 k hk1 hk2 c hc hsum hr30).mono ?_
    rintro e w2 ⟨F2, rfl, hd2, hT2, hG2⟩
    have HP : Hid (PAddPost w g 2 l (addR r k c) (footP g F0) (.int .i64 0) (.returned (.int .i64 0)) w2) :=
      ⟨_, rfl, ⟨h1, h2, hF, p, F2, rfl, .inr ⟨rfl, hT2.keep K1.out hgF, hd2⟩⟩, (Turn.of_below hb1).trans hT2 (fun b hb => .inl (.inr hb)), Grow.foot fun b hb => by
        rcases hG2 b hb with h | h
        · exact .inl h
        · exact .inr (Nat.le_trans hb1.size h)⟩
    clear hd2 hT2
    go_wp2_with fail
    go_ret
    exact HP.out
/-- Is there a pool of that kind for so many bits? -/
def isPool (K l : Int) : Bool := decide ((K = 1 ∧ 1 ≤ l ∧ l ≤ 16) ∨ (K = 2 ∧ 1 ≤ l ∧ l ≤ 48))
theorem pool_New_no (w : World) (K l : Int) (h : isPool K l = false) : Calls Tryz.prog 188 #[.int .i64 K, .int .i64 l] w fun e w' => e = .returned (.tuple #[.pointer none, .int .i64 2]) ∧ Below w.heap.size w w' := by
  simp only [isPool, decide_eq_false_iff_not] at h
  by_cases hK1 : K = 1
  · subst hK1
    have hl : l < 1 ∨ 16 < l := by omega
    have HC := Lib.hid (dense_New_no · l hl)
    clear h hl
    go_enter Tryz.func188, Tryz.ntmps188
    go_wp2_with fail
    refine (HC.out _).mono ?_
    rintro e w1 ⟨rfl, hb1⟩
    have B1 : Below w.heap.size w w1 := Below.then_ (by repeat (first | with_reducible exact Below.refl _ _ | with_reducible assumption | ((with_reducible refine Below.setCell ?_ ?_ _); rotate_left; · (first | omega | exact Nat.le_refl _ | (simp <;> omega))) | (with_reducible refine Below.allocW ?_ _) | (with_reducible refine Below.drew ?_) | (with_reducible refine Below.extW ?_ _))) hb1
    have s1 : w.heap.size ≤ w1.heap.size := B1.size
    have z1_0 : w.heap.size < w1.heap.size := by have := hb1.size; (try simp at this); omega
    have y1_0 : w.heap.size ≤ w1.heap.size := Nat.le_of_lt z1_0
    have c1_0 := fun o => hb1.cell (p := ⟨w.heap.size, o, none⟩) (by first | omega | (simp <;> omega))
    have f1_0 := fun o => hb1.frozen (p := ⟨w.heap.size, o, none⟩) (by first | omega | (simp <;> omega))
    go_wp2_with fail
    go_ret2
    exact ⟨rfl, (by repeat (first | with_reducible exact Below.refl _ _ | with_reducible assumption | ((with_reducible refine Below.setCell ?_ ?_ _); rotate_left; · (first | omega | exact Nat.le_refl _ | (simp <;> omega))) | (with_reducible refine Below.allocW ?_ _) | (with_reducible refine Below.drew ?_) | (with_reducible refine Below.extW ?_ _)))⟩
  · by_cases hK2 : K = 2
    · subst hK2
      have hl : l < 1 ∨ 48 < l := by omega
      have HC := Lib.hid (probe_New_no · l hl)
      clear h hl
      go_enter Tryz.func188, Tryz.ntmps188
      go_wp2_with fail
      refine (HC.out _).mono ?_
      rintro e w1 ⟨rfl, hb1⟩
      have B1 : Below w.heap.size w w1 := Below.then_ (by repeat (first | with_reducible exact Below.refl _ _ | with_reducible assumption | ((with_reducible refine Below.setCell ?_ ?_ _); rotate_left; · (first | omega | exact Nat.le_refl _ | (simp <;> omega))) | (with_reducible refine Below.allocW ?_ _) | (with_reducible refine Below.drew ?_) | (with_reducible refine Below.extW ?_ _))) hb1
      have s1 : w.heap.size ≤ w1.heap.size := B1.size
      have z1_0 : w.heap.size < w1.heap.size := by have := hb1.size; (try simp at this); omega
      have y1_0 : w.heap.size ≤ w1.heap.size := Nat.le_of_lt z1_0
      have c1_0 := fun o => hb1.cell (p := ⟨w.heap.size, o, none⟩) (by first | omega | (simp <;> omega))
      have f1_0 := fun o => hb1.frozen (p := ⟨w.heap.size, o, none⟩) (by first | omega | (simp <;> omega))
      go_wp2_with fail
      go_ret2
      exact ⟨rfl, (by repeat (first | with_reducible exact Below.refl _ _ | with_reducible assumption | ((with_reducible refine Below.setCell ?_ ?_ _); rotate_left; · (first | omega | exact Nat.le_refl _ | (simp <;> omega))) | (with_reducible refine Below.allocW ?_ _) | (with_reducible refine Below.drew ?_) | (with_reducible refine Below.extW ?_ _)))⟩
    · have e1 : (K == 1) = false := by simpa using hK1
      have e2 : (K == 2) = false := by simpa using hK2
      clear h
      go_enter Tryz.func188, Tryz.ntmps188
      go_wp2_with fail
      go_ret2
      exact ⟨rfl, (by repeat (first | with_reducible exact Below.refl _ _ | with_reducible assumption | ((with_reducible refine Below.setCell ?_ ?_ _); rotate_left; · (first | omega | exact Nat.le_refl _ | (simp <;> omega))) | (with_reducible refine Below.allocW ?_ _) | (with_reducible refine Below.drew ?_) | (with_reducible refine Below.extW ?_ _)))⟩
/-- A new pool. -/
def NewPost (K l : Nat) (r : List Nd) (w : World) (e : Ending) (w' : World) : Prop := ∃ g F, e = .returned (.tuple #[.pointer (some ⟨g, 0, none⟩), .int .i64 0]) ∧ PoolAt w' g K l r F ∧ (∀ b, F b → w.heap.size ≤ b) ∧ Below w.heap.size w w'
theorem Fits.nil (l : Nat) : Fits l [] := ⟨⟨.nil, by simp⟩, by simp, by simp [sumR]⟩
theorem pool_New (w : World) (K l : Nat) (h : isPool K l = true) : Calls Tryz.prog 188 #[.int .i64 K, .int .i64 l] w (NewPost K l [] w) := by
  simp only [isPool, decide_eq_true_eq] at h
  rcases h with ⟨h0, h1, h2⟩ | ⟨h0, h1, h2⟩
  · obtain rfl : K = 1 := by omega
    have HC := Lib.hid (dense_New · l (by omega) (by omega))
    go_enter Tryz.func188, Tryz.ntmps188
    go_wp2_with fail
    refine (HC.out _).mono ?_
    rintro e w1 ⟨p, F0, rfl, hd, hF, hb1⟩
    have B1 : Below w.heap.size w w1 := Below.then_ (by repeat (first | with_reducible exact Below.refl _ _ | with_reducible assumption | ((with_reducible refine Below.setCell ?_ ?_ _); rotate_left; · (first | omega | exact Nat.le_refl _ | (simp <;> omega))) | (with_reducible refine Below.allocW ?_ _) | (with_reducible refine Below.drew ?_) | (with_reducible refine Below.extW ?_ _))) hb1
    have s1 : w.heap.size ≤ w1.heap.size := B1.size
    have z1_0 : w.heap.size < w1.heap.size := by have := hb1.size; (try simp at this); omega
    have y1_0 : w.heap.size ≤ w1.heap.size := Nat.le_of_lt z1_0
    have c1_0 := fun o => hb1.cell (p := ⟨w.heap.size, o, none⟩) (by first | omega | (simp <;> omega))
    have f1_0 := fun o => hb1.frozen (p := ⟨w.heap.size, o, none⟩) (by first | omega | (simp <;> omega))
    have k1 := blk_below (heap_new_at w (.cells #[.pointer none, .pointer none] 209) _ rfl) hb1
    have c1 := blk_cell k1
    have f1 := blk_frozen k1
    have HD := Lib.hid hd
    have K1 := Lib.hid k1
    simp only [World.size_alloc] at hF
    have HF := Lib.hid hF
    clear hd k1 hF c1_0 f1_0
    go_wp2_with fail
    go_ret2
    refine ⟨w.heap.size, footP w.heap.size F0, rfl, ⟨by omega, by omega, Fits.nil l, p, F0, rfl, .inl ⟨rfl, by omega, heap_set_at K1.out _, ?_⟩⟩, ?_, (by repeat (first | with_reducible exact Below.refl _ _ | with_reducible assumption | ((with_reducible refine Below.setCell ?_ ?_ _); rotate_left; · (first | omega | exact Nat.le_refl _ | (simp <;> omega))) | (with_reducible refine Below.allocW ?_ _) | (with_reducible refine Below.drew ?_) | (with_reducible refine Below.extW ?_ _)))⟩
    · exact HD.out.keep fun b hb => Below.heap_setCell _ _ _ _ (by have := HF.out b hb; simp only; omega)
    · rintro b (rfl | hb)
      · exact Nat.le_refl _
      · have := HF.out b hb; omega
  · obtain rfl : K = 2 := by omega
    have HC := Lib.hid (probe_New · l (by omega) (by omega))
    go_enter Tryz.func188, Tryz.ntmps188
    go_wp2_with fail
    refine (HC.out _).mono ?_
    rintro e w1 ⟨p, F0, rfl, hd, hF, hb1⟩
    have B1 : Below w.heap.size w w1 := Below.then_ (by repeat (first | with_reducible exact Below.refl _ _ | with_reducible assumption | ((with_reducible refine Below.setCell ?_ ?_ _); rotate_left; · (first | omega | exact Nat.le_refl _ | (simp <;> omega))) | (with_reducible refine Below.allocW ?_ _) | (with_reducible refine Below.drew ?_) | (with_reducible refine Below.extW ?_ _))) hb1
    have s1 : w.heap.size ≤ w1.heap.size := B1.size
    have z1_0 : w.heap.size < w1.heap.size := by have := hb1.size; (try simp at this); omega
    have y1_0 : w.heap.size ≤ w1.heap.size := Nat.le_of_lt z1_0
    have c1_0 := fun o => hb1.cell (p := ⟨w.heap.size, o, none⟩) (by first | omega | (simp <;> omega))
    have f1_0 := fun o => hb1.frozen (p := ⟨w.heap.size, o, none⟩) (by first | omega | (simp <;> omega))
    have k1 := blk_below (heap_new_at w (.cells #[.pointer none, .pointer none] 209) _ rfl) hb1
    have c1 := blk_cell k1
    have f1 := blk_frozen k1
    have HD := Lib.hid hd
    have K1 := Lib.hid k1
    simp only [World.size_alloc] at hF
    have HF := Lib.hid hF
    clear hd k1 hF c1_0 f1_0
    go_wp2_with fail
    go_ret2
    refine ⟨w.heap.size, footP w.heap.size F0, rfl, ⟨by omega, by omega, Fits.nil l, p, F0, rfl, .inr ⟨rfl, heap_set_at K1.out _, ?_⟩⟩, ?_, (by repeat (first | with_reducible exact Below.refl _ _ | with_reducible assumption | ((with_reducible refine Below.setCell ?_ ?_ _); rotate_left; · (first | omega | exact Nat.le_refl _ | (simp <;> omega))) | (with_reducible refine Below.allocW ?_ _) | (with_reducible refine Below.drew ?_) | (with_reducible refine Below.extW ?_ _)))⟩
    · exact HD.out.keep fun b hb => Below.heap_setCell _ _ _ _ (by have := HF.out b hb; simp only; omega)
    · rintro b (rfl | hb)
      · exact Nat.le_refl _
      · have := HF.out b hb; omega

/-- A roll may be put onto another one: numbers ahead of it, and not too much. -/
def rollOf (l : List Nd) : List Nd := l.foldl (fun r x => addR r x.1 x.2) []
theorem addR_last {r : List Nd} {id c : Int} (h : ∀ x ∈ r, x.1 < id) : addR r id c = r ++ [(id, c)] := by
  induction r with
  | nil => rfl
  | cons x r ih =>
    have hx := h x (by simp)
    simp only [addR]
    rw [if_neg (by omega), if_neg (by omega), ih fun y hy => h y (by simp [hy])]
    rfl
theorem sumR_append (a b : List Nd) : sumR (a ++ b) = sumR a + sumR b := by
  induction a with
  | nil => simp [sumR]
  | cons x a ih => simp only [List.cons_append, sumR, ih]; omega
theorem Roll.take {r : List Nd} (h : Roll r) (k : Nat) : Roll (r.take k) := ⟨h.1.sublist (List.take_sublist k r), fun x hx => h.2 x (List.mem_of_mem_take hx)⟩
theorem addR_take {r : List Nd} (h : Roll r) {k : Nat} (hk : k < r.length) : addR (r.take k) r[k].1 r[k].2 = r.take (k + 1) := by
  rw [List.take_succ_eq_append_getElem hk, addR_last]
  intro x hx
  obtain ⟨i, hi, rfl⟩ := List.mem_take_iff_getElem.1 hx
  exact List.pairwise_iff_getElem.1 h.1 i k (by omega) hk (by omega)
theorem sumR_take_succ {r : List Nd} {k : Nat} (hk : k < r.length) : sumR (r.take (k + 1)) = sumR (r.take k) + r[k].2 := by
  rw [List.take_succ_eq_append_getElem hk, sumR_append]; simp [sumR]
theorem sumR_take_le {r : List Nd} (h : Roll r) (k : Nat) : sumR (r.take k) ≤ sumR r := by
  have h1 : sumR r = sumR (r.take k) + sumR (r.drop k) := by rw [← sumR_append, List.take_append_drop]
  have h2 : Roll (r.drop k) := ⟨h.1.sublist (List.drop_sublist k r), fun x hx => h.2 x (List.mem_of_mem_drop hx)⟩
  have := sumR_nonneg h2
  omega
/-- What put leaves. -/
def PutPost (w : World) (g K l : Nat) (r : List Nd) (F : Nat → Prop) (e : Ending) (w' : World) : Prop := ∃ F', e = .returned (.tuple #[]) ∧ PoolAt w' g K l r F' ∧ Turn F w w' ∧ Grow w F F'
set_option maxRecDepth 100000 in
theorem pool_put (w : World) (g K l : Nat) (F : Nat → Prop) (A : Option Addr) (cap : Nat) (r : List Nd) (h : PoolAt w g K l [] F) (hf : Fits l r) (hS : Sl w w.heap.size encN A r) (hFA : ∀ b o, A = some ⟨b, o, none⟩ → r ≠ [] → ¬ F b) (hn : r.length < 67108864) :
    Calls Tryz.prog 190 #[.pointer (some ⟨g, 0, none⟩), .slice A r.length cap] w (PutPost w g K l r F) := by
  have HP := Lib.hid h
  have HS := Lib.hid hS
  have HA := Lib.hid hFA
  clear h hS hFA
  go_enter Tryz.func190, Tryz.ntmps190
  go_wp2_with fail
  go_loopw [8] (fun i wr => ∃ (k : Nat) (F' : Nat → Prop), k ≤ r.length ∧ i = .int .i64 k ∧ PoolAt wr g K l (r.take k) F' ∧ Turn F w wr ∧ Grow w F F') (fun i _ => r.length - (intOf i).toNat)
  case atStart => exact ⟨0, F, Nat.zero_le _, rfl, HP.out, Turn.refl _ _, Grow.refl⟩
  case round =>
    obtain ⟨k, F', hk, rfl, hP, hT, hG⟩ := hrel
    have HK := Lib.hid hP
    have HT := Lib.hid hT
    have HG := Lib.hid hG
    have hs := hT.size
    clear hP hT hG
    by_cases hlt : k < r.length
    · obtain ⟨b, off, rfl, hb, hc⟩ := HS.out.at_ hlt
      have nF := HA.out b off rfl (fun h => by rw [h] at hlt; simp at hlt)
      have d0 := (HT.out.cell (o := off + k * 2 + 0) hb nF).trans (hc 0 (.int .i64 r[k].1) rfl)
      have d1 := (HT.out.cell (o := off + k * 2 + 1) hb nF).trans (hc 1 (.int .i64 r[k].2) rfl)
      simp only [Nat.add_zero] at d0
      have hx := hf.roll.2 _ (List.getElem_mem hlt)
      have hxl := hf.lt _ (List.getElem_mem hlt)
      have e1 := sumR_take_succ hlt
      have e2 := sumR_take_le hf.roll (k + 1)
      have e3 := hf.sum
      have e4 := addR_take hf.roll hlt
      obtain ⟨x, hxe⟩ : ∃ x, x = r[k] := ⟨_, rfl⟩
      rw [← hxe] at d0 d1 hx hxl e1 e4
      obtain ⟨n, hn1⟩ := Int.eq_ofNat_of_zero_le (show 0 ≤ x.1 by omega)
      have hlen : (r.take k).length ≤ r.length := List.length_take_le' _ _
      rw [hn1] at d0 hx hxl e4
      have HC : Hid (∀ W, PoolAt W g K l (r.take k) F' → Calls Tryz.prog 228 #[.pointer (some ⟨g, 0, none⟩), .int .i64 (n : Nat), .int .i64 x.2] W (PAddPost W g K l (r.take (k + 1)) F' (.int .i64 0))) := Lib.hid fun W hW => by
        have := pool_Add W g K l (r.take k) F' hW n (by omega) (by exact_mod_cast hxl) x.2 (by omega) (by omega) (by omega)
        rwa [e4] at this
      clear hc e1 e2 e3 e4 hxe hn1
      go_wp2_with fail
      refine (HC.out _ (HK.out.below ((Below.refl _ _).alloc (Nat.le_refl _) _))).mono ?_
      rintro e w2 ⟨F2, rfl, hP2, hT2, hG2⟩
      have KP2 := Lib.hid hP2
      have HT2 : Hid (Turn F w w2) := Lib.hid ((HT.out.alloc (.cells #[.int .i64 (n : Nat), .int .i64 x.2] 102)).trans hT2 HG.out)
      have HG2 : Hid (Grow w F F2) := Lib.hid (HG.out.trans hG2 (Nat.le_trans hs (by simp)))
      clear hP2 hT2 hG2
      go_wp2_with fail
      go_roundw
      case rel => exact ⟨k + 1, F2, by omega, by go_num, KP2.out, HT2.out, HG2.out⟩
      case measure => simp [intOf]; omega
    · obtain rfl : k = r.length := by omega
      rw [List.take_length] at HK
      go_wp2_with fail
      go_end0
      exact ⟨F', rfl, HK.out, HT.out, HG.out⟩
end Go.Proofs.YtilkfolhglpaoaaGreat
/- Package pool: Load. -/
namespace Go.Proofs.YtilkfolhglpaoaaGreat
open Go.ChangeShapes Go.WideShapes Go.ChangeAt Go.RowKit
set_option linter.unusedVariables false

theorem totalFrom_ok {n : Int} {l : List Nd} (h : (totalFrom n l).2 = true) (hn : 0 ≤ n) (hm : n ≤ most) : (totalFrom n l).1 = n + sumR l ∧ n + sumR l ≤ most := by
  induction l generalizing n with
  | nil => simp [totalFrom, sumR]; exact hm
  | cons x l ih =>
    simp only [totalFrom] at h ⊢
    split at h
    · rename_i hc
      rw [if_pos hc]
      have h1 := addOf_le n x.2 hc.1
      have h2 := ih h h1.1 hc.2
      have h3 : (addOf n x.2).1 = n + x.2 := by
        have := hc.1
        unfold addOf at this ⊢
        split
        · rfl
        · rename_i hn; rw [if_neg hn] at this; cases this
      simp only [sumR]
      omega
    · simp at h
theorem rises_roll {l last : Int} {r : List Nd} (h : risesFrom l last r = true) : (∀ x ∈ r, last < x.1 ∧ isNode l x.1 = true ∧ 1 ≤ x.2) ∧ r.Pairwise (fun a b => a.1 < b.1) := by
  induction r generalizing last with
  | nil => exact ⟨by simp, .nil⟩
  | cons x r ih =>
    simp only [risesFrom, Bool.and_eq_true, decide_eq_true_eq] at h
    obtain ⟨⟨⟨h1, h2⟩, h3⟩, h4⟩ := h
    obtain ⟨i1, i2⟩ := ih h4
    refine ⟨fun y hy => ?_, List.pairwise_cons.2 ⟨fun y hy => (i1 y hy).1, i2⟩⟩
    rcases List.mem_cons.1 hy with rfl | hy
    · exact ⟨h1, h2, h3⟩
    · have := i1 y hy; exact ⟨by omega, this.2⟩
theorem isNode_lt {l : Nat} {id : Int} (h : isNode l id = true) : 1 ≤ id ∧ id < 2 * 2 ^ l := by
  simp only [isNode, decide_eq_true_eq, Int.toNat_natCast] at h
  exact h.2
/-- A roll of a universe. -/
theorem right_fits {l : Nat} {r : List Nd} (h : rightOf l r = true) : Fits l r ∧ (totalOf r).1 = sumR r := by
  simp only [rightOf, Bool.and_eq_true] at h
  obtain ⟨⟨h1, h2⟩, _⟩ := h
  obtain ⟨i1, i2⟩ := rises_roll h1
  have h3 := totalFrom_ok h2 (by omega) (by decide)
  refine ⟨⟨⟨i2, fun x hx => ⟨(isNode_lt (i1 x hx).2.1).1, (i1 x hx).2.2⟩⟩, fun x hx => (isNode_lt (i1 x hx).2.1).2, by unfold most at h3; omega⟩, ?_⟩
  unfold totalOf
  rw [h3.1]; omega

theorem pool_Load_no (w : World) (K l : Int) (A : Option Addr) (cap : Nat) (r : List Nd) (h : isPool K l = false) : Calls Tryz.prog 125 #[.int .i64 K, .int .i64 l, .slice A r.length cap] w fun e w' => e = .returned (.tuple #[.pointer none, .int .i64 2]) ∧ Below w.heap.size w w' := by
  have HC := Lib.hid (pool_New_no · K l h)
  clear h
  go_enter Tryz.func125, Tryz.ntmps125
  go_wp2_with fail
  refine (HC.out _).mono ?_
  rintro e w1 ⟨rfl, hb1⟩
  have B1 : Below w.heap.size w w1 := Below.then_ (by repeat (first | with_reducible exact Below.refl _ _ | with_reducible assumption | ((with_reducible refine Below.setCell ?_ ?_ _); rotate_left; · (first | omega | exact Nat.le_refl _ | (simp <;> omega))) | (with_reducible refine Below.allocW ?_ _) | (with_reducible refine Below.drew ?_) | (with_reducible refine Below.extW ?_ _))) hb1
  have s1 : w.heap.size ≤ w1.heap.size := B1.size
  go_wp2_with fail
  go_ret2
  exact ⟨rfl, (by repeat (first | with_reducible exact Below.refl _ _ | with_reducible assumption | ((with_reducible refine Below.setCell ?_ ?_ _); rotate_left; · (first | omega | exact Nat.le_refl _ | (simp <;> omega))) | (with_reducible refine Below.allocW ?_ _) | (with_reducible refine Below.drew ?_) | (with_reducible refine Below.extW ?_ _)))⟩
theorem pool_Load_form (w : World) (K l : Nat) (A : Option Addr) (cap : Nat) (r : List Nd) (h : isPool K l = true) (hR : rightOf l r = false) (hS : Sl w w.heap.size encN A r) (hI : ints r) (hm : r.length ≤ maxLen) :
    Calls Tryz.prog 125 #[.int .i64 K, .int .i64 l, .slice A r.length cap] w fun e w' => e = .returned (.tuple #[.pointer none, .int .i64 10]) ∧ Below w.heap.size w w' := by
  have HC := Lib.hid (pool_New · K l h)
  have HR := Lib.hid (roll_Right · l A cap r · hI hm)
  have HF := Lib.hid hR
  have HS := Lib.hid hS
  clear h hR hS
  go_enter Tryz.func125, Tryz.ntmps125
  go_wp2_with fail
  refine (HC.out _).mono ?_
  rintro e w1 ⟨g, F, rfl, _, _, hb1⟩
  have B1 : Below w.heap.size w w1 := Below.then_ (by repeat (first | with_reducible exact Below.refl _ _ | with_reducible assumption | ((with_reducible refine Below.setCell ?_ ?_ _); rotate_left; · (first | omega | exact Nat.le_refl _ | (simp <;> omega))) | (with_reducible refine Below.allocW ?_ _) | (with_reducible refine Below.drew ?_) | (with_reducible refine Below.extW ?_ _))) hb1
  have s1 : w.heap.size ≤ w1.heap.size := B1.size
  have S1 := Lib.hid (HS.out.keep hb1.size fun p hp => hb1.cell hp)
  go_wp2_with fail
  refine (HR.out _ S1.out).mono ?_
  rintro e w2 ⟨rfl, hb2⟩
  have B2 : Below w.heap.size w w2 := Below.then_ (by repeat (first | with_reducible exact Below.refl _ _ | with_reducible assumption | ((with_reducible refine Below.setCell ?_ ?_ _); rotate_left; · (first | omega | exact Nat.le_refl _ | (simp <;> omega))) | (with_reducible refine Below.allocW ?_ _) | (with_reducible refine Below.drew ?_) | (with_reducible refine Below.extW ?_ _))) hb2
  have s2 : w.heap.size ≤ w2.heap.size := B2.size
  rw [HF.out]
  go_wp2_with fail
  go_ret2
  exact ⟨rfl, (by repeat (first | with_reducible exact Below.refl _ _ | with_reducible assumption | ((with_reducible refine Below.setCell ?_ ?_ _); rotate_left; · (first | omega | exact Nat.le_refl _ | (simp <;> omega))) | (with_reducible refine Below.allocW ?_ _) | (with_reducible refine Below.drew ?_) | (with_reducible refine Below.extW ?_ _)))⟩
theorem pool_Load (w : World) (K l : Nat) (A : Option Addr) (cap : Nat) (r : List Nd) (h : isPool K l = true) (hR : rightOf l r = true) (hS : Sl w w.heap.size encN A r) (hI : ints r) (hn : r.length < 67108864) :
    Calls Tryz.prog 125 #[.int .i64 K, .int .i64 l, .slice A r.length cap] w (NewPost K l r w) := by
  have HC := Lib.hid (pool_New · K l h)
  have HR := Lib.hid (roll_Right · l A cap r · hI (by unfold maxLen; omega))
  have HF := Lib.hid hR
  have HS := Lib.hid hS
  have HT := Lib.hid (right_fits hR).1
  clear h hR hS
  go_enter Tryz.func125, Tryz.ntmps125
  go_wp2_with fail
  refine (HC.out _).mono ?_
  rintro e w1 ⟨g, F, rfl, hP, hF, hb1⟩
  have B1 : Below w.heap.size w w1 := Below.then_ (by repeat (first | with_reducible exact Below.refl _ _ | with_reducible assumption | ((with_reducible refine Below.setCell ?_ ?_ _); rotate_left; · (first | omega | exact Nat.le_refl _ | (simp <;> omega))) | (with_reducible refine Below.allocW ?_ _) | (with_reducible refine Below.drew ?_) | (with_reducible refine Below.extW ?_ _))) hb1
  have s1 : w.heap.size ≤ w1.heap.size := B1.size
  have S1 := Lib.hid (HS.out.keep hb1.size fun p hp => hb1.cell hp)
  have KP := Lib.hid hP
  have KF := Lib.hid hF
  clear hP hF
  go_wp2_with fail
  refine (HR.out _ S1.out).mono ?_
  rintro e w2 ⟨rfl, hb2⟩
  have B2 : Below w.heap.size w w2 := Below.then_ (by repeat (first | with_reducible exact Below.refl _ _ | with_reducible assumption | ((with_reducible refine Below.setCell ?_ ?_ _); rotate_left; · (first | omega | exact Nat.le_refl _ | (simp <;> omega))) | (with_reducible refine Below.allocW ?_ _) | (with_reducible refine Below.drew ?_) | (with_reducible refine Below.extW ?_ _))) hb2
  have s2 : w.heap.size ≤ w2.heap.size := B2.size
  rw [HF.out]
  have KP2 := Lib.hid (KP.out.below hb2)
  have S2 := Lib.hid (S1.out.keep hb2.size fun p hp => hb2.cell hp)
  have HA : Hid (∀ b o, A = some ⟨b, o, none⟩ → r ≠ [] → b < w.heap.size) := Lib.hid fun b o hA hr => by
    rcases HS.out with h | ⟨b', o', hA', hb, _⟩
    · exact absurd h hr
    · rw [hA] at hA'; cases hA'; exact hb
  go_wp2_with fail
  refine (pool_put _ g K l F A cap r KP2.out HT.out S2.out (fun b o hA hr0 hf => by have h1 := HA.out b o hA hr0; have h2 := KF.out b hf; omega) hn).mono ?_
  rintro e w3 ⟨F3, rfl, hP3, hT3, hG3⟩
  have HP : Hid (NewPost K l r w (.returned (.tuple #[.pointer (some ⟨g, 0, none⟩), .int .i64 0])) w3) := Lib.hid ⟨g, F3, rfl, hP3, fun b hb => by
    rcases hG3 b hb with h | h
    · exact KF.out b h
    · have := B2.size; omega, B2.trans (hT3.below KF.out (B2.size))⟩
  clear hP3 hT3 hG3
  go_wp2_with fail
  go_ret2
  exact HP.out
end Go.Proofs.YtilkfolhglpaoaaGreat
/- Package pool: Each, an iterator over all nodes. -/
namespace Go.Proofs.YtilkfolhglpaoaaGreat
open Go.ChangeShapes Go.WideShapes Go.ChangeAt Go.RowKit
set_option linter.unusedVariables false
attribute [local go_sem] Oper.semAt_some

/-- A round keeps the blocks of nodes. -/
def KeepN (A B : World) : Prop := A.heap.size ≤ B.heap.size ∧ ∀ (b : Nat) (cs : Array Value) (fr : Nat × Nat), A.heap[b]? = some (.cells cs 102 fr) → B.heap[b]? = some (.cells cs 102 fr)
theorem keepN_t {A B C : World} (h : KeepN A B) (k : KeepN B C) : KeepN A C := ⟨Nat.le_trans h.1 k.1, fun b cs fr hb => k.2 b cs fr (h.2 b cs fr hb)⟩
theorem keepN_b (W : World) (l : Nat) (o o' : Obj) (h : W.heap[l]? = some o) (hc : o.isCells = false) : KeepN W (W.putObj l o') := by
  refine ⟨(grownBy_putObj' W l o').size, fun b cs fr hb => ?_⟩
  have hne : b ≠ l := by
    rintro rfl
    rw [h] at hb
    cases hb
    simp [Obj.isCells] at hc
  rw [World.putObj_heap_other hne]
  exact hb
theorem KeepN.of_below {A B : World} (h : Below A.heap.size A B) : KeepN A B := ⟨h.size, fun b cs fr hb => (h.block b (lt_of_block hb)).trans hb⟩
theorem KeepN.own {base : Nat} {A B : World} {v : Value} {l : List Nd} (h : KeepN A B) (ho : Own A base 102 encN v l) : Own B base 102 encN v l :=
  ho.of_block fun g hv => by
    rcases ho with ⟨rfl, _⟩ | ⟨g1, o1, c1, u1, rfl, _, hh1, _⟩
    · cases hv
    · have : g1 = g := by simpa [Value.ownBlock] using hv
      subst this
      rw [hh1]
      exact h.2 _ _ _ hh1

theorem pool_Each (w : World) (g : Nat) : Calls Tryz.prog 193 #[.pointer (some ⟨g, 0, none⟩)] w fun e w' => e = .returned (.func (.func 231) #[] #[.pointer (some ⟨w.heap.size, 0, none⟩)]) ∧ w.alloc (.cells #[.pointer (some ⟨g, 0, none⟩)] 127) = w' := by
  go_enter Tryz.func193, Tryz.ntmps193
  go_wp2_with fail
  go_ret
  exact ⟨rfl, rfl⟩
set_option maxRecDepth 100000 in
set_option maxHeartbeats 2000000 in
/-- All nodes come, or a part of them. -/
theorem each_stops (n Bs g K l : Nat) (r : List Nd) (F0 : Nat → Prop) (w : World) (hn : 1 ≤ n) (hBs : w.heap[Bs]? = some (.cells #[.pointer (some ⟨g, 0, none⟩)] 127 (0, 0))) (hP : PoolAt w g K l r F0) (hr : r.length ≤ 67108864) :
    SeqStopsK Fence.wide n Tryz.prog 231 #[.pointer (some ⟨Bs, 0, none⟩)] (fun x : Nd => #[Value.int .i64 x.1, Value.int .i64 x.2]) KeepN (fun ys => ys = r) (fun pre => pre <+: r) r.length w := fun q J Jx W hW hJ hJx hY h0 => by
  have kb := blk_below hBs hW
  have HP := Lib.hid (hP.below hW)
  have cb := blk_cell kb
  have HY := Lib.hid hY
  have HJ := Lib.hid hJ
  clear kb hBs hP hY hJ
  refine callsIn_of_wp Tryz.func231 rfl trivial ?_ rfl
  simp only [Tryz.ntmps231, List.size_toArray, List.length_cons, List.length_nil, Nat.reduceAdd, Nat.reduceSub, Array.replicate_succ, Array.replicate_zero, List.push_toArray, List.append_toArray, List.nil_append, List.cons_append]
  gi_wp2_with fail
  refine ⟨trivial, ?_⟩
  refine (callsIn_wide.2 (pool_Snap _ g K l r F0 HP.out hr)).mono ?_
  rintro e w1 ⟨v, rfl, ho, hb⟩
  have HO := Lib.hid ho
  have J0 : Hid (J [] w1) := Lib.hid (HJ.out _ _ _ none h0 (grownBy_of_below hb none) (fun _ h => by cases h))
  have hs := hb.size
  obtain ⟨A, cap, rfl, _⟩ := ho.form
  clear ho hb h0
  gi_wp2_with fail
  gi_loopw [8] (fun i wr => ∃ k : Nat, k ≤ r.length ∧ i = .int .i64 k ∧ Own wr W.heap.size 102 encN (.slice A r.length cap) r ∧ J (r.take k) wr ∧ W.heap.size ≤ wr.heap.size) (fun i _ => r.length - (intOf i).toNat)
  case atStart => exact ⟨0, Nat.zero_le _, rfl, HO.out, J0.out, hs⟩
  case round =>
    obtain ⟨k, hk, rfl, hown, hJk, hsz⟩ := hrel
    have KO := Lib.hid hown
    have KJ := Lib.hid hJk
    clear hown hJk
    by_cases hlt : k < r.length
    · obtain ⟨b, off, rfl, hT, hc⟩ := KO.out.slT.at_ hlt
      have d0 := hc 0 (.int .i64 r[k].1) rfl
      have d1 := hc 1 (.int .i64 r[k].2) rfl
      simp only [Nat.add_zero] at d0
      have hts := List.take_succ_eq_append_getElem hlt
      obtain ⟨x, hx⟩ : ∃ x, x = r[k] := ⟨_, rfl⟩
      rw [← hx] at d0 d1 hts
      have HS := Lib.hid hts
      have hA : Below wr.heap.size wr (wr.alloc (.cells #[.int .i64 x.1, .int .i64 x.2] 102)) := (Below.refl _ _).alloc (Nat.le_refl _) _
      have hJ2 := HJ.out _ _ _ none KJ.out (grownBy_of_below hA none) (fun _ h => by cases h)
      obtain ⟨fn, tmps, assign, body, hy, hR⟩ := HY.out (r.take k) x _ hJ2 (by rw [List.length_take]; omega)
      have KA := Lib.hid (KO.out.below hA)
      clear hc hts hx hJ2 hA hT
      gi_wp2_with fail
      refine hR.mono ?_
      rintro e w3 (⟨rfl, hJ3, hk3⟩ | ⟨rfl, hJx3⟩)
      · have K3 := Lib.hid (hk3.own KA.out)
        have z3 := hk3.1
        rw [← HS.out] at hJ3
        have J3 := Lib.hid hJ3
        clear hJ3 hk3
        gi_wp2_with fail
        go_roundw
        case rel => exact ⟨k + 1, by omega, by go_num, K3.out, J3.out, by simp at z3; omega⟩
        case measure => simp [intOf]; omega
      · rw [← HS.out] at hJx3
        have J3 := Lib.hid hJx3
        clear hJx3
        gi_wp2_with fail
        refine bodyPost_ret (results_none rfl _ _ _) rfl ?_
        exact ⟨⟨_, rfl⟩, .inr ⟨_, List.take_prefix _ _, J3.out⟩⟩
    · obtain rfl : k = r.length := by omega
      rw [List.take_length] at KJ
      gi_wp2_with fail
      go_end0
      exact ⟨⟨_, rfl⟩, .inl ⟨_, rfl, KJ.out⟩⟩
end Go.Proofs.YtilkfolhglpaoaaGreat
/- Package press: Light. -/
namespace Go.Proofs.YtilkfolhglpaoaaGreat
open Go.ChangeShapes Go.WideShapes Go.ChangeAt Go.RowKit
set_option linter.unusedVariables false
attribute [local go_sem] Oper.semAt_some

theorem fold_Cap (w : World) (n k : Int) (hn0 : 0 ≤ n) (hn : n ≤ 9223372036854775807) (hk : 1 ≤ k) (hk2 : k ≤ 9223372036854775807) : Calls Tryz.prog 192 #[.int .i64 n, .int .i64 k] w fun e w' => e = .returned (.int .i64 (n / k)) ∧ Below w.heap.size w w' := by
  have HD := Lib.hid (show divOf n k = (n / k, true) by simp only [divOf]; rw [if_neg (by omega)])
  go_enter Tryz.func192, Tryz.ntmps192
  go_wp2_with fail
  refine (reckon_Div _ n k hn hk2).mono ?_
  rintro e w1 ⟨rfl, hb1⟩
  have B1 : Below w.heap.size w w1 := Below.then_ (by repeat (first | with_reducible exact Below.refl _ _ | with_reducible assumption | ((with_reducible refine Below.setCell ?_ ?_ _); rotate_left; · (first | omega | exact Nat.le_refl _ | (simp <;> omega))) | (with_reducible refine Below.allocW ?_ _) | (with_reducible refine Below.drew ?_) | (with_reducible refine Below.extW ?_ _))) hb1
  have s1 : w.heap.size ≤ w1.heap.size := B1.size
  rw [HD.out]
  unfold okV
  go_wp2_with fail
  go_ret
  exact ⟨rfl, (by repeat (first | with_reducible exact Below.refl _ _ | with_reducible assumption | ((with_reducible refine Below.setCell ?_ ?_ _); rotate_left; · (first | omega | exact Nat.le_refl _ | (simp <;> omega))) | (with_reducible refine Below.allocW ?_ _) | (with_reducible refine Below.drew ?_) | (with_reducible refine Below.extW ?_ _)))⟩
theorem press_may (w : World) (k : Int) (h1 : 1 ≤ k) (h2 : k ≤ 1048576) : Calls Tryz.prog 229 #[.int .i64 k] w fun e w' => e = .returned (.bool true) ∧ Below w.heap.size w w' := by
  have h3 : decide (k ≤ 1048576) = true := by simpa using h2
  go_enter Tryz.func229, Tryz.ntmps229
  go_wp2_with fail
  go_ret
  exact ⟨ret_bool (by simp [h2]), (by repeat (first | with_reducible exact Below.refl _ _ | with_reducible assumption | ((with_reducible refine Below.setCell ?_ ?_ _); rotate_left; · (first | omega | exact Nat.le_refl _ | (simp <;> omega))) | (with_reducible refine Below.allocW ?_ _) | (with_reducible refine Below.drew ?_) | (with_reducible refine Below.extW ?_ _)))⟩
theorem press_wrong (w : World) (g : Nat) (k : Int) (h1 : 1 ≤ k) (h2 : k ≤ 1048576) : Calls Tryz.prog 191 #[.pointer (some ⟨g, 0, none⟩), .int .i64 k] w fun e w' => e = .returned (.int .i64 0) ∧ Below w.heap.size w w' := by
  go_enter Tryz.func191, Tryz.ntmps191
  go_wp2_with fail
  refine (press_may _ k h1 h2).mono ?_
  rintro e w1 ⟨rfl, hb1⟩
  have B1 : Below w.heap.size w w1 := Below.then_ (by repeat (first | with_reducible exact Below.refl _ _ | with_reducible assumption | ((with_reducible refine Below.setCell ?_ ?_ _); rotate_left; · (first | omega | exact Nat.le_refl _ | (simp <;> omega))) | (with_reducible refine Below.allocW ?_ _) | (with_reducible refine Below.drew ?_) | (with_reducible refine Below.extW ?_ _))) hb1
  have s1 : w.heap.size ≤ w1.heap.size := B1.size
  go_wp2_with fail
  go_ret
  exact ⟨rfl, (by repeat (first | with_reducible exact Below.refl _ _ | with_reducible assumption | ((with_reducible refine Below.setCell ?_ ?_ _); rotate_left; · (first | omega | exact Nat.le_refl _ | (simp <;> omega))) | (with_reducible refine Below.allocW ?_ _) | (with_reducible refine Below.drew ?_) | (with_reducible refine Below.extW ?_ _)))⟩
/-- Weighs a node more than it may? -/
def heavy (l : Int) (most : Int) (x : Nd) : Bool := (kidsOf l x.1).2.2 && decide (most < x.2)
def lightOf (l : Int) (r : List Nd) (k : Int) : Bool := !r.any (heavy l (sumR r / k))
theorem lt_of_cell {W : World} {b o : Nat} {v : Value} (h : W.cell? ⟨b, o, none⟩ = some v) : b < W.heap.size := by
  rcases Nat.lt_or_ge b W.heap.size with h' | h'
  · exact h'
  · simp [World.cell?, Array.getElem?_eq_none h'] at h
set_option maxRecDepth 100000 in
set_option maxHeartbeats 2000000 in
theorem press_Light (w : World) (g K l : Nat) (r : List Nd) (F : Nat → Prop) (k : Int) (hP : PoolAt w g K l r F) (h1 : 1 ≤ k) (h2 : k ≤ 1048576) (hr : r.length ≤ 67108864) :
    Calls Tryz.prog 126 #[.pointer (some ⟨g, 0, none⟩), .int .i64 k] w fun e w' => e = .returned (.bool (lightOf l r k)) ∧ Below w.heap.size w w' := by
  have hs0 := sumR_nonneg hP.fits.roll
  have hs1 := hP.fits.sum
  have HP := Lib.hid hP
  clear hP
  refine (callsIn_wide (n := 3)).1 ?_
  refine callsIn_of_wp_marks Tryz.func126 rfl trivial ?_ rfl
  simp only [Tryz.ntmps126, List.size_toArray, List.length_cons, List.length_nil, Nat.reduceAdd, Nat.reduceSub, Array.replicate_succ, Array.replicate_zero, List.push_toArray, List.append_toArray, List.nil_append, List.cons_append]
  gi_wp2_with fail
  refine ⟨trivial, ?_⟩
  refine (callsIn_wide.2 (press_wrong _ g k h1 h2)).mono ?_
  rintro e w1 ⟨rfl, hb1⟩
  have B1 : Below w.heap.size w w1 := Below.then_ (by repeat (first | with_reducible exact Below.refl _ _ | with_reducible assumption | ((with_reducible refine Below.setCell ?_ ?_ _); rotate_left; · (first | omega | exact Nat.le_refl _ | (simp <;> omega))) | (with_reducible refine Below.allocW ?_ _) | (with_reducible refine Below.drew ?_) | (with_reducible refine Below.extW ?_ _))) hb1
  have s1 : w.heap.size ≤ w1.heap.size := B1.size
  have z1_0 : w.heap.size < w1.heap.size := by have := hb1.size; (try simp at this); omega
  have y1_0 : w.heap.size ≤ w1.heap.size := Nat.le_of_lt z1_0
  have c1_0 := fun o => hb1.cell (p := ⟨w.heap.size, o, none⟩) (by first | omega | (simp <;> omega))
  have f1_0 := fun o => hb1.frozen (p := ⟨w.heap.size, o, none⟩) (by first | omega | (simp <;> omega))
  have z1_1 : w.heap.size + 1 < w1.heap.size := by have := hb1.size; (try simp at this); omega
  have y1_1 : w.heap.size + 1 ≤ w1.heap.size := Nat.le_of_lt z1_1
  have c1_1 := fun o => hb1.cell (p := ⟨w.heap.size + 1, o, none⟩) (by first | omega | (simp <;> omega))
  have f1_1 := fun o => hb1.frozen (p := ⟨w.heap.size + 1, o, none⟩) (by first | omega | (simp <;> omega))
  have P1 := Lib.hid (HP.out.below B1)
  gi_wp2_with fail
  refine ⟨trivial, ?_⟩
  refine (callsIn_wide.2 (pool_Total _ g K l r F P1.out)).mono ?_
  rintro e w2 ⟨rfl, hb2⟩
  have B2 : Below w.heap.size w w2 := Below.then_ (by repeat (first | with_reducible exact Below.refl _ _ | with_reducible assumption | ((with_reducible refine Below.setCell ?_ ?_ _); rotate_left; · (first | omega | exact Nat.le_refl _ | (simp <;> omega))) | (with_reducible refine Below.allocW ?_ _) | (with_reducible refine Below.drew ?_) | (with_reducible refine Below.extW ?_ _))) hb2
  have s2 : w.heap.size ≤ w2.heap.size := B2.size
  have z2_0 : w.heap.size < w2.heap.size := by have := hb2.size; (try simp at this); omega
  have y2_0 : w.heap.size ≤ w2.heap.size := Nat.le_of_lt z2_0
  have c2_0 := fun o => hb2.cell (p := ⟨w.heap.size, o, none⟩) (by first | omega | (simp <;> omega))
  have f2_0 := fun o => hb2.frozen (p := ⟨w.heap.size, o, none⟩) (by first | omega | (simp <;> omega))
  have z2_1 : w.heap.size + 1 < w2.heap.size := by have := hb2.size; (try simp at this); omega
  have y2_1 : w.heap.size + 1 ≤ w2.heap.size := Nat.le_of_lt z2_1
  have c2_1 := fun o => hb2.cell (p := ⟨w.heap.size + 1, o, none⟩) (by first | omega | (simp <;> omega))
  have f2_1 := fun o => hb2.frozen (p := ⟨w.heap.size + 1, o, none⟩) (by first | omega | (simp <;> omega))
  have P2 := Lib.hid (HP.out.below B2)
  gi_wp2_with fail
  refine ⟨trivial, ?_⟩
  refine (callsIn_wide.2 (fold_Cap _ (sumR r) k hs0 (by omega) h1 (by omega))).mono ?_
  rintro e w3 ⟨rfl, hb3⟩
  have B3 : Below w.heap.size w w3 := Below.then_ (by repeat (first | with_reducible exact Below.refl _ _ | with_reducible assumption | ((with_reducible refine Below.setCell ?_ ?_ _); rotate_left; · (first | omega | exact Nat.le_refl _ | (simp <;> omega))) | (with_reducible refine Below.allocW ?_ _) | (with_reducible refine Below.drew ?_) | (with_reducible refine Below.extW ?_ _))) hb3
  have s3 : w.heap.size ≤ w3.heap.size := B3.size
  have z3_0 : w.heap.size < w3.heap.size := by have := hb3.size; (try simp at this); omega
  have y3_0 : w.heap.size ≤ w3.heap.size := Nat.le_of_lt z3_0
  have c3_0 := fun o => hb3.cell (p := ⟨w.heap.size, o, none⟩) (by first | omega | (simp <;> omega))
  have f3_0 := fun o => hb3.frozen (p := ⟨w.heap.size, o, none⟩) (by first | omega | (simp <;> omega))
  have z3_1 : w.heap.size + 1 < w3.heap.size := by have := hb3.size; (try simp at this); omega
  have y3_1 : w.heap.size + 1 ≤ w3.heap.size := Nat.le_of_lt z3_1
  have c3_1 := fun o => hb3.cell (p := ⟨w.heap.size + 1, o, none⟩) (by first | omega | (simp <;> omega))
  have f3_1 := fun o => hb3.frozen (p := ⟨w.heap.size + 1, o, none⟩) (by first | omega | (simp <;> omega))
  have P3 := Lib.hid (HP.out.below B3)
  gi_wp2_with fail
  refine ⟨trivial, ?_⟩
  refine (callsIn_wide.2 (pool_Each _ g)).mono ?_
  rintro e w4 ⟨rfl, rfl⟩
  gi_wp2_with fail
  have hB0 : Below w.heap.size w ((w3.alloc (.cells #[.int .i64 (sumR r / k)] 3)).alloc (.cells #[.pointer (some ⟨g, 0, none⟩)] 127)) := (by repeat (first | with_reducible exact Below.refl _ _ | with_reducible assumption | ((with_reducible refine Below.setCell ?_ ?_ _); rotate_left; · (first | omega | exact Nat.le_refl _ | (simp <;> omega))) | (with_reducible refine Below.allocW ?_ _) | (with_reducible refine Below.drew ?_) | (with_reducible refine Below.extW ?_ _)))
  have kb := heap_new_at (w3.alloc (.cells #[.int .i64 (sumR r / k)] 3)) (.cells #[.pointer (some ⟨g, 0, none⟩)] 127) (w3.heap.size + 1) (by simp)
  have x0 : ((w3.alloc (.cells #[.int .i64 (sumR r / k)] 3)).alloc (.cells #[.pointer (some ⟨g, 0, none⟩)] 127)).cell? ⟨w.heap.size, 0, none⟩ = some (.pointer (some ⟨g, 0, none⟩)) := by go_simp
  have x1 : ((w3.alloc (.cells #[.int .i64 (sumR r / k)] 3)).alloc (.cells #[.pointer (some ⟨g, 0, none⟩)] 127)).cell? ⟨w.heap.size + 1, 0, none⟩ = some (.bool false) := by go_simp
  have x2 : ((w3.alloc (.cells #[.int .i64 (sumR r / k)] 3)).alloc (.cells #[.pointer (some ⟨g, 0, none⟩)] 127)).cell? ⟨w3.heap.size, 0, none⟩ = some (.int .i64 (sumR r / k)) := by go_simp
  have x3 : ((w3.alloc (.cells #[.int .i64 (sumR r / k)] 3)).alloc (.cells #[.pointer (some ⟨g, 0, none⟩)] 127)).frozen? ⟨w.heap.size + 1, 0, none⟩ = false := by go_simp
  have zz : w.heap.size + 1 < w3.heap.size := z3_1
  generalize (w3.alloc (.cells #[.int .i64 (sumR r / k)] 3)).alloc (.cells #[.pointer (some ⟨g, 0, none⟩)] 127) = W0 at hB0 kb x0 x1 x2 x3 ⊢
  clear P1 P2 P3 hb1 hb2 hb3 B1 B2 B3 s1 s2 s3 z1_0 y1_0 c1_0 f1_0 z1_1 y1_1 c1_1 f1_1 z2_0 y2_0 c2_0 f2_0 z2_1 y2_1 c2_1 f2_1 z3_0 y3_0 c3_0 f3_0 z3_1 y3_1 c3_1 f3_1
  have zs := hB0.size
  refine wpIn_rangeFunc_ownG rfl (by decide) (gf := 231) (lb := #[.pointer (some ⟨w3.heap.size + 1, 0, none⟩)]) rfl trivial (enters_of Tryz.func231 (by kernel_rfl) rfl)
    (each_stops (3 - 1) (w3.heap.size + 1) g K l r F W0 (by decide) kb (HP.out.below hB0) hr) keepN_t (fun W q o o' _ h hc _ => keepN_b W q o o' h hc) (Below.refl _ _) (fun _ => rfl)
    (fun pre W => ((pre.any (heavy l (sumR r / k)) = false) ∧ W.cell? ⟨w.heap.size, 0, none⟩ = some (.pointer (some ⟨g, 0, none⟩)) ∧ W.cell? ⟨w.heap.size + 1, 0, none⟩ = some (.bool false) ∧ W.cell? ⟨w3.heap.size, 0, none⟩ = some (.int .i64 (sumR r / k)) ∧ W.frozen? ⟨w.heap.size + 1, 0, none⟩ = false) ∧ Below w.heap.size w W)
    (fun c pre W => (c = .ret ∧ pre.any (heavy l (sumR r / k)) = true ∧ W.cell? ⟨w.heap.size + 1, 0, none⟩ = some (.bool false)) ∧ Below w.heap.size w W)
    (OwnFrom.and (Own.from (fun s A B row hs hg hr => ⟨hs.1, cell_kept hs.2.1 hg hr, cell_kept hs.2.2.1 hg hr, cell_kept hs.2.2.2.1 hg hr, (frozen_kept hs.2.2.1 hg hr).trans hs.2.2.2.2⟩) _) (ownFrom_below (Nat.le_refl _) zs))
    (fun c => OwnFrom.and (Own.from (fun s A B row hs hg hr => ⟨hs.1, hs.2.1, cell_kept hs.2.2 hg hr⟩) _) (ownFrom_below (Nat.le_refl _) zs))
    ⟨⟨rfl, x0, x1, x2, x3⟩, hB0⟩
    (fun x => { tmps := #[.pointer (some ⟨g, 0, none⟩), .int .i64 k, .pointer (some ⟨w.heap.size, 0, none⟩), undef, .pointer (some ⟨w.heap.size + 1, 0, none⟩), .pointer (some ⟨w3.heap.size, 0, none⟩), .int .i64 x.1, .int .i64 x.2, undef, undef, undef,
      .pointer (some ⟨g, 0, none⟩), .int .i64 k, .int .i64 0, .bool false, .pointer (some ⟨g, 0, none⟩), .int .i64 (sumR r), .int .i64 k, .int .i64 (sumR r / k), .pointer (some ⟨g, 0, none⟩), .func (.func 231) #[] #[.pointer (some ⟨w3.heap.size + 1, 0, none⟩)], .int .i64 x.1, .int .i64 x.2,
      undef, undef, undef, undef, undef, undef, undef, undef, undef, undef, undef, undef, undef, undef], defers := [] }) ?assign ?body ?done ?stop
  case assign =>
    intro q x W K hK
    gi_wp2
    exact hK
  case body =>
    rintro q pre x W ⟨⟨hp, c0, c1, c2, f1⟩, hB⟩ _
    have HPW := Lib.hid (HP.out.below hB)
    have hk := Lib.hid (twig_Kids · l x.1)
    have he : Hid (heavy l (sumR r / k) x = ((kidsOf l x.1).2.2 && decide (sumR r / k < x.2))) := Lib.hid rfl
    have HPre := Lib.hid hp
    have zW := hB.size
    have zc0 := lt_of_cell c0
    have zc1 := lt_of_cell c1
    have HB := Lib.hid hB
    clear hp hB
    generalize kidsOf l x.1 = t at hk he
    obtain ⟨t1, t2, t3⟩ := t
    gi_wp2_with fail
    refine ⟨trivial, ?_⟩
    refine (CallsIn.inRound q (callsIn_wide.2 (pool_L _ g K l r F HPW.out))).mono ?_
    rintro e w5 ⟨rfl, hb5⟩
    gi_wp2_with fail
    refine ⟨trivial, ?_⟩
    refine (CallsIn.inRound q (callsIn_wide.2 (hk.out _))).mono ?_
    rintro e w6 ⟨rfl, hb6⟩
    have hb := hb5.trans (hb6.mono hb5.size)
    have hbw := HB.out.trans (hb.mono zW)
    have d1 := (hb.cell (p := ⟨w.heap.size + 1, 0, none⟩) (by simp only; omega)).trans c1
    have d0 := (hb.cell (p := ⟨w.heap.size, 0, none⟩) (by simp only; omega)).trans c0
    have z3 := lt_of_cell c2
    have d2 := (hb.cell (p := ⟨w3.heap.size, 0, none⟩) z3).trans c2
    have g1 := (hb.frozen (p := ⟨w.heap.size + 1, 0, none⟩) (by simp only; omega)).trans f1
    have KW : Hid (KeepsFrom W0.heap.size W w6) := Lib.hid ((KeepsOthers.of_grownBy (grownBy_of_below hb none) (fun _ _ h => by cases h)).from _)
    have KN := Lib.hid (KeepN.of_below hb)
    have HBW := Lib.hid hbw
    clear hb5 hb6 hb hbw c0 c1 c2 f1
    unfold endsV
    cases t3
    · gi_wp2_with fail
      exact ⟨KW.out, KN.out, ⟨by rw [List.any_append, HPre.out]; simp [he.out], d0, d1, d2, g1⟩, HBW.out⟩
    · by_cases hx : sumR r / k < x.2
      · gi_wp2_with fail
        exact ⟨KW.out.trans ((KeepsOthers.setCell _ _ _).from _), ⟨rfl, by rw [List.any_append]; simp [he.out, hx], World.cell?_setCell_same' _ _ _ (by rw [d1]; rfl)⟩, HBW.out.setCell (p := ⟨w.heap.size + 1, 0, none⟩) (by simp only; omega) _⟩
      · gi_wp2_with fail
        exact ⟨KW.out, KN.out, ⟨by rw [List.any_append, HPre.out]; simp [he.out, hx], d0, d1, d2, g1⟩, HBW.out⟩
  case done =>
    rintro D ys W hD hys ⟨⟨hp, c0, c1, c2, f1⟩, hB⟩ hK
    have hys' : ys = r := hys
    rw [hys'] at hp
    clear hys hys'
    have zc1 := lt_of_cell c1
    have hl : lightOf l r k = true := by unfold lightOf; rw [hp]; rfl
    have zW := hB.size
    gi_wp2
    have hK' := (KeepsOthers.setCell W ⟨w.heap.size + 1, 0, none⟩ (.bool true)).same D _ hK rfl
    refine ⟨by simp, .inl ⟨_, _, rfl, run_takeDeferred hK', ?_⟩⟩
    have hc5 := cell_kept (World.cell?_setCell_same' W ⟨w.heap.size + 1, 0, none⟩ (.bool true) (by rw [c1]; rfl)) (grownBy_putObj' _ D (.deferred none)) (fun r e => by cases e; exact ⟨_, hK', rfl⟩)
    refine ⟨.bool true, ?_, by rw [hl], (hB.setCell (p := ⟨w.heap.size + 1, 0, none⟩) (by simp only; omega) _).trans (belowK_b (w := w) (Nat.le_refl _) _ D _ _ (by omega) hK' rfl rfl)⟩
    simp [results, Tryz.f126, go_sem, hc5]
  case stop =>
    rintro D c pre W hD hpre ⟨⟨rfl, hp, c1⟩, hB⟩ hK
    have hl : lightOf l r k = false := by
      unfold lightOf
      obtain ⟨x, hx, hh⟩ := List.any_eq_true.1 hp
      rw [List.any_eq_true.2 ⟨x, hpre.subset hx, hh⟩]; rfl
    gi_wp2
    refine ⟨by simp, .inl ⟨_, _, rfl, run_takeDeferred hK, ?_⟩⟩
    have hc5 := cell_kept c1 (grownBy_putObj' _ D (.deferred none)) (fun r e => by cases e; exact ⟨_, hK, rfl⟩)
    refine ⟨.bool false, ?_, by rw [hl], hB.trans (belowK_b (w := w) (Nat.le_refl _) W D _ _ (by omega) hK rfl rfl)⟩
    simp [results, Tryz.f126, go_sem, hc5]
end Go.Proofs.YtilkfolhglpaoaaGreat
/- A region that draws its order, whose last operations come behind all others, one behind the other: the others may only read and call what only makes memory: one walk serves every order. -/
namespace Go.Proofs.YtilkfolhglpaoaaGreat
open Go.RowKit

/-- The post of the head: what stands behind it is the tail. -/
def headPost (P : Program) (ops : Array Oper) (Q : Exit → Act → World → Prop) (l : List Oper) : Exit → Act → World → Prop
  | .normal, a, w => wpList P ops Q l a w
  | .panic c, a, w => Q (.panic c) a w
  | .exit i, a, w => Q (.exit i) a w
  | .goto i, a, w => Q (.goto i) a w
  | .ret, a, w => Q .ret a w
  | .outgrown, a, w => Q .outgrown a w

/-- An operation of the head waits for earlier ones of the head alone; the tail's first waits for all of the head, each later one for the one ahead of it. -/
def tailB (l : List Oper) (n : Nat) : Bool :=
  decide (n < l.length) &&
  ((List.range n).all fun i => match l[i]? with
    | some o => o.after.all (fun e => !Region.binds .any e || decide (e.on < i)) && (match o.guard with | some (j, _) => decide (j < n) | none => true)
    | none => false) &&
  ((List.range n).all fun i => Region.waitsFor .any l.toArray n i) &&
  ((List.range l.length).all fun t => decide (t ≤ n) || Region.waitsFor .any l.toArray t (t - 1)) &&
  Region.seqB .any l.toArray (l.length - n) n (Array.replicate n true ++ Array.replicate (l.length - n) false) &&
  Region.lexB .any (l.take n).toArray

section
variable {P : Program} {Q : Exit → Act → World → Prop} {l : List Oper} {n : Nat}
theorem upon_head {o : Oper} {a : Act} {K : Act → World → Prop} {r : Result Next} {ops : Array Oper} {lt : List Oper} (h : o.upon P a K (headPost P ops Q lt) r) : o.upon P a K Q r := by
  cases r with
  | ok x w =>
    cases x with
    | enter f args =>
      refine Calls.mono h fun e w' he => ?_
      cases e with
      | returned v => exact he
      | panicked c => exact he
      | outgrown => obtain ⟨a', w'', h'⟩ := he; exact ⟨a', w'', h'⟩
    | _ => exact h
  | halt x w => cases x <;> exact h
theorem any_more {ops : Array Oper} : ∀ (g m : Nat) (listed : Array Bool) (a : Act) (w : World), wpAny P .any ops Q g listed a w → wpAny P .any ops Q (g + m) listed a w
  | 0, 0, _, _, _, h => h
  | 0, m + 1, listed, a, w, h => by
    rw [Nat.zero_add]
    exact ⟨fun _ => h.2, fun i hi => by rw [h.1] at hi; cases hi⟩
  | g + 1, m, listed, a, w, h => by
    rw [show g + 1 + m = (g + m) + 1 by omega]
    exact ⟨h.1, fun i hi => wpOp_mono (fun a' w' h' => any_more g m _ a' w' h') (h.2 i hi)⟩

/-- The head's list of what is done, and the whole region's. -/
structure HeadRel (l : List Oper) (n : Nat) (lh listed : Array Bool) : Prop where
  sh : lh.size = n
  sl : listed.size = l.length
  nl : n ≤ l.length
  same : ∀ i, i < n → ∀ d, listed.getD i d = lh.getD i d
  tail : ∀ t, n ≤ t → t < l.length → listed.getD t true = false
theorem HeadRel.set {lh listed : Array Bool} (h : HeadRel l n lh listed) {i : Nat} (hi : i < n) : HeadRel l n (lh.setIfInBounds i true) (listed.setIfInBounds i true) := by
  refine ⟨by simp [h.sh], by simp [h.sl], h.nl, fun j hj d => ?_, fun t ht ht' => by rw [getD_set_ne true (by omega)]; exact h.tail t ht ht'⟩
  by_cases hij : i = j
  · subst hij
    have h1 : i < lh.size := by rw [h.sh]; exact hi
    have h2 : i < listed.size := by rw [h.sl]; have := h.nl; omega
    simp [h1, h2]
  · rw [getD_set_ne d hij, getD_set_ne d hij]
    exact h.same j hj d
theorem wanted_head {o : Oper} {a : Act} (hg : (match o.guard with | some (j, _) => decide (j < n) | none => true) = true) :
    Region.wanted o (yielded (l.take n).toArray a.tmps) = Region.wanted o (yielded l.toArray a.tmps) := by
  unfold Region.wanted
  split
  · rfl
  · rename_i j b hj
    rw [hj] at hg
    have hlt : j < n := by simpa using hg
    simp [yielded, hlt]

theorem lift_head (hB : tailB l n = true) : ∀ (f : Nat) (lh listed : Array Bool) (a : Act) (w : World), HeadRel l n lh listed →
    wpAny P .any (l.take n).toArray (headPost P l.toArray Q (l.drop n)) f lh a w → wpAny P .any l.toArray Q (f + (l.length - n)) listed a w := by
  simp only [tailB, Bool.and_eq_true, decide_eq_true_eq] at hB
  obtain ⟨⟨⟨⟨⟨hn, hhead⟩, hsink⟩, hchain⟩, hseq⟩, _⟩ := hB
  have hop : ∀ i, i < n → ∃ o, l[i]? = some o ∧ (∀ e ∈ o.after, Region.binds .any e = true → e.on < i) ∧ (match o.guard with | some (j, _) => decide (j < n) | none => true) = true := by
    intro i hi
    have h1 := List.all_eq_true.1 hhead i (List.mem_range.2 hi)
    split at h1
    · rename_i o ho
      simp only [Bool.and_eq_true] at h1
      refine ⟨o, ho, fun e he hb => ?_, h1.2⟩
      have h2 := Array.all_eq_true'.1 h1.1 e he
      simp only [hb, Bool.not_true, Bool.false_or, decide_eq_true_eq] at h2
      exact h2
    · cases h1
  have hpre : ∀ i, i < n → (l.take n).toArray[i]? = l.toArray[i]? := by
    intro i hi
    simp [hi]
  -- behind the head: the tail
  have done : ∀ (f : Nat) (lh listed : Array Bool) (a : Act) (w : World), HeadRel l n lh listed → (∀ i, i < n → lh.getD i true = true) → headPost P l.toArray Q (l.drop n) .normal a w →
      wpAny P .any l.toArray Q (f + (l.length - n)) listed a w := by
    intro f lh listed a w hr hall h
    have he : listed = Array.replicate n true ++ Array.replicate (l.length - n) false := by
      apply Array.ext
      · simp [hr.sl]; omega
      · intro i h1 h2
        by_cases hi : i < n
        · have e1 := hr.same i hi true
          rw [hall i hi] at e1
          simp [h1] at e1
          simp [hi, e1]
        · have e1 := hr.tail i (by omega) (by rw [← hr.sl]; exact h1)
          simp [h1] at e1
          rw [Array.getElem_append_right (by simp; omega)]
          simp [e1]
    subst he
    rw [Nat.add_comm]
    refine any_more _ f _ a w ?_
    have := wpAny_of_seq (md := .any) (P := P) (Q' := Q) (ops := l.toArray) (l.drop n) n _ a w (fun j => by simp [List.getElem?_drop]) (by simpa using hseq) h
    simpa using this
  -- while the head isn't done its least operation may come up, and the tail's may not
  have least : ∀ (lh : Array Bool), lh.size = n → (¬ ∀ i, i < n → lh.getD i true = true) → Region.ready .any (l.take n).toArray lh ≠ [] := by
    intro lh hsz hnot hnil
    have hex : ∃ i, i < n ∧ lh.getD i true = false := by
      refine Classical.byContradiction fun hc => hnot fun i hi => ?_
      cases hv : lh.getD i true with
      | true => rfl
      | false => exact absurd ⟨i, hi, hv⟩ hc
    have key : ∀ m i, i ≤ m → i < n → lh.getD i true = false → False := by
      intro m
      induction m using Nat.strongRecOn with
      | _ m ih =>
        intro i him hi hv
        obtain ⟨o, ho, he, _⟩ := hop i hi
        have hin : i ∈ Region.ready .any (l.take n).toArray lh := by
          refine mem_ready.2 ⟨hv, o, by rw [hpre i hi]; simpa using ho, fun e hem hb => ?_⟩
          have hlt := he e hem hb
          cases hv2 : lh.getD e.on false with
          | true => rfl
          | false =>
            exfalso
            have : lh.getD e.on true = false := by
              have : e.on < lh.size := by omega
              simp [this] at hv2 ⊢
              exact hv2
            exact ih e.on (by omega) e.on (Nat.le_refl _) (by omega) this
        rw [hnil] at hin
        cases hin
    obtain ⟨i, hi, hv⟩ := hex
    exact key i i (Nat.le_refl _) hi hv
  have inHead : ∀ (lh listed : Array Bool), HeadRel l n lh listed → (¬ ∀ i, i < n → lh.getD i true = true) → ∀ i ∈ Region.ready .any l.toArray listed, i < n := by
    intro lh listed hr hnot i hi
    obtain ⟨hu, o, ho, hall⟩ := mem_ready.1 hi
    rcases Nat.lt_or_ge i n with hlt | hge
    · exact hlt
    · exfalso
      have hil : i < l.length := by
        have := (Array.getElem?_eq_some_iff.1 ho).1
        simpa using this
      by_cases hin : i = n
      · subst hin
        refine hnot fun j hj => ?_
        obtain ⟨o', ho', e, he, hb, hon⟩ := Region.waitsFor_spec (List.all_eq_true.1 hsink j (List.mem_range.2 hj))
        have : o' = o := Option.some.inj (ho'.symm.trans ho)
        subst this
        have h1 := hall e he hb
        rw [hon, hr.same j hj false] at h1
        have : j < lh.size := by rw [hr.sh]; exact hj
        simp [this] at h1 ⊢
        exact h1
      · have h1 := List.all_eq_true.1 hchain i (List.mem_range.2 hil)
        simp only [Bool.or_eq_true, decide_eq_true_eq] at h1
        rcases h1 with h1 | h1
        · omega
        · obtain ⟨o', ho', e, he, hb, hon⟩ := Region.waitsFor_spec h1
          have : o' = o := Option.some.inj (ho'.symm.trans ho)
          subst this
          have h2 := hall e he hb
          have h3 := hr.tail (i - 1) (by omega) (by omega)
          rw [hon] at h2
          have : i - 1 < listed.size := by rw [hr.sl]; omega
          simp [this] at h2 h3
          rw [h2] at h3
          cases h3
  intro f
  induction f with
  | zero =>
    intro lh listed a w hr h
    by_cases hall : ∀ i, i < n → lh.getD i true = true
    · exact done 0 lh listed a w hr hall h.2
    · exact absurd h.1 (least lh hr.sh hall)
  | succ f ih =>
    intro lh listed a w hr h
    by_cases hall : ∀ i, i < n → lh.getD i true = true
    · refine done (f + 1) lh listed a w hr hall (h.1 ?_)
      cases hc : Region.ready .any (l.take n).toArray lh with
      | nil => rfl
      | cons i r =>
        exfalso
        have hi : i ∈ Region.ready .any (l.take n).toArray lh := by rw [hc]; simp
        obtain ⟨hu, o, ho, _⟩ := mem_ready.1 hi
        have hin : i < n := by
          have := (Array.getElem?_eq_some_iff.1 ho).1
          simp at this
          omega
        rw [hall i hin] at hu
        cases hu
    · rw [show f + 1 + (l.length - n) = (f + (l.length - n)) + 1 by omega]
      refine ⟨fun h0 => ?_, fun i hi => ?_⟩
      · exfalso
        refine least lh hr.sh hall ?_
        cases hc : Region.ready .any (l.take n).toArray lh with
        | nil => rfl
        | cons i r =>
          exfalso
          have hi : i ∈ Region.ready .any (l.take n).toArray lh := by rw [hc]; simp
          obtain ⟨hu, o, ho, hedge⟩ := mem_ready.1 hi
          have hin : i < n := by
            have := (Array.getElem?_eq_some_iff.1 ho).1
            simp at this
            omega
          obtain ⟨o', ho', he', _⟩ := hop i hin
          have : i ∈ Region.ready .any l.toArray listed := by
            rw [hpre i hin] at ho
            have hoo : o = o' := Option.some.inj (ho.symm.trans (by simpa using ho'))
            subst hoo
            exact mem_ready.2 ⟨by rw [hr.same i hin]; exact hu, o, ho, fun e hem hb => by rw [hr.same e.on (by have := he' e hem hb; omega)]; exact hedge e hem hb⟩
          rw [h0] at this
          cases this
      · have hin := inHead lh listed hr hall i hi
        obtain ⟨hu, o, ho, hedge⟩ := mem_ready.1 hi
        obtain ⟨o', ho', he', hg'⟩ := hop i hin
        have hoo : o = o' := Option.some.inj (ho.symm.trans (by simpa using ho'))
        subst hoo
        have hi' : i ∈ Region.ready .any (l.take n).toArray lh :=
          mem_ready.2 ⟨by rw [← hr.same i hin]; exact hu, o, by rw [hpre i hin]; exact ho, fun e hem hb => by rw [← hr.same e.on (by have := he' e hem hb; omega)]; exact hedge e hem hb⟩
        have h1 := h.2 i hi'
        unfold wpOp at h1 ⊢
        rw [hpre i hin] at h1
        rw [ho] at h1 ⊢
        simp only [wanted_head hg'] at h1
        simp only
        split at h1
        · rename_i hw
          rw [if_pos hw]
          rcases h1 with h1 | ⟨h1, h2⟩
          · left
            exact upon_head (Oper.wp_mono (fun a' w' h' => ih _ _ a' w' (hr.set hin) h') h1)
          · right
            obtain ⟨a', w', h'⟩ := h2
            exact ⟨h1, a', w', h'⟩
        · rename_i hw
          rw [if_neg hw]
          exact ih _ _ _ _ (hr.set hin) h1

/-- The theorem. -/
theorem wp_region_tail {id : Nat} {a : Act} {w : World} {l : List Oper} (n : Nat) (hm : P.follows .mixedOrders = true) (hB : tailB l n = true)
    (h : wpQuiet P (l.take n).toArray (fun w' => ∃ x, w' = ext w x) (fun a' => ∀ w', (∃ x, w' = ext w x) → wpList P l.toArray Q (l.drop n) a' w') (l.take n) a) : (Code.region id l.toArray true).wp P Q a w := by
  have hB0 := hB
  simp only [tailB, Bool.and_eq_true, decide_eq_true_eq] at hB
  obtain ⟨⟨⟨⟨⟨hn, _⟩, _⟩, _⟩, _⟩, hlex⟩ := hB
  simp only [Region.lexB, Bool.and_eq_true] at hlex
  refine wp_region_any hm ?_
  have hlen : (l.take n).length = n := by simp; omega
  have h1 := wpAnyQ_lex (C := fun w' => ∃ x, w' = ext w x) (md := .any) hlex.1 (l.take n) 0 (Array.replicate (l.take n).toArray.size false) a (by simp) (by simpa using hlex.2) h
  rw [List.size_toArray, hlen] at h1
  have h2 := wpAny_of_quiet (Q' := headPost P l.toArray Q (l.drop n)) (fun a' w' hw' hq => hq w' hw') n _ a { w with drawn := w.drawn + 1 } ⟨⟨#[], w.drawn + 1⟩, by simp [ext]⟩ h1
  have h3 := lift_head hB0 n (Array.replicate n false) (Array.replicate l.length false) a _ ⟨by simp, by simp, Nat.le_of_lt hn, fun i hi d => by simp [hi, Nat.lt_trans hi hn], fun t _ ht => by simp [ht]⟩ h2
  rw [show n + (l.length - n) = l.toArray.size by simp; omega] at h3
  simpa using h3
end
end Go.Proofs.YtilkfolhglpaoaaGreat
/- Package digest: New, Load, Conf, N, Nodes. -/
namespace Go.Proofs.YtilkfolhglpaoaaGreat
open Go.ChangeShapes Go.WideShapes Go.ChangeAt Go.RowKit
set_option linter.unusedVariables false

@[go_sem] theorem run_field_conf0 (w : World) (a b c : Int) : (Instr.field 31 (.agg #[.int .i64 a, .int .i64 b, .int .i64 c]) 0).run Tryz.prog w = .ok (.int .i64 a) w := by kernel_rfl
@[go_sem] theorem run_field_conf1 (w : World) (a b c : Int) : (Instr.field 31 (.agg #[.int .i64 a, .int .i64 b, .int .i64 c]) 1).run Tryz.prog w = .ok (.int .i64 b) w := by kernel_rfl
@[go_sem] theorem run_field_conf2 (w : World) (a b c : Int) : (Instr.field 31 (.agg #[.int .i64 a, .int .i64 b, .int .i64 c]) 2).run Tryz.prog w = .ok (.int .i64 c) w := by kernel_rfl
/-- Is there a digest of that? -/
def isDig (l k K : Int) : Bool := isPool K l && decide (1 ≤ k ∧ k ≤ 1048576)
/-- The digest in block g: of the universe of l bits, k, and the kind K; it has the roll r; F: its blocks. -/
def DigAt (w : World) (g K l : Nat) (k : Int) (r : List Nd) (F : Nat → Prop) : Prop :=
  1 ≤ k ∧ k ≤ 1048576 ∧ ∃ p F0, F = footP g F0 ∧ w.heap[g]? = some (.cells #[.int .i64 k, .pointer (some ⟨p, 0, none⟩)] 131 (0, 0)) ∧ PoolAt w p K l r F0
theorem DigAt.keep {w w' : World} {g K l : Nat} {k : Int} {r : List Nd} {F : Nat → Prop} (h : DigAt w g K l k r F) (hk : ∀ b, F b → w'.heap[b]? = w.heap[b]?) : DigAt w' g K l k r F := by
  obtain ⟨h1, h2, p, F0, rfl, h3, h4⟩ := h
  exact ⟨h1, h2, p, F0, rfl, (hk g (.inl rfl)).trans h3, h4.keep fun q hq => hk q (.inr hq)⟩
theorem DigAt.lt {w : World} {g K l : Nat} {k : Int} {r : List Nd} {F : Nat → Prop} (h : DigAt w g K l k r F) : ∀ b, F b → b < w.heap.size := by
  obtain ⟨h1, h2, p, F0, rfl, h3, h4⟩ := h
  rintro q (rfl | hq)
  · exact lt_of_block h3
  · exact h4.lt q hq
theorem DigAt.below {w w' : World} {g K l : Nat} {k : Int} {r : List Nd} {F : Nat → Prop} (h : DigAt w g K l k r F) (hb : Below w.heap.size w w') : DigAt w' g K l k r F := h.keep fun b hf => hb.block b (h.lt b hf)
theorem DigAt.fits {w : World} {g K l : Nat} {k : Int} {r : List Nd} {F : Nat → Prop} (h : DigAt w g K l k r F) : Fits l r := by
  obtain ⟨h1, h2, p, F0, rfl, h3, h4⟩ := h
  exact h4.fits
theorem DigAt.l_le {w : World} {g K l : Nat} {k : Int} {r : List Nd} {F : Nat → Prop} (h : DigAt w g K l k r F) : 1 ≤ l ∧ l ≤ 48 := by
  obtain ⟨h1, h2, p, F0, rfl, h3, h4⟩ := h
  exact ⟨h4.1, h4.2.1⟩
theorem pool_Kind (w : World) (g K l : Nat) (r : List Nd) (F : Nat → Prop) (h : PoolAt w g K l r F) : Calls Tryz.prog 133 #[.pointer (some ⟨g, 0, none⟩)] w fun e w' => e = .returned (.int .i64 K) ∧ Below w.heap.size w w' := by
  obtain ⟨h1, h2, h3, p, F0, rfl, h4⟩ := h
  rcases h4 with ⟨rfl, h16, hh, hd⟩ | ⟨rfl, hh, hd⟩
  · have H := Lib.hid hh
    clear hh hd
    go_enter Tryz.func133, Tryz.ntmps133
    go_wp2_with fail
    refine (pool_isArray _ g p _ H.out).mono ?_
    rintro e w1 ⟨rfl, hb1⟩
    have B1 : Below w.heap.size w w1 := Below.then_ (by repeat (first | with_reducible exact Below.refl _ _ | with_reducible assumption | ((with_reducible refine Below.setCell ?_ ?_ _); rotate_left; · (first | omega | exact Nat.le_refl _ | (simp <;> omega))) | (with_reducible refine Below.allocW ?_ _) | (with_reducible refine Below.drew ?_) | (with_reducible refine Below.extW ?_ _))) hb1
    have s1 : w.heap.size ≤ w1.heap.size := B1.size
    go_wp2_with fail
    go_ret
    exact ⟨rfl, (by repeat (first | with_reducible exact Below.refl _ _ | with_reducible assumption | ((with_reducible refine Below.setCell ?_ ?_ _); rotate_left; · (first | omega | exact Nat.le_refl _ | (simp <;> omega))) | (with_reducible refine Below.allocW ?_ _) | (with_reducible refine Below.drew ?_) | (with_reducible refine Below.extW ?_ _)))⟩
  · have H := Lib.hid hh
    clear hh hd
    go_enter Tryz.func133, Tryz.ntmps133
    go_wp2_with fail
    refine (pool_isArray_no _ g _ H.out).mono ?_
    rintro e w1 ⟨rfl, hb1⟩
    have B1 : Below w.heap.size w w1 := Below.then_ (by repeat (first | with_reducible exact Below.refl _ _ | with_reducible assumption | ((with_reducible refine Below.setCell ?_ ?_ _); rotate_left; · (first | omega | exact Nat.le_refl _ | (simp <;> omega))) | (with_reducible refine Below.allocW ?_ _) | (with_reducible refine Below.drew ?_) | (with_reducible refine Below.extW ?_ _))) hb1
    have s1 : w.heap.size ≤ w1.heap.size := B1.size
    go_wp2_with fail
    go_ret
    exact ⟨rfl, (by repeat (first | with_reducible exact Below.refl _ _ | with_reducible assumption | ((with_reducible refine Below.setCell ?_ ?_ _); rotate_left; · (first | omega | exact Nat.le_refl _ | (simp <;> omega))) | (with_reducible refine Below.allocW ?_ _) | (with_reducible refine Below.drew ?_) | (with_reducible refine Below.extW ?_ _)))⟩

theorem digest_New_no (w : World) (l k K : Int) (h : isDig l k K = false) : Calls Tryz.prog 123 #[.agg #[.int .i64 l, .int .i64 k, .int .i64 K]] w fun e w' => e = .returned (.tuple #[.pointer none, .int .i64 2]) ∧ Below w.heap.size w w' := by
  cases hp : isPool K l
  · have HC := Lib.hid (pool_New_no · K l hp)
    clear hp h
    go_enter Tryz.func123, Tryz.ntmps123
    go_wp2_with fail
    refine (HC.out _).mono ?_
    rintro e w1 ⟨rfl, hb1⟩
    have B1 : Below w.heap.size w w1 := Below.then_ (by repeat (first | with_reducible exact Below.refl _ _ | with_reducible assumption | ((with_reducible refine Below.setCell ?_ ?_ _); rotate_left; · (first | omega | exact Nat.le_refl _ | (simp <;> omega))) | (with_reducible refine Below.allocW ?_ _) | (with_reducible refine Below.drew ?_) | (with_reducible refine Below.extW ?_ _))) hb1
    have s1 : w.heap.size ≤ w1.heap.size := B1.size
    have z1_0 : w.heap.size < w1.heap.size := by have := hb1.size; (try simp at this); omega
    have y1_0 : w.heap.size ≤ w1.heap.size := Nat.le_of_lt z1_0
    have c1_0 := fun o => hb1.cell (p := ⟨w.heap.size, o, none⟩) (by first | omega | (simp <;> omega))
    have f1_0 := fun o => hb1.frozen (p := ⟨w.heap.size, o, none⟩) (by first | omega | (simp <;> omega))
    go_wp2_with fail
    go_ret2
    exact ⟨rfl, (by repeat (first | with_reducible exact Below.refl _ _ | with_reducible assumption | ((with_reducible refine Below.setCell ?_ ?_ _); rotate_left; · (first | omega | exact Nat.le_refl _ | (simp <;> omega))) | (with_reducible refine Below.allocW ?_ _) | (with_reducible refine Below.drew ?_) | (with_reducible refine Below.extW ?_ _)))⟩
  · have hk : ¬ (1 ≤ k ∧ k ≤ 1048576) := by simpa [isDig, hp] using h
    have hp' := hp
    simp only [isPool, decide_eq_true_eq] at hp'
    obtain ⟨n, rfl⟩ := Int.eq_ofNat_of_zero_le (show 0 ≤ l by omega)
    obtain ⟨m, rfl⟩ := Int.eq_ofNat_of_zero_le (show 0 ≤ K by omega)
    have HC := Lib.hid (pool_New · m n hp)
    clear hp h hp'
    by_cases hk1 : k < 1
    · clear hk
      go_enter Tryz.func123, Tryz.ntmps123
      go_wp2_with fail
      refine (HC.out _).mono ?_
      rintro e w1 ⟨g, F, rfl, _, _, hb1⟩
      have B1 : Below w.heap.size w w1 := Below.then_ (by repeat (first | with_reducible exact Below.refl _ _ | with_reducible assumption | ((with_reducible refine Below.setCell ?_ ?_ _); rotate_left; · (first | omega | exact Nat.le_refl _ | (simp <;> omega))) | (with_reducible refine Below.allocW ?_ _) | (with_reducible refine Below.drew ?_) | (with_reducible refine Below.extW ?_ _))) hb1
      have s1 : w.heap.size ≤ w1.heap.size := B1.size
      have z1_0 : w.heap.size < w1.heap.size := by have := hb1.size; (try simp at this); omega
      have y1_0 : w.heap.size ≤ w1.heap.size := Nat.le_of_lt z1_0
      have c1_0 := fun o => hb1.cell (p := ⟨w.heap.size, o, none⟩) (by first | omega | (simp <;> omega))
      have f1_0 := fun o => hb1.frozen (p := ⟨w.heap.size, o, none⟩) (by first | omega | (simp <;> omega))
      go_wp2_with fail
      go_ret2
      exact ⟨rfl, (by repeat (first | with_reducible exact Below.refl _ _ | with_reducible assumption | ((with_reducible refine Below.setCell ?_ ?_ _); rotate_left; · (first | omega | exact Nat.le_refl _ | (simp <;> omega))) | (with_reducible refine Below.allocW ?_ _) | (with_reducible refine Below.drew ?_) | (with_reducible refine Below.extW ?_ _)))⟩
    · have hk2 : 1048576 < k := by omega
      clear hk
      go_enter Tryz.func123, Tryz.ntmps123
      go_wp2_with fail
      refine (HC.out _).mono ?_
      rintro e w1 ⟨g, F, rfl, _, _, hb1⟩
      have B1 : Below w.heap.size w w1 := Below.then_ (by repeat (first | with_reducible exact Below.refl _ _ | with_reducible assumption | ((with_reducible refine Below.setCell ?_ ?_ _); rotate_left; · (first | omega | exact Nat.le_refl _ | (simp <;> omega))) | (with_reducible refine Below.allocW ?_ _) | (with_reducible refine Below.drew ?_) | (with_reducible refine Below.extW ?_ _))) hb1
      have s1 : w.heap.size ≤ w1.heap.size := B1.size
      have z1_0 : w.heap.size < w1.heap.size := by have := hb1.size; (try simp at this); omega
      have y1_0 : w.heap.size ≤ w1.heap.size := Nat.le_of_lt z1_0
      have c1_0 := fun o => hb1.cell (p := ⟨w.heap.size, o, none⟩) (by first | omega | (simp <;> omega))
      have f1_0 := fun o => hb1.frozen (p := ⟨w.heap.size, o, none⟩) (by first | omega | (simp <;> omega))
      go_wp2_with fail
      go_ret2
      exact ⟨rfl, (by repeat (first | with_reducible exact Below.refl _ _ | with_reducible assumption | ((with_reducible refine Below.setCell ?_ ?_ _); rotate_left; · (first | omega | exact Nat.le_refl _ | (simp <;> omega))) | (with_reducible refine Below.allocW ?_ _) | (with_reducible refine Below.drew ?_) | (with_reducible refine Below.extW ?_ _)))⟩
/-- A new digest. -/
def DigPost (K l : Nat) (k : Int) (r : List Nd) (w : World) (e : Ending) (w' : World) : Prop := ∃ g F, e = .returned (.tuple #[.pointer (some ⟨g, 0, none⟩), .int .i64 0]) ∧ DigAt w' g K l k r F ∧ (∀ b, F b → w.heap.size ≤ b) ∧ Below w.heap.size w w'
theorem digest_New (w : World) (l K : Nat) (k : Int) (h : isDig l k K = true) : Calls Tryz.prog 123 #[.agg #[.int .i64 l, .int .i64 k, .int .i64 K]] w (DigPost K l k [] w) := by
  simp only [isDig, Bool.and_eq_true, decide_eq_true_eq] at h
  obtain ⟨hp, hk1, hk2⟩ := h
  have HC := Lib.hid (pool_New · K l hp)
  clear hp
  go_enter Tryz.func123, Tryz.ntmps123
  go_wp2_with fail
  refine (HC.out _).mono ?_
  rintro e w1 ⟨g, F, rfl, hP, hF, hb1⟩
  have B1 : Below w.heap.size w w1 := Below.then_ (by repeat (first | with_reducible exact Below.refl _ _ | with_reducible assumption | ((with_reducible refine Below.setCell ?_ ?_ _); rotate_left; · (first | omega | exact Nat.le_refl _ | (simp <;> omega))) | (with_reducible refine Below.allocW ?_ _) | (with_reducible refine Below.drew ?_) | (with_reducible refine Below.extW ?_ _))) hb1
  have s1 : w.heap.size ≤ w1.heap.size := B1.size
  have z1_0 : w.heap.size < w1.heap.size := by have := hb1.size; (try simp at this); omega
  have y1_0 : w.heap.size ≤ w1.heap.size := Nat.le_of_lt z1_0
  have c1_0 := fun o => hb1.cell (p := ⟨w.heap.size, o, none⟩) (by first | omega | (simp <;> omega))
  have f1_0 := fun o => hb1.frozen (p := ⟨w.heap.size, o, none⟩) (by first | omega | (simp <;> omega))
  have HP := Lib.hid hP
  simp only [World.size_alloc] at hF
  have HF := Lib.hid hF
  clear hP hF
  go_wp2_with fail
  go_ret2
  refine ⟨w1.heap.size, footP w1.heap.size F, rfl, ⟨hk1, hk2, g, F, rfl, heap_new_at w1 _ _ rfl, HP.out.below ((Below.refl _ _).alloc (Nat.le_refl _) _)⟩, ?_, (by repeat (first | with_reducible exact Below.refl _ _ | with_reducible assumption | ((with_reducible refine Below.setCell ?_ ?_ _); rotate_left; · (first | omega | exact Nat.le_refl _ | (simp <;> omega))) | (with_reducible refine Below.allocW ?_ _) | (with_reducible refine Below.drew ?_) | (with_reducible refine Below.extW ?_ _)))⟩
  rintro b (rfl | hb)
  · exact s1
  · have := HF.out b hb; omega
/-- The error of Load; 0: none. -/
def loadErr (l k K : Int) (r : List Nd) : Int := if isDig l k K = false then 2 else if rightOf l r = false then 10 else if 8 * k < r.length then 13 else if lightOf l r k = false then 13 else 0
theorem digest_Load_no (w : World) (l k K : Int) (A : Option Addr) (cap : Nat) (r : List Nd) (h : loadErr l k K r ≠ 0) (hS : Sl w w.heap.size encN A r) (hI : ints r) (hn : r.length < 67108864) :
    Calls Tryz.prog 54 #[.agg #[.int .i64 l, .int .i64 k, .int .i64 K], .slice A r.length cap] w fun e w' => e = .returned (.tuple #[.pointer none, .int .i64 (loadErr l k K r)]) ∧ Below w.heap.size w w' := by
  cases hd : isDig l k K
  · have e1 : loadErr l k K r = 2 := by simp only [loadErr]; rw [if_pos hd]
    rw [e1]
    have HC := Lib.hid (digest_New_no · l k K hd)
    clear hd h e1 hS hI
    go_enter Tryz.func54, Tryz.ntmps54
    go_wp2_with fail
    refine (HC.out _).mono ?_
    rintro e w1 ⟨rfl, hb1⟩
    have B1 : Below w.heap.size w w1 := Below.then_ (by repeat (first | with_reducible exact Below.refl _ _ | with_reducible assumption | ((with_reducible refine Below.setCell ?_ ?_ _); rotate_left; · (first | omega | exact Nat.le_refl _ | (simp <;> omega))) | (with_reducible refine Below.allocW ?_ _) | (with_reducible refine Below.drew ?_) | (with_reducible refine Below.extW ?_ _))) hb1
    have s1 : w.heap.size ≤ w1.heap.size := B1.size
    have z1_0 : w.heap.size < w1.heap.size := by have := hb1.size; (try simp at this); omega
    have y1_0 : w.heap.size ≤ w1.heap.size := Nat.le_of_lt z1_0
    have c1_0 := fun o => hb1.cell (p := ⟨w.heap.size, o, none⟩) (by first | omega | (simp <;> omega))
    have f1_0 := fun o => hb1.frozen (p := ⟨w.heap.size, o, none⟩) (by first | omega | (simp <;> omega))
    go_wp2_with fail
    go_ret2
    exact ⟨rfl, (by repeat (first | with_reducible exact Below.refl _ _ | with_reducible assumption | ((with_reducible refine Below.setCell ?_ ?_ _); rotate_left; · (first | omega | exact Nat.le_refl _ | (simp <;> omega))) | (with_reducible refine Below.allocW ?_ _) | (with_reducible refine Below.drew ?_) | (with_reducible refine Below.extW ?_ _)))⟩
  · have hp' := hd
    simp only [isDig, isPool, Bool.and_eq_true, decide_eq_true_eq] at hp'
    obtain ⟨n, rfl⟩ := Int.eq_ofNat_of_zero_le (show 0 ≤ l by omega)
    obtain ⟨m, rfl⟩ := Int.eq_ofNat_of_zero_le (show 0 ≤ K by omega)
    have HC := Lib.hid (digest_New · n m k hd)
    have HR := Lib.hid (roll_Right · n A cap r · hI (by unfold maxLen; omega))
    have HS := Lib.hid hS
    have hpl : isPool m n = true := by simp only [isDig, Bool.and_eq_true] at hd; exact hd.1
    obtain ⟨_, hk1, hk2⟩ := hp'
    cases hr : rightOf n r
    · have e1 : loadErr n k m r = 10 := by simp only [loadErr]; rw [if_neg (by simp [hd]), if_pos hr]
      rw [e1]
      rw [hr] at HR
      clear hd h e1 hS hr hI hpl
      go_enter Tryz.func54, Tryz.ntmps54
      go_wp2_with fail
      refine (HC.out _).mono ?_
      rintro e w1 ⟨g, F, rfl, _, _, hb1⟩
      have B1 : Below w.heap.size w w1 := Below.then_ (by repeat (first | with_reducible exact Below.refl _ _ | with_reducible assumption | ((with_reducible refine Below.setCell ?_ ?_ _); rotate_left; · (first | omega | exact Nat.le_refl _ | (simp <;> omega))) | (with_reducible refine Below.allocW ?_ _) | (with_reducible refine Below.drew ?_) | (with_reducible refine Below.extW ?_ _))) hb1
      have s1 : w.heap.size ≤ w1.heap.size := B1.size
      have z1_0 : w.heap.size < w1.heap.size := by have := hb1.size; (try simp at this); omega
      have y1_0 : w.heap.size ≤ w1.heap.size := Nat.le_of_lt z1_0
      have c1_0 := fun o => hb1.cell (p := ⟨w.heap.size, o, none⟩) (by first | omega | (simp <;> omega))
      have f1_0 := fun o => hb1.frozen (p := ⟨w.heap.size, o, none⟩) (by first | omega | (simp <;> omega))
      go_wp2_with fail
      refine (HR.out _ (HS.out.keep s1 fun p hp => B1.cell hp)).mono ?_
      rintro e w2 ⟨rfl, hb2⟩
      have B2 : Below w.heap.size w w2 := Below.then_ (by repeat (first | with_reducible exact Below.refl _ _ | with_reducible assumption | ((with_reducible refine Below.setCell ?_ ?_ _); rotate_left; · (first | omega | exact Nat.le_refl _ | (simp <;> omega))) | (with_reducible refine Below.allocW ?_ _) | (with_reducible refine Below.drew ?_) | (with_reducible refine Below.extW ?_ _))) hb2
      have s2 : w.heap.size ≤ w2.heap.size := B2.size
      have z2_0 : w.heap.size < w2.heap.size := by have := hb2.size; (try simp at this); omega
      have y2_0 : w.heap.size ≤ w2.heap.size := Nat.le_of_lt z2_0
      have c2_0 := fun o => hb2.cell (p := ⟨w.heap.size, o, none⟩) (by first | omega | (simp <;> omega))
      have f2_0 := fun o => hb2.frozen (p := ⟨w.heap.size, o, none⟩) (by first | omega | (simp <;> omega))
      go_wp2_with fail
      go_ret2
      exact ⟨rfl, (by repeat (first | with_reducible exact Below.refl _ _ | with_reducible assumption | ((with_reducible refine Below.setCell ?_ ?_ _); rotate_left; · (first | omega | exact Nat.le_refl _ | (simp <;> omega))) | (with_reducible refine Below.allocW ?_ _) | (with_reducible refine Below.drew ?_) | (with_reducible refine Below.extW ?_ _)))⟩
    · have HL := Lib.hid (pool_Load · m n A cap r hpl hr · hI hn)
      by_cases h8 : 8 * k < r.length
      · have e1 : loadErr n k m r = 13 := by simp only [loadErr]; rw [if_neg (by simp [hd]), if_neg (by simp [hr]), if_pos h8]
        rw [e1]
        rw [hr] at HR
        clear hd h e1 hS hr hI hpl
        go_enter Tryz.func54, Tryz.ntmps54
        go_wp2_with fail
        refine (HC.out _).mono ?_
        rintro e w1 ⟨g, F, rfl, _, _, hb1⟩
        have B1 : Below w.heap.size w w1 := Below.then_ (by repeat (first | with_reducible exact Below.refl _ _ | with_reducible assumption | ((with_reducible refine Below.setCell ?_ ?_ _); rotate_left; · (first | omega | exact Nat.le_refl _ | (simp <;> omega))) | (with_reducible refine Below.allocW ?_ _) | (with_reducible refine Below.drew ?_) | (with_reducible refine Below.extW ?_ _))) hb1
        have s1 : w.heap.size ≤ w1.heap.size := B1.size
        have z1_0 : w.heap.size < w1.heap.size := by have := hb1.size; (try simp at this); omega
        have y1_0 : w.heap.size ≤ w1.heap.size := Nat.le_of_lt z1_0
        have c1_0 := fun o => hb1.cell (p := ⟨w.heap.size, o, none⟩) (by first | omega | (simp <;> omega))
        have f1_0 := fun o => hb1.frozen (p := ⟨w.heap.size, o, none⟩) (by first | omega | (simp <;> omega))
        go_wp2_with fail
        refine (HR.out _ (HS.out.keep s1 fun p hp => B1.cell hp)).mono ?_
        rintro e w2 ⟨rfl, hb2⟩
        have B2 : Below w.heap.size w w2 := Below.then_ (by repeat (first | with_reducible exact Below.refl _ _ | with_reducible assumption | ((with_reducible refine Below.setCell ?_ ?_ _); rotate_left; · (first | omega | exact Nat.le_refl _ | (simp <;> omega))) | (with_reducible refine Below.allocW ?_ _) | (with_reducible refine Below.drew ?_) | (with_reducible refine Below.extW ?_ _))) hb2
        have s2 : w.heap.size ≤ w2.heap.size := B2.size
        have z2_0 : w.heap.size < w2.heap.size := by have := hb2.size; (try simp at this); omega
        have y2_0 : w.heap.size ≤ w2.heap.size := Nat.le_of_lt z2_0
        have c2_0 := fun o => hb2.cell (p := ⟨w.heap.size, o, none⟩) (by first | omega | (simp <;> omega))
        have f2_0 := fun o => hb2.frozen (p := ⟨w.heap.size, o, none⟩) (by first | omega | (simp <;> omega))
        go_wp2_with fail
        go_ret2
        exact ⟨rfl, (by repeat (first | with_reducible exact Below.refl _ _ | with_reducible assumption | ((with_reducible refine Below.setCell ?_ ?_ _); rotate_left; · (first | omega | exact Nat.le_refl _ | (simp <;> omega))) | (with_reducible refine Below.allocW ?_ _) | (with_reducible refine Below.drew ?_) | (with_reducible refine Below.extW ?_ _)))⟩
      · have hl : lightOf n r k = false := by
          cases hl : lightOf n r k
          · rfl
          · exact absurd (by simp only [loadErr]; rw [if_neg (by simp [hd]), if_neg (by simp [hr]), if_neg h8, if_neg (by simp [hl])]) h
        have e1 : loadErr n k m r = 13 := by simp only [loadErr]; rw [if_neg (by simp [hd]), if_neg (by simp [hr]), if_neg h8, if_pos hl]
        rw [e1]
        rw [hr] at HR
        have HLF := Lib.hid hl
        clear hd h e1 hS hr hI hpl hl
        go_enter Tryz.func54, Tryz.ntmps54
        go_wp2_with fail
        refine (HC.out _).mono ?_
        rintro e w1 ⟨g, F, rfl, _, _, hb1⟩
        have B1 : Below w.heap.size w w1 := Below.then_ (by repeat (first | with_reducible exact Below.refl _ _ | with_reducible assumption | ((with_reducible refine Below.setCell ?_ ?_ _); rotate_left; · (first | omega | exact Nat.le_refl _ | (simp <;> omega))) | (with_reducible refine Below.allocW ?_ _) | (with_reducible refine Below.drew ?_) | (with_reducible refine Below.extW ?_ _))) hb1
        have s1 : w.heap.size ≤ w1.heap.size := B1.size
        have z1_0 : w.heap.size < w1.heap.size := by have := hb1.size; (try simp at this); omega
        have y1_0 : w.heap.size ≤ w1.heap.size := Nat.le_of_lt z1_0
        have c1_0 := fun o => hb1.cell (p := ⟨w.heap.size, o, none⟩) (by first | omega | (simp <;> omega))
        have f1_0 := fun o => hb1.frozen (p := ⟨w.heap.size, o, none⟩) (by first | omega | (simp <;> omega))
        go_wp2_with fail
        refine (HR.out _ (HS.out.keep s1 fun p hp => B1.cell hp)).mono ?_
        rintro e w2 ⟨rfl, hb2⟩
        have B2 : Below w.heap.size w w2 := Below.then_ (by repeat (first | with_reducible exact Below.refl _ _ | with_reducible assumption | ((with_reducible refine Below.setCell ?_ ?_ _); rotate_left; · (first | omega | exact Nat.le_refl _ | (simp <;> omega))) | (with_reducible refine Below.allocW ?_ _) | (with_reducible refine Below.drew ?_) | (with_reducible refine Below.extW ?_ _))) hb2
        have s2 : w.heap.size ≤ w2.heap.size := B2.size
        have z2_0 : w.heap.size < w2.heap.size := by have := hb2.size; (try simp at this); omega
        have y2_0 : w.heap.size ≤ w2.heap.size := Nat.le_of_lt z2_0
        have c2_0 := fun o => hb2.cell (p := ⟨w.heap.size, o, none⟩) (by first | omega | (simp <;> omega))
        have f2_0 := fun o => hb2.frozen (p := ⟨w.heap.size, o, none⟩) (by first | omega | (simp <;> omega))
        go_wp2_with fail
        refine (HL.out _ (HS.out.keep s2 fun p hp => B2.cell hp)).mono ?_
        rintro e w3 ⟨gp, Fp, rfl, hP, _, hb3⟩
        have B3 : Below w.heap.size w w3 := Below.then_ (by repeat (first | with_reducible exact Below.refl _ _ | with_reducible assumption | ((with_reducible refine Below.setCell ?_ ?_ _); rotate_left; · (first | omega | exact Nat.le_refl _ | (simp <;> omega))) | (with_reducible refine Below.allocW ?_ _) | (with_reducible refine Below.drew ?_) | (with_reducible refine Below.extW ?_ _))) hb3
        have s3 : w.heap.size ≤ w3.heap.size := B3.size
        have z3_0 : w.heap.size < w3.heap.size := by have := hb3.size; (try simp at this); omega
        have y3_0 : w.heap.size ≤ w3.heap.size := Nat.le_of_lt z3_0
        have c3_0 := fun o => hb3.cell (p := ⟨w.heap.size, o, none⟩) (by first | omega | (simp <;> omega))
        have f3_0 := fun o => hb3.frozen (p := ⟨w.heap.size, o, none⟩) (by first | omega | (simp <;> omega))
        have KP := Lib.hid hP
        clear hP
        go_wp2_with fail
        refine (press_Light _ gp m n r Fp k KP.out hk1 hk2 (by omega)).mono ?_
        rintro e w4 ⟨rfl, hb4⟩
        have B4 : Below w.heap.size w w4 := Below.then_ (by repeat (first | with_reducible exact Below.refl _ _ | with_reducible assumption | ((with_reducible refine Below.setCell ?_ ?_ _); rotate_left; · (first | omega | exact Nat.le_refl _ | (simp <;> omega))) | (with_reducible refine Below.allocW ?_ _) | (with_reducible refine Below.drew ?_) | (with_reducible refine Below.extW ?_ _))) hb4
        have s4 : w.heap.size ≤ w4.heap.size := B4.size
        have z4_0 : w.heap.size < w4.heap.size := by have := hb4.size; (try simp at this); omega
        have y4_0 : w.heap.size ≤ w4.heap.size := Nat.le_of_lt z4_0
        have c4_0 := fun o => hb4.cell (p := ⟨w.heap.size, o, none⟩) (by first | omega | (simp <;> omega))
        have f4_0 := fun o => hb4.frozen (p := ⟨w.heap.size, o, none⟩) (by first | omega | (simp <;> omega))
        rw [HLF.out]
        go_wp2_with fail
        go_ret2
        exact ⟨rfl, (by repeat (first | with_reducible exact Below.refl _ _ | with_reducible assumption | ((with_reducible refine Below.setCell ?_ ?_ _); rotate_left; · (first | omega | exact Nat.le_refl _ | (simp <;> omega))) | (with_reducible refine Below.allocW ?_ _) | (with_reducible refine Below.drew ?_) | (with_reducible refine Below.extW ?_ _)))⟩
theorem digest_Load (w : World) (l K : Nat) (k : Int) (A : Option Addr) (cap : Nat) (r : List Nd) (h : loadErr l k K r = 0) (hS : Sl w w.heap.size encN A r) (hI : ints r) (hn : r.length < 67108864) :
    Calls Tryz.prog 54 #[.agg #[.int .i64 l, .int .i64 k, .int .i64 K], .slice A r.length cap] w (DigPost K l k r w) := by
  have hd : isDig l k K = true := by
    cases hd : isDig l k K
    · simp only [loadErr] at h; rw [if_pos hd] at h; cases h
    · rfl
  have hr : rightOf l r = true := by
    cases hr : rightOf l r
    · simp only [loadErr] at h; rw [if_neg (by simp [hd]), if_pos hr] at h; cases h
    · rfl
  have h8 : ¬ 8 * k < r.length := by
    intro h8
    simp only [loadErr] at h
    rw [if_neg (by simp [hd]), if_neg (by simp [hr]), if_pos h8] at h
    cases h
  have hl : lightOf l r k = true := by
    cases hl : lightOf l r k
    · simp only [loadErr] at h; rw [if_neg (by simp [hd]), if_neg (by simp [hr]), if_neg h8, if_pos hl] at h; cases h
    · rfl
  have HC := Lib.hid (digest_New · l K k hd)
  have HR := Lib.hid (roll_Right · l A cap r · hI (by unfold maxLen; omega))
  have HS := Lib.hid hS
  have hpl : isPool K l = true := by simp only [isDig, Bool.and_eq_true] at hd; exact hd.1
  have HL := Lib.hid (pool_Load · K l A cap r hpl hr · hI hn)
  simp only [isDig, Bool.and_eq_true, decide_eq_true_eq] at hd
  obtain ⟨_, hk1, hk2⟩ := hd
  rw [hr] at HR
  have HLF := Lib.hid hl
  clear h hS hr hI hpl hl
  go_enter Tryz.func54, Tryz.ntmps54
  go_wp2_with fail
  refine (HC.out _).mono ?_
  rintro e w1 ⟨g, F, rfl, _, _, hb1⟩
  have B1 : Below w.heap.size w w1 := Below.then_ (by repeat (first | with_reducible exact Below.refl _ _ | with_reducible assumption | ((with_reducible refine Below.setCell ?_ ?_ _); rotate_left; · (first | omega | exact Nat.le_refl _ | (simp <;> omega))) | (with_reducible refine Below.allocW ?_ _) | (with_reducible refine Below.drew ?_) | (with_reducible refine Below.extW ?_ _))) hb1
  have s1 : w.heap.size ≤ w1.heap.size := B1.size
  have z1_0 : w.heap.size < w1.heap.size := by have := hb1.size; (try simp at this); omega
  have y1_0 : w.heap.size ≤ w1.heap.size := Nat.le_of_lt z1_0
  have c1_0 := fun o => hb1.cell (p := ⟨w.heap.size, o, none⟩) (by first | omega | (simp <;> omega))
  have f1_0 := fun o => hb1.frozen (p := ⟨w.heap.size, o, none⟩) (by first | omega | (simp <;> omega))
  go_wp2_with fail
  refine (HR.out _ (HS.out.keep s1 fun p hp => B1.cell hp)).mono ?_
  rintro e w2 ⟨rfl, hb2⟩
  have B2 : Below w.heap.size w w2 := Below.then_ (by repeat (first | with_reducible exact Below.refl _ _ | with_reducible assumption | ((with_reducible refine Below.setCell ?_ ?_ _); rotate_left; · (first | omega | exact Nat.le_refl _ | (simp <;> omega))) | (with_reducible refine Below.allocW ?_ _) | (with_reducible refine Below.drew ?_) | (with_reducible refine Below.extW ?_ _))) hb2
  have s2 : w.heap.size ≤ w2.heap.size := B2.size
  have z2_0 : w.heap.size < w2.heap.size := by have := hb2.size; (try simp at this); omega
  have y2_0 : w.heap.size ≤ w2.heap.size := Nat.le_of_lt z2_0
  have c2_0 := fun o => hb2.cell (p := ⟨w.heap.size, o, none⟩) (by first | omega | (simp <;> omega))
  have f2_0 := fun o => hb2.frozen (p := ⟨w.heap.size, o, none⟩) (by first | omega | (simp <;> omega))
  go_wp2_with fail
  refine (HL.out _ (HS.out.keep s2 fun p hp => B2.cell hp)).mono ?_
  rintro e w3 ⟨gp, Fp, rfl, hP, hF, hb3⟩
  have B3 : Below w.heap.size w w3 := Below.then_ (by repeat (first | with_reducible exact Below.refl _ _ | with_reducible assumption | ((with_reducible refine Below.setCell ?_ ?_ _); rotate_left; · (first | omega | exact Nat.le_refl _ | (simp <;> omega))) | (with_reducible refine Below.allocW ?_ _) | (with_reducible refine Below.drew ?_) | (with_reducible refine Below.extW ?_ _))) hb3
  have s3 : w.heap.size ≤ w3.heap.size := B3.size
  have z3_0 : w.heap.size < w3.heap.size := by have := hb3.size; (try simp at this); omega
  have y3_0 : w.heap.size ≤ w3.heap.size := Nat.le_of_lt z3_0
  have c3_0 := fun o => hb3.cell (p := ⟨w.heap.size, o, none⟩) (by first | omega | (simp <;> omega))
  have f3_0 := fun o => hb3.frozen (p := ⟨w.heap.size, o, none⟩) (by first | omega | (simp <;> omega))
  have KP := Lib.hid hP
  have KF := Lib.hid hF
  clear hP hF
  go_wp2_with fail
  refine (press_Light _ gp K l r Fp k KP.out hk1 hk2 (by omega)).mono ?_
  rintro e w4 ⟨rfl, hb4⟩
  have B4 : Below w.heap.size w w4 := Below.then_ (by repeat (first | with_reducible exact Below.refl _ _ | with_reducible assumption | ((with_reducible refine Below.setCell ?_ ?_ _); rotate_left; · (first | omega | exact Nat.le_refl _ | (simp <;> omega))) | (with_reducible refine Below.allocW ?_ _) | (with_reducible refine Below.drew ?_) | (with_reducible refine Below.extW ?_ _))) hb4
  have s4 : w.heap.size ≤ w4.heap.size := B4.size
  have z4_0 : w.heap.size < w4.heap.size := by have := hb4.size; (try simp at this); omega
  have y4_0 : w.heap.size ≤ w4.heap.size := Nat.le_of_lt z4_0
  have c4_0 := fun o => hb4.cell (p := ⟨w.heap.size, o, none⟩) (by first | omega | (simp <;> omega))
  have f4_0 := fun o => hb4.frozen (p := ⟨w.heap.size, o, none⟩) (by first | omega | (simp <;> omega))
  rw [HLF.out]
  have KP4 := Lib.hid (KP.out.below hb4)
  clear KP
  go_wp2_with fail
  go_ret2
  refine ⟨w4.heap.size, footP w4.heap.size Fp, rfl, ⟨hk1, hk2, gp, Fp, rfl, heap_new_at w4 _ _ rfl, KP4.out.below ((Below.refl _ _).alloc (Nat.le_refl _) _)⟩, ?_, (by repeat (first | with_reducible exact Below.refl _ _ | with_reducible assumption | ((with_reducible refine Below.setCell ?_ ?_ _); rotate_left; · (first | omega | exact Nat.le_refl _ | (simp <;> omega))) | (with_reducible refine Below.allocW ?_ _) | (with_reducible refine Below.drew ?_) | (with_reducible refine Below.extW ?_ _)))⟩
  rintro b (rfl | hb)
  · exact s4
  · have := KF.out b hb; omega
theorem digest_N (w : World) (g K l : Nat) (k : Int) (r : List Nd) (F : Nat → Prop) (h : DigAt w g K l k r F) : Calls Tryz.prog 30 #[.pointer (some ⟨g, 0, none⟩)] w fun e w' => e = .returned (.int .i64 (sumR r)) ∧ Below w.heap.size w w' := by
  obtain ⟨h1, h2, p, F0, rfl, hh, hP⟩ := h
  have c := blk_cell hh
  have z := lt_of_block hh
  have HP := Lib.hid hP
  clear hh hP
  go_enter Tryz.func30, Tryz.ntmps30
  go_wp2_with fail
  refine (pool_Total _ p K l r F0 HP.out).mono ?_
  rintro e w1 ⟨rfl, hb1⟩
  have B1 : Below w.heap.size w w1 := Below.then_ (by repeat (first | with_reducible exact Below.refl _ _ | with_reducible assumption | ((with_reducible refine Below.setCell ?_ ?_ _); rotate_left; · (first | omega | exact Nat.le_refl _ | (simp <;> omega))) | (with_reducible refine Below.allocW ?_ _) | (with_reducible refine Below.drew ?_) | (with_reducible refine Below.extW ?_ _))) hb1
  have s1 : w.heap.size ≤ w1.heap.size := B1.size
  go_wp2_with fail
  go_ret
  exact ⟨rfl, (by repeat (first | with_reducible exact Below.refl _ _ | with_reducible assumption | ((with_reducible refine Below.setCell ?_ ?_ _); rotate_left; · (first | omega | exact Nat.le_refl _ | (simp <;> omega))) | (with_reducible refine Below.allocW ?_ _) | (with_reducible refine Below.drew ?_) | (with_reducible refine Below.extW ?_ _)))⟩
theorem digest_Nodes (w : World) (g K l : Nat) (k : Int) (r : List Nd) (F : Nat → Prop) (h : DigAt w g K l k r F) (hn : r.length ≤ 67108864) : Calls Tryz.prog 143 #[.pointer (some ⟨g, 0, none⟩)] w (OwnPost 102 encN r w) := by
  obtain ⟨h1, h2, p, F0, rfl, hh, hP⟩ := h
  have c := blk_cell hh
  have z := lt_of_block hh
  have HP := Lib.hid hP
  clear hh hP
  go_enter Tryz.func143, Tryz.ntmps143
  go_wp2_with fail
  refine (pool_Snap _ p K l r F0 HP.out hn).mono ?_
  rintro e w1 ⟨v, rfl, ho, hb⟩
  have HO := Lib.hid ho
  clear ho
  go_wp2_with fail
  go_ret
  exact ⟨_, rfl, HO.out, hb⟩
theorem digest_Conf (w : World) (g K l : Nat) (k : Int) (r : List Nd) (F : Nat → Prop) (h : DigAt w g K l k r F) : Calls Tryz.prog 59 #[.pointer (some ⟨g, 0, none⟩)] w fun e w' => e = .returned (.agg #[.int .i64 l, .int .i64 k, .int .i64 K]) ∧ Below w.heap.size w w' := by
  obtain ⟨h1, h2, p, F0, rfl, hh, hP⟩ := h
  have c := blk_cell hh
  have z := lt_of_block hh
  have hPA := hP.below ((Below.refl w.heap.size w).alloc (Nat.le_refl _) (.cells #[.int .i64 0, .int .i64 0, .int .i64 0] 31))
  have HP := Lib.hid hPA
  clear hh hP hPA
  go_enter Tryz.func59, Tryz.ntmps59
  go_wp2_with fail
  refine wp_region_tail 18 (by kernel_rfl) (by kernel_rfl) ?_; simp only [List.take_succ_cons, List.take_zero, List.drop_succ_cons, List.drop_zero]
  repeat (go_big_quiet_step (first | (go_at_call 132; exact quiet_ext (pool_L _ p K l r F0 (HP.out.below (ext_below _ _)))) | (go_at_call 133; exact quiet_ext (pool_Kind _ p K l r F0 (HP.out.below (ext_below _ _))))))
  refine wpQuiet_nil ?_
  intro w1 hb1
  replace hb1 := below_of_ext hb1
  have B1 : Below w.heap.size w w1 := Below.then_ (by repeat (first | with_reducible exact Below.refl _ _ | with_reducible assumption | ((with_reducible refine Below.setCell ?_ ?_ _); rotate_left; · (first | omega | exact Nat.le_refl _ | (simp <;> omega))) | (with_reducible refine Below.allocW ?_ _) | (with_reducible refine Below.drew ?_) | (with_reducible refine Below.extW ?_ _))) hb1
  have s1 : w.heap.size ≤ w1.heap.size := B1.size
  have z1_0 : w.heap.size < w1.heap.size := by have := hb1.size; (try simp at this); omega
  have y1_0 : w.heap.size ≤ w1.heap.size := Nat.le_of_lt z1_0
  have c1_0 := fun o => hb1.cell (p := ⟨w.heap.size, o, none⟩) (by first | omega | (simp <;> omega))
  have f1_0 := fun o => hb1.frozen (p := ⟨w.heap.size, o, none⟩) (by first | omega | (simp <;> omega))
  go_wp2_with fail
  exact bodyPost_ret (v := .agg #[.int .i64 l, .int .i64 k, .int .i64 K]) (by simp only [results, Tryz.results59]; go_simp) rfl ⟨rfl, (by repeat (first | with_reducible exact Below.refl _ _ | with_reducible assumption | ((with_reducible refine Below.setCell ?_ ?_ _); rotate_left; · (first | omega | exact Nat.le_refl _ | (simp <;> omega))) | (with_reducible refine Below.allocW ?_ _) | (with_reducible refine Below.drew ?_) | (with_reducible refine Below.extW ?_ _)))⟩
end Go.Proofs.YtilkfolhglpaoaaGreat
/- Package rank: Low, High. -/
namespace Go.Proofs.YtilkfolhglpaoaaGreat
open Go.ChangeShapes Go.WideShapes Go.ChangeAt Go.RowKit
set_option linter.unusedVariables false

/-- What those nodes weigh of which something is so. -/
def weighR (l : Int) (f : Int → Int → Bool) : List Nd → Int
  | [] => 0
  | x :: r => (if f (endsOf l x.1).1 (endsOf l x.1).2.1 = true then x.2 else 0) + weighR l f r
def lowOf (l : Int) (r : List Nd) (y : Int) : Int := weighR l (fun _ hi => decide (hi ≤ y)) r
def highOf (l : Int) (r : List Nd) (y : Int) : Int := weighR l (fun lo _ => decide (lo ≤ y)) r
theorem weighR_append (l : Int) (f : Int → Int → Bool) (a b : List Nd) : weighR l f (a ++ b) = weighR l f a + weighR l f b := by
  induction a with
  | nil => simp [weighR]
  | cons x a ih => simp only [List.cons_append, weighR, ih]; omega
theorem weighR_le {l : Int} {f : Int → Int → Bool} {r : List Nd} (h : Roll r) : 0 ≤ weighR l f r ∧ weighR l f r ≤ sumR r := by
  induction r with
  | nil => simp [weighR, sumR]
  | cons x r ih =>
    have := ih h.tail
    have hx := h.2 x (by simp)
    simp only [weighR, sumR]
    split <;> omega

theorem rank_Low1 (w : World) (lo hi y : Int) (b : Nat) (hb : w.cell? ⟨b, 0, none⟩ = some (.int .i64 y)) : Calls Tryz.prog 121 #[.int .i64 lo, .int .i64 hi, .pointer (some ⟨b, 0, none⟩)] w fun e w' => e = .returned (.bool (decide (hi ≤ y))) ∧ Below w.heap.size w w' := by
  go_enter Tryz.func121, Tryz.ntmps121
  go_wp2_with fail
  go_ret
  exact ⟨rfl, (by repeat (first | with_reducible exact Below.refl _ _ | with_reducible assumption | ((with_reducible refine Below.setCell ?_ ?_ _); rotate_left; · (first | omega | exact Nat.le_refl _ | (simp <;> omega))) | (with_reducible refine Below.allocW ?_ _) | (with_reducible refine Below.drew ?_) | (with_reducible refine Below.extW ?_ _)))⟩
set_option maxRecDepth 100000 in
theorem weigh_Low (w : World) (g K l : Nat) (k : Int) (r : List Nd) (F : Nat → Prop) (y : Int) (b : Nat) (h : DigAt w g K l k r F) (hn : r.length ≤ 67108864) (hb : w.cell? ⟨b, 0, none⟩ = some (.int .i64 y)) :
    Calls Tryz.prog 120 #[.pointer (some ⟨g, 0, none⟩), .func (.func 121) #[] #[.pointer (some ⟨b, 0, none⟩)]] w fun e w' => e = .returned (.int .i64 (lowOf l r y)) ∧ Below w.heap.size w w' := by
  have hf := h.fits
  have hll := h.l_le
  have HD := Lib.hid h
  have zb := lt_of_cell hb
  have HBc := Lib.hid hb
  clear h hb
  go_enter Tryz.func120, Tryz.ntmps120
  go_wp2_with fail
  refine (digest_Conf _ g K l k r F HD.out).mono ?_
  rintro e w1 ⟨rfl, hb1⟩
  have B1 : Below w.heap.size w w1 := Below.then_ (by repeat (first | with_reducible exact Below.refl _ _ | with_reducible assumption | ((with_reducible refine Below.setCell ?_ ?_ _); rotate_left; · (first | omega | exact Nat.le_refl _ | (simp <;> omega))) | (with_reducible refine Below.allocW ?_ _) | (with_reducible refine Below.drew ?_) | (with_reducible refine Below.extW ?_ _))) hb1
  have s1 : w.heap.size ≤ w1.heap.size := B1.size
  go_wp2_with fail
  refine (digest_Nodes _ g K l k r F (HD.out.below B1) hn).mono ?_
  rintro e w2 ⟨v, rfl, ho, hb2⟩
  have B2 := B1.trans (hb2.mono s1)
  have s2 := hb2.size
  obtain ⟨A, cap, rfl, _, _, hS, _⟩ := ho.form
  have HS := Lib.hid hS
  have HB2 := Lib.hid B2
  have HBc2 := Lib.hid ((B2.cell (p := ⟨b, 0, none⟩) zb).trans HBc.out)
  have zb2 : b < w2.heap.size := by have := B2.size; omega
  clear ho hS hb1 hb2 B1 B2
  go_wp2_with fail
  go_loopw [5, 18] (fun n i wr => ∃ q : Nat, q ≤ r.length ∧ i = .int .i64 q ∧ n = .int .i64 (lowOf l (r.take q) y) ∧ Below w2.heap.size w2 wr) (fun _ i _ => r.length - (intOf i).toNat)
  case atStart => exact ⟨0, Nat.zero_le _, rfl, rfl, Below.refl _ _⟩
  case round =>
    obtain ⟨q, hq, rfl, rfl, hB⟩ := hrel
    have hs := hB.size
    have hBw : Below w.heap.size w wr := HB2.out.trans (hB.mono HB2.out.size)
    by_cases hlt : q < r.length
    · obtain ⟨c, off, rfl, hc, hcl⟩ := (HS.out.below hB).at_ hlt
      have d0 := hcl 0 (.int .i64 r[q].1) rfl
      have d1 := hcl 1 (.int .i64 r[q].2) rfl
      simp only [Nat.add_zero] at d0
      have hx := hf.roll.2 _ (List.getElem_mem hlt)
      have hxl := hf.lt _ (List.getElem_mem hlt)
      have e1 := sumR_take_succ hlt
      have e2 := sumR_take_le hf.roll (q + 1)
      have e3 := hf.sum
      have e5 := weighR_le (l := l) (f := fun _ hi => decide (hi ≤ y)) (hf.roll.take q)
      have e6 : lowOf l (r.take (q + 1)) y = lowOf l (r.take q) y + lowOf l [r[q]] y := by
        unfold lowOf
        rw [List.take_succ_eq_append_getElem hlt, weighR_append]
      have hp := pow_48 (n := l) hll.2
      obtain ⟨x, hxe⟩ : ∃ x, x = r[q] := ⟨_, rfl⟩
      rw [← hxe] at d0 d1 hx hxl e1 e6
      have e7 : lowOf l [x] y = if decide ((endsOf l x.1).2.1 ≤ y) = true then x.2 else 0 := by simp only [lowOf, weighR]; simp
      have n0 : 0 ≤ lowOf l (r.take q) y := e5.1
      have n1 : lowOf l (r.take q) y + x.2 ≤ 72057594037927935 := by have := e5.2; unfold lowOf; omega
      have E6 := Lib.hid e6
      have E7 := Lib.hid e7
      have hx1 : x.1 ≤ 562949953421312 := by omega
      generalize lowOf l (r.take q) y = m at n0 n1 E6 ⊢
      clear hcl e1 e2 e3 e5 e6 e7 hxe hxl hp
      go_wp2_with fail
      refine (twig_Ends _ l x.1 (by omega)).mono ?_
      rintro e w3 ⟨rfl, hb3⟩
      have B3 : Below w.heap.size w w3 := Below.then_ (by repeat (first | with_reducible exact Below.refl _ _ | with_reducible assumption | ((with_reducible refine Below.setCell ?_ ?_ _); rotate_left; · (first | omega | exact Nat.le_refl _ | (simp <;> omega))) | (with_reducible refine Below.allocW ?_ _) | (with_reducible refine Below.drew ?_) | (with_reducible refine Below.extW ?_ _))) hb3
      have s3 : w.heap.size ≤ w3.heap.size := B3.size
      have z3_0 : wr.heap.size < w3.heap.size := by have := hb3.size; (try simp at this); omega
      have y3_0 : wr.heap.size ≤ w3.heap.size := Nat.le_of_lt z3_0
      have c3_0 := fun o => hb3.cell (p := ⟨wr.heap.size, o, none⟩) (by first | omega | (simp <;> omega))
      have f3_0 := fun o => hb3.frozen (p := ⟨wr.heap.size, o, none⟩) (by first | omega | (simp <;> omega))
      generalize endsOf l x.1 = t at E7 ⊢
      obtain ⟨t1, t2, t3⟩ := t
      unfold endsV
      have cb3 := (hb3.cell (p := ⟨b, 0, none⟩) (by simp only [World.size_alloc]; omega)).trans (((Below.refl wr.heap.size wr).alloc (Nat.le_refl _) (.cells #[.int .i64 x.1, .int .i64 x.2] 102)).cell (p := ⟨b, 0, none⟩) (by simp only; omega) |>.trans ((hB.cell (p := ⟨b, 0, none⟩) zb2).trans HBc2.out))
      have W3 : Below w2.heap.size w2 w3 := (hB.alloc hs _).trans (hb3.mono (Nat.le_trans hs (by simp)))
      have z3 := hb3.size
      go_wp2_with fail
      refine (rank_Low1 _ t1 t2 y b cb3).mono ?_
      rintro e w4 ⟨rfl, hb4⟩
      have z4 : wr.heap.size < w4.heap.size := Nat.lt_of_lt_of_le z3_0 hb4.size
      have c4 := fun o => (hb4.cell (p := ⟨wr.heap.size, o, none⟩) z3_0).trans (c3_0 o)
      have W4 := W3.trans (hb4.mono (by have := W3.size; exact this))
      by_cases hle : t2 ≤ y
      · have E8 := Lib.hid (show lowOf l (r.take (q + 1)) y = m + x.2 by rw [E6.out, E7.out, if_pos (by simpa using hle)])
        go_wp2_with fail
        go_roundw
        case rel => exact ⟨q + 1, by omega, by go_num, by rw [E8.out], W4⟩
        case measure => simp [intOf]; omega
      · have E8 := Lib.hid (show lowOf l (r.take (q + 1)) y = m by rw [E6.out, E7.out, if_neg (by simpa using hle)]; omega)
        go_wp2_with fail
        go_roundw
        case rel => exact ⟨q + 1, by omega, by go_num, by rw [E8.out], W4⟩
        case measure => simp [intOf]; omega
    · obtain rfl : q = r.length := by omega
      rw [List.take_length]
      go_wp2_with fail
      go_ret
      exact ⟨rfl, HB2.out.trans (hB.mono HB2.out.size)⟩
theorem rank_Low (w : World) (g K l : Nat) (k : Int) (r : List Nd) (F : Nat → Prop) (y : Int) (h : DigAt w g K l k r F) (hn : r.length ≤ 67108864) :
    Calls Tryz.prog 52 #[.pointer (some ⟨g, 0, none⟩), .int .i64 y] w fun e w' => e = .returned (.int .i64 (lowOf l r y)) ∧ Below w.heap.size w w' := by
  have HD := Lib.hid (h.below ((Below.refl w.heap.size w).alloc (Nat.le_refl _) (.cells #[.int .i64 y] 3)))
  clear h
  go_enter Tryz.func52, Tryz.ntmps52
  go_wp2_with fail
  refine (weigh_Low _ g K l k r F y w.heap.size HD.out hn (by go_simp)).mono ?_
  rintro e w1 ⟨rfl, hb1⟩
  have B1 : Below w.heap.size w w1 := Below.then_ (by repeat (first | with_reducible exact Below.refl _ _ | with_reducible assumption | ((with_reducible refine Below.setCell ?_ ?_ _); rotate_left; · (first | omega | exact Nat.le_refl _ | (simp <;> omega))) | (with_reducible refine Below.allocW ?_ _) | (with_reducible refine Below.drew ?_) | (with_reducible refine Below.extW ?_ _))) hb1
  have s1 : w.heap.size ≤ w1.heap.size := B1.size
  go_wp2_with fail
  go_ret
  exact ⟨rfl, (by repeat (first | with_reducible exact Below.refl _ _ | with_reducible assumption | ((with_reducible refine Below.setCell ?_ ?_ _); rotate_left; · (first | omega | exact Nat.le_refl _ | (simp <;> omega))) | (with_reducible refine Below.allocW ?_ _) | (with_reducible refine Below.drew ?_) | (with_reducible refine Below.extW ?_ _)))⟩

theorem rank_High1 (w : World) (lo hi y : Int) (b : Nat) (hb : w.cell? ⟨b, 0, none⟩ = some (.int .i64 y)) : Calls Tryz.prog 122 #[.int .i64 lo, .int .i64 hi, .pointer (some ⟨b, 0, none⟩)] w fun e w' => e = .returned (.bool (decide (lo ≤ y))) ∧ Below w.heap.size w w' := by
  go_enter Tryz.func122, Tryz.ntmps122
  go_wp2_with fail
  go_ret
  exact ⟨rfl, (by repeat (first | with_reducible exact Below.refl _ _ | with_reducible assumption | ((with_reducible refine Below.setCell ?_ ?_ _); rotate_left; · (first | omega | exact Nat.le_refl _ | (simp <;> omega))) | (with_reducible refine Below.allocW ?_ _) | (with_reducible refine Below.drew ?_) | (with_reducible refine Below.extW ?_ _)))⟩
set_option maxRecDepth 100000 in
theorem weigh_High (w : World) (g K l : Nat) (k : Int) (r : List Nd) (F : Nat → Prop) (y : Int) (b : Nat) (h : DigAt w g K l k r F) (hn : r.length ≤ 67108864) (hb : w.cell? ⟨b, 0, none⟩ = some (.int .i64 y)) :
    Calls Tryz.prog 120 #[.pointer (some ⟨g, 0, none⟩), .func (.func 122) #[] #[.pointer (some ⟨b, 0, none⟩)]] w fun e w' => e = .returned (.int .i64 (highOf l r y)) ∧ Below w.heap.size w w' := by
  have hf := h.fits
  have hll := h.l_le
  have HD := Lib.hid h
  have zb := lt_of_cell hb
  have HBc := Lib.hid hb
  clear h hb
  go_enter Tryz.func120, Tryz.ntmps120
  go_wp2_with fail
  refine (digest_Conf _ g K l k r F HD.out).mono ?_
  rintro e w1 ⟨rfl, hb1⟩
  have B1 : Below w.heap.size w w1 := Below.then_ (by repeat (first | with_reducible exact Below.refl _ _ | with_reducible assumption | ((with_reducible refine Below.setCell ?_ ?_ _); rotate_left; · (first | omega | exact Nat.le_refl _ | (simp <;> omega))) | (with_reducible refine Below.allocW ?_ _) | (with_reducible refine Below.drew ?_) | (with_reducible refine Below.extW ?_ _))) hb1
  have s1 : w.heap.size ≤ w1.heap.size := B1.size
  go_wp2_with fail
  refine (digest_Nodes _ g K l k r F (HD.out.below B1) hn).mono ?_
  rintro e w2 ⟨v, rfl, ho, hb2⟩
  have B2 := B1.trans (hb2.mono s1)
  have s2 := hb2.size
  obtain ⟨A, cap, rfl, _, _, hS, _⟩ := ho.form
  have HS := Lib.hid hS
  have HB2 := Lib.hid B2
  have HBc2 := Lib.hid ((B2.cell (p := ⟨b, 0, none⟩) zb).trans HBc.out)
  have zb2 : b < w2.heap.size := by have := B2.size; omega
  clear ho hS hb1 hb2 B1 B2
  go_wp2_with fail
  go_loopw [5, 18] (fun n i wr => ∃ q : Nat, q ≤ r.length ∧ i = .int .i64 q ∧ n = .int .i64 (highOf l (r.take q) y) ∧ Below w2.heap.size w2 wr) (fun _ i _ => r.length - (intOf i).toNat)
  case atStart => exact ⟨0, Nat.zero_le _, rfl, rfl, Below.refl _ _⟩
  case round =>
    obtain ⟨q, hq, rfl, rfl, hB⟩ := hrel
    have hs := hB.size
    have hBw : Below w.heap.size w wr := HB2.out.trans (hB.mono HB2.out.size)
    by_cases hlt : q < r.length
    · obtain ⟨c, off, rfl, hc, hcl⟩ := (HS.out.below hB).at_ hlt
      have d0 := hcl 0 (.int .i64 r[q].1) rfl
      have d1 := hcl 1 (.int .i64 r[q].2) rfl
      simp only [Nat.add_zero] at d0
      have hx := hf.roll.2 _ (List.getElem_mem hlt)
      have hxl := hf.lt _ (List.getElem_mem hlt)
      have e1 := sumR_take_succ hlt
      have e2 := sumR_take_le hf.roll (q + 1)
      have e3 := hf.sum
      have e5 := weighR_le (l := l) (f := fun lo _ => decide (lo ≤ y)) (hf.roll.take q)
      have e6 : highOf l (r.take (q + 1)) y = highOf l (r.take q) y + highOf l [r[q]] y := by
        unfold highOf
        rw [List.take_succ_eq_append_getElem hlt, weighR_append]
      have hp := pow_48 (n := l) hll.2
      obtain ⟨x, hxe⟩ : ∃ x, x = r[q] := ⟨_, rfl⟩
      rw [← hxe] at d0 d1 hx hxl e1 e6
      have e7 : highOf l [x] y = if decide ((endsOf l x.1).1 ≤ y) = true then x.2 else 0 := by simp only [highOf, weighR]; simp
      have n0 : 0 ≤ highOf l (r.take q) y := e5.1
      have n1 : highOf l (r.take q) y + x.2 ≤ 72057594037927935 := by have := e5.2; unfold highOf; omega
      have E6 := Lib.hid e6
      have E7 := Lib.hid e7
      have hx1 : x.1 ≤ 562949953421312 := by omega
      generalize highOf l (r.take q) y = m at n0 n1 E6 ⊢
      clear hcl e1 e2 e3 e5 e6 e7 hxe hxl hp
      go_wp2_with fail
      refine (twig_Ends _ l x.1 (by omega)).mono ?_
      rintro e w3 ⟨rfl, hb3⟩
      have B3 : Below w.heap.size w w3 := Below.then_ (by repeat (first | with_reducible exact Below.refl _ _ | with_reducible assumption | ((with_reducible refine Below.setCell ?_ ?_ _); rotate_left; · (first | omega | exact Nat.le_refl _ | (simp <;> omega))) | (with_reducible refine Below.allocW ?_ _) | (with_reducible refine Below.drew ?_) | (with_reducible refine Below.extW ?_ _))) hb3
      have s3 : w.heap.size ≤ w3.heap.size := B3.size
      have z3_0 : wr.heap.size < w3.heap.size := by have := hb3.size; (try simp at this); omega
      have y3_0 : wr.heap.size ≤ w3.heap.size := Nat.le_of_lt z3_0
      have c3_0 := fun o => hb3.cell (p := ⟨wr.heap.size, o, none⟩) (by first | omega | (simp <;> omega))
      have f3_0 := fun o => hb3.frozen (p := ⟨wr.heap.size, o, none⟩) (by first | omega | (simp <;> omega))
      generalize endsOf l x.1 = t at E7 ⊢
      obtain ⟨t1, t2, t3⟩ := t
      unfold endsV
      have cb3 := (hb3.cell (p := ⟨b, 0, none⟩) (by simp only [World.size_alloc]; omega)).trans (((Below.refl wr.heap.size wr).alloc (Nat.le_refl _) (.cells #[.int .i64 x.1, .int .i64 x.2] 102)).cell (p := ⟨b, 0, none⟩) (by simp only; omega) |>.trans ((hB.cell (p := ⟨b, 0, none⟩) zb2).trans HBc2.out))
      have W3 : Below w2.heap.size w2 w3 := (hB.alloc hs _).trans (hb3.mono (Nat.le_trans hs (by simp)))
      have z3 := hb3.size
      go_wp2_with fail
      refine (rank_High1 _ t1 t2 y b cb3).mono ?_
      rintro e w4 ⟨rfl, hb4⟩
      have z4 : wr.heap.size < w4.heap.size := Nat.lt_of_lt_of_le z3_0 hb4.size
      have c4 := fun o => (hb4.cell (p := ⟨wr.heap.size, o, none⟩) z3_0).trans (c3_0 o)
      have W4 := W3.trans (hb4.mono (by have := W3.size; exact this))
      by_cases hle : t1 ≤ y
      · have E8 := Lib.hid (show highOf l (r.take (q + 1)) y = m + x.2 by rw [E6.out, E7.out, if_pos (by simpa using hle)])
        go_wp2_with fail
        go_roundw
        case rel => exact ⟨q + 1, by omega, by go_num, by rw [E8.out], W4⟩
        case measure => simp [intOf]; omega
      · have E8 := Lib.hid (show highOf l (r.take (q + 1)) y = m by rw [E6.out, E7.out, if_neg (by simpa using hle)]; omega)
        go_wp2_with fail
        go_roundw
        case rel => exact ⟨q + 1, by omega, by go_num, by rw [E8.out], W4⟩
        case measure => simp [intOf]; omega
    · obtain rfl : q = r.length := by omega
      rw [List.take_length]
      go_wp2_with fail
      go_ret
      exact ⟨rfl, HB2.out.trans (hB.mono HB2.out.size)⟩
theorem rank_High (w : World) (g K l : Nat) (k : Int) (r : List Nd) (F : Nat → Prop) (y : Int) (h : DigAt w g K l k r F) (hn : r.length ≤ 67108864) :
    Calls Tryz.prog 53 #[.pointer (some ⟨g, 0, none⟩), .int .i64 y] w fun e w' => e = .returned (.int .i64 (highOf l r y)) ∧ Below w.heap.size w w' := by
  have HD := Lib.hid (h.below ((Below.refl w.heap.size w).alloc (Nat.le_refl _) (.cells #[.int .i64 y] 3)))
  clear h
  go_enter Tryz.func53, Tryz.ntmps53
  go_wp2_with fail
  refine (weigh_High _ g K l k r F y w.heap.size HD.out hn (by go_simp)).mono ?_
  rintro e w1 ⟨rfl, hb1⟩
  have B1 : Below w.heap.size w w1 := Below.then_ (by repeat (first | with_reducible exact Below.refl _ _ | with_reducible assumption | ((with_reducible refine Below.setCell ?_ ?_ _); rotate_left; · (first | omega | exact Nat.le_refl _ | (simp <;> omega))) | (with_reducible refine Below.allocW ?_ _) | (with_reducible refine Below.drew ?_) | (with_reducible refine Below.extW ?_ _))) hb1
  have s1 : w.heap.size ≤ w1.heap.size := B1.size
  go_wp2_with fail
  go_ret
  exact ⟨rfl, (by repeat (first | with_reducible exact Below.refl _ _ | with_reducible assumption | ((with_reducible refine Below.setCell ?_ ?_ _); rotate_left; · (first | omega | exact Nat.le_refl _ | (simp <;> omega))) | (with_reducible refine Below.allocW ?_ _) | (with_reducible refine Below.drew ?_) | (with_reducible refine Below.extW ?_ _)))⟩
end Go.Proofs.YtilkfolhglpaoaaGreat
/- Sums of weights up to numbers: the plain law. -/
namespace Go.Proofs.YtilkfolhglpaoaaGreat
open Go.ChangeShapes Go.WideShapes Go.ChangeAt Go.RowKit
set_option linter.unusedVariables false

/-- What weighs up to a number. -/
def wUp : List Nd → Int → Int
  | [], _ => 0
  | y :: l, x => (if y.1 ≤ x then y.2 else 0) + wUp l x
theorem wUp_append (a b : List Nd) (x : Int) : wUp (a ++ b) x = wUp a x + wUp b x := by
  induction a with
  | nil => simp [wUp]
  | cons y a ih => simp only [List.cons_append, wUp, ih]; omega
theorem wUp_perm {a b : List Nd} (h : a.Perm b) (x : Int) : wUp a x = wUp b x := by
  induction h with
  | nil => rfl
  | cons y _ ih => simp only [wUp, ih]
  | swap y z l => simp only [wUp]; omega
  | trans _ _ h1 h2 => exact h1.trans h2
theorem wUp_all {l : List Nd} {x : Int} (h : ∀ y ∈ l, y.1 ≤ x) : wUp l x = sumR l := by
  induction l with
  | nil => rfl
  | cons y l ih =>
    simp only [wUp, sumR]
    rw [if_pos (h y (by simp)), ih fun z hz => h z (by simp [hz])]
theorem wUp_none {l : List Nd} {x : Int} (h : ∀ y ∈ l, x < y.1) : wUp l x = 0 := by
  induction l with
  | nil => rfl
  | cons y l ih =>
    simp only [wUp]
    have := h y (by simp)
    rw [if_neg (by omega), ih fun z hz => h z (by simp [hz])]; rfl
theorem wUp_same {l : List Nd} {x z : Int} (h : ∀ y ∈ l, (y.1 ≤ x ↔ y.1 ≤ z)) : wUp l x = wUp l z := by
  induction l with
  | nil => rfl
  | cons y l ih =>
    simp only [wUp]
    have h1 := h y (by simp)
    rw [ih fun z hz => h z (by simp [hz])]
    congr 1
    by_cases h2 : y.1 ≤ x
    · rw [if_pos h2, if_pos (h1.1 h2)]
    · rw [if_neg h2, if_neg (fun h => h2 (h1.2 h))]
theorem sumR_perm {a b : List Nd} (h : a.Perm b) : sumR a = sumR b := by
  induction h with
  | nil => rfl
  | cons y _ ih => simp only [sumR, ih]
  | swap y z l => simp only [sumR]; omega
  | trans _ _ h1 h2 => exact h1.trans h2

/-- A table of numbers, rising, and of what weighs up to each. -/
structure Tab (l t : List Nd) : Prop where
  rise : t.Pairwise fun a b => a.1 < b.1
  up : ∀ z ∈ t, z.2 = wUp l z.1
  all : ∀ y ∈ l, ∃ z ∈ t, z.1 = y.1
  of : ∀ z ∈ t, ∃ y ∈ l, y.1 = z.1
theorem Tab.perm {l l' t : List Nd} (h : Tab l t) (hp : l.Perm l') : Tab l' t :=
  ⟨h.rise, fun z hz => (h.up z hz).trans (wUp_perm hp _), fun y hy => h.all y (hp.mem_iff.2 hy), fun z hz => by obtain ⟨y, hy, e⟩ := h.of z hz; exact ⟨y, hp.mem_iff.1 hy, e⟩⟩
theorem Tab.nil : Tab [] [] := ⟨.nil, by simp, by simp, by simp⟩
/-- One number more, which isn't less than those ahead: it stands already, or not. -/
theorem Tab.same {p t : List Nd} {y : Nd} {s : Int} (h : Tab p (t ++ [(y.1, s)])) (hy : ∀ z ∈ p, z.1 ≤ y.1) : Tab (p ++ [y]) (t ++ [(y.1, sumR p + y.2)]) := by
  have hr := List.pairwise_append.1 h.rise
  refine ⟨List.pairwise_append.2 ⟨hr.1, List.pairwise_singleton _ _, fun a ha b hb => ?_⟩, fun z hz => ?_, fun z hz => ?_, fun z hz => ?_⟩
  · simp at hb; subst hb; exact hr.2.2 a ha (y.1, s) (by simp)
  · rw [wUp_append]
    rcases List.mem_append.1 hz with hz | hz
    · have h1 := hr.2.2 z hz (y.1, s) (by simp)
      have h2 := h.up z (List.mem_append_left _ hz)
      simp only at h1
      simp only [wUp]
      rw [if_neg (by omega)]; omega
    · simp at hz; subst hz
      simp only [wUp, wUp_all hy]
      simp
  · rcases List.mem_append.1 hz with hz | hz
    · obtain ⟨u, hu, e⟩ := h.all z hz
      rcases List.mem_append.1 hu with hu | hu
      · exact ⟨u, List.mem_append_left _ hu, e⟩
      · simp at hu; subst hu; exact ⟨(y.1, sumR p + y.2), by simp, e⟩
    · simp at hz; subst hz; exact ⟨(z.1, sumR p + z.2), by simp, rfl⟩
  · rcases List.mem_append.1 hz with hz | hz
    · obtain ⟨u, hu, e⟩ := h.of z (List.mem_append_left _ hz)
      exact ⟨u, List.mem_append_left _ hu, e⟩
    · simp at hz; subst hz; exact ⟨y, by simp, rfl⟩
theorem Tab.more {p t : List Nd} {y : Nd} (h : Tab p t) (hy : ∀ z ∈ p, z.1 ≤ y.1) (hn : ∀ z ∈ t, z.1 ≠ y.1) : Tab (p ++ [y]) (t ++ [(y.1, sumR p + y.2)]) := by
  have hlt : ∀ z ∈ t, z.1 < y.1 := fun z hz => by
    obtain ⟨u, hu, e⟩ := h.of z hz
    have := hy u hu
    have := hn z hz
    omega
  refine ⟨List.pairwise_append.2 ⟨h.rise, List.pairwise_singleton _ _, fun a ha b hb => ?_⟩, fun z hz => ?_, fun z hz => ?_, fun z hz => ?_⟩
  · simp at hb; subst hb; exact hlt a ha
  · rw [wUp_append]
    rcases List.mem_append.1 hz with hz | hz
    · have h1 := hlt z hz
      have h2 := h.up z hz
      simp only [wUp]
      rw [if_neg (by omega)]; omega
    · simp at hz; subst hz
      simp only [wUp, wUp_all hy]
      simp
  · rcases List.mem_append.1 hz with hz | hz
    · obtain ⟨u, hu, e⟩ := h.all z hz
      exact ⟨u, List.mem_append_left _ hu, e⟩
    · simp at hz; subst hz; exact ⟨(z.1, sumR p + z.2), by simp, rfl⟩
  · rcases List.mem_append.1 hz with hz | hz
    · obtain ⟨u, hu, e⟩ := h.of z hz
      exact ⟨u, List.mem_append_left _ hu, e⟩
    · simp at hz; subst hz; exact ⟨y, by simp, rfl⟩
/-- The last one of a table is the greatest: others aren't it. -/
theorem Tab.last_ne {p t : List Nd} {a : Nd} {y : Nd} (h : Tab p (t ++ [a])) (hy : ∀ z ∈ p, z.1 ≤ y.1) (hn : a.1 ≠ y.1) : ∀ z ∈ t ++ [a], z.1 ≠ y.1 := by
  have hr := List.pairwise_append.1 h.rise
  intro z hz
  rcases List.mem_append.1 hz with hz | hz
  · have h1 := hr.2.2 z hz a (by simp)
    obtain ⟨u, hu, e⟩ := h.of a (by simp)
    have := hy u hu
    omega
  · simp at hz; subst hz; exact hn

theorem count_boundary (p : Nat → Bool) (k : Nat) : ∀ n, k ≤ n → (∀ i, i < k → p i = true) → (∀ i, k ≤ i → i < n → p i = false) → (List.range n).countP p = k
  | 0, hk, _, _ => by have : k = 0 := by omega
                      subst this; rfl
  | n + 1, hk, h1, h2 => by
    rw [List.range_succ, List.countP_append]
    by_cases h : k = n + 1
    · subst h
      rw [count_boundary p n n (Nat.le_refl _) (fun i hi => h1 i (by omega)) (fun i h3 h4 => by omega)]
      simp [h1 n (by omega)]
    · rw [count_boundary p k n (by omega) h1 fun i h3 h4 => h2 i h3 (by omega)]
      simp [h2 n (by omega) (by omega)]
/-- Where numbers that rise go beyond one. -/
theorem rise_boundary {t : List Nd} (h : t.Pairwise fun a b => a.1 < b.1) (x : Int) : ∃ k, k ≤ t.length ∧ (∀ i (hi : i < t.length), i < k → t[i].1 ≤ x) ∧ ∀ i (hi : i < t.length), k ≤ i → x < t[i].1 := by
  induction t with
  | nil => exact ⟨0, Nat.le_refl _, fun i hi => absurd hi (Nat.not_lt_zero _), fun i hi => absurd hi (Nat.not_lt_zero _)⟩
  | cons a t ih =>
    obtain ⟨h1, h2⟩ := List.pairwise_cons.1 h
    obtain ⟨k, hk, h3, h4⟩ := ih h2
    by_cases ha : a.1 ≤ x
    · refine ⟨k + 1, by simp; omega, fun i hi hlt => ?_, fun i hi hle => ?_⟩
      · cases i with
        | zero => exact ha
        | succ i => exact h3 i (by simpa using hi) (by omega)
      · cases i with
        | zero => omega
        | succ i => exact h4 i (by simpa using hi) (by omega)
    · refine ⟨0, Nat.zero_le _, fun i hi hlt => by omega, fun i hi _ => ?_⟩
      cases i with
      | zero => simp; omega
      | succ i =>
        have hi' : i < t.length := by simpa using hi
        have := h1 t[i] (List.getElem_mem hi')
        simp only [List.getElem_cons_succ]; omega
/-- How many numbers of a table aren't above one. -/
def atMost (t : List Nd) (x : Int) : Nat := (List.range t.length).countP fun i => !decide (x < (t.getD i (0, 0)).1)
theorem atMost_le (t : List Nd) (x : Int) : atMost t x ≤ t.length := by
  have := List.countP_le_length (p := fun i => !decide (x < (t.getD i (0, 0)).1)) (l := List.range t.length)
  simpa [atMost] using this
theorem getD_at {t : List Nd} {i : Nat} (hi : i < t.length) : t.getD i (0, 0) = t[i] := by rw [List.getD_eq_getElem?_getD, List.getElem?_eq_getElem hi]; rfl
theorem atMost_boundary {t : List Nd} (h : t.Pairwise fun a b => a.1 < b.1) (x : Int) : (∀ i (hi : i < t.length), i < atMost t x → t[i].1 ≤ x) ∧ ∀ i (hi : i < t.length), atMost t x ≤ i → x < t[i].1 := by
  obtain ⟨k, hk, h1, h2⟩ := rise_boundary h x
  have e : atMost t x = k := by
    refine count_boundary _ k _ hk (fun i hi => ?_) (fun i h3 h4 => ?_)
    · have := h1 i (by omega) hi
      rw [getD_at (by omega)]; simp; omega
    · have := h2 i h4 h3
      rw [getD_at h4]; simp; omega
  rw [e]
  exact ⟨h1, h2⟩
theorem Tab.none {l t : List Nd} (h : Tab l t) {x : Int} (h0 : atMost t x = 0) : wUp l x = 0 := by
  have hb := (atMost_boundary h.rise x).2
  rw [h0] at hb
  refine wUp_none fun y hy => ?_
  obtain ⟨z, hz, e⟩ := h.all y hy
  obtain ⟨i, hi, rfl⟩ := List.getElem_of_mem hz
  have := hb i hi (Nat.zero_le _)
  omega
theorem Tab.some {l t : List Nd} (h : Tab l t) {x : Int} (h0 : atMost t x ≠ 0) (hi : atMost t x - 1 < t.length) : t[atMost t x - 1].2 = wUp l x := by
  have hb := atMost_boundary h.rise x
  rw [h.up _ (List.getElem_mem hi)]
  refine wUp_same fun y hy => ?_
  obtain ⟨z, hz, e⟩ := h.all y hy
  obtain ⟨i, hi2, rfl⟩ := List.getElem_of_mem hz
  have h1 := hb.1 _ hi (by omega)
  constructor
  · intro h2; omega
  · intro h2
    by_cases h3 : i < atMost t x
    · rcases Nat.lt_or_ge i (atMost t x - 1) with h4 | h4
      · have := List.pairwise_iff_getElem.1 h.rise i (atMost t x - 1) hi2 hi h4; omega
      · obtain rfl : i = atMost t x - 1 := by omega
        omega
    · have := hb.2 i hi2 (by omega); omega
end Go.Proofs.YtilkfolhglpaoaaGreat
/- The least number up to which so much weighs: the plain law. -/
namespace Go.Proofs.YtilkfolhglpaoaaGreat
open Go.ChangeShapes Go.WideShapes Go.ChangeAt Go.RowKit
set_option linter.unusedVariables false

/-- So much weighs up to z, and less up to each lesser number. -/
structure ReachP (L : List Nd) (k z : Int) : Prop where
  mem : ∃ y ∈ L, y.1 = z
  up : k ≤ wUp L z
  less : ∀ y, y < z → wUp L y < k
theorem ReachP.unique {L : List Nd} {k a b : Int} (h : ReachP L k a) (h' : ReachP L k b) : a = b := by
  rcases Int.lt_trichotomy a b with hlt | heq | hlt
  · have := h'.less a hlt; have := h.up; omega
  · exact heq
  · have := h.less b hlt; have := h'.up; omega
theorem wUp_nonneg {L : List Nd} (h : ∀ y ∈ L, 1 ≤ y.2) (x : Int) : 0 ≤ wUp L x := by
  induction L with
  | nil => simp [wUp]
  | cons y L ih =>
    have := h y (by simp)
    have := ih fun z hz => h z (by simp [hz])
    simp only [wUp]
    split <;> omega
theorem wUp_le_sum {L : List Nd} (h : ∀ y ∈ L, 1 ≤ y.2) (x : Int) : wUp L x ≤ sumR L := by
  induction L with
  | nil => simp [wUp, sumR]
  | cons y L ih =>
    have := h y (by simp)
    have := ih fun z hz => h z (by simp [hz])
    simp only [wUp, sumR]
    split <;> omega
theorem wUp_split (l : List Nd) (i : Nat) (y : Int) : wUp l y = wUp (l.take i) y + wUp (l.drop i) y := by rw [← wUp_append, List.take_append_drop]
/-- Numbers that rise: where so much is reached. -/
theorem reach_at {l : List Nd} (h1 : ∀ y ∈ l, 1 ≤ y.2) (hs : l.Pairwise fun a b => a.1 ≤ b.1) {i : Nat} (hi : i < l.length) {k : Int} (ha : sumR (l.take i) < k) (hb : k ≤ sumR (l.take (i + 1))) : ReachP l k l[i].1 := by
  have hp := List.pairwise_iff_getElem.1 hs
  refine ⟨⟨l[i], List.getElem_mem hi, rfl⟩, ?_, fun y hy => ?_⟩
  · have e2 := wUp_split l (i + 1) l[i].1
    have e3 : wUp (l.take (i + 1)) l[i].1 = sumR (l.take (i + 1)) := wUp_all fun z hz => by
      obtain ⟨j, hj, rfl⟩ := List.getElem_of_mem hz
      rw [List.length_take] at hj
      rw [List.getElem_take]
      rcases Nat.lt_or_ge j i with hlt | hge
      · exact hp j i (by omega) hi hlt
      · obtain rfl : j = i := by omega
        exact Int.le_refl _
    have e4 := wUp_nonneg (L := l.drop (i + 1)) (fun z hz => h1 z (List.mem_of_mem_drop hz)) l[i].1
    omega
  · have e2 := wUp_split l i y
    have e3 : wUp (l.drop i) y = 0 := wUp_none fun z hz => by
      obtain ⟨j, hj, rfl⟩ := List.getElem_of_mem hz
      rw [List.length_drop] at hj
      rw [List.getElem_drop]
      rcases Nat.lt_or_ge 0 j with hlt | hge
      · have := hp i (i + j) hi (by omega) (by omega); omega
      · obtain rfl : j = 0 := by omega
        simpa using hy
    have e4 := wUp_le_sum (L := l.take i) (fun z hz => h1 z (List.mem_of_mem_take hz)) y
    omega
theorem ReachP.perm {L L' : List Nd} {k z : Int} (h : ReachP L k z) (hp : L.Perm L') : ReachP L' k z :=
  ⟨by obtain ⟨y, hy, e⟩ := h.mem; exact ⟨y, hp.mem_iff.1 hy, e⟩, by rw [← wUp_perm hp]; exact h.up, fun y hy => by rw [← wUp_perm hp]; exact h.less y hy⟩
/-- The least of the numbers that will do; -1: there is none. -/
def bestStep (L : List Nd) (k : Int) (b : Int) (x : Nd) : Int := if k ≤ wUp L x.1 ∧ (b < 0 ∨ x.1 < b) then x.1 else b
def bestOf (L : List Nd) (k : Int) : Int := L.foldl (bestStep L k) (-1)
theorem best_fold (L : List Nd) (k : Int) (p : List Nd) (h0 : ∀ y ∈ p, 0 ≤ y.1) : ∀ b, (b = -1 ∨ 0 ≤ b) →
    (p.foldl (bestStep L k) b = b ∨ (∃ y ∈ p, y.1 = p.foldl (bestStep L k) b ∧ k ≤ wUp L y.1)) ∧ (0 ≤ b → p.foldl (bestStep L k) b ≤ b ∧ 0 ≤ p.foldl (bestStep L k) b) ∧ (∀ y ∈ p, k ≤ wUp L y.1 → 0 ≤ p.foldl (bestStep L k) b ∧ p.foldl (bestStep L k) b ≤ y.1) := by
  induction p with
  | nil => intro b hb; exact ⟨.inl rfl, fun h => ⟨Int.le_refl _, h⟩, fun y hy => by simp at hy⟩
  | cons x p ih =>
    intro b hb
    have hx := h0 x (by simp)
    rw [List.foldl_cons]
    by_cases hc : k ≤ wUp L x.1 ∧ (b < 0 ∨ x.1 < b)
    · have e : bestStep L k b x = x.1 := if_pos hc
      rw [e]
      obtain ⟨i1, i2, i3⟩ := ih (fun y hy => h0 y (by simp [hy])) x.1 (.inr hx)
      have i2 := i2 hx
      refine ⟨.inr ?_, fun hb0 => ⟨by omega, i2.2⟩, fun y hy hk => ?_⟩
      · rcases i1 with i1 | ⟨y, hy, e1, e2⟩
        · exact ⟨x, by simp, i1.symm, hc.1⟩
        · exact ⟨y, by simp [hy], e1, e2⟩
      · rcases List.mem_cons.1 hy with rfl | hy
        · exact ⟨i2.2, i2.1⟩
        · exact i3 y hy hk
    · have e : bestStep L k b x = b := if_neg hc
      rw [e]
      obtain ⟨i1, i2, i3⟩ := ih (fun y hy => h0 y (by simp [hy])) b hb
      refine ⟨?_, i2, fun y hy hk => ?_⟩
      · rcases i1 with i1 | ⟨y, hy, e1, e2⟩
        · exact .inl i1
        · exact .inr ⟨y, by simp [hy], e1, e2⟩
      · rcases List.mem_cons.1 hy with rfl | hy
        · have hb0 : 0 ≤ b := by omega
          have := i2 hb0
          exact ⟨this.2, by omega⟩
        · exact i3 y hy hk
theorem best_reach {L : List Nd} (h0 : ∀ y ∈ L, 0 ≤ y.1) (h1 : ∀ y ∈ L, 1 ≤ y.2) {k : Int} (hk : 1 ≤ k) {z : Int} (h : ReachP L k z) : bestOf L k = z := by
  obtain ⟨y, hy, e⟩ := h.mem
  obtain ⟨i1, _, i3⟩ := best_fold L k L h0 (-1) (.inl rfl)
  have h2 := i3 y hy (by rw [e]; exact h.up)
  rcases i1 with i1 | ⟨u, hu, e1, e2⟩
  · rw [i1] at h2; omega
  · show L.foldl (bestStep L k) (-1) = z
    rw [e] at h2
    rcases Int.lt_trichotomy (L.foldl (bestStep L k) (-1)) z with hlt | heq | hgt
    · have := h.less _ hlt
      rw [← e1] at this
      omega
    · exact heq
    · omega
/-- There is one, of whatever numbers. -/
theorem reach_exists (L : List Nd) (h1 : ∀ y ∈ L, 1 ≤ y.2) (k : Int) (hk : 1 ≤ k) (hs : k ≤ sumR L) : ∃ z, ReachP L k z := by
  let M := L.mergeSort (fun a b => decide (a.1 ≤ b.1))
  have hp : M.Perm L := List.mergeSort_perm L _
  have hso : M.Pairwise fun a b => a.1 ≤ b.1 := by
    have := List.pairwise_mergeSort (le := fun a b : Nd => decide (a.1 ≤ b.1)) (fun a b c h1 h2 => by simp at *; omega) (fun a b => by simp; omega) L
    exact this.imp fun h => by simpa using h
  have h1' : ∀ y ∈ M, 1 ≤ y.2 := fun y hy => h1 y (hp.mem_iff.1 hy)
  have hsM : sumR M = sumR L := sumR_perm hp
  have key : ∀ n, n ≤ M.length → sumR (M.take n) < k ∨ ∃ i, ∃ hi : i < M.length, sumR (M.take i) < k ∧ k ≤ sumR (M.take (i + 1)) := by
    intro n
    induction n with
    | zero => intro _; left; simp [sumR]; omega
    | succ n ih =>
      intro hn
      rcases ih (by omega) with h | h
      · by_cases hc : sumR (M.take (n + 1)) < k
        · exact .inl hc
        · exact .inr ⟨n, by omega, h, by omega⟩
      · exact .inr h
  rcases key M.length (Nat.le_refl _) with h | ⟨i, hi, ha, hb⟩
  · rw [List.take_length, hsM] at h; omega
  · exact ⟨_, (reach_at h1' hso hi ha hb).perm hp⟩
theorem bestOf_succ {L : List Nd} {k : Int} {p : List Nd} {q : Nat} (h : q < p.length) (b : Int) : (p.take (q + 1)).foldl (bestStep L k) b = bestStep L k ((p.take q).foldl (bestStep L k) b) p[q] := by
  rw [List.take_succ_eq_append_getElem h, List.foldl_append]; rfl
end Go.Proofs.YtilkfolhglpaoaaGreat
/- A slice of the call's own, sorted by slices.SortFunc. -/
namespace Go.Proofs.YtilkfolhglpaoaaGreat
open Go.ChangeShapes Go.WideShapes Go.ChangeAt Go.RowKit
set_option linter.unusedVariables false

section
variable {α : Type} [Inhabited α] {size : Nat}
/-- The cells of a list, one behind the other, as the kit has them. -/
theorem flatK_get (E : Enc α size) (l : List α) (j : Nat) (h : j < l.length * size) : (Go.Sort.flatK E.enc size l.toArray)[j]! = (l.flatMap E.enc)[j]! ∧ (l.flatMap E.enc)[j]? = some (Go.Sort.flatK E.enc size l.toArray)[j]! := by
  have hs : 0 < size := Nat.pos_of_ne_zero (by rintro rfl; simp at h)
  have hk : j / size < l.length := Nat.div_lt_of_lt_mul (by rwa [Nat.mul_comm] at h)
  have hq : j % size < size := Nat.mod_lt _ hs
  have e := Go.Sort.get_flatK E.enc size l.toArray j (by simpa using h)
  have hx : l[j / size]? = some l[j / size] := List.getElem?_eq_getElem hk
  have hu : (E.enc l[j / size])[j % size]? = some (E.enc l[j / size])[j % size]! := by
    rw [getElem!_pos _ _ (by rw [E.len]; exact hq)]
    exact List.getElem?_eq_getElem _
  have hj : j / size * size + j % size = j := by rw [Nat.mul_comm]; exact Nat.div_add_mod j size
  have := flat_get E l (j / size) (j % size) _ _ hx hu
  rw [hj] at this
  have e2 : l.toArray[j / size]! = l[j / size] := by
    rw [getElem!_pos _ _ (by simpa using hk)]; simp
  rw [e2] at e
  rw [e, this]
  exact ⟨by rw [getElem!_pos _ j (List.getElem?_eq_some_iff.1 this).1]; exact (List.getElem?_eq_some_iff.1 this).2.symm, rfl⟩
theorem Own.holdsK {w : World} {base e : Nat} {E : Enc α size} {g off cap : Nat} {l : List α} (h : Own w base e E (.slice (some ⟨g, off, none⟩) l.length cap) l) : Go.Sort.HoldsK E.enc size w g off l.toArray := by
  intro j hj
  have hj : j < l.length * size := by simpa using hj
  rcases h with ⟨h, _⟩ | ⟨g', off', cap', cur, hv, hb, hh, h1, h2, h3, hc⟩
  · cases h
  · injection hv with hv _ _
    injection hv with hv
    injection hv with e1 e2
    subst e1 e2
    have h4 := (flatK_get E l j hj).2
    rw [blk_cell hh, blk_frozen hh]
    exact ⟨hc j _ h4, rfl⟩
theorem Own.sorted {w : World} {base e : Nat} {E : Enc α size} {g off cap : Nat} {l : List α} (h : Own w base e E (.slice (some ⟨g, off, none⟩) l.length cap) l) (d : Array α) (hd : d.size = l.length) (n : Nat) (os : Array Obj) :
    Own (Go.Proofs.sortWorldK E.enc size w g off n d os) base e E (.slice (some ⟨g, off, none⟩) l.length cap) d.toList ∧ Turn (fun b => b = g) w (Go.Proofs.sortWorldK E.enc size w g off n d os) := by
  have hl : d.toList.length = l.length := by simpa using hd
  rcases h with ⟨h, _⟩ | ⟨g', off', cap', cur, hv, hb, hh, h1, h2, h3, hc⟩
  · cases h
  · injection hv with hv _ hcap
    injection hv with hv
    injection hv with e1 e2
    subst e1 e2 hcap
    have hlt : g < w.heap.size := lt_of_block hh
    have hg : (Go.Proofs.sortWorldK E.enc size w g off n d os).heap[g]? = some (.cells (Go.Sort.putCells id off (Go.Sort.flatK E.enc size d) cur) e (0, 0)) := by
      unfold Go.Proofs.sortWorldK
      rw [Go.Sort.heap_grow_old _ _ (by simp [Go.Sort.putRowK]; exact hlt)]
      simp [Go.Sort.putRowK, Go.Sort.putRow, Go.Sort.mapBlock, Array.getElem?_modify, Go.Sort.onCells, hh]
    refine ⟨.inr ⟨g, off, cap, _, by rw [hl], hb, hg, by omega, h2, by simpa [Go.Sort.putCells] using h3, fun j u hj => ?_⟩, ⟨rfl, rfl, rfl, ?_, fun b hlb hn => ?_⟩⟩
    · have hjl : j < d.toList.length * size := by rw [← flat_len E]; exact (List.getElem?_eq_some_iff.1 hj).1
      have h4 := (flatK_get E d.toList j hjl).2
      rw [hj] at h4
      have hle : l.length * size ≤ cap * size := Nat.mul_le_mul_right _ h1
      rw [hl] at hjl
      have hcur : cur[off + j]? = some cur[off + j] := Array.getElem?_eq_getElem (by omega)
      simp only [Go.Sort.putCells, Array.getElem?_mapIdx, hcur, Option.map_some]
      rw [if_pos ⟨by omega, by simp [hd]; omega⟩, h4]
      simp
    · unfold Go.Proofs.sortWorldK
      simp [Go.Sort.putRowK]
    · unfold Go.Proofs.sortWorldK
      rw [Go.Sort.heap_grow_old _ _ (by simp [Go.Sort.putRowK]; exact hlb)]
      simp only [Go.Sort.putRowK, Go.Sort.putRow, Go.Sort.mapBlock, Array.getElem?_modify]
      rw [if_neg (by intro h; exact hn h.symm)]
      rfl
theorem perm_of_in {d d' : Array α} (h : Go.Sort.PermIn 0 d.size d d') : d'.toList.Perm d.toList := by
  have e1 : (d.extract 0 d.size).toList = d.toList := by simp
  have e2 : (d'.extract 0 d.size).toList = d'.toList := by rw [← h.1]; simp
  rw [← e1, ← e2]
  exact h.2.2
theorem pairwise_of_in {lt : α → α → Bool} {d : Array α} {n : Nat} (hn : n = d.size) (h : Go.Sort.SortedIn lt 0 n d) : d.toList.Pairwise fun a b => lt b a = false := by
  rw [List.pairwise_iff_getElem]
  intro i j hi hj hij
  have hj' : j < d.size := by simpa using hj
  have := h i j (Nat.zero_le _) hij (by omega)
  rw [getElem!_pos d j hj', getElem!_pos d i (by omega)] at this
  simpa using this
/-- slices.SortFunc on a slice of the call's own. -/
def SortPost {w : World} (base e : Nat) (E : Enc α size) (v : Value) (lt : α → α → Bool) (l : List α) (w : World) (en : Ending) (w' : World) : Prop :=
  en = .returned (.tuple #[]) ∧ ∃ l' : List α, l'.Perm l ∧ l'.Pairwise (fun a b => lt b a = false) ∧ Own w' base e E v l' ∧ Turn (fun b => v.ownBlock = some b) w w'
theorem sortFunc_own {P : Program} {ρ : Go.Shelf.Ren} (L : Go.Proofs.SlLaysF0.n6 P ρ) (E : Enc α size) (aE : ∀ w, (isAgg (ρ.t 24)).run P w = .ok true w) (zE : ∀ w, (Go.sizeOf (ρ.t 24)).run P w = .ok size w) (cf : α → α → Int) (hO : Go.Sort.SWO (Go.Proofs.ltOf cf))
    (g : Nat) (cb : Array Value) (eg : ∀ args w, (callFunc g args).run P w = .ok (.enter g args) w) (w : World) (base e : Nat) (v : Value) (l : List α) (ho : Own w base e E v l) (hl : l.length < 4611686018427387904)
    (hcmp : ∀ W, Turn (fun b => v.ownBlock = some b) w W → ∀ x y : α, Calls P g (#[.agg (E.enc x).toArray, .agg (E.enc y).toArray] ++ cb) W fun e W' => e = .returned (.int .i64 (cf x y)) ∧ ∃ q os', W' = Go.Sort.grow (W.drewN q) os') :
    Calls P (ρ.f 6) #[v, .func (.func g) #[] cb] w (SortPost (w := w) base e E v (Go.Proofs.ltOf cf) l w) := by
  have ho' := ho
  rcases ho' with ⟨rfl, rfl⟩ | ⟨b, off, cap, cur, rfl, hb, hh, h1, h2, h3, hc⟩
  · refine (Go.Proofs.AnyF.slices_SortFunc_none L none 0 (.func (.func g) #[] cb) w).mono ?_
    rintro e' w' ⟨rfl, rfl⟩
    exact ⟨rfl, [], .refl _, .nil, ho, Turn.refl _ _⟩
  · have hC : Go.Proofs.CmpLays P g cb E.enc size cf b off l.toArray.size w := fun m os dk hs x y => hcmp _ (((ho.sorted dk (by simpa using hs) m os).2).mono fun c _ h => by subst h; rfl) x y
    refine (Go.Proofs.AnyQ.slices_SortFunc L size aE zE E.enc E.len E.one cf hO g cb b off cap l.toArray w eg hC ho.holdsK (lt_of_block hh) (by simpa using hl)).mono ?_
    rintro e' w' ⟨rfl, d', n, os, hp, hs, rfl⟩
    have hsz : d'.size = l.length := by simpa using hp.1
    obtain ⟨o1, o2⟩ := ho.sorted d' hsz n os
    refine ⟨rfl, d'.toList, by simpa using perm_of_in hp, pairwise_of_in (by simp [hsz]) hs, o1, o2.mono fun c _ h => by subst h; rfl⟩
end
end Go.Proofs.YtilkfolhglpaoaaGreat
/- Package rank: made: the sums of readings. -/
namespace Go.Proofs.YtilkfolhglpaoaaGreat
open Go.ChangeShapes Go.WideShapes Go.ChangeAt Go.RowKit
set_option linter.unusedVariables false
set_option maxRecDepth 100000

/-- A reading that may be. -/
abbrev Rdg := { x : Nd // 0 ≤ x.1 ∧ x.1 ≤ 281474976710655 }
instance : Inhabited Rdg := ⟨⟨(0, 0), by decide⟩⟩
def encQ : Enc Rdg 2 := ⟨fun x => [.int .i64 x.1.1, .int .i64 x.1.2], fun _ => rfl, by intro x u hu; simp at hu; rcases hu with rfl | rfl <;> rfl⟩
theorem flat_Q (l : List Rdg) : l.flatMap encQ.enc = (l.map (·.1)).flatMap encN.enc := by
  induction l with
  | nil => rfl
  | cons x l ih => rw [List.flatMap_cons, List.map_cons, List.flatMap_cons, ih]; rfl
theorem own_Q {w : World} {base e : Nat} {v : Value} {l : List Rdg} : Own w base e encQ v l ↔ Own w base e encN v (l.map (·.1)) := by
  unfold Own
  rw [flat_Q]
  simp
theorem made_cmp (W : World) (x y : Rdg) : Calls Tryz.prog 206 #[.agg #[.int .i64 x.1.1, .int .i64 x.1.2], .agg #[.int .i64 y.1.1, .int .i64 y.1.2]] W fun e W' => e = .returned (.int .i64 (x.1.1 - y.1.1)) ∧ ∃ q os', W' = Go.Sort.grow (W.drewN q) os' := by
  obtain ⟨x, hx1, hx2⟩ := x
  obtain ⟨y, hy1, hy2⟩ := y
  go_enter Tryz.func206, Tryz.ntmps206
  go_wp2_with fail
  go_ret
  refine ⟨rfl, 0, #[.cells #[.int .i64 x.1, .int .i64 x.2] 164, .cells #[.int .i64 y.1, .int .i64 y.2] 164], ?_⟩
  rw [Go.Sort.alloc_eq_grow, Go.Sort.alloc_eq_grow, Go.Sort.grow_grow]
  rfl
theorem swo_Q : Go.Sort.SWO (Go.Proofs.ltOf fun x y : Rdg => x.1.1 - y.1.1) where
  irrefl x := by simp [Go.Proofs.ltOf]
  trans x y z h1 h2 := by simp only [Go.Proofs.ltOf, decide_eq_true_eq] at *; omega
  ntrans x y z h1 h2 := by simp only [Go.Proofs.ltOf, decide_eq_false_iff_not] at *; omega
theorem enters_made : ∀ args W, (callFunc 206 args).run Tryz.prog W = .ok (.enter 206 args) W := enters_of Tryz.func206 (by kernel_rfl) rfl
theorem made_sort (w : World) (base : Nat) (v : Value) (l : List Nd) (ho : Own w base 164 encN v l) (hl : ∀ x ∈ l, 0 ≤ x.1 ∧ x.1 ≤ 281474976710655) (hm : l.length ≤ 67108864) :
    Calls Tryz.prog 205 #[v, .func (.func 206) #[] #[]] w fun en w' => en = .returned (.tuple #[]) ∧ ∃ l', l'.Perm l ∧ l'.Pairwise (fun a b => a.1 ≤ b.1) ∧ Own w' base 164 encN v l' ∧ Turn (fun b => v.ownBlock = some b) w w' := by
  obtain ⟨lq, rfl⟩ : ∃ lq : List Rdg, l = lq.map (·.1) := ⟨l.pmap (fun x h => ⟨x, h⟩) hl, by rw [List.map_pmap]; simp⟩
  have := sortFunc_own Tryz.sortReading encQ (by intro w; kernel_rfl) (by intro w; kernel_rfl) (fun x y : Rdg => x.1.1 - y.1.1) swo_Q 206 #[] enters_made w base 164 v lq (own_Q.2 ho) (by simp at hm; omega) (fun W _ x y => made_cmp W x y)
  refine Calls.mono this ?_
  rintro e w' ⟨rfl, l', hp, hs, ho', hT⟩
  refine ⟨rfl, l'.map (·.1), hp.map _, ?_, own_Q.1 ho', hT⟩
  rw [List.pairwise_map]
  exact hs.imp fun {a b} h => by simp only [Go.Proofs.ltOf, decide_eq_false_iff_not] at h; omega
/-- Two slices lie apart. -/
def Sep (u v : Value) : Prop := ∀ g, u.ownBlock = some g → v.ownBlock ≠ some g
theorem Sep.symm {u v : Value} (h : Sep u v) : Sep v u := fun g h1 h2 => h g h2 h1
theorem turn_then {F : Nat → Prop} {w wa w1 w' : World} (hA : Below w.heap.size w wa) (hT : Turn F wa w1) (hB : Below w.heap.size w1 w') : Turn F w w' :=
  ⟨hB.os.trans (hT.os.trans hA.os), hB.tape.trans (hT.tape.trans hA.tape), hB.output.trans (hT.output.trans hA.output), Nat.le_trans hA.size (Nat.le_trans hT.size hB.size), fun b hb hn => (hB.block b hb).trans ((hT.block b (Nat.lt_of_lt_of_le hb hA.size) hn).trans (hA.block b hb))⟩
/-- What made tells. -/
def MadePost (v : Value) (l : List Nd) (w : World) (e : Ending) (w' : World) : Prop :=
  ∃ t A1 c1 A2 c2, e = .returned (.agg #[.slice A1 t.length c1, .slice A2 t.length c2]) ∧ Tab l t ∧ t.length ≤ l.length ∧ Own w' w.heap.size 3 encZ (.slice A1 t.length c1) (t.map (·.1)) ∧ Own w' w.heap.size 3 encZ (.slice A2 t.length c2) (t.map (·.2)) ∧ Turn (fun b => v.ownBlock = some b) w w'
def sumsAt (w : World) (b : Nat) (v1 v2 : Value) : Prop := w.heap[b]? = some (.cells #[v1, v2] 193 (0, 0))
theorem sumsAt.ty {w : World} {b : Nat} {v1 v2 : Value} (h : sumsAt w b v1 v2) : TypeAt w b 193 := .of h
/-- Two lists that grow, and what stands beside them. -/
structure TwoSt (w : World) (base B b0 bs : Nat) (vl : Value) (ll : List Nd) (V1 V2 : Value) (W : World) (U1 : Value) (L1 : List Int) (U2 : Value) (L2 : List Int) : Prop where
  lst : Own W 0 164 encN vl ll
  sums : sumsAt W bs V1 V2
  zero : sumsAt W b0 (.slice none 0 0) (.slice none 0 0)
  own1 : Own W B 3 encZ U1 L1
  own2 : Own W B 3 encZ U2 L2
  sep : Sep U1 U2
  blw : Below base w W
  size : B ≤ W.heap.size
  h0 : b0 < bs
  h1 : bs < B
  hb0 : base ≤ b0
section
variable {w : World} {base B b0 bs : Nat} {vl : Value} {ll : List Nd} {V1 V2 : Value} {W W' : World} {U1 U1' : Value} {L1 L1' : List Int} {U2 U2' : Value} {L2 L2' : List Int}
theorem TwoSt.below (h : TwoSt w base B b0 bs vl ll V1 V2 W U1 L1 U2 L2) (hb : Below W.heap.size W W') : TwoSt w base B b0 bs vl ll V1 V2 W' U1 L1 U2 L2 :=
  ⟨h.lst.below hb, blk_below h.sums hb, blk_below h.zero hb, h.own1.below hb, h.own2.below hb, h.sep, h.blw.trans (hb.mono (by have := h.h0; have := h.h1; have := h.hb0; have := h.size; omega)), Nat.le_trans h.size hb.size, h.h0, h.h1, h.hb0⟩
theorem TwoSt.alloc (h : TwoSt w base B b0 bs vl ll V1 V2 W U1 L1 U2 L2) (o : Obj) : TwoSt w base B b0 bs vl ll V1 V2 (W.alloc o) U1 L1 U2 L2 := h.below ((Below.refl _ _).alloc (Nat.le_refl _) o)
theorem TwoSt.drew (h : TwoSt w base B b0 bs vl ll V1 V2 W U1 L1 U2 L2) : TwoSt w base B b0 bs vl ll V1 V2 W.drew U1 L1 U2 L2 := h.below (Below.refl _ _).drew
theorem TwoSt.app1 (h : TwoSt w base B b0 bs vl ll V1 V2 W U1 L1 U2 L2) (hg : W.grownBy W' U1.ownBlock) (ho : Own W' B 3 encZ U1' L1') (hl : U1'.ownBlock = U1.ownBlock ∨ U1'.ownBlock = some W.heap.size) (hb : Below B W W') :
    TwoSt w base B b0 bs vl ll V1 V2 W' U1' L1' U2 L2 :=
  ⟨h.lst.kept hg (own_ne h.lst h.own1 (by decide)), blk_grown h.sums h.own1 hg (by decide), blk_grown h.zero h.own1 hg (by decide), ho, h.own2.kept hg (by
    cases e : U2.ownBlock with
    | none => exact .inl rfl
    | some g => exact .inr fun he => h.sep g (by rw [← he]) e), fun g h1 h2 => by
      rcases hl with hl | hl
      · exact h.sep g (hl ▸ h1) h2
      · rw [hl] at h1; cases h1; exact absurd (h.own2.lt _ h2).2 (Nat.lt_irrefl _), h.blw.trans (hb.mono (by have := h.h0; have := h.h1; have := h.hb0; omega)), Nat.le_trans h.size hb.size, h.h0, h.h1, h.hb0⟩
theorem TwoSt.app2 (h : TwoSt w base B b0 bs vl ll V1 V2 W U1 L1 U2 L2) (hg : W.grownBy W' U2.ownBlock) (ho : Own W' B 3 encZ U2' L2') (hl : U2'.ownBlock = U2.ownBlock ∨ U2'.ownBlock = some W.heap.size) (hb : Below B W W') :
    TwoSt w base B b0 bs vl ll V1 V2 W' U1 L1 U2' L2' :=
  ⟨h.lst.kept hg (own_ne h.lst h.own2 (by decide)), blk_grown h.sums h.own2 hg (by decide), blk_grown h.zero h.own2 hg (by decide), h.own1.kept hg (by
    cases e : U1.ownBlock with
    | none => exact .inl rfl
    | some g => exact .inr fun he => h.sep g e (by rw [← he])), ho, fun g h1 h2 => by
      rcases hl with hl | hl
      · exact h.sep g h1 (hl ▸ h2)
      · rw [hl] at h2; cases h2; exact absurd (h.own1.lt _ h1).2 (Nat.lt_irrefl _), h.blw.trans (hb.mono (by have := h.h0; have := h.h1; have := h.hb0; omega)), Nat.le_trans h.size hb.size, h.h0, h.h1, h.hb0⟩
theorem TwoSt.st (h : TwoSt w base B b0 bs vl ll V1 V2 W U1 L1 U2 L2) : TwoSt w base B b0 bs vl ll U1 U2 ((W.setCell ⟨bs, 0, none⟩ U1).setCell ⟨bs, 1, none⟩ U2) U1 L1 U2 L2 :=
  have hbb : base ≤ bs := by have := h.h0; have := h.hb0; omega
  ⟨(h.lst.setCellT h.sums.ty (by decide)).setCellT h.sums.ty.setCell (by decide), heap_set_at (i := 1) (heap_set_at (i := 0) h.sums _) _,
    (Below.heap_setCell _ _ _ _ (by have := h.h0; simp only; omega)).trans ((Below.heap_setCell _ _ _ _ (by have := h.h0; simp only; omega)).trans h.zero),
    (h.own1.setCellB h.h1).setCellB h.h1, (h.own2.setCellB h.h1).setCellB h.h1, h.sep, (h.blw.setCell (p := ⟨bs, 0, none⟩) hbb _).setCell (p := ⟨bs, 1, none⟩) hbb _, by simp only [World.size_setCell]; exact h.size, h.h0, h.h1, h.hb0⟩
theorem Own.ty_at {α : Type} {size base e : Nat} {w : World} {E : Enc α size} {b off n cap : Nat} {l : List α} (h : Own w base e E (.slice (some ⟨b, off, none⟩) n cap) l) : TypeAt w b e := by
  rcases h with ⟨hv, _⟩ | ⟨g, o, c, cur, hv, _, hh, _⟩
  · cases hv
  · cases hv
    exact .of hh
theorem TwoSt.set2 {b o n c : Nat} (h : TwoSt w base B b0 bs vl ll V1 V2 W U1 L1 (.slice (some ⟨b, o, none⟩) n c) L2) (m : Nat) (hm : m < L2.length) (x : Int) :
    TwoSt w base B b0 bs vl ll V1 V2 (W.setCell ⟨b, o + m, none⟩ (.int .i64 x)) U1 L1 (.slice (some ⟨b, o, none⟩) n c) (L2.set m x) :=
  have hty := h.own2.ty_at
  have hbB : B ≤ b := (h.own2.lt b rfl).1
  ⟨h.lst.setCellT hty (by decide), (Below.heap_setCell _ _ _ _ (by have := h.h1; simp only; omega)).trans h.sums, (Below.heap_setCell _ _ _ _ (by have := h.h0; have := h.h1; simp only; omega)).trans h.zero,
    h.own1.setCell (fun he => h.sep b he rfl) _, by have := h.own2.setElem m 0 hm (by decide) (.int .i64 x) x rfl; simpa using this, h.sep, h.blw.setCell (p := ⟨b, o + m, none⟩) (by have := h.h0; have := h.h1; have := h.hb0; simp only; omega) _, by simp only [World.size_setCell]; exact h.size, h.h0, h.h1, h.hb0⟩
theorem set_last {t' : List Nd} {a : Nd} {m : Nat} (hm : m = t'.length) (z : Nd) : ((t' ++ [a]).map (·.2)).set m z.2 = (t' ++ [z]).map (·.2) := by
  subst hm
  rw [List.map_append, List.set_append_right _ _ (by simp)]
  simp
/-- An append leaves the cells of other blocks. -/
theorem grown_new {row : Option Nat} (hg : W.grownBy W' row) (z : Nat) (hz : ∀ g, row = some g → g < z) (b o : Nat) (h1 : z ≤ b) (h2 : b < W.heap.size) : W'.cell? ⟨b, o, none⟩ = W.cell? ⟨b, o, none⟩ :=
  grown_cell hg b h2 (by rintro rfl; have := hz b rfl; omega) o
end
theorem sl_cell {W : World} {b o : Nat} {x : Int} (h : W.cell? ⟨b, o, none⟩ = some (.int .i64 x)) (hb : b < W.heap.size) : Sl W W.heap.size encZ (some ⟨b, o, none⟩) [x] :=
  .inr ⟨b, o, rfl, hb, fun i y hi j u hj => by
    cases i with
    | succ i => simp at hi
    | zero =>
      simp at hi; subst hi
      cases j with
      | succ j => simp [encZ] at hj
      | zero => simp [encZ] at hj; subst hj; simpa using h⟩
theorem sum_part {l : List Nd} (h : ∀ z ∈ l, 1 ≤ z.2) {q : Nat} (hq : q < l.length) : 0 ≤ sumR (l.take q) ∧ sumR (l.take q) + l[q].2 ≤ sumR l := by
  induction l generalizing q with
  | nil => exact absurd hq (Nat.not_lt_zero _)
  | cons x l ih =>
    have hx := h x (by simp)
    cases q with
    | zero =>
      have : ∀ l : List Nd, (∀ z ∈ l, 1 ≤ z.2) → 0 ≤ sumR l := fun l => by
        intro hl
        induction l with
        | nil => simp [sumR]
        | cons y l ih2 => have := hl y (by simp); have := ih2 fun z hz => hl z (by simp [hz]); simp only [sumR]; omega
      have := this l fun z hz => h z (by simp [hz])
      simp [sumR]; omega
    | succ q =>
      have := ih (fun z hz => h z (by simp [hz])) (q := q) (by simpa using hq)
      simp only [List.take_succ_cons, sumR, List.getElem_cons_succ]; omega
end Go.Proofs.YtilkfolhglpaoaaGreat
/- Package quant: reach, ends, At. -/
namespace Go.Proofs.YtilkfolhglpaoaaGreat
open Go.ChangeShapes Go.WideShapes Go.ChangeAt Go.RowKit
set_option linter.unusedVariables false
set_option maxRecDepth 100000

/-- Which of two numbers is greater. -/
def cmpI (a b : Int) : Int := if a < b then -1 else if b < a then 1 else 0
theorem cmp_isNaN (w : World) (a : Int) : Calls Tryz.prog 164 #[.int .i64 a] w fun e w' => e = .returned (.bool false) ∧ w' = w := by
  go_enter Tryz.func164, Tryz.ntmps164
  go_wp2_with fail
  go_ret
  exact ⟨by simp, rfl⟩
theorem cmp_Compare (w : World) (a b : Int) : Calls Tryz.prog 92 #[.int .i64 a, .int .i64 b] w fun e w' => e = .returned (.int .i64 (cmpI a b)) ∧ w' = w := by
  rcases Int.lt_trichotomy a b with h | rfl | h
  · rw [show cmpI a b = -1 by unfold cmpI; rw [if_pos h]]
    go_enter Tryz.func92, Tryz.ntmps92
    go_wp2_with (go_at_call 164; refine (cmp_isNaN _ _).mono ?_; rintro e w' ⟨rfl, rfl⟩)
    go_ret
    exact ⟨rfl, rfl⟩
  · rw [show cmpI a a = 0 by unfold cmpI; rw [if_neg (by omega), if_neg (by omega)]]
    have h1 : ¬ a < a := by omega
    go_enter Tryz.func92, Tryz.ntmps92
    go_wp2_with (go_at_call 164; refine (cmp_isNaN _ _).mono ?_; rintro e w' ⟨rfl, rfl⟩)
    go_ret
    exact ⟨rfl, rfl⟩
  · rw [show cmpI a b = 1 by unfold cmpI; rw [if_neg (by omega), if_pos h]]
    have h1 : ¬ a < b := by omega
    go_enter Tryz.func92, Tryz.ntmps92
    go_wp2_with (go_at_call 164; refine (cmp_isNaN _ _).mono ?_; rintro e w' ⟨rfl, rfl⟩)
    go_ret
    exact ⟨rfl, rfl⟩
theorem reach_cmp (W : World) (x y : Nd) : Calls Tryz.prog 212 #[.agg #[.int .i64 x.1, .int .i64 x.2], .agg #[.int .i64 y.1, .int .i64 y.2]] W fun e W' => e = .returned (.int .i64 (cmpI x.1 y.1)) ∧ ∃ q os', W' = Go.Sort.grow (W.drewN q) os' := by
  go_enter Tryz.func212, Tryz.ntmps212
  go_wp2_with fail
  refine (cmp_Compare _ _ _).mono ?_
  rintro e w1 ⟨rfl, rfl⟩
  go_wp2_with fail
  go_ret
  refine ⟨rfl, 0, #[.cells #[.int .i64 x.1, .int .i64 x.2] 251, .cells #[.int .i64 y.1, .int .i64 y.2] 251], ?_⟩
  rw [Go.Sort.alloc_eq_grow, Go.Sort.alloc_eq_grow, Go.Sort.grow_grow]
  rfl
theorem cmpI_lt (a b : Int) : cmpI a b < 0 ↔ a < b := by unfold cmpI; split <;> (try split) <;> omega
theorem swo_N : Go.Sort.SWO (Go.Proofs.ltOf fun x y : Nd => cmpI x.1 y.1) where
  irrefl x := by simp only [Go.Proofs.ltOf, decide_eq_false_iff_not, cmpI_lt]; omega
  trans x y z h1 h2 := by simp only [Go.Proofs.ltOf, decide_eq_true_eq, cmpI_lt] at *; omega
  ntrans x y z h1 h2 := by simp only [Go.Proofs.ltOf, decide_eq_false_iff_not, cmpI_lt] at *; omega
theorem enters_reach : ∀ args W, (callFunc 212 args).run Tryz.prog W = .ok (.enter 212 args) W := enters_of Tryz.func212 (by kernel_rfl) rfl
theorem reach_sort (w : World) (base : Nat) (v : Value) (l : List Nd) (ho : Own w base 251 encN v l) (hm : l.length ≤ 67108864) :
    Calls Tryz.prog 211 #[v, .func (.func 212) #[] #[]] w fun en w' => en = .returned (.tuple #[]) ∧ ∃ l', l'.Perm l ∧ l'.Pairwise (fun a b => a.1 ≤ b.1) ∧ Own w' base 251 encN v l' ∧ Turn (fun b => v.ownBlock = some b) w w' := by
  refine Calls.mono (sortFunc_own Tryz.sortEnd encN (by intro w; kernel_rfl) (by intro w; kernel_rfl) (fun x y : Nd => cmpI x.1 y.1) swo_N 212 #[] enters_reach w base 251 v l ho (by omega) (fun W _ x y => reach_cmp W x y)) ?_
  rintro e w' ⟨rfl, l', hp, hs, ho', hT⟩
  refine ⟨rfl, l', hp, hs.imp fun {a b} h => ?_, ho', hT⟩
  simp only [Go.Proofs.ltOf, decide_eq_false_iff_not, cmpI_lt] at h
  omega
def QReach (v : Value) (l : List Nd) (k : Int) (w : World) (e : Ending) (w' : World) : Prop := ∃ z, e = .returned (.int .i64 z) ∧ ReachP l k z ∧ Turn (fun b => v.ownBlock = some b) w w'
set_option maxHeartbeats 1000000 in
theorem quant_reach (w : World) (base : Nat) (v : Value) (l : List Nd) (k : Int) (ho : Own w base 251 encN v l) (h1 : ∀ x ∈ l, 1 ≤ x.2) (hk : 1 ≤ k) (hks : k ≤ sumR l) (hs : sumR l ≤ 72057594037927935) (hm : l.length ≤ 67108864) :
    Calls Tryz.prog 165 #[v, .int .i64 k] w (QReach v l k w) := by
  have HO := Lib.hid ho
  have H1 := Lib.hid h1
  clear ho h1
  go_enter Tryz.func165, Tryz.ntmps165
  go_wp2_with fail
  refine (reach_sort _ base v l HO.out hm).mono ?_
  rintro e w1 ⟨rfl, l', hp, hsrt, ho1, hT⟩
  have HP := Lib.hid hp
  have HSo := Lib.hid hsrt
  have HO1 := Lib.hid ho1
  have HT := Lib.hid hT
  have HLen := Lib.hid hp.length_eq
  have hsum : sumR l' = sumR l := sumR_perm hp
  have HSum := Lib.hid hsum
  have h1' : Hid (∀ z ∈ l', 1 ≤ z.2) := Lib.hid fun z hz => H1.out z (hp.mem_iff.1 hz)
  have hlm : l'.length ≤ 67108864 := by have := HLen.out; omega
  have hl0 : 0 < l'.length := by
    rcases Nat.eq_zero_or_pos l'.length with h0 | h0
    · have := List.eq_nil_of_length_eq_zero h0; rw [this] at hsum; simp [sumR] at hsum; omega
    · exact h0
  clear hp hsrt ho1 hT hsum
  obtain ⟨A, cap, rfl, _⟩ := HO1.out.form
  go_wp2_with fail
  go_loop [1, 5] (fun r a => ∃ i : Nat, i < l'.length ∧ a = .int .i64 i ∧ r = .int .i64 (k - sumR (l'.take i)) ∧ sumR (l'.take i) < k) (fun _ a => l'.length - (intOf a).toNat)
  case atStart => exact ⟨0, hl0, rfl, by simp [sumR], by simp [sumR]; omega⟩
  case round =>
    obtain ⟨i, hi, rfl, rfl, hlt⟩ := hrel
    obtain ⟨c, off, rfl, hc, hcl⟩ := HO1.out.sl.at_ hi
    have d0 := hcl 0 (.int .i64 l'[i].1) rfl
    have d1 := hcl 1 (.int .i64 l'[i].2) rfl
    simp only [Nat.add_zero] at d0
    have e1 := sumR_take_succ hi
    have sp := sum_part h1'.out hi
    have hx1 := h1'.out _ (List.getElem_mem hi)
    have hss := HSum.out
    have RA := Lib.hid (fun h => reach_at h1'.out HSo.out hi hlt h)
    have hint : (i : Int) < (l'.length : Int) := by omega
    obtain ⟨x, hxe⟩ : ∃ x, x = l'[i] := ⟨_, rfl⟩
    rw [← hxe] at d0 d1 e1 sp hx1 RA
    have HE := Lib.hid e1
    obtain ⟨n, hn⟩ : ∃ n, n = sumR (l'.take i) := ⟨_, rfl⟩
    rw [← hn] at sp hlt HE ⊢
    clear hcl hxe e1 hn hss
    by_cases hgt : n + x.2 < k
    · have hd : decide (x.2 < k - n) = true := by simp; omega
      have hi2 : i + 1 < l'.length := by
        rcases Nat.lt_or_ge (i + 1) l'.length with h | h
        · exact h
        · have h2 : l'.take (i + 1) = l' := List.take_of_length_le h
          have h3 := HE.out
          rw [h2] at h3
          have := HSum.out
          omega
      go_wp2_with fail
      go_round
      case rel => exact ⟨i + 1, hi2, by go_num, by rw [HE.out]; go_num, by rw [HE.out]; exact hgt⟩
      case measure => simp [intOf]; omega
    · have hd : decide (x.2 < k - n) = false := by simp; omega
      go_wp2_with fail
      go_ret
      exact ⟨x.1, rfl, (RA.out (by rw [HE.out]; omega)).perm HP.out, HT.out⟩
end Go.Proofs.YtilkfolhglpaoaaGreat
/- A region that draws its order: loads are taken first under a condition S, which the operations in X, behind all of these loads, need not keep. -/
namespace Go.Proofs.YtilkfolhglpaoaaGreat
open Go.RowKit

section
variable {P : Program} {md : Region.Mode} {ops : Array Oper} {Q : Exit → Act → World → Prop} {S : World → Prop} {X : List Nat}
/-- Whatever order is picked from here on, and S holds behind every operation that isn't in X. -/
def wpAnyN (P : Program) (md : Region.Mode) (ops : Array Oper) (Q : Exit → Act → World → Prop) (S : World → Prop) (X : List Nat) : Nat → Array Bool → Act → World → Prop
  | 0, listed, a, w => Region.ready md ops listed = [] ∧ Q .normal a w
  | fuel + 1, listed, a, w =>
    (Region.ready md ops listed = [] → Q .normal a w) ∧
    ∀ i ∈ Region.ready md ops listed, wpOp P ops Q i (fun a' w' => (i ∉ X → S w → S w') ∧ wpAnyN P md ops Q S X fuel (listed.setIfInBounds i true) a' w') a w
theorem wpAny_of_N : ∀ (fuel : Nat) (listed : Array Bool) (a : Act) (w : World), wpAnyN P md ops Q S X fuel listed a w → wpAny P md ops Q fuel listed a w
  | 0, _, _, _, h => h
  | fuel + 1, _, _, _, h => ⟨h.1, fun i hi => wpOp_mono (fun a' w' h' => wpAny_of_N fuel _ a' w' h'.2) (h.2 i hi)⟩
theorem wpAnyN_first {i : Nat} {oi : Oper} {v : Value} (hi : ops[i]? = some oi) (hsel : ∀ (j : Nat) (o : Oper) cs b, ops[j]? = some o → o.op ≠ .select cs b)
    (hQ : ∀ c a w, Q (.panic c) (a.put oi.dst v) w → Q (.panic c) a w) (hX : ∀ j ∈ X, ∃ o, ops[j]? = some o ∧ ∃ e ∈ o.after, Region.binds md e = true ∧ e.on = i) :
    ∀ (fuel : Nat) (listed : Array Bool) (a : Act) (w : World),
      (∀ j oj, ops[j]? = some oj → j ≠ i → listed.getD j true = false → (∀ e ∈ oj.after, Region.binds md e = true → e.on ≠ i) → oi.apart ops oj = true) →
      i ∈ Region.ready md ops listed → YieldsIf P ops S oi v a → S w →
      wpAnyN P md ops Q S X fuel (listed.setIfInBounds i true) (a.put oi.dst v) w → wpAnyN P md ops Q S X (fuel + 1) listed a w := by
  intro fuel
  induction fuel with
  | zero =>
    intro listed a w _ hr hy hS H
    refine ⟨fun h => (by rw [h] at hr; cases hr), fun j hj => ?_⟩
    by_cases hji : j = i
    · subst hji; exact hy.wpOp hi hS ⟨fun _ h => h, H⟩
    · have := ready_mono hj hji
      rw [H.1] at this
      cases this
  | succ fuel ih =>
    intro listed a w hfree hr hy hS H
    refine ⟨fun h => (by rw [h] at hr; cases hr), fun j hj => ?_⟩
    by_cases hji : j = i
    · subst hji; exact hy.wpOp hi hS ⟨fun _ h => h, H⟩
    · have h1 := H.2 j (ready_mono hj hji)
      obtain ⟨hjun, oj, hoj, hall⟩ := mem_ready.1 hj
      have hnot : ∀ e ∈ oj.after, Region.binds md e = true → e.on ≠ i := fun e he hb heq => by
        have h1 := hall e he hb
        have h0 := (mem_ready.1 hr).1
        rw [heq] at h1
        rcases Nat.lt_or_ge i listed.size with h' | h'
        · simp [h'] at h0 h1; rw [h0] at h1; cases h1
        · simp [Array.getElem?_eq_none h'] at h1
      have hjX : j ∉ X := fun hx => by
        obtain ⟨o, ho, e, he, hb, hon⟩ := hX j hx
        have : o = oj := Option.some.inj (ho.symm.trans hoj)
        subst this
        exact hnot e he hb hon
      have h2 := wpOp_putIf hoj (hfree j oj hoj hji hjun hnot) (fun cs b => hsel i oi cs b hi) (fun cs b => hsel j oj cs b hoj) hQ hy h1
      have hfree' : ∀ k ok, ops[k]? = some ok → k ≠ i → (listed.setIfInBounds j true).getD k true = false →
          (∀ e ∈ ok.after, Region.binds md e = true → e.on ≠ i) → oi.apart ops ok = true := fun k ok hk hki hun hno => by
        refine hfree k ok hk hki ?_ hno
        by_cases hjk : j = k
        · subst hjk; exact hjun
        · rw [getD_set_ne true hjk] at hun; exact hun
      refine wpOp_mono (fun a' w' h3 => ⟨h3.2.1, ih (listed.setIfInBounds j true) a' w' hfree' (ready_mono hr (Ne.symm hji)) h3.1 (h3.2.1 hjX hS) ?_⟩) h2
      rw [Array.setIfInBounds_comm _ _ hji]
      exact h3.2.2
theorem wpAnyN_first0 {i : Nat} {oi : Oper} {v : Value} (hi : ops[i]? = some oi) (hsel : ∀ (j : Nat) (o : Oper) cs b, ops[j]? = some o → o.op ≠ .select cs b)
    (hQ : ∀ c a w, Q (.panic c) (a.put oi.dst v) w → Q (.panic c) a w) :
    ∀ (fuel : Nat) (listed : Array Bool) (a : Act) (w : World),
      (∀ j oj, ops[j]? = some oj → j ≠ i → listed.getD j true = false → (∀ e ∈ oj.after, Region.binds md e = true → e.on ≠ i) → oi.apart ops oj = true) →
      i ∈ Region.ready md ops listed → YieldsIf P ops (fun _ => True) oi v a →
      wpAnyN P md ops Q S X fuel (listed.setIfInBounds i true) (a.put oi.dst v) w → wpAnyN P md ops Q S X (fuel + 1) listed a w := by
  intro fuel
  induction fuel with
  | zero =>
    intro listed a w _ hr hy H
    refine ⟨fun h => (by rw [h] at hr; cases hr), fun j hj => ?_⟩
    by_cases hji : j = i
    · subst hji; exact hy.wpOp hi trivial ⟨fun _ h => h, H⟩
    · have := ready_mono hj hji
      rw [H.1] at this
      cases this
  | succ fuel ih =>
    intro listed a w hfree hr hy H
    refine ⟨fun h => (by rw [h] at hr; cases hr), fun j hj => ?_⟩
    by_cases hji : j = i
    · subst hji; exact hy.wpOp hi trivial ⟨fun _ h => h, H⟩
    · have h1 := H.2 j (ready_mono hj hji)
      obtain ⟨hjun, oj, hoj, hall⟩ := mem_ready.1 hj
      have hnot : ∀ e ∈ oj.after, Region.binds md e = true → e.on ≠ i := fun e he hb heq => by
        have h1 := hall e he hb
        have h0 := (mem_ready.1 hr).1
        rw [heq] at h1
        rcases Nat.lt_or_ge i listed.size with h' | h'
        · simp [h'] at h0 h1; rw [h0] at h1; cases h1
        · simp [Array.getElem?_eq_none h'] at h1
      have h2 := wpOp_putIf hoj (hfree j oj hoj hji hjun hnot) (fun cs b => hsel i oi cs b hi) (fun cs b => hsel j oj cs b hoj) hQ hy h1
      have hfree' : ∀ k ok, ops[k]? = some ok → k ≠ i → (listed.setIfInBounds j true).getD k true = false →
          (∀ e ∈ ok.after, Region.binds md e = true → e.on ≠ i) → oi.apart ops ok = true := fun k ok hk hki hun hno => by
        refine hfree k ok hk hki ?_ hno
        by_cases hjk : j = k
        · subst hjk; exact hjun
        · rw [getD_set_ne true hjk] at hun; exact hun
      refine wpOp_mono (fun a' w' h3 => ⟨h3.2.1, ih (listed.setIfInBounds j true) a' w' hfree' (ready_mono hr (Ne.symm hji)) h3.1 ?_⟩) h2
      rw [Array.setIfInBounds_comm _ _ hji]
      exact h3.2.2
/-- Take number i first. -/
theorem wpAnyN_take {i : Nat} {oi : Oper} {v : Value} {fuel : Nat} {listed : Array Bool} {a : Act} {w : World} (hi : ops[i]? = some oi)
    (hs : Region.noSelect ops = true) (hf : Region.free md ops listed i = true) (hr : (Region.ready md ops listed).contains i = true) (hX : (X.all fun j => Region.waitsFor md ops j i) = true)
    (hQ : ∀ c a w, Q (.panic c) (a.put oi.dst v) w → Q (.panic c) a w) (hy : YieldsIf P ops S oi v a) (hS : S w)
    (h : wpAnyN P md ops Q S X fuel (listed.setIfInBounds i true) (a.put oi.dst v) w) : wpAnyN P md ops Q S X (fuel + 1) listed a w :=
  wpAnyN_first hi (Region.noSelect_spec hs) hQ (fun j hj => Region.waitsFor_spec (List.all_eq_true.1 hX j hj)) fuel listed a w (Region.free_spec hi hf) (by simpa using hr) hy hS h
/-- Take number i first, which yields in whatever world. -/
theorem wpAnyN_pure {i : Nat} {oi : Oper} {v : Value} {fuel : Nat} {listed : Array Bool} {a : Act} {w : World} (hi : ops[i]? = some oi)
    (hs : Region.noSelect ops = true) (hf : Region.free md ops listed i = true) (hr : (Region.ready md ops listed).contains i = true)
    (hQ : ∀ c a w, Q (.panic c) (a.put oi.dst v) w → Q (.panic c) a w) (hy : YieldsIf P ops (fun _ => True) oi v a)
    (h : wpAnyN P md ops Q S X fuel (listed.setIfInBounds i true) (a.put oi.dst v) w) : wpAnyN P md ops Q S X (fuel + 1) listed a w :=
  wpAnyN_first0 hi (Region.noSelect_spec hs) hQ fuel listed a w (Region.free_spec hi hf) (by simpa using hr) hy h
/-- One may come up, or one of two. -/
theorem wpAnyN_one {i : Nat} {o : Oper} {fuel : Nat} {listed : Array Bool} {a : Act} {w : World} (hr : Region.ready md ops listed = [i]) (ho : ops[i]? = some o)
    (h : ∀ K : Act → World → Prop, Shut (∀ a' w', (i ∉ X → S w → S w') → wpAnyN P md ops Q S X fuel (listed.setIfInBounds i true) a' w' → K a' w') → if Region.wanted o (yielded ops a.tmps) = true then Oper.wp P o a w K Q else K (a.put o.dst undef) w) :
    wpAnyN P md ops Q S X (fuel + 1) listed a w := by
  refine ⟨(fun h0 => by rw [hr] at h0; cases h0), fun j hj => ?_⟩
  rw [hr] at hj
  simp at hj
  subst hj
  exact wpOp_step ho fun K' hK => h K' fun a' w' h1 h2 => hK a' w' ⟨h1, h2⟩
theorem wpAnyN_two {i k : Nat} {o ok : Oper} {fuel : Nat} {listed : Array Bool} {a : Act} {w : World} (hr : Region.ready md ops listed = [i, k]) (ho : ops[i]? = some o) (hk : ops[k]? = some ok)
    (h : ∀ K : Act → World → Prop, Shut (∀ a' w', (i ∉ X → S w → S w') → wpAnyN P md ops Q S X fuel (listed.setIfInBounds i true) a' w' → K a' w') → if Region.wanted o (yielded ops a.tmps) = true then Oper.wp P o a w K Q else K (a.put o.dst undef) w)
    (h' : ∀ K : Act → World → Prop, Shut (∀ a' w', (k ∉ X → S w → S w') → wpAnyN P md ops Q S X fuel (listed.setIfInBounds k true) a' w' → K a' w') → if Region.wanted ok (yielded ops a.tmps) = true then Oper.wp P ok a w K Q else K (a.put ok.dst undef) w) :
    wpAnyN P md ops Q S X (fuel + 1) listed a w := by
  refine ⟨(fun h0 => by rw [hr] at h0; cases h0), fun j hj => ?_⟩
  rw [hr] at hj
  simp at hj
  rcases hj with rfl | rfl
  · exact wpOp_step ho fun K' hK => h K' fun a' w' h1 h2 => hK a' w' ⟨h1, h2⟩
  · exact wpOp_step hk fun K' hK => h' K' fun a' w' h1 h2 => hK a' w' ⟨h1, h2⟩
theorem wpAnyN_done {listed : Array Bool} {a : Act} {w : World} (hr : Region.ready md ops listed = []) (h : Q .normal a w) : ∀ fuel, wpAnyN P md ops Q S X fuel listed a w
  | 0 => ⟨hr, h⟩
  | _ + 1 => ⟨fun _ => h, by rw [hr]; simp⟩
theorem wp_region_N {id : Nat} {a : Act} {w : World} (S : World → Prop) (X : List Nat) (hm : P.follows .mixedOrders = true) (hS : S w.drew)
    (h : S w.drew → wpAnyN P .any ops Q S X ops.size (Array.replicate ops.size false) a w.drew) : (Code.region id ops true).wp P Q a w :=
  wp_region_any hm (wpAny_of_N _ _ _ _ (h hS))
end
end Go.Proofs.YtilkfolhglpaoaaGreat
