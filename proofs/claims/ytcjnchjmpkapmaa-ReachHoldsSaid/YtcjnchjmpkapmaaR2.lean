/-
  Texts of this proof, one behind the other: Pool, Pool2, Each, Light, Tail, Digest, Rank, Ref02, RefLoad, Open, Load16, RankPlain, TilesLaw, FitsP, Flow, TellsA, Digits, Times, Quot, DivLaw, Div64, Part, Reach.
-/
import Derived.RangeFuncNested
import Derived.RangeFuncBound
import Derived.RangeFuncCalls
import Derived.RangeFuncLeaves
import Derived.RangeFuncWrites
import Derived.Shelf.Abstract
import Derived.Shelf.RegionOpen
import Derived.OwnWalkIn
import Derived.TacticsInMore
import Derived.LoopNIn
import Derived.LoopIn
import Derived.StillTail
import Derived.Deep.CutBlock
import Derived.Deep.DeepCutAuto
import Derived.Test.YtcjnchjmpkapmaaR1
/- Package pool: a store of either kind. -/
set_option linter.unusedSimpArgs false namespace Go.Proofs.Ytcjnchjmpkapmaa
open Go.ChangeShapes Go.WideShapes Go.ChangeAt Go.RowKit
set_option linter.unusedVariables false

def footP (g : Nat) (F0 : Nat → Prop) : Nat → Prop := fun b => b = g ∨ F0 b
def PoolAt (w : World) (g K l : Nat) (r : List Nd) (F : Nat → Prop) : Prop :=
  1 ≤ l ∧ l ≤ 48 ∧ Fits l r ∧ ∃ h F0, F = footP g F0 ∧ ((K = 1 ∧ l ≤ 16 ∧ w.heap[g]? = some (.cells #[.pointer (some ⟨h, 0, none⟩), .pointer none] 91 (0, 0)) ∧ DenseAt w h l r F0) ∨
    (K = 2 ∧ w.heap[g]? = some (.cells #[.pointer none, .pointer (some ⟨h, 0, none⟩)] 91 (0, 0)) ∧ ProbeAt w h l r F0))
theorem PoolAt.keep {w w' : World} {g K l : Nat} {r : List Nd} {F : Nat → Prop} (h : PoolAt w g K l r F) (hk : ∀ b, F b → w'.heap[b]? = w.heap[b]?) : PoolAt w' g K l r F := by
  obtain ⟨h1, h2, h3, p, F0, rfl, h4⟩ := h
  refine ⟨h1, h2, h3, p, F0, rfl, ?_⟩
  rcases h4 with ⟨a, b, c, d⟩ | ⟨a, c, d⟩
  · exact .inl ⟨a, b, (hk g (.inl rfl)).trans c, d.keep fun q hq => hk q (.inr hq)⟩
  · exact .inr ⟨a, (hk g (.inl rfl)).trans c, d.keep fun q hq => hk q (.inr hq)⟩
theorem PoolAt.lt {w : World} {g K l : Nat} {r : List Nd} {F : Nat → Prop} (h : PoolAt w g K l r F) : ∀ b, F b → b < w.heap.size := by
  obtain ⟨h1, h2, h3, p, F0, rfl, h4⟩ := h
  rintro q (rfl | hq)
  · rcases h4 with ⟨a, b, c, d⟩ | ⟨a, c, d⟩
    · exact lt_of_block c
    · exact lt_of_block c
  · rcases h4 with ⟨a, b, c, d⟩ | ⟨a, c, d⟩
    · exact d.lt q hq
    · exact d.lt q hq
theorem PoolAt.below {w w' : World} {g K l : Nat} {r : List Nd} {F : Nat → Prop} (h : PoolAt w g K l r F) (hb : Below w.heap.size w w') : PoolAt w' g K l r F := h.keep fun b hf => hb.block b (h.lt b hf)
theorem PoolAt.fits {w : World} {g K l : Nat} {r : List Nd} {F : Nat → Prop} (h : PoolAt w g K l r F) : Fits l r := h.2.2.1
def PoolTypes (t : TypeId) : Prop := t = 91 ∨ t = 103 ∨ t = 3 ∨ t = 105 ∨ t = 45
theorem PoolAt.typed {w : World} {g K l : Nat} {r : List Nd} {F : Nat → Prop} (h : PoolAt w g K l r F) : ∀ b, F b → ∃ t, PoolTypes t ∧ TypeAt w b t := by
  obtain ⟨h1, h2, h3, p, F0, rfl, h4⟩ := h
  rintro q (rfl | hq)
  · rcases h4 with ⟨a, b, c, d⟩ | ⟨a, c, d⟩
    · exact ⟨_, .inl rfl, .of c⟩
    · exact ⟨_, .inl rfl, .of c⟩
  · rcases h4 with ⟨a, b, c, d⟩ | ⟨a, c, d⟩
    · rcases d.typed q hq with h | h
      · exact ⟨_, .inr (.inl rfl), h⟩
      · exact ⟨_, .inr (.inr (.inl rfl)), h⟩
    · rcases d.typed q hq with h | h
      · exact ⟨_, .inr (.inr (.inr (.inl rfl))), h⟩
      · exact ⟨_, .inr (.inr (.inr (.inr rfl))), h⟩
theorem typeAt_eq {w : World} {b t t' : Nat} (h : TypeAt w b t) (h' : TypeAt w b t') : t = t' := by
  obtain ⟨_, _, h⟩ := h
  obtain ⟨_, _, h'⟩ := h'
  rw [h] at h'
  cases h'
  rfl

theorem pool_isArray (w : World) (g h : Nat) (q0 : Value) (hh : w.heap[g]? = some (.cells #[.pointer (some ⟨h, 0, none⟩), q0] 91 (0, 0))) : Calls Try.prog 48 #[.pointer (some ⟨g, 0, none⟩)] w fun e w' => e = .returned (.bool true) ∧ Below w.heap.size w w' := by
  have c := blk_cell hh
  have z := lt_of_block hh
  clear hh
  go_enter Try.func48, Try.ntmps48
  go_wp2_with fail
  go_ret
  exact ⟨rfl, (by repeat (first | with_reducible exact Below.refl _ _ | with_reducible assumption | ((with_reducible refine Below.setCell ?_ ?_ _); rotate_left; · (first | omega | exact Nat.le_refl _ | (simp <;> omega))) | (with_reducible refine Below.allocW ?_ _) | (with_reducible refine Below.drew ?_) | (with_reducible refine Below.extW ?_ _)))⟩
theorem pool_isArray_no (w : World) (g : Nat) (q0 : Value) (hh : w.heap[g]? = some (.cells #[.pointer none, q0] 91 (0, 0))) : Calls Try.prog 48 #[.pointer (some ⟨g, 0, none⟩)] w fun e w' => e = .returned (.bool false) ∧ Below w.heap.size w w' := by
  have c := blk_cell hh
  have z := lt_of_block hh
  clear hh
  go_enter Try.func48, Try.ntmps48
  go_wp2_with fail
  go_ret
  exact ⟨rfl, (by repeat (first | with_reducible exact Below.refl _ _ | with_reducible assumption | ((with_reducible refine Below.setCell ?_ ?_ _); rotate_left; · (first | omega | exact Nat.le_refl _ | (simp <;> omega))) | (with_reducible refine Below.allocW ?_ _) | (with_reducible refine Below.drew ?_) | (with_reducible refine Below.extW ?_ _)))⟩
theorem pool_inner (w : World) (g : Nat) (p : Option Addr) (q0 : Value) (hh : w.heap[g]? = some (.cells #[q0, .pointer p] 91 (0, 0))) : Calls Try.prog 50 #[.pointer (some ⟨g, 0, none⟩)] w fun e w' => e = .returned (.pointer p) ∧ Below w.heap.size w w' := by
  have c := blk_cell hh
  have z := lt_of_block hh
  clear hh
  go_enter Try.func50, Try.ntmps50
  go_wp2_with fail
  go_ret
  exact ⟨rfl, (by repeat (first | with_reducible exact Below.refl _ _ | with_reducible assumption | ((with_reducible refine Below.setCell ?_ ?_ _); rotate_left; · (first | omega | exact Nat.le_refl _ | (simp <;> omega))) | (with_reducible refine Below.allocW ?_ _) | (with_reducible refine Below.drew ?_) | (with_reducible refine Below.extW ?_ _)))⟩

theorem pool_L (w : World) (g K l : Nat) (r : List Nd) (F : Nat → Prop) (h : PoolAt w g K l r F) : Calls Try.prog 26 #[.pointer (some ⟨g, 0, none⟩)] w fun e w' => e = .returned (.int .i64 l) ∧ Below w.heap.size w w' := by
  obtain ⟨h1, h2, h3, p, F0, rfl, h4⟩ := h
  rcases h4 with ⟨rfl, h16, hh, hd⟩ | ⟨rfl, hh, hd⟩
  · have H := Lib.hid hh
    have HD := Lib.hid hd
    clear hh hd
    go_enter Try.func26, Try.ntmps26
    go_wp2_with fail
    refine (pool_isArray _ g p _ H.out).mono ?_
    rintro e w1 ⟨rfl, hb1⟩
    have k1 := blk_below H.out hb1
    have c1 := blk_cell k1
    have z1 := lt_of_block k1
    have D1 := Lib.hid (HD.out.below hb1)
    clear k1
    go_wp2_with fail
    refine (dense_L _ p l r F0 D1.out).mono ?_
    rintro e w2 ⟨rfl, hb2⟩
    have HB2 := Lib.hid (hb1.trans (hb2.mono hb1.size))
    clear hb2
    go_wp2_with fail
    go_ret
    exact ⟨rfl, HB2.out⟩
  · have H := Lib.hid hh
    have HD := Lib.hid hd
    clear hh hd
    go_enter Try.func26, Try.ntmps26
    go_wp2_with fail
    refine (pool_isArray_no _ g _ H.out).mono ?_
    rintro e w0 ⟨rfl, hb0⟩
    have K0 := Lib.hid (blk_below H.out hb0)
    go_wp2_with fail
    refine (pool_inner _ g _ _ K0.out).mono ?_
    rintro e w1 ⟨rfl, hb1'⟩
    have hb1 := hb0.trans (hb1'.mono hb0.size)
    have D1 := Lib.hid (HD.out.below hb1)
    clear hb0 hb1' K0
    go_wp2_with fail
    refine (probe_L _ p l r F0 D1.out).mono ?_
    rintro e w2 ⟨rfl, hb2⟩
    have HB2 := Lib.hid (hb1.trans (hb2.mono hb1.size))
    clear hb2
    go_wp2_with fail
    go_ret
    exact ⟨rfl, HB2.out⟩

theorem pool_Total (w : World) (g K l : Nat) (r : List Nd) (F : Nat → Prop) (h : PoolAt w g K l r F) : Calls Try.prog 35 #[.pointer (some ⟨g, 0, none⟩)] w fun e w' => e = .returned (.int .i64 (sumR r)) ∧ Below w.heap.size w w' := by
  obtain ⟨h1, h2, h3, p, F0, rfl, h4⟩ := h
  rcases h4 with ⟨rfl, h16, hh, hd⟩ | ⟨rfl, hh, hd⟩
  · have H := Lib.hid hh
    have HD := Lib.hid hd
    clear hh hd
    go_enter Try.func35, Try.ntmps35
    go_wp2_with fail
    refine (pool_isArray _ g p _ H.out).mono ?_
    rintro e w1 ⟨rfl, hb1⟩
    have k1 := blk_below H.out hb1
    have c1 := blk_cell k1
    have z1 := lt_of_block k1
    have D1 := Lib.hid (HD.out.below hb1)
    clear k1
    go_wp2_with fail
    refine (dense_Total _ p l r F0 D1.out).mono ?_
    rintro e w2 ⟨rfl, hb2⟩
    have HB2 := Lib.hid (hb1.trans (hb2.mono hb1.size))
    clear hb2
    go_wp2_with fail
    go_ret
    exact ⟨rfl, HB2.out⟩
  · have H := Lib.hid hh
    have HD := Lib.hid hd
    clear hh hd
    go_enter Try.func35, Try.ntmps35
    go_wp2_with fail
    refine (pool_isArray_no _ g _ H.out).mono ?_
    rintro e w0 ⟨rfl, hb0⟩
    have K0 := Lib.hid (blk_below H.out hb0)
    go_wp2_with fail
    refine (pool_inner _ g _ _ K0.out).mono ?_
    rintro e w1 ⟨rfl, hb1'⟩
    have hb1 := hb0.trans (hb1'.mono hb0.size)
    have D1 := Lib.hid (HD.out.below hb1)
    clear hb0 hb1' K0
    go_wp2_with fail
    refine (probe_Total _ p l r F0 D1.out).mono ?_
    rintro e w2 ⟨rfl, hb2⟩
    have HB2 := Lib.hid (hb1.trans (hb2.mono hb1.size))
    clear hb2
    go_wp2_with fail
    go_ret
    exact ⟨rfl, HB2.out⟩

theorem pool_Snap (w : World) (g K l : Nat) (r : List Nd) (F : Nat → Prop) (h : PoolAt w g K l r F) (hn : r.length ≤ 67108864) : Calls Try.prog 41 #[.pointer (some ⟨g, 0, none⟩)] w (OwnPost 45 encN r w) := by
  obtain ⟨h1, h2, h3, p, F0, rfl, h4⟩ := h
  rcases h4 with ⟨rfl, h16, hh, hd⟩ | ⟨rfl, hh, hd⟩
  · have H := Lib.hid hh
    have HD := Lib.hid hd
    clear hh hd
    go_enter Try.func41, Try.ntmps41
    go_wp2_with fail
    refine (pool_isArray _ g p _ H.out).mono ?_
    rintro e w1 ⟨rfl, hb1⟩
    have k1 := blk_below H.out hb1
    have c1 := blk_cell k1
    have z1 := lt_of_block k1
    have D1 := Lib.hid (HD.out.below hb1)
    clear k1
    go_wp2_with fail
    refine (dense_Snap _ p l r F0 D1.out h3 h16).mono ?_
    rintro e w2 ⟨v, rfl, ho, hb2⟩
    have HB2 := Lib.hid (hb1.trans (hb2.mono hb1.size))
    have HO := Lib.hid ho
    clear ho
    clear hb2
    go_wp2_with fail
    go_ret
    exact ⟨_, rfl, HO.out.base_le hb1.size, HB2.out⟩
  · have H := Lib.hid hh
    have HD := Lib.hid hd
    clear hh hd
    go_enter Try.func41, Try.ntmps41
    go_wp2_with fail
    refine (pool_isArray_no _ g _ H.out).mono ?_
    rintro e w0 ⟨rfl, hb0⟩
    have K0 := Lib.hid (blk_below H.out hb0)
    go_wp2_with fail
    refine (pool_inner _ g _ _ K0.out).mono ?_
    rintro e w1 ⟨rfl, hb1'⟩
    have hb1 := hb0.trans (hb1'.mono hb0.size)
    have D1 := Lib.hid (HD.out.below hb1)
    clear hb0 hb1' K0
    go_wp2_with fail
    refine (probe_Snap _ p l r F0 D1.out h3 hn).mono ?_
    rintro e w2 ⟨v, rfl, ho, hb2⟩
    have HB2 := Lib.hid (hb1.trans (hb2.mono hb1.size))
    have HO := Lib.hid ho
    clear ho
    clear hb2
    go_wp2_with fail
    go_ret
    exact ⟨_, rfl, HO.out.base_le hb1.size, HB2.out⟩

theorem Fits.add {l : Nat} {r : List Nd} (h : Fits l r) {k c : Int} (hk1 : 1 ≤ k) (hk2 : k < 2 * 2 ^ l) (hc : 1 ≤ c) (hsum : sumR r + c ≤ 72057594037927935) : Fits l (addR r k c) :=
  ⟨h.roll.add hk1 hc, fun x hx => by
    rcases addR_mem hx with he | hx
    · rw [he]; exact hk2
    · exact h.lt x hx, by rw [sumR_add]; exact hsum⟩
def PAddPost (w : World) (g K l : Nat) (r : List Nd) (F : Nat → Prop) (v : Value) (e : Ending) (w' : World) : Prop := ∃ F', e = .returned v ∧ PoolAt w' g K l r F' ∧ Turn F w w' ∧ Grow w F F'
theorem dense_Add (w : World) (g l : Nat) (r : List Nd) (F : Nat → Prop) (h : DenseAt w g l r F) (hf : Fits l r) (h1 : 1 ≤ l) (h2 : l ≤ 16) (k : Nat) (hk1 : 1 ≤ k) (hk2 : k < 2 * 2 ^ l) (c : Int) (hc : 0 < c) (hsum : sumR r + c ≤ 72057594037927935) :
    Calls Try.prog 69 #[.pointer (some ⟨g, 0, none⟩), .int .i64 k, .int .i64 c] w fun e w' => e = .returned (.int .i64 0) ∧ DenseAt w' g l (addR r k c) F ∧ Turn F w w' := by
  by_cases h0 : getR r k = 0
  · exact dense_Add_new w g l r F h hf h1 h2 k hk1 hk2 c hc hsum h0
  · have := getR_nonneg hf.roll (k : Int)
    exact dense_Add_old w g l r F h hf h1 h2 k hk1 hk2 c (by omega) hsum (by omega)
theorem Grow.foot {w : World} {g : Nat} {F F' : Nat → Prop} (h : Grow w F F') : Grow w (footP g F) (footP g F') := fun b hb => by
  rcases hb with hb | hb
  · exact .inl (.inl hb)
  · rcases h b hb with hb | hb
    · exact .inl (.inr hb)
    · exact .inr hb
theorem pool_Add (w : World) (g K l : Nat) (r : List Nd) (F : Nat → Prop) (h : PoolAt w g K l r F) (k : Nat) (hk1 : 1 ≤ k) (hk2 : k < 2 * 2 ^ l) (c : Int) (hc : 0 < c) (hsum : sumR r + c ≤ 72057594037927935) (hr30 : r.length < 1073741824) :
    Calls Try.prog 47 #[.pointer (some ⟨g, 0, none⟩), .int .i64 k, .int .i64 c] w (PAddPost w g K l (addR r k c) F (.int .i64 0)) := by
  obtain ⟨h1, h2, h3, p, F0, rfl, h4⟩ := h
  have hF := h3.add (k := (k : Int)) (c := c) (by omega) (by exact_mod_cast hk2) (by omega) hsum
  rcases h4 with ⟨rfl, h16, hh, hd⟩ | ⟨rfl, hh, hd⟩
  · have hgF : ¬ F0 g := fun hg => by
      rcases hd.typed g hg with h | h
      · exact absurd (typeAt_eq h (.of hh)) (by decide)
      · exact absurd (typeAt_eq h (.of hh)) (by decide)
    have H := Lib.hid hh
    have HD := Lib.hid hd
    clear hh hd
    go_enter Try.func47, Try.ntmps47
    go_wp2_with fail
    refine (pool_isArray _ g p _ H.out).mono ?_
    rintro e w1 ⟨rfl, hb1⟩
    have k1 := blk_below H.out hb1
    have c1 := blk_cell k1
    have z1 := lt_of_block k1
    have D1 := Lib.hid (HD.out.below hb1)
    have K1 := Lib.hid k1
    clear k1
    go_wp2_with fail
    refine (dense_Add _ p l r F0 D1.out h3 h1 h16 k hk1 hk2 c hc hsum).mono ?_
    rintro e w2 ⟨rfl, hd2, hT2⟩
    have HP : Hid (PAddPost w g 1 l (addR r k c) (footP g F0) (.int .i64 0) (.returned (.int .i64 0)) w2) :=
      ⟨_, rfl, ⟨h1, h2, hF, p, F0, rfl, .inl ⟨rfl, h16, hT2.keep K1.out hgF, hd2⟩⟩, (Turn.of_below hb1).trans hT2 (fun b hb => .inl (.inr hb)), Grow.refl⟩
    clear hd2 hT2
    go_wp2_with fail
    go_ret
    exact HP.out
  · have hgF : ¬ F0 g := fun hg => by
      rcases hd.typed g hg with h | h
      · exact absurd (typeAt_eq h (.of hh)) (by decide)
      · exact absurd (typeAt_eq h (.of hh)) (by decide)
    have H := Lib.hid hh
    have HD := Lib.hid hd
    clear hh hd
    go_enter Try.func47, Try.ntmps47
    go_wp2_with fail
    refine (pool_isArray_no _ g _ H.out).mono ?_
    rintro e w0 ⟨rfl, hb0⟩
    have K0 := Lib.hid (blk_below H.out hb0)
    go_wp2_with fail
    refine (pool_inner _ g _ _ K0.out).mono ?_
    rintro e w1 ⟨rfl, hb1'⟩
    have hb1 := hb0.trans (hb1'.mono hb0.size)
    have D1 := Lib.hid (HD.out.below hb1)
    have K1 := Lib.hid (blk_below H.out hb1)
    clear hb0 hb1' K0
    go_wp2_with fail
    refine (probe_Add _ p l r F0 D1.out h3 h1 h2 k hk1 hk2 c hc hsum hr30).mono ?_
    rintro e w2 ⟨F2, rfl, hd2, hT2, hG2⟩
    have HP : Hid (PAddPost w g 2 l (addR r k c) (footP g F0) (.int .i64 0) (.returned (.int .i64 0)) w2) :=
      ⟨_, rfl, ⟨h1, h2, hF, p, F2, rfl, .inr ⟨rfl, hT2.keep K1.out hgF, hd2⟩⟩, (Turn.of_below hb1).trans hT2 (fun b hb => .inl (.inr hb)), Grow.foot fun b hb => by
        rcases hG2 b hb with h | h
        · exact .inl h
        · exact .inr (Nat.le_trans hb1.size h)⟩
    clear hd2 hT2
    go_wp2_with fail
    go_ret
    exact HP.out
def isPool (K l : Int) : Bool := decide ((K = 1 ∧ 1 ≤ l ∧ l ≤ 16) ∨ (K = 2 ∧ 1 ≤ l ∧ l ≤ 48))
theorem pool_New_no (w : World) (K l : Int) (h : isPool K l = false) : Calls Try.prog 20 #[.int .i64 K, .int .i64 l] w fun e w' => e = .returned (.tuple #[.pointer none, .int .i64 2]) ∧ Below w.heap.size w w' := by
  simp only [isPool, decide_eq_false_iff_not] at h
  by_cases hK1 : K = 1
  · subst hK1
    have hl : l < 1 ∨ 16 < l := by omega
    have HC := Lib.hid (dense_New_no · l hl)
    clear h hl
    go_enter Try.func20, Try.ntmps20
    go_wp2_with fail
    refine (HC.out _).mono ?_
    rintro e w1 ⟨rfl, hb1⟩
    have B1 : Below w.heap.size w w1 := Below.then_ (by repeat (first | with_reducible exact Below.refl _ _ | with_reducible assumption | ((with_reducible refine Below.setCell ?_ ?_ _); rotate_left; · (first | omega | exact Nat.le_refl _ | (simp <;> omega))) | (with_reducible refine Below.allocW ?_ _) | (with_reducible refine Below.drew ?_) | (with_reducible refine Below.extW ?_ _))) hb1
    have s1 : w.heap.size ≤ w1.heap.size := B1.size
    have z1_0 : w.heap.size < w1.heap.size := by have := hb1.size; (try simp at this); omega
    have y1_0 : w.heap.size ≤ w1.heap.size := Nat.le_of_lt z1_0
    have c1_0 := fun o => hb1.cell (p := ⟨w.heap.size, o, none⟩) (by first | omega | (simp <;> omega))
    have f1_0 := fun o => hb1.frozen (p := ⟨w.heap.size, o, none⟩) (by first | omega | (simp <;> omega))
    go_wp2_with fail
    go_ret2
    exact ⟨rfl, (by repeat (first | with_reducible exact Below.refl _ _ | with_reducible assumption | ((with_reducible refine Below.setCell ?_ ?_ _); rotate_left; · (first | omega | exact Nat.le_refl _ | (simp <;> omega))) | (with_reducible refine Below.allocW ?_ _) | (with_reducible refine Below.drew ?_) | (with_reducible refine Below.extW ?_ _)))⟩
  · by_cases hK2 : K = 2
    · subst hK2
      have hl : l < 1 ∨ 48 < l := by omega
      have HC := Lib.hid (probe_New_no · l hl)
      clear h hl
      go_enter Try.func20, Try.ntmps20
      go_wp2_with fail
      refine (HC.out _).mono ?_
      rintro e w1 ⟨rfl, hb1⟩
      have B1 : Below w.heap.size w w1 := Below.then_ (by repeat (first | with_reducible exact Below.refl _ _ | with_reducible assumption | ((with_reducible refine Below.setCell ?_ ?_ _); rotate_left; · (first | omega | exact Nat.le_refl _ | (simp <;> omega))) | (with_reducible refine Below.allocW ?_ _) | (with_reducible refine Below.drew ?_) | (with_reducible refine Below.extW ?_ _))) hb1
      have s1 : w.heap.size ≤ w1.heap.size := B1.size
      have z1_0 : w.heap.size < w1.heap.size := by have := hb1.size; (try simp at this); omega
      have y1_0 : w.heap.size ≤ w1.heap.size := Nat.le_of_lt z1_0
      have c1_0 := fun o => hb1.cell (p := ⟨w.heap.size, o, none⟩) (by first | omega | (simp <;> omega))
      have f1_0 := fun o => hb1.frozen (p := ⟨w.heap.size, o, none⟩) (by first | omega | (simp <;> omega))
      go_wp2_with fail
      go_ret2
      exact ⟨rfl, (by repeat (first | with_reducible exact Below.refl _ _ | with_reducible assumption | ((with_reducible refine Below.setCell ?_ ?_ _); rotate_left; · (first | omega | exact Nat.le_refl _ | (simp <;> omega))) | (with_reducible refine Below.allocW ?_ _) | (with_reducible refine Below.drew ?_) | (with_reducible refine Below.extW ?_ _)))⟩
    · have e1 : (K == 1) = false := by simpa using hK1
      have e2 : (K == 2) = false := by simpa using hK2
      clear h
      go_enter Try.func20, Try.ntmps20
      go_wp2_with fail
      go_ret2
      exact ⟨rfl, (by repeat (first | with_reducible exact Below.refl _ _ | with_reducible assumption | ((with_reducible refine Below.setCell ?_ ?_ _); rotate_left; · (first | omega | exact Nat.le_refl _ | (simp <;> omega))) | (with_reducible refine Below.allocW ?_ _) | (with_reducible refine Below.drew ?_) | (with_reducible refine Below.extW ?_ _)))⟩
def NewPost (K l : Nat) (r : List Nd) (w : World) (e : Ending) (w' : World) : Prop := ∃ g F, e = .returned (.tuple #[.pointer (some ⟨g, 0, none⟩), .int .i64 0]) ∧ PoolAt w' g K l r F ∧ (∀ b, F b → w.heap.size ≤ b) ∧ Below w.heap.size w w'
theorem Fits.nil (l : Nat) : Fits l [] := ⟨⟨.nil, by simp⟩, by simp, by simp [sumR]⟩
theorem pool_New (w : World) (K l : Nat) (h : isPool K l = true) : Calls Try.prog 20 #[.int .i64 K, .int .i64 l] w (NewPost K l [] w) := by
  simp only [isPool, decide_eq_true_eq] at h
  rcases h with ⟨h0, h1, h2⟩ | ⟨h0, h1, h2⟩
  · obtain rfl : K = 1 := by omega
    have HC := Lib.hid (dense_New · l (by omega) (by omega))
    go_enter Try.func20, Try.ntmps20
    go_wp2_with fail
    refine (HC.out _).mono ?_
    rintro e w1 ⟨p, F0, rfl, hd, hF, hb1⟩
    have B1 : Below w.heap.size w w1 := Below.then_ (by repeat (first | with_reducible exact Below.refl _ _ | with_reducible assumption | ((with_reducible refine Below.setCell ?_ ?_ _); rotate_left; · (first | omega | exact Nat.le_refl _ | (simp <;> omega))) | (with_reducible refine Below.allocW ?_ _) | (with_reducible refine Below.drew ?_) | (with_reducible refine Below.extW ?_ _))) hb1
    have s1 : w.heap.size ≤ w1.heap.size := B1.size
    have z1_0 : w.heap.size < w1.heap.size := by have := hb1.size; (try simp at this); omega
    have y1_0 : w.heap.size ≤ w1.heap.size := Nat.le_of_lt z1_0
    have c1_0 := fun o => hb1.cell (p := ⟨w.heap.size, o, none⟩) (by first | omega | (simp <;> omega))
    have f1_0 := fun o => hb1.frozen (p := ⟨w.heap.size, o, none⟩) (by first | omega | (simp <;> omega))
    have k1 := blk_below (heap_new_at w (.cells #[.pointer none, .pointer none] 91) _ rfl) hb1
    have c1 := blk_cell k1
    have f1 := blk_frozen k1
    have HD := Lib.hid hd
    have K1 := Lib.hid k1
    simp only [World.size_alloc] at hF
    have HF := Lib.hid hF
    clear hd k1 hF c1_0 f1_0
    go_wp2_with fail
    go_ret2
    refine ⟨w.heap.size, footP w.heap.size F0, rfl, ⟨by omega, by omega, Fits.nil l, p, F0, rfl, .inl ⟨rfl, by omega, heap_set_at K1.out _, ?_⟩⟩, ?_, (by repeat (first | with_reducible exact Below.refl _ _ | with_reducible assumption | ((with_reducible refine Below.setCell ?_ ?_ _); rotate_left; · (first | omega | exact Nat.le_refl _ | (simp <;> omega))) | (with_reducible refine Below.allocW ?_ _) | (with_reducible refine Below.drew ?_) | (with_reducible refine Below.extW ?_ _)))⟩
    · exact HD.out.keep fun b hb => Below.heap_setCell _ _ _ _ (by have := HF.out b hb; simp only; omega)
    · rintro b (rfl | hb)
      · exact Nat.le_refl _
      · have := HF.out b hb; omega
  · obtain rfl : K = 2 := by omega
    have HC := Lib.hid (probe_New · l (by omega) (by omega))
    go_enter Try.func20, Try.ntmps20
    go_wp2_with fail
    refine (HC.out _).mono ?_
    rintro e w1 ⟨p, F0, rfl, hd, hF, hb1⟩
    have B1 : Below w.heap.size w w1 := Below.then_ (by repeat (first | with_reducible exact Below.refl _ _ | with_reducible assumption | ((with_reducible refine Below.setCell ?_ ?_ _); rotate_left; · (first | omega | exact Nat.le_refl _ | (simp <;> omega))) | (with_reducible refine Below.allocW ?_ _) | (with_reducible refine Below.drew ?_) | (with_reducible refine Below.extW ?_ _))) hb1
    have s1 : w.heap.size ≤ w1.heap.size := B1.size
    have z1_0 : w.heap.size < w1.heap.size := by have := hb1.size; (try simp at this); omega
    have y1_0 : w.heap.size ≤ w1.heap.size := Nat.le_of_lt z1_0
    have c1_0 := fun o => hb1.cell (p := ⟨w.heap.size, o, none⟩) (by first | omega | (simp <;> omega))
    have f1_0 := fun o => hb1.frozen (p := ⟨w.heap.size, o, none⟩) (by first | omega | (simp <;> omega))
    have k1 := blk_below (heap_new_at w (.cells #[.pointer none, .pointer none] 91) _ rfl) hb1
    have c1 := blk_cell k1
    have f1 := blk_frozen k1
    have HD := Lib.hid hd
    have K1 := Lib.hid k1
    simp only [World.size_alloc] at hF
    have HF := Lib.hid hF
    clear hd k1 hF c1_0 f1_0
    go_wp2_with fail
    go_ret2
    refine ⟨w.heap.size, footP w.heap.size F0, rfl, ⟨by omega, by omega, Fits.nil l, p, F0, rfl, .inr ⟨rfl, heap_set_at K1.out _, ?_⟩⟩, ?_, (by repeat (first | with_reducible exact Below.refl _ _ | with_reducible assumption | ((with_reducible refine Below.setCell ?_ ?_ _); rotate_left; · (first | omega | exact Nat.le_refl _ | (simp <;> omega))) | (with_reducible refine Below.allocW ?_ _) | (with_reducible refine Below.drew ?_) | (with_reducible refine Below.extW ?_ _)))⟩
    · exact HD.out.keep fun b hb => Below.heap_setCell _ _ _ _ (by have := HF.out b hb; simp only; omega)
    · rintro b (rfl | hb)
      · exact Nat.le_refl _
      · have := HF.out b hb; omega

def rollOf (l : List Nd) : List Nd := l.foldl (fun r x => addR r x.1 x.2) []
theorem addR_last {r : List Nd} {id c : Int} (h : ∀ x ∈ r, x.1 < id) : addR r id c = r ++ [(id, c)] := by
  induction r with
  | nil => rfl
  | cons x r ih =>
    have hx := h x (by simp)
    simp only [addR]
    rw [if_neg (by omega), if_neg (by omega), ih fun y hy => h y (by simp [hy])]
    rfl
theorem sumR_append (a b : List Nd) : sumR (a ++ b) = sumR a + sumR b := by
  induction a with
  | nil => simp [sumR]
  | cons x a ih => simp only [List.cons_append, sumR, ih]; omega
theorem Roll.take {r : List Nd} (h : Roll r) (k : Nat) : Roll (r.take k) := ⟨h.1.sublist (List.take_sublist k r), fun x hx => h.2 x (List.mem_of_mem_take hx)⟩
theorem addR_take {r : List Nd} (h : Roll r) {k : Nat} (hk : k < r.length) : addR (r.take k) r[k].1 r[k].2 = r.take (k + 1) := by
  rw [List.take_succ_eq_append_getElem hk, addR_last]
  intro x hx
  obtain ⟨i, hi, rfl⟩ := List.mem_take_iff_getElem.1 hx
  exact List.pairwise_iff_getElem.1 h.1 i k (by omega) hk (by omega)
theorem sumR_take_succ {r : List Nd} {k : Nat} (hk : k < r.length) : sumR (r.take (k + 1)) = sumR (r.take k) + r[k].2 := by
  rw [List.take_succ_eq_append_getElem hk, sumR_append]; simp [sumR]
theorem sumR_take_le {r : List Nd} (h : Roll r) (k : Nat) : sumR (r.take k) ≤ sumR r := by
  have h1 : sumR r = sumR (r.take k) + sumR (r.drop k) := by rw [← sumR_append, List.take_append_drop]
  have h2 : Roll (r.drop k) := ⟨h.1.sublist (List.drop_sublist k r), fun x hx => h.2 x (List.mem_of_mem_drop hx)⟩
  have := sumR_nonneg h2
  omega
def PutPost (w : World) (g K l : Nat) (r : List Nd) (F : Nat → Prop) (e : Ending) (w' : World) : Prop := ∃ F', e = .returned (.tuple #[]) ∧ PoolAt w' g K l r F' ∧ Turn F w w' ∧ Grow w F F'
set_option maxRecDepth 100000 in
theorem pool_put (w : World) (g K l : Nat) (F : Nat → Prop) (A : Option Addr) (cap : Nat) (r : List Nd) (h : PoolAt w g K l [] F) (hf : Fits l r) (hS : Sl w w.heap.size encN A r) (hFA : ∀ b o, A = some ⟨b, o, none⟩ → r ≠ [] → ¬ F b) (hn : r.length < 67108864) :
    Calls Try.prog 32 #[.pointer (some ⟨g, 0, none⟩), .slice A r.length cap] w (PutPost w g K l r F) := by
  have HP := Lib.hid h
  have HS := Lib.hid hS
  have HA := Lib.hid hFA
  clear h hS hFA
  go_enter Try.func32, Try.ntmps32
  go_wp2_with fail
  go_loopw [8] (fun i wr => ∃ (k : Nat) (F' : Nat → Prop), k ≤ r.length ∧ i = .int .i64 k ∧ PoolAt wr g K l (r.take k) F' ∧ Turn F w wr ∧ Grow w F F') (fun i _ => r.length - (intOf i).toNat)
  case atStart => exact ⟨0, F, Nat.zero_le _, rfl, HP.out, Turn.refl _ _, Grow.refl⟩
  case round =>
    obtain ⟨k, F', hk, rfl, hP, hT, hG⟩ := hrel
    have HK := Lib.hid hP
    have HT := Lib.hid hT
    have HG := Lib.hid hG
    have hs := hT.size
    clear hP hT hG
    by_cases hlt : k < r.length
    · obtain ⟨b, off, rfl, hb, hc⟩ := HS.out.at_ hlt
      have nF := HA.out b off rfl (fun h => by rw [h] at hlt; simp at hlt)
      have d0 := (HT.out.cell (o := off + k * 2 + 0) hb nF).trans (hc 0 (.int .i64 r[k].1) rfl)
      have d1 := (HT.out.cell (o := off + k * 2 + 1) hb nF).trans (hc 1 (.int .i64 r[k].2) rfl)
      simp only [Nat.add_zero] at d0
      have hx := hf.roll.2 _ (List.getElem_mem hlt)
      have hxl := hf.lt _ (List.getElem_mem hlt)
      have e1 := sumR_take_succ hlt
      have e2 := sumR_take_le hf.roll (k + 1)
      have e3 := hf.sum
      have e4 := addR_take hf.roll hlt
      obtain ⟨x, hxe⟩ : ∃ x, x = r[k] := ⟨_, rfl⟩
      rw [← hxe] at d0 d1 hx hxl e1 e4
      obtain ⟨n, hn1⟩ := Int.eq_ofNat_of_zero_le (show 0 ≤ x.1 by omega)
      have hlen : (r.take k).length ≤ r.length := List.length_take_le' _ _
      rw [hn1] at d0 hx hxl e4
      have HC : Hid (∀ W, PoolAt W g K l (r.take k) F' → Calls Try.prog 47 #[.pointer (some ⟨g, 0, none⟩), .int .i64 (n : Nat), .int .i64 x.2] W (PAddPost W g K l (r.take (k + 1)) F' (.int .i64 0))) := Lib.hid fun W hW => by
        have := pool_Add W g K l (r.take k) F' hW n (by omega) (by exact_mod_cast hxl) x.2 (by omega) (by omega) (by omega)
        rwa [e4] at this
      clear hc e1 e2 e3 e4 hxe hn1
      go_wp2_with fail
      refine (HC.out _ (HK.out.below ((Below.refl _ _).alloc (Nat.le_refl _) _))).mono ?_
      rintro e w2 ⟨F2, rfl, hP2, hT2, hG2⟩
      have KP2 := Lib.hid hP2
      have HT2 : Hid (Turn F w w2) := Lib.hid ((HT.out.alloc (.cells #[.int .i64 (n : Nat), .int .i64 x.2] 45)).trans hT2 HG.out)
      have HG2 : Hid (Grow w F F2) := Lib.hid (HG.out.trans hG2 (Nat.le_trans hs (by simp)))
      clear hP2 hT2 hG2
      go_wp2_with fail
      go_roundw
      case rel => exact ⟨k + 1, F2, by omega, by go_num, KP2.out, HT2.out, HG2.out⟩
      case measure => simp [intOf]; omega
    · obtain rfl : k = r.length := by omega
      rw [List.take_length] at HK
      go_wp2_with fail
      go_end0
      exact ⟨F', rfl, HK.out, HT.out, HG.out⟩
end Go.Proofs.Ytcjnchjmpkapmaa
/- Package pool: Load. -/
namespace Go.Proofs.Ytcjnchjmpkapmaa
open Go.ChangeShapes Go.WideShapes Go.ChangeAt Go.RowKit
set_option linter.unusedVariables false

theorem totalFrom_ok {n : Int} {l : List Nd} (h : (totalFrom n l).2 = true) (hn : 0 ≤ n) (hm : n ≤ most) : (totalFrom n l).1 = n + sumR l ∧ n + sumR l ≤ most := by
  induction l generalizing n with
  | nil => simp [totalFrom, sumR]; exact hm
  | cons x l ih =>
    simp only [totalFrom] at h ⊢
    split at h
    · rename_i hc
      rw [if_pos hc]
      have h1 := addOf_le n x.2 hc.1
      have h2 := ih h h1.1 hc.2
      have h3 : (addOf n x.2).1 = n + x.2 := by
        have := hc.1
        unfold addOf at this ⊢
        split
        · rfl
        · rename_i hn; rw [if_neg hn] at this; cases this
      simp only [sumR]
      omega
    · simp at h
theorem rises_roll {l last : Int} {r : List Nd} (h : risesFrom l last r = true) : (∀ x ∈ r, last < x.1 ∧ isNode l x.1 = true ∧ 1 ≤ x.2) ∧ r.Pairwise (fun a b => a.1 < b.1) := by
  induction r generalizing last with
  | nil => exact ⟨by simp, .nil⟩
  | cons x r ih =>
    simp only [risesFrom, Bool.and_eq_true, decide_eq_true_eq] at h
    obtain ⟨⟨⟨h1, h2⟩, h3⟩, h4⟩ := h
    obtain ⟨i1, i2⟩ := ih h4
    refine ⟨fun y hy => ?_, List.pairwise_cons.2 ⟨fun y hy => (i1 y hy).1, i2⟩⟩
    rcases List.mem_cons.1 hy with rfl | hy
    · exact ⟨h1, h2, h3⟩
    · have := i1 y hy; exact ⟨by omega, this.2⟩
theorem isNode_lt {l : Nat} {id : Int} (h : isNode l id = true) : 1 ≤ id ∧ id < 2 * 2 ^ l := by
  simp only [isNode, decide_eq_true_eq, Int.toNat_natCast] at h
  exact h.2
theorem right_fits {l : Nat} {r : List Nd} (h : rightOf l r = true) : Fits l r ∧ (totalOf r).1 = sumR r := by
  simp only [rightOf, Bool.and_eq_true] at h
  obtain ⟨⟨h1, h2⟩, _⟩ := h
  obtain ⟨i1, i2⟩ := rises_roll h1
  have h3 := totalFrom_ok h2 (by omega) (by decide)
  refine ⟨⟨⟨i2, fun x hx => ⟨(isNode_lt (i1 x hx).2.1).1, (i1 x hx).2.2⟩⟩, fun x hx => (isNode_lt (i1 x hx).2.1).2, by unfold most at h3; omega⟩, ?_⟩
  unfold totalOf
  rw [h3.1]; omega

theorem pool_Load (w : World) (K l : Nat) (A : Option Addr) (cap : Nat) (r : List Nd) (h : isPool K l = true) (hR : rightOf l r = true) (hS : Sl w w.heap.size encN A r) (hI : ints r) (hn : r.length < 67108864) :
    Calls Try.prog 18 #[.int .i64 K, .int .i64 l, .slice A r.length cap] w (NewPost K l r w) := by
  have HC := Lib.hid (pool_New · K l h)
  have HR := Lib.hid (roll_Right · l A cap r · hI (by unfold maxLen; omega))
  have HF := Lib.hid hR
  have HS := Lib.hid hS
  have HT := Lib.hid (right_fits hR).1
  clear h hR hS
  go_enter Try.func18, Try.ntmps18
  go_wp2_with fail
  refine (HC.out _).mono ?_
  rintro e w1 ⟨g, F, rfl, hP, hF, hb1⟩
  have B1 : Below w.heap.size w w1 := Below.then_ (by repeat (first | with_reducible exact Below.refl _ _ | with_reducible assumption | ((with_reducible refine Below.setCell ?_ ?_ _); rotate_left; · (first | omega | exact Nat.le_refl _ | (simp <;> omega))) | (with_reducible refine Below.allocW ?_ _) | (with_reducible refine Below.drew ?_) | (with_reducible refine Below.extW ?_ _))) hb1
  have s1 : w.heap.size ≤ w1.heap.size := B1.size
  have S1 := Lib.hid (HS.out.keep hb1.size fun p hp => hb1.cell hp)
  have KP := Lib.hid hP
  have KF := Lib.hid hF
  clear hP hF
  go_wp2_with fail
  refine (HR.out _ S1.out).mono ?_
  rintro e w2 ⟨rfl, hb2⟩
  have B2 : Below w.heap.size w w2 := Below.then_ (by repeat (first | with_reducible exact Below.refl _ _ | with_reducible assumption | ((with_reducible refine Below.setCell ?_ ?_ _); rotate_left; · (first | omega | exact Nat.le_refl _ | (simp <;> omega))) | (with_reducible refine Below.allocW ?_ _) | (with_reducible refine Below.drew ?_) | (with_reducible refine Below.extW ?_ _))) hb2
  have s2 : w.heap.size ≤ w2.heap.size := B2.size
  rw [HF.out]
  have KP2 := Lib.hid (KP.out.below hb2)
  have S2 := Lib.hid (S1.out.keep hb2.size fun p hp => hb2.cell hp)
  have HA : Hid (∀ b o, A = some ⟨b, o, none⟩ → r ≠ [] → b < w.heap.size) := Lib.hid fun b o hA hr => by
    rcases HS.out with h | ⟨b', o', hA', hb, _⟩
    · exact absurd h hr
    · rw [hA] at hA'; cases hA'; exact hb
  go_wp2_with fail
  refine (pool_put _ g K l F A cap r KP2.out HT.out S2.out (fun b o hA hr0 hf => by have h1 := HA.out b o hA hr0; have h2 := KF.out b hf; omega) hn).mono ?_
  rintro e w3 ⟨F3, rfl, hP3, hT3, hG3⟩
  have HP : Hid (NewPost K l r w (.returned (.tuple #[.pointer (some ⟨g, 0, none⟩), .int .i64 0])) w3) := Lib.hid ⟨g, F3, rfl, hP3, fun b hb => by
    rcases hG3 b hb with h | h
    · exact KF.out b h
    · have := B2.size; omega, B2.trans (hT3.below KF.out (B2.size))⟩
  clear hP3 hT3 hG3
  go_wp2_with fail
  go_ret2
  exact HP.out
end Go.Proofs.Ytcjnchjmpkapmaa
/- Package pool: Each, an iterator over all nodes. -/
namespace Go.Proofs.Ytcjnchjmpkapmaa
open Go.ChangeShapes Go.WideShapes Go.ChangeAt Go.RowKit
set_option linter.unusedVariables false
attribute [local go_sem] Oper.semAt_some

def KeepN (A B : World) : Prop := A.heap.size ≤ B.heap.size ∧ ∀ (b : Nat) (cs : Array Value) (fr : Nat × Nat), A.heap[b]? = some (.cells cs 45 fr) → B.heap[b]? = some (.cells cs 45 fr)
theorem keepN_t {A B C : World} (h : KeepN A B) (k : KeepN B C) : KeepN A C := ⟨Nat.le_trans h.1 k.1, fun b cs fr hb => k.2 b cs fr (h.2 b cs fr hb)⟩
theorem keepN_b (W : World) (l : Nat) (o o' : Obj) (h : W.heap[l]? = some o) (hc : o.isCells = false) : KeepN W (W.putObj l o') := by
  refine ⟨(grownBy_putObj' W l o').size, fun b cs fr hb => ?_⟩
  have hne : b ≠ l := by
    rintro rfl
    rw [h] at hb
    cases hb
    simp [Obj.isCells] at hc
  rw [World.putObj_heap_other hne]
  exact hb
theorem KeepN.of_below {A B : World} (h : Below A.heap.size A B) : KeepN A B := ⟨h.size, fun b cs fr hb => (h.block b (lt_of_block hb)).trans hb⟩
theorem KeepN.own {base : Nat} {A B : World} {v : Value} {l : List Nd} (h : KeepN A B) (ho : Own A base 45 encN v l) : Own B base 45 encN v l :=
  ho.of_block fun g hv => by
    rcases ho with ⟨rfl, _⟩ | ⟨g1, o1, c1, u1, rfl, _, hh1, _⟩
    · cases hv
    · have : g1 = g := by simpa [Value.ownBlock] using hv
      subst this
      rw [hh1]
      exact h.2 _ _ _ hh1

theorem pool_Each (w : World) (g : Nat) : Calls Try.prog 36 #[.pointer (some ⟨g, 0, none⟩)] w fun e w' => e = .returned (.func (.func 59) #[] #[.pointer (some ⟨w.heap.size, 0, none⟩)]) ∧ w.alloc (.cells #[.pointer (some ⟨g, 0, none⟩)] 61) = w' := by
  go_enter Try.func36, Try.ntmps36
  go_wp2_with fail
  go_ret
  exact ⟨rfl, rfl⟩
set_option maxRecDepth 100000 in
set_option maxHeartbeats 2000000 in
theorem each_stops (n Bs g K l : Nat) (r : List Nd) (F0 : Nat → Prop) (w : World) (hn : 1 ≤ n) (hBs : w.heap[Bs]? = some (.cells #[.pointer (some ⟨g, 0, none⟩)] 61 (0, 0))) (hP : PoolAt w g K l r F0) (hr : r.length ≤ 67108864) :
    SeqStopsK Fence.wide n Try.prog 59 #[.pointer (some ⟨Bs, 0, none⟩)] (fun x : Nd => #[Value.int .i64 x.1, Value.int .i64 x.2]) KeepN (fun ys => ys = r) (fun pre => pre <+: r) r.length w := fun q J Jx W hW hJ hJx hY h0 => by
  have kb := blk_below hBs hW
  have HP := Lib.hid (hP.below hW)
  have cb := blk_cell kb
  have HY := Lib.hid hY
  have HJ := Lib.hid hJ
  clear kb hBs hP hY hJ
  refine callsIn_of_wp Try.func59 rfl trivial ?_ rfl
  simp only [Try.ntmps59, List.size_toArray, List.length_cons, List.length_nil, Nat.reduceAdd, Nat.reduceSub, Array.replicate_succ, Array.replicate_zero, List.push_toArray, List.append_toArray, List.nil_append, List.cons_append]
  gi_wp2_with fail
  refine ⟨trivial, ?_⟩
  refine (callsIn_wide.2 (pool_Snap _ g K l r F0 HP.out hr)).mono ?_
  rintro e w1 ⟨v, rfl, ho, hb⟩
  have HO := Lib.hid ho
  have J0 : Hid (J [] w1) := Lib.hid (HJ.out _ _ _ none h0 (grownBy_of_below hb none) (fun _ h => by cases h))
  have hs := hb.size
  obtain ⟨A, cap, rfl, _⟩ := ho.form
  clear ho hb h0
  gi_wp2_with fail
  gi_loopw [8] (fun i wr => ∃ k : Nat, k ≤ r.length ∧ i = .int .i64 k ∧ Own wr W.heap.size 45 encN (.slice A r.length cap) r ∧ J (r.take k) wr ∧ W.heap.size ≤ wr.heap.size) (fun i _ => r.length - (intOf i).toNat)
  case atStart => exact ⟨0, Nat.zero_le _, rfl, HO.out, J0.out, hs⟩
  case round =>
    obtain ⟨k, hk, rfl, hown, hJk, hsz⟩ := hrel
    have KO := Lib.hid hown
    have KJ := Lib.hid hJk
    clear hown hJk
    by_cases hlt : k < r.length
    · obtain ⟨b, off, rfl, hT, hc⟩ := KO.out.slT.at_ hlt
      have d0 := hc 0 (.int .i64 r[k].1) rfl
      have d1 := hc 1 (.int .i64 r[k].2) rfl
      simp only [Nat.add_zero] at d0
      have hts := List.take_succ_eq_append_getElem hlt
      obtain ⟨x, hx⟩ : ∃ x, x = r[k] := ⟨_, rfl⟩
      rw [← hx] at d0 d1 hts
      have HS := Lib.hid hts
      have hA : Below wr.heap.size wr (wr.alloc (.cells #[.int .i64 x.1, .int .i64 x.2] 45)) := (Below.refl _ _).alloc (Nat.le_refl _) _
      have hJ2 := HJ.out _ _ _ none KJ.out (grownBy_of_below hA none) (fun _ h => by cases h)
      obtain ⟨fn, tmps, assign, body, hy, hR⟩ := HY.out (r.take k) x _ hJ2 (by rw [List.length_take]; omega)
      have KA := Lib.hid (KO.out.below hA)
      clear hc hts hx hJ2 hA hT
      gi_wp2_with fail
      refine hR.mono ?_
      rintro e w3 (⟨rfl, hJ3, hk3⟩ | ⟨rfl, hJx3⟩)
      · have K3 := Lib.hid (hk3.own KA.out)
        have z3 := hk3.1
        rw [← HS.out] at hJ3
        have J3 := Lib.hid hJ3
        clear hJ3 hk3
        gi_wp2_with fail
        go_roundw
        case rel => exact ⟨k + 1, by omega, by go_num, K3.out, J3.out, by simp at z3; omega⟩
        case measure => simp [intOf]; omega
      · rw [← HS.out] at hJx3
        have J3 := Lib.hid hJx3
        clear hJx3
        gi_wp2_with fail
        refine bodyPost_ret (results_none rfl _ _ _) rfl ?_
        exact ⟨⟨_, rfl⟩, .inr ⟨_, List.take_prefix _ _, J3.out⟩⟩
    · obtain rfl : k = r.length := by omega
      rw [List.take_length] at KJ
      gi_wp2_with fail
      go_end0
      exact ⟨⟨_, rfl⟩, .inl ⟨_, rfl, KJ.out⟩⟩
end Go.Proofs.Ytcjnchjmpkapmaa
/- Package press: Light. -/
namespace Go.Proofs.Ytcjnchjmpkapmaa
open Go.ChangeShapes Go.WideShapes Go.ChangeAt Go.RowKit
set_option linter.unusedVariables false
attribute [local go_sem] Oper.semAt_some

theorem fold_Cap (w : World) (n k : Int) (hn0 : 0 ≤ n) (hn : n ≤ 9223372036854775807) (hk : 1 ≤ k) (hk2 : k ≤ 9223372036854775807) : Calls Try.prog 34 #[.int .i64 n, .int .i64 k] w fun e w' => e = .returned (.int .i64 (n / k)) ∧ Below w.heap.size w w' := by
  have HD := Lib.hid (show divOf n k = (n / k, true) by simp only [divOf]; rw [if_neg (by omega)])
  go_enter Try.func34, Try.ntmps34
  go_wp2_with fail
  refine (reckon_Div _ n k hn hk2).mono ?_
  rintro e w1 ⟨rfl, hb1⟩
  have B1 : Below w.heap.size w w1 := Below.then_ (by repeat (first | with_reducible exact Below.refl _ _ | with_reducible assumption | ((with_reducible refine Below.setCell ?_ ?_ _); rotate_left; · (first | omega | exact Nat.le_refl _ | (simp <;> omega))) | (with_reducible refine Below.allocW ?_ _) | (with_reducible refine Below.drew ?_) | (with_reducible refine Below.extW ?_ _))) hb1
  have s1 : w.heap.size ≤ w1.heap.size := B1.size
  rw [HD.out]
  unfold okV
  go_wp2_with fail
  go_ret
  exact ⟨rfl, (by repeat (first | with_reducible exact Below.refl _ _ | with_reducible assumption | ((with_reducible refine Below.setCell ?_ ?_ _); rotate_left; · (first | omega | exact Nat.le_refl _ | (simp <;> omega))) | (with_reducible refine Below.allocW ?_ _) | (with_reducible refine Below.drew ?_) | (with_reducible refine Below.extW ?_ _)))⟩
theorem press_may (w : World) (k : Int) (h1 : 1 ≤ k) (h2 : k ≤ 1048576) : Calls Try.prog 55 #[.int .i64 k] w fun e w' => e = .returned (.bool true) ∧ Below w.heap.size w w' := by
  have h3 : decide (k ≤ 1048576) = true := by simpa using h2
  go_enter Try.func55, Try.ntmps55
  go_wp2_with fail
  go_ret
  exact ⟨ret_bool (by simp [h2]), (by repeat (first | with_reducible exact Below.refl _ _ | with_reducible assumption | ((with_reducible refine Below.setCell ?_ ?_ _); rotate_left; · (first | omega | exact Nat.le_refl _ | (simp <;> omega))) | (with_reducible refine Below.allocW ?_ _) | (with_reducible refine Below.drew ?_) | (with_reducible refine Below.extW ?_ _)))⟩
theorem press_wrong (w : World) (g : Nat) (k : Int) (h1 : 1 ≤ k) (h2 : k ≤ 1048576) : Calls Try.prog 33 #[.pointer (some ⟨g, 0, none⟩), .int .i64 k] w fun e w' => e = .returned (.int .i64 0) ∧ Below w.heap.size w w' := by
  go_enter Try.func33, Try.ntmps33
  go_wp2_with fail
  refine (press_may _ k h1 h2).mono ?_
  rintro e w1 ⟨rfl, hb1⟩
  have B1 : Below w.heap.size w w1 := Below.then_ (by repeat (first | with_reducible exact Below.refl _ _ | with_reducible assumption | ((with_reducible refine Below.setCell ?_ ?_ _); rotate_left; · (first | omega | exact Nat.le_refl _ | (simp <;> omega))) | (with_reducible refine Below.allocW ?_ _) | (with_reducible refine Below.drew ?_) | (with_reducible refine Below.extW ?_ _))) hb1
  have s1 : w.heap.size ≤ w1.heap.size := B1.size
  go_wp2_with fail
  go_ret
  exact ⟨rfl, (by repeat (first | with_reducible exact Below.refl _ _ | with_reducible assumption | ((with_reducible refine Below.setCell ?_ ?_ _); rotate_left; · (first | omega | exact Nat.le_refl _ | (simp <;> omega))) | (with_reducible refine Below.allocW ?_ _) | (with_reducible refine Below.drew ?_) | (with_reducible refine Below.extW ?_ _)))⟩
def heavy (l : Int) (most : Int) (x : Nd) : Bool := (kidsOf l x.1).2.2 && decide (most < x.2)
def lightOf (l : Int) (r : List Nd) (k : Int) : Bool := !r.any (heavy l (sumR r / k))
theorem lt_of_cell {W : World} {b o : Nat} {v : Value} (h : W.cell? ⟨b, o, none⟩ = some v) : b < W.heap.size := by
  rcases Nat.lt_or_ge b W.heap.size with h' | h'
  · exact h'
  · simp [World.cell?, Array.getElem?_eq_none h'] at h
set_option maxRecDepth 100000 in
set_option maxHeartbeats 2000000 in
theorem press_Light (w : World) (g K l : Nat) (r : List Nd) (F : Nat → Prop) (k : Int) (hP : PoolAt w g K l r F) (h1 : 1 ≤ k) (h2 : k ≤ 1048576) (hr : r.length ≤ 67108864) :
    Calls Try.prog 19 #[.pointer (some ⟨g, 0, none⟩), .int .i64 k] w fun e w' => e = .returned (.bool (lightOf l r k)) ∧ Below w.heap.size w w' := by
  have hs0 := sumR_nonneg hP.fits.roll
  have hs1 := hP.fits.sum
  have HP := Lib.hid hP
  clear hP
  refine (callsIn_wide (n := 3)).1 ?_
  refine callsIn_of_wp_marks Try.func19 rfl trivial ?_ rfl
  simp only [Try.ntmps19, List.size_toArray, List.length_cons, List.length_nil, Nat.reduceAdd, Nat.reduceSub, Array.replicate_succ, Array.replicate_zero, List.push_toArray, List.append_toArray, List.nil_append, List.cons_append]
  gi_wp2_with fail
  refine ⟨trivial, ?_⟩
  refine (callsIn_wide.2 (press_wrong _ g k h1 h2)).mono ?_
  rintro e w1 ⟨rfl, hb1⟩
  have B1 : Below w.heap.size w w1 := Below.then_ (by repeat (first | with_reducible exact Below.refl _ _ | with_reducible assumption | ((with_reducible refine Below.setCell ?_ ?_ _); rotate_left; · (first | omega | exact Nat.le_refl _ | (simp <;> omega))) | (with_reducible refine Below.allocW ?_ _) | (with_reducible refine Below.drew ?_) | (with_reducible refine Below.extW ?_ _))) hb1
  have s1 : w.heap.size ≤ w1.heap.size := B1.size
  have z1_0 : w.heap.size < w1.heap.size := by have := hb1.size; (try simp at this); omega
  have y1_0 : w.heap.size ≤ w1.heap.size := Nat.le_of_lt z1_0
  have c1_0 := fun o => hb1.cell (p := ⟨w.heap.size, o, none⟩) (by first | omega | (simp <;> omega))
  have f1_0 := fun o => hb1.frozen (p := ⟨w.heap.size, o, none⟩) (by first | omega | (simp <;> omega))
  have z1_1 : w.heap.size + 1 < w1.heap.size := by have := hb1.size; (try simp at this); omega
  have y1_1 : w.heap.size + 1 ≤ w1.heap.size := Nat.le_of_lt z1_1
  have c1_1 := fun o => hb1.cell (p := ⟨w.heap.size + 1, o, none⟩) (by first | omega | (simp <;> omega))
  have f1_1 := fun o => hb1.frozen (p := ⟨w.heap.size + 1, o, none⟩) (by first | omega | (simp <;> omega))
  have P1 := Lib.hid (HP.out.below B1)
  gi_wp2_with fail
  refine ⟨trivial, ?_⟩
  refine (callsIn_wide.2 (pool_Total _ g K l r F P1.out)).mono ?_
  rintro e w2 ⟨rfl, hb2⟩
  have B2 : Below w.heap.size w w2 := Below.then_ (by repeat (first | with_reducible exact Below.refl _ _ | with_reducible assumption | ((with_reducible refine Below.setCell ?_ ?_ _); rotate_left; · (first | omega | exact Nat.le_refl _ | (simp <;> omega))) | (with_reducible refine Below.allocW ?_ _) | (with_reducible refine Below.drew ?_) | (with_reducible refine Below.extW ?_ _))) hb2
  have s2 : w.heap.size ≤ w2.heap.size := B2.size
  have z2_0 : w.heap.size < w2.heap.size := by have := hb2.size; (try simp at this); omega
  have y2_0 : w.heap.size ≤ w2.heap.size := Nat.le_of_lt z2_0
  have c2_0 := fun o => hb2.cell (p := ⟨w.heap.size, o, none⟩) (by first | omega | (simp <;> omega))
  have f2_0 := fun o => hb2.frozen (p := ⟨w.heap.size, o, none⟩) (by first | omega | (simp <;> omega))
  have z2_1 : w.heap.size + 1 < w2.heap.size := by have := hb2.size; (try simp at this); omega
  have y2_1 : w.heap.size + 1 ≤ w2.heap.size := Nat.le_of_lt z2_1
  have c2_1 := fun o => hb2.cell (p := ⟨w.heap.size + 1, o, none⟩) (by first | omega | (simp <;> omega))
  have f2_1 := fun o => hb2.frozen (p := ⟨w.heap.size + 1, o, none⟩) (by first | omega | (simp <;> omega))
  have P2 := Lib.hid (HP.out.below B2)
  gi_wp2_with fail
  refine ⟨trivial, ?_⟩
  refine (callsIn_wide.2 (fold_Cap _ (sumR r) k hs0 (by omega) h1 (by omega))).mono ?_
  rintro e w3 ⟨rfl, hb3⟩
  have B3 : Below w.heap.size w w3 := Below.then_ (by repeat (first | with_reducible exact Below.refl _ _ | with_reducible assumption | ((with_reducible refine Below.setCell ?_ ?_ _); rotate_left; · (first | omega | exact Nat.le_refl _ | (simp <;> omega))) | (with_reducible refine Below.allocW ?_ _) | (with_reducible refine Below.drew ?_) | (with_reducible refine Below.extW ?_ _))) hb3
  have s3 : w.heap.size ≤ w3.heap.size := B3.size
  have z3_0 : w.heap.size < w3.heap.size := by have := hb3.size; (try simp at this); omega
  have y3_0 : w.heap.size ≤ w3.heap.size := Nat.le_of_lt z3_0
  have c3_0 := fun o => hb3.cell (p := ⟨w.heap.size, o, none⟩) (by first | omega | (simp <;> omega))
  have f3_0 := fun o => hb3.frozen (p := ⟨w.heap.size, o, none⟩) (by first | omega | (simp <;> omega))
  have z3_1 : w.heap.size + 1 < w3.heap.size := by have := hb3.size; (try simp at this); omega
  have y3_1 : w.heap.size + 1 ≤ w3.heap.size := Nat.le_of_lt z3_1
  have c3_1 := fun o => hb3.cell (p := ⟨w.heap.size + 1, o, none⟩) (by first | omega | (simp <;> omega))
  have f3_1 := fun o => hb3.frozen (p := ⟨w.heap.size + 1, o, none⟩) (by first | omega | (simp <;> omega))
  have P3 := Lib.hid (HP.out.below B3)
  gi_wp2_with fail
  refine ⟨trivial, ?_⟩
  refine (callsIn_wide.2 (pool_Each _ g)).mono ?_
  rintro e w4 ⟨rfl, rfl⟩
  gi_wp2_with fail
  have hB0 : Below w.heap.size w ((w3.alloc (.cells #[.int .i64 (sumR r / k)] 3)).alloc (.cells #[.pointer (some ⟨g, 0, none⟩)] 61)) := (by repeat (first | with_reducible exact Below.refl _ _ | with_reducible assumption | ((with_reducible refine Below.setCell ?_ ?_ _); rotate_left; · (first | omega | exact Nat.le_refl _ | (simp <;> omega))) | (with_reducible refine Below.allocW ?_ _) | (with_reducible refine Below.drew ?_) | (with_reducible refine Below.extW ?_ _)))
  have kb := heap_new_at (w3.alloc (.cells #[.int .i64 (sumR r / k)] 3)) (.cells #[.pointer (some ⟨g, 0, none⟩)] 61) (w3.heap.size + 1) (by simp)
  have x0 : ((w3.alloc (.cells #[.int .i64 (sumR r / k)] 3)).alloc (.cells #[.pointer (some ⟨g, 0, none⟩)] 61)).cell? ⟨w.heap.size, 0, none⟩ = some (.pointer (some ⟨g, 0, none⟩)) := by go_simp
  have x1 : ((w3.alloc (.cells #[.int .i64 (sumR r / k)] 3)).alloc (.cells #[.pointer (some ⟨g, 0, none⟩)] 61)).cell? ⟨w.heap.size + 1, 0, none⟩ = some (.bool false) := by go_simp
  have x2 : ((w3.alloc (.cells #[.int .i64 (sumR r / k)] 3)).alloc (.cells #[.pointer (some ⟨g, 0, none⟩)] 61)).cell? ⟨w3.heap.size, 0, none⟩ = some (.int .i64 (sumR r / k)) := by go_simp
  have x3 : ((w3.alloc (.cells #[.int .i64 (sumR r / k)] 3)).alloc (.cells #[.pointer (some ⟨g, 0, none⟩)] 61)).frozen? ⟨w.heap.size + 1, 0, none⟩ = false := by go_simp
  have zz : w.heap.size + 1 < w3.heap.size := z3_1
  generalize (w3.alloc (.cells #[.int .i64 (sumR r / k)] 3)).alloc (.cells #[.pointer (some ⟨g, 0, none⟩)] 61) = W0 at hB0 kb x0 x1 x2 x3 ⊢
  clear P1 P2 P3 hb1 hb2 hb3 B1 B2 B3 s1 s2 s3 z1_0 y1_0 c1_0 f1_0 z1_1 y1_1 c1_1 f1_1 z2_0 y2_0 c2_0 f2_0 z2_1 y2_1 c2_1 f2_1 z3_0 y3_0 c3_0 f3_0 z3_1 y3_1 c3_1 f3_1
  have zs := hB0.size
  refine wpIn_rangeFunc_ownG rfl (by decide) (gf := 59) (lb := #[.pointer (some ⟨w3.heap.size + 1, 0, none⟩)]) rfl trivial (enters_of Try.func59 (by kernel_rfl) rfl)
    (each_stops (3 - 1) (w3.heap.size + 1) g K l r F W0 (by decide) kb (HP.out.below hB0) hr) keepN_t (fun W q o o' _ h hc _ => keepN_b W q o o' h hc) (Below.refl _ _) (fun _ => rfl)
    (fun pre W => ((pre.any (heavy l (sumR r / k)) = false) ∧ W.cell? ⟨w.heap.size, 0, none⟩ = some (.pointer (some ⟨g, 0, none⟩)) ∧ W.cell? ⟨w.heap.size + 1, 0, none⟩ = some (.bool false) ∧ W.cell? ⟨w3.heap.size, 0, none⟩ = some (.int .i64 (sumR r / k)) ∧ W.frozen? ⟨w.heap.size + 1, 0, none⟩ = false) ∧ Below w.heap.size w W)
    (fun c pre W => (c = .ret ∧ pre.any (heavy l (sumR r / k)) = true ∧ W.cell? ⟨w.heap.size + 1, 0, none⟩ = some (.bool false)) ∧ Below w.heap.size w W)
    (OwnFrom.and (Own.from (fun s A B row hs hg hr => ⟨hs.1, cell_kept hs.2.1 hg hr, cell_kept hs.2.2.1 hg hr, cell_kept hs.2.2.2.1 hg hr, (frozen_kept hs.2.2.1 hg hr).trans hs.2.2.2.2⟩) _) (ownFrom_below (Nat.le_refl _) zs))
    (fun c => OwnFrom.and (Own.from (fun s A B row hs hg hr => ⟨hs.1, hs.2.1, cell_kept hs.2.2 hg hr⟩) _) (ownFrom_below (Nat.le_refl _) zs))
    ⟨⟨rfl, x0, x1, x2, x3⟩, hB0⟩
    (fun x => { tmps := #[.pointer (some ⟨g, 0, none⟩), .int .i64 k, .pointer (some ⟨w.heap.size, 0, none⟩), undef, .pointer (some ⟨w.heap.size + 1, 0, none⟩), .pointer (some ⟨w3.heap.size, 0, none⟩), .int .i64 x.1, .int .i64 x.2, undef, undef, undef,
      .pointer (some ⟨g, 0, none⟩), .int .i64 k, .int .i64 0, .bool false, .pointer (some ⟨g, 0, none⟩), .int .i64 (sumR r), .int .i64 k, .int .i64 (sumR r / k), .pointer (some ⟨g, 0, none⟩), .func (.func 59) #[] #[.pointer (some ⟨w3.heap.size + 1, 0, none⟩)], .int .i64 x.1, .int .i64 x.2,
      undef, undef, undef, undef, undef, undef, undef, undef, undef, undef, undef, undef, undef, undef], defers := [] }) ?assign ?body ?done ?stop
  case assign =>
    intro q x W K hK
    gi_wp2
    exact hK
  case body =>
    rintro q pre x W ⟨⟨hp, c0, c1, c2, f1⟩, hB⟩ _
    have HPW := Lib.hid (HP.out.below hB)
    have hk := Lib.hid (twig_Kids · l x.1)
    have he : Hid (heavy l (sumR r / k) x = ((kidsOf l x.1).2.2 && decide (sumR r / k < x.2))) := Lib.hid rfl
    have HPre := Lib.hid hp
    have zW := hB.size
    have zc0 := lt_of_cell c0
    have zc1 := lt_of_cell c1
    have HB := Lib.hid hB
    clear hp hB
    generalize kidsOf l x.1 = t at hk he
    obtain ⟨t1, t2, t3⟩ := t
    gi_wp2_with fail
    refine ⟨trivial, ?_⟩
    refine (CallsIn.inRound q (callsIn_wide.2 (pool_L _ g K l r F HPW.out))).mono ?_
    rintro e w5 ⟨rfl, hb5⟩
    gi_wp2_with fail
    refine ⟨trivial, ?_⟩
    refine (CallsIn.inRound q (callsIn_wide.2 (hk.out _))).mono ?_
    rintro e w6 ⟨rfl, hb6⟩
    have hb := hb5.trans (hb6.mono hb5.size)
    have hbw := HB.out.trans (hb.mono zW)
    have d1 := (hb.cell (p := ⟨w.heap.size + 1, 0, none⟩) (by simp only; omega)).trans c1
    have d0 := (hb.cell (p := ⟨w.heap.size, 0, none⟩) (by simp only; omega)).trans c0
    have z3 := lt_of_cell c2
    have d2 := (hb.cell (p := ⟨w3.heap.size, 0, none⟩) z3).trans c2
    have g1 := (hb.frozen (p := ⟨w.heap.size + 1, 0, none⟩) (by simp only; omega)).trans f1
    have KW : Hid (KeepsFrom W0.heap.size W w6) := Lib.hid ((KeepsOthers.of_grownBy (grownBy_of_below hb none) (fun _ _ h => by cases h)).from _)
    have KN := Lib.hid (KeepN.of_below hb)
    have HBW := Lib.hid hbw
    clear hb5 hb6 hb hbw c0 c1 c2 f1
    unfold endsV
    cases t3
    · gi_wp2_with fail
      exact ⟨KW.out, KN.out, ⟨by rw [List.any_append, HPre.out]; simp [he.out], d0, d1, d2, g1⟩, HBW.out⟩
    · by_cases hx : sumR r / k < x.2
      · gi_wp2_with fail
        exact ⟨KW.out.trans ((KeepsOthers.setCell _ _ _).from _), ⟨rfl, by rw [List.any_append]; simp [he.out, hx], World.cell?_setCell_same' _ _ _ (by rw [d1]; rfl)⟩, HBW.out.setCell (p := ⟨w.heap.size + 1, 0, none⟩) (by simp only; omega) _⟩
      · gi_wp2_with fail
        exact ⟨KW.out, KN.out, ⟨by rw [List.any_append, HPre.out]; simp [he.out, hx], d0, d1, d2, g1⟩, HBW.out⟩
  case done =>
    rintro D ys W hD hys ⟨⟨hp, c0, c1, c2, f1⟩, hB⟩ hK
    have hys' : ys = r := hys
    rw [hys'] at hp
    clear hys hys'
    have zc1 := lt_of_cell c1
    have hl : lightOf l r k = true := by unfold lightOf; rw [hp]; rfl
    have zW := hB.size
    gi_wp2
    have hK' := (KeepsOthers.setCell W ⟨w.heap.size + 1, 0, none⟩ (.bool true)).same D _ hK rfl
    refine ⟨by simp, .inl ⟨_, _, rfl, run_takeDeferred hK', ?_⟩⟩
    have hc5 := cell_kept (World.cell?_setCell_same' W ⟨w.heap.size + 1, 0, none⟩ (.bool true) (by rw [c1]; rfl)) (grownBy_putObj' _ D (.deferred none)) (fun r e => by cases e; exact ⟨_, hK', rfl⟩)
    refine ⟨.bool true, ?_, by rw [hl], (hB.setCell (p := ⟨w.heap.size + 1, 0, none⟩) (by simp only; omega) _).trans (belowK_b (w := w) (Nat.le_refl _) _ D _ _ (by omega) hK' rfl rfl)⟩
    simp [results, Try.f19, go_sem, hc5]
  case stop =>
    rintro D c pre W hD hpre ⟨⟨rfl, hp, c1⟩, hB⟩ hK
    have hl : lightOf l r k = false := by
      unfold lightOf
      obtain ⟨x, hx, hh⟩ := List.any_eq_true.1 hp
      rw [List.any_eq_true.2 ⟨x, hpre.subset hx, hh⟩]; rfl
    gi_wp2
    refine ⟨by simp, .inl ⟨_, _, rfl, run_takeDeferred hK, ?_⟩⟩
    have hc5 := cell_kept c1 (grownBy_putObj' _ D (.deferred none)) (fun r e => by cases e; exact ⟨_, hK, rfl⟩)
    refine ⟨.bool false, ?_, by rw [hl], hB.trans (belowK_b (w := w) (Nat.le_refl _) W D _ _ (by omega) hK rfl rfl)⟩
    simp [results, Try.f19, go_sem, hc5]
end Go.Proofs.Ytcjnchjmpkapmaa
/- A region that draws its order, whose last operations come behind all others, one behind the other: the others may only read and call what only makes memory: one walk serves every order. -/
namespace Go.Proofs.Ytcjnchjmpkapmaa
open Go.RowKit

def headPost (P : Program) (ops : Array Oper) (Q : Exit → Act → World → Prop) (l : List Oper) : Exit → Act → World → Prop
  | .normal, a, w => wpList P ops Q l a w
  | .panic c, a, w => Q (.panic c) a w
  | .exit i, a, w => Q (.exit i) a w
  | .goto i, a, w => Q (.goto i) a w
  | .ret, a, w => Q .ret a w
  | .outgrown, a, w => Q .outgrown a w

def tailB (l : List Oper) (n : Nat) : Bool :=
  decide (n < l.length) &&
  ((List.range n).all fun i => match l[i]? with
    | some o => o.after.all (fun e => !Region.binds .any e || decide (e.on < i)) && (match o.guard with | some (j, _) => decide (j < n) | none => true)
    | none => false) &&
  ((List.range n).all fun i => Region.waitsFor .any l.toArray n i || (List.range n).any fun j => decide (i < j) && Region.waitsFor .any l.toArray j i) &&
  ((List.range l.length).all fun t => decide (t ≤ n) || Region.waitsFor .any l.toArray t (t - 1)) &&
  Region.seqB .any l.toArray (l.length - n) n (Array.replicate n true ++ Array.replicate (l.length - n) false) &&
  Region.lexB .any (l.take n).toArray

section
variable {P : Program} {Q : Exit → Act → World → Prop} {l : List Oper} {n : Nat}
theorem upon_head {o : Oper} {a : Act} {K : Act → World → Prop} {r : Result Next} {ops : Array Oper} {lt : List Oper} (h : o.upon P a K (headPost P ops Q lt) r) : o.upon P a K Q r := by
  cases r with
  | ok x w =>
    cases x with
    | enter f args =>
      refine Calls.mono h fun e w' he => ?_
      cases e with
      | returned v => exact he
      | panicked c => exact he
      | outgrown => obtain ⟨a', w'', h'⟩ := he; exact ⟨a', w'', h'⟩
    | _ => exact h
  | halt x w => cases x <;> exact h
theorem any_more {ops : Array Oper} : ∀ (g m : Nat) (listed : Array Bool) (a : Act) (w : World), wpAny P .any ops Q g listed a w → wpAny P .any ops Q (g + m) listed a w
  | 0, 0, _, _, _, h => h
  | 0, m + 1, listed, a, w, h => by
    rw [Nat.zero_add]
    exact ⟨fun _ => h.2, fun i hi => by rw [h.1] at hi; cases hi⟩
  | g + 1, m, listed, a, w, h => by
    rw [show g + 1 + m = (g + m) + 1 by omega]
    exact ⟨h.1, fun i hi => wpOp_mono (fun a' w' h' => any_more g m _ a' w' h') (h.2 i hi)⟩

structure HeadRel (l : List Oper) (n : Nat) (lh listed : Array Bool) : Prop where
  sh : lh.size = n
  sl : listed.size = l.length
  nl : n ≤ l.length
  same : ∀ i, i < n → ∀ d, listed.getD i d = lh.getD i d
  tail : ∀ t, n ≤ t → t < l.length → listed.getD t true = false
  down : ∀ j o, j < n → l[j]? = some o → lh.getD j false = true → ∀ e ∈ o.after, Region.binds .any e = true → lh.getD e.on false = true
theorem HeadRel.set {lh listed : Array Bool} (h : HeadRel l n lh listed) {i : Nat} (hi : i < n) (hd : ∀ o, l[i]? = some o → ∀ e ∈ o.after, Region.binds .any e = true → lh.getD e.on false = true) : HeadRel l n (lh.setIfInBounds i true) (listed.setIfInBounds i true) := by
  refine ⟨by simp [h.sh], by simp [h.sl], h.nl, fun j hj d => ?_, fun t ht ht' => by rw [getD_set_ne true (by omega)]; exact h.tail t ht ht', fun j o hj ho hlj e he hb => ?_⟩
  case refine_2 =>
    have up : ∀ q, lh.getD q false = true → (lh.setIfInBounds i true).getD q false = true := fun q hq => by
      by_cases hiq : i = q
      · subst hiq
        have : i < lh.size := by rw [h.sh]; exact hi
        simp [this]
      · rw [getD_set_ne false hiq]; exact hq
    by_cases hij : i = j
    · subst hij
      exact up _ (hd o ho e he hb)
    · rw [getD_set_ne false hij] at hlj
      exact up _ (h.down j o hj ho hlj e he hb)
  by_cases hij : i = j
  · subst hij
    have h1 : i < lh.size := by rw [h.sh]; exact hi
    have h2 : i < listed.size := by rw [h.sl]; have := h.nl; omega
    simp [h1, h2]
  · rw [getD_set_ne d hij, getD_set_ne d hij]
    exact h.same j hj d
theorem wanted_head {o : Oper} {a : Act} (hg : (match o.guard with | some (j, _) => decide (j < n) | none => true) = true) :
    Region.wanted o (yielded (l.take n).toArray a.tmps) = Region.wanted o (yielded l.toArray a.tmps) := by
  unfold Region.wanted
  split
  · rfl
  · rename_i j b hj
    rw [hj] at hg
    have hlt : j < n := by simpa using hg
    simp [yielded, hlt]

theorem lift_head (hB : tailB l n = true) : ∀ (f : Nat) (lh listed : Array Bool) (a : Act) (w : World), HeadRel l n lh listed →
    wpAny P .any (l.take n).toArray (headPost P l.toArray Q (l.drop n)) f lh a w → wpAny P .any l.toArray Q (f + (l.length - n)) listed a w := by
  simp only [tailB, Bool.and_eq_true, decide_eq_true_eq] at hB
  obtain ⟨⟨⟨⟨⟨hn, hhead⟩, hsink⟩, hchain⟩, hseq⟩, _⟩ := hB
  have hop : ∀ i, i < n → ∃ o, l[i]? = some o ∧ (∀ e ∈ o.after, Region.binds .any e = true → e.on < i) ∧ (match o.guard with | some (j, _) => decide (j < n) | none => true) = true := by
    intro i hi
    have h1 := List.all_eq_true.1 hhead i (List.mem_range.2 hi)
    split at h1
    · rename_i o ho
      simp only [Bool.and_eq_true] at h1
      refine ⟨o, ho, fun e he hb => ?_, h1.2⟩
      have h2 := Array.all_eq_true'.1 h1.1 e he
      simp only [hb, Bool.not_true, Bool.false_or, decide_eq_true_eq] at h2
      exact h2
    · cases h1
  have hpre : ∀ i, i < n → (l.take n).toArray[i]? = l.toArray[i]? := by
    intro i hi
    simp [hi]
  -- behind the head: the tail
  have done : ∀ (f : Nat) (lh listed : Array Bool) (a : Act) (w : World), HeadRel l n lh listed → (∀ i, i < n → lh.getD i true = true) → headPost P l.toArray Q (l.drop n) .normal a w →
      wpAny P .any l.toArray Q (f + (l.length - n)) listed a w := by
    intro f lh listed a w hr hall h
    have he : listed = Array.replicate n true ++ Array.replicate (l.length - n) false := by
      apply Array.ext
      · simp [hr.sl]; omega
      · intro i h1 h2
        by_cases hi : i < n
        · have e1 := hr.same i hi true
          rw [hall i hi] at e1
          simp [h1] at e1
          simp [hi, e1]
        · have e1 := hr.tail i (by omega) (by rw [← hr.sl]; exact h1)
          simp [h1] at e1
          rw [Array.getElem_append_right (by simp; omega)]
          simp [e1]
    subst he
    rw [Nat.add_comm]
    refine any_more _ f _ a w ?_
    have := wpAny_of_seq (md := .any) (P := P) (Q' := Q) (ops := l.toArray) (l.drop n) n _ a w (fun j => by simp [List.getElem?_drop]) (by simpa using hseq) h
    simpa using this
  -- while the head isn't done its least operation may come up, and the tail's may not
  have least : ∀ (lh : Array Bool), lh.size = n → (¬ ∀ i, i < n → lh.getD i true = true) → Region.ready .any (l.take n).toArray lh ≠ [] := by
    intro lh hsz hnot hnil
    have hex : ∃ i, i < n ∧ lh.getD i true = false := by
      refine Classical.byContradiction fun hc => hnot fun i hi => ?_
      cases hv : lh.getD i true with
      | true => rfl
      | false => exact absurd ⟨i, hi, hv⟩ hc
    have key : ∀ m i, i ≤ m → i < n → lh.getD i true = false → False := by
      intro m
      induction m using Nat.strongRecOn with
      | _ m ih =>
        intro i him hi hv
        obtain ⟨o, ho, he, _⟩ := hop i hi
        have hin : i ∈ Region.ready .any (l.take n).toArray lh := by
          refine mem_ready.2 ⟨hv, o, by rw [hpre i hi]; simpa using ho, fun e hem hb => ?_⟩
          have hlt := he e hem hb
          cases hv2 : lh.getD e.on false with
          | true => rfl
          | false =>
            exfalso
            have : lh.getD e.on true = false := by
              have : e.on < lh.size := by omega
              simp [this] at hv2 ⊢
              exact hv2
            exact ih e.on (by omega) e.on (Nat.le_refl _) (by omega) this
        rw [hnil] at hin
        cases hin
    obtain ⟨i, hi, hv⟩ := hex
    exact key i i (Nat.le_refl _) hi hv
  have inHead : ∀ (lh listed : Array Bool), HeadRel l n lh listed → (¬ ∀ i, i < n → lh.getD i true = true) → ∀ i ∈ Region.ready .any l.toArray listed, i < n := by
    intro lh listed hr hnot i hi
    obtain ⟨hu, o, ho, hall⟩ := mem_ready.1 hi
    rcases Nat.lt_or_ge i n with hlt | hge
    · exact hlt
    · exfalso
      have hil : i < l.length := by
        have := (Array.getElem?_eq_some_iff.1 ho).1
        simpa using this
      by_cases hin : i = n
      · subst hin
        have done_ : ∀ m j, j < i → i - j ≤ m → lh.getD j false = true := by
          intro m
          induction m with
          | zero => intro j hj hm; omega
          | succ m ih =>
            intro j hj hm
            have hs := List.all_eq_true.1 hsink j (List.mem_range.2 hj)
            simp only [Bool.or_eq_true] at hs
            rcases hs with hs | hs
            · obtain ⟨o', ho', e, he, hb, hon⟩ := Region.waitsFor_spec hs
              have : o' = o := Option.some.inj (ho'.symm.trans ho)
              subst this
              have h1 := hall e he hb
              rw [hon, hr.same j hj false] at h1
              exact h1
            · obtain ⟨j', hj', hw⟩ := List.any_eq_true.1 hs
              simp only [Bool.and_eq_true, decide_eq_true_eq] at hw
              have hlt := List.mem_range.1 hj'
              obtain ⟨o', ho', e, he, hb, hon⟩ := Region.waitsFor_spec hw.2
              have h1 := hr.down j' o' hlt (by simpa using ho') (ih j' hlt (by omega)) e he hb
              rw [hon] at h1
              exact h1
        refine hnot fun j hj => ?_
        have h1 := done_ i j hj (by omega)
        have : j < lh.size := by rw [hr.sh]; exact hj
        simp [this] at h1 ⊢
        exact h1
      · have h1 := List.all_eq_true.1 hchain i (List.mem_range.2 hil)
        simp only [Bool.or_eq_true, decide_eq_true_eq] at h1
        rcases h1 with h1 | h1
        · omega
        · obtain ⟨o', ho', e, he, hb, hon⟩ := Region.waitsFor_spec h1
          have : o' = o := Option.some.inj (ho'.symm.trans ho)
          subst this
          have h2 := hall e he hb
          have h3 := hr.tail (i - 1) (by omega) (by omega)
          rw [hon] at h2
          have : i - 1 < listed.size := by rw [hr.sl]; omega
          simp [this] at h2 h3
          rw [h2] at h3
          cases h3
  intro f
  induction f with
  | zero =>
    intro lh listed a w hr h
    by_cases hall : ∀ i, i < n → lh.getD i true = true
    · exact done 0 lh listed a w hr hall h.2
    · exact absurd h.1 (least lh hr.sh hall)
  | succ f ih =>
    intro lh listed a w hr h
    by_cases hall : ∀ i, i < n → lh.getD i true = true
    · refine done (f + 1) lh listed a w hr hall (h.1 ?_)
      cases hc : Region.ready .any (l.take n).toArray lh with
      | nil => rfl
      | cons i r =>
        exfalso
        have hi : i ∈ Region.ready .any (l.take n).toArray lh := by rw [hc]; simp
        obtain ⟨hu, o, ho, _⟩ := mem_ready.1 hi
        have hin : i < n := by
          have := (Array.getElem?_eq_some_iff.1 ho).1
          simp at this
          omega
        rw [hall i hin] at hu
        cases hu
    · rw [show f + 1 + (l.length - n) = (f + (l.length - n)) + 1 by omega]
      refine ⟨fun h0 => ?_, fun i hi => ?_⟩
      · exfalso
        refine least lh hr.sh hall ?_
        cases hc : Region.ready .any (l.take n).toArray lh with
        | nil => rfl
        | cons i r =>
          exfalso
          have hi : i ∈ Region.ready .any (l.take n).toArray lh := by rw [hc]; simp
          obtain ⟨hu, o, ho, hedge⟩ := mem_ready.1 hi
          have hin : i < n := by
            have := (Array.getElem?_eq_some_iff.1 ho).1
            simp at this
            omega
          obtain ⟨o', ho', he', _⟩ := hop i hin
          have : i ∈ Region.ready .any l.toArray listed := by
            rw [hpre i hin] at ho
            have hoo : o = o' := Option.some.inj (ho.symm.trans (by simpa using ho'))
            subst hoo
            exact mem_ready.2 ⟨by rw [hr.same i hin]; exact hu, o, ho, fun e hem hb => by rw [hr.same e.on (by have := he' e hem hb; omega)]; exact hedge e hem hb⟩
          rw [h0] at this
          cases this
      · have hin := inHead lh listed hr hall i hi
        obtain ⟨hu, o, ho, hedge⟩ := mem_ready.1 hi
        obtain ⟨o', ho', he', hg'⟩ := hop i hin
        have hoo : o = o' := Option.some.inj (ho.symm.trans (by simpa using ho'))
        subst hoo
        have hi' : i ∈ Region.ready .any (l.take n).toArray lh :=
          mem_ready.2 ⟨by rw [← hr.same i hin]; exact hu, o, by rw [hpre i hin]; exact ho, fun e hem hb => by rw [← hr.same e.on (by have := he' e hem hb; omega)]; exact hedge e hem hb⟩
        have hdn : ∀ o, l[i]? = some o → ∀ e ∈ o.after, Region.binds .any e = true → lh.getD e.on false = true := fun o2 ho2 e hem hb => by
          have : o2 = o := Option.some.inj (ho2.symm.trans (by simpa using ho))
          subst this
          rw [← hr.same e.on (by have := he' e hem hb; omega)]
          exact hedge e hem hb
        have h1 := h.2 i hi'
        unfold wpOp at h1 ⊢
        rw [hpre i hin] at h1
        rw [ho] at h1 ⊢
        simp only [wanted_head hg'] at h1
        simp only
        split at h1
        · rename_i hw
          rw [if_pos hw]
          rcases h1 with h1 | ⟨h1, h2⟩
          · left
            exact upon_head (Oper.wp_mono (fun a' w' h' => ih _ _ a' w' (hr.set hin hdn) h') h1)
          · right
            obtain ⟨a', w', h'⟩ := h2
            exact ⟨h1, a', w', h'⟩
        · rename_i hw
          rw [if_neg hw]
          exact ih _ _ _ _ (hr.set hin hdn) h1

theorem wp_region_tail {id : Nat} {a : Act} {w : World} {l : List Oper} (n : Nat) (hm : P.follows .mixedOrders = true) (hB : tailB l n = true)
    (h : wpQuiet P (l.take n).toArray (fun w' => ∃ x, w' = ext w x) (fun a' => ∀ w', (∃ x, w' = ext w x) → wpList P l.toArray Q (l.drop n) a' w') (l.take n) a) : (Code.region id l.toArray true).wp P Q a w := by
  have hB0 := hB
  simp only [tailB, Bool.and_eq_true, decide_eq_true_eq] at hB
  obtain ⟨⟨⟨⟨⟨hn, _⟩, _⟩, _⟩, _⟩, hlex⟩ := hB
  simp only [Region.lexB, Bool.and_eq_true] at hlex
  refine wp_region_any hm ?_
  have hlen : (l.take n).length = n := by simp; omega
  have h1 := wpAnyQ_lex (C := fun w' => ∃ x, w' = ext w x) (md := .any) hlex.1 (l.take n) 0 (Array.replicate (l.take n).toArray.size false) a (by simp) (by simpa using hlex.2) h
  rw [List.size_toArray, hlen] at h1
  have h2 := wpAny_of_quiet (Q' := headPost P l.toArray Q (l.drop n)) (fun a' w' hw' hq => hq w' hw') n _ a { w with drawn := w.drawn + 1 } ⟨⟨#[], w.drawn + 1⟩, by simp [ext]⟩ h1
  have h3 := lift_head hB0 n (Array.replicate n false) (Array.replicate l.length false) a _ ⟨by simp, by simp, Nat.le_of_lt hn, fun i hi d => by simp [hi, Nat.lt_trans hi hn], fun t _ ht => by simp [ht], fun j o hj _ hl => by simp [hj] at hl⟩ h2
  rw [show n + (l.length - n) = l.toArray.size by simp; omega] at h3
  simpa using h3
end
end Go.Proofs.Ytcjnchjmpkapmaa
/- Package digest: New, Load, Conf, N, Nodes. -/
namespace Go.Proofs.Ytcjnchjmpkapmaa
open Go.ChangeShapes Go.WideShapes Go.ChangeAt Go.RowKit
set_option linter.unusedVariables false

@[go_sem] theorem run_field_conf0 (w : World) (a b c : Int) : (Instr.field 23 (.agg #[.int .i64 a, .int .i64 b, .int .i64 c]) 0).run Try.prog w = .ok (.int .i64 a) w := by kernel_rfl
def isDig (l k K : Int) : Bool := isPool K l && decide (1 ≤ k ∧ k ≤ 1048576)
def DigAt (w : World) (g K l : Nat) (k : Int) (r : List Nd) (F : Nat → Prop) : Prop :=
  1 ≤ k ∧ k ≤ 1048576 ∧ ∃ p F0, F = footP g F0 ∧ w.heap[g]? = some (.cells #[.int .i64 k, .pointer (some ⟨p, 0, none⟩)] 70 (0, 0)) ∧ PoolAt w p K l r F0
theorem DigAt.keep {w w' : World} {g K l : Nat} {k : Int} {r : List Nd} {F : Nat → Prop} (h : DigAt w g K l k r F) (hk : ∀ b, F b → w'.heap[b]? = w.heap[b]?) : DigAt w' g K l k r F := by
  obtain ⟨h1, h2, p, F0, rfl, h3, h4⟩ := h
  exact ⟨h1, h2, p, F0, rfl, (hk g (.inl rfl)).trans h3, h4.keep fun q hq => hk q (.inr hq)⟩
theorem DigAt.lt {w : World} {g K l : Nat} {k : Int} {r : List Nd} {F : Nat → Prop} (h : DigAt w g K l k r F) : ∀ b, F b → b < w.heap.size := by
  obtain ⟨h1, h2, p, F0, rfl, h3, h4⟩ := h
  rintro q (rfl | hq)
  · exact lt_of_block h3
  · exact h4.lt q hq
theorem DigAt.below {w w' : World} {g K l : Nat} {k : Int} {r : List Nd} {F : Nat → Prop} (h : DigAt w g K l k r F) (hb : Below w.heap.size w w') : DigAt w' g K l k r F := h.keep fun b hf => hb.block b (h.lt b hf)
theorem DigAt.fits {w : World} {g K l : Nat} {k : Int} {r : List Nd} {F : Nat → Prop} (h : DigAt w g K l k r F) : Fits l r := by
  obtain ⟨h1, h2, p, F0, rfl, h3, h4⟩ := h
  exact h4.fits
theorem DigAt.l_le {w : World} {g K l : Nat} {k : Int} {r : List Nd} {F : Nat → Prop} (h : DigAt w g K l k r F) : 1 ≤ l ∧ l ≤ 48 := by
  obtain ⟨h1, h2, p, F0, rfl, h3, h4⟩ := h
  exact ⟨h4.1, h4.2.1⟩
theorem pool_Kind (w : World) (g K l : Nat) (r : List Nd) (F : Nat → Prop) (h : PoolAt w g K l r F) : Calls Try.prog 27 #[.pointer (some ⟨g, 0, none⟩)] w fun e w' => e = .returned (.int .i64 K) ∧ Below w.heap.size w w' := by
  obtain ⟨h1, h2, h3, p, F0, rfl, h4⟩ := h
  rcases h4 with ⟨rfl, h16, hh, hd⟩ | ⟨rfl, hh, hd⟩
  · have H := Lib.hid hh
    clear hh hd
    go_enter Try.func27, Try.ntmps27
    go_wp2_with fail
    refine (pool_isArray _ g p _ H.out).mono ?_
    rintro e w1 ⟨rfl, hb1⟩
    have B1 : Below w.heap.size w w1 := Below.then_ (by repeat (first | with_reducible exact Below.refl _ _ | with_reducible assumption | ((with_reducible refine Below.setCell ?_ ?_ _); rotate_left; · (first | omega | exact Nat.le_refl _ | (simp <;> omega))) | (with_reducible refine Below.allocW ?_ _) | (with_reducible refine Below.drew ?_) | (with_reducible refine Below.extW ?_ _))) hb1
    have s1 : w.heap.size ≤ w1.heap.size := B1.size
    go_wp2_with fail
    go_ret
    exact ⟨rfl, (by repeat (first | with_reducible exact Below.refl _ _ | with_reducible assumption | ((with_reducible refine Below.setCell ?_ ?_ _); rotate_left; · (first | omega | exact Nat.le_refl _ | (simp <;> omega))) | (with_reducible refine Below.allocW ?_ _) | (with_reducible refine Below.drew ?_) | (with_reducible refine Below.extW ?_ _)))⟩
  · have H := Lib.hid hh
    clear hh hd
    go_enter Try.func27, Try.ntmps27
    go_wp2_with fail
    refine (pool_isArray_no _ g _ H.out).mono ?_
    rintro e w1 ⟨rfl, hb1⟩
    have B1 : Below w.heap.size w w1 := Below.then_ (by repeat (first | with_reducible exact Below.refl _ _ | with_reducible assumption | ((with_reducible refine Below.setCell ?_ ?_ _); rotate_left; · (first | omega | exact Nat.le_refl _ | (simp <;> omega))) | (with_reducible refine Below.allocW ?_ _) | (with_reducible refine Below.drew ?_) | (with_reducible refine Below.extW ?_ _))) hb1
    have s1 : w.heap.size ≤ w1.heap.size := B1.size
    go_wp2_with fail
    go_ret
    exact ⟨rfl, (by repeat (first | with_reducible exact Below.refl _ _ | with_reducible assumption | ((with_reducible refine Below.setCell ?_ ?_ _); rotate_left; · (first | omega | exact Nat.le_refl _ | (simp <;> omega))) | (with_reducible refine Below.allocW ?_ _) | (with_reducible refine Below.drew ?_) | (with_reducible refine Below.extW ?_ _)))⟩

theorem digest_New_no (w : World) (l k K : Int) (h : isDig l k K = false) : Calls Try.prog 10 #[.agg #[.int .i64 l, .int .i64 k, .int .i64 K]] w fun e w' => e = .returned (.tuple #[.pointer none, .int .i64 2]) ∧ Below w.heap.size w w' := by
  cases hp : isPool K l
  · have HC := Lib.hid (pool_New_no · K l hp)
    clear hp h
    go_enter Try.func10, Try.ntmps10
    go_wp2_with fail
    refine (HC.out _).mono ?_
    rintro e w1 ⟨rfl, hb1⟩
    have B1 : Below w.heap.size w w1 := Below.then_ (by repeat (first | with_reducible exact Below.refl _ _ | with_reducible assumption | ((with_reducible refine Below.setCell ?_ ?_ _); rotate_left; · (first | omega | exact Nat.le_refl _ | (simp <;> omega))) | (with_reducible refine Below.allocW ?_ _) | (with_reducible refine Below.drew ?_) | (with_reducible refine Below.extW ?_ _))) hb1
    have s1 : w.heap.size ≤ w1.heap.size := B1.size
    have z1_0 : w.heap.size < w1.heap.size := by have := hb1.size; (try simp at this); omega
    have y1_0 : w.heap.size ≤ w1.heap.size := Nat.le_of_lt z1_0
    have c1_0 := fun o => hb1.cell (p := ⟨w.heap.size, o, none⟩) (by first | omega | (simp <;> omega))
    have f1_0 := fun o => hb1.frozen (p := ⟨w.heap.size, o, none⟩) (by first | omega | (simp <;> omega))
    go_wp2_with fail
    go_ret2
    exact ⟨rfl, (by repeat (first | with_reducible exact Below.refl _ _ | with_reducible assumption | ((with_reducible refine Below.setCell ?_ ?_ _); rotate_left; · (first | omega | exact Nat.le_refl _ | (simp <;> omega))) | (with_reducible refine Below.allocW ?_ _) | (with_reducible refine Below.drew ?_) | (with_reducible refine Below.extW ?_ _)))⟩
  · have hk : ¬ (1 ≤ k ∧ k ≤ 1048576) := by simpa [isDig, hp] using h
    have hp' := hp
    simp only [isPool, decide_eq_true_eq] at hp'
    obtain ⟨n, rfl⟩ := Int.eq_ofNat_of_zero_le (show 0 ≤ l by omega)
    obtain ⟨m, rfl⟩ := Int.eq_ofNat_of_zero_le (show 0 ≤ K by omega)
    have HC := Lib.hid (pool_New · m n hp)
    clear hp h hp'
    by_cases hk1 : k < 1
    · clear hk
      go_enter Try.func10, Try.ntmps10
      go_wp2_with fail
      refine (HC.out _).mono ?_
      rintro e w1 ⟨g, F, rfl, _, _, hb1⟩
      have B1 : Below w.heap.size w w1 := Below.then_ (by repeat (first | with_reducible exact Below.refl _ _ | with_reducible assumption | ((with_reducible refine Below.setCell ?_ ?_ _); rotate_left; · (first | omega | exact Nat.le_refl _ | (simp <;> omega))) | (with_reducible refine Below.allocW ?_ _) | (with_reducible refine Below.drew ?_) | (with_reducible refine Below.extW ?_ _))) hb1
      have s1 : w.heap.size ≤ w1.heap.size := B1.size
      have z1_0 : w.heap.size < w1.heap.size := by have := hb1.size; (try simp at this); omega
      have y1_0 : w.heap.size ≤ w1.heap.size := Nat.le_of_lt z1_0
      have c1_0 := fun o => hb1.cell (p := ⟨w.heap.size, o, none⟩) (by first | omega | (simp <;> omega))
      have f1_0 := fun o => hb1.frozen (p := ⟨w.heap.size, o, none⟩) (by first | omega | (simp <;> omega))
      go_wp2_with fail
      go_ret2
      exact ⟨rfl, (by repeat (first | with_reducible exact Below.refl _ _ | with_reducible assumption | ((with_reducible refine Below.setCell ?_ ?_ _); rotate_left; · (first | omega | exact Nat.le_refl _ | (simp <;> omega))) | (with_reducible refine Below.allocW ?_ _) | (with_reducible refine Below.drew ?_) | (with_reducible refine Below.extW ?_ _)))⟩
    · have hk2 : 1048576 < k := by omega
      clear hk
      go_enter Try.func10, Try.ntmps10
      go_wp2_with fail
      refine (HC.out _).mono ?_
      rintro e w1 ⟨g, F, rfl, _, _, hb1⟩
      have B1 : Below w.heap.size w w1 := Below.then_ (by repeat (first | with_reducible exact Below.refl _ _ | with_reducible assumption | ((with_reducible refine Below.setCell ?_ ?_ _); rotate_left; · (first | omega | exact Nat.le_refl _ | (simp <;> omega))) | (with_reducible refine Below.allocW ?_ _) | (with_reducible refine Below.drew ?_) | (with_reducible refine Below.extW ?_ _))) hb1
      have s1 : w.heap.size ≤ w1.heap.size := B1.size
      have z1_0 : w.heap.size < w1.heap.size := by have := hb1.size; (try simp at this); omega
      have y1_0 : w.heap.size ≤ w1.heap.size := Nat.le_of_lt z1_0
      have c1_0 := fun o => hb1.cell (p := ⟨w.heap.size, o, none⟩) (by first | omega | (simp <;> omega))
      have f1_0 := fun o => hb1.frozen (p := ⟨w.heap.size, o, none⟩) (by first | omega | (simp <;> omega))
      go_wp2_with fail
      go_ret2
      exact ⟨rfl, (by repeat (first | with_reducible exact Below.refl _ _ | with_reducible assumption | ((with_reducible refine Below.setCell ?_ ?_ _); rotate_left; · (first | omega | exact Nat.le_refl _ | (simp <;> omega))) | (with_reducible refine Below.allocW ?_ _) | (with_reducible refine Below.drew ?_) | (with_reducible refine Below.extW ?_ _)))⟩
def DigPost (K l : Nat) (k : Int) (r : List Nd) (w : World) (e : Ending) (w' : World) : Prop := ∃ g F, e = .returned (.tuple #[.pointer (some ⟨g, 0, none⟩), .int .i64 0]) ∧ DigAt w' g K l k r F ∧ (∀ b, F b → w.heap.size ≤ b) ∧ Below w.heap.size w w'
theorem digest_New (w : World) (l K : Nat) (k : Int) (h : isDig l k K = true) : Calls Try.prog 10 #[.agg #[.int .i64 l, .int .i64 k, .int .i64 K]] w (DigPost K l k [] w) := by
  simp only [isDig, Bool.and_eq_true, decide_eq_true_eq] at h
  obtain ⟨hp, hk1, hk2⟩ := h
  have HC := Lib.hid (pool_New · K l hp)
  clear hp
  go_enter Try.func10, Try.ntmps10
  go_wp2_with fail
  refine (HC.out _).mono ?_
  rintro e w1 ⟨g, F, rfl, hP, hF, hb1⟩
  have B1 : Below w.heap.size w w1 := Below.then_ (by repeat (first | with_reducible exact Below.refl _ _ | with_reducible assumption | ((with_reducible refine Below.setCell ?_ ?_ _); rotate_left; · (first | omega | exact Nat.le_refl _ | (simp <;> omega))) | (with_reducible refine Below.allocW ?_ _) | (with_reducible refine Below.drew ?_) | (with_reducible refine Below.extW ?_ _))) hb1
  have s1 : w.heap.size ≤ w1.heap.size := B1.size
  have z1_0 : w.heap.size < w1.heap.size := by have := hb1.size; (try simp at this); omega
  have y1_0 : w.heap.size ≤ w1.heap.size := Nat.le_of_lt z1_0
  have c1_0 := fun o => hb1.cell (p := ⟨w.heap.size, o, none⟩) (by first | omega | (simp <;> omega))
  have f1_0 := fun o => hb1.frozen (p := ⟨w.heap.size, o, none⟩) (by first | omega | (simp <;> omega))
  have HP := Lib.hid hP
  simp only [World.size_alloc] at hF
  have HF := Lib.hid hF
  clear hP hF
  go_wp2_with fail
  go_ret2
  refine ⟨w1.heap.size, footP w1.heap.size F, rfl, ⟨hk1, hk2, g, F, rfl, heap_new_at w1 _ _ rfl, HP.out.below ((Below.refl _ _).alloc (Nat.le_refl _) _)⟩, ?_, (by repeat (first | with_reducible exact Below.refl _ _ | with_reducible assumption | ((with_reducible refine Below.setCell ?_ ?_ _); rotate_left; · (first | omega | exact Nat.le_refl _ | (simp <;> omega))) | (with_reducible refine Below.allocW ?_ _) | (with_reducible refine Below.drew ?_) | (with_reducible refine Below.extW ?_ _)))⟩
  rintro b (rfl | hb)
  · exact s1
  · have := HF.out b hb; omega
def loadErr (l k K : Int) (r : List Nd) : Int := if isDig l k K = false then 2 else if rightOf l r = false then 10 else if 8 * k < r.length then 13 else if lightOf l r k = false then 13 else 0
theorem digest_Load (w : World) (l K : Nat) (k : Int) (A : Option Addr) (cap : Nat) (r : List Nd) (h : loadErr l k K r = 0) (hS : Sl w w.heap.size encN A r) (hI : ints r) (hn : r.length < 67108864) :
    Calls Try.prog 9 #[.agg #[.int .i64 l, .int .i64 k, .int .i64 K], .slice A r.length cap] w (DigPost K l k r w) := by
  have hd : isDig l k K = true := by
    cases hd : isDig l k K
    · simp only [loadErr] at h; rw [if_pos hd] at h; cases h
    · rfl
  have hr : rightOf l r = true := by
    cases hr : rightOf l r
    · simp only [loadErr] at h; rw [if_neg (by simp [hd]), if_pos hr] at h; cases h
    · rfl
  have h8 : ¬ 8 * k < r.length := by
    intro h8
    simp only [loadErr] at h
    rw [if_neg (by simp [hd]), if_neg (by simp [hr]), if_pos h8] at h
    cases h
  have hl : lightOf l r k = true := by
    cases hl : lightOf l r k
    · simp only [loadErr] at h; rw [if_neg (by simp [hd]), if_neg (by simp [hr]), if_neg h8, if_pos hl] at h; cases h
    · rfl
  have HC := Lib.hid (digest_New · l K k hd)
  have HR := Lib.hid (roll_Right · l A cap r · hI (by unfold maxLen; omega))
  have HS := Lib.hid hS
  have hpl : isPool K l = true := by simp only [isDig, Bool.and_eq_true] at hd; exact hd.1
  have HL := Lib.hid (pool_Load · K l A cap r hpl hr · hI hn)
  simp only [isDig, Bool.and_eq_true, decide_eq_true_eq] at hd
  obtain ⟨_, hk1, hk2⟩ := hd
  rw [hr] at HR
  have HLF := Lib.hid hl
  clear h hS hr hI hpl hl
  go_enter Try.func9, Try.ntmps9
  go_wp2_with fail
  refine (HC.out _).mono ?_
  rintro e w1 ⟨g, F, rfl, _, _, hb1⟩
  have B1 : Below w.heap.size w w1 := Below.then_ (by repeat (first | with_reducible exact Below.refl _ _ | with_reducible assumption | ((with_reducible refine Below.setCell ?_ ?_ _); rotate_left; · (first | omega | exact Nat.le_refl _ | (simp <;> omega))) | (with_reducible refine Below.allocW ?_ _) | (with_reducible refine Below.drew ?_) | (with_reducible refine Below.extW ?_ _))) hb1
  have s1 : w.heap.size ≤ w1.heap.size := B1.size
  have z1_0 : w.heap.size < w1.heap.size := by have := hb1.size; (try simp at this); omega
  have y1_0 : w.heap.size ≤ w1.heap.size := Nat.le_of_lt z1_0
  have c1_0 := fun o => hb1.cell (p := ⟨w.heap.size, o, none⟩) (by first | omega | (simp <;> omega))
  have f1_0 := fun o => hb1.frozen (p := ⟨w.heap.size, o, none⟩) (by first | omega | (simp <;> omega))
  go_wp2_with fail
  refine (HR.out _ (HS.out.keep s1 fun p hp => B1.cell hp)).mono ?_
  rintro e w2 ⟨rfl, hb2⟩
  have B2 : Below w.heap.size w w2 := Below.then_ (by repeat (first | with_reducible exact Below.refl _ _ | with_reducible assumption | ((with_reducible refine Below.setCell ?_ ?_ _); rotate_left; · (first | omega | exact Nat.le_refl _ | (simp <;> omega))) | (with_reducible refine Below.allocW ?_ _) | (with_reducible refine Below.drew ?_) | (with_reducible refine Below.extW ?_ _))) hb2
  have s2 : w.heap.size ≤ w2.heap.size := B2.size
  have z2_0 : w.heap.size < w2.heap.size := by have := hb2.size; (try simp at this); omega
  have y2_0 : w.heap.size ≤ w2.heap.size := Nat.le_of_lt z2_0
  have c2_0 := fun o => hb2.cell (p := ⟨w.heap.size, o, none⟩) (by first | omega | (simp <;> omega))
  have f2_0 := fun o => hb2.frozen (p := ⟨w.heap.size, o, none⟩) (by first | omega | (simp <;> omega))
  go_wp2_with fail
  refine (HL.out _ (HS.out.keep s2 fun p hp => B2.cell hp)).mono ?_
  rintro e w3 ⟨gp, Fp, rfl, hP, hF, hb3⟩
  have B3 : Below w.heap.size w w3 := Below.then_ (by repeat (first | with_reducible exact Below.refl _ _ | with_reducible assumption | ((with_reducible refine Below.setCell ?_ ?_ _); rotate_left; · (first | omega | exact Nat.le_refl _ | (simp <;> omega))) | (with_reducible refine Below.allocW ?_ _) | (with_reducible refine Below.drew ?_) | (with_reducible refine Below.extW ?_ _))) hb3
  have s3 : w.heap.size ≤ w3.heap.size := B3.size
  have z3_0 : w.heap.size < w3.heap.size := by have := hb3.size; (try simp at this); omega
  have y3_0 : w.heap.size ≤ w3.heap.size := Nat.le_of_lt z3_0
  have c3_0 := fun o => hb3.cell (p := ⟨w.heap.size, o, none⟩) (by first | omega | (simp <;> omega))
  have f3_0 := fun o => hb3.frozen (p := ⟨w.heap.size, o, none⟩) (by first | omega | (simp <;> omega))
  have KP := Lib.hid hP
  have KF := Lib.hid hF
  clear hP hF
  go_wp2_with fail
  refine (press_Light _ gp K l r Fp k KP.out hk1 hk2 (by omega)).mono ?_
  rintro e w4 ⟨rfl, hb4⟩
  have B4 : Below w.heap.size w w4 := Below.then_ (by repeat (first | with_reducible exact Below.refl _ _ | with_reducible assumption | ((with_reducible refine Below.setCell ?_ ?_ _); rotate_left; · (first | omega | exact Nat.le_refl _ | (simp <;> omega))) | (with_reducible refine Below.allocW ?_ _) | (with_reducible refine Below.drew ?_) | (with_reducible refine Below.extW ?_ _))) hb4
  have s4 : w.heap.size ≤ w4.heap.size := B4.size
  have z4_0 : w.heap.size < w4.heap.size := by have := hb4.size; (try simp at this); omega
  have y4_0 : w.heap.size ≤ w4.heap.size := Nat.le_of_lt z4_0
  have c4_0 := fun o => hb4.cell (p := ⟨w.heap.size, o, none⟩) (by first | omega | (simp <;> omega))
  have f4_0 := fun o => hb4.frozen (p := ⟨w.heap.size, o, none⟩) (by first | omega | (simp <;> omega))
  rw [HLF.out]
  have KP4 := Lib.hid (KP.out.below hb4)
  clear KP
  go_wp2_with fail
  go_ret2
  refine ⟨w4.heap.size, footP w4.heap.size Fp, rfl, ⟨hk1, hk2, gp, Fp, rfl, heap_new_at w4 _ _ rfl, KP4.out.below ((Below.refl _ _).alloc (Nat.le_refl _) _)⟩, ?_, (by repeat (first | with_reducible exact Below.refl _ _ | with_reducible assumption | ((with_reducible refine Below.setCell ?_ ?_ _); rotate_left; · (first | omega | exact Nat.le_refl _ | (simp <;> omega))) | (with_reducible refine Below.allocW ?_ _) | (with_reducible refine Below.drew ?_) | (with_reducible refine Below.extW ?_ _)))⟩
  rintro b (rfl | hb)
  · exact s4
  · have := KF.out b hb; omega
theorem digest_Nodes (w : World) (g K l : Nat) (k : Int) (r : List Nd) (F : Nat → Prop) (h : DigAt w g K l k r F) (hn : r.length ≤ 67108864) : Calls Try.prog 28 #[.pointer (some ⟨g, 0, none⟩)] w (OwnPost 45 encN r w) := by
  obtain ⟨h1, h2, p, F0, rfl, hh, hP⟩ := h
  have c := blk_cell hh
  have z := lt_of_block hh
  have HP := Lib.hid hP
  clear hh hP
  go_enter Try.func28, Try.ntmps28
  go_wp2_with fail
  refine (pool_Snap _ p K l r F0 HP.out hn).mono ?_
  rintro e w1 ⟨v, rfl, ho, hb⟩
  have HO := Lib.hid ho
  clear ho
  go_wp2_with fail
  go_ret
  exact ⟨_, rfl, HO.out, hb⟩
theorem digest_Conf (w : World) (g K l : Nat) (k : Int) (r : List Nd) (F : Nat → Prop) (h : DigAt w g K l k r F) : Calls Try.prog 13 #[.pointer (some ⟨g, 0, none⟩)] w fun e w' => e = .returned (.agg #[.int .i64 l, .int .i64 k, .int .i64 K]) ∧ Below w.heap.size w w' := by
  obtain ⟨h1, h2, p, F0, rfl, hh, hP⟩ := h
  have c := blk_cell hh
  have z := lt_of_block hh
  have hPA := hP.below ((Below.refl w.heap.size w).alloc (Nat.le_refl _) (.cells #[.int .i64 0, .int .i64 0, .int .i64 0] 23))
  have HP := Lib.hid hPA
  clear hh hP hPA
  go_enter Try.func13, Try.ntmps13
  go_wp2_with fail
  refine wp_region_tail 18 (by kernel_rfl) (by kernel_rfl) ?_; simp only [List.take_succ_cons, List.take_zero, List.drop_succ_cons, List.drop_zero]
  repeat (go_big_quiet_step (first | (go_at_call 26; exact quiet_ext (pool_L _ p K l r F0 (HP.out.below (ext_below _ _)))) | (go_at_call 27; exact quiet_ext (pool_Kind _ p K l r F0 (HP.out.below (ext_below _ _))))))
  refine wpQuiet_nil ?_
  intro w1 hb1
  replace hb1 := below_of_ext hb1
  have B1 : Below w.heap.size w w1 := Below.then_ (by repeat (first | with_reducible exact Below.refl _ _ | with_reducible assumption | ((with_reducible refine Below.setCell ?_ ?_ _); rotate_left; · (first | omega | exact Nat.le_refl _ | (simp <;> omega))) | (with_reducible refine Below.allocW ?_ _) | (with_reducible refine Below.drew ?_) | (with_reducible refine Below.extW ?_ _))) hb1
  have s1 : w.heap.size ≤ w1.heap.size := B1.size
  have z1_0 : w.heap.size < w1.heap.size := by have := hb1.size; (try simp at this); omega
  have y1_0 : w.heap.size ≤ w1.heap.size := Nat.le_of_lt z1_0
  have c1_0 := fun o => hb1.cell (p := ⟨w.heap.size, o, none⟩) (by first | omega | (simp <;> omega))
  have f1_0 := fun o => hb1.frozen (p := ⟨w.heap.size, o, none⟩) (by first | omega | (simp <;> omega))
  go_wp2_with fail
  exact bodyPost_ret (v := .agg #[.int .i64 l, .int .i64 k, .int .i64 K]) (by simp only [results, Try.results13]; go_simp) rfl ⟨rfl, (by repeat (first | with_reducible exact Below.refl _ _ | with_reducible assumption | ((with_reducible refine Below.setCell ?_ ?_ _); rotate_left; · (first | omega | exact Nat.le_refl _ | (simp <;> omega))) | (with_reducible refine Below.allocW ?_ _) | (with_reducible refine Below.drew ?_) | (with_reducible refine Below.extW ?_ _)))⟩
end Go.Proofs.Ytcjnchjmpkapmaa
/- Package rank: Low, High. -/
namespace Go.Proofs.Ytcjnchjmpkapmaa
open Go.ChangeShapes Go.WideShapes Go.ChangeAt Go.RowKit
set_option linter.unusedVariables false

def weighR (l : Int) (f : Int → Int → Bool) : List Nd → Int
  | [] => 0
  | x :: r => (if f (endsOf l x.1).1 (endsOf l x.1).2.1 = true then x.2 else 0) + weighR l f r
def lowOf (l : Int) (r : List Nd) (y : Int) : Int := weighR l (fun _ hi => decide (hi ≤ y)) r
def highOf (l : Int) (r : List Nd) (y : Int) : Int := weighR l (fun lo _ => decide (lo ≤ y)) r
theorem weighR_append (l : Int) (f : Int → Int → Bool) (a b : List Nd) : weighR l f (a ++ b) = weighR l f a + weighR l f b := by
  induction a with
  | nil => simp [weighR]
  | cons x a ih => simp only [List.cons_append, weighR, ih]; omega
theorem weighR_le {l : Int} {f : Int → Int → Bool} {r : List Nd} (h : Roll r) : 0 ≤ weighR l f r ∧ weighR l f r ≤ sumR r := by
  induction r with
  | nil => simp [weighR, sumR]
  | cons x r ih =>
    have := ih h.tail
    have hx := h.2 x (by simp)
    simp only [weighR, sumR]
    split <;> omega

end Go.Proofs.Ytcjnchjmpkapmaa
/- The reference of layer 2 (twig). -/
namespace Go.Proofs.Ytcjnchjmpkapmaa
open Go.ChangeShapes Go.WideShapes Go.ChangeAt Go.RowKit
set_option linter.unusedVariables false

theorem ref2_Power (w : World) (n : Nat) (hn : n ≤ 62) : Calls Try.prog 24 #[.int .i64 n] w fun e w' => e = .returned (.int .i64 (2 ^ n)) ∧ Below w.heap.size w w' := by
  go_enter Try.func24, Try.ntmps24
  go_wp2_with fail
  go_loop [3, 4] (fun p i => ∃ j q : Nat, j ≤ n ∧ i = .int .i64 j ∧ p = .int .i64 q ∧ q = 2 ^ j) (fun _ i => n - (intOf i).toNat)
  case atStart => exact ⟨0, 1, by omega, rfl, rfl, rfl⟩
  case round =>
    obtain ⟨j, q, hj, rfl, rfl, hq⟩ := hrel
    by_cases hlt : j < n
    · have h1 : 2 ^ j ≤ 2 ^ 61 := Nat.pow_le_pow_right (by decide) (by omega)
      have h2 : q ≤ 2305843009213693952 := by rw [hq]; simpa using h1
      have HQ := Lib.hid hq
      clear hq h1
      go_wp2_with fail
      go_round
      case rel => exact ⟨j + 1, 2 * q, by omega, by go_num, by go_num, by rw [HQ.out, Nat.pow_succ, Nat.mul_comm]⟩
      case measure => simp [intOf]; omega
    · obtain rfl : j = n := by omega
      have HQ := Lib.hid hq
      clear hq
      go_wp2_with fail
      go_ret
      exact ⟨ret_int (by rw [HQ.out]; simp), (by repeat (first | with_reducible exact Below.refl _ _ | with_reducible assumption | ((with_reducible refine Below.setCell ?_ ?_ _); rotate_left; · (first | omega | exact Nat.le_refl _ | (simp <;> omega))) | (with_reducible refine Below.allocW ?_ _) | (with_reducible refine Below.drew ?_) | (with_reducible refine Below.extW ?_ _)))⟩

end Go.Proofs.Ytcjnchjmpkapmaa
/- The references of layers 6, 7, 9, 11, 12 and 13, as far as Load goes. -/
namespace Go.Proofs.Ytcjnchjmpkapmaa
open Go.ChangeShapes Go.WideShapes Go.ChangeAt Go.RowKit
set_option linter.unusedVariables false

def lastR (l : List Nd) (k : Nat) : Int := if k = 0 then 0 else (l[k - 1]?.getD (0, 0)).1
def refDig (k l : Int) (A : Option Addr) (n cap : Nat) : Value := .agg #[.int .i64 k, .int .i64 l, .slice A n cap]
def refLoadV (l k K : Int) (A : Option Addr) (r : List Nd) (cap : Nat) : Value := if loadErr l k K r = 0 then .tuple #[refDig k l A r.length cap, .int .i64 0] else .tuple #[refDig 0 0 none 0 0, .int .i64 (loadErr l k K r)]

end Go.Proofs.Ytcjnchjmpkapmaa
/- What the laws are given: a conf, a list of nodes, and both. -/
namespace Go.Proofs.Ytcjnchjmpkapmaa
open Go.ChangeShapes Go.WideShapes Go.ChangeAt Go.RowKit
set_option linter.unusedVariables false
set_option maxRecDepth 100000

theorem slice_of_trod {α : Type} [Inhabited α] {size : Nat} (E : Enc α size) (ok : α → Prop) {t e : TypeId} (ht : (Try.prog).underlying t = some (.slice e)) (hC : (Try.prog).cellsOf e = size) (hs : 0 < size)
    {H : Type} {enc : TypeId × Value → H} {w : World} {base : Nat} {spare : Nat → Bool} {held : Bool} {fuel : Nat} {cs : List Value} {x : DataW H × List MemPlace}
    (el : ∀ (fuel : Nat) (cs : List Value) (x : DataW H × List MemPlace), DataW.trod enc Try.prog w base spare held fuel e cs = some x → ∃ o : α, cs = E.enc o ∧ ok o) (h : DataW.trod enc Try.prog w base spare held fuel t cs = some x) :
    ∃ (l : List α) (A : Option Addr) (cap : Nat), cs = [.slice A l.length cap] ∧ Sl w w.heap.size E A l ∧ (∀ o ∈ l, ok o) ∧ l.length ≤ maxLen := by
  rcases Deep.open_slice ht h with ⟨hcs, _⟩ | ⟨a, len, cap, m, n, D, Pl, hcs, _, hl, hm, hmm, _, hx⟩
  · exact ⟨[], none, 0, hcs, .nil, by simp, by simp⟩
  · subst hcs
    have hle : len ≤ m := by rw [hmm]; split <;> omega
    have each : ∀ i, i < len → ∃ o : α, ok o ∧ ∀ j u, (E.enc o)[j]? = some u → w.cell? (a.add (i * size + j)) = some u := by
      intro i hi
      obtain ⟨cs', hc, ht'⟩ := hx i (by omega)
      rw [hC] at hc
      obtain ⟨o, rfl, hk⟩ := el _ _ _ ht'
      obtain ⟨_, hcl, hat⟩ := World.cells?_some hc
      refine ⟨o, hk, fun j u hj => ?_⟩
      have hj6 : j < size := by have := (List.getElem?_eq_some_iff.1 hj).1; rwa [E.len] at this
      rw [← Go.Deep.add_add, hat j hj6, hj]
    obtain ⟨f, hF⟩ := Deep.choose_lt each
    refine ⟨(List.range len).map f, some a, cap, by simp, ?_, ?_, by simp; omega⟩
    · by_cases h0 : len = 0
      · subst h0; exact .inl rfl
      · obtain ⟨b, off, spot⟩ := a
        obtain ⟨u0, hu0⟩ : ∃ u, (E.enc (f 0))[0]? = some u := ⟨_, List.getElem?_eq_getElem (by rw [E.len]; exact hs)⟩
        have hc0 := (hF 0 (by omega)).2 0 _ hu0
        have hspot : spot = none := by simpa [Addr.add] using World.cell?_spot hc0
        subst hspot
        have hb : b < w.heap.size := by
          simp only [add_plain, Nat.zero_mul, Nat.add_zero] at hc0
          exact lt_of_cell hc0
        refine .inr ⟨b, off, rfl, hb, fun i x hi j u hj => ?_⟩
        have hlt : i < len := by
          have := (List.getElem?_eq_some_iff.1 hi).1
          simpa using this
        simp [hlt] at hi
        subst hi
        have := (hF i hlt).2 j u hj
        rw [add_plain, ← Nat.add_assoc] at this
        exact this
    · intro o ho
      obtain ⟨i, hi, rfl⟩ := List.mem_map.1 ho
      exact (hF i (List.mem_range.1 hi)).1
theorem i64_of_wf {n : Int} (h : (Lit.int .i64 n).wf = true) : i64 n := by
  simp only [Lit.wf, Bool.and_eq_true, decide_eq_true_eq] at h
  have hmn : IntKind.i64.min = -9223372036854775808 := by decide
  have hmx : IntKind.i64.max = 9223372036854775807 := by decide
  rw [hmn, hmx] at h
  exact h
section
variable {H : Type} {enc : TypeId × Value → H} {w : World} {base : Nat} {spare : Nat → Bool} {held : Bool} {fuel : Nat} {cs : List Value} {x : DataW H × List MemPlace}
theorem conf_of_trod (h : DataW.trod enc Try.prog w base spare held fuel 23 cs = some x) : ∃ l k K : Int, cs = [.int .i64 l, .int .i64 k, .int .i64 K] ∧ i64 l ∧ i64 k ∧ i64 K := by
  obtain ⟨xs, n, _, _, hlen, hxl, hf⟩ := DataW.trod_struct Try.underlying23 h
  have hC : (Try.prog).cellsOf 23 = 3 := by kernel_rfl
  have hCi : (Try.prog).cellsOf 3 = 1 := by kernel_rfl
  rw [hC] at hlen
  match cs, hlen with
  | [c0, c1, c2], _ =>
    match xs, hxl with
    | [y0, y1, y2], _ =>
      have g0 : DataW.trod enc Try.prog w base spare held n 3 (([c0, c1, c2].drop 0).take ((Try.prog).cellsOf 3)) = some y0 := hf 0 _ rfl
      have g1 : DataW.trod enc Try.prog w base spare held n 3 (([c0, c1, c2].drop 1).take ((Try.prog).cellsOf 3)) = some y1 := hf 1 _ rfl
      have g2 : DataW.trod enc Try.prog w base spare held n 3 (([c0, c1, c2].drop 2).take ((Try.prog).cellsOf 3)) = some y2 := hf 2 _ rfl
      simp only [hCi] at g0 g1 g2
      obtain ⟨k, e0, _, k0⟩ := DataW.trod_int Try.underlying3 g0
      obtain ⟨i, e1, _, k1⟩ := DataW.trod_int Try.underlying3 g1
      obtain ⟨j, e2, _, k2⟩ := DataW.trod_int Try.underlying3 g2
      simp at e0 e1 e2
      subst e0 e1 e2
      exact ⟨k, i, j, rfl, i64_of_wf k0, i64_of_wf k1, i64_of_wf k2⟩
end
def loadedV (l k K : Int) (A : Option Addr) (n cap : Nat) : Value := .agg #[.int .i64 l, .int .i64 k, .int .i64 K, .slice A n cap]
end Go.Proofs.Ytcjnchjmpkapmaa
/- Chapter 16: a digest out of a conf and nodes; the chapter's example. -/
namespace Go.Proofs.Ytcjnchjmpkapmaa
open Go.ChangeShapes Go.WideShapes Go.ChangeAt Go.RowKit
set_option linter.unusedVariables false
set_option maxRecDepth 100000

theorem DigAt.alloc {w : World} {g K l : Nat} {k : Int} {r : List Nd} {F : Nat → Prop} (h : DigAt w g K l k r F) (o : Obj) : DigAt (w.alloc o) g K l k r F := h.below ((Below.refl _ _).alloc (Nat.le_refl _) o)
def goodL (l k K : Int) (r : List Nd) : Prop := r.length ≤ 150 ∧ ¬ (K = 1 ∧ 10 < l) ∧ loadErr l k K r = 0
def LPost (K l : Nat) (k : Int) (r : List Nd) (d : Value) (w : World) (e : Ending) (w' : World) : Prop := ∃ g F, e = .returned (.tuple #[.pointer (some ⟨g, 0, none⟩), d]) ∧ DigAt w' g K l k r F ∧ (∀ b, F b → w.heap.size ≤ b) ∧ Below w.heap.size w w'
def nodes16 : List Nd := [(1, 1), (4, 2), (7, 3)]
theorem nodes16_ints : ints nodes16 := by
  intro x hx
  simp only [nodes16, List.mem_cons, List.not_mem_nil, or_false] at hx
  rcases hx with rfl | rfl | rfl <;> (unfold i64; simp)
theorem load16 : loadErr 2 4 2 nodes16 = 0 := by decide +kernel
end Go.Proofs.Ytcjnchjmpkapmaa
/- Chapter 16: plain laws of what weighs up to a number. -/
namespace Go.Proofs.Ytcjnchjmpkapmaa
open Go.ChangeShapes Go.WideShapes Go.ChangeAt Go.RowKit
set_option linter.unusedVariables false
set_option maxRecDepth 100000

theorem weighR_none {l : Int} {f : Int → Int → Bool} {r : List Nd} (h : ∀ x ∈ r, f (endsOf l x.1).1 (endsOf l x.1).2.1 = false) : weighR l f r = 0 := by
  induction r with
  | nil => rfl
  | cons x r ih =>
    simp only [weighR]
    rw [if_neg (by rw [h x (by simp)]; simp), ih fun y hy => h y (by simp [hy])]; rfl
theorem ends_bounds {l : Nat} {id : Int} (h : isNode l id = true) : 0 ≤ (endsOf l id).1 ∧ (endsOf l id).1 ≤ (endsOf l id).2.1 ∧ (endsOf l id).2.1 ≤ 2 ^ l - 1 := by
  obtain ⟨n, x, hn, rfl, hn1, hn2, hx1, hx2⟩ := isNode_nat h
  obtain rfl : n = l := by omega
  obtain ⟨d, b, t, hd, hb, hdb, hxt, htd, hprod⟩ := node_facts hn2 hx1 hx2
  have e1 : endsOf n x = ((t : Int) * 2 ^ b, (t : Int) * 2 ^ b + 2 ^ b - 1, true) := by
    simp only [endsOf, h, if_true, Int.toNat_natCast, hd, hb]
    have : (x : Int) - 2 ^ d = t := by rw [hxt]; push_cast; omega
    rw [this]
  rw [e1]
  have q3 := pow_pos' b
  have q8 : (t : Int) * 2 ^ b + 2 ^ b ≤ 2 ^ n := by
    have h : (((t + 1) * 2 ^ b : Nat) : Int) ≤ ((2 ^ n : Nat) : Int) := by exact_mod_cast hprod
    push_cast at h
    rw [Int.add_mul, Int.one_mul] at h
    exact h
  have q9 : 0 ≤ (t : Int) * 2 ^ b := Int.mul_nonneg (by omega) (by omega)
  simp only
  omega
end Go.Proofs.Ytcjnchjmpkapmaa
/- Tiles: nodes and what they hold: plain laws. -/
namespace Go.Proofs.Ytcjnchjmpkapmaa
open Go.ChangeShapes Go.WideShapes Go.ChangeAt Go.RowKit
set_option linter.unusedVariables false

def loN (l : Nat) (x : Int) : Int := (endsOf l x).1
def hiN (l : Nat) (x : Int) : Int := (endsOf l x).2.1
def abv (p q : Int) : Bool := decide (1 ≤ p ∧ 1 ≤ q ∧ p.toNat.log2 ≤ q.toNat.log2 ∧ q.toNat / 2 ^ (q.toNat.log2 - p.toNat.log2) = p.toNat)
theorem node_shape {l : Nat} {id : Int} (h : isNode l id = true) : ∃ d b t : Nat, d + b = l ∧ id = ((2 ^ d + t : Nat) : Int) ∧ t < 2 ^ d ∧ (2 ^ d + t).log2 = d ∧ loN l id = (t : Int) * 2 ^ b ∧ hiN l id = (t : Int) * 2 ^ b + 2 ^ b - 1 := by
  obtain ⟨n, x, hn, rfl, hn1, hn2, hx1, hx2⟩ := isNode_nat h
  obtain rfl : n = l := by omega
  obtain ⟨d, b, t, hd, hb, hdb, hxt, htd, hprod⟩ := node_facts hn2 hx1 hx2
  have e1 : endsOf n x = ((t : Int) * 2 ^ b, (t : Int) * 2 ^ b + 2 ^ b - 1, true) := by
    simp only [endsOf, h, if_true, Int.toNat_natCast, hd, hb]
    have : (x : Int) - 2 ^ d = t := by rw [hxt]; push_cast; omega
    rw [this]
  exact ⟨d, b, t, hdb, by rw [hxt], htd, by rw [← hxt]; exact hd, by unfold loN; rw [e1], by unfold hiN; rw [e1]⟩
theorem log2_shape {d t : Nat} (h : t < 2 ^ d) : (2 ^ d + t).log2 = d := by
  rw [Nat.log2_eq_iff (by have := Nat.two_pow_pos d; omega)]
  rw [Nat.pow_succ]; omega
theorem node_of_shape {l d b t : Nat} (hl : 1 ≤ l ∧ l ≤ 48) (hdb : d + b = l) (ht : t < 2 ^ d) : isNode l ((2 ^ d + t : Nat) : Int) = true := by
  have h1 := Nat.two_pow_pos d
  have h2 : (2 : Nat) ^ d ≤ 2 ^ l := Nat.pow_le_pow_right (by decide) (by omega)
  have h3 : ((2 ^ l : Nat) : Int) = 2 ^ l := by simp
  simp only [isNode, decide_eq_true_eq, Int.toNat_natCast]
  omega
section
variable {l : Nat} {p q : Int}
theorem lo_hi (hp : isNode l p = true) : loN l p ≤ hiN l p := (ends_bounds hp).2.1
theorem isNode_l (hp : isNode l p = true) : 1 ≤ l ∧ l ≤ 48 := by
  simp only [isNode, decide_eq_true_eq] at hp; omega
theorem node_kids (hp : isNode l p = true) (hb : p.toNat.log2 < l) : isNode l (2 * p) = true ∧ isNode l (2 * p + 1) = true ∧ loN l (2 * p) = loN l p ∧ hiN l (2 * p + 1) = hiN l p ∧ loN l (2 * p + 1) = hiN l (2 * p) + 1 ∧ (2 * p).toNat.log2 = p.toNat.log2 + 1 ∧ (2 * p + 1).toNat.log2 = p.toNat.log2 + 1 := by
  have hl := isNode_l hp
  obtain ⟨d, b, t, h1, rfl, h2, h3, h4, h5⟩ := node_shape hp
  rw [Int.toNat_natCast, h3] at hb
  obtain ⟨c, rfl⟩ : ∃ c, b = c + 1 := ⟨b - 1, by omega⟩
  have e1 : 2 * ((2 ^ d + t : Nat) : Int) = ((2 ^ (d + 1) + 2 * t : Nat) : Int) := by rw [Nat.pow_succ]; push_cast; omega
  have e2 : 2 * ((2 ^ d + t : Nat) : Int) + 1 = ((2 ^ (d + 1) + (2 * t + 1) : Nat) : Int) := by rw [Nat.pow_succ]; push_cast; omega
  have q1 : 2 * t < 2 ^ (d + 1) := by rw [Nat.pow_succ]; omega
  have q2 : 2 * t + 1 < 2 ^ (d + 1) := by rw [Nat.pow_succ]; omega
  have n1 := node_of_shape (b := c) hl (by omega) q1
  have n2 := node_of_shape (b := c) hl (by omega) q2
  rw [e2, e1]
  refine ⟨n1, n2, ?_⟩
  obtain ⟨d', b', t', g1, g2, g3, g4, g5, g6⟩ := node_shape n1
  obtain ⟨d'', b'', t'', f1, f2, f3, f4, f5, f6⟩ := node_shape n2
  have i1 := log2_shape q1
  have i2 := log2_shape q2
  have g2' := Int.ofNat.inj g2
  have f2' := Int.ofNat.inj f2
  rw [← g2', i1] at g4
  rw [← f2', i2] at f4
  subst g4 f4
  obtain rfl : b' = c := by omega
  obtain rfl : b'' = b' := by omega
  obtain rfl : t' = 2 * t := by omega
  obtain rfl : t'' = 2 * t + 1 := by omega
  rw [g5, g6, f5, f6, h4, h5, Int.toNat_natCast, Int.toNat_natCast, Int.toNat_natCast, h3, i1, i2, Int.pow_succ]
  push_cast
  refine ⟨?_, ?_, ?_, rfl, rfl⟩
  · rw [Int.mul_comm 2 (t : Int), Int.mul_assoc, Int.mul_comm 2]
  · rw [Int.add_mul, Int.mul_comm 2 (t : Int), Int.mul_assoc, Int.mul_comm 2]; omega
  · rw [Int.add_mul]; omega
end
def held (l : Nat) (ids : List Int) (v : Int) : Prop := ∃ t ∈ ids, loN l t ≤ v ∧ v ≤ hiN l t
def sibN (t : Int) : Int := if t % 2 = 0 then t + 1 else t - 1
def climb : List Int → Int → List Int × Int
  | [], x => ([], x)
  | t :: ts, x => if sibN t = x then climb ts (x / 2) else (t :: ts, x)
def joinStep (T : List Int) (x : Int) : List Int :=
  match T with
  | [] => [x]
  | t :: ts => if abv t x = true then t :: ts else (climb (t :: ts) x).2 :: (climb (t :: ts) x).1
def joinF (s : List Int) : List Int := s.foldl joinStep []
def leT (l : Nat) (a b : Int) : Prop := loN l a < loN l b ∨ (loN l a = loN l b ∧ a ≤ b)
structure ClimbOf (l : Nat) (T : List Int) (x : Int) (T' : List Int) (j : Int) : Prop where
  node : isNode l j = true
  suf : T' <:+ T
  left : ∀ t ∈ T', hiN l t < loN l j
  hi : hiN l j = hiN l x
  lo : loN l j = loN l x ∨ ∃ t ∈ T, loN l j = loN l t
  lole : loN l j ≤ loN l x
  all : ∀ t ∈ T, t ∈ T' ∨ abv j t = true
  in_ : ∀ v, loN l j ≤ v → v ≤ hiN l j → (loN l x ≤ v ∧ v ≤ hiN l x) ∨ ∃ t ∈ T, loN l t ≤ v ∧ v ≤ hiN l t
  stop : ∀ t ts, T' = t :: ts → sibN t ≠ j
structure JInv (l : Nat) (pre T : List Int) : Prop where
  node : ∀ t ∈ T, isNode l t = true
  sep : T.Pairwise (fun a b => hiN l b < loN l a)
  low : ∀ t ∈ T, ∃ q ∈ pre, loN l q = loN l t
  cov : ∀ q ∈ pre, ∃ t ∈ T, abv t q = true
  sub : ∀ t ∈ T, ∀ v, loN l t ≤ v → v ≤ hiN l t → held l pre v
  sib : T.Pairwise (fun a b => sibN b ≠ a)
structure Tiles (l : Nat) (C : Int → Prop) (T : List Int) : Prop where
  node : ∀ t ∈ T, isNode l t = true
  cov : ∀ v, held l T v ↔ C v
  top : ∀ x, isNode l x = true → (∀ v, loN l x ≤ v → v ≤ hiN l x → C v) → ∃ t ∈ T, abv t x = true
def layT (l : Nat) (a b : Int) : Nat → Int → List Int
  | 0, x => if hiN l x < a ∨ b < loN l x then [] else [x]
  | h + 1, x => if hiN l x < a ∨ b < loN l x then [] else if a ≤ loN l x ∧ hiN l x ≤ b then [x] else layT l a b h (2 * x) ++ layT l a b h (2 * x + 1)
def ofTiles (l : Nat) (a b : Int) : List Int := layT l a b l 1
def restStep (l : Nat) (o : List Int × Int) (x : Int) : List Int × Int := (if o.2 < loN l x then o.1 ++ ofTiles l o.2 (loN l x - 1) else o.1, hiN l x + 1)
def restF (l : Nat) (T : List Int) : List Int × Int := T.foldl (restStep l) ([], 0)
def restL (l : Nat) (T : List Int) : List Int := if (restF l T).2 ≤ 2 ^ l - 1 then (restF l T).1 ++ ofTiles l (restF l T).2 (2 ^ l - 1) else (restF l T).1
structure RInv (l : Nat) (pre : List Int) (o : List Int × Int) : Prop where
  from0 : 0 ≤ o.2 ∧ o.2 ≤ 2 ^ l
  last : 0 < o.2 → held l pre (o.2 - 1)
  below : ∀ t ∈ pre, hiN l t < o.2
  node : ∀ t ∈ o.1, isNode l t = true
  cov : ∀ v, held l o.1 v ↔ (0 ≤ v ∧ v < o.2) ∧ ¬ held l pre v
  top : ∀ x, isNode l x = true → hiN l x < o.2 → (∀ v, loN l x ≤ v → v ≤ hiN l x → ¬ held l pre v) → ∃ t ∈ o.1, abv t x = true
end Go.Proofs.Ytcjnchjmpkapmaa
/- The ends of the nodes of a roll that fits. -/
namespace Go.Proofs.Ytcjnchjmpkapmaa
open Go.ChangeShapes Go.WideShapes Go.ChangeAt Go.RowKit
set_option linter.unusedVariables false

theorem Fits.nodes {l : Nat} {r : List Nd} (hf : Fits l r) (hl : 1 ≤ l ∧ l ≤ 48) : ∀ x ∈ r, isNode l x.1 = true := by
  intro x hx
  have h1 := (hf.roll.2 x hx).1
  have h2 := hf.lt x hx
  simp only [isNode, decide_eq_true_eq, Int.toNat_natCast]
  omega
end Go.Proofs.Ytcjnchjmpkapmaa
/- What came to a digest, and where it lies: no program in sight. -/
namespace Go.Proofs.Ytcjnchjmpkapmaa
open Go.ChangeShapes Go.WideShapes Go.ChangeAt Go.RowKit
set_option linter.unusedVariables false

structure Tr where
  leaf : Int
  node : Int
  c : Int
def wTr (f : Tr → Bool) : List Tr → Int
  | [] => 0
  | t :: T => (if f t = true then t.c else 0) + wTr f T
def wIds (p : Int → Bool) : List Nd → Int
  | [] => 0
  | x :: r => (if p x.1 = true then x.2 else 0) + wIds p r
theorem weighR_ids (l : Int) (f : Int → Int → Bool) (r : List Nd) : weighR l f r = wIds (fun id => f (endsOf l id).1 (endsOf l id).2.1) r := by
  induction r with
  | nil => rfl
  | cons x r ih => simp only [weighR, wIds, ih]
theorem sumR_ids (r : List Nd) : sumR r = wIds (fun _ => true) r := by
  induction r with
  | nil => rfl
  | cons x r ih => simp only [sumR, wIds, ih]; simp
theorem wTr_nonneg {T : List Tr} (h : ∀ t ∈ T, 1 ≤ t.c) (f : Tr → Bool) : 0 ≤ wTr f T := by
  induction T with
  | nil => simp [wTr]
  | cons t T ih =>
    have h1 := h t (by simp)
    have h2 := ih fun u hu => h u (by simp [hu])
    simp only [wTr]
    split <;> omega
theorem wTr_le {T : List Tr} (h : ∀ t ∈ T, 1 ≤ t.c) {f g : Tr → Bool} (hfg : ∀ t ∈ T, f t = true → g t = true) : wTr f T ≤ wTr g T := by
  induction T with
  | nil => simp [wTr]
  | cons t T ih =>
    have h1 := h t (by simp)
    have h2 := ih (fun u hu => h u (by simp [hu])) fun u hu => hfg u (by simp [hu])
    have h3 := hfg t (by simp)
    simp only [wTr]
    by_cases hf : f t = true
    · rw [if_pos hf, if_pos (h3 hf)]; omega
    · rw [if_neg hf]; split <;> omega
theorem wTr_split (g : Tr → Bool) (k : Tr → Int) (a : Int) (T : List Tr) : wTr g T = wTr (fun t => g t && (k t == a)) T + wTr g (T.filter fun t => k t != a) := by
  induction T with
  | nil => rfl
  | cons t T ih =>
    simp only [wTr, List.filter_cons, ih]
    by_cases hk : k t = a
    · simp [hk]; omega
    · simp [hk, wTr]; omega
theorem wTr_key (p : Int → Bool) (k : Tr → Int) (a : Int) (T : List Tr) : wTr (fun t => p (k t) && (k t == a)) T = if p a = true then wTr (fun t => k t == a) T else 0 := by
  induction T with
  | nil => simp [wTr]
  | cons t T ih =>
    simp only [wTr, ih]
    by_cases hk : k t = a
    · subst hk
      by_cases hp : p (k t) = true
      · simp [hp]
      · simp [hp]
    · have : (k t == a) = false := by simpa using hk
      simp only [this, Bool.and_false, Bool.false_eq_true, if_false, Int.zero_add]
theorem wTr_none {T : List Tr} {f : Tr → Bool} (h : ∀ t ∈ T, f t = false) : wTr f T = 0 := by
  induction T with
  | nil => rfl
  | cons t T ih => simp only [wTr, h t (by simp), ih fun u hu => h u (by simp [hu])]; simp
theorem wIds_tr (p : Int → Bool) (k : Tr → Int) {r : List Nd} : ∀ (T : List Tr), Roll r → (∀ t ∈ T, 1 ≤ t.c) → (∀ id, getR r id = wTr (fun t => k t == id) T) → wIds p r = wTr (fun t => p (k t)) T := by
  induction r with
  | nil =>
    intro T _ hT h
    cases T with
    | nil => rfl
    | cons t T =>
      have h1 := h (k t)
      have h2 := wTr_nonneg (fun u hu => hT u (by simp [hu])) (fun u => k u == k t) (T := T)
      have h3 := hT t (by simp)
      simp only [getR, wTr, BEq.rfl, if_true] at h1
      omega
  | cons x r ih =>
    intro T hr hT h
    have h1 := h x.1
    simp only [getR, if_true] at h1
    rw [wTr_split (fun t => p (k t)) k x.1 T, wTr_key]
    simp only [wIds]
    rw [← h1]
    congr 1
    refine ih _ hr.tail (fun t ht => hT t (List.mem_filter.1 ht).1) fun id => ?_
    by_cases hid : id = x.1
    · subst hid
      rw [getR_none (fun y hy => by have := hr.head y hy; omega), wTr_none]
      intro t ht
      have := (List.mem_filter.1 ht).2
      simpa using this
    · have h2 := h id
      simp only [getR] at h2
      rw [if_neg (fun e => hid e.symm)] at h2
      rw [h2, wTr_split (fun t => k t == id) k x.1 T, wTr_none (f := fun t => (k t == id) && (k t == x.1)) (fun t _ => by
        by_cases e : k t = id
        · simp [e, hid]
        · simp [e])]
      simp

def Flow (l : Nat) (r q : List Nd) : Prop := ∃ T : List Tr, (∀ t ∈ T, 1 ≤ t.c) ∧
  (∀ t ∈ T, isNode l t.node = true ∧ isNode l t.leaf = true ∧ (endsOf l t.node).1 ≤ (endsOf l t.leaf).1 ∧ (endsOf l t.leaf).2.1 ≤ (endsOf l t.node).2.1) ∧
  (∀ id, getR r id = wTr (fun t => t.node == id) T) ∧ (∀ id, getR q id = wTr (fun t => t.leaf == id) T)
section
variable {l : Nat} {r q : List Nd}
theorem Flow.nil (l : Nat) : Flow l [] [] := ⟨[], by simp, by simp, fun _ => rfl, fun _ => rfl⟩
theorem Flow.add (h : Flow l r q) (hr : Roll r) (hq : Roll q) {id c : Int} (hid : isNode l id = true) (hc : 1 ≤ c) : Flow l (addR r id c) (addR q id c) := by
  obtain ⟨T, h1, h2, h3, h4⟩ := h
  refine ⟨⟨id, id, c⟩ :: T, ?_, ?_, ?_, ?_⟩
  · intro t ht
    rcases List.mem_cons.1 ht with rfl | ht
    · exact hc
    · exact h1 t ht
  · intro t ht
    rcases List.mem_cons.1 ht with rfl | ht
    · exact ⟨hid, hid, Int.le_refl _, Int.le_refl _⟩
    · exact h2 t ht
  · intro j
    rw [getR_add hr, h3, h3]
    simp only [wTr]
    by_cases e : j = id
    · subst e; simp; omega
    · have : (id == j) = false := by simpa using fun e' => e e'.symm
      rw [if_neg e, this]; simp
  · intro j
    rw [getR_add hq, h4, h4]
    simp only [wTr]
    by_cases e : j = id
    · subst e; simp; omega
    · have : (id == j) = false := by simpa using fun e' => e e'.symm
      rw [if_neg e, this]; simp
theorem Flow.fold (h : Flow l r q) {a b p : Int} {r' : List Nd} (hp : isNode l p = true) (hab : a ≠ b) (hap : a ≠ p) (hbp : b ≠ p) (ha : (endsOf l p).1 ≤ (endsOf l a).1 ∧ (endsOf l a).2.1 ≤ (endsOf l p).2.1) (hb : (endsOf l p).1 ≤ (endsOf l b).1 ∧ (endsOf l b).2.1 ≤ (endsOf l p).2.1)
    (hr : ∀ id, getR r' id = if id = p then getR r p + getR r a + getR r b else if id = a ∨ id = b then 0 else getR r id) : Flow l r' q := by
  obtain ⟨T, h1, h2, h3, h4⟩ := h
  refine ⟨T.map fun t => if t.node = a ∨ t.node = b then { t with node := p } else t, ?_, ?_, ?_, ?_⟩
  · intro t ht
    obtain ⟨u, hu, rfl⟩ := List.mem_map.1 ht
    have := h1 u hu
    split <;> exact this
  · intro t ht
    obtain ⟨u, hu, rfl⟩ := List.mem_map.1 ht
    have := h2 u hu
    split
    · rename_i hn
      refine ⟨hp, this.2.1, ?_, ?_⟩
      · simp only
        rcases hn with hn | hn
        · rw [hn] at this; omega
        · rw [hn] at this; omega
      · simp only
        rcases hn with hn | hn
        · rw [hn] at this; omega
        · rw [hn] at this; omega
    · exact this
  · intro id
    rw [hr, h3, h3, h3, h3]
    clear h1 h2 h3 h4 hr
    induction T with
    | nil => simp [wTr]
    | cons t T ih =>
      simp only [List.map_cons, wTr]
      by_cases i1 : id = p
      · rw [if_pos i1] at ih ⊢
        subst i1
        by_cases ta : t.node = a
        · have e1 : t.node ≠ b := by omega
          have e2 : t.node ≠ id := by omega
          simp [ta, hab, hap]
          omega
        · by_cases tb : t.node = b
          · simp [tb, hbp, fun e : b = a => hab e.symm]
            omega
          · simp [ta, tb]
            by_cases tp : t.node = id
            · simp [tp]; omega
            · simp [tp]; omega
      · rw [if_neg i1] at ih ⊢
        by_cases i2 : id = a ∨ id = b
        · rw [if_pos i2] at ih ⊢
          by_cases t1 : t.node = a ∨ t.node = b
          · rw [if_pos t1]
            have : (p == id) = false := by simpa using fun e => i1 e.symm
            simp only [this]
            simp only [Bool.false_eq_true, if_false]; omega
          · rw [if_neg t1]
            have : (t.node == id) = false := by
              simp only [beq_eq_false_iff_ne, ne_eq]
              rintro rfl; exact t1 i2
            simp only [this, Bool.false_eq_true, if_false]; omega
        · rw [if_neg i2] at ih ⊢
          by_cases t1 : t.node = a ∨ t.node = b
          · rw [if_pos t1]
            have e1 : (p == id) = false := by simpa using fun e => i1 e.symm
            have e2 : (t.node == id) = false := by
              simp only [beq_eq_false_iff_ne, ne_eq]
              rintro rfl; exact i2 t1
            simp only [e1, e2, Bool.false_eq_true, if_false]; omega
          · rw [if_neg t1]; omega
  · intro id
    rw [h4]
    clear h1 h2 h3 h4 hr
    induction T with
    | nil => rfl
    | cons t T ih =>
      simp only [List.map_cons, wTr, ih]
      by_cases hc : t.node = a ∨ t.node = b
      · rw [if_pos hc]
      · rw [if_neg hc]
theorem Flow.sum (h : Flow l r q) (hr : Roll r) (hq : Roll q) : sumR r = sumR q := by
  obtain ⟨T, h1, h2, h3, h4⟩ := h
  rw [sumR_ids, sumR_ids, wIds_tr _ (·.node) T hr h1 h3, wIds_tr _ (·.leaf) T hq h1 h4]
theorem Flow.le (h : Flow l r q) (hr : Roll r) (hq : Roll q) {f g : Int → Int → Bool} (hfg : ∀ lo hi a b, lo ≤ a → b ≤ hi → f lo hi = true → g a b = true) : weighR l f r ≤ weighR l g q := by
  obtain ⟨T, h1, h2, h3, h4⟩ := h
  rw [weighR_ids, weighR_ids, wIds_tr _ (·.node) T hr h1 h3, wIds_tr _ (·.leaf) T hq h1 h4]
  exact wTr_le h1 fun t ht hf => hfg _ _ _ _ (h2 t ht).2.2.1 (h2 t ht).2.2.2 hf
theorem Flow.ge (h : Flow l r q) (hr : Roll r) (hq : Roll q) {f g : Int → Int → Bool} (hfg : ∀ lo hi a b, lo ≤ a → a ≤ b → b ≤ hi → g a b = true → f lo hi = true) : weighR l g q ≤ weighR l f r := by
  obtain ⟨T, h1, h2, h3, h4⟩ := h
  rw [weighR_ids, weighR_ids, wIds_tr _ (·.node) T hr h1 h3, wIds_tr _ (·.leaf) T hq h1 h4]
  exact wTr_le h1 fun t ht hf => hfg _ _ _ _ (h2 t ht).2.2.1 (ends_bounds (h2 t ht).2.1).2.1 (h2 t ht).2.2.2 hf
end

theorem wIds_path {r : List Nd} (hr : Roll r) (p : Int → Bool) (m : Int) : ∀ (path : List Int), (∀ x ∈ r, p x.1 = true → x.1 ∈ path) → (∀ a ∈ path, getR r a ≤ m) → 0 ≤ m → wIds p r ≤ path.length * m := by
  intro path h1 h2 hm
  have key : ∀ (path : List Int) (s : List Nd), Roll s → (∀ x ∈ s, p x.1 = true → x.1 ∈ path) → wIds p s ≤ (path.map (getR s)).sum := by
    intro path
    induction path with
    | nil =>
      intro s hs h
      have : wIds p s = 0 := by
        clear hs
        induction s with
        | nil => rfl
        | cons x s ih =>
          have h0 : p x.1 ≠ true := fun e => by have := h x (by simp) e; simp at this
          simp only [wIds, if_neg h0, ih fun y hy => h y (by simp [hy])]; rfl
      rw [this]; simp
    | cons a path ih =>
      intro s hs h
      have h3 := ih (delR s a) (hs.del a) fun x hx hp => by
        have h4 := h x (delR_sub hx) hp
        rcases List.mem_cons.1 h4 with h5 | h5
        · exfalso
          have h6 := getR_mem (hs.del a) hx
          rw [h5, getR_del hs, if_pos rfl] at h6
          have := ((hs.del a).2 x hx).2
          omega
        · exact h5
      have h7 : wIds p s ≤ getR s a + wIds p (delR s a) := by
        clear ih h h3
        induction s with
        | nil => simp [wIds, getR, delR]
        | cons x s ih =>
          have hx := hs.2 x (by simp)
          simp only [getR, delR]
          by_cases e : x.1 = a
          · rw [if_pos e, if_pos e]
            simp only [wIds]; split <;> omega
          · rw [if_neg e, if_neg e]
            simp only [wIds]
            have := ih hs.tail
            omega
      have h8 : (path.map (getR (delR s a))).sum ≤ (path.map (getR s)).sum := by
        clear ih h h3 h7
        induction path with
        | nil => simp
        | cons b path ih =>
          simp only [List.map_cons, List.sum_cons]
          have := getR_del hs a b
          have h9 := getR_nonneg hs b
          split at this <;> omega
      simp only [List.map_cons, List.sum_cons]
      omega
  refine Int.le_trans (key path r hr h1) ?_
  clear key h1
  induction path with
  | nil => simp
  | cons a path ih =>
    simp only [List.map_cons, List.sum_cons, List.length_cons]
    have h3 := h2 a (by simp)
    have h4 := ih fun b hb => h2 b (by simp [hb])
    push_cast
    rw [Int.add_mul, Int.one_mul]
    omega
def pathOf (l : Nat) (y : Int) : List Int := (List.range l).map fun d => (2 ^ l + y) / 2 ^ (l - d)
theorem pathOf_len (l : Nat) (y : Int) : (pathOf l y).length = l := by simp [pathOf]
theorem on_path {l : Nat} {id y : Int} (h : isNode l id = true) (h1 : (endsOf l id).1 ≤ y) (h2 : y < (endsOf l id).2.1) : id ∈ pathOf l y := by
  obtain ⟨n, x, hn, rfl, hn1, hn2, hx1, hx2⟩ := isNode_nat h
  obtain rfl : n = l := by omega
  obtain ⟨d, b, t, hd, hb, hdb, hxt, htd, hprod⟩ := node_facts hn2 hx1 hx2
  have e1 : endsOf n x = ((t : Int) * 2 ^ b, (t : Int) * 2 ^ b + 2 ^ b - 1, true) := by
    simp only [endsOf, h, if_true, Int.toNat_natCast, hd, hb]
    have : (x : Int) - 2 ^ d = t := by rw [hxt]; push_cast; omega
    rw [this]
  rw [e1] at h1 h2
  simp only at h1 h2
  have hb0 : b ≠ 0 := by rintro rfl; simp at h1 h2; omega
  refine List.mem_map.2 ⟨d, List.mem_range.2 (by omega), ?_⟩
  have hbd : n - d = b := by omega
  rw [hbd]
  have hpb := pow_pos' b
  have e2 : (2 : Int) ^ n = 2 ^ d * 2 ^ b := by rw [← Int.pow_add]; congr 1; omega
  have e3 : (x : Int) = 2 ^ d + t := by rw [hxt]; push_cast; omega
  rw [e2, e3]
  rw [Int.ediv_eq_iff_of_pos hpb]
  rw [Int.add_mul]
  omega
end Go.Proofs.Ytcjnchjmpkapmaa
/- What a digest that is nil tells; the reference's ranks. -/
namespace Go.Proofs.Ytcjnchjmpkapmaa
open Go.ChangeShapes Go.WideShapes Go.ChangeAt Go.RowKit
set_option linter.unusedVariables false
set_option maxRecDepth 100000

end Go.Proofs.Ytcjnchjmpkapmaa
/- The reference of layer 1 (reckon): numbers as digits to the base 1000. -/
namespace Go.Proofs.Ytcjnchjmpkapmaa
open Go.ChangeShapes Go.WideShapes Go.ChangeAt Go.RowKit
set_option linter.unusedVariables false

def encD : Enc Nat 1 := ⟨fun x => [.int .i64 x], fun _ => rfl, by intro x u hu; simp at hu; subst hu; rfl⟩
def dg (l : List Nat) (i : Nat) : Nat := l.getD i 0
def valD : List Nat → Nat
  | [] => 0
  | x :: l => x + 1000 * valD l
def okD (l : List Nat) : Prop := ∀ x ∈ l, x ≤ 999
end Go.Proofs.Ytcjnchjmpkapmaa
/- The reference of layer 1 (reckon): digits multiplied, compared, divided. -/
namespace Go.Proofs.Ytcjnchjmpkapmaa
open Go.ChangeShapes Go.WideShapes Go.ChangeAt Go.RowKit
set_option linter.unusedVariables false

def cmpV (x y : Nat) : Int := if x < y then -1 else if y < x then 1 else 0
end Go.Proofs.Ytcjnchjmpkapmaa
/- The reference of layer 1 (reckon): a part of a number. -/
namespace Go.Proofs.Ytcjnchjmpkapmaa
open Go.ChangeShapes Go.WideShapes Go.ChangeAt Go.RowKit
set_option linter.unusedVariables false

end Go.Proofs.Ytcjnchjmpkapmaa
/- Long division by two digits: the plain law. No program in sight. -/
namespace Go.Proofs.Ytcjnchjmpkapmaa
set_option linter.unusedVariables false
set_option maxRecDepth 100000

section
variable {a c u d q rh : Nat}
end
end Go.Proofs.Ytcjnchjmpkapmaa
/- math/bits: Div64. -/
namespace Go.Proofs.Ytcjnchjmpkapmaa
open Go.ChangeShapes Go.WideShapes Go.ChangeAt Go.RowKit
set_option linter.unusedVariables false
set_option maxRecDepth 100000

structure DivFacts (hi lo y s a c u x1 x0 : Nat) : Prop where
  s63 : s ≤ 63
  eY : y * 2 ^ s = a * 4294967296 + c
  a1 : 2147483648 ≤ a
  a2 : a < 4294967296
  lc : c < 4294967296
  eu : u = hi * 2 ^ s + lo / 2 ^ (64 - s)
  uY : u < a * 4294967296 + c
  et : lo * 2 ^ s % 18446744073709551616 = x1 * 4294967296 + x0
  l1 : x1 < 4294967296
  l0 : x0 < 4294967296
structure Guess (a c u d q rh : Nat) : Prop where
  eq : q * a + rh = u
  ge : (u * 4294967296 + d) / (a * 4294967296 + c) ≤ q
  rh : rh < 4294967296
section
variable {a c u d q rh : Nat}
end
end Go.Proofs.Ytcjnchjmpkapmaa
/- A part of a number: package reckon, and the reference of layer 1. -/
namespace Go.Proofs.Ytcjnchjmpkapmaa
open Go.ChangeShapes Go.WideShapes Go.ChangeAt Go.RowKit
set_option linter.unusedVariables false
set_option maxRecDepth 100000

def upV (a b c : Nat) : Nat := a * b / c + if a * b % c = 0 then 0 else 1
end Go.Proofs.Ytcjnchjmpkapmaa
/- Package reach: Between. -/
namespace Go.Proofs.Ytcjnchjmpkapmaa
open Go.ChangeShapes Go.WideShapes Go.ChangeAt Go.RowKit
set_option linter.unusedVariables false
set_option maxRecDepth 100000

def inLow (a b lo hi : Int) : Bool := decide (a ≤ lo) && decide (hi ≤ b)
def inHigh (a b lo hi : Int) : Bool := decide (lo ≤ b) && decide (a ≤ hi)
def betwLow (l : Int) (r : List Nd) (a b : Int) : Int := weighR l (inLow a b) r
def betwHigh (l : Int) (r : List Nd) (a b : Int) : Int := weighR l (inHigh a b) r
theorem weighR_one (l : Int) (f : Int → Int → Bool) (x : Nd) : weighR l f [x] = if f (endsOf l x.1).1 (endsOf l x.1).2.1 = true then x.2 else 0 := by simp only [weighR]; simp
theorem weighR_take {l : Int} {f : Int → Int → Bool} {r : List Nd} {q : Nat} (h : q < r.length) : weighR l f (r.take (q + 1)) = weighR l f (r.take q) + if f (endsOf l r[q].1).1 (endsOf l r[q].1).2.1 = true then r[q].2 else 0 := by
  rw [List.take_succ_eq_append_getElem h, weighR_append, weighR_one]

theorem le_or_dec (a b : Int) : a ≤ b ∨ decide (a ≤ b) = false := by
  by_cases h : a ≤ b
  · exact .inl h
  · exact .inr (decide_eq_false h)
theorem reach_Between1 (w : World) (id l a b : Int) (p q s : Nat) (hid : id ≤ 9223372036854775807) (h1 : w.cell? ⟨p, 0, none⟩ = some (.int .i64 l)) (h2 : w.cell? ⟨q, 0, none⟩ = some (.int .i64 a)) (h3 : w.cell? ⟨s, 0, none⟩ = some (.int .i64 b)) :
    Calls Try.prog 15 #[.int .i64 id, .pointer (some ⟨p, 0, none⟩), .pointer (some ⟨q, 0, none⟩), .pointer (some ⟨s, 0, none⟩)] w fun e w' => e = .returned (.tuple #[.bool (inLow a b (endsOf l id).1 (endsOf l id).2.1), .bool (inHigh a b (endsOf l id).1 (endsOf l id).2.1)]) ∧ Below w.heap.size w w' := by
  have HE := Lib.hid (twig_Ends · l id hid)
  have zq := lt_of_cell h2
  have zs := lt_of_cell h3
  generalize endsOf l id = t at HE ⊢
  obtain ⟨lo, hi, ok⟩ := t
  unfold endsV at HE
  simp only [inLow, inHigh]
  have H2 := Lib.hid h2
  have H3 := Lib.hid h3
  clear h2 h3
  rcases le_or_dec a lo with k1 | k1
  all_goals rcases le_or_dec lo b with k2 | k2
  all_goals (
    go_enter Try.func15, Try.ntmps15
    go_wp2_with fail
    refine (HE.out _).mono ?_
    rintro e w1 ⟨rfl, hb1⟩
    have B1 : Below w.heap.size w w1 := Below.then_ (by repeat (first | with_reducible exact Below.refl _ _ | with_reducible assumption | ((with_reducible refine Below.setCell ?_ ?_ _); rotate_left; · (first | omega | exact Nat.le_refl _ | (simp <;> omega))) | (with_reducible refine Below.allocW ?_ _) | (with_reducible refine Below.drew ?_) | (with_reducible refine Below.extW ?_ _))) hb1
    have s1 : w.heap.size ≤ w1.heap.size := B1.size
    have c2 := (hb1.cell (p := ⟨q, 0, none⟩) zq).trans H2.out
    have c3 := (hb1.cell (p := ⟨s, 0, none⟩) zs).trans H3.out
    have z2 := Nat.lt_of_lt_of_le zq s1
    have z3 := Nat.lt_of_lt_of_le zs s1
    go_wp2_with fail
    refine wp_region_ext (by kernel_rfl) (by kernel_rfl) ?_
    repeat (go_big_quiet_step (fail))
    refine wpQuiet_nil ?_
    intro w2 hb2
    replace hb2 := below_of_ext hb2
    have B2 : Below w.heap.size w w2 := Below.then_ (by repeat (first | with_reducible exact Below.refl _ _ | with_reducible assumption | ((with_reducible refine Below.setCell ?_ ?_ _); rotate_left; · (first | omega | exact Nat.le_refl _ | (simp <;> omega))) | (with_reducible refine Below.allocW ?_ _) | (with_reducible refine Below.drew ?_) | (with_reducible refine Below.extW ?_ _))) hb2
    have s2 : w.heap.size ≤ w2.heap.size := B2.size
    go_wp2_with fail
    go_ret2
    exact ⟨by simp [k1, k2], B2⟩)

def bothAt (w : World) (b : Nat) (lo hi : Int) : Prop := w.heap[b]? = some (.cells #[.int .i64 lo, .int .i64 hi] 35 (0, 0))
theorem bothAt.below {w w' : World} {b : Nat} {lo hi : Int} (h : bothAt w b lo hi) (hb : Below w.heap.size w w') : bothAt w' b lo hi := blk_below h hb
theorem bothAt.alloc {w : World} {b : Nat} {lo hi : Int} (h : bothAt w b lo hi) (o : Obj) : bothAt (w.alloc o) b lo hi := h.below ((Below.refl _ _).alloc (Nat.le_refl _) o)
theorem bothAt.set0 {w : World} {b : Nat} {lo hi : Int} (h : bothAt w b lo hi) (x : Int) : bothAt (w.setCell ⟨b, 0, none⟩ (.int .i64 x)) b x hi := heap_set_at (i := 0) h _
theorem bothAt.set1 {w : World} {b : Nat} {lo hi : Int} (h : bothAt w b lo hi) (x : Int) : bothAt (w.setCell ⟨b, 1, none⟩ (.int .i64 x)) b lo x := heap_set_at (i := 1) h _
theorem bothAt.set {w : World} {b q o : Nat} {lo hi : Int} (h : bothAt w b lo hi) (hne : b ≠ q) (u : Value) : bothAt (w.setCell ⟨q, o, none⟩ u) b lo hi := (Below.heap_setCell _ _ _ _ hne).trans h
theorem bothAt.new (w : World) (lo hi : Int) : bothAt (w.alloc (.cells #[.int .i64 lo, .int .i64 hi] 35)) w.heap.size lo hi := heap_alloc_new _ _

set_option maxHeartbeats 2000000 in
theorem sum_Between (w : World) (g K l : Nat) (k : Int) (r : List Nd) (F : Nat → Prop) (a b : Int) (p q s : Nat) (h : DigAt w g K l k r F) (hn : r.length ≤ 67108864) (h1 : w.cell? ⟨p, 0, none⟩ = some (.int .i64 l)) (h2 : w.cell? ⟨q, 0, none⟩ = some (.int .i64 a)) (h3 : w.cell? ⟨s, 0, none⟩ = some (.int .i64 b)) :
    Calls Try.prog 14 #[.pointer (some ⟨g, 0, none⟩), .func (.func 15) #[] #[.pointer (some ⟨p, 0, none⟩), .pointer (some ⟨q, 0, none⟩), .pointer (some ⟨s, 0, none⟩)]] w fun e w' => e = .returned (.agg #[.int .i64 (betwLow l r a b), .int .i64 (betwHigh l r a b)]) ∧ Below w.heap.size w w' := by
  have hf := h.fits
  have hll := h.l_le
  have HD := Lib.hid h
  have z1 := lt_of_cell h1
  have z2 := lt_of_cell h2
  have z3 := lt_of_cell h3
  have H1 := Lib.hid h1
  have H2 := Lib.hid h2
  have H3 := Lib.hid h3
  clear h h1 h2 h3
  go_enter Try.func14, Try.ntmps14
  go_wp2_with fail
  have B0 : Below w.heap.size w ((w.alloc (.cells #[.int .i64 0, .int .i64 0] 35)).alloc (.cells #[.int .i64 0, .int .i64 0] 35)) := (by repeat (first | with_reducible exact Below.refl _ _ | with_reducible assumption | ((with_reducible refine Below.setCell ?_ ?_ _); rotate_left; · (first | omega | exact Nat.le_refl _ | (simp <;> omega))) | (with_reducible refine Below.allocW ?_ _) | (with_reducible refine Below.drew ?_) | (with_reducible refine Below.extW ?_ _)))
  have K0 := Lib.hid ((bothAt.new w 0 0).alloc (.cells #[.int .i64 0, .int .i64 0] 35))
  have K1 := Lib.hid (bothAt.new (w.alloc (.cells #[.int .i64 0, .int .i64 0] 35)) 0 0)
  simp only [World.size_alloc] at K1
  refine (digest_Nodes _ g K l k r F (HD.out.below B0) hn).mono ?_
  rintro e w2 ⟨v, rfl, ho, hb2⟩
  have B2 : Below w.heap.size w w2 := Below.then_ (by repeat (first | with_reducible exact Below.refl _ _ | with_reducible assumption | ((with_reducible refine Below.setCell ?_ ?_ _); rotate_left; · (first | omega | exact Nat.le_refl _ | (simp <;> omega))) | (with_reducible refine Below.allocW ?_ _) | (with_reducible refine Below.drew ?_) | (with_reducible refine Below.extW ?_ _))) hb2
  have s2 : w.heap.size ≤ w2.heap.size := B2.size
  have HO := Lib.hid ho
  simp only [World.size_alloc] at HO
  have M0 := Lib.hid (K0.out.below hb2)
  have M1 := Lib.hid (K1.out.below hb2)
  have z0 : w.heap.size + 2 ≤ w2.heap.size := by have := hb2.size; simp at this; omega
  obtain ⟨A, cap, rfl, _⟩ := ho.form
  clear ho K0 K1 hb2 B0
  go_wp2_with fail
  go_loopw [13] (fun i wr => ∃ q : Nat, q ≤ r.length ∧ i = .int .i64 q ∧ bothAt wr w.heap.size 0 0 ∧ bothAt wr (w.heap.size + 1) (betwLow l (r.take q) a b) (betwHigh l (r.take q) a b) ∧ Own wr (w.heap.size + 1 + 1) 45 encN (.slice A r.length cap) r ∧ Below w.heap.size w wr) (fun i _ => r.length - (intOf i).toNat)
  case atStart => exact ⟨0, Nat.zero_le _, rfl, M0.out, M1.out, HO.out, B2⟩
  case round =>
    obtain ⟨j, hj, rfl, hm0, hm1, hown, hB⟩ := hrel
    have KO := Lib.hid hown
    have N0 := Lib.hid hm0
    have N1 := Lib.hid hm1
    have hs := hB.size
    have zn1 := lt_of_block hm1
    clear hown hm0
    by_cases hlt : j < r.length
    · obtain ⟨c, off, rfl, hc, hcl⟩ := KO.out.sl.at_ hlt
      have d0 := hcl 0 (.int .i64 r[j].1) rfl
      have d1 := hcl 1 (.int .i64 r[j].2) rfl
      simp only [Nat.add_zero] at d0
      have hx := hf.roll.2 _ (List.getElem_mem hlt)
      have hxl := hf.lt _ (List.getElem_mem hlt)
      have e1 := sumR_take_succ hlt
      have e2 := sumR_take_le hf.roll (j + 1)
      have e3 := hf.sum
      have e5 := weighR_le (l := l) (f := inLow a b) (hf.roll.take j)
      have e6 := weighR_le (l := l) (f := inHigh a b) (hf.roll.take j)
      have E7 : betwLow l (r.take (j + 1)) a b = _ := weighR_take hlt
      have E8 : betwHigh l (r.take (j + 1)) a b = _ := weighR_take hlt
      have hp := pow_48 (n := l) hll.2
      unfold betwLow at hm1 N1 E7 ⊢
      unfold betwHigh at hm1 N1 E8 ⊢
      obtain ⟨x, hxe⟩ : ∃ x, x = r[j] := ⟨_, rfl⟩
      rw [← hxe] at d0 d1 hx hxl e1 E7 E8
      have n2 : weighR l (inLow a b) (r.take j) + x.2 ≤ 72057594037927935 := by omega
      have n3 : weighR l (inHigh a b) (r.take j) + x.2 ≤ 72057594037927935 := by omega
      have n0 := e5.1
      have n1 := e6.1
      have hx1 : x.1 ≤ 562949953421312 := by omega
      have hx2 := hx.2
      have HC := Lib.hid (fun W => reach_Between1 W x.1 l a b p q s (by omega))
      generalize weighR l (inLow a b) (r.take j) = m at n0 n2 E7 hm1 N1
      generalize weighR l (inHigh a b) (r.take j) = n at n1 n3 E8 hm1 N1
      generalize inLow a b (endsOf l x.1).1 (endsOf l x.1).2.1 = bl at E7 HC
      generalize inHigh a b (endsOf l x.1).1 (endsOf l x.1).2.1 = bh at E8 HC
      have E7 := Lib.hid E7
      have E8 := Lib.hid E8
      clear hcl e1 e2 e3 e5 e6 hxe hxl hp hx hm1
      go_wp2_with fail
      have W3 : Below w.heap.size w (wr.alloc (.cells #[.int .i64 x.1, .int .i64 x.2] 45)) := hB.alloc hs _
      refine (HC.out _ ((W3.cell (p := ⟨p, 0, none⟩) z1).trans H1.out) ((W3.cell (p := ⟨q, 0, none⟩) z2).trans H2.out) ((W3.cell (p := ⟨s, 0, none⟩) z3).trans H3.out)).mono ?_
      rintro e w4 ⟨rfl, hb4⟩
      have B4 : Below w.heap.size w w4 := Below.then_ (by repeat (first | with_reducible exact Below.refl _ _ | with_reducible assumption | ((with_reducible refine Below.setCell ?_ ?_ _); rotate_left; · (first | omega | exact Nat.le_refl _ | (simp <;> omega))) | (with_reducible refine Below.allocW ?_ _) | (with_reducible refine Below.drew ?_) | (with_reducible refine Below.extW ?_ _))) hb4
      have s4 : w.heap.size ≤ w4.heap.size := B4.size
      have z4_0 : wr.heap.size < w4.heap.size := by have := hb4.size; (try simp at this); omega
      have y4_0 : wr.heap.size ≤ w4.heap.size := Nat.le_of_lt z4_0
      have c4_0 := fun o => hb4.cell (p := ⟨wr.heap.size, o, none⟩) (by first | omega | (simp <;> omega))
      have f4_0 := fun o => hb4.frozen (p := ⟨wr.heap.size, o, none⟩) (by first | omega | (simp <;> omega))
      have L0 := Lib.hid ((N0.out.alloc _).below hb4)
      have l1 := (N1.out.alloc _).below hb4
      have L1 := Lib.hid l1
      have LO := Lib.hid ((KO.out.alloc _).below hb4)
      have cc := blk_cell l1
      have cf := blk_frozen l1
      have zz := lt_of_block l1
      have hne : w.heap.size ≠ w.heap.size + 1 := by omega
      clear l1 hb4
      cases bl
      all_goals cases bh
      all_goals (
        go_wp2_with fail
        go_roundw
        case rel =>
          have F7 := E7.out
          have F8 := E8.out
          simp only [Bool.false_eq_true, if_false, if_true, Int.add_zero, reduceIte] at F7 F8
          refine ⟨j + 1, by omega, by go_num, ?_, ?_, ?_, (by repeat (first | with_reducible exact Below.refl _ _ | with_reducible assumption | ((with_reducible refine Below.setCell ?_ ?_ _); rotate_left; · (first | omega | exact Nat.le_refl _ | (simp <;> omega))) | (with_reducible refine Below.allocW ?_ _) | (with_reducible refine Below.drew ?_) | (with_reducible refine Below.extW ?_ _)))⟩
          · first
              | exact L0.out
              | exact L0.out.set hne _
              | exact (L0.out.set hne _).set hne _
          · rw [F7, F8]
            first
              | exact L1.out
              | exact L1.out.set0 _
              | exact L1.out.set1 _
              | exact (L1.out.set0 _).set1 _
          · first
              | exact LO.out
              | exact LO.out.setCellB (by simp only; omega)
              | exact (LO.out.setCellB (by simp only; omega)).setCellB (by simp only; omega)
        case measure => simp [intOf]; omega)
    · obtain rfl : j = r.length := by omega
      rw [List.take_length] at N1 hm1
      have cc := blk_cell hm1
      have cf0 := blk_frozen N0.out
      have cc0 := blk_cell N0.out
      have zn0 := lt_of_block N0.out
      clear hm1
      go_wp2_with fail
      exact bodyPost_ret (v := .agg #[.int .i64 (betwLow l r a b), .int .i64 (betwHigh l r a b)]) (by simp only [results, Try.results14]; go_simp) rfl ⟨rfl, (by repeat (first | with_reducible exact Below.refl _ _ | with_reducible assumption | ((with_reducible refine Below.setCell ?_ ?_ _); rotate_left; · (first | omega | exact Nat.le_refl _ | (simp <;> omega))) | (with_reducible refine Below.allocW ?_ _) | (with_reducible refine Below.drew ?_) | (with_reducible refine Below.extW ?_ _)))⟩
end Go.Proofs.Ytcjnchjmpkapmaa
