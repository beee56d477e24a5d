/-
  Texts of this proof, one behind the other: HeldLaw, DigOps, RegionN, SensorMake, CloneD, CloneP, Clone, SensorOps, Rises, VaryLaw, ReadLaw, SortK, TabLaw, Made, Wire, DigReset, OpenSide, Made2, Reach2, Table, Bag, BagPut, BagAdd, BagMake, Ref10.
-/
import Derived.Deep.RegionWith
import Derived.Deep.DeepCutAuto
import Derived.Deep.RegionHeld3
import Derived.Deep.RegionLaw
import Derived.Laws.CopyOwn
import Derived.Shelf.SlSortCmp.NoneTotal
import Derived.Shelf.SlSorted.Search
import Derived.Shelf.Spec.SlicesInsert
import Derived.Test.YtgjaopfjffncbaaGreatP1
import Derived.Test.YtgjaopfjffncbaaGreatP2
import Derived.Test.YtgjaopfjffncbaaGreatP3
import Derived.Test.YtgjaopfjffncbaaGreatP4
/- What a digest of calls holds, and the bag of all that was accepted. Plain laws. -/
set_option linter.unusedSimpArgs false namespace Go.Proofs.YtgjaopfjffncbaaGreat
open Go.ChangeShapes Go.WideShapes Go.ChangeAt Go.RowKit
set_option linter.unusedVariables false

/-- What an insertion tells. -/
def insErr (l : Nat) (r : List Nd) (x c : Int) : Int := if isVal l x = false then 3 else if c < 1 then 4 else if 72057594037927935 < sumR r + c then 5 else 0
/-- Ahead of an insertion: is there no room, it is folded. -/
def PreTo (l : Nat) (k : Int) (r : List Nd) (id : Int) (s : List Nd) : Prop :=
  (getR r id = 0 ∧ 8 * k ≤ r.length ∧ ∃ ps, RunTo l (sumR r / k) r ps s) ∨ (¬ (getR r id = 0 ∧ 8 * k ≤ r.length) ∧ s = r)
/-- What an insertion leaves. -/
def InsTo (l : Nat) (k : Int) (r : List Nd) (x c : Int) (r' : List Nd) : Prop :=
  (insErr l r x c ≠ 0 ∧ r' = r) ∨ (insErr l r x c = 0 ∧ ∃ s, PreTo l k r (2 ^ l + x) s ∧ r' = addR s (2 ^ l + x) c)
/-- A call: its kind, a value, a weight. -/
abbrev Op3 := Int × Int × Int
/-- What a call leaves, and tells. -/
def DoTo (l : Nat) (k : Int) (r : List Nd) (o : Op3) (r' : List Nd) (n : Int) : Prop :=
  (o.1 = 1 ∧ ∃ ps, RunTo l (sumR r / k) r ps r' ∧ n = ps.length) ∨ (o.1 = 2 ∧ r' = [] ∧ n = 0) ∨ (o.1 ≠ 1 ∧ o.1 ≠ 2 ∧ InsTo l k r o.2.1 o.2.2 r' ∧ n = insErr l r o.2.1 o.2.2)
theorem ins_ok {l : Nat} {r : List Nd} {x c : Int} (h : insErr l r x c = 0) : isVal l x = true ∧ 1 ≤ c ∧ sumR r + c ≤ 72057594037927935 := by
  unfold insErr at h
  split at h
  · omega
  · rename_i h1
    split at h
    · omega
    · split at h
      · omega
      · exact ⟨by simpa using h1, by omega, by omega⟩
theorem isVal_iff {l : Nat} {x : Int} : isVal l x = true ↔ 0 ≤ x ∧ x < 2 ^ l := by simp [isVal]
theorem PreTo.same {l : Nat} {k : Int} {r s : List Nd} {id : Int} (h : PreTo l k r id s) (hf : Fits l r) : Fits l s ∧ sumR s = sumR r ∧ s.length ≤ r.length := by
  rcases h with ⟨_, _, ps, h⟩ | ⟨_, rfl⟩
  · exact ⟨h.folded.fits hf, h.folded.sum hf, h.folded.len hf⟩
  · exact ⟨hf, rfl, Nat.le_refl _⟩
theorem DoTo.len {l : Nat} {k : Int} {r r' : List Nd} {o : Op3} {n : Int} (h : DoTo l k r o r' n) (hf : Fits l r) : r'.length ≤ r.length + 1 := by
  rcases h with ⟨_, ps, h, _⟩ | ⟨_, rfl, _⟩ | ⟨_, _, h, _⟩
  · have := h.folded.len hf; omega
  · simp
  · rcases h with ⟨_, rfl⟩ | ⟨_, s, h, rfl⟩
    · omega
    · have := (h.same hf).2.2
      have := addR_len s (2 ^ l + o.2.1) o.2.2
      omega
/-- A digest's roll, and the bag of all that was accepted. -/
structure Held (l : Nat) (k : Int) (r m : List Nd) : Prop where
  fits : Fits l r
  flow : Flow l r (leaves l m)
  bag : BagL l m
  light : lightOf l r k = true
theorem Held.nil (l : Nat) (k : Int) : Held l k [] [] := ⟨Fits.nil l, Flow.nil l, .nil l, rfl⟩
section
variable {l : Nat} {k : Int} {r m : List Nd}
theorem Held.sum (h : Held l k r m) : sumR r = sumR m := by
  rw [h.flow.sum h.fits.roll (leaves_roll h.bag), leaves_sum]
theorem Held.run (h : Held l k r m) {ps : List Int} {s : List Nd} (hR : RunTo l (sumR r / k) r ps s) : Held l k s m :=
  ⟨hR.folded.fits h.fits, hR.folded.flow h.fits h.flow, h.bag, hR.folded.light h.fits h.light⟩
theorem Held.pre (h : Held l k r m) {id : Int} {s : List Nd} (hp : PreTo l k r id s) : Held l k s m := by
  rcases hp with ⟨_, _, ps, hp⟩ | ⟨_, rfl⟩
  · exact h.run hp
  · exact h
theorem leaf_inner {l : Nat} {x : Int} (h0 : 0 ≤ x) : (kidsOf l (2 ^ l + x)).2.2 = false := by
  rw [← Bool.not_eq_true, kids_iff]
  omega
theorem Held.add (h : Held l k r m) (hl : 1 ≤ l ∧ l ≤ 48) (hk : 1 ≤ k) {x c : Int} (h0 : 0 ≤ x) (h1 : x < 2 ^ l) (hc : 1 ≤ c) (hs : sumR r + c ≤ 72057594037927935) : Held l k (addR r (2 ^ l + x) c) (addR m x c) := by
  have hp := pow_pos' l
  refine ⟨h.fits.add (by omega) (by omega) hc hs, ?_, h.bag.add h0 h1 hc (by rw [← h.sum]; exact hs), add_light h.fits.roll hk h.light hc (leaf_inner h0)⟩
  rw [leaves_add]
  exact h.flow.add h.fits.roll (leaves_roll h.bag) (leaf_node hl h0 h1).1 hc
/-- What is in the bag behind a call. -/
def bagDo (l : Nat) (m : List Nd) (o : Op3) (n : Int) : List Nd := if o.1 = 2 then [] else if o.1 ≠ 1 ∧ n = 0 then (addB l m o.2.1 o.2.2).1 else m
theorem Held.do_ (h : Held l k r m) (hl : 1 ≤ l ∧ l ≤ 48) (hk : 1 ≤ k) {o : Op3} {r' : List Nd} {n : Int} (hd : DoTo l k r o r' n) : Held l k r' (bagDo l m o n) := by
  unfold bagDo
  rcases hd with ⟨h1, ps, hR, _⟩ | ⟨h1, rfl, _⟩ | ⟨h1, h2, hI, hn⟩
  · rw [if_neg (by omega), if_neg (by omega)]; exact h.run hR
  · rw [if_pos h1]; exact .nil l k
  · rw [if_neg h2]
    rcases hI with ⟨h3, rfl⟩ | ⟨h3, s, hp, rfl⟩
    · rw [if_neg (by rw [hn]; exact fun h => h3 h.2)]; exact h
    · rw [if_pos ⟨h1, by rw [hn]; exact h3⟩]
      obtain ⟨v1, v2, v3⟩ := ins_ok h3
      obtain ⟨w1, w2⟩ := isVal_iff.1 v1
      have hm : sumR m + o.2.2 ≤ 72057594037927935 := by rw [← h.sum]; exact v3
      have e : (addB l m o.2.1 o.2.2).1 = addR m o.2.1 o.2.2 := by
        unfold Go.Proofs.YtgjaopfjffncbaaGreat.addB
        rw [if_neg (by simp [v1]), if_neg (by omega), if_neg (by omega)]
      rw [e]
      exact (h.pre hp).add hl hk w1 w2 v2 (by rw [(hp.same h.fits).2.1]; exact v3)
theorem bagDo_len (l : Nat) (m : List Nd) (o : Op3) (n : Int) : (bagDo l m o n).length ≤ m.length + 1 := by
  unfold bagDo
  have := addB_len l m o.2.1 o.2.2
  split
  · simp
  · split <;> omega
/-- The rank. -/
theorem Held.rank (h : Held l k r m) (hl : 1 ≤ l ∧ l ≤ 48) (hk : 1 ≤ k) (y : Int) : lowOf l r y ≤ betwB m 0 y ∧ betwB m 0 y ≤ highOf l r y ∧ highOf l r y - lowOf l r y ≤ l * (sumR m / k) := by
  have hq := leaves_roll h.bag
  have h1 := rank_holds h.flow h.fits.roll hq y
  rw [leaves_rank hl fun x hx => ⟨(h.bag.val x hx).1, (h.bag.val x hx).2.1⟩] at h1
  have h0 : 0 ≤ sumR r / k := Int.ediv_nonneg (sumR_nonneg h.fits.roll) (by omega)
  have h2 := around_le h.fits.roll (h.fits.nodes hl) h.light h0 hl y
  rw [h.sum] at h2
  exact ⟨h1.1, h1.2, by rw [high_low (h.fits.nodes hl)]; exact h2⟩
/-- Nodes that touch a range, and aren't in it, hold what is ahead of it, or its last value and more. -/
theorem range_le {l : Nat} {r : List Nd} (hr : Roll r) (hn : ∀ x ∈ r, isNode l x.1 = true) {a b : Int} (hab : a ≤ b) : betwHigh l r a b - betwLow l r a b ≤ weighR l (around (a - 1)) r + weighR l (around b) r := by
  unfold betwHigh betwLow
  induction r with
  | nil => simp [weighR]
  | cons x r ih =>
    have h1 := ih hr.tail fun z hz => hn z (by simp [hz])
    have h2 := ends_bounds (hn x (by simp))
    have h3 := (hr.2 x (by simp)).2
    simp only [weighR]
    have key : (if inHigh a b (endsOf l x.1).1 (endsOf l x.1).2.1 = true then x.2 else 0) - (if inLow a b (endsOf l x.1).1 (endsOf l x.1).2.1 = true then x.2 else 0)
        ≤ (if around (a - 1) (endsOf l x.1).1 (endsOf l x.1).2.1 = true then x.2 else 0) + (if around b (endsOf l x.1).1 (endsOf l x.1).2.1 = true then x.2 else 0) := by
      simp only [inHigh, inLow, around, Bool.and_eq_true, decide_eq_true_eq]
      repeat' split
      all_goals omega
    omega
theorem Held.betw (h : Held l k r m) (hl : 1 ≤ l ∧ l ≤ 48) (hk : 1 ≤ k) {a b : Int} (hab : a ≤ b) : betwLow l r a b ≤ betwB m a b ∧ betwB m a b ≤ betwHigh l r a b ∧ betwHigh l r a b - betwLow l r a b ≤ 2 * l * (sumR m / k) := by
  have hq := leaves_roll h.bag
  have e := leaves_betw hl (m := m) (fun x hx => ⟨(h.bag.val x hx).1, (h.bag.val x hx).2.1⟩) a b
  unfold bagB at e
  have h0 : 0 ≤ sumR r / k := Int.ediv_nonneg (sumR_nonneg h.fits.roll) (by omega)
  have g1 := around_le h.fits.roll (h.fits.nodes hl) h.light h0 hl (a - 1)
  have g2 := around_le h.fits.roll (h.fits.nodes hl) h.light h0 hl b
  have g3 := range_le h.fits.roll (h.fits.nodes hl) hab
  rw [h.sum] at g1 g2
  refine ⟨?_, ?_, ?_⟩
  · rw [← e]
    refine h.flow.le h.fits.roll hq ?_
    intro lo hi x y h1 h2 h3
    simp only [inLow, Bool.and_eq_true, decide_eq_true_eq] at *
    omega
  · rw [← e]
    refine h.flow.ge h.fits.roll hq ?_
    intro lo hi x y h1 h2 h3 h4
    simp only [inLow, inHigh, Bool.and_eq_true, decide_eq_true_eq] at *
    omega
  · have : (2 : Int) * l * (sumR m / k) = l * (sumR m / k) + l * (sumR m / k) := by rw [Int.mul_assoc, Int.two_mul]
    omega
end
end Go.Proofs.YtgjaopfjffncbaaGreat
/- Package digest: Len, Room, Cap, Compress, Reset, Insert. -/
namespace Go.Proofs.YtgjaopfjffncbaaGreat
open Go.ChangeShapes Go.WideShapes Go.ChangeAt Go.RowKit
set_option linter.unusedVariables false
set_option linter.unusedSimpArgs false
set_option maxRecDepth 100000

/-- What a call that writes to a digest leaves. -/
def DigTo (w : World) (g K l : Nat) (k : Int) (s : List Nd) (F : Nat → Prop) (w' : World) : Prop := ∃ F', DigAt w' g K l k s F' ∧ Turn F w w' ∧ Grow w F F'
theorem DigTo.below {w : World} {g K l : Nat} {k : Int} {s : List Nd} {F : Nat → Prop} {w' : World} (h : DigAt w g K l k s F) (hb : Below w.heap.size w w') : DigTo w g K l k s F w' := ⟨F, h.below hb, .of_below hb, Grow.refl⟩
/-- The pool's blocks don't hold the digest's own. -/
theorem PoolAt.not_dig {w : World} {p K l g : Nat} {r : List Nd} {F : Nat → Prop} (h : PoolAt w p K l r F) {cs : Array Value} (hh : w.heap[g]? = some (.cells cs 122 (0, 0))) : ¬ F g := fun hf => by
  obtain ⟨t, ht, ha⟩ := h.typed g hf
  have := typeAt_eq ha (.of hh)
  subst this
  rcases ht with h | h | h | h | h <;> revert h <;> decide
/-- A roll's digest, its pool known. -/
theorem DigAt.parts {w : World} {g K l : Nat} {k : Int} {r : List Nd} {F : Nat → Prop} (h : DigAt w g K l k r F) : ∃ p F0, F = footP g F0 ∧ w.heap[g]? = some (.cells #[.int .i64 k, .pointer (some ⟨p, 0, none⟩)] 122 (0, 0)) ∧ PoolAt w p K l r F0 ∧ ¬ F0 g ∧ 1 ≤ k ∧ k ≤ 1048576 := by
  obtain ⟨h1, h2, p, F0, hF, hh, hP⟩ := h
  exact ⟨p, F0, hF, hh, hP, hP.not_dig hh, h1, h2⟩
theorem digest_Len (w : World) (g K l : Nat) (k : Int) (r : List Nd) (F : Nat → Prop) (h : DigAt w g K l k r F) : Calls Tryz.prog 104 #[.pointer (some ⟨g, 0, none⟩)] w fun e w' => e = .returned (.int .i64 r.length) ∧ Below w.heap.size w w' := by
  obtain ⟨h1, h2, p, F0, rfl, hh, hP⟩ := h
  have c := blk_cell hh
  have z := lt_of_block hh
  have HP := Lib.hid hP
  clear hh hP
  go_enter Tryz.func104, Tryz.ntmps104
  go_wp2_with fail
  refine (pool_Len _ p K l r F0 HP.out).mono ?_
  rintro e w1 ⟨rfl, hb1⟩
  have B1 : Below w.heap.size w w1 := Below.then_ (by repeat (first | with_reducible exact Below.refl _ _ | with_reducible assumption | ((with_reducible refine Below.setCell ?_ ?_ _); rotate_left; · (first | omega | exact Nat.le_refl _ | (simp <;> omega))) | (with_reducible refine Below.allocW ?_ _) | (with_reducible refine Below.drew ?_) | (with_reducible refine Below.extW ?_ _))) hb1
  have s1 : w.heap.size ≤ w1.heap.size := B1.size
  go_wp2_with fail
  go_ret
  exact ⟨rfl, (by repeat (first | with_reducible exact Below.refl _ _ | with_reducible assumption | ((with_reducible refine Below.setCell ?_ ?_ _); rotate_left; · (first | omega | exact Nat.le_refl _ | (simp <;> omega))) | (with_reducible refine Below.allocW ?_ _) | (with_reducible refine Below.drew ?_) | (with_reducible refine Below.extW ?_ _)))⟩
theorem made_room (w : World) (k : Int) (h1 : 1 ≤ k) (h2 : k ≤ 1048576) : Calls Tryz.prog 105 #[.agg #[.int .i64 k]] w fun e w' => e = .returned (.int .i64 (8 * k)) ∧ Below w.heap.size w w' := by
  go_enter Tryz.func105, Tryz.ntmps105
  go_wp2_with fail
  go_ret
  exact ⟨rfl, (by repeat (first | with_reducible exact Below.refl _ _ | with_reducible assumption | ((with_reducible refine Below.setCell ?_ ?_ _); rotate_left; · (first | omega | exact Nat.le_refl _ | (simp <;> omega))) | (with_reducible refine Below.allocW ?_ _) | (with_reducible refine Below.drew ?_) | (with_reducible refine Below.extW ?_ _)))⟩
/-- What Compress leaves, and tells. -/
def CompPost (g K l : Nat) (k : Int) (r : List Nd) (F : Nat → Prop) (w : World) (e : Ending) (w' : World) : Prop :=
  ∃ (ps : List Int) (s : List Nd), e = .returned (.int .i64 ps.length) ∧ RunTo l (sumR r / k) r ps s ∧ DigTo w g K l k s F w'
theorem digest_Compress (w : World) (g K l : Nat) (k : Int) (r : List Nd) (F : Nat → Prop) (h : DigAt w g K l k r F) (hn : r.length ≤ 67108864) :
    Calls Tryz.prog 88 #[.pointer (some ⟨g, 0, none⟩)] w (CompPost g K l k r F w) := by
  obtain ⟨h1, h2, p, F0, rfl, hh, hP⟩ := h
  have hgF := hP.not_dig hh
  have c := blk_cell hh
  have z := lt_of_block hh
  have HR := Lib.hid (fun W h => press_Run W p K l r F0 h hn k h1 h2)
  have HP := Lib.hid hP
  have HH := Lib.hid hh
  unfold CompPost
  generalize sumR r / k = most at HR ⊢
  clear hh hP
  go_enter Tryz.func88, Tryz.ntmps88
  go_upto_region 3 with fail
  go_region_with (first
    | (go_at_call 140; refine (HR.out w.drew (HP.out.keep fun _ _ => rfl)).mono ?_; rintro e w1 ⟨ps, s, rfl, hR, _, F1, hP1, hT, hG⟩; have HE : Hid (RunTo l most r ps s ∧ DigTo w g K l k s (footP g F0) w1) := Lib.hid ⟨hR, footP g F1, ⟨h1, h2, p, F1, rfl, hT.keep (w := w.drew) HH.out hgF, hP1⟩, ((Turn.refl _ w).drew.trans hT Grow.refl).mono (fun b _ hb => .inr hb), hG.foot (w := w.drew)⟩; clear hR hP1 hT hG))
  all_goals
    clear c z
    go_wp2_with fail
    go_ret
    exact ⟨ps, s, rfl, HE.out⟩
theorem digest_Insert (w : World) (g K l : Nat) (k : Int) (r : List Nd) (F : Nat → Prop) (h : DigAt w g K l k r F) (hn : r.length ≤ 67108864) (x c : Int) :
    Calls Tryz.prog 56 #[.pointer (some ⟨g, 0, none⟩), .int .i64 x, .int .i64 c] w fun e w' => ∃ r', e = .returned (.int .i64 (insErr l r x c)) ∧ InsTo l k r x c r' ∧ DigTo w g K l k r' F w' := by
  have hD := Lib.hid h
  have hll := h.l_le
  have hCo := Lib.hid (fun W h => digest_Compress W g K l k r F h hn)
  have hLn := Lib.hid (fun W h => digest_Len W g K l k r F h)
  obtain ⟨h1, h2, p, F0, hFe, hh, hP⟩ := h
  have s0 := sumR_nonneg hP.fits.roll
  have s1 := hP.fits.sum
  have HL := Lib.hid (fun W h => pool_L W p K l r F0 h)
  have HT := Lib.hid (fun W h => pool_Total W p K l r F0 h)
  have HLf := Lib.hid (fun W => twig_Leaf W l x hll.1 hll.2)
  have HP := Lib.hid hP
  have c0 := blk_cell hh
  have z0 := lt_of_block hh
  cases hv : isVal l x
  · have e1 : insErr l r x c = 3 := by unfold insErr; rw [if_pos hv]
    have HE : Hid (InsTo l k r x c r) := Lib.hid (.inl ⟨by rw [e1]; omega, rfl⟩)
    rw [e1]
    rw [leafV_no hv] at HLf
    clear hh hP hv e1
    go_enter Tryz.func56, Tryz.ntmps56
    go_wp2_with fail
    refine (HL.out _ HP.out).mono ?_
    rintro e w1 ⟨rfl, hb1⟩
    have B1 : Below w.heap.size w w1 := Below.then_ (by repeat (first | with_reducible exact Below.refl _ _ | with_reducible assumption | ((with_reducible refine Below.setCell ?_ ?_ _); rotate_left; · (first | omega | exact Nat.le_refl _ | (simp <;> omega))) | (with_reducible refine Below.allocW ?_ _) | (with_reducible refine Below.drew ?_) | (with_reducible refine Below.extW ?_ _))) hb1
    have s1 : w.heap.size ≤ w1.heap.size := B1.size
    have z1_0 : g < w1.heap.size := by have := hb1.size; (try simp at this); omega
    have y1_0 : g ≤ w1.heap.size := Nat.le_of_lt z1_0
    have c1_0 := fun o => hb1.cell (p := ⟨g, o, none⟩) (by first | omega | (simp <;> omega))
    have f1_0 := fun o => hb1.frozen (p := ⟨g, o, none⟩) (by first | omega | (simp <;> omega))
    go_wp2_with fail
    refine (HLf.out _).mono ?_
    rintro e w2 ⟨rfl, hb2⟩
    have B2 : Below w.heap.size w w2 := Below.then_ (by repeat (first | with_reducible exact Below.refl _ _ | with_reducible assumption | ((with_reducible refine Below.setCell ?_ ?_ _); rotate_left; · (first | omega | exact Nat.le_refl _ | (simp <;> omega))) | (with_reducible refine Below.allocW ?_ _) | (with_reducible refine Below.drew ?_) | (with_reducible refine Below.extW ?_ _))) hb2
    have s2 : w.heap.size ≤ w2.heap.size := B2.size
    have z2_0 : g < w2.heap.size := by have := hb2.size; (try simp at this); omega
    have y2_0 : g ≤ w2.heap.size := Nat.le_of_lt z2_0
    have c2_0 := fun o => hb2.cell (p := ⟨g, o, none⟩) (by first | omega | (simp <;> omega))
    have f2_0 := fun o => hb2.frozen (p := ⟨g, o, none⟩) (by first | omega | (simp <;> omega))
    go_wp2_with fail
    go_ret
    exact ⟨r, rfl, HE.out, .below hD.out B2⟩
  · rw [leafV_yes hv] at HLf
    by_cases hc : c < 1
    · have e1 : insErr l r x c = 4 := by unfold insErr; rw [if_neg (by simp [hv]), if_pos hc]
      have HE : Hid (InsTo l k r x c r) := Lib.hid (.inl ⟨by rw [e1]; omega, rfl⟩)
      rw [e1]
      clear hh hP hv e1
      go_enter Tryz.func56, Tryz.ntmps56
      go_wp2_with fail
      refine (HL.out _ HP.out).mono ?_
      rintro e w1 ⟨rfl, hb1⟩
      have B1 : Below w.heap.size w w1 := Below.then_ (by repeat (first | with_reducible exact Below.refl _ _ | with_reducible assumption | ((with_reducible refine Below.setCell ?_ ?_ _); rotate_left; · (first | omega | exact Nat.le_refl _ | (simp <;> omega))) | (with_reducible refine Below.allocW ?_ _) | (with_reducible refine Below.drew ?_) | (with_reducible refine Below.extW ?_ _))) hb1
      have s1 : w.heap.size ≤ w1.heap.size := B1.size
      have z1_0 : g < w1.heap.size := by have := hb1.size; (try simp at this); omega
      have y1_0 : g ≤ w1.heap.size := Nat.le_of_lt z1_0
      have c1_0 := fun o => hb1.cell (p := ⟨g, o, none⟩) (by first | omega | (simp <;> omega))
      have f1_0 := fun o => hb1.frozen (p := ⟨g, o, none⟩) (by first | omega | (simp <;> omega))
      go_wp2_with fail
      refine (HLf.out _).mono ?_
      rintro e w2 ⟨rfl, hb2⟩
      have B2 : Below w.heap.size w w2 := Below.then_ (by repeat (first | with_reducible exact Below.refl _ _ | with_reducible assumption | ((with_reducible refine Below.setCell ?_ ?_ _); rotate_left; · (first | omega | exact Nat.le_refl _ | (simp <;> omega))) | (with_reducible refine Below.allocW ?_ _) | (with_reducible refine Below.drew ?_) | (with_reducible refine Below.extW ?_ _))) hb2
      have s2 : w.heap.size ≤ w2.heap.size := B2.size
      have z2_0 : g < w2.heap.size := by have := hb2.size; (try simp at this); omega
      have y2_0 : g ≤ w2.heap.size := Nat.le_of_lt z2_0
      have c2_0 := fun o => hb2.cell (p := ⟨g, o, none⟩) (by first | omega | (simp <;> omega))
      have f2_0 := fun o => hb2.frozen (p := ⟨g, o, none⟩) (by first | omega | (simp <;> omega))
      go_wp2_with fail
      go_ret
      exact ⟨r, rfl, HE.out, .below hD.out B2⟩
    · have hc' : decide (c < 1) = false := by simpa using hc
      by_cases hs : 72057594037927935 < sumR r + c
      · have e1 : insErr l r x c = 5 := by unfold insErr; rw [if_neg (by simp [hv]), if_neg hc, if_pos hs]
        have HE : Hid (InsTo l k r x c r) := Lib.hid (.inl ⟨by rw [e1]; omega, rfl⟩)
        rw [e1]
        generalize sumR r = n at hs s0 s1 HT
        have hs2 : 72057594037927935 - n < c := by omega
        clear hh hP hv e1 hs hc
        go_enter Tryz.func56, Tryz.ntmps56
        go_wp2_with fail
        refine (HL.out _ HP.out).mono ?_
        rintro e w1 ⟨rfl, hb1⟩
        have B1 : Below w.heap.size w w1 := Below.then_ (by repeat (first | with_reducible exact Below.refl _ _ | with_reducible assumption | ((with_reducible refine Below.setCell ?_ ?_ _); rotate_left; · (first | omega | exact Nat.le_refl _ | (simp <;> omega))) | (with_reducible refine Below.allocW ?_ _) | (with_reducible refine Below.drew ?_) | (with_reducible refine Below.extW ?_ _))) hb1
        have s1 : w.heap.size ≤ w1.heap.size := B1.size
        have z1_0 : g < w1.heap.size := by have := hb1.size; (try simp at this); omega
        have y1_0 : g ≤ w1.heap.size := Nat.le_of_lt z1_0
        have c1_0 := fun o => hb1.cell (p := ⟨g, o, none⟩) (by first | omega | (simp <;> omega))
        have f1_0 := fun o => hb1.frozen (p := ⟨g, o, none⟩) (by first | omega | (simp <;> omega))
        go_wp2_with fail
        refine (HLf.out _).mono ?_
        rintro e w2 ⟨rfl, hb2⟩
        have B2 : Below w.heap.size w w2 := Below.then_ (by repeat (first | with_reducible exact Below.refl _ _ | with_reducible assumption | ((with_reducible refine Below.setCell ?_ ?_ _); rotate_left; · (first | omega | exact Nat.le_refl _ | (simp <;> omega))) | (with_reducible refine Below.allocW ?_ _) | (with_reducible refine Below.drew ?_) | (with_reducible refine Below.extW ?_ _))) hb2
        have s2 : w.heap.size ≤ w2.heap.size := B2.size
        have z2_0 : g < w2.heap.size := by have := hb2.size; (try simp at this); omega
        have y2_0 : g ≤ w2.heap.size := Nat.le_of_lt z2_0
        have c2_0 := fun o => hb2.cell (p := ⟨g, o, none⟩) (by first | omega | (simp <;> omega))
        have f2_0 := fun o => hb2.frozen (p := ⟨g, o, none⟩) (by first | omega | (simp <;> omega))
        go_wp2_with fail
        have P2 := Lib.hid (HP.out.below B2)
        refine (HT.out _ P2.out).mono ?_
        rintro e w3 ⟨rfl, hb3⟩
        have B3 : Below w.heap.size w w3 := Below.then_ (by repeat (first | with_reducible exact Below.refl _ _ | with_reducible assumption | ((with_reducible refine Below.setCell ?_ ?_ _); rotate_left; · (first | omega | exact Nat.le_refl _ | (simp <;> omega))) | (with_reducible refine Below.allocW ?_ _) | (with_reducible refine Below.drew ?_) | (with_reducible refine Below.extW ?_ _))) hb3
        have s3 : w.heap.size ≤ w3.heap.size := B3.size
        go_wp2_with fail
        go_ret
        exact ⟨r, rfl, HE.out, .below hD.out B3⟩
      · have e1 : insErr l r x c = 0 := by unfold insErr; rw [if_neg (by simp [hv]), if_neg hc, if_neg hs]
        have hE : ∀ s, PreTo l k r (2 ^ l + x) s → InsTo l k r x c (addR s (2 ^ l + x) c) := fun s hp => .inr ⟨e1, s, hp, rfl⟩
        have HE := Lib.hid hE
        rw [e1]
        obtain ⟨v1, v2, v3⟩ := ins_ok e1
        obtain ⟨y1, y2⟩ := isVal_iff.1 v1
        have hpw := pow_pos' l
        have hp48 := pow_48 hll.2
        obtain ⟨id, hid⟩ : ∃ id : Nat, (2 : Int) ^ l + x = id := ⟨(2 ^ l + x).toNat, by omega⟩
        have hid1 : 1 ≤ id := by omega
        have hid2 : id < 2 * 2 ^ l := by
          have : (id : Int) < 2 * 2 ^ l := by omega
          exact_mod_cast this
        rw [hid] at HLf HE
        have HG := Lib.hid (fun W h => pool_Get W p K l r F0 h id)
        have HPre := Lib.hid (fun s (h : PreTo l k r id s) => h.same hP.fits)
        have HAdd := Lib.hid (fun W q s F' (hs : PreTo l k r id s) h => pool_Add W q K l s F' h id hid1 hid2 c (by omega) (by rw [(hs.same hP.fits).2.1]; omega) (by have := (hs.same hP.fits).2.2; omega))
        have HC1 : Hid (∀ ps s, getR r id = 0 → 8 * k ≤ r.length → RunTo l (sumR r / k) r ps s → PreTo l k r id s) := Lib.hid fun ps s a b h => .inl ⟨a, b, ps, h⟩
        have HC2 : Hid (¬ (getR r id = 0 ∧ 8 * k ≤ r.length) → PreTo l k r id r) := Lib.hid fun h => .inr ⟨h, rfl⟩
        have hs2 : decide (72057594037927935 - sumR r < c) = false := by simp; omega
        have hlr : (r.length : Int) ≤ 67108864 := by omega
        have HFe := Lib.hid hFe
        have HH := Lib.hid hh
        generalize sumR r = n at hs2 s0 s1 HT
        obtain ⟨gt, hgt⟩ : ∃ gt, gt = getR r id := ⟨_, rfl⟩
        rw [← hgt] at HG HC1 HC2
        clear hh hP hv e1 hs hc v1 v2 v3 y1 y2 hpw hp48 hid hid1 hid2 hE hgt HPre hFe
        go_enter Tryz.func56, Tryz.ntmps56
        go_wp2_with fail
        refine (HL.out _ HP.out).mono ?_
        rintro e w1 ⟨rfl, hb1⟩
        have B1 : Below w.heap.size w w1 := Below.then_ (by repeat (first | with_reducible exact Below.refl _ _ | with_reducible assumption | ((with_reducible refine Below.setCell ?_ ?_ _); rotate_left; · (first | omega | exact Nat.le_refl _ | (simp <;> omega))) | (with_reducible refine Below.allocW ?_ _) | (with_reducible refine Below.drew ?_) | (with_reducible refine Below.extW ?_ _))) hb1
        have s1 : w.heap.size ≤ w1.heap.size := B1.size
        have z1_0 : g < w1.heap.size := by have := hb1.size; (try simp at this); omega
        have y1_0 : g ≤ w1.heap.size := Nat.le_of_lt z1_0
        have c1_0 := fun o => hb1.cell (p := ⟨g, o, none⟩) (by first | omega | (simp <;> omega))
        have f1_0 := fun o => hb1.frozen (p := ⟨g, o, none⟩) (by first | omega | (simp <;> omega))
        go_wp2_with fail
        refine (HLf.out _).mono ?_
        rintro e w2 ⟨rfl, hb2⟩
        have B2 : Below w.heap.size w w2 := Below.then_ (by repeat (first | with_reducible exact Below.refl _ _ | with_reducible assumption | ((with_reducible refine Below.setCell ?_ ?_ _); rotate_left; · (first | omega | exact Nat.le_refl _ | (simp <;> omega))) | (with_reducible refine Below.allocW ?_ _) | (with_reducible refine Below.drew ?_) | (with_reducible refine Below.extW ?_ _))) hb2
        have s2 : w.heap.size ≤ w2.heap.size := B2.size
        have z2_0 : g < w2.heap.size := by have := hb2.size; (try simp at this); omega
        have y2_0 : g ≤ w2.heap.size := Nat.le_of_lt z2_0
        have c2_0 := fun o => hb2.cell (p := ⟨g, o, none⟩) (by first | omega | (simp <;> omega))
        have f2_0 := fun o => hb2.frozen (p := ⟨g, o, none⟩) (by first | omega | (simp <;> omega))
        go_wp2_with fail
        have P2 := Lib.hid (HP.out.below B2)
        refine (HT.out _ P2.out).mono ?_
        rintro e w3 ⟨rfl, hb3⟩
        have B3 : Below w.heap.size w w3 := Below.then_ (by repeat (first | with_reducible exact Below.refl _ _ | with_reducible assumption | ((with_reducible refine Below.setCell ?_ ?_ _); rotate_left; · (first | omega | exact Nat.le_refl _ | (simp <;> omega))) | (with_reducible refine Below.allocW ?_ _) | (with_reducible refine Below.drew ?_) | (with_reducible refine Below.extW ?_ _))) hb3
        have s3 : w.heap.size ≤ w3.heap.size := B3.size
        have z3_0 : g < w3.heap.size := by have := hb3.size; (try simp at this); omega
        have y3_0 : g ≤ w3.heap.size := Nat.le_of_lt z3_0
        have c3_0 := fun o => hb3.cell (p := ⟨g, o, none⟩) (by first | omega | (simp <;> omega))
        have f3_0 := fun o => hb3.frozen (p := ⟨g, o, none⟩) (by first | omega | (simp <;> omega))
        have P3 := Lib.hid (HP.out.below B3)
        have D3 := Lib.hid (hD.out.below B3)
        have BB3 := Lib.hid B3
        clear hb1 hb2 hb3 B1 B2 B3 P2
        by_cases h0 : gt = 0
        · subst h0
          by_cases h8 : 8 * k ≤ r.length
          · have HC3 := Lib.hid (fun ps s h => HC1.out ps s rfl h8 h)
            clear HC1 HC2
            go_wp2_with fail
            refine wp_region_ext (by kernel_rfl) (by kernel_rfl) ?_
            repeat (go_big_quiet_step (first | (go_at_call 103; exact quiet_ext (HG.out _ (P3.out.below (ext_below _ _)))) | (go_at_call 104; exact quiet_ext (hLn.out _ (D3.out.below (ext_below _ _)))) | (go_at_call 105; exact quiet_ext (made_room _ k h1 h2))))
            refine wpQuiet_nil ?_
            intro w4 hb4
            replace hb4 := below_of_ext hb4
            have D4 := Lib.hid (D3.out.below hb4)
            have B4 := Lib.hid (BB3.out.trans (hb4.mono BB3.out.size))
            clear hb4 P3 D3 BB3
            go_wp2_with fail
            refine (hCo.out w4 D4.out).mono ?_
            rintro e w5 ⟨ps, s, rfl, hR, F5, hD5, hT5, hG5⟩
            have HPs := Lib.hid (HC3.out ps s hR)
            replace hT5 : Turn F w w5 := (Turn.of_below B4.out).trans hT5 Grow.refl
            replace hG5 : Grow w F F5 := fun b hb => (hG5 b hb).imp (fun h => h) fun h => Nat.le_trans B4.out.size h
            clear hR D4 B4
            obtain ⟨p5, F05, rfl, hh5, hP5, hgF5, _, _⟩ := hD5.parts
            have P5 := Lib.hid hP5
            have H5 := Lib.hid hh5
            have T5 := Lib.hid hT5
            have G5 := Lib.hid hG5
            have c5 := blk_cell hh5
            have z5 := lt_of_block hh5
            clear hD5 hP5 hh5 hT5 hG5 c0 z0
            go_wp2_with fail
            refine (HAdd.out w5 p5 s F05 HPs.out P5.out).mono ?_
            rintro e w6 ⟨F6, rfl, hP6, hT6, hG6⟩
            have HF : Hid (DigTo w g K l k (addR s id c) F w6) := Lib.hid ⟨footP g F6, ⟨h1, h2, p5, F6, rfl, hT6.keep H5.out hgF5, hP6⟩, T5.out.trans (hT6.mono fun b _ hb => .inr hb) G5.out, G5.out.trans hG6.foot T5.out.size⟩
            clear hP6 hT6 hG6 c5 z5
            go_wp2_with fail
            go_ret
            exact ⟨_, rfl, HE.out s HPs.out, HF.out⟩
          · have HPs0 := Lib.hid (HC2.out fun h => h8 h.2)
            have h8' : decide (8 * k ≤ (r.length : Int)) = false := by simpa using h8
            obtain ⟨s, hs⟩ : ∃ s, s = r := ⟨_, rfl⟩
            have HPs : Hid (PreTo l k r id s) := Lib.hid (by rw [hs]; exact HPs0.out)
            clear HPs0
            clear HC1 HC2 h8
            go_wp2_with fail
            refine wp_region_ext (by kernel_rfl) (by kernel_rfl) ?_
            repeat (go_big_quiet_step (first | (go_at_call 103; exact quiet_ext (HG.out _ (P3.out.below (ext_below _ _)))) | (go_at_call 104; exact quiet_ext (hLn.out _ (D3.out.below (ext_below _ _)))) | (go_at_call 105; exact quiet_ext (made_room _ k h1 h2))))
            refine wpQuiet_nil ?_
            intro w5 hb4
            replace hb4 := below_of_ext hb4
            have hT5 : Turn F w w5 := Turn.of_below (BB3.out.trans (hb4.mono BB3.out.size))
            obtain ⟨F5, hF5⟩ : ∃ F5, F5 = F := ⟨_, rfl⟩
            have hG5 : Grow w F F5 := by rw [hF5]; exact Grow.refl
            have hD5 := D3.out.below hb4
            rw [← hF5] at hD5
            clear hF5
            clear hb4 P3 D3 BB3
            rw [← hs] at hD5
            obtain ⟨p5, F05, rfl, hh5, hP5, hgF5, _, _⟩ := hD5.parts
            have P5 := Lib.hid hP5
            have H5 := Lib.hid hh5
            have T5 := Lib.hid hT5
            have G5 := Lib.hid hG5
            have c5 := blk_cell hh5
            have z5 := lt_of_block hh5
            clear hD5 hP5 hh5 hT5 hG5 c0 z0
            go_wp2_with fail
            refine (HAdd.out w5 p5 s F05 HPs.out P5.out).mono ?_
            rintro e w6 ⟨F6, rfl, hP6, hT6, hG6⟩
            have HF : Hid (DigTo w g K l k (addR s id c) F w6) := Lib.hid ⟨footP g F6, ⟨h1, h2, p5, F6, rfl, hT6.keep H5.out hgF5, hP6⟩, T5.out.trans (hT6.mono fun b _ hb => .inr hb) G5.out, G5.out.trans hG6.foot T5.out.size⟩
            clear hP6 hT6 hG6 c5 z5
            go_wp2_with fail
            go_ret
            exact ⟨_, rfl, HE.out s HPs.out, HF.out⟩
        · have HPs0 := Lib.hid (HC2.out fun h => h0 h.1)
          have h0' : (gt == 0) = false := by simpa using h0
          obtain ⟨s, hs⟩ : ∃ s, s = r := ⟨_, rfl⟩
          have HPs : Hid (PreTo l k r id s) := Lib.hid (by rw [hs]; exact HPs0.out)
          clear HPs0
          clear HC1 HC2 h0
          go_wp2_with fail
          refine wp_region_ext (by kernel_rfl) (by kernel_rfl) ?_
          repeat (go_big_quiet_step (first | (go_at_call 103; exact quiet_ext (HG.out _ (P3.out.below (ext_below _ _)))) | (go_at_call 104; exact quiet_ext (hLn.out _ (D3.out.below (ext_below _ _)))) | (go_at_call 105; exact quiet_ext (made_room _ k h1 h2))))
          refine wpQuiet_nil ?_
          intro w5 hb4
          replace hb4 := below_of_ext hb4
          have hT5 : Turn F w w5 := Turn.of_below (BB3.out.trans (hb4.mono BB3.out.size))
          obtain ⟨F5, hF5⟩ : ∃ F5, F5 = F := ⟨_, rfl⟩
          have hG5 : Grow w F F5 := by rw [hF5]; exact Grow.refl
          have hD5 := D3.out.below hb4
          rw [← hF5] at hD5
          clear hF5
          clear hb4 P3 D3 BB3
          rw [← hs] at hD5
          obtain ⟨p5, F05, rfl, hh5, hP5, hgF5, _, _⟩ := hD5.parts
          have P5 := Lib.hid hP5
          have H5 := Lib.hid hh5
          have T5 := Lib.hid hT5
          have G5 := Lib.hid hG5
          have c5 := blk_cell hh5
          have z5 := lt_of_block hh5
          clear hD5 hP5 hh5 hT5 hG5 c0 z0
          go_wp2_with fail
          refine (HAdd.out w5 p5 s F05 HPs.out P5.out).mono ?_
          rintro e w6 ⟨F6, rfl, hP6, hT6, hG6⟩
          have HF : Hid (DigTo w g K l k (addR s id c) F w6) := Lib.hid ⟨footP g F6, ⟨h1, h2, p5, F6, rfl, hT6.keep H5.out hgF5, hP6⟩, T5.out.trans (hT6.mono fun b _ hb => .inr hb) G5.out, G5.out.trans hG6.foot T5.out.size⟩
          clear hP6 hT6 hG6 c5 z5
          go_wp2_with fail
          go_ret
          exact ⟨_, rfl, HE.out s HPs.out, HF.out⟩
theorem dig_pool {w : World} {g K l : Nat} {k : Int} {r : List Nd} {F : Nat → Prop} (h : DigAt w g K l k r F) : isPool K l = true := by
  obtain ⟨_, _, p, F0, rfl, _, a, b, _, q, F1, _, hk⟩ := h
  simp only [isPool, decide_eq_true_eq]
  rcases hk with ⟨hk, h16, _⟩ | ⟨hk, _⟩ <;> omega
end Go.Proofs.YtgjaopfjffncbaaGreat
/- A region that draws its order: loads are taken first under a condition S, which the operations in X, behind all of these loads, need not keep. -/
namespace Go.Proofs.YtgjaopfjffncbaaGreat
open Go.RowKit

section
variable {P : Program} {md : Region.Mode} {ops : Array Oper} {Q : Exit → Act → World → Prop} {S : World → Prop} {X : List Nat}
/-- Whatever order is picked from here on, and S holds behind every operation that isn't in X. -/
def wpAnyN (P : Program) (md : Region.Mode) (ops : Array Oper) (Q : Exit → Act → World → Prop) (S : World → Prop) (X : List Nat) : Nat → Array Bool → Act → World → Prop
  | 0, listed, a, w => Region.ready md ops listed = [] ∧ Q .normal a w
  | fuel + 1, listed, a, w =>
    (Region.ready md ops listed = [] → Q .normal a w) ∧
    ∀ i ∈ Region.ready md ops listed, wpOp P ops Q i (fun a' w' => (i ∉ X → S w → S w') ∧ wpAnyN P md ops Q S X fuel (listed.setIfInBounds i true) a' w') a w
theorem wpAny_of_N : ∀ (fuel : Nat) (listed : Array Bool) (a : Act) (w : World), wpAnyN P md ops Q S X fuel listed a w → wpAny P md ops Q fuel listed a w
  | 0, _, _, _, h => h
  | fuel + 1, _, _, _, h => ⟨h.1, fun i hi => wpOp_mono (fun a' w' h' => wpAny_of_N fuel _ a' w' h'.2) (h.2 i hi)⟩
theorem wpAnyN_first {i : Nat} {oi : Oper} {v : Value} (hi : ops[i]? = some oi) (hsel : ∀ (j : Nat) (o : Oper) cs b, ops[j]? = some o → o.op ≠ .select cs b)
    (hQ : ∀ c a w, Q (.panic c) (a.put oi.dst v) w → Q (.panic c) a w) (hX : ∀ j ∈ X, ∃ o, ops[j]? = some o ∧ ∃ e ∈ o.after, Region.binds md e = true ∧ e.on = i) :
    ∀ (fuel : Nat) (listed : Array Bool) (a : Act) (w : World),
      (∀ j oj, ops[j]? = some oj → j ≠ i → listed.getD j true = false → (∀ e ∈ oj.after, Region.binds md e = true → e.on ≠ i) → oi.apart ops oj = true) →
      i ∈ Region.ready md ops listed → YieldsIf P ops S oi v a → S w →
      wpAnyN P md ops Q S X fuel (listed.setIfInBounds i true) (a.put oi.dst v) w → wpAnyN P md ops Q S X (fuel + 1) listed a w := by
  intro fuel
  induction fuel with
  | zero =>
    intro listed a w _ hr hy hS H
    refine ⟨fun h => (by rw [h] at hr; cases hr), fun j hj => ?_⟩
    by_cases hji : j = i
    · subst hji; exact hy.wpOp hi hS ⟨fun _ h => h, H⟩
    · have := ready_mono hj hji
      rw [H.1] at this
      cases this
  | succ fuel ih =>
    intro listed a w hfree hr hy hS H
    refine ⟨fun h => (by rw [h] at hr; cases hr), fun j hj => ?_⟩
    by_cases hji : j = i
    · subst hji; exact hy.wpOp hi hS ⟨fun _ h => h, H⟩
    · have h1 := H.2 j (ready_mono hj hji)
      obtain ⟨hjun, oj, hoj, hall⟩ := mem_ready.1 hj
      have hnot : ∀ e ∈ oj.after, Region.binds md e = true → e.on ≠ i := fun e he hb heq => by
        have h1 := hall e he hb
        have h0 := (mem_ready.1 hr).1
        rw [heq] at h1
        rcases Nat.lt_or_ge i listed.size with h' | h'
        · simp [h'] at h0 h1; rw [h0] at h1; cases h1
        · simp [Array.getElem?_eq_none h'] at h1
      have hjX : j ∉ X := fun hx => by
        obtain ⟨o, ho, e, he, hb, hon⟩ := hX j hx
        have : o = oj := Option.some.inj (ho.symm.trans hoj)
        subst this
        exact hnot e he hb hon
      have h2 := wpOp_putIf hoj (hfree j oj hoj hji hjun hnot) (fun cs b => hsel i oi cs b hi) (fun cs b => hsel j oj cs b hoj) hQ hy h1
      have hfree' : ∀ k ok, ops[k]? = some ok → k ≠ i → (listed.setIfInBounds j true).getD k true = false →
          (∀ e ∈ ok.after, Region.binds md e = true → e.on ≠ i) → oi.apart ops ok = true := fun k ok hk hki hun hno => by
        refine hfree k ok hk hki ?_ hno
        by_cases hjk : j = k
        · subst hjk; exact hjun
        · rw [getD_set_ne true hjk] at hun; exact hun
      refine wpOp_mono (fun a' w' h3 => ⟨h3.2.1, ih (listed.setIfInBounds j true) a' w' hfree' (ready_mono hr (Ne.symm hji)) h3.1 (h3.2.1 hjX hS) ?_⟩) h2
      rw [Array.setIfInBounds_comm _ _ hji]
      exact h3.2.2
theorem wpAnyN_first0 {i : Nat} {oi : Oper} {v : Value} (hi : ops[i]? = some oi) (hsel : ∀ (j : Nat) (o : Oper) cs b, ops[j]? = some o → o.op ≠ .select cs b)
    (hQ : ∀ c a w, Q (.panic c) (a.put oi.dst v) w → Q (.panic c) a w) :
    ∀ (fuel : Nat) (listed : Array Bool) (a : Act) (w : World),
      (∀ j oj, ops[j]? = some oj → j ≠ i → listed.getD j true = false → (∀ e ∈ oj.after, Region.binds md e = true → e.on ≠ i) → oi.apart ops oj = true) →
      i ∈ Region.ready md ops listed → YieldsIf P ops (fun _ => True) oi v a →
      wpAnyN P md ops Q S X fuel (listed.setIfInBounds i true) (a.put oi.dst v) w → wpAnyN P md ops Q S X (fuel + 1) listed a w := by
  intro fuel
  induction fuel with
  | zero =>
    intro listed a w _ hr hy H
    refine ⟨fun h => (by rw [h] at hr; cases hr), fun j hj => ?_⟩
    by_cases hji : j = i
    · subst hji; exact hy.wpOp hi trivial ⟨fun _ h => h, H⟩
    · have := ready_mono hj hji
      rw [H.1] at this
      cases this
  | succ fuel ih =>
    intro listed a w hfree hr hy H
    refine ⟨fun h => (by rw [h] at hr; cases hr), fun j hj => ?_⟩
    by_cases hji : j = i
    · subst hji; exact hy.wpOp hi trivial ⟨fun _ h => h, H⟩
    · have h1 := H.2 j (ready_mono hj hji)
      obtain ⟨hjun, oj, hoj, hall⟩ := mem_ready.1 hj
      have hnot : ∀ e ∈ oj.after, Region.binds md e = true → e.on ≠ i := fun e he hb heq => by
        have h1 := hall e he hb
        have h0 := (mem_ready.1 hr).1
        rw [heq] at h1
        rcases Nat.lt_or_ge i listed.size with h' | h'
        · simp [h'] at h0 h1; rw [h0] at h1; cases h1
        · simp [Array.getElem?_eq_none h'] at h1
      have h2 := wpOp_putIf hoj (hfree j oj hoj hji hjun hnot) (fun cs b => hsel i oi cs b hi) (fun cs b => hsel j oj cs b hoj) hQ hy h1
      have hfree' : ∀ k ok, ops[k]? = some ok → k ≠ i → (listed.setIfInBounds j true).getD k true = false →
          (∀ e ∈ ok.after, Region.binds md e = true → e.on ≠ i) → oi.apart ops ok = true := fun k ok hk hki hun hno => by
        refine hfree k ok hk hki ?_ hno
        by_cases hjk : j = k
        · subst hjk; exact hjun
        · rw [getD_set_ne true hjk] at hun; exact hun
      refine wpOp_mono (fun a' w' h3 => ⟨h3.2.1, ih (listed.setIfInBounds j true) a' w' hfree' (ready_mono hr (Ne.symm hji)) h3.1 ?_⟩) h2
      rw [Array.setIfInBounds_comm _ _ hji]
      exact h3.2.2
/-- Take number i first. -/
theorem wpAnyN_take {i : Nat} {oi : Oper} {v : Value} {fuel : Nat} {listed : Array Bool} {a : Act} {w : World} (hi : ops[i]? = some oi)
    (hs : Region.noSelect ops = true) (hf : Region.free md ops listed i = true) (hr : (Region.ready md ops listed).contains i = true) (hX : (X.all fun j => Region.waitsFor md ops j i) = true)
    (hQ : ∀ c a w, Q (.panic c) (a.put oi.dst v) w → Q (.panic c) a w) (hy : YieldsIf P ops S oi v a) (hS : S w)
    (h : wpAnyN P md ops Q S X fuel (listed.setIfInBounds i true) (a.put oi.dst v) w) : wpAnyN P md ops Q S X (fuel + 1) listed a w :=
  wpAnyN_first hi (Region.noSelect_spec hs) hQ (fun j hj => Region.waitsFor_spec (List.all_eq_true.1 hX j hj)) fuel listed a w (Region.free_spec hi hf) (by simpa using hr) hy hS h
/-- Take number i first, which yields in whatever world. -/
theorem wpAnyN_pure {i : Nat} {oi : Oper} {v : Value} {fuel : Nat} {listed : Array Bool} {a : Act} {w : World} (hi : ops[i]? = some oi)
    (hs : Region.noSelect ops = true) (hf : Region.free md ops listed i = true) (hr : (Region.ready md ops listed).contains i = true)
    (hQ : ∀ c a w, Q (.panic c) (a.put oi.dst v) w → Q (.panic c) a w) (hy : YieldsIf P ops (fun _ => True) oi v a)
    (h : wpAnyN P md ops Q S X fuel (listed.setIfInBounds i true) (a.put oi.dst v) w) : wpAnyN P md ops Q S X (fuel + 1) listed a w :=
  wpAnyN_first0 hi (Region.noSelect_spec hs) hQ fuel listed a w (Region.free_spec hi hf) (by simpa using hr) hy h
/-- One may come up, or one of two. -/
theorem wpAnyN_one {i : Nat} {o : Oper} {fuel : Nat} {listed : Array Bool} {a : Act} {w : World} (hr : Region.ready md ops listed = [i]) (ho : ops[i]? = some o)
    (h : ∀ K : Act → World → Prop, Shut (∀ a' w', (i ∉ X → S w → S w') → wpAnyN P md ops Q S X fuel (listed.setIfInBounds i true) a' w' → K a' w') → if Region.wanted o (yielded ops a.tmps) = true then Oper.wp P o a w K Q else K (a.put o.dst undef) w) :
    wpAnyN P md ops Q S X (fuel + 1) listed a w := by
  refine ⟨(fun h0 => by rw [hr] at h0; cases h0), fun j hj => ?_⟩
  rw [hr] at hj
  simp at hj
  subst hj
  exact wpOp_step ho fun K' hK => h K' fun a' w' h1 h2 => hK a' w' ⟨h1, h2⟩
theorem wpAnyN_two {i k : Nat} {o ok : Oper} {fuel : Nat} {listed : Array Bool} {a : Act} {w : World} (hr : Region.ready md ops listed = [i, k]) (ho : ops[i]? = some o) (hk : ops[k]? = some ok)
    (h : ∀ K : Act → World → Prop, Shut (∀ a' w', (i ∉ X → S w → S w') → wpAnyN P md ops Q S X fuel (listed.setIfInBounds i true) a' w' → K a' w') → if Region.wanted o (yielded ops a.tmps) = true then Oper.wp P o a w K Q else K (a.put o.dst undef) w)
    (h' : ∀ K : Act → World → Prop, Shut (∀ a' w', (k ∉ X → S w → S w') → wpAnyN P md ops Q S X fuel (listed.setIfInBounds k true) a' w' → K a' w') → if Region.wanted ok (yielded ops a.tmps) = true then Oper.wp P ok a w K Q else K (a.put ok.dst undef) w) :
    wpAnyN P md ops Q S X (fuel + 1) listed a w := by
  refine ⟨(fun h0 => by rw [hr] at h0; cases h0), fun j hj => ?_⟩
  rw [hr] at hj
  simp at hj
  rcases hj with rfl | rfl
  · exact wpOp_step ho fun K' hK => h K' fun a' w' h1 h2 => hK a' w' ⟨h1, h2⟩
  · exact wpOp_step hk fun K' hK => h' K' fun a' w' h1 h2 => hK a' w' ⟨h1, h2⟩
theorem wpAnyN_three {i k m : Nat} {o ok om : Oper} {fuel : Nat} {listed : Array Bool} {a : Act} {w : World} (hr : Region.ready md ops listed = [i, k, m]) (ho : ops[i]? = some o) (hk : ops[k]? = some ok) (hm : ops[m]? = some om)
    (h : ∀ K : Act → World → Prop, Shut (∀ a' w', (i ∉ X → S w → S w') → wpAnyN P md ops Q S X fuel (listed.setIfInBounds i true) a' w' → K a' w') → if Region.wanted o (yielded ops a.tmps) = true then Oper.wp P o a w K Q else K (a.put o.dst undef) w)
    (h' : ∀ K : Act → World → Prop, Shut (∀ a' w', (k ∉ X → S w → S w') → wpAnyN P md ops Q S X fuel (listed.setIfInBounds k true) a' w' → K a' w') → if Region.wanted ok (yielded ops a.tmps) = true then Oper.wp P ok a w K Q else K (a.put ok.dst undef) w)
    (h'' : ∀ K : Act → World → Prop, Shut (∀ a' w', (m ∉ X → S w → S w') → wpAnyN P md ops Q S X fuel (listed.setIfInBounds m true) a' w' → K a' w') → if Region.wanted om (yielded ops a.tmps) = true then Oper.wp P om a w K Q else K (a.put om.dst undef) w) :
    wpAnyN P md ops Q S X (fuel + 1) listed a w := by
  refine ⟨(fun h0 => by rw [hr] at h0; cases h0), fun j hj => ?_⟩
  rw [hr] at hj
  simp at hj
  rcases hj with rfl | rfl | rfl
  · exact wpOp_step ho fun K' hK => h K' fun a' w' h1 h2 => hK a' w' ⟨h1, h2⟩
  · exact wpOp_step hk fun K' hK => h' K' fun a' w' h1 h2 => hK a' w' ⟨h1, h2⟩
  · exact wpOp_step hm fun K' hK => h'' K' fun a' w' h1 h2 => hK a' w' ⟨h1, h2⟩
theorem wpAnyN_done {listed : Array Bool} {a : Act} {w : World} (hr : Region.ready md ops listed = []) (h : Q .normal a w) : ∀ fuel, wpAnyN P md ops Q S X fuel listed a w
  | 0 => ⟨hr, h⟩
  | _ + 1 => ⟨fun _ => h, by rw [hr]; simp⟩
theorem wp_region_N {id : Nat} {a : Act} {w : World} (S : World → Prop) (X : List Nat) (hm : P.follows .mixedOrders = true) (hS : S w.drew)
    (h : S w.drew → wpAnyN P .any ops Q S X ops.size (Array.replicate ops.size false) a w.drew) : (Code.region id ops true).wp P Q a w :=
  wp_region_any hm (wpAny_of_N _ _ _ _ (h hS))
end
end Go.Proofs.YtgjaopfjffncbaaGreat
/- Package sensor: a sensor with its digest; New. -/
namespace Go.Proofs.YtgjaopfjffncbaaGreat
open Go.ChangeShapes Go.WideShapes Go.ChangeAt Go.RowKit
set_option linter.unusedVariables false
set_option linter.unusedSimpArgs false
set_option maxRecDepth 100000

/-- A sensor, with its digest: the blocks that are its own. -/
def SensAt (w : World) (g K l : Nat) (s : Sen) (r : List Nd) (F : Nat → Prop) : Prop := ∃ dg F0, F = footP g F0 ∧ SenAt w g dg s ∧ s.l = l ∧ s.kd = K ∧ DigAt w dg K l s.k r F0 ∧ ¬ F0 g
section
variable {w w' : World} {g K l : Nat} {s : Sen} {r : List Nd} {F : Nat → Prop}
theorem SensAt.lt (h : SensAt w g K l s r F) : ∀ b, F b → b < w.heap.size := by
  obtain ⟨dg, F0, rfl, h1, _, _, h2, _⟩ := h
  rintro b (rfl | hb)
  · exact lt_of_block h1
  · exact h2.lt b hb
theorem SensAt.below (h : SensAt w g K l s r F) (hb : Below w.heap.size w w') : SensAt w' g K l s r F := by
  obtain ⟨dg, F0, rfl, h1, h3, h4, h2, h5⟩ := h
  exact ⟨dg, F0, rfl, h1.below hb, h3, h4, h2.below hb, h5⟩
theorem SensAt.keep (h : SensAt w g K l s r F) (hk : ∀ b, F b → w'.heap[b]? = w.heap[b]?) : SensAt w' g K l s r F := by
  obtain ⟨dg, F0, rfl, h1, h3, h4, h2, h5⟩ := h
  exact ⟨dg, F0, rfl, (hk g (.inl rfl)).trans h1, h3, h4, h2.keep fun b hb => hk b (.inr hb), h5⟩
theorem SensAt.own (h : SensAt w g K l s r F) : F g := by
  obtain ⟨dg, F0, rfl, _⟩ := h
  exact .inl rfl
end
/-- What a call that writes to a sensor leaves. -/
def SensTo (w : World) (g K l : Nat) (s : Sen) (r : List Nd) (F : Nat → Prop) (w' : World) : Prop := ∃ F', SensAt w' g K l s r F' ∧ Turn F w w' ∧ Grow w F F'
theorem SensTo.below {w w' : World} {g K l : Nat} {s : Sen} {r : List Nd} {F : Nat → Prop} (h : SensAt w g K l s r F) (hb : Below w.heap.size w w') : SensTo w g K l s r F w' := ⟨F, h.below hb, .of_below hb, Grow.refl⟩
theorem SensTo.then_ {w w1 w' : World} {g K l : Nat} {s : Sen} {r : List Nd} {F : Nat → Prop} (h : SensTo w g K l s r F w1) (hB : Below w1.heap.size w1 w') : SensTo w g K l s r F w' := by
  obtain ⟨F', h1, h2, h3⟩ := h
  exact ⟨F', h1.below hB, h2.more hB, h3⟩
theorem SensTo.from_ {w W w' : World} {g K l : Nat} {s : Sen} {r : List Nd} {F : Nat → Prop} (hB : Below w.heap.size w W) (h : SensTo W g K l s r F w') : SensTo w g K l s r F w' := by
  obtain ⟨F', h1, h2, h3⟩ := h
  exact ⟨F', h1, (Turn.of_below hB).trans h2 fun b hb => .inl hb, fun b hb => (h3 b hb).imp id fun h => Nat.le_trans hB.size h⟩
/-- May there be a sensor? -/
def newS (l k K : Int) (p : Plc) (ep : Int) : Bool := isDig l k K && rightS p && decide (0 ≤ ep) && decide (ep ≤ 1099511627776)
def senNew (l k K : Int) (p : Plc) (ep : Int) : Sen := ⟨l, k, K, p, ep, 0, 0, withC 0 p.me, false⟩
def confV (l k K : Int) : Value := .agg #[.int .i64 l, .int .i64 k, .int .i64 K]
/-- What stands while New runs. -/
structure NewS (w : World) (l k K : Int) (p : Plc) (W : World) : Prop where
  c : W.heap[w.heap.size]? = some (.cells #[.int .i64 l, .int .i64 k, .int .i64 K] 23 (0, 0))
  p : W.heap[w.heap.size + 1]? = some (.cells #[.int .i64 p.me, .int .u64 p.kids, .int .i64 p.wait] 34 (0, 0))
  b : Below w.heap.size w W
theorem NewS.below {w W W' : World} {l k K : Int} {p : Plc} (h : NewS w l k K p W) (hb : Below W.heap.size W W') : NewS w l k K p W' := ⟨blk_below h.c hb, blk_below h.p hb, h.b.trans (hb.mono h.b.size)⟩
theorem NewS.first (w : World) (l k K : Int) (p : Plc) : NewS w l k K p ((w.alloc (.cells #[.int .i64 l, .int .i64 k, .int .i64 K] 23)).alloc (.cells #[.int .i64 p.me, .int .u64 p.kids, .int .i64 p.wait] 34)) :=
  ⟨(heap_new_lt _ _ _ (by simp)).trans (heap_alloc_new w _), heap_new_at (w.alloc _) _ _ (by simp), (by repeat (first | with_reducible exact Below.refl _ _ | with_reducible assumption | ((with_reducible refine Below.setCell ?_ ?_ _); rotate_left; · (first | omega | exact Nat.le_refl _ | (simp <;> omega))) | (with_reducible refine Below.allocW ?_ _) | (with_reducible refine Below.drew ?_) | (with_reducible refine Below.extW ?_ _)))⟩
def SenPost (K l : Nat) (s : Sen) (w : World) (e : Ending) (w' : World) : Prop := ∃ g F, e = .returned (.tuple #[.pointer (some ⟨g, 0, none⟩), .int .i64 0]) ∧ SensAt w' g K l s [] F ∧ (∀ b, F b → w.heap.size ≤ b) ∧ Below w.heap.size w w'
set_option maxHeartbeats 2000000 in
theorem sensor_New_no (w : World) (l k K : Int) (p : Plc) (ep : Int) (hk : p.kids < 2 ^ 64) (h : newS l k K p ep = false) :
    Calls Tryz.prog 9 #[confV l k K, plcV p, .int .i64 ep] w fun e w' => e = .returned (.tuple #[.pointer none, .int .i64 2]) ∧ Below w.heap.size w w' := by
  have N0 := Lib.hid (NewS.first w l k K p)
  have HR := Lib.hid (fun W => sensor_right W p hk)
  have HD := Lib.hid (fun W => digest_New_no W l k K)
  have HE : Hid (∀ W, isDig l k K = true → ∃ K' l', Calls Tryz.prog 42 #[.agg #[.int .i64 l, .int .i64 k, .int .i64 K]] W (DigPost K' l' k [] W)) := Lib.hid fun W hd => by
    obtain ⟨l', hl⟩ : ∃ n : Nat, l = n := Int.eq_ofNat_of_zero_le (by simp only [isDig, isPool, Bool.and_eq_true, decide_eq_true_eq] at hd; omega)
    obtain ⟨K', hK⟩ : ∃ n : Nat, K = n := Int.eq_ofNat_of_zero_le (by simp only [isDig, isPool, Bool.and_eq_true, decide_eq_true_eq] at hd; omega)
    subst hl hK
    exact ⟨K', l', digest_New W l' K' k hd⟩
  unfold newS at h
  unfold confV
  unfold plcV at HR ⊢
  clear hk
  generalize rightS p = z at HR h
  obtain ⟨me, kids, wait⟩ := p
  dsimp only at *
  generalize isDig l k K = d at *
  go_enter Tryz.func9, Tryz.ntmps9
  go_upto_region 1 with fail
  generalize (w.alloc (.cells #[.int .i64 l, .int .i64 k, .int .i64 K] 23)).alloc (.cells #[.int .i64 me, .int .u64 kids, .int .i64 wait] 34) = W0 at N0 ⊢
  have c0 := blk_cell N0.out.c
  have z0 := lt_of_block N0.out.c
  cases d
  · go_wp2_with fail
    refine (HD.out _ trivial).mono ?_
    rintro e w1 ⟨rfl, hb1⟩
    have N1 := Lib.hid (N0.out.below hb1)
    clear hb1
    go_wp2_with fail
    exact bodyPost_ret (v := .tuple #[.pointer none, .int .i64 2]) (by simp only [results, Tryz.results9]; go_simp) rfl ⟨rfl, N1.out.b⟩
  · go_wp2_with fail
    obtain ⟨K', l', HC⟩ := HE.out W0 trivial
    refine HC.mono ?_
    rintro e w1 ⟨dg, F, rfl, _, _, hb1⟩
    have N1 := Lib.hid (N0.out.below hb1)
    have c1 := blk_cell N1.out.p
    have z1 := lt_of_block N1.out.p
    clear hb1 c0 z0 HC HE
    go_wp2_with fail
    refine (HR.out _).mono ?_
    rintro e w2 ⟨rfl, hb2⟩
    have N2 := Lib.hid (N1.out.below hb2)
    clear hb2 c1 z1
    cases z
    · go_wp2_with fail
      exact bodyPost_ret (v := .tuple #[.pointer none, .int .i64 2]) (by simp only [results, Tryz.results9]; go_simp) rfl ⟨rfl, N2.out.b⟩
    · by_cases h0 : ep < 0
      · go_wp2_with fail
        exact bodyPost_ret (v := .tuple #[.pointer none, .int .i64 2]) (by simp only [results, Tryz.results9]; go_simp) rfl ⟨rfl, N2.out.b⟩
      · have h1 : 1099511627776 < ep := by
          simp only [Bool.true_and, Bool.and_eq_false_iff, decide_eq_false_iff_not] at h; omega
        have h0' : decide (ep < 0) = false := by simpa using h0
        go_wp2_with fail
        exact bodyPost_ret (v := .tuple #[.pointer none, .int .i64 2]) (by simp only [results, Tryz.results9]; go_simp) rfl ⟨rfl, N2.out.b⟩
set_option maxHeartbeats 4000000 in
theorem sensor_New (w : World) (l K : Nat) (k : Int) (p : Plc) (ep : Int) (hk : p.kids < 2 ^ 64) (h : newS l k K p ep = true) :
    Calls Tryz.prog 9 #[confV l k K, plcV p, .int .i64 ep] w (SenPost K l (senNew l k K p ep) w) := by
  have N0 := Lib.hid (NewS.first w l k K p)
  have HR := Lib.hid (fun W => sensor_right W p hk)
  have HW := Lib.hid (fun W => crew_With 0 p.me (by decide) W)
  unfold newS at h
  simp only [Bool.and_eq_true, decide_eq_true_eq] at h
  obtain ⟨⟨⟨hd, hr⟩, h0⟩, h1⟩ := h
  have HD := Lib.hid (fun W => digest_New W l K k hd)
  rw [hr] at HR
  unfold confV
  unfold plcV at HR ⊢
  clear hk hd hr
  obtain ⟨me, kids, wait⟩ := p
  dsimp only at *
  unfold senNew
  dsimp only
  go_enter Tryz.func9, Tryz.ntmps9
  go_upto_region 1 with fail
  generalize (w.alloc (.cells #[.int .i64 l, .int .i64 k, .int .i64 K] 23)).alloc (.cells #[.int .i64 me, .int .u64 kids, .int .i64 wait] 34) = W0 at N0 ⊢
  have c0 := blk_cell N0.out.c
  have z0 := lt_of_block N0.out.c
  go_wp2_with fail
  refine (HD.out W0).mono ?_
  rintro e w1 ⟨dg, F, rfl, hd1, hF1, hb1⟩
  have D1 := Lib.hid hd1
  have HF := Lib.hid hF1
  have N1 := Lib.hid (N0.out.below hb1)
  have B1 := Lib.hid N1.out.b
  have c1 := blk_cell N1.out.p
  have z1 := lt_of_block N1.out.p
  clear hd1 hF1 hb1 c0 z0
  go_wp2_with fail
  refine (HR.out _).mono ?_
  rintro e w2 ⟨rfl, hb2⟩
  have N2 := Lib.hid (N1.out.below hb2)
  have D2 := Lib.hid (D1.out.below hb2)
  have B2 := Lib.hid (Below.then_ B1.out hb2)
  clear hb2 c1 z1 N1 D1 B1
  have h0' : decide (ep < 0) = false := by simpa using h0
  have h1' : decide (1099511627776 < ep) = false := by simpa using h1
  clear h0 h1
  have N0s := Lib.hid N0.out.b.size
  go_upto_region 4 with fail
  refine wp_region_noPanic ?_
  refine wp_region_N (fun w' => NewS w l k K ⟨me, kids, wait⟩ w') [] (by kernel_rfl) (N2.out.below (by repeat (first | with_reducible exact Below.refl _ _ | with_reducible assumption | ((with_reducible refine Below.setCell ?_ ?_ _); rotate_left; · (first | omega | exact Nat.le_refl _ | (simp <;> omega))) | (with_reducible refine Below.allocW ?_ _) | (with_reducible refine Below.drew ?_) | (with_reducible refine Below.extW ?_ _)))) (fun hHeld => ?_)
  refine wpAnyN_take (i := 0) (v := Value.agg #[.int .i64 l, .int .i64 k, .int .i64 K]) rfl (by kernel_rfl) (by kernel_rfl) (by kernel_rfl) (by kernel_rfl) (fun _ _ _ h => h) (Or.inl ⟨by rfl, fun W hW => by have q1 := blk_cell hW.c; have q2 := lt_of_block hW.c; have q3 := blk_cell hW.p; have q4 := lt_of_block hW.p; go_simp⟩) (N2.out.below (by repeat (first | with_reducible exact Below.refl _ _ | with_reducible assumption | ((with_reducible refine Below.setCell ?_ ?_ _); rotate_left; · (first | omega | exact Nat.le_refl _ | (simp <;> omega))) | (with_reducible refine Below.allocW ?_ _) | (with_reducible refine Below.drew ?_) | (with_reducible refine Below.extW ?_ _)))) ?_
  try simp only [List.getElem_toArray, List.getElem_cons_zero, List.getElem_cons_succ, Act.put, List.setIfInBounds_toArray, List.set_cons_zero, List.set_cons_succ]
  refine wpAnyN_take (i := 1) (v := Value.agg #[.int .i64 me, .int .u64 kids, .int .i64 wait]) rfl (by kernel_rfl) (by kernel_rfl) (by kernel_rfl) (by kernel_rfl) (fun _ _ _ h => h) (Or.inl ⟨by rfl, fun W hW => by have q1 := blk_cell hW.c; have q2 := lt_of_block hW.c; have q3 := blk_cell hW.p; have q4 := lt_of_block hW.p; go_simp⟩) (N2.out.below (by repeat (first | with_reducible exact Below.refl _ _ | with_reducible assumption | ((with_reducible refine Below.setCell ?_ ?_ _); rotate_left; · (first | omega | exact Nat.le_refl _ | (simp <;> omega))) | (with_reducible refine Below.allocW ?_ _) | (with_reducible refine Below.drew ?_) | (with_reducible refine Below.extW ?_ _)))) ?_
  try simp only [List.getElem_toArray, List.getElem_cons_zero, List.getElem_cons_succ, Act.put, List.setIfInBounds_toArray, List.set_cons_zero, List.set_cons_succ]
  refine wpAnyN_pure (i := 2) (v := Value.int .i64 ep) rfl (by kernel_rfl) (by kernel_rfl) (by kernel_rfl) (fun _ _ _ h => h) (Or.inl ⟨by rfl, fun W _ => by go_simp⟩) ?_
  try simp only [List.getElem_toArray, List.getElem_cons_zero, List.getElem_cons_succ, Act.put, List.setIfInBounds_toArray, List.set_cons_zero, List.set_cons_succ]
  refine wpAnyN_pure (i := 3) (v := Value.pointer (some ⟨w.heap.size + 1, 0, none⟩)) rfl (by kernel_rfl) (by kernel_rfl) (by kernel_rfl) (fun _ _ _ h => h) (Or.inl ⟨by rfl, fun W _ => by go_simp⟩) ?_
  try simp only [List.getElem_toArray, List.getElem_cons_zero, List.getElem_cons_succ, Act.put, List.setIfInBounds_toArray, List.set_cons_zero, List.set_cons_succ]
  refine wpAnyN_take (i := 4) (v := Value.int .i64 me) rfl (by kernel_rfl) (by kernel_rfl) (by kernel_rfl) (by kernel_rfl) (fun _ _ _ h => h) (Or.inl ⟨by rfl, fun W hW => by have q1 := blk_cell hW.c; have q2 := lt_of_block hW.c; have q3 := blk_cell hW.p; have q4 := lt_of_block hW.p; go_simp⟩) (N2.out.below (by repeat (first | with_reducible exact Below.refl _ _ | with_reducible assumption | ((with_reducible refine Below.setCell ?_ ?_ _); rotate_left; · (first | omega | exact Nat.le_refl _ | (simp <;> omega))) | (with_reducible refine Below.allocW ?_ _) | (with_reducible refine Below.drew ?_) | (with_reducible refine Below.extW ?_ _)))) ?_
  try simp only [List.getElem_toArray, List.getElem_cons_zero, List.getElem_cons_succ, Act.put, List.setIfInBounds_toArray, List.set_cons_zero, List.set_cons_succ]
  refine wpAnyN_pure (i := 6) (v := Value.pointer (some ⟨dg, 0, none⟩)) rfl (by kernel_rfl) (by kernel_rfl) (by kernel_rfl) (fun _ _ _ h => h) (Or.inl ⟨by rfl, fun W _ => by go_simp⟩) ?_
  try simp only [List.getElem_toArray, List.getElem_cons_zero, List.getElem_cons_succ, Act.put, List.setIfInBounds_toArray, List.set_cons_zero, List.set_cons_succ]
  refine wpAnyN_one (i := 5) (by kernel_rfl) rfl (fun K hK => ?_)
  go_simp
  refine (HW.out _).mono ?_
  rintro e w3 ⟨rfl, hb3⟩
  have N3 := Lib.hid ((N2.out.below (W' := w2.drew) (by repeat (first | with_reducible exact Below.refl _ _ | with_reducible assumption | ((with_reducible refine Below.setCell ?_ ?_ _); rotate_left; · (first | omega | exact Nat.le_refl _ | (simp <;> omega))) | (with_reducible refine Below.allocW ?_ _) | (with_reducible refine Below.drew ?_) | (with_reducible refine Below.extW ?_ _)))).below hb3)
  have D3 := Lib.hid ((D2.out.below (w' := w2.drew) (by repeat (first | with_reducible exact Below.refl _ _ | with_reducible assumption | ((with_reducible refine Below.setCell ?_ ?_ _); rotate_left; · (first | omega | exact Nat.le_refl _ | (simp <;> omega))) | (with_reducible refine Below.allocW ?_ _) | (with_reducible refine Below.drew ?_) | (with_reducible refine Below.extW ?_ _)))).below hb3)
  have B3 := Lib.hid (Below.then_ (W := w2.drew) (B2.out.drew) hb3)
  clear hb3
  refine hK.out _ _ (fun _ _ => N3.out) ?_
  clear hK K
  try simp only [List.getElem_toArray, List.getElem_cons_zero, List.getElem_cons_succ, Act.put, List.setIfInBounds_toArray, List.set_cons_zero, List.set_cons_succ]
  refine wpAnyN_pure (i := 7) (v := Value.agg #[.int .i64 l, .int .i64 k, .int .i64 K, .int .i64 me, .int .u64 kids, .int .i64 wait, .int .i64 ep, .int .i64 0, .int .u64 0, .int .u64 ((withC 0 me : Nat) : Int), .bool false, .pointer (some ⟨dg, 0, none⟩)]) rfl (by kernel_rfl) (by kernel_rfl) (by kernel_rfl) (fun _ _ _ h => h) (Or.inl ⟨by rfl, fun W _ => by go_simp⟩) ?_
  try simp only [List.getElem_toArray, List.getElem_cons_zero, List.getElem_cons_succ, Act.put, List.setIfInBounds_toArray, List.set_cons_zero, List.set_cons_succ]
  refine wpAnyN_one (i := 8) (by kernel_rfl) rfl (fun K hK => ?_)
  go_simp
  refine hK.out _ _ (fun _ _ => N3.out.below (by repeat (first | with_reducible exact Below.refl _ _ | with_reducible assumption | ((with_reducible refine Below.setCell ?_ ?_ _); rotate_left; · (first | omega | exact Nat.le_refl _ | (simp <;> omega))) | (with_reducible refine Below.allocW ?_ _) | (with_reducible refine Below.drew ?_) | (with_reducible refine Below.extW ?_ _)))) ?_
  clear hK K
  try simp only [List.getElem_toArray, List.getElem_cons_zero, List.getElem_cons_succ, Act.put, List.setIfInBounds_toArray, List.set_cons_zero, List.set_cons_succ]
  refine wpAnyN_pure (i := 9) (v := Value.pointer (some ⟨w3.heap.size, 0, none⟩)) rfl (by kernel_rfl) (by kernel_rfl) (by kernel_rfl) (fun _ _ _ h => h) (Or.inl ⟨by rfl, fun W _ => by go_simp⟩) ?_
  try simp only [List.getElem_toArray, List.getElem_cons_zero, List.getElem_cons_succ, Act.put, List.setIfInBounds_toArray, List.set_cons_zero, List.set_cons_succ]
  refine wpAnyN_one (i := 10) (by kernel_rfl) rfl (fun K hK => ?_)
  go_simp
  refine hK.out _ _ (fun _ _ => N3.out.below (by repeat (first | with_reducible exact Below.refl _ _ | with_reducible assumption | ((with_reducible refine Below.setCell ?_ ?_ _); rotate_left; · (first | omega | exact Nat.le_refl _ | (simp <;> omega))) | (with_reducible refine Below.allocW ?_ _) | (with_reducible refine Below.drew ?_) | (with_reducible refine Below.extW ?_ _)))) ?_
  clear hK K
  try simp only [List.getElem_toArray, List.getElem_cons_zero, List.getElem_cons_succ, Act.put, List.setIfInBounds_toArray, List.set_cons_zero, List.set_cons_succ]
  refine wpAnyN_done (by kernel_rfl) ?_ _
  refine NoPanic.normal ?_
  clear N0 N2 D2 B2
  go_wp2_with fail
  have HZ := Lib.hid B3.out.size
  have HX : Hid (SensAt (w3.alloc (.cells #[.int .i64 l, .int .i64 k, .int .i64 K, .int .i64 me, .int .u64 kids, .int .i64 wait, .int .i64 ep, .int .i64 0, .int .u64 0, .int .u64 ((withC 0 me : Nat) : Int), .bool false, .pointer (some ⟨dg, 0, none⟩)] 100)) w3.heap.size K l ⟨l, k, K, ⟨me, kids, wait⟩, ep, 0, 0, withC 0 me, false⟩ [] (footP w3.heap.size F)) :=
    Lib.hid ⟨dg, F, rfl, heap_alloc_new w3 _, rfl, rfl, D3.out.below (by repeat (first | with_reducible exact Below.refl _ _ | with_reducible assumption | ((with_reducible refine Below.setCell ?_ ?_ _); rotate_left; · (first | omega | exact Nat.le_refl _ | (simp <;> omega))) | (with_reducible refine Below.allocW ?_ _) | (with_reducible refine Below.drew ?_) | (with_reducible refine Below.extW ?_ _))), fun h => by have := D3.out.lt _ h; omega⟩
  refine bodyPost_ret (v := .tuple #[.pointer (some ⟨w3.heap.size, 0, none⟩), .int .i64 0]) (by simp only [results, Tryz.results9]; go_simp) rfl ⟨w3.heap.size, footP w3.heap.size F, rfl, HX.out, ?_, ?_⟩
  · rintro b (rfl | hb)
    · exact HZ.out
    · exact Nat.le_trans N0s.out (HF.out b hb)
  · have B3 := B3.out
    exact (by repeat (first | with_reducible exact Below.refl _ _ | with_reducible assumption | ((with_reducible refine Below.setCell ?_ ?_ _); rotate_left; · (first | omega | exact Nat.le_refl _ | (simp <;> omega))) | (with_reducible refine Below.allocW ?_ _) | (with_reducible refine Below.drew ?_) | (with_reducible refine Below.extW ?_ _)))
end Go.Proofs.YtgjaopfjffncbaaGreat
/- (*dense.Dense).Clone: a copy of its own. -/
namespace Go.Proofs.YtgjaopfjffncbaaGreat
open Go.ChangeShapes Go.WideShapes Go.ChangeAt Go.RowKit
set_option linter.unusedVariables false
set_option linter.unusedSimpArgs false

theorem flatZC (C : List Int) : C.flatMap encZ.enc = C.map (fun x => Value.int .i64 x) := by
  induction C with
  | nil => rfl
  | cons x C ih => rw [List.flatMap_cons, ih]; rfl
theorem dense_Clone_nil (w : World) : Calls Tryz.prog 156 #[.pointer none] w fun e w' => e = .returned (.pointer none) ∧ Below w.heap.size w w' := by
  go_enter Tryz.func156, Tryz.ntmps156
  go_wp2_with fail
  go_ret
  exact ⟨rfl, (by repeat (first | with_reducible exact Below.refl _ _ | with_reducible assumption | ((with_reducible refine Below.setCell ?_ ?_ _); rotate_left; · (first | omega | exact Nat.le_refl _ | (simp <;> omega))) | (with_reducible refine Below.allocW ?_ _) | (with_reducible refine Below.drew ?_) | (with_reducible refine Below.extW ?_ _)))⟩
set_option maxRecDepth 100000 in
theorem dense_Clone (w : World) (g l : Nat) (r : List Nd) (F : Nat → Prop) (h : DenseAt w g l r F) (h16 : l ≤ 16) : Calls Tryz.prog 156 #[.pointer (some ⟨g, 0, none⟩)] w fun e w' =>
    ∃ g' F', e = .returned (.pointer (some ⟨g', 0, none⟩)) ∧ DenseAt w' g' l r F' ∧ (∀ b, F' b → w.heap.size ≤ b) ∧ Below w.heap.size w w' := by
  obtain ⟨i, hi, hz0, hz1, hz2⟩ := info_parts infoZ
  obtain ⟨v, C, hh, ho, hl, hc, _⟩ := h
  have q5 : 2 ^ l ≤ 65536 := by have := Nat.pow_le_pow_right (n := 2) (by decide) h16; simpa using this
  have q6 := Nat.two_pow_pos l
  obtain ⟨b, off, cap, rfl, hcap⟩ := own_at0 ho (by omega)
  obtain ⟨n, hn⟩ : ∃ n, n = C.length := ⟨_, rfl⟩
  have n1 : n ≤ 131072 := by omega
  have n0 : 0 < n := by omega
  rw [← hn] at ho hh
  have HN := Lib.hid hn
  have HL := Lib.hid hl
  have HC := Lib.hid hc
  have HO := Lib.hid ho
  have H := Lib.hid hh
  have c := blk_cell hh
  have z := lt_of_block hh
  clear hh ho hl hc q5 q6 hn hcap
  go_enter Tryz.func156, Tryz.ntmps156
  go_upto_region 4 with fail
  go_wp2_with ((at_make; refine wpList_make_full _ rfl _ _ 133 rfl w.heap.size 3 i (.int .i64 0) 1 Tryz.underlying133 hi hz0 hz1 _ _ _ _ n rfl rfl ?hL ?hC ?b2 ?b3 ?b4 ?hK))
  case hL => simp
  case hC => simp
  case b2 => rw [hz2]; omega
  case b3 => simp only [maxLen]; omega
  case b4 => simp
  case hK =>
    intro w1 hr hg
    have hmf := made_flat encZ 0 #[.int .i64 0] n rfl (by decide)
    rw [Nat.mul_one] at hmf
    rw [hmf] at hr
    have b0 : Below (w.heap.size + 1) (w.alloc (.cells #[.int .i64 l, .int .i64 r.length, .int .i64 (sumR r), .slice (some ⟨b, off, none⟩) n cap] 218)) w1 := (Below.refl _ _).grown hg (by simp) (fun k hk => by cases hk)
    have b1 : Below w.heap.size w w1 := ((Below.refl w.heap.size w).alloc (Nat.le_refl _) _).trans (b0.mono (Nat.le_succ _))
    have k1 := (b0.block w.heap.size (by omega)).trans (heap_alloc_new w _)
    obtain ⟨cur, kc, hcs⟩ : ∃ cur, w1.heap[w.heap.size + 1]? = some (.cells cur 3 (0, 0)) ∧ cur.size = n := by
      obtain ⟨_, ⟨_, h0⟩ | ⟨g', cap', cur, he, _, hc, _, _, hs, _⟩⟩ := hr
      · omega
      · simp only [Value.slice.injEq, Option.some.injEq, Addr.mk.injEq, true_and, and_true] at he
        obtain ⟨rfl, rfl⟩ := he
        exact ⟨cur, hc, by omega⟩
    have kg := Lib.hid ((b1.block g z).trans H.out)
    have ko := Lib.hid ((HO.out.of_block fun q hq => b1.block q (HO.out.lt q hq).2 : Own w1 0 3 encZ _ C))
    have K1 := Lib.hid k1
    have KC := Lib.hid kc
    have cs1 := Lib.hid hcs
    have c1 := blk_cell k1
    have z1 := lt_of_block k1
    have f1 := blk_frozen k1
    have B1 := Lib.hid b1
    clear b0 b1 hr hg hmf c k1 kc hcs
    go_upto_region 5 with fail
    have hne : Value.ownBlock (.slice (some ⟨b, off, none⟩) n cap) ≠ some w.heap.size := fun he => by
      have := (HO.out.lt _ he).2
      omega
    have k2 : (w1.setCell ⟨w.heap.size, 3, none⟩ (.slice (some ⟨w.heap.size + 1, 0, none⟩) n n)).heap[w.heap.size]? = some (.cells #[.int .i64 l, .int .i64 r.length, .int .i64 (sumR r), .slice (some ⟨w.heap.size + 1, 0, none⟩) n n] 218 (0, 0)) := heap_set_at (i := 3) K1.out _
    have g2 := (Below.heap_setCell w1 ⟨w.heap.size, 3, none⟩ (.slice (some ⟨w.heap.size + 1, 0, none⟩) n n) g (by simp; omega)).trans kg.out
    have r2 := (Below.heap_setCell w1 ⟨w.heap.size, 3, none⟩ (.slice (some ⟨w.heap.size + 1, 0, none⟩) n n) (w.heap.size + 1) (by simp)).trans KC.out
    have o2 := ko.out.setCell (p := ⟨w.heap.size, 3, none⟩) hne (.slice (some ⟨w.heap.size + 1, 0, none⟩) n n)
    have b2 : Below w.heap.size w (w1.setCell ⟨w.heap.size, 3, none⟩ (.slice (some ⟨w.heap.size + 1, 0, none⟩) n n)) := B1.out.setCell (Nat.le_refl _) _
    generalize w1.setCell ⟨w.heap.size, 3, none⟩ (.slice (some ⟨w.heap.size + 1, 0, none⟩) n n) = W2 at k2 g2 r2 o2 b2 ⊢
    clear K1 kg ko KC B1 c1 z1 f1
    obtain ⟨cs, hcs⟩ : ∃ cs, cs = C.map (fun x => Value.int .i64 x) := ⟨_, rfl⟩
    have el : cs.length = n := by rw [hcs, List.length_map]; exact HN.out.symm
    have e1 : ∀ u ∈ cs, u.oneCell' = true := by
      intro u hu
      rw [hcs] at hu
      obtain ⟨x, _, rfl⟩ := List.mem_map.1 hu
      rfl
    have src : ∀ j u, cs[j]? = some u → W2.cell? ((⟨b, off, none⟩ : Addr).add j) = some u := by
      intro j u hj
      rcases o2 with ⟨h0, _⟩ | ⟨b', off', cap', cur', he, _, hb2, _, _, _, hx⟩
      · cases h0
      · simp only [Value.slice.injEq, Option.some.injEq, Addr.mk.injEq, and_true] at he
        obtain ⟨⟨rfl, rfl⟩, _⟩ := he
        rw [add_plain, blk_cell hb2]
        refine hx j u ?_
        rw [hcs, List.getElem?_map] at hj
        rw [flatZC, List.getElem?_map]; exact hj
    have c2 := blk_cell k2
    have z2 := lt_of_block k2
    have f2 := blk_frozen k2
    have c3 := blk_cell g2
    have HB := Lib.hid b2
    have hlt0 : Hid (b < W2.heap.size) := Lib.hid (o2.lt b rfl).2
    have HK := Lib.hid k2
    have G2 := Lib.hid g2
    have HS := Lib.hid src
    have HE := Lib.hid e1
    have R2 := Lib.hid r2
    have EL := Lib.hid el
    have CS := Lib.hid cs1.out
    have HCS := Lib.hid hcs
    clear b2 k2 src e1 r2 el g2 o2 hcs
    refine wp_region_N (fun W => Below W2.heap.size W2 W) [6] (by kernel_rfl) (Below.drew (Below.refl _ _)) (fun hHeld => ?_)
    refine wpAnyN_pure (i := 0) (v := .pointer (some ⟨w.heap.size, 3, none⟩)) rfl (by kernel_rfl) (by kernel_rfl) (by kernel_rfl) (fun _ _ _ h => h) (Or.inl ⟨by rfl, fun W _ => by go_simp⟩) ?_
    try simp only [Act.put, List.setIfInBounds_toArray, List.set_cons_zero, List.set_cons_succ]
    refine wpAnyN_take (i := 1) (v := .slice (some ⟨w.heap.size + 1, 0, none⟩) n n) rfl (by kernel_rfl) (by kernel_rfl) (by kernel_rfl) (by kernel_rfl) (fun _ _ _ h => h) (Or.inl ⟨by rfl, fun W hW => by have q1 := blk_cell (blk_below HK.out hW); have q2 := blk_cell (blk_below G2.out hW); go_simp⟩) hHeld ?_
    try simp only [Act.put, List.setIfInBounds_toArray, List.set_cons_zero, List.set_cons_succ]
    refine wpAnyN_pure (i := 2) (v := .pointer (some ⟨g, 0, none⟩)) rfl (by kernel_rfl) (by kernel_rfl) (by kernel_rfl) (fun _ _ _ h => h) (Or.inl ⟨by rfl, fun W _ => by go_simp⟩) ?_
    try simp only [Act.put, List.setIfInBounds_toArray, List.set_cons_zero, List.set_cons_succ]
    refine wpAnyN_pure (i := 3) (v := .pointer (some ⟨g, 0, none⟩)) rfl (by kernel_rfl) (by kernel_rfl) (by kernel_rfl) (fun _ _ _ h => h) (Or.inl ⟨by rfl, fun W _ => by go_simp⟩) ?_
    try simp only [Act.put, List.setIfInBounds_toArray, List.set_cons_zero, List.set_cons_succ]
    refine wpAnyN_pure (i := 4) (v := .pointer (some ⟨g, 3, none⟩)) rfl (by kernel_rfl) (by kernel_rfl) (by kernel_rfl) (fun _ _ _ h => h) (Or.inl ⟨by rfl, fun W _ => by go_simp⟩) ?_
    try simp only [Act.put, List.setIfInBounds_toArray, List.set_cons_zero, List.set_cons_succ]
    refine wpAnyN_take (i := 5) (v := .slice (some ⟨b, off, none⟩) n cap) rfl (by kernel_rfl) (by kernel_rfl) (by kernel_rfl) (by kernel_rfl) (fun _ _ _ h => h) (Or.inl ⟨by rfl, fun W hW => by have q1 := blk_cell (blk_below HK.out hW); have q2 := blk_cell (blk_below G2.out hW); go_simp⟩) hHeld ?_
    try simp only [Act.put, List.setIfInBounds_toArray, List.set_cons_zero, List.set_cons_succ]
    have BW := Lib.hid hHeld
    clear hHeld
    generalize W2.drew = W3 at BW ⊢
    have r3 := blk_below R2.out BW.out
    have k3 := Lib.hid (blk_below HK.out BW.out)
    refine wpAnyN_one (i := 6) (by kernel_rfl) rfl (fun K hK => ?_)
    go_simp
    rw [run_copy_row (P := Tryz.prog) W3 133 133 _ 3 (w.heap.size + 1) 0 n n ⟨b, off, none⟩ n cap cur 3 cs Tryz.underlying133 (by kernel_rfl) r3 (by rw [EL.out]; exact (Nat.min_self n).symm) (fun j u hj => (BW.out.cell ?hlt).trans (HS.out j u hj)) (by rw [EL.out, CS.out]; omega) HE.out]
    case hlt => rw [add_plain]; exact hlt0.out
    go_simp
    refine hK.out _ _ (fun h => absurd (by simp) h) ?_
    refine wpAnyN_done (by kernel_rfl) ?_ _
    have row := Lib.hid (setRow_heap W3 (w.heap.size + 1) _ (cs ++ List.drop cs.length cur.toList).toArray 3 _ r3)
    have k4 := Lib.hid ((setRow_other W3 (w.heap.size + 1) w.heap.size (cs ++ List.drop cs.length cur.toList).toArray (by omega)).trans k3.out)
    have b4 := Lib.hid (below_setRow (HB.out.trans (BW.out.mono HB.out.size)) (Nat.le_succ _) (cs ++ List.drop cs.length cur.toList).toArray : Below w.heap.size w (W3.setRow (w.heap.size + 1) _))
    generalize W3.setRow (w.heap.size + 1) (cs ++ List.drop cs.length cur.toList).toArray = W4 at row k4 b4 ⊢
    clear hK K r3 k3
    go_wp2_with fail
    go_ret
    refine ⟨w.heap.size, _, rfl, ⟨_, C, k4.out, .inr ⟨w.heap.size + 1, 0, n, _, by rw [HN.out], Nat.zero_le _, row.out, Nat.le_of_eq HN.out.symm, by simp only [maxLen]; omega, by simp [EL.out], fun j u hj => ?_⟩, HL.out, HC.out, rfl⟩, ?_, b4.out⟩
    · rw [flatZC, ← HCS.out] at hj
      have hlt : j < cs.length := (List.getElem?_eq_some_iff.1 hj).1
      simp only [Nat.zero_add, List.getElem?_toArray]
      rw [List.getElem?_append_left hlt]; exact hj
    · rintro q (rfl | hq)
      · exact Nat.le_refl _
      · cases hq; exact Nat.le_succ _
end Go.Proofs.YtgjaopfjffncbaaGreat
/- (*probe.Probe).Clone: a copy of its own. -/
namespace Go.Proofs.YtgjaopfjffncbaaGreat
open Go.ChangeShapes Go.WideShapes Go.ChangeAt Go.RowKit
set_option linter.unusedVariables false
set_option linter.unusedSimpArgs false

set_option maxRecDepth 100000 in
/-- clone_N for any table. -/
theorem clone_T (w : World) (A : Option Addr) (cap : Nat) (l : List Nd) (hS : Sl w w.heap.size encN A l) (hn : l.length ≤ 17179869184) :
    Calls Tryz.prog 190 #[.slice A l.length cap] w (OwnPost 115 encN l w) := by
  rcases A with _ | a
  · have h0 : l = [] := by
      rcases hS with h | ⟨b, off, hA, _⟩
      · exact h
      · cases hA
    subst h0
    go_enter Tryz.func190, Tryz.ntmps190
    go_wp2_with fail
    go_ret
    exact ⟨_, rfl, Own.nil _ _ _ _, (by repeat (first | with_reducible exact Below.refl _ _ | with_reducible assumption | ((with_reducible refine Below.setCell ?_ ?_ _); rotate_left; · (first | omega | exact Nat.le_refl _ | (simp <;> omega))) | (with_reducible refine Below.allocW ?_ _) | (with_reducible refine Below.drew ?_) | (with_reducible refine Below.extW ?_ _)))⟩
  · have HS := Lib.hid hS
    clear hS
    go_enter Tryz.func190, Tryz.ntmps190
    go_wp2_with ((at_builtin; refine wpList_app tyN rfl _ _ rfl encN w.heap.size (.slice (some ⟨w.heap.size, 0, none⟩) 0 0) [] rfl ?ho (some a) cap l w.heap.size rfl ?hs ?c1 ?c2 ?c3 ?c4))
    case ho => exact .inr ⟨w.heap.size, 0, 0, #[], rfl, Nat.le_refl _, heap_alloc_new w _, Nat.le_refl _, by simp, by simp, fun j u hj => by simp at hj⟩
    case hs => exact HS.out.keep (Nat.le_refl _) fun p hp => ((Below.refl w.heap.size w).alloc (Nat.le_refl _) _).cell hp
    case c1 => simp; omega
    case c2 => simp [maxLen]; omega
    case c3 => simp
    case c4 =>
      intro v' w1 ho1 _ _ hb1 _
      have B1 : Below w.heap.size w w1 := ((Below.refl w.heap.size w).alloc (Nat.le_refl _) _).trans hb1
      have HO1 := Lib.hid (show Own w1 w.heap.size 115 encN v' l by simpa using ho1)
      clear ho1
      go_wp2_with fail
      go_ret
      exact ⟨_, rfl, HO1.out, B1⟩

theorem probe_Clone_nil (w : World) : Calls Tryz.prog 157 #[.pointer none] w fun e w' => e = .returned (.pointer none) ∧ Below w.heap.size w w' := by
  go_enter Tryz.func157, Tryz.ntmps157
  go_wp2_with fail
  go_ret
  exact ⟨rfl, (by repeat (first | with_reducible exact Below.refl _ _ | with_reducible assumption | ((with_reducible refine Below.setCell ?_ ?_ _); rotate_left; · (first | omega | exact Nat.le_refl _ | (simp <;> omega))) | (with_reducible refine Below.allocW ?_ _) | (with_reducible refine Below.drew ?_) | (with_reducible refine Below.extW ?_ _)))⟩
theorem PInv.length {b : Nat} {S m : List Nd} (h : PInv b S m) : S.length = 2 ^ b := h.len
set_option maxRecDepth 100000 in
theorem probe_Clone (w : World) (g l : Nat) (r : List Nd) (F : Nat → Prop) (h : ProbeAt w g l r F) : Calls Tryz.prog 157 #[.pointer (some ⟨g, 0, none⟩)] w fun e w' =>
    ∃ g' F', e = .returned (.pointer (some ⟨g', 0, none⟩)) ∧ ProbeAt w' g' l r F' ∧ (∀ b, F' b → w.heap.size ≤ b) ∧ Below w.heap.size w w' := by
  obtain ⟨v, S, b, hh, ho, hI, h3, h34, h2, _⟩ := h
  have hlen : S.length ≤ 17179869184 := by
    have := PInv.length hI
    have h5 := Nat.pow_le_pow_right (n := 2) (by decide) h34
    have h6 : (2 : Nat) ^ 34 = 17179869184 := by decide
    omega
  obtain ⟨A, cap, rfl, hc1, hc2, hS⟩ := ho.rd
  have HC := Lib.hid (fun (W : World) (a : Sl W W.heap.size encN A S) => clone_T W A cap S a hlen)
  have HS := Lib.hid hS
  have HI := Lib.hid hI
  have H2 := Lib.hid h2
  have c := blk_cell hh
  have z := lt_of_block hh
  clear hh ho hS hI h2 hc1 hc2 hlen
  go_enter Tryz.func157, Tryz.ntmps157
  go_wp2_with fail
  refine (HC.out _ ?hs).mono ?_
  case hs => exact HS.out.keep (by simp) fun p hp => ((Below.refl w.heap.size w).alloc (Nat.le_refl _) _).cell hp
  rintro e w1 ⟨v', rfl, ho1, hb1⟩
  obtain ⟨A', cap', rfl, hf1, hf2, _⟩ := ho1.form
  have k1 := blk_below (heap_alloc_new w _) hb1
  have c1 := blk_cell k1
  have z1 := lt_of_block k1
  have f1 := blk_frozen k1
  have B1 := Lib.hid (((Below.refl w.heap.size w).alloc (Nat.le_refl _) (.cells #[.int .i64 l, .int .i64 b, .int .i64 r.length, .int .i64 (sumR r), .slice A S.length cap] 220)).trans (hb1.mono (by simp)))
  have K1 := Lib.hid k1
  have O1 := Lib.hid ho1
  clear c k1 ho1 hb1
  go_wp2_with fail
  go_ret
  have hne : Value.ownBlock (.slice A' S.length cap') ≠ some w.heap.size := fun he => by
    have := (O1.out.lt _ he).1
    simp at this
    omega
  refine ⟨w.heap.size, _, rfl, ⟨_, S, b, heap_set_at (i := 4) K1.out _, (O1.out.setCell (p := ⟨w.heap.size, 4, none⟩) hne _).base_le (Nat.zero_le _), HI.out, h3, h34, H2.out, rfl⟩, ?_, B1.out.setCell (Nat.le_refl _) _⟩
  rintro q (rfl | hq)
  · exact Nat.le_refl _
  · have := (O1.out.lt _ hq).1
    simp at this
    omega
end Go.Proofs.YtgjaopfjffncbaaGreat
/- Clone of a pool and of a digest: a copy of its own (printed by wip/tools/gen_clone.py). -/
namespace Go.Proofs.YtgjaopfjffncbaaGreat
open Go.ChangeShapes Go.WideShapes Go.ChangeAt Go.RowKit
set_option linter.unusedVariables false
set_option linter.unusedSimpArgs false
set_option maxRecDepth 100000

set_option maxHeartbeats 2000000 in
theorem pool_Clone (w : World) (g K l : Nat) (r : List Nd) (F : Nat → Prop) (h : PoolAt w g K l r F) : Calls Tryz.prog 107 #[.pointer (some ⟨g, 0, none⟩)] w fun e w' =>
    ∃ g' F', e = .returned (.pointer (some ⟨g', 0, none⟩)) ∧ PoolAt w' g' K l r F' ∧ (∀ b, F' b → w.heap.size ≤ b) ∧ Below w.heap.size w w' := by
  obtain ⟨h1, h2, hf, p, F0, _, h4⟩ := h
  have HF := Lib.hid hf
  rcases h4 with ⟨rfl, h16, hh, hd⟩ | ⟨rfl, hh, hd⟩
  · skip
    have H := Lib.hid hh
    have Z := Lib.hid (lt_of_block hh)
    have HD := Lib.hid hd
    clear hh hd hf
    go_enter Tryz.func107, Tryz.ntmps107
    go_upto_region 3 with fail
    refine wp_region_N (fun W => Below w.heap.size w W) [] (by kernel_rfl) (Below.drew (Below.refl _ _)) (fun hHeld => ?_)
    refine wpAnyN_pure (i := 0) (v := .pointer (some ⟨g, 0, none⟩)) rfl (by kernel_rfl) (by kernel_rfl) (by kernel_rfl) (fun _ _ _ h => h) (Or.inl ⟨by rfl, fun W _ => by go_simp⟩) ?_
    try simp only [Act.put, List.setIfInBounds_toArray, List.set_cons_zero, List.set_cons_succ]
    refine wpAnyN_pure (i := 1) (v := .pointer (some ⟨g, 0, none⟩)) rfl (by kernel_rfl) (by kernel_rfl) (by kernel_rfl) (fun _ _ _ h => h) (Or.inl ⟨by rfl, fun W _ => by go_simp⟩) ?_
    try simp only [Act.put, List.setIfInBounds_toArray, List.set_cons_zero, List.set_cons_succ]
    refine wpAnyN_pure (i := 2) (v := .pointer (some ⟨g, 0, none⟩)) rfl (by kernel_rfl) (by kernel_rfl) (by kernel_rfl) (fun _ _ _ h => h) (Or.inl ⟨by rfl, fun W _ => by go_simp⟩) ?_
    try simp only [Act.put, List.setIfInBounds_toArray, List.set_cons_zero, List.set_cons_succ]
    refine wpAnyN_take (i := 3) (v := .pointer (some ⟨p, 0, none⟩)) rfl (by kernel_rfl) (by kernel_rfl) (by kernel_rfl) (by kernel_rfl) (fun _ _ _ h => h) (Or.inl ⟨by rfl, fun W hW => by have q1 := blk_cell ((hW.block g Z.out).trans H.out); go_simp⟩) hHeld ?_
    try simp only [Act.put, List.setIfInBounds_toArray, List.set_cons_zero, List.set_cons_succ]
    refine wpAnyN_pure (i := 5) (v := .pointer (some ⟨g, 0, none⟩)) rfl (by kernel_rfl) (by kernel_rfl) (by kernel_rfl) (fun _ _ _ h => h) (Or.inl ⟨by rfl, fun W _ => by go_simp⟩) ?_
    try simp only [Act.put, List.setIfInBounds_toArray, List.set_cons_zero, List.set_cons_succ]
    refine wpAnyN_pure (i := 6) (v := .pointer (some ⟨g, 0, none⟩)) rfl (by kernel_rfl) (by kernel_rfl) (by kernel_rfl) (fun _ _ _ h => h) (Or.inl ⟨by rfl, fun W _ => by go_simp⟩) ?_
    try simp only [Act.put, List.setIfInBounds_toArray, List.set_cons_zero, List.set_cons_succ]
    refine wpAnyN_pure (i := 7) (v := .pointer (some ⟨g, 1, none⟩)) rfl (by kernel_rfl) (by kernel_rfl) (by kernel_rfl) (fun _ _ _ h => h) (Or.inl ⟨by rfl, fun W _ => by go_simp⟩) ?_
    try simp only [Act.put, List.setIfInBounds_toArray, List.set_cons_zero, List.set_cons_succ]
    refine wpAnyN_take (i := 8) (v := .pointer none) rfl (by kernel_rfl) (by kernel_rfl) (by kernel_rfl) (by kernel_rfl) (fun _ _ _ h => h) (Or.inl ⟨by rfl, fun W hW => by have q1 := blk_cell ((hW.block g Z.out).trans H.out); go_simp⟩) hHeld ?_
    try simp only [Act.put, List.setIfInBounds_toArray, List.set_cons_zero, List.set_cons_succ]
    have B0 := hHeld
    clear hHeld
    generalize w.drew = V0 at B0 ⊢
    refine wpAnyN_one (i := 4) (by kernel_rfl) rfl (fun K' hK => ?_)
    go_simp
    refine (dense_Clone _ p l r F0 (HD.out.keep fun q hq => B0.block q (HD.out.lt q hq)) h16).mono ?_
    rintro e V1 ⟨p', F1, rfl, hd1, hF1, hb⟩
    have B1 := B0.trans (hb.mono B0.size)
    refine hK.out _ _ (fun _ _ => B1) ?_
    clear hK K'
    try simp only [Act.put, List.setIfInBounds_toArray, List.set_cons_zero, List.set_cons_succ]
    refine wpAnyN_one (i := 9) (by kernel_rfl) rfl (fun K' hK => ?_)
    go_simp
    refine (probe_Clone_nil _).mono ?_
    rintro e V2 ⟨rfl, hb2⟩
    have hd2 := Lib.hid (hd1.below hb2)
    have hF2 := Lib.hid (fun q hq => Nat.le_trans B0.size (hF1 q hq))
    clear hd1 hF1
    have B2 := B1.trans (hb2.mono B1.size)
    refine hK.out _ _ (fun _ _ => B2) ?_
    clear hK K'
    try simp only [Act.put, List.setIfInBounds_toArray, List.set_cons_zero, List.set_cons_succ]
    refine wpAnyN_pure (i := 10) (v := .agg #[.pointer (some ⟨p', 0, none⟩), .pointer none]) rfl (by kernel_rfl) (by kernel_rfl) (by kernel_rfl) (fun _ _ _ h => h) (Or.inl ⟨by rfl, fun W _ => by go_simp⟩) ?_
    try simp only [Act.put, List.setIfInBounds_toArray, List.set_cons_zero, List.set_cons_succ]
    refine wpAnyN_one (i := 11) (by kernel_rfl) rfl (fun K' hK => ?_)
    go_simp
    have B3 := B2.alloc B2.size (.cells #[.pointer (some ⟨p', 0, none⟩), .pointer none] 174)
    refine hK.out _ _ (fun _ _ => B3) ?_
    clear hK K'
    try simp only [Act.put, List.setIfInBounds_toArray, List.set_cons_zero, List.set_cons_succ]
    refine wpAnyN_one (i := 12) (by kernel_rfl) rfl (fun K' hK => ?_)
    go_simp
    refine hK.out _ _ (fun _ _ => B3) ?_
    clear hK K'
    try simp only [Act.put, List.setIfInBounds_toArray, List.set_cons_zero, List.set_cons_succ]
    refine wpAnyN_done (by kernel_rfl) ?_ _
    clear hb hb2 B0 B1
    have HB2 := Lib.hid B2
    have HB3 := Lib.hid B3
    clear B2 B3
    go_wp2_with fail
    go_ret
    refine ⟨V2.heap.size, footP V2.heap.size F1, rfl, ⟨h1, h2, HF.out, p', F1, rfl, .inl ⟨rfl, h16, heap_alloc_new V2 _, hd2.out.below ((Below.refl _ _).alloc (Nat.le_refl _) _)⟩⟩, ?_, HB3.out⟩
    rintro q (rfl | hq)
    · exact HB2.out.size
    · exact hF2.out q hq
  · skip
    have H := Lib.hid hh
    have Z := Lib.hid (lt_of_block hh)
    have HD := Lib.hid hd
    clear hh hd hf
    go_enter Tryz.func107, Tryz.ntmps107
    go_upto_region 3 with fail
    refine wp_region_N (fun W => Below w.heap.size w W) [] (by kernel_rfl) (Below.drew (Below.refl _ _)) (fun hHeld => ?_)
    refine wpAnyN_pure (i := 0) (v := .pointer (some ⟨g, 0, none⟩)) rfl (by kernel_rfl) (by kernel_rfl) (by kernel_rfl) (fun _ _ _ h => h) (Or.inl ⟨by rfl, fun W _ => by go_simp⟩) ?_
    try simp only [Act.put, List.setIfInBounds_toArray, List.set_cons_zero, List.set_cons_succ]
    refine wpAnyN_pure (i := 1) (v := .pointer (some ⟨g, 0, none⟩)) rfl (by kernel_rfl) (by kernel_rfl) (by kernel_rfl) (fun _ _ _ h => h) (Or.inl ⟨by rfl, fun W _ => by go_simp⟩) ?_
    try simp only [Act.put, List.setIfInBounds_toArray, List.set_cons_zero, List.set_cons_succ]
    refine wpAnyN_pure (i := 2) (v := .pointer (some ⟨g, 0, none⟩)) rfl (by kernel_rfl) (by kernel_rfl) (by kernel_rfl) (fun _ _ _ h => h) (Or.inl ⟨by rfl, fun W _ => by go_simp⟩) ?_
    try simp only [Act.put, List.setIfInBounds_toArray, List.set_cons_zero, List.set_cons_succ]
    refine wpAnyN_take (i := 3) (v := .pointer none) rfl (by kernel_rfl) (by kernel_rfl) (by kernel_rfl) (by kernel_rfl) (fun _ _ _ h => h) (Or.inl ⟨by rfl, fun W hW => by have q1 := blk_cell ((hW.block g Z.out).trans H.out); go_simp⟩) hHeld ?_
    try simp only [Act.put, List.setIfInBounds_toArray, List.set_cons_zero, List.set_cons_succ]
    refine wpAnyN_pure (i := 5) (v := .pointer (some ⟨g, 0, none⟩)) rfl (by kernel_rfl) (by kernel_rfl) (by kernel_rfl) (fun _ _ _ h => h) (Or.inl ⟨by rfl, fun W _ => by go_simp⟩) ?_
    try simp only [Act.put, List.setIfInBounds_toArray, List.set_cons_zero, List.set_cons_succ]
    refine wpAnyN_pure (i := 6) (v := .pointer (some ⟨g, 0, none⟩)) rfl (by kernel_rfl) (by kernel_rfl) (by kernel_rfl) (fun _ _ _ h => h) (Or.inl ⟨by rfl, fun W _ => by go_simp⟩) ?_
    try simp only [Act.put, List.setIfInBounds_toArray, List.set_cons_zero, List.set_cons_succ]
    refine wpAnyN_pure (i := 7) (v := .pointer (some ⟨g, 1, none⟩)) rfl (by kernel_rfl) (by kernel_rfl) (by kernel_rfl) (fun _ _ _ h => h) (Or.inl ⟨by rfl, fun W _ => by go_simp⟩) ?_
    try simp only [Act.put, List.setIfInBounds_toArray, List.set_cons_zero, List.set_cons_succ]
    refine wpAnyN_take (i := 8) (v := .pointer (some ⟨p, 0, none⟩)) rfl (by kernel_rfl) (by kernel_rfl) (by kernel_rfl) (by kernel_rfl) (fun _ _ _ h => h) (Or.inl ⟨by rfl, fun W hW => by have q1 := blk_cell ((hW.block g Z.out).trans H.out); go_simp⟩) hHeld ?_
    try simp only [Act.put, List.setIfInBounds_toArray, List.set_cons_zero, List.set_cons_succ]
    have B0 := hHeld
    clear hHeld
    generalize w.drew = V0 at B0 ⊢
    refine wpAnyN_one (i := 4) (by kernel_rfl) rfl (fun K' hK => ?_)
    go_simp
    refine (dense_Clone_nil _).mono ?_
    rintro e V1 ⟨rfl, hb⟩
    have B1 := B0.trans (hb.mono B0.size)
    refine hK.out _ _ (fun _ _ => B1) ?_
    clear hK K'
    try simp only [Act.put, List.setIfInBounds_toArray, List.set_cons_zero, List.set_cons_succ]
    refine wpAnyN_one (i := 9) (by kernel_rfl) rfl (fun K' hK => ?_)
    go_simp
    refine (probe_Clone _ p l r F0 (HD.out.keep fun q hq => B1.block q (HD.out.lt q hq))).mono ?_
    rintro e V2 ⟨p', F1, rfl, hd1, hF1, hb2⟩
    have hd2 := Lib.hid hd1
    have hF2 := Lib.hid (fun q hq => Nat.le_trans B1.size (hF1 q hq))
    clear hd1 hF1
    have B2 := B1.trans (hb2.mono B1.size)
    refine hK.out _ _ (fun _ _ => B2) ?_
    clear hK K'
    try simp only [Act.put, List.setIfInBounds_toArray, List.set_cons_zero, List.set_cons_succ]
    refine wpAnyN_pure (i := 10) (v := .agg #[.pointer none, .pointer (some ⟨p', 0, none⟩)]) rfl (by kernel_rfl) (by kernel_rfl) (by kernel_rfl) (fun _ _ _ h => h) (Or.inl ⟨by rfl, fun W _ => by go_simp⟩) ?_
    try simp only [Act.put, List.setIfInBounds_toArray, List.set_cons_zero, List.set_cons_succ]
    refine wpAnyN_one (i := 11) (by kernel_rfl) rfl (fun K' hK => ?_)
    go_simp
    have B3 := B2.alloc B2.size (.cells #[.pointer none, .pointer (some ⟨p', 0, none⟩)] 174)
    refine hK.out _ _ (fun _ _ => B3) ?_
    clear hK K'
    try simp only [Act.put, List.setIfInBounds_toArray, List.set_cons_zero, List.set_cons_succ]
    refine wpAnyN_one (i := 12) (by kernel_rfl) rfl (fun K' hK => ?_)
    go_simp
    refine hK.out _ _ (fun _ _ => B3) ?_
    clear hK K'
    try simp only [Act.put, List.setIfInBounds_toArray, List.set_cons_zero, List.set_cons_succ]
    refine wpAnyN_done (by kernel_rfl) ?_ _
    clear hb hb2 B0 B1
    have HB2 := Lib.hid B2
    have HB3 := Lib.hid B3
    clear B2 B3
    go_wp2_with fail
    go_ret
    refine ⟨V2.heap.size, footP V2.heap.size F1, rfl, ⟨h1, h2, HF.out, p', F1, rfl, .inr ⟨rfl, heap_alloc_new V2 _, hd2.out.below ((Below.refl _ _).alloc (Nat.le_refl _) _)⟩⟩, ?_, HB3.out⟩
    rintro q (rfl | hq)
    · exact HB2.out.size
    · exact hF2.out q hq

set_option maxHeartbeats 2000000 in
theorem digest_Clone (w : World) (g K l : Nat) (k : Int) (r : List Nd) (F : Nat → Prop) (h : DigAt w g K l k r F) : Calls Tryz.prog 57 #[.pointer (some ⟨g, 0, none⟩)] w fun e w' =>
    ∃ g' F', e = .returned (.pointer (some ⟨g', 0, none⟩)) ∧ DigAt w' g' K l k r F' ∧ (∀ b, F' b → w.heap.size ≤ b) ∧ Below w.heap.size w w' := by
  obtain ⟨hk1, hk2, p, F0, _, hh, hd⟩ := h
  have H := Lib.hid hh
  have Z := Lib.hid (lt_of_block hh)
  have HD := Lib.hid hd
  clear hh hd
  go_enter Tryz.func57, Tryz.ntmps57
  go_upto_region 3 with fail
  refine wp_region_N (fun W => Below w.heap.size w W) [] (by kernel_rfl) (Below.drew (Below.refl _ _)) (fun hHeld => ?_)
  refine wpAnyN_pure (i := 0) (v := .pointer (some ⟨g, 0, none⟩)) rfl (by kernel_rfl) (by kernel_rfl) (by kernel_rfl) (fun _ _ _ h => h) (Or.inl ⟨by rfl, fun W _ => by go_simp⟩) ?_
  try simp only [Act.put, List.setIfInBounds_toArray, List.set_cons_zero, List.set_cons_succ]
  refine wpAnyN_pure (i := 1) (v := .pointer (some ⟨g, 0, none⟩)) rfl (by kernel_rfl) (by kernel_rfl) (by kernel_rfl) (fun _ _ _ h => h) (Or.inl ⟨by rfl, fun W _ => by go_simp⟩) ?_
  try simp only [Act.put, List.setIfInBounds_toArray, List.set_cons_zero, List.set_cons_succ]
  refine wpAnyN_pure (i := 2) (v := .pointer (some ⟨g, 0, none⟩)) rfl (by kernel_rfl) (by kernel_rfl) (by kernel_rfl) (fun _ _ _ h => h) (Or.inl ⟨by rfl, fun W _ => by go_simp⟩) ?_
  try simp only [Act.put, List.setIfInBounds_toArray, List.set_cons_zero, List.set_cons_succ]
  refine wpAnyN_take (i := 3) (v := .agg #[.int .i64 k]) rfl (by kernel_rfl) (by kernel_rfl) (by kernel_rfl) (by kernel_rfl) (fun _ _ _ h => h) (Or.inl ⟨by rfl, fun W hW => by have q1 := blk_cell ((hW.block g Z.out).trans H.out); go_simp⟩) hHeld ?_
  try simp only [Act.put, List.setIfInBounds_toArray, List.set_cons_zero, List.set_cons_succ]
  refine wpAnyN_pure (i := 4) (v := .pointer (some ⟨g, 0, none⟩)) rfl (by kernel_rfl) (by kernel_rfl) (by kernel_rfl) (fun _ _ _ h => h) (Or.inl ⟨by rfl, fun W _ => by go_simp⟩) ?_
  try simp only [Act.put, List.setIfInBounds_toArray, List.set_cons_zero, List.set_cons_succ]
  refine wpAnyN_pure (i := 5) (v := .pointer (some ⟨g, 0, none⟩)) rfl (by kernel_rfl) (by kernel_rfl) (by kernel_rfl) (fun _ _ _ h => h) (Or.inl ⟨by rfl, fun W _ => by go_simp⟩) ?_
  try simp only [Act.put, List.setIfInBounds_toArray, List.set_cons_zero, List.set_cons_succ]
  refine wpAnyN_pure (i := 6) (v := .pointer (some ⟨g, 1, none⟩)) rfl (by kernel_rfl) (by kernel_rfl) (by kernel_rfl) (fun _ _ _ h => h) (Or.inl ⟨by rfl, fun W _ => by go_simp⟩) ?_
  try simp only [Act.put, List.setIfInBounds_toArray, List.set_cons_zero, List.set_cons_succ]
  refine wpAnyN_pure (i := 7) (v := .pointer (some ⟨g, 1, none⟩)) rfl (by kernel_rfl) (by kernel_rfl) (by kernel_rfl) (fun _ _ _ h => h) (Or.inl ⟨by rfl, fun W _ => by go_simp⟩) ?_
  try simp only [Act.put, List.setIfInBounds_toArray, List.set_cons_zero, List.set_cons_succ]
  refine wpAnyN_take (i := 8) (v := .pointer (some ⟨p, 0, none⟩)) rfl (by kernel_rfl) (by kernel_rfl) (by kernel_rfl) (by kernel_rfl) (fun _ _ _ h => h) (Or.inl ⟨by rfl, fun W hW => by have q1 := blk_cell ((hW.block g Z.out).trans H.out); go_simp⟩) hHeld ?_
  try simp only [Act.put, List.setIfInBounds_toArray, List.set_cons_zero, List.set_cons_succ]
  have B0 := hHeld
  clear hHeld
  generalize w.drew = V0 at B0 ⊢
  refine wpAnyN_one (i := 9) (by kernel_rfl) rfl (fun K' hK => ?_)
  go_simp
  refine (pool_Clone _ p K l r F0 (HD.out.keep fun q hq => B0.block q (HD.out.lt q hq))).mono ?_
  rintro e V1 ⟨p', F1, rfl, hd1, hF1, hb⟩
  have B1 := B0.trans (hb.mono B0.size)
  have hd2 := Lib.hid hd1
  have hF2 := Lib.hid (fun q hq => Nat.le_trans B0.size (hF1 q hq))
  clear hd1 hF1
  refine hK.out _ _ (fun _ _ => B1) ?_
  clear hK K'
  try simp only [Act.put, List.setIfInBounds_toArray, List.set_cons_zero, List.set_cons_succ]
  refine wpAnyN_pure (i := 10) (v := .agg #[.pointer (some ⟨p', 0, none⟩)]) rfl (by kernel_rfl) (by kernel_rfl) (by kernel_rfl) (fun _ _ _ h => h) (Or.inl ⟨by rfl, fun W _ => by go_simp⟩) ?_
  try simp only [Act.put, List.setIfInBounds_toArray, List.set_cons_zero, List.set_cons_succ]
  refine wpAnyN_pure (i := 11) (v := .agg #[.int .i64 k, .pointer (some ⟨p', 0, none⟩)]) rfl (by kernel_rfl) (by kernel_rfl) (by kernel_rfl) (fun _ _ _ h => h) (Or.inl ⟨by rfl, fun W _ => by go_simp⟩) ?_
  try simp only [Act.put, List.setIfInBounds_toArray, List.set_cons_zero, List.set_cons_succ]
  refine wpAnyN_one (i := 12) (by kernel_rfl) rfl (fun K' hK => ?_)
  go_simp
  have B3 := B1.alloc B1.size (.cells #[.int .i64 k, .pointer (some ⟨p', 0, none⟩)] 122)
  refine hK.out _ _ (fun _ _ => B3) ?_
  clear hK K'
  try simp only [Act.put, List.setIfInBounds_toArray, List.set_cons_zero, List.set_cons_succ]
  refine wpAnyN_one (i := 13) (by kernel_rfl) rfl (fun K' hK => ?_)
  go_simp
  refine hK.out _ _ (fun _ _ => B3) ?_
  clear hK K'
  try simp only [Act.put, List.setIfInBounds_toArray, List.set_cons_zero, List.set_cons_succ]
  refine wpAnyN_done (by kernel_rfl) ?_ _
  have HB2 := Lib.hid B1
  have HB3 := Lib.hid B3
  clear hb B0 B1 B3
  go_wp2_with fail
  go_ret
  refine ⟨V1.heap.size, footP V1.heap.size F1, rfl, ⟨hk1, hk2, p', F1, rfl, heap_alloc_new V1 _, hd2.out.below ((Below.refl _ _).alloc (Nat.le_refl _) _)⟩, ?_, HB3.out⟩
  rintro q (rfl | hq)
  · exact HB2.out.size
  · exact hF2.out q hq
theorem digest_Clone_nil (w : World) : Calls Tryz.prog 57 #[.pointer none] w fun e w' => e = .returned (.pointer none) ∧ Below w.heap.size w w' := by
  go_enter Tryz.func57, Tryz.ntmps57
  go_wp2_with fail
  go_ret
  exact ⟨rfl, (by repeat (first | with_reducible exact Below.refl _ _ | with_reducible assumption | ((with_reducible refine Below.setCell ?_ ?_ _); rotate_left; · (first | omega | exact Nat.le_refl _ | (simp <;> omega))) | (with_reducible refine Below.allocW ?_ _) | (with_reducible refine Below.drew ?_) | (with_reducible refine Below.extW ?_ _)))⟩
end Go.Proofs.YtgjaopfjffncbaaGreat
/- Package sensor: Ready, Tick, Digest, Put. -/
namespace Go.Proofs.YtgjaopfjffncbaaGreat
open Go.ChangeShapes Go.WideShapes Go.ChangeAt Go.RowKit
set_option linter.unusedVariables false
set_option linter.unusedSimpArgs false
set_option maxRecDepth 100000

def readyS (s : Sen) : Bool := !s.sent && (decide (s.heard = s.p.kids) || decide (s.p.wait ≤ s.ti))
def sentS (s : Sen) : Sen := { s with sent := true }
def tickS (s : Sen) : Sen := { s with ti := s.ti + 1 }
def tickedS (s : Sen) : Sen := if s.ti < s.p.wait then tickS s else s
set_option maxHeartbeats 1000000 in
theorem sensor_Ready (w : World) (g dg : Nat) (s : Sen) (h : SenAt w g dg s) : Calls Tryz.prog 38 #[.pointer (some ⟨g, 0, none⟩)] w fun e w' => e = .returned (.bool (readyS s)) ∧ Below w.heap.size w w' := by
  obtain ⟨l, k, kd, ⟨me, kids, wait⟩, ep, ti, heard, cover, sent⟩ := s
  have cc := blk_cell h
  have cf := blk_frozen h
  have zb := lt_of_block h
  unfold readyS
  dsimp only at *
  clear h
  cases sent
  · by_cases h1 : heard = kids
    · have h1' : ((heard : Int) == (kids : Int)) = true := beq_iff_eq.2 (by omega)
      have hd : decide (heard = kids) = true := by simpa using h1
      rw [hd]
      clear h1 hd
      go_enter Tryz.func38, Tryz.ntmps38
      go_upto_region 1 with fail
      refine wp_region_ext (by kernel_rfl) (by kernel_rfl) ?_
      repeat (go_big_quiet_step (fail))
      refine wpQuiet_nil ?_
      intro w1 hb1
      replace hb1 := below_of_ext hb1
      have B1 : Below w.heap.size w w1 := Below.then_ (by repeat (first | with_reducible exact Below.refl _ _ | with_reducible assumption | ((with_reducible refine Below.setCell ?_ ?_ _); rotate_left; · (first | omega | exact Nat.le_refl _ | (simp <;> omega))) | (with_reducible refine Below.allocW ?_ _) | (with_reducible refine Below.drew ?_) | (with_reducible refine Below.extW ?_ _))) hb1
      have s1 : w.heap.size ≤ w1.heap.size := B1.size
      go_wp2_with fail
      go_ret
      exact ⟨rfl, B1⟩
    · have h1' : ((heard : Int) == (kids : Int)) = false := by simp; omega
      have hd : decide (heard = kids) = false := by simpa using h1
      rw [hd]
      clear h1 hd
      go_enter Tryz.func38, Tryz.ntmps38
      go_upto_region 1 with fail
      refine wp_region_ext (by kernel_rfl) (by kernel_rfl) ?_
      repeat (go_big_quiet_step (fail))
      refine wpQuiet_nil ?_
      intro w1 hb1
      replace hb1 := below_of_ext hb1
      have B1 : Below w.heap.size w w1 := Below.then_ (by repeat (first | with_reducible exact Below.refl _ _ | with_reducible assumption | ((with_reducible refine Below.setCell ?_ ?_ _); rotate_left; · (first | omega | exact Nat.le_refl _ | (simp <;> omega))) | (with_reducible refine Below.allocW ?_ _) | (with_reducible refine Below.drew ?_) | (with_reducible refine Below.extW ?_ _))) hb1
      have s1 : w.heap.size ≤ w1.heap.size := B1.size
      go_wp2_with fail
      go_ret
      exact ⟨rfl, B1⟩
  · go_enter Tryz.func38, Tryz.ntmps38
    go_upto_region 1 with fail
    refine wp_region_ext (by kernel_rfl) (by kernel_rfl) ?_
    repeat (go_big_quiet_step (fail))
    refine wpQuiet_nil ?_
    intro w1 hb1
    replace hb1 := below_of_ext hb1
    have B1 : Below w.heap.size w w1 := Below.then_ (by repeat (first | with_reducible exact Below.refl _ _ | with_reducible assumption | ((with_reducible refine Below.setCell ?_ ?_ _); rotate_left; · (first | omega | exact Nat.le_refl _ | (simp <;> omega))) | (with_reducible refine Below.allocW ?_ _) | (with_reducible refine Below.drew ?_) | (with_reducible refine Below.extW ?_ _))) hb1
    have s1 : w.heap.size ≤ w1.heap.size := B1.size
    go_wp2_with fail
    go_ret
    exact ⟨rfl, B1⟩
theorem SenAt.tick {w : World} {g dg : Nat} {s : Sen} (h : SenAt w g dg s) : SenAt (w.setCell ⟨g, 7, none⟩ (.int .i64 (s.ti + 1))) g dg (tickS s) := heap_set_at (i := 7) h _
theorem SenAt.toSent {w : World} {g dg : Nat} {s : Sen} (h : SenAt w g dg s) : SenAt (w.setCell ⟨g, 10, none⟩ (.bool true)) g dg (sentS s) := heap_set_at (i := 10) h _
theorem SensAt.set {w : World} {g K l o dg : Nat} {s s' : Sen} {r : List Nd} {F F0 : Nat → Prop} {u : Value} (hF : F = footP g F0) (h1 : SenAt (w.setCell ⟨g, o, none⟩ u) g dg s') (h2 : SenAt w g dg s) (h3 : s'.l = l) (h4 : s'.kd = K) (h5 : DigAt w dg K l s'.k r F0) (h6 : ¬ F0 g) : SensAt (w.setCell ⟨g, o, none⟩ u) g K l s' r F :=
  ⟨dg, F0, hF, h1, h3, h4, h5.keep fun b hb => Below.heap_setCell _ _ _ _ (by rintro rfl; exact h6 hb), h6⟩
set_option maxHeartbeats 1000000 in
theorem sensor_Tick (w : World) (g K l : Nat) (s : Sen) (r : List Nd) (F : Nat → Prop) (h : SensAt w g K l s r F) (ht : s.ti ≤ 9223372036854775806) (ht0 : 0 ≤ s.ti) : Calls Tryz.prog 40 #[.pointer (some ⟨g, 0, none⟩)] w fun e w' => e = .returned (.tuple #[]) ∧ SensTo w g K l (tickedS s) r F w' := by
  have HS := Lib.hid h
  obtain ⟨dg, F0, hF, h1, h2, h3, h4, h5⟩ := h
  have hw : wrap64 (s.ti + 1) = s.ti + 1 := by unfold wrap64; omega
  have cc := blk_cell h1
  have cf := blk_frozen h1
  have zb := lt_of_block h1
  have H1 := Lib.hid h1
  have HX : Hid (∀ W, Below w.heap.size w W → SensTo w g K l (tickS s) r F (W.setCell ⟨g, 7, none⟩ (.int .i64 (s.ti + 1)))) := Lib.hid fun W hb =>
    ⟨F, SensAt.set (s' := tickS s) hF (h1.below hb).tick (h1.below hb) h2 h3 (h4.below hb) h5, (Turn.of_below hb).setCell (.inl HS.out.own) _, Grow.refl⟩
  have HY : Hid (∀ W, Below w.heap.size w W → SensTo w g K l s r F W) := Lib.hid fun W hb => .below HS.out hb
  clear h1 h2 h3 h4 h5 HS hF
  unfold tickedS
  by_cases hlt : s.ti < s.p.wait
  · have hd : decide (s.ti < s.p.wait) = true := by simpa using hlt
    rw [if_pos hlt]
    generalize tickS s = s' at HX ⊢
    go_enter Tryz.func40, Tryz.ntmps40
    go_upto_region 0 with fail
    refine wp_region_ext (by kernel_rfl) (by kernel_rfl) ?_
    repeat (go_big_quiet_step (fail))
    refine wpQuiet_nil ?_
    intro w1 hb1
    replace hb1 := below_of_ext hb1
    have B1 : Below w.heap.size w w1 := Below.then_ (by repeat (first | with_reducible exact Below.refl _ _ | with_reducible assumption | ((with_reducible refine Below.setCell ?_ ?_ _); rotate_left; · (first | omega | exact Nat.le_refl _ | (simp <;> omega))) | (with_reducible refine Below.allocW ?_ _) | (with_reducible refine Below.drew ?_) | (with_reducible refine Below.extW ?_ _))) hb1
    have s1 : w.heap.size ≤ w1.heap.size := B1.size
    have z1_0 : g < w1.heap.size := by have := hb1.size; (try simp at this); omega
    have y1_0 : g ≤ w1.heap.size := Nat.le_of_lt z1_0
    have c1_0 := fun o => hb1.cell (p := ⟨g, o, none⟩) (by first | omega | (simp <;> omega))
    have f1_0 := fun o => hb1.frozen (p := ⟨g, o, none⟩) (by first | omega | (simp <;> omega))
    have cc1 := blk_cell (H1.out.below hb1)
    have B1' := Lib.hid B1
    clear c1_0 cc
    go_wp2_with fail
    go_end0
    exact ⟨rfl, HX.out _ B1'.out⟩
  · have hd : decide (s.ti < s.p.wait) = false := by simpa using hlt
    rw [if_neg hlt]
    go_enter Tryz.func40, Tryz.ntmps40
    go_upto_region 0 with fail
    refine wp_region_ext (by kernel_rfl) (by kernel_rfl) ?_
    repeat (go_big_quiet_step (fail))
    refine wpQuiet_nil ?_
    intro w1 hb1
    replace hb1 := below_of_ext hb1
    have B1 : Below w.heap.size w w1 := Below.then_ (by repeat (first | with_reducible exact Below.refl _ _ | with_reducible assumption | ((with_reducible refine Below.setCell ?_ ?_ _); rotate_left; · (first | omega | exact Nat.le_refl _ | (simp <;> omega))) | (with_reducible refine Below.allocW ?_ _) | (with_reducible refine Below.drew ?_) | (with_reducible refine Below.extW ?_ _))) hb1
    have s1 : w.heap.size ≤ w1.heap.size := B1.size
    have z1_0 : g < w1.heap.size := by have := hb1.size; (try simp at this); omega
    have y1_0 : g ≤ w1.heap.size := Nat.le_of_lt z1_0
    have c1_0 := fun o => hb1.cell (p := ⟨g, o, none⟩) (by first | omega | (simp <;> omega))
    have f1_0 := fun o => hb1.frozen (p := ⟨g, o, none⟩) (by first | omega | (simp <;> omega))
    have B1' := Lib.hid B1
    go_wp2_with fail
    go_end0
    exact ⟨rfl, HY.out _ B1'.out⟩
def DigestPost (K l : Nat) (k : Int) (r : List Nd) (w : World) (e : Ending) (w' : World) : Prop :=
  ∃ g' F', e = .returned (.pointer (some ⟨g', 0, none⟩)) ∧ DigAt w' g' K l k r F' ∧ (∀ b, F' b → w.heap.size ≤ b) ∧ Below w.heap.size w w'
theorem sensor_Digest (w : World) (g K l : Nat) (s : Sen) (r : List Nd) (F : Nat → Prop) (h : SensAt w g K l s r F) : Calls Tryz.prog 17 #[.pointer (some ⟨g, 0, none⟩)] w (DigestPost K l s.k r w) := by
  obtain ⟨dg, F0, hF, h1, h2, h3, h4, h5⟩ := h
  have cc := blk_cell h1
  have cf := blk_frozen h1
  have zb := lt_of_block h1
  have HC := Lib.hid (digest_Clone w dg K l s.k r F0 h4)
  unfold DigestPost
  clear h1 h2 h3 h4 h5 hF
  go_enter Tryz.func17, Tryz.ntmps17
  go_wp2_with fail
  refine HC.out.mono ?_
  rintro e w1 ⟨g', F', rfl, hd, hF1, hb1⟩
  have HD := Lib.hid hd
  have HF := Lib.hid hF1
  clear hd hF1
  go_wp2_with fail
  go_ret
  exact ⟨g', F', rfl, HD.out, HF.out, hb1⟩
/-- What a put tells. -/
def putErr (l : Nat) (s : Sen) (r : List Nd) (x c : Int) : Int := if s.sent = true then 18 else insErr l r x c
def PutTo (l : Nat) (s : Sen) (r : List Nd) (x c : Int) (r' : List Nd) : Prop := (s.sent = true ∧ r' = r) ∨ (s.sent = false ∧ InsTo l s.k r x c r')
theorem SensAt.dig {w w' : World} {g K l dg : Nat} {s : Sen} {r : List Nd} {F F0 : Nat → Prop} (hF : F = footP g F0) (h1 : SenAt w g dg s) (h2 : s.l = l) (h3 : s.kd = K) (h5 : ¬ F0 g) (h : DigTo w dg K l s.k r F0 w') : SensTo w g K l s r F w' := by
  obtain ⟨F', d1, d2, d3⟩ := h
  subst hF
  have hg : ¬ F' g := fun hf => (d3 g hf).elim h5 fun h => by have := lt_of_block h1; omega
  refine ⟨footP g F', ⟨dg, F', rfl, d2.keep h1 h5, h2, h3, d1, hg⟩, d2.mono fun b _ hb => .inr hb, ?_⟩
  rintro b (rfl | hb)
  · exact .inl (.inl rfl)
  · exact (d3 b hb).imp .inr id
def SPutPost (g K l : Nat) (s : Sen) (r : List Nd) (F : Nat → Prop) (x c : Int) (w : World) (e : Ending) (w' : World) : Prop :=
  ∃ r', e = .returned (.int .i64 (putErr l s r x c)) ∧ PutTo l s r x c r' ∧ SensTo w g K l s r' F w'
theorem SPutPost.of {g K l : Nat} {s : Sen} {r r' : List Nd} {F : Nat → Prop} {x c : Int} {w w' : World} (h : PutTo l s r x c r') (h2 : SensTo w g K l s r' F w') : SPutPost g K l s r F x c w (.returned (.int .i64 (putErr l s r x c))) w' := ⟨r', rfl, h, h2⟩
set_option maxHeartbeats 1000000 in
theorem sensor_Put (w : World) (g K l : Nat) (s : Sen) (r : List Nd) (F : Nat → Prop) (h : SensAt w g K l s r F) (hn : r.length ≤ 67108864) (x c : Int) :
    Calls Tryz.prog 15 #[.pointer (some ⟨g, 0, none⟩), .int .i64 x, .int .i64 c] w (SPutPost g K l s r F x c w) := by
  have HS := Lib.hid h
  obtain ⟨dg, F0, hF, h1, h2, h3, h4, h5⟩ := h
  have cc := blk_cell h1
  have cf := blk_frozen h1
  have zb := lt_of_block h1
  have HI := Lib.hid (digest_Insert w dg K l s.k r F0 h4 hn x c)
  have HX : Hid (∀ W r', DigTo w dg K l s.k r' F0 W → SensTo w g K l s r' F W) := Lib.hid fun W r' hd => SensAt.dig hF h1 h2 h3 h5 hd
  have HP : Hid (∀ W r', PutTo l s r x c r' → SensTo w g K l s r' F W → SPutPost g K l s r F x c w (.returned (.int .i64 (putErr l s r x c))) W) := Lib.hid fun W r' h1 h2 => .of h1 h2
  have HP0 : Hid (s.sent = true → putErr l s r x c = 18 ∧ PutTo l s r x c r) := Lib.hid fun h => ⟨by unfold putErr; rw [if_pos h], .inl ⟨h, rfl⟩⟩
  have HP1 : Hid (s.sent = false → putErr l s r x c = insErr l r x c ∧ ∀ r', InsTo l s.k r x c r' → PutTo l s r x c r') := Lib.hid fun h => ⟨by unfold putErr; rw [if_neg (by simp [h])], fun r' h2 => .inr ⟨h, h2⟩⟩
  generalize insErr l r x c = n at HI HP1
  generalize putErr l s r x c = n' at HP HP0 HP1
  clear h1 h2 h3 h4 h5 hF
  obtain ⟨b, hb⟩ : ∃ b, b = s.sent := ⟨_, rfl⟩
  rw [← hb] at cc HP0 HP1
  clear hb
  cases b
  · go_enter Tryz.func15, Tryz.ntmps15
    go_wp2_with fail
    refine HI.out.mono ?_
    rintro e w1 ⟨r', rfl, hi, hd⟩
    have HD := Lib.hid (HX.out _ _ hd)
    have HI2 := Lib.hid hi
    clear hd hi
    go_wp2_with fail
    have HF := Lib.hid (HP.out _ r' ((HP1.out trivial).2 r' HI2.out) HD.out)
    rw [(HP1.out trivial).1] at HF
    exact bodyPost_ret (v := .int .i64 n) (by simp only [results, Tryz.results15]; go_simp) rfl HF.out
  · go_enter Tryz.func15, Tryz.ntmps15
    go_wp2_with fail
    have HF := Lib.hid (HP.out _ r (HP0.out trivial).2 (.below HS.out (w' := w) (by repeat (first | with_reducible exact Below.refl _ _ | with_reducible assumption | ((with_reducible refine Below.setCell ?_ ?_ _); rotate_left; · (first | omega | exact Nat.le_refl _ | (simp <;> omega))) | (with_reducible refine Below.allocW ?_ _) | (with_reducible refine Below.drew ?_) | (with_reducible refine Below.extW ?_ _)))))
    rw [(HP0.out trivial).1] at HF
    exact bodyPost_ret (v := .int .i64 18) (by simp only [results, Tryz.results15]; go_simp) rfl HF.out
end Go.Proofs.YtgjaopfjffncbaaGreat
/- Package vary: rising numbers. -/
namespace Go.Proofs.YtgjaopfjffncbaaGreat
open Go.ChangeShapes Go.WideShapes Go.ChangeAt Go.RowKit
set_option linter.unusedVariables false
set_option linter.unusedSimpArgs false
set_option maxRecDepth 100000

/-- How much each number is above the one ahead of it. -/
def stepD (L : List Int) : List Int := List.zipWith (fun x p => x - p) L (0 :: L)
theorem stepD_len (L : List Int) : (stepD L).length = L.length := by simp [stepD]
theorem stepD_at (L : List Int) {q : Nat} (h : q < L.length) {p : Int} (hp : (0 :: L)[q]? = some p) : (stepD L)[q]? = some (L[q] - p) := by
  unfold stepD
  rw [List.getElem?_zipWith, hp, List.getElem?_eq_getElem h]
def risesB (L : List Int) : List UInt8 := oneB L.length ++ putB (stepD L)
def risesOk (L : List Int) : Bool := (stepD L).all fun d => decide (0 < d)
theorem putB_step {D : List Int} {q : Nat} {d : Int} (h : D[q]? = some d) : putB (D.take (q + 1)) = putB (D.take q) ++ oneB d.toNat := by
  obtain ⟨hq, rfl⟩ := List.getElem?_eq_some_iff.1 h
  exact putB_take hq
set_option maxHeartbeats 1000000 in
theorem vary_Rises (w : World) (base : Nat) (v : Value) (L : List Int) (ho : Own w base 3 encZ v L) (hi : ∀ x ∈ L, i64 x) (hl : L.length ≤ 1000000) (hr : risesOk L = true) :
    Calls Tryz.prog 142 #[v] w fun e w' => e = .returned (.tuple #[.string ⟨(risesB L).toArray⟩, .int .i64 0]) ∧ Below w.heap.size w w' := by
  obtain ⟨A, c, rfl, _⟩ := ho.form
  have HO := Lib.hid (ho.base_le (Nat.zero_le _))
  have HI := Lib.hid hi
  have HD := Lib.hid (fun q (hq : q < L.length) (d : Int) (hd : (stepD L)[q]? = some d) => by
    have := List.all_eq_true.1 hr d (List.mem_of_getElem? hd)
    simpa using this)
  clear ho hi hr
  go_enter Tryz.func142, Tryz.ntmps142
  go_wp2_with fail
  refine (vary_one w w.heap.size _ [] L.length (Own.nil _ _ _ _) (Nat.le_refl _) (by simp) (by omega)).mono ?_
  rintro e w1 ⟨v1, rfl, ho1, hb1⟩
  have HU1 := Lib.hid ho1
  have HB1 := Lib.hid hb1
  clear ho1 hb1
  go_wp2_with fail
  go_loopw [4, 5, 13] (fun u pv j wr => ∃ (q : Nat) (p : Int), j = .int .i64 q ∧ pv = .int .i64 p ∧ q ≤ L.length ∧ (0 :: L)[q]? = some p ∧ 0 ≤ p ∧ (∀ d ∈ (stepD L).take q, d ≤ 9223372036854775807) ∧ Own wr w.heap.size 5 encB8 u (oneB L.length ++ putB ((stepD L).take q)) ∧ Below w.heap.size w wr) (fun _ _ j _ => L.length - (intOf j).toNat)
  case atStart => exact ⟨0, 0, rfl, rfl, Nat.zero_le _, rfl, Int.le_refl _, by simp, by simpa [putB] using HU1.out, HB1.out⟩
  case round =>
    obtain ⟨q, p, rfl, rfl, hq, hp, hp0, hd, ho, hB⟩ := hrel
    have HB := Lib.hid hB
    have HR := Lib.hid (HO.out.below hB)
    have HU := Lib.hid ho
    have HP := Lib.hid hp
    have HDl := Lib.hid hd
    have sz := hB.size
    clear hp hd ho hB
    by_cases hlt : q < L.length
    · have hqi : (q : Int) < (L.length : Int) := by omega
      have HS := Lib.hid (stepD_at L hlt HP.out)
      have hpos := HD.out q hlt _ HS.out
      have hx1 := (HI.out _ (List.getElem_mem hlt)).2
      have HN : Hid ((0 :: L)[q + 1]? = some L[q]) := Lib.hid (by simp [List.getElem?_eq_getElem hlt])
      obtain ⟨b, off, rfl, hb, hc⟩ := HR.out.sl.at_ hlt
      have d0 := hc 0 (.int .i64 L[q]) rfl
      simp only [Nat.mul_one, Nat.add_zero] at d0
      generalize L[q] = x at HS hpos hx1 HN d0
      obtain ⟨n, hn⟩ : ∃ n : Nat, x - p = (n : Int) := ⟨(x - p).toNat, by omega⟩
      have hle : ¬ x ≤ p := by omega
      have hn9 : n ≤ 9223372036854775807 := by omega
      have HT := Lib.hid (putB_step HS.out)
      rw [hn] at HT
      have hlq : (oneB L.length ++ putB ((stepD L).take q)).length ≤ 67108864 := by
        have h1 := putB_len HDl.out
        have h2 : ((stepD L).take q).length ≤ 1000000 := by rw [List.length_take]; omega
        have h3 := oneB_le (n := L.length) (by omega)
        rw [List.length_append]
        omega
      have HD2 : Hid (∀ d ∈ (stepD L).take (q + 1), d ≤ 9223372036854775807) := Lib.hid (by
        obtain ⟨h1, h2⟩ := List.getElem?_eq_some_iff.1 HS.out
        rw [List.take_succ_eq_append_getElem h1]
        intro d hd
        rcases List.mem_append.1 hd with h | h
        · exact HDl.out d h
        · simp only [List.mem_singleton] at h; rw [h, h2]; omega)
      have hx0 : 0 ≤ x := by omega
      clear hc hpos HS
      go_wp2_with fail
      refine (vary_one wr w.heap.size _ _ n HU.out sz hlq hn9).mono ?_
      rintro e w2 ⟨v2, rfl, ho2, hb2⟩
      have HU2 := Lib.hid ho2
      have HB2 := Lib.hid (HB.out.trans hb2)
      clear ho2 hb2
      go_wp2_with fail
      go_roundw
      case rel => exact ⟨q + 1, x, by go_num, rfl, by omega, HN.out, hx0, HD2.out, by rw [HT.out, ← List.append_assoc]; exact HU2.out, HB2.out⟩
      case measure => simp [intOf]; omega
    · obtain rfl : q = L.length := by omega
      rw [show (stepD L).take L.length = stepD L by rw [← stepD_len L, List.take_length]] at HU
      have hqi : decide ((L.length : Int) < (L.length : Int)) = false := by simp
      have hGp : 0 < (oneB L.length ++ putB (stepD L)).length := by
        have := oneB_pos L.length
        rw [List.length_append]
        omega
      obtain ⟨bb, oo, cc, rfl, _⟩ := own_at0 HU.out hGp
      have hcv := run_convert_bytes_back (P := Tryz.prog) wr 151 9 5 ⟨bb, oo, none⟩ cc (oneB L.length ++ putB (stepD L)) Tryz.underlying151 Tryz.underlying5 Tryz.underlying9 (bytes_back HU.out)
      generalize hG : oneB L.length ++ putB (stepD L) = G at HU hcv hGp ⊢
      have HG := Lib.hid hG
      clear hG
      go_wp2_with fail
      all_goals exact bodyPost_ret (v := .tuple #[.string ⟨G.toArray⟩, .int .i64 0]) (by simp only [results, Tryz.results142]; go_simp) rfl ⟨by unfold risesB; rw [HG.out], HB.out⟩
end Go.Proofs.YtgjaopfjffncbaaGreat
/- What bytes tell: numbers, rising numbers. Plain laws. -/
namespace Go.Proofs.YtgjaopfjffncbaaGreat
open Go.ChangeShapes Go.WideShapes Go.ChangeAt Go.RowKit
set_option linter.unusedVariables false

/-- The number that bytes go on with: a place, what is read, the bytes; the number, how many bytes, an error. -/
def getF (a acc : Nat) : List UInt8 → Nat × Nat × Int
  | [] => if a = 9 then (0, 0, 10) else (0, 0, 9)
  | b :: t => if a = 9 then (0, 0, 10) else if b.toNat < 128 then (if 0 < a ∧ b.toNat = 0 then (0, 0, 10) else (acc + b.toNat * 128 ^ a, a + 1, 0)) else getF (a + 1) (acc + (b.toNat - 128) * 128 ^ a) t
def getB (s : List UInt8) : Nat × Nat × Int := getF 0 0 s
theorem getF_nine (acc : Nat) (s : List UInt8) : getF 9 acc s = (0, 0, 10) := by cases s <;> simp [getF]
theorem getF_end {a : Nat} (h : a < 9) (acc : Nat) : getF a acc [] = (0, 0, 9) := by simp only [getF]; rw [if_neg (by omega)]
theorem getF_last {a acc : Nat} {b : UInt8} {t : List UInt8} (h : a < 9) (hb : b.toNat < 128) (h0 : ¬ (0 < a ∧ b.toNat = 0)) : getF a acc (b :: t) = (acc + b.toNat * 128 ^ a, a + 1, 0) := by
  simp only [getF]; rw [if_neg (by omega), if_pos hb, if_neg h0]
theorem getF_zero {a acc : Nat} {b : UInt8} {t : List UInt8} (h : a < 9) (hb : b.toNat < 128) (h0 : 0 < a ∧ b.toNat = 0) : getF a acc (b :: t) = (0, 0, 10) := by
  simp only [getF]; rw [if_neg (by omega), if_pos hb, if_pos h0]
theorem getF_more {a acc : Nat} {b : UInt8} {t : List UInt8} (h : a < 9) (hb : ¬ b.toNat < 128) : getF a acc (b :: t) = getF (a + 1) (acc + (b.toNat - 128) * 128 ^ a) t := by
  rw [getF, if_neg (by omega), if_neg hb]
theorem getF_bounds : ∀ (s : List UInt8) (a acc : Nat), a ≤ 9 → acc < 128 ^ a →
    (getF a acc s).1 < 128 ^ 9 ∧ ((getF a acc s).2.2 ≠ 0 → (getF a acc s).1 = 0 ∧ (getF a acc s).2.1 = 0) ∧ (getF a acc s).2.1 ≤ a + s.length ∧ ((getF a acc s).2.2 = 0 → a < (getF a acc s).2.1) ∧ ((getF a acc s).2.2 = 0 ∨ (getF a acc s).2.2 = 9 ∨ (getF a acc s).2.2 = 10) ∧ (getF a acc s).2.1 ≤ 9 := by
  intro s
  induction s with
  | nil =>
    intro a acc ha hacc
    simp only [getF]
    split <;> refine ⟨by decide, ?_, ?_, ?_, ?_, ?_⟩ <;> simp
  | cons b t ih =>
    intro a acc ha hacc
    have hb := b.toNat_lt
    by_cases h9 : a = 9
    · subst h9; rw [getF_nine]; refine ⟨by decide, ?_, ?_, ?_, ?_, ?_⟩ <;> simp
    have ha9 : a < 9 := by omega
    have hp : 128 ^ (a + 1) = 128 ^ a * 128 := Nat.pow_succ ..
    have hle : 128 ^ (a + 1) ≤ 128 ^ 9 := Nat.pow_le_pow_right (by omega) (by omega)
    by_cases h1 : b.toNat < 128
    · by_cases h0 : 0 < a ∧ b.toNat = 0
      · rw [getF_zero ha9 h1 h0]; refine ⟨by decide, ?_, ?_, ?_, ?_, ?_⟩ <;> simp
      · rw [getF_last ha9 h1 h0]
        have h2 : b.toNat * 128 ^ a ≤ 127 * 128 ^ a := Nat.mul_le_mul_right _ (by omega)
        refine ⟨?_, ?_, ?_, ?_, ?_, ?_⟩
        · show acc + b.toNat * 128 ^ a < 128 ^ 9
          omega
        · simp
        · simp only [List.length_cons]; omega
        · simp
        · simp
        · show a + 1 ≤ 9
          omega
    · rw [getF_more ha9 h1]
      have h2 : (b.toNat - 128) * 128 ^ a ≤ 127 * 128 ^ a := Nat.mul_le_mul_right _ (by omega)
      obtain ⟨i1, i2, i3, i4, i5, i6⟩ := ih (a + 1) (acc + (b.toNat - 128) * 128 ^ a) (by omega) (by omega)
      refine ⟨i1, i2, ?_, fun h => ?_, i5, i6⟩
      · simp only [List.length_cons]; omega
      · have := i4 h; omega
theorem getB_bounds (s : List UInt8) : (getB s).1 ≤ 9223372036854775807 ∧ ((getB s).2.2 ≠ 0 → (getB s).1 = 0 ∧ (getB s).2.1 = 0) ∧ (getB s).2.1 ≤ s.length ∧ ((getB s).2.2 = 0 → 0 < (getB s).2.1) ∧ ((getB s).2.2 = 0 ∨ (getB s).2.2 = 9 ∨ (getB s).2.2 = 10) ∧ (getB s).2.1 ≤ 9 := by
  obtain ⟨h1, h2, h3, h4, h5, h6⟩ := getF_bounds s 0 0 (by omega) (by decide)
  have e : (128 : Nat) ^ 9 = 9223372036854775808 := by decide
  rw [e] at h1
  unfold getB
  exact ⟨by omega, h2, by omega, h4, h5, h6⟩
/-- What was written is read. -/
theorem getF_one : ∀ (k n a acc : Nat) (t : List UInt8), n < 128 ^ k → a + k ≤ 9 → (0 < a → 0 < n) → 1 ≤ k → getF a acc (oneB n ++ t) = (acc + n * 128 ^ a, a + (oneB n).length, 0) := by
  intro k
  induction k with
  | zero => intro n a acc t _ _ _ h; omega
  | succ k ih =>
    intro n a acc t hn ha h0 _
    by_cases h : 128 ≤ n
    · rw [oneB_ge h, List.cons_append]
      have hb : (UInt8.ofNat (n % 128 + 128)).toNat = n % 128 + 128 := by
        rw [UInt8.toNat_ofNat']; omega
      rw [getF_more (by omega) (by rw [hb]; omega), hb]
      have hk : 1 ≤ k := by
        rcases Nat.eq_zero_or_pos k with rfl | hk
        · simp at hn; omega
        · exact hk
      have hp : 128 ^ (k + 1) = 128 ^ k * 128 := Nat.pow_succ ..
      rw [ih (n / 128) (a + 1) _ t (by rw [hp] at hn; omega) (by omega) (fun _ => by omega) hk]
      have hp2 : 128 ^ (a + 1) = 128 ^ a * 128 := Nat.pow_succ ..
      refine Prod.ext ?_ (Prod.ext ?_ rfl)
      · show acc + (n % 128 + 128 - 128) * 128 ^ a + n / 128 * 128 ^ (a + 1) = acc + n * 128 ^ a
        rw [hp2, Nat.add_sub_cancel, ← Nat.mul_assoc, Nat.mul_right_comm, Nat.add_assoc, ← Nat.add_mul]
        congr 2
        omega
      · show a + 1 + (oneB (n / 128)).length = a + (UInt8.ofNat (n % 128 + 128) :: oneB (n / 128)).length
        simp only [List.length_cons]; omega
    · rw [oneB_lt h]
      have hb : (UInt8.ofNat n).toNat = n := by rw [UInt8.toNat_ofNat']; omega
      show getF a acc (UInt8.ofNat n :: t) = _
      rw [getF_last (by omega) (by rw [hb]; omega) (by rw [hb]; omega), hb]
      rfl
theorem getB_one {n : Nat} (hn : n ≤ 9223372036854775807) (t : List UInt8) : getB (oneB n ++ t) = (n, (oneB n).length, 0) := by
  unfold getB
  rw [getF_one 9 n 0 0 t (by have : (128 : Nat) ^ 9 = 9223372036854775808 := by decide
                             omega) (by omega) (by omega) (by omega)]
  simp
/-- Rising numbers: how many are still read, the last one, where; the numbers, where they end, an error. -/
def fallF (s : List UInt8) : Nat → Nat → Nat → List Int → List Int × Nat × Int
  | 0, _, a, out => (out, a, 0)
  | m + 1, last, a, out =>
    let g := getB (s.drop a)
    if g.2.2 ≠ 0 then ([], 0, g.2.2) else if g.1 = 0 ∨ 9223372036854775807 - last < g.1 then ([], 0, 10) else fallF s m (last + g.1) (a + g.2.1) (out ++ [((last + g.1 : Nat) : Int)])
def fallB (s : List UInt8) (most : Int) : List Int × Nat × Int :=
  let g := getB s
  if g.2.2 ≠ 0 then ([], 0, g.2.2) else if most < (g.1 : Int) then ([], 0, 13) else fallF s g.1 0 g.2.1 []
theorem fallF_bounds (s : List UInt8) : ∀ (m last a : Nat) (out : List Int), a ≤ s.length → (∀ x ∈ out, 1 ≤ x ∧ x ≤ 9223372036854775807) → last ≤ 9223372036854775807 →
    (fallF s m last a out).2.1 ≤ s.length ∧ (∀ x ∈ (fallF s m last a out).1, 1 ≤ x ∧ x ≤ 9223372036854775807) ∧ ((fallF s m last a out).2.2 ≠ 0 → (fallF s m last a out).1 = [] ∧ (fallF s m last a out).2.1 = 0) ∧ (fallF s m last a out).1.length ≤ out.length + m := by
  intro m
  induction m with
  | zero => intro last a out ha ho _; simp only [fallF]; exact ⟨ha, ho, by simp, by simp⟩
  | succ m ih =>
    intro last a out ha ho hl
    obtain ⟨b1, b2, b3, b4, b5, b6⟩ := getB_bounds (s.drop a)
    simp only [fallF]
    split
    · exact ⟨by simp, by simp, by simp, by simp⟩
    · split
      · exact ⟨by simp, by simp, by simp, by simp⟩
      · rename_i h1 h2
        simp only [List.length_drop] at b3
        obtain ⟨i1, i2, i3, i4⟩ := ih (last + (getB (s.drop a)).1) (a + (getB (s.drop a)).2.1) (out ++ [((last + (getB (s.drop a)).1 : Nat) : Int)]) (by omega) (fun x hx => by
          rcases List.mem_append.1 hx with hx | hx
          · exact ho x hx
          · simp only [List.mem_singleton] at hx; subst hx; omega) (by omega)
        refine ⟨i1, i2, i3, ?_⟩
        simp only [List.length_append, List.length_cons, List.length_nil] at i4
        omega
theorem fallB_bounds (s : List UInt8) (most : Int) : (fallB s most).2.1 ≤ s.length ∧ (∀ x ∈ (fallB s most).1, 1 ≤ x ∧ x ≤ 9223372036854775807) ∧ ((fallB s most).2.2 ≠ 0 → (fallB s most).1 = [] ∧ (fallB s most).2.1 = 0) ∧ ((fallB s most).1.length : Int) ≤ max most 0 := by
  obtain ⟨b1, b2, b3, b4, b5, b6⟩ := getB_bounds s
  unfold fallB
  simp only
  split
  · exact ⟨by simp, by simp, by simp, by simp; omega⟩
  · split
    · exact ⟨by simp, by simp, by simp, by simp; omega⟩
    · obtain ⟨i1, i2, i3, i4⟩ := fallF_bounds s (getB s).1 0 (getB s).2.1 [] b3 (by simp) (by omega)
      refine ⟨i1, i2, i3, ?_⟩
      simp only [List.length_nil] at i4
      omega
end Go.Proofs.YtgjaopfjffncbaaGreat
/- What texts tell: a sealed text, a letter, a digest. Plain laws. -/
namespace Go.Proofs.YtgjaopfjffncbaaGreat
open Go.ChangeShapes Go.WideShapes Go.ChangeAt Go.RowKit
set_option linter.unusedVariables false

/-- What was sealed, and an error. -/
def openT (s : List UInt8) : List UInt8 × Int := if s.length < 4 then ([], 9) else if sealT (s.take (s.length - 4)) = s then (s.take (s.length - 4), 0) else ([], 12)
theorem openT_seal (t : List UInt8) : openT (sealT t) = (t, 0) := by
  unfold openT
  have h := sealT_len t
  rw [if_neg (by omega), h, Nat.add_sub_cancel]
  have e : (sealT t).take t.length = t := by unfold sealT; simp
  rw [e, if_pos rfl]
theorem openT_len (s : List UInt8) : (openT s).1.length ≤ s.length := by
  unfold openT
  split
  · simp
  · split
    · simp
    · simp
theorem openT_err (s : List UInt8) : (openT s).2 ≠ 0 → (openT s).1 = [] := by
  unfold openT
  split
  · simp
  · split <;> simp
def noLtr : Ltr := ⟨0, 0, 0, []⟩
/-- A letter behind its magic bytes. -/
def decN (s0 : List UInt8) : Ltr × Int :=
  let a := getB s0
  if a.2.2 ≠ 0 then (noLtr, a.2.2) else
  let s1 := s0.drop a.2.1
  let b := getB s1
  if b.2.2 ≠ 0 then (noLtr, b.2.2) else if isCrew b.1 = false then (noLtr, 10) else
  let s2 := s1.drop b.2.1
  let c := getB s2
  if c.2.2 ≠ 0 then (noLtr, c.2.2) else if (rightC c.1 && hasC c.1 b.1) = false then (noLtr, 10) else
  let s3 := s2.drop c.2.1
  let n := getB s3
  if n.2.2 ≠ 0 then (noLtr, n.2.2) else if 1048576 < n.1 then (noLtr, 13) else
  let s4 := s3.drop n.2.1
  if s4.length < n.1 then (noLtr, 9) else if n.1 < s4.length then (noLtr, 11) else (⟨a.1, b.1, c.1, s4⟩, 0)
/-- The letter of a text, and an error. -/
def decL (s : List UInt8) : Ltr × Int :=
  let o := openT s
  if o.2 ≠ 0 then (noLtr, o.2) else if o.1.length < 4 then (noLtr, 9) else if o.1.take 4 ≠ [68, 87, 76, 1] then (noLtr, 10) else decN (o.1.drop 4)
theorem drop_oneB (n : Nat) (t : List UInt8) : (oneB n ++ t).drop (oneB n).length = t := by simp
theorem putB_cons (x : Int) (L : List Int) : putB (x :: L) = oneB x.toNat ++ putB L := by simp [putB]
/-- A letter that is written is read. -/
theorem decL_enc {x : Ltr} (h : rightL x = true) (he : x.e ≤ 9223372036854775807) : decL (ltrT x) = (x, 0) := by
  have hs := h
  simp only [rightL, Bool.and_eq_true, decide_eq_true_eq] at hs
  obtain ⟨⟨⟨h1, h2⟩, h3⟩, h4⟩ := hs
  have hc : isCrew x.f = true := by unfold hasC at h2; simp only [Bool.and_eq_true] at h2; exact h2.1
  obtain ⟨f, hf, hf48⟩ := isCrew_nat hc
  obtain ⟨e, he0⟩ := Int.eq_ofNat_of_zero_le h1
  have h3' : x.c ≤ 281474976710655 := by unfold rightC at h3; simpa using h3
  unfold decL ltrT
  simp only [openT_seal]
  rw [if_neg (by simp), if_neg (by simp), if_neg (by simp)]
  have hd : ([68, 87, 76, 1] ++ putB (ltrL x) ++ x.b : List UInt8).drop 4 = oneB e ++ (oneB f ++ (oneB x.c ++ (oneB x.b.length ++ x.b))) := by
    unfold ltrL
    rw [he0, hf]
    simp only [putB_cons, putB_nil, Int.toNat_natCast, List.append_nil, List.append_assoc]
    rfl
  rw [hd]
  unfold decN
  have g1 := getB_one (n := e) (by omega) (oneB f ++ (oneB x.c ++ (oneB x.b.length ++ x.b)))
  have g2 := getB_one (n := f) (by omega) (oneB x.c ++ (oneB x.b.length ++ x.b))
  have g3 := getB_one (n := x.c) (by omega) (oneB x.b.length ++ x.b)
  have g4 := getB_one (n := x.b.length) (by omega) x.b
  simp only [g1, drop_oneB, g2, g3, g4]
  have hcf : isCrew (f : Int) = true := by rw [← hf]; exact hc
  have h2f : hasC x.c (f : Int) = true := by rw [← hf]; exact h2
  rw [if_neg (by simp), if_neg (by simp), if_neg (by simp [hcf]), if_neg (by simp), if_neg (by simp [h3, h2f]), if_neg (by simp), if_neg (by omega), if_neg (by omega), if_neg (by omega)]
  rw [← hf, ← he0]
/-- The counts of nodes: what is left, numbers, nodes ahead; the nodes, the bytes, what is left, an error. -/
def cntF : List Int → List UInt8 → Int → List Nd → List Nd × List UInt8 × Int × Int
  | [], s, left, out => (out, s, left, 0)
  | id :: ids, s, left, out =>
    let g := getB s
    if g.2.2 ≠ 0 then ([], [], 0, g.2.2) else if g.1 = 0 ∨ left < (g.1 : Int) then ([], [], 0, 10) else cntF ids (s.drop g.2.1) (left - (g.1 : Int)) (out ++ [(id, (g.1 : Int))])
/-- What bytes tell behind the bits of the universe. -/
def readN (l : Nat) (s0 : List UInt8) : (Nat × Int × Int × List Nd) × Int :=
  let k := getB s0
  if k.2.2 ≠ 0 then ((0, 0, 0, []), k.2.2) else if k.1 < 1 ∨ 1048576 < k.1 then ((0, 0, 0, []), 10) else
  let s1 := s0.drop k.2.1
  let n := getB s1
  if n.2.2 ≠ 0 then ((0, 0, 0, []), n.2.2) else if 72057594037927935 < n.1 then ((0, 0, 0, []), 10) else
  let s2 := s1.drop n.2.1
  let f := fallB s2 (8 * (k.1 : Int))
  if f.2.2 ≠ 0 then ((0, 0, 0, []), f.2.2) else if (f.1.all fun id => isNode l id) = false then ((0, 0, 0, []), 10) else
  let c := cntF f.1 (s2.drop f.2.1) (n.1 : Int) []
  if c.2.2.2 ≠ 0 then ((0, 0, 0, []), c.2.2.2) else if c.2.1 ≠ [] then ((0, 0, 0, []), 11) else if 0 < c.2.2.1 then ((0, 0, 0, []), 10) else
  if lightOf l c.1 (k.1 : Int) = false then ((0, 0, 0, []), 13) else ((l, (k.1 : Int), (n.1 : Int), c.1), 0)
/-- A digest's bits, k, weight and nodes by its bytes, and an error. -/
def readW (s : List UInt8) : (Nat × Int × Int × List Nd) × Int :=
  let o := openT s
  if o.2 ≠ 0 then ((0, 0, 0, []), o.2) else if o.1.length < 4 then ((0, 0, 0, []), 9) else if o.1.take 4 ≠ [68, 87, 80, 1] then ((0, 0, 0, []), 10) else
  match o.1.drop 4 with
  | [] => ((0, 0, 0, []), 9)
  | b :: s0 => if b.toNat < 1 ∨ 48 < b.toNat then ((0, 0, 0, []), 10) else readN b.toNat s0
/-- A digest's bytes. -/
def wireT (l : Nat) (k : Int) (r : List Nd) : List UInt8 := sealT ([68, 87, 80, 1] ++ [UInt8.ofNat l] ++ putB [k, sumR r] ++ risesB (r.map (·.1)) ++ putB (r.map (·.2)))
theorem cntF_put : ∀ (r : List Nd) (left : Int) (out : List Nd) (t : List UInt8), (∀ x ∈ r, 1 ≤ x.2) → sumR r ≤ left → left ≤ 72057594037927935 →
    cntF (r.map (·.1)) (putB (r.map (·.2)) ++ t) left out = (out ++ r, t, left - sumR r, 0) := by
  intro r
  induction r with
  | nil => intro left out t _ _ _; simp [cntF, putB, sumR]
  | cons x r ih =>
    intro left out t hr hs hl
    have hx := hr x (by simp)
    have hr2 : ∀ y ∈ r, 1 ≤ y.2 := fun y hy => hr y (by simp [hy])
    have h0 : 0 ≤ sumR r := by
      clear ih hs hr
      induction r with
      | nil => simp [sumR]
      | cons y r ih => have := hr2 y (by simp); have := ih fun z hz => hr2 z (by simp [hz]); simp only [sumR]; omega
    simp only [sumR] at hs
    obtain ⟨c, hc⟩ := Int.eq_ofNat_of_zero_le (show 0 ≤ x.2 by omega)
    simp only [List.map_cons, putB_cons, List.append_assoc, cntF]
    rw [hc, Int.toNat_natCast, getB_one (by omega)]
    simp only [drop_oneB]
    rw [if_neg (by simp), if_neg (by omega), ih _ _ _ hr2 (by omega) (by omega)]
    simp only [sumR, List.append_assoc, List.cons_append, List.nil_append]
    refine Prod.ext ?_ (Prod.ext rfl (Prod.ext ?_ rfl))
    · show out ++ (x.1, (c : Int)) :: r = out ++ x :: r
      rw [← hc]
    · show left - (c : Int) - sumR r = left - (x.2 + sumR r)
      omega
theorem fallF_put (S : List UInt8) : ∀ (L : List Int) (last a : Nat) (out : List Int) (P t : List UInt8), S = P ++ (putB (List.zipWith (fun x p => x - p) L ((last : Int) :: L)) ++ t) → P.length = a →
    ((last : Int) :: L).Pairwise (· < ·) → (∀ x ∈ L, x ≤ 9223372036854775807) →
    fallF S L.length last a out = (out ++ L, a + (putB (List.zipWith (fun x p => x - p) L ((last : Int) :: L))).length, 0) := by
  intro L
  induction L with
  | nil => intro last a out P t _ _ _ _; simp [fallF, putB]
  | cons x L ih =>
    intro last a out P t hS hP hp hx
    obtain ⟨p1, p2⟩ := List.pairwise_cons.1 hp
    have q1 := p1 x (by simp)
    have q2 := hx x (by simp)
    obtain ⟨n, hn⟩ := Int.eq_ofNat_of_zero_le (show 0 ≤ x by omega)
    have e : (x - (last : Int)).toNat = n - last := by omega
    simp only [List.zipWith_cons_cons, putB_cons, e, List.append_assoc] at hS ⊢
    have hd : S.drop a = oneB (n - last) ++ (putB (List.zipWith (fun x p => x - p) L (x :: L)) ++ t) := by
      rw [hS, ← hP]; simp
    simp only [List.length_cons, fallF]
    rw [hd, getB_one (by omega)]
    simp only
    rw [if_neg (by simp), if_neg (by omega)]
    have hnn : last + (n - last) = n := by omega
    rw [hnn]
    rw [ih n (a + (oneB (n - last)).length) (out ++ [(n : Int)]) (P ++ oneB (n - last)) t (by rw [hS, ← hn]; simp only [List.append_assoc]) (by simp [hP]) (by rw [← hn]; exact p2) fun y hy => hx y (by simp [hy])]
    rw [← hn]
    simp only [List.append_assoc, List.cons_append, List.nil_append, List.length_append, Nat.add_assoc]
theorem fallB_rises {L : List Int} {most : Int} (t : List UInt8) (hp : ((0 : Int) :: L).Pairwise (· < ·)) (hx : ∀ x ∈ L, x ≤ 9223372036854775807) (hl : L.length ≤ 9223372036854775807) (hm : (L.length : Int) ≤ most) :
    fallB (risesB L ++ t) most = (L, (risesB L).length, 0) := by
  unfold fallB risesB
  rw [List.append_assoc, getB_one hl]
  simp only
  rw [if_neg (by simp), if_neg (by omega)]
  have := fallF_put (oneB L.length ++ (putB (stepD L) ++ t)) L 0 (oneB L.length).length [] (oneB L.length) t rfl rfl hp hx
  rw [this]
  simp [stepD]
/-- A digest that is written is read. -/
theorem readW_wire {l : Nat} {k : Int} {r : List Nd} (hl : 1 ≤ l ∧ l ≤ 48) (hf : Fits l r) (hk : 1 ≤ k) (hk2 : k ≤ 1048576) (hlen : (r.length : Int) ≤ 8 * k) (hL : lightOf l r k = true) : readW (wireT l k r) = ((l, k, sumR r, r), 0) := by
  obtain ⟨k', rfl⟩ := Int.eq_ofNat_of_zero_le (show 0 ≤ k by omega)
  have hs0 := sumR_nonneg hf.roll
  have hs1 := hf.sum
  obtain ⟨n, hn⟩ := Int.eq_ofNat_of_zero_le hs0
  have hl8 : (UInt8.ofNat l).toNat = l := by rw [UInt8.toNat_ofNat']; omega
  unfold readW wireT
  simp only [openT_seal]
  rw [if_neg (by simp), if_neg (by simp), if_neg (by simp)]
  have hd : ([68, 87, 80, 1] ++ [UInt8.ofNat l] ++ putB [(k' : Int), sumR r] ++ risesB (r.map (·.1)) ++ putB (r.map (·.2)) : List UInt8).drop 4 = UInt8.ofNat l :: (oneB k' ++ (oneB n ++ (risesB (r.map (·.1)) ++ putB (r.map (·.2))))) := by
    rw [hn]
    simp only [putB_cons, putB_nil, Int.toNat_natCast, List.append_nil, List.append_assoc]
    rfl
  rw [hd]
  simp only
  rw [hl8, if_neg (by omega)]
  unfold readN
  have hN : ∀ x ∈ r, isNode l x.1 = true := hf.nodes hl
  have hup : ((0 : Int) :: r.map (·.1)).Pairwise (· < ·) := by
    refine List.pairwise_cons.2 ⟨?_, ?_⟩
    · intro x hx
      obtain ⟨y, hy, rfl⟩ := List.mem_map.1 hx
      have := (hf.roll.2 y hy).1; omega
    · rw [List.pairwise_map]; exact hf.roll.1
  have hle : ∀ x ∈ r.map (·.1), x ≤ 9223372036854775807 := by
    intro x hx
    obtain ⟨y, hy, rfl⟩ := List.mem_map.1 hx
    have h1 := isNode_lt (hN y hy)
    have h2 := pow_48 hl.2
    omega
  have g1 := getB_one (n := k') (by omega) (oneB n ++ (risesB (r.map (·.1)) ++ putB (r.map (·.2))))
  have g2 := getB_one (n := n) (by omega) (risesB (r.map (·.1)) ++ putB (r.map (·.2)))
  have g3 := fallB_rises (L := r.map (·.1)) (most := 8 * (k' : Int)) (putB (r.map (·.2))) hup hle (by simp; omega) (by simpa using hlen)
  have g4 := cntF_put r (n : Int) [] [] (fun x hx => (hf.roll.2 x hx).2) (by omega) (by omega)
  rw [List.append_nil] at g4
  have hall : ((r.map (·.1)).all fun id => isNode l id) = true := by
    rw [List.all_eq_true]
    intro x hx
    obtain ⟨y, hy, rfl⟩ := List.mem_map.1 hx
    exact hN y hy
  have hdr : (risesB (r.map (·.1)) ++ putB (r.map (·.2))).drop (risesB (r.map (·.1))).length = putB (r.map (·.2)) := by simp
  simp only [g1, drop_oneB, g2, g3, hdr, g4]
  rw [if_neg (by simp), if_neg (by omega), if_neg (by simp), if_neg (by omega), if_neg (by simp), if_neg (by rw [hall]; simp), if_neg (by simp), if_neg (by simp), if_neg (by omega)]
  simp only [List.nil_append]
  rw [if_neg (by rw [hL]; simp), ← hn]
end Go.Proofs.YtgjaopfjffncbaaGreat
/- A slice of the call's own, sorted by slices.SortFunc. -/
namespace Go.Proofs.YtgjaopfjffncbaaGreat
open Go.ChangeShapes Go.WideShapes Go.ChangeAt Go.RowKit
set_option linter.unusedVariables false

section
variable {α : Type} [Inhabited α] {size : Nat}
/-- The cells of a list, one behind the other, as the kit has them. -/
theorem flatK_get (E : Enc α size) (l : List α) (j : Nat) (h : j < l.length * size) : (Go.Sort.flatK E.enc size l.toArray)[j]! = (l.flatMap E.enc)[j]! ∧ (l.flatMap E.enc)[j]? = some (Go.Sort.flatK E.enc size l.toArray)[j]! := by
  have hs : 0 < size := Nat.pos_of_ne_zero (by rintro rfl; simp at h)
  have hk : j / size < l.length := Nat.div_lt_of_lt_mul (by rwa [Nat.mul_comm] at h)
  have hq : j % size < size := Nat.mod_lt _ hs
  have e := Go.Sort.get_flatK E.enc size l.toArray j (by simpa using h)
  have hx : l[j / size]? = some l[j / size] := List.getElem?_eq_getElem hk
  have hu : (E.enc l[j / size])[j % size]? = some (E.enc l[j / size])[j % size]! := by
    rw [getElem!_pos _ _ (by rw [E.len]; exact hq)]
    exact List.getElem?_eq_getElem _
  have hj : j / size * size + j % size = j := by rw [Nat.mul_comm]; exact Nat.div_add_mod j size
  have := flat_get E l (j / size) (j % size) _ _ hx hu
  rw [hj] at this
  have e2 : l.toArray[j / size]! = l[j / size] := by
    rw [getElem!_pos _ _ (by simpa using hk)]; simp
  rw [e2] at e
  rw [e, this]
  exact ⟨by rw [getElem!_pos _ j (List.getElem?_eq_some_iff.1 this).1]; exact (List.getElem?_eq_some_iff.1 this).2.symm, rfl⟩
theorem Own.holdsK {w : World} {base e : Nat} {E : Enc α size} {g off cap : Nat} {l : List α} (h : Own w base e E (.slice (some ⟨g, off, none⟩) l.length cap) l) : Go.Sort.HoldsK E.enc size w g off l.toArray := by
  intro j hj
  have hj : j < l.length * size := by simpa using hj
  rcases h with ⟨h, _⟩ | ⟨g', off', cap', cur, hv, hb, hh, h1, h2, h3, hc⟩
  · cases h
  · injection hv with hv _ _
    injection hv with hv
    injection hv with e1 e2
    subst e1 e2
    have h4 := (flatK_get E l j hj).2
    rw [blk_cell hh, blk_frozen hh]
    exact ⟨hc j _ h4, rfl⟩
theorem Own.sorted {w : World} {base e : Nat} {E : Enc α size} {g off cap : Nat} {l : List α} (h : Own w base e E (.slice (some ⟨g, off, none⟩) l.length cap) l) (d : Array α) (hd : d.size = l.length) (n : Nat) (os : Array Obj) :
    Own (Go.Proofs.sortWorldK E.enc size w g off n d os) base e E (.slice (some ⟨g, off, none⟩) l.length cap) d.toList ∧ Turn (fun b => b = g) w (Go.Proofs.sortWorldK E.enc size w g off n d os) := by
  have hl : d.toList.length = l.length := by simpa using hd
  rcases h with ⟨h, _⟩ | ⟨g', off', cap', cur, hv, hb, hh, h1, h2, h3, hc⟩
  · cases h
  · injection hv with hv _ hcap
    injection hv with hv
    injection hv with e1 e2
    subst e1 e2 hcap
    have hlt : g < w.heap.size := lt_of_block hh
    have hg : (Go.Proofs.sortWorldK E.enc size w g off n d os).heap[g]? = some (.cells (Go.Sort.putCells id off (Go.Sort.flatK E.enc size d) cur) e (0, 0)) := by
      unfold Go.Proofs.sortWorldK
      rw [Go.Sort.heap_grow_old _ _ (by simp [Go.Sort.putRowK]; exact hlt)]
      simp [Go.Sort.putRowK, Go.Sort.putRow, Go.Sort.mapBlock, Array.getElem?_modify, Go.Sort.onCells, hh]
    refine ⟨.inr ⟨g, off, cap, _, by rw [hl], hb, hg, by omega, h2, by simpa [Go.Sort.putCells] using h3, fun j u hj => ?_⟩, ⟨rfl, rfl, rfl, ?_, fun b hlb hn => ?_⟩⟩
    · have hjl : j < d.toList.length * size := by rw [← flat_len E]; exact (List.getElem?_eq_some_iff.1 hj).1
      have h4 := (flatK_get E d.toList j hjl).2
      rw [hj] at h4
      have hle : l.length * size ≤ cap * size := Nat.mul_le_mul_right _ h1
      rw [hl] at hjl
      have hcur : cur[off + j]? = some cur[off + j] := Array.getElem?_eq_getElem (by omega)
      simp only [Go.Sort.putCells, Array.getElem?_mapIdx, hcur, Option.map_some]
      rw [if_pos ⟨by omega, by simp [hd]; omega⟩, h4]
      simp
    · unfold Go.Proofs.sortWorldK
      simp [Go.Sort.putRowK]
    · unfold Go.Proofs.sortWorldK
      rw [Go.Sort.heap_grow_old _ _ (by simp [Go.Sort.putRowK]; exact hlb)]
      simp only [Go.Sort.putRowK, Go.Sort.putRow, Go.Sort.mapBlock, Array.getElem?_modify]
      rw [if_neg (by intro h; exact hn h.symm)]
      rfl
theorem perm_of_in {d d' : Array α} (h : Go.Sort.PermIn 0 d.size d d') : d'.toList.Perm d.toList := by
  have e1 : (d.extract 0 d.size).toList = d.toList := by simp
  have e2 : (d'.extract 0 d.size).toList = d'.toList := by rw [← h.1]; simp
  rw [← e1, ← e2]
  exact h.2.2
theorem pairwise_of_in {lt : α → α → Bool} {d : Array α} {n : Nat} (hn : n = d.size) (h : Go.Sort.SortedIn lt 0 n d) : d.toList.Pairwise fun a b => lt b a = false := by
  rw [List.pairwise_iff_getElem]
  intro i j hi hj hij
  have hj' : j < d.size := by simpa using hj
  have := h i j (Nat.zero_le _) hij (by omega)
  rw [getElem!_pos d j hj', getElem!_pos d i (by omega)] at this
  simpa using this
/-- slices.SortFunc on a slice of the call's own. -/
def SortPost {w : World} (base e : Nat) (E : Enc α size) (v : Value) (lt : α → α → Bool) (l : List α) (w : World) (en : Ending) (w' : World) : Prop :=
  en = .returned (.tuple #[]) ∧ ∃ l' : List α, l'.Perm l ∧ l'.Pairwise (fun a b => lt b a = false) ∧ Own w' base e E v l' ∧ Turn (fun b => v.ownBlock = some b) w w'
theorem sortFunc_own {P : Program} {ρ : Go.Shelf.Ren} (L : Go.Proofs.SlLaysF0.n6 P ρ) (E : Enc α size) (aE : ∀ w, (isAgg (ρ.t 24)).run P w = .ok true w) (zE : ∀ w, (Go.sizeOf (ρ.t 24)).run P w = .ok size w) (cf : α → α → Int) (hO : Go.Sort.SWO (Go.Proofs.ltOf cf))
    (g : Nat) (cb : Array Value) (eg : ∀ args w, (callFunc g args).run P w = .ok (.enter g args) w) (w : World) (base e : Nat) (v : Value) (l : List α) (ho : Own w base e E v l) (hl : l.length < 4611686018427387904)
    (hcmp : ∀ W, Turn (fun b => v.ownBlock = some b) w W → ∀ x y : α, Calls P g (#[.agg (E.enc x).toArray, .agg (E.enc y).toArray] ++ cb) W fun e W' => e = .returned (.int .i64 (cf x y)) ∧ ∃ q os', W' = Go.Sort.grow (W.drewN q) os') :
    Calls P (ρ.f 6) #[v, .func (.func g) #[] cb] w (SortPost (w := w) base e E v (Go.Proofs.ltOf cf) l w) := by
  have ho' := ho
  rcases ho' with ⟨rfl, rfl⟩ | ⟨b, off, cap, cur, rfl, hb, hh, h1, h2, h3, hc⟩
  · refine (Go.Proofs.AnyF.slices_SortFunc_none L none 0 (.func (.func g) #[] cb) w).mono ?_
    rintro e' w' ⟨rfl, rfl⟩
    exact ⟨rfl, [], .refl _, .nil, ho, Turn.refl _ _⟩
  · have hC : Go.Proofs.CmpLays P g cb E.enc size cf b off l.toArray.size w := fun m os dk hs x y => hcmp _ (((ho.sorted dk (by simpa using hs) m os).2).mono fun c _ h => by subst h; rfl) x y
    refine (Go.Proofs.AnyQ.slices_SortFunc L size aE zE E.enc E.len E.one cf hO g cb b off cap l.toArray w eg hC ho.holdsK (lt_of_block hh) (by simpa using hl)).mono ?_
    rintro e' w' ⟨rfl, d', n, os, hp, hs, rfl⟩
    have hsz : d'.size = l.length := by simpa using hp.1
    obtain ⟨o1, o2⟩ := ho.sorted d' hsz n os
    refine ⟨rfl, d'.toList, by simpa using perm_of_in hp, pairwise_of_in (by simp [hsz]) hs, o1, o2.mono fun c _ h => by subst h; rfl⟩
end
end Go.Proofs.YtgjaopfjffncbaaGreat
/- Sums of weights up to numbers: the plain law. -/
namespace Go.Proofs.YtgjaopfjffncbaaGreat
open Go.ChangeShapes Go.WideShapes Go.ChangeAt Go.RowKit
set_option linter.unusedVariables false

/-- What weighs up to a number. -/
def wUp : List Nd → Int → Int
  | [], _ => 0
  | y :: l, x => (if y.1 ≤ x then y.2 else 0) + wUp l x
theorem wUp_append (a b : List Nd) (x : Int) : wUp (a ++ b) x = wUp a x + wUp b x := by
  induction a with
  | nil => simp [wUp]
  | cons y a ih => simp only [List.cons_append, wUp, ih]; omega
theorem wUp_perm {a b : List Nd} (h : a.Perm b) (x : Int) : wUp a x = wUp b x := by
  induction h with
  | nil => rfl
  | cons y _ ih => simp only [wUp, ih]
  | swap y z l => simp only [wUp]; omega
  | trans _ _ h1 h2 => exact h1.trans h2
theorem wUp_all {l : List Nd} {x : Int} (h : ∀ y ∈ l, y.1 ≤ x) : wUp l x = sumR l := by
  induction l with
  | nil => rfl
  | cons y l ih =>
    simp only [wUp, sumR]
    rw [if_pos (h y (by simp)), ih fun z hz => h z (by simp [hz])]
theorem wUp_none {l : List Nd} {x : Int} (h : ∀ y ∈ l, x < y.1) : wUp l x = 0 := by
  induction l with
  | nil => rfl
  | cons y l ih =>
    simp only [wUp]
    have := h y (by simp)
    rw [if_neg (by omega), ih fun z hz => h z (by simp [hz])]; rfl
theorem wUp_same {l : List Nd} {x z : Int} (h : ∀ y ∈ l, (y.1 ≤ x ↔ y.1 ≤ z)) : wUp l x = wUp l z := by
  induction l with
  | nil => rfl
  | cons y l ih =>
    simp only [wUp]
    have h1 := h y (by simp)
    rw [ih fun z hz => h z (by simp [hz])]
    congr 1
    by_cases h2 : y.1 ≤ x
    · rw [if_pos h2, if_pos (h1.1 h2)]
    · rw [if_neg h2, if_neg (fun h => h2 (h1.2 h))]
theorem sumR_perm {a b : List Nd} (h : a.Perm b) : sumR a = sumR b := by
  induction h with
  | nil => rfl
  | cons y _ ih => simp only [sumR, ih]
  | swap y z l => simp only [sumR]; omega
  | trans _ _ h1 h2 => exact h1.trans h2

/-- A table of numbers, rising, and of what weighs up to each. -/
structure Tab (l t : List Nd) : Prop where
  rise : t.Pairwise fun a b => a.1 < b.1
  up : ∀ z ∈ t, z.2 = wUp l z.1
  all : ∀ y ∈ l, ∃ z ∈ t, z.1 = y.1
  of : ∀ z ∈ t, ∃ y ∈ l, y.1 = z.1
theorem Tab.perm {l l' t : List Nd} (h : Tab l t) (hp : l.Perm l') : Tab l' t :=
  ⟨h.rise, fun z hz => (h.up z hz).trans (wUp_perm hp _), fun y hy => h.all y (hp.mem_iff.2 hy), fun z hz => by obtain ⟨y, hy, e⟩ := h.of z hz; exact ⟨y, hp.mem_iff.1 hy, e⟩⟩
theorem Tab.nil : Tab [] [] := ⟨.nil, by simp, by simp, by simp⟩
/-- One number more, which isn't less than those ahead: it stands already, or not. -/
theorem Tab.same {p t : List Nd} {y : Nd} {s : Int} (h : Tab p (t ++ [(y.1, s)])) (hy : ∀ z ∈ p, z.1 ≤ y.1) : Tab (p ++ [y]) (t ++ [(y.1, sumR p + y.2)]) := by
  have hr := List.pairwise_append.1 h.rise
  refine ⟨List.pairwise_append.2 ⟨hr.1, List.pairwise_singleton _ _, fun a ha b hb => ?_⟩, fun z hz => ?_, fun z hz => ?_, fun z hz => ?_⟩
  · simp at hb; subst hb; exact hr.2.2 a ha (y.1, s) (by simp)
  · rw [wUp_append]
    rcases List.mem_append.1 hz with hz | hz
    · have h1 := hr.2.2 z hz (y.1, s) (by simp)
      have h2 := h.up z (List.mem_append_left _ hz)
      simp only at h1
      simp only [wUp]
      rw [if_neg (by omega)]; omega
    · simp at hz; subst hz
      simp only [wUp, wUp_all hy]
      simp
  · rcases List.mem_append.1 hz with hz | hz
    · obtain ⟨u, hu, e⟩ := h.all z hz
      rcases List.mem_append.1 hu with hu | hu
      · exact ⟨u, List.mem_append_left _ hu, e⟩
      · simp at hu; subst hu; exact ⟨(y.1, sumR p + y.2), by simp, e⟩
    · simp at hz; subst hz; exact ⟨(z.1, sumR p + z.2), by simp, rfl⟩
  · rcases List.mem_append.1 hz with hz | hz
    · obtain ⟨u, hu, e⟩ := h.of z (List.mem_append_left _ hz)
      exact ⟨u, List.mem_append_left _ hu, e⟩
    · simp at hz; subst hz; exact ⟨y, by simp, rfl⟩
theorem Tab.more {p t : List Nd} {y : Nd} (h : Tab p t) (hy : ∀ z ∈ p, z.1 ≤ y.1) (hn : ∀ z ∈ t, z.1 ≠ y.1) : Tab (p ++ [y]) (t ++ [(y.1, sumR p + y.2)]) := by
  have hlt : ∀ z ∈ t, z.1 < y.1 := fun z hz => by
    obtain ⟨u, hu, e⟩ := h.of z hz
    have := hy u hu
    have := hn z hz
    omega
  refine ⟨List.pairwise_append.2 ⟨h.rise, List.pairwise_singleton _ _, fun a ha b hb => ?_⟩, fun z hz => ?_, fun z hz => ?_, fun z hz => ?_⟩
  · simp at hb; subst hb; exact hlt a ha
  · rw [wUp_append]
    rcases List.mem_append.1 hz with hz | hz
    · have h1 := hlt z hz
      have h2 := h.up z hz
      simp only [wUp]
      rw [if_neg (by omega)]; omega
    · simp at hz; subst hz
      simp only [wUp, wUp_all hy]
      simp
  · rcases List.mem_append.1 hz with hz | hz
    · obtain ⟨u, hu, e⟩ := h.all z hz
      exact ⟨u, List.mem_append_left _ hu, e⟩
    · simp at hz; subst hz; exact ⟨(z.1, sumR p + z.2), by simp, rfl⟩
  · rcases List.mem_append.1 hz with hz | hz
    · obtain ⟨u, hu, e⟩ := h.of z hz
      exact ⟨u, List.mem_append_left _ hu, e⟩
    · simp at hz; subst hz; exact ⟨y, by simp, rfl⟩
/-- The last one of a table is the greatest: others aren't it. -/
theorem Tab.last_ne {p t : List Nd} {a : Nd} {y : Nd} (h : Tab p (t ++ [a])) (hy : ∀ z ∈ p, z.1 ≤ y.1) (hn : a.1 ≠ y.1) : ∀ z ∈ t ++ [a], z.1 ≠ y.1 := by
  have hr := List.pairwise_append.1 h.rise
  intro z hz
  rcases List.mem_append.1 hz with hz | hz
  · have h1 := hr.2.2 z hz a (by simp)
    obtain ⟨u, hu, e⟩ := h.of a (by simp)
    have := hy u hu
    omega
  · simp at hz; subst hz; exact hn

theorem count_boundary (p : Nat → Bool) (k : Nat) : ∀ n, k ≤ n → (∀ i, i < k → p i = true) → (∀ i, k ≤ i → i < n → p i = false) → (List.range n).countP p = k
  | 0, hk, _, _ => by have : k = 0 := by omega
                      subst this; rfl
  | n + 1, hk, h1, h2 => by
    rw [List.range_succ, List.countP_append]
    by_cases h : k = n + 1
    · subst h
      rw [count_boundary p n n (Nat.le_refl _) (fun i hi => h1 i (by omega)) (fun i h3 h4 => by omega)]
      simp [h1 n (by omega)]
    · rw [count_boundary p k n (by omega) h1 fun i h3 h4 => h2 i h3 (by omega)]
      simp [h2 n (by omega) (by omega)]
/-- Where numbers that rise go beyond one. -/
theorem rise_boundary {t : List Nd} (h : t.Pairwise fun a b => a.1 < b.1) (x : Int) : ∃ k, k ≤ t.length ∧ (∀ i (hi : i < t.length), i < k → t[i].1 ≤ x) ∧ ∀ i (hi : i < t.length), k ≤ i → x < t[i].1 := by
  induction t with
  | nil => exact ⟨0, Nat.le_refl _, fun i hi => absurd hi (Nat.not_lt_zero _), fun i hi => absurd hi (Nat.not_lt_zero _)⟩
  | cons a t ih =>
    obtain ⟨h1, h2⟩ := List.pairwise_cons.1 h
    obtain ⟨k, hk, h3, h4⟩ := ih h2
    by_cases ha : a.1 ≤ x
    · refine ⟨k + 1, by simp; omega, fun i hi hlt => ?_, fun i hi hle => ?_⟩
      · cases i with
        | zero => exact ha
        | succ i => exact h3 i (by simpa using hi) (by omega)
      · cases i with
        | zero => omega
        | succ i => exact h4 i (by simpa using hi) (by omega)
    · refine ⟨0, Nat.zero_le _, fun i hi hlt => by omega, fun i hi _ => ?_⟩
      cases i with
      | zero => simp; omega
      | succ i =>
        have hi' : i < t.length := by simpa using hi
        have := h1 t[i] (List.getElem_mem hi')
        simp only [List.getElem_cons_succ]; omega
/-- How many numbers of a table aren't above one. -/
def atMost (t : List Nd) (x : Int) : Nat := (List.range t.length).countP fun i => !decide (x < (t.getD i (0, 0)).1)
theorem atMost_le (t : List Nd) (x : Int) : atMost t x ≤ t.length := by
  have := List.countP_le_length (p := fun i => !decide (x < (t.getD i (0, 0)).1)) (l := List.range t.length)
  simpa [atMost] using this
theorem getD_at {t : List Nd} {i : Nat} (hi : i < t.length) : t.getD i (0, 0) = t[i] := by rw [List.getD_eq_getElem?_getD, List.getElem?_eq_getElem hi]; rfl
theorem atMost_boundary {t : List Nd} (h : t.Pairwise fun a b => a.1 < b.1) (x : Int) : (∀ i (hi : i < t.length), i < atMost t x → t[i].1 ≤ x) ∧ ∀ i (hi : i < t.length), atMost t x ≤ i → x < t[i].1 := by
  obtain ⟨k, hk, h1, h2⟩ := rise_boundary h x
  have e : atMost t x = k := by
    refine count_boundary _ k _ hk (fun i hi => ?_) (fun i h3 h4 => ?_)
    · have := h1 i (by omega) hi
      rw [getD_at (by omega)]; simp; omega
    · have := h2 i h4 h3
      rw [getD_at h4]; simp; omega
  rw [e]
  exact ⟨h1, h2⟩
theorem Tab.none {l t : List Nd} (h : Tab l t) {x : Int} (h0 : atMost t x = 0) : wUp l x = 0 := by
  have hb := (atMost_boundary h.rise x).2
  rw [h0] at hb
  refine wUp_none fun y hy => ?_
  obtain ⟨z, hz, e⟩ := h.all y hy
  obtain ⟨i, hi, rfl⟩ := List.getElem_of_mem hz
  have := hb i hi (Nat.zero_le _)
  omega
theorem Tab.some {l t : List Nd} (h : Tab l t) {x : Int} (h0 : atMost t x ≠ 0) (hi : atMost t x - 1 < t.length) : t[atMost t x - 1].2 = wUp l x := by
  have hb := atMost_boundary h.rise x
  rw [h.up _ (List.getElem_mem hi)]
  refine wUp_same fun y hy => ?_
  obtain ⟨z, hz, e⟩ := h.all y hy
  obtain ⟨i, hi2, rfl⟩ := List.getElem_of_mem hz
  have h1 := hb.1 _ hi (by omega)
  constructor
  · intro h2; omega
  · intro h2
    by_cases h3 : i < atMost t x
    · rcases Nat.lt_or_ge i (atMost t x - 1) with h4 | h4
      · have := List.pairwise_iff_getElem.1 h.rise i (atMost t x - 1) hi2 hi h4; omega
      · obtain rfl : i = atMost t x - 1 := by omega
        omega
    · have := hb.2 i hi2 (by omega); omega
end Go.Proofs.YtgjaopfjffncbaaGreat
/- Package rank: made: the sums of readings. -/
namespace Go.Proofs.YtgjaopfjffncbaaGreat
open Go.ChangeShapes Go.WideShapes Go.ChangeAt Go.RowKit
set_option linter.unusedVariables false
set_option maxRecDepth 100000

/-- A reading that may be. -/
abbrev Rdg := { x : Nd // 0 ≤ x.1 ∧ x.1 ≤ 281474976710655 }
instance : Inhabited Rdg := ⟨⟨(0, 0), by decide⟩⟩
def encQ : Enc Rdg 2 := ⟨fun x => [.int .i64 x.1.1, .int .i64 x.1.2], fun _ => rfl, by intro x u hu; simp at hu; rcases hu with rfl | rfl <;> rfl⟩
theorem flat_Q (l : List Rdg) : l.flatMap encQ.enc = (l.map (·.1)).flatMap encN.enc := by
  induction l with
  | nil => rfl
  | cons x l ih => rw [List.flatMap_cons, List.map_cons, List.flatMap_cons, ih]; rfl
theorem own_Q {w : World} {base e : Nat} {v : Value} {l : List Rdg} : Own w base e encQ v l ↔ Own w base e encN v (l.map (·.1)) := by
  unfold Own
  rw [flat_Q]
  simp
theorem swo_Q : Go.Sort.SWO (Go.Proofs.ltOf fun x y : Rdg => x.1.1 - y.1.1) where
  irrefl x := by simp [Go.Proofs.ltOf]
  trans x y z h1 h2 := by simp only [Go.Proofs.ltOf, decide_eq_true_eq] at *; omega
  ntrans x y z h1 h2 := by simp only [Go.Proofs.ltOf, decide_eq_false_iff_not] at *; omega
/-- Two slices lie apart. -/
def Sep (u v : Value) : Prop := ∀ g, u.ownBlock = some g → v.ownBlock ≠ some g
theorem Sep.symm {u v : Value} (h : Sep u v) : Sep v u := fun g h1 h2 => h g h2 h1
theorem turn_then {F : Nat → Prop} {w wa w1 w' : World} (hA : Below w.heap.size w wa) (hT : Turn F wa w1) (hB : Below w.heap.size w1 w') : Turn F w w' :=
  ⟨hB.os.trans (hT.os.trans hA.os), hB.tape.trans (hT.tape.trans hA.tape), hB.output.trans (hT.output.trans hA.output), Nat.le_trans hA.size (Nat.le_trans hT.size hB.size), fun b hb hn => (hB.block b hb).trans ((hT.block b (Nat.lt_of_lt_of_le hb hA.size) hn).trans (hA.block b hb))⟩
/-- What made tells. -/
def MadePost (v : Value) (l : List Nd) (w : World) (e : Ending) (w' : World) : Prop :=
  ∃ t A1 c1 A2 c2, e = .returned (.agg #[.slice A1 t.length c1, .slice A2 t.length c2]) ∧ Tab l t ∧ t.length ≤ l.length ∧ Own w' w.heap.size 3 encZ (.slice A1 t.length c1) (t.map (·.1)) ∧ Own w' w.heap.size 3 encZ (.slice A2 t.length c2) (t.map (·.2)) ∧ Turn (fun b => v.ownBlock = some b) w w'
section
variable {w : World} {base B b0 bs : Nat} {vl : Value} {ll : List Nd} {V1 V2 : Value} {W W' : World} {U1 U1' : Value} {L1 L1' : List Int} {U2 U2' : Value} {L2 L2' : List Int}
theorem Own.ty_at {α : Type} {size base e : Nat} {w : World} {E : Enc α size} {b off n cap : Nat} {l : List α} (h : Own w base e E (.slice (some ⟨b, off, none⟩) n cap) l) : TypeAt w b e := by
  rcases h with ⟨hv, _⟩ | ⟨g, o, c, cur, hv, _, hh, _⟩
  · cases hv
  · cases hv
    exact .of hh
theorem set_last {t' : List Nd} {a : Nd} {m : Nat} (hm : m = t'.length) (z : Nd) : ((t' ++ [a]).map (·.2)).set m z.2 = (t' ++ [z]).map (·.2) := by
  subst hm
  rw [List.map_append, List.set_append_right _ _ (by simp)]
  simp
/-- An append leaves the cells of other blocks. -/
theorem grown_new {row : Option Nat} (hg : W.grownBy W' row) (z : Nat) (hz : ∀ g, row = some g → g < z) (b o : Nat) (h1 : z ≤ b) (h2 : b < W.heap.size) : W'.cell? ⟨b, o, none⟩ = W.cell? ⟨b, o, none⟩ :=
  grown_cell hg b h2 (by rintro rfl; have := hz b rfl; omega) o
end
theorem sl_cell {W : World} {b o : Nat} {x : Int} (h : W.cell? ⟨b, o, none⟩ = some (.int .i64 x)) (hb : b < W.heap.size) : Sl W W.heap.size encZ (some ⟨b, o, none⟩) [x] :=
  .inr ⟨b, o, rfl, hb, fun i y hi j u hj => by
    cases i with
    | succ i => simp at hi
    | zero =>
      simp at hi; subst hi
      cases j with
      | succ j => simp [encZ] at hj
      | zero => simp [encZ] at hj; subst hj; simpa using h⟩
theorem sum_part {l : List Nd} (h : ∀ z ∈ l, 1 ≤ z.2) {q : Nat} (hq : q < l.length) : 0 ≤ sumR (l.take q) ∧ sumR (l.take q) + l[q].2 ≤ sumR l := by
  induction l generalizing q with
  | nil => exact absurd hq (Nat.not_lt_zero _)
  | cons x l ih =>
    have hx := h x (by simp)
    cases q with
    | zero =>
      have : ∀ l : List Nd, (∀ z ∈ l, 1 ≤ z.2) → 0 ≤ sumR l := fun l => by
        intro hl
        induction l with
        | nil => simp [sumR]
        | cons y l ih2 => have := hl y (by simp); have := ih2 fun z hz => hl z (by simp [hz]); simp only [sumR]; omega
      have := this l fun z hz => h z (by simp [hz])
      simp [sumR]; omega
    | succ q =>
      have := ih (fun z hz => h z (by simp [hz])) (q := q) (by simpa using hq)
      simp only [List.take_succ_cons, sumR, List.getElem_cons_succ]; omega
end Go.Proofs.YtgjaopfjffncbaaGreat
/- Package wire: Encode. -/
namespace Go.Proofs.YtgjaopfjffncbaaGreat
open Go.ChangeShapes Go.WideShapes Go.ChangeAt Go.RowKit
set_option linter.unusedVariables false
set_option linter.unusedSimpArgs false
set_option maxRecDepth 100000

set_option maxHeartbeats 1000000 in
theorem vary_Put0 (w : World) (base : Nat) (v : Value) (ho : Own w base 3 encZ v []) : Calls Tryz.prog 141 #[v] w fun e w' => e = .returned (.tuple #[.string ⟨#[]⟩, .int .i64 0]) ∧ Below w.heap.size w w' := by
  obtain ⟨A, c, rfl, _⟩ := ho.form
  clear ho
  simp only [List.length_nil]
  have hcv : ∀ W, (convert 151 9 (.slice none 0 0)).run Tryz.prog W = .ok (.string ⟨#[]⟩) W := fun W => by kernel_rfl
  go_enter Tryz.func141, Tryz.ntmps141
  go_wp2_with fail
  go_loopw [4, 9] (fun u j wr => j = .int .i64 (0 : Nat) ∧ u = .slice none 0 0 ∧ Below w.heap.size w wr) (fun _ j _ => 0)
  case atStart => exact ⟨rfl, rfl, Below.refl _ _⟩
  case round =>
    obtain ⟨rfl, rfl, hB⟩ := hrel
    have HB := Lib.hid hB
    clear hB
    have hc := hcv wr
    go_wp2_with fail
    all_goals exact bodyPost_ret (v := .tuple #[.string ⟨#[]⟩, .int .i64 0]) (by simp only [results, Tryz.results141]; go_simp) rfl ⟨rfl, HB.out⟩
/-- Numbers that aren't below 0, perhaps none, as bytes. -/
theorem vary_PutC (w : World) (base : Nat) (v : Value) (L : List Int) (ho : Own w base 3 encZ v L) (hi : ∀ x ∈ L, i64 x ∧ 0 ≤ x) (hl : L.length ≤ 65536) :
    Calls Tryz.prog 141 #[v] w fun e w' => e = .returned (.tuple #[.string ⟨(putB L).toArray⟩, .int .i64 0]) ∧ Below w.heap.size w w' := by
  cases L with
  | nil => exact vary_Put0 w base v ho
  | cons x L =>
    refine (vary_Put w base v (x :: L) ho (fun y hy => (hi y hy).1) hl (by simp)).mono ?_
    rintro e w' ⟨⟨t, he, ht⟩, hb⟩
    have hal : (x :: L).all (fun y => decide (0 ≤ y)) = true := List.all_eq_true.2 fun y hy => by simpa using (hi y hy).2
    rw [if_pos hal] at he
    exact ⟨by rw [he, ht hal], hb⟩
/-- Two lists of numbers that grow. -/
structure TwoL (B : Nat) (w3 : World) (U1 : Value) (L1 : List Int) (U2 : Value) (L2 : List Int) (W : World) : Prop where
  o1 : Own W B 3 encZ U1 L1
  o2 : Own W B 3 encZ U2 L2
  sep : Sep U1 U2
  b : Below B w3 W
  size : B ≤ W.heap.size
section
variable {B : Nat} {w3 : World} {U1 U1' U2 U2' : Value} {L1 L1' L2 L2' : List Int} {W W' : World}
theorem TwoL.below (h : TwoL B w3 U1 L1 U2 L2 W) (hb : Below W.heap.size W W') : TwoL B w3 U1 L1 U2 L2 W' := ⟨h.o1.below hb, h.o2.below hb, h.sep, h.b.trans (hb.mono h.size), Nat.le_trans h.size hb.size⟩
theorem TwoL.alloc (h : TwoL B w3 U1 L1 U2 L2 W) (o : Obj) : TwoL B w3 U1 L1 U2 L2 (W.alloc o) := h.below ((Below.refl _ _).alloc (Nat.le_refl _) o)
theorem TwoL.drew (h : TwoL B w3 U1 L1 U2 L2 W) : TwoL B w3 U1 L1 U2 L2 W.drew := h.below (Below.refl _ _).drew
theorem TwoL.app1 (h : TwoL B w3 U1 L1 U2 L2 W) (hg : W.grownBy W' U1.ownBlock) (ho : Own W' B 3 encZ U1' L1') (hl : U1'.ownBlock = U1.ownBlock ∨ U1'.ownBlock = some W.heap.size) (hb : Below B W W') : TwoL B w3 U1' L1' U2 L2 W' :=
  ⟨ho, h.o2.kept hg (by
    cases e : U2.ownBlock with
    | none => exact .inl rfl
    | some g => exact .inr fun he => h.sep g (by rw [← he]) e), fun g h1 h2 => by
      rcases hl with hl | hl
      · exact h.sep g (hl ▸ h1) h2
      · rw [hl] at h1; cases h1; exact absurd (h.o2.lt _ h2).2 (Nat.lt_irrefl _), h.b.trans hb, Nat.le_trans h.size hb.size⟩
theorem TwoL.swap (h : TwoL B w3 U1 L1 U2 L2 W) : TwoL B w3 U2 L2 U1 L1 W := ⟨h.o2, h.o1, h.sep.symm, h.b, h.size⟩
theorem TwoL.app2 (h : TwoL B w3 U1 L1 U2 L2 W) (hg : W.grownBy W' U2.ownBlock) (ho : Own W' B 3 encZ U2' L2') (hl : U2'.ownBlock = U2.ownBlock ∨ U2'.ownBlock = some W.heap.size) (hb : Below B W W') : TwoL B w3 U1 L1 U2' L2' W' := (h.swap.app1 hg ho hl hb).swap
end
/-- A block of cells that is no block of either list. -/
structure OffB (x : Nat) (o : Obj) (U1 U2 : Value) (W : World) : Prop where
  h : W.heap[x]? = some o
  n1 : U1.ownBlock ≠ some x
  n2 : U2.ownBlock ≠ some x
section
variable {x : Nat} {o : Obj} {U1 U1' U2 U2' : Value} {W W' : World}
theorem OffB.below (h : OffB x o U1 U2 W) (hb : Below W.heap.size W W') : OffB x o U1 U2 W' := ⟨blk_below h.h hb, h.n1, h.n2⟩
theorem OffB.alloc (h : OffB x o U1 U2 W) (p : Obj) : OffB x o U1 U2 (W.alloc p) := h.below ((Below.refl _ _).alloc (Nat.le_refl _) p)
theorem OffB.drew (h : OffB x o U1 U2 W) : OffB x o U1 U2 W.drew := ⟨h.h, h.n1, h.n2⟩
theorem OffB.app1 (h : OffB x o U1 U2 W) (hg : W.grownBy W' U1.ownBlock) (hl : U1'.ownBlock = U1.ownBlock ∨ U1'.ownBlock = some W.heap.size) : OffB x o U1' U2 W' :=
  ⟨blk_grown_not h.h hg h.n1, fun e => by
    rcases hl with hl | hl
    · exact h.n1 (hl ▸ e)
    · rw [hl] at e; cases e; exact absurd (lt_of_block h.h) (Nat.lt_irrefl _), h.n2⟩
theorem OffB.swap (h : OffB x o U1 U2 W) : OffB x o U2 U1 W := ⟨h.h, h.n2, h.n1⟩
theorem OffB.app2 (h : OffB x o U1 U2 W) (hg : W.grownBy W' U2.ownBlock) (hl : U2'.ownBlock = U2.ownBlock ∨ U2'.ownBlock = some W.heap.size) : OffB x o U1 U2' W' := (h.swap.app1 hg hl).swap
theorem OffB.new {B : Nat} {w3 : World} {L1 L2 : List Int} (h : TwoL B w3 U1 L1 U2 L2 W) (cs : Array Value) (t : TypeId) : OffB W.heap.size (.cells cs t (0, 0)) U1 U2 (W.alloc (.cells cs t)) :=
  ⟨heap_alloc_new W _, h.o1.not_at _ (Nat.le_refl _), h.o2.not_at _ (Nat.le_refl _)⟩
end
theorem sl_one {W : World} {b t : Nat} {x : Int} (h : W.heap[b]? = some (.cells #[.int .i64 x] t (0, 0))) : Sl W W.heap.size encZ (some ⟨b, 0, none⟩) [x] := sl_cell (by rw [blk_cell h]; rfl) (lt_of_block h)
theorem back1 (W : World) (a : UInt8) (n : Nat) (hn : n = W.heap.size) :
    (convert 151 9 (.slice (some ⟨n, 0, none⟩) 1 1)).run Tryz.prog (W.alloc (.cells #[.int .u8 (a.toNat : Int)] 5)) = .ok (.string ⟨[a].toArray⟩) (W.alloc (.cells #[.int .u8 (a.toNat : Int)] 5)) := by
  subst hn
  refine run_convert_bytes_back (P := Tryz.prog) _ 151 9 5 ⟨W.heap.size, 0, none⟩ 1 [a] Tryz.underlying151 Tryz.underlying5 Tryz.underlying9 ?_
  intro j hj
  rw [show Addr.add ⟨W.heap.size, 0, none⟩ j = ⟨W.heap.size, j, none⟩ by unfold Addr.add; split <;> simp_all]
  rw [World.cell?_alloc_mark]
  simp only [List.length_cons, List.length_nil] at hj
  match j, hj with
  | 0, _ => rfl
/-- What a digest's bytes are made of. -/
structure WireF (l : Nat) (k : Int) (r : List Nd) : Prop where
  up : risesOk (r.map (·.1)) = true
  ids : ∀ x ∈ r.map (·.1), i64 x
  cts : ∀ x ∈ r.map (·.2), i64 x ∧ 0 ≤ x
  hd : ∀ x ∈ [k, sumR r], i64 x ∧ 0 ≤ x
  l1 : (putB [k, sumR r]).length ≤ 18
  l2 : (risesB (r.map (·.1))).length ≤ 9 + 9 * r.length
  l3 : (putB (r.map (·.2))).length ≤ 9 * r.length
theorem steps_ok : ∀ {L : List Int} {p : Int}, (p :: L).Pairwise (· < ·) → (List.zipWith (fun x q => x - q) L (p :: L)).all (fun d => decide (0 < d)) = true := by
  intro L
  induction L with
  | nil => intro p _; simp
  | cons x L ih =>
    intro p h
    obtain ⟨h1, h2⟩ := List.pairwise_cons.1 h
    have := h1 x (by simp)
    simp only [List.zipWith_cons_cons, List.all_cons, Bool.and_eq_true, decide_eq_true_eq]
    exact ⟨by omega, ih h2⟩
theorem steps_le : ∀ {L : List Int} {p : Int}, 0 ≤ p → (p :: L).Pairwise (· < ·) → (∀ x ∈ L, x ≤ 9223372036854775807) → ∀ d ∈ List.zipWith (fun x q => x - q) L (p :: L), d ≤ 9223372036854775807 := by
  intro L
  induction L with
  | nil => intro p _ _ _ d hd; simp at hd
  | cons x L ih =>
    intro p hp h hx d hd
    obtain ⟨h1, h2⟩ := List.pairwise_cons.1 h
    have := h1 x (by simp)
    have := hx x (by simp)
    simp only [List.zipWith_cons_cons, List.mem_cons] at hd
    rcases hd with rfl | hd
    · omega
    · exact ih (by omega) h2 (fun y hy => hx y (by simp [hy])) d hd
theorem WireF.of {l : Nat} {k : Int} {r : List Nd} (hl : 1 ≤ l ∧ l ≤ 48) (hf : Fits l r) (hk : 1 ≤ k) (hk2 : k ≤ 1048576) (hn : r.length ≤ 60000) : WireF l k r := by
  have hs0 := sumR_nonneg hf.roll
  have hs1 := hf.sum
  have hup : ((0 : Int) :: r.map (·.1)).Pairwise (· < ·) := by
    refine List.pairwise_cons.2 ⟨?_, ?_⟩
    · intro x hx
      obtain ⟨y, hy, rfl⟩ := List.mem_map.1 hx
      have := (hf.roll.2 y hy).1; omega
    · rw [List.pairwise_map]; exact hf.roll.1
  have hi : ∀ x ∈ r.map (·.1), i64 x := by
    intro x hx
    obtain ⟨y, hy, rfl⟩ := List.mem_map.1 hx
    have h1 := isNode_lt (hf.nodes hl y hy)
    have h2 := pow_48 hl.2
    constructor <;> omega
  have hc : ∀ x ∈ r.map (·.2), i64 x ∧ 0 ≤ x := by
    intro x hx
    obtain ⟨y, hy, rfl⟩ := List.mem_map.1 hx
    have h1 := (hf.roll.2 y hy).2
    have h2 := getR_le_sum hf.roll y.1
    rw [getR_mem hf.roll hy] at h2
    exact ⟨by constructor <;> omega, by omega⟩
  have hh : ∀ x ∈ [k, sumR r], i64 x ∧ 0 ≤ x := by
    intro x hx
    simp only [List.mem_cons, List.not_mem_nil, or_false] at hx
    rcases hx with rfl | rfl
    · exact ⟨by constructor <;> omega, by omega⟩
    · exact ⟨by constructor <;> omega, by omega⟩
  refine ⟨steps_ok hup, hi, hc, hh, ?_, ?_, ?_⟩
  · exact putB_len (L := [k, sumR r]) fun x hx => (hh x hx).1.2
  · have h1 := putB_len (L := stepD (r.map (·.1))) (steps_le (Int.le_refl 0) hup fun x hx => (hi x hx).2)
    have h2 := oneB_le (n := (r.map (·.1)).length) (by simp; omega)
    unfold risesB
    rw [stepD_len] at h1
    simp only [List.length_append, List.length_map] at h1 h2 ⊢
    omega
  · have := putB_len (L := r.map (·.2)) fun x hx => (hc x hx).1.2
    simpa using this
theorem map_take {r : List Nd} {q : Nat} {y : Nd} (h : q < r.length) (hy : r[q] = y) : (r.take (q + 1)).map (·.1) = (r.take q).map (·.1) ++ [y.1] ∧ (r.take (q + 1)).map (·.2) = (r.take q).map (·.2) ++ [y.2] := by
  rw [List.take_succ_eq_append_getElem h, hy]
  simp
set_option maxHeartbeats 8000000 in
theorem wire_Encode (w : World) (g K l : Nat) (k : Int) (r : List Nd) (F : Nat → Prop) (h : DigAt w g K l k r F) (hn : r.length ≤ 60000) :
    Calls Tryz.prog 89 #[.pointer (some ⟨g, 0, none⟩)] w fun e w' => e = .returned (.tuple #[.string ⟨(wireT l k r).toArray⟩, .int .i64 0]) ∧ Below w.heap.size w w' := by
  have HD := Lib.hid h
  have hll := h.l_le
  have hk : 1 ≤ k ∧ k ≤ 1048576 := by obtain ⟨p, F0, _, _, _, _, h1, h2⟩ := h.parts; exact ⟨h1, h2⟩
  have HC := Lib.hid (digest_Conf w g K l k r F h)
  have HF := Lib.hid h.fits
  obtain ⟨G, hG⟩ : ∃ G, G = wireT l k r := ⟨_, rfl⟩
  rw [← hG]
  have HG := Lib.hid hG
  clear h hG
  go_enter Tryz.func89, Tryz.ntmps89
  go_wp2_with fail
  refine HC.out.mono ?_
  rintro e w1 ⟨rfl, hb1⟩
  have X2 := Lib.hid (heap_alloc_new w1 (.cells #[.int .i64 l, .int .i64 k, .int .i64 K] 23))
  have B2 : Hid (Below w.heap.size w (w1.alloc (.cells #[.int .i64 l, .int .i64 k, .int .i64 K] 23))) := Lib.hid (by repeat (first | with_reducible exact Below.refl _ _ | with_reducible assumption | ((with_reducible refine Below.setCell ?_ ?_ _); rotate_left; · (first | omega | exact Nat.le_refl _ | (simp <;> omega))) | (with_reducible refine Below.allocW ?_ _) | (with_reducible refine Below.drew ?_) | (with_reducible refine Below.extW ?_ _)))
  have D2 := Lib.hid (HD.out.below B2.out)
  clear HC hb1
  go_upto_region 5 with fail
  generalize w1.alloc (.cells #[.int .i64 l, .int .i64 k, .int .i64 K] 23) = w2 at X2 B2 D2 ⊢
  go_wp2_with fail
  refine (digest_Nodes w2 g K l k r F D2.out (by omega)).mono ?_
  rintro e w3 ⟨v, rfl, ho, hb3⟩
  obtain ⟨A, cap, rfl, _⟩ := ho.form
  have O3 := Lib.hid ho
  have X3 := Lib.hid (blk_below X2.out hb3)
  have D3 := Lib.hid (D2.out.below hb3)
  have B3 := Lib.hid (Below.then_ B2.out hb3)
  obtain ⟨B, hBe⟩ : ∃ B, B = w3.heap.size := ⟨_, rfl⟩
  have HBe := Lib.hid hBe
  have TS : Hid (TwoL B w3 (.slice none 0 0) [] (.slice none 0 0) [] w3) := Lib.hid ⟨Own.nil _ _ _ _, Own.nil _ _ _ _, (fun g h1 => by cases h1), Below.refl _ _, by omega⟩
  clear ho hb3 D2 X2 B2 hBe
  go_wp2_with fail
  go_loopw [5, 6, 22] (fun V1 V2 j wr => ∃ q : Nat, q ≤ r.length ∧ j = .int .i64 q ∧ TwoL B w3 V1 ((r.take q).map (·.1)) V2 ((r.take q).map (·.2)) wr) (fun _ _ j _ => r.length - (intOf j).toNat)
  case atStart => exact ⟨0, Nat.zero_le _, rfl, by simpa using TS.out⟩
  case round =>
    obtain ⟨q, hq, rfl, hT⟩ := hrel
    have KT := Lib.hid hT
    have hBw := hT.size
    have OR := Lib.hid (O3.out.sl.keep (B' := wr.heap.size) (by have := HBe.out; omega) fun p hp => hT.b.cell (by have := HBe.out; omega))
    clear hT
    by_cases hlt : q < r.length
    · have hqi : (q : Int) < (r.length : Int) := by omega
      obtain ⟨b, off, rfl, hb, hc⟩ := OR.out.at_ hlt
      have d0 := hc 0 (.int .i64 r[q].1) rfl
      have d1 := hc 1 (.int .i64 r[q].2) rfl
      simp only [Nat.add_zero] at d0
      obtain ⟨y, hy⟩ : ∃ y, r[q] = y := ⟨_, rfl⟩
      have HT1 := Lib.hid (map_take hlt hy).1
      have HT2 := Lib.hid (map_take hlt hy).2
      rw [hy] at d0 d1
      have T0 := Lib.hid (KT.out.alloc (.cells #[.int .i64 y.1, .int .i64 y.2] 115))
      have N0 := Lib.hid (OffB.new KT.out #[.int .i64 y.1, .int .i64 y.2] 115)
      clear hc hy
      go_upto_region 8 with fail
      generalize wr.alloc (.cells #[.int .i64 y.1, .int .i64 y.2] 115) = Wa at T0 N0 ⊢
      replace T0 := Lib.hid T0.out.drew
      replace N0 := Lib.hid N0.out.drew
      refine wp_region_noPanic ?_
      refine wp_region_N (fun w' => w'.heap[wr.heap.size]? = some (.cells #[.int .i64 y.1, .int .i64 y.2] 115 (0, 0))) [] (by kernel_rfl) (N0.out.h) (fun hHeld => ?_)
      generalize Wa.drew = Wd at T0 N0 hHeld ⊢
      refine wpAnyN_pure (i := 0) (v := u5) rfl (by kernel_rfl) (by kernel_rfl) (by kernel_rfl) (fun _ _ _ h => h) (Or.inl ⟨by rfl, fun W _ => by go_simp⟩) ?_
      try simp only [List.getElem_toArray, List.getElem_cons_zero, List.getElem_cons_succ, Act.put, List.setIfInBounds_toArray, List.set_cons_zero, List.set_cons_succ]
      refine wpAnyN_pure (i := 1) (v := Value.pointer (some ⟨wr.heap.size, 0, none⟩)) rfl (by kernel_rfl) (by kernel_rfl) (by kernel_rfl) (fun _ _ _ h => h) (Or.inl ⟨by rfl, fun W _ => by go_simp⟩) ?_
      try simp only [List.getElem_toArray, List.getElem_cons_zero, List.getElem_cons_succ, Act.put, List.setIfInBounds_toArray, List.set_cons_zero, List.set_cons_succ]
      refine wpAnyN_take (i := 2) (v := Value.int .i64 y.1) rfl (by kernel_rfl) (by kernel_rfl) (by kernel_rfl) (by kernel_rfl) (fun _ _ _ h => h) (Or.inl ⟨by rfl, fun W hW => by have q1 := blk_cell hW; have q2 := lt_of_block hW; go_simp⟩) N0.out.h ?_
      try simp only [List.getElem_toArray, List.getElem_cons_zero, List.getElem_cons_succ, Act.put, List.setIfInBounds_toArray, List.set_cons_zero, List.set_cons_succ]
      refine wpAnyN_pure (i := 5) (v := u6) rfl (by kernel_rfl) (by kernel_rfl) (by kernel_rfl) (fun _ _ _ h => h) (Or.inl ⟨by rfl, fun W _ => by go_simp⟩) ?_
      try simp only [List.getElem_toArray, List.getElem_cons_zero, List.getElem_cons_succ, Act.put, List.setIfInBounds_toArray, List.set_cons_zero, List.set_cons_succ]
      refine wpAnyN_pure (i := 6) (v := Value.pointer (some ⟨wr.heap.size, 1, none⟩)) rfl (by kernel_rfl) (by kernel_rfl) (by kernel_rfl) (fun _ _ _ h => h) (Or.inl ⟨by rfl, fun W _ => by go_simp⟩) ?_
      try simp only [List.getElem_toArray, List.getElem_cons_zero, List.getElem_cons_succ, Act.put, List.setIfInBounds_toArray, List.set_cons_zero, List.set_cons_succ]
      refine wpAnyN_take (i := 7) (v := Value.int .i64 y.2) rfl (by kernel_rfl) (by kernel_rfl) (by kernel_rfl) (by kernel_rfl) (fun _ _ _ h => h) (Or.inl ⟨by rfl, fun W hW => by have q1 := blk_cell hW; have q2 := lt_of_block hW; go_simp⟩) N0.out.h ?_
      try simp only [List.getElem_toArray, List.getElem_cons_zero, List.getElem_cons_succ, Act.put, List.setIfInBounds_toArray, List.set_cons_zero, List.set_cons_succ]
      clear hHeld
      refine wpAnyN_two (i := 3) (k := 8) (by kernel_rfl) rfl rfl (fun K hK => ?_) (fun K hK => ?_)
      · skip
        go_simp
        refine hK.out _ _ (fun _ hS => blk_below hS ((Below.refl _ _).alloc (Nat.le_refl _) _)) ?_
        clear hK K
        try simp only [List.getElem_toArray, List.getElem_cons_zero, List.getElem_cons_succ, Act.put, List.setIfInBounds_toArray, List.set_cons_zero, List.set_cons_succ]
        have L1 := Lib.hid (OffB.new T0.out #[.int .i64 y.1] 3)
        have T1 := Lib.hid (T0.out.alloc (.cells #[.int .i64 y.1] 3))
        have N1 := Lib.hid (N0.out.alloc (.cells #[.int .i64 y.1] 3))
        have hs1 : Wd.heap.size < (Wd.alloc (.cells #[.int .i64 y.1] 3)).heap.size := by simp
        generalize Wd.alloc (.cells #[.int .i64 y.1] 3) = W1 at L1 T1 N1 hs1 ⊢
        refine wpAnyN_two (i := 4) (k := 8) (by kernel_rfl) rfl rfl (fun K hK => ?_) (fun K hK => ?_)
        · skip
          refine step_app (o := ⟨some 30, _, _, _, _, _⟩) tyZ (by rfl) _ _ (by rfl) encZ B u5 ((r.take q).map (·.1)) (by rfl) T1.out.o1 _ 1 [y.1] _ (by rfl) (sl_one L1.out.h) (by simp only [List.length_map, List.length_take, List.length_append, List.length_cons, List.length_nil]; omega) (by simp only [maxLen, List.length_map, List.length_take, List.length_append, List.length_cons, List.length_nil]; omega) T1.out.size ?_
          intro v2 W2 ho2 hg2 hl2 hb2 hn2
          refine hK.out _ _ (fun _ hS => blk_grown_not hS hg2 N1.out.n1) ?_
          clear hK K
          try simp only [List.getElem_toArray, List.getElem_cons_zero, List.getElem_cons_succ, Act.put, List.setIfInBounds_toArray, List.set_cons_zero, List.set_cons_succ]
          have T2 := Lib.hid (T1.out.app1 hg2 ho2 hl2 hb2)
          have N2 := Lib.hid (N1.out.app1 hg2 hl2)
          clear ho2 hg2 hl2 hb2 hn2
          refine wpAnyN_one (i := 8) (by kernel_rfl) rfl (fun K hK => ?_)
          go_simp
          refine hK.out _ _ (fun _ hS => blk_below hS ((Below.refl _ _).alloc (Nat.le_refl _) _)) ?_
          clear hK K
          try simp only [List.getElem_toArray, List.getElem_cons_zero, List.getElem_cons_succ, Act.put, List.setIfInBounds_toArray, List.set_cons_zero, List.set_cons_succ]
          have L3 := Lib.hid (OffB.new T2.out #[.int .i64 y.2] 3)
          have T3 := Lib.hid (T2.out.alloc (.cells #[.int .i64 y.2] 3))
          have N3 := Lib.hid (N2.out.alloc (.cells #[.int .i64 y.2] 3))
          have M3 := Lib.hid (L1.out.alloc (.cells #[.int .i64 y.2] 3))
          have hs3 : W2.heap.size < (W2.alloc (.cells #[.int .i64 y.2] 3)).heap.size := by simp
          generalize W2.alloc (.cells #[.int .i64 y.2] 3) = W3 at L3 T3 N3 M3 hs3 ⊢
          refine wpAnyN_one (i := 9) (by kernel_rfl) rfl (fun K hK => ?_)
          refine step_app (o := ⟨some 35, _, _, _, _, _⟩) tyZ (by rfl) _ _ (by rfl) encZ B u6 ((r.take q).map (·.2)) (by rfl) T3.out.o2 _ 1 [y.2] _ (by rfl) (sl_one L3.out.h) (by simp only [List.length_map, List.length_take, List.length_append, List.length_cons, List.length_nil]; omega) (by simp only [maxLen, List.length_map, List.length_take, List.length_append, List.length_cons, List.length_nil]; omega) T3.out.size ?_
          intro v4 W4 ho4 hg4 hl4 hb4 hn4
          refine hK.out _ _ (fun _ hS => blk_grown_not hS hg4 N3.out.n2) ?_
          clear hK K
          try simp only [List.getElem_toArray, List.getElem_cons_zero, List.getElem_cons_succ, Act.put, List.setIfInBounds_toArray, List.set_cons_zero, List.set_cons_succ]
          have T4 := Lib.hid (T3.out.app2 hg4 ho4 hl4 hb4)
          have N4 := Lib.hid (N3.out.app2 hg4 hl4)
          clear ho4 hg4 hl4 hb4 hn4
          refine wpAnyN_pure (i := 10) (v := v2) rfl (by kernel_rfl) (by kernel_rfl) (by kernel_rfl) (fun _ _ _ h => h) (Or.inl ⟨by rfl, fun W _ => by go_simp⟩) ?_
          try simp only [List.getElem_toArray, List.getElem_cons_zero, List.getElem_cons_succ, Act.put, List.setIfInBounds_toArray, List.set_cons_zero, List.set_cons_succ]
          refine wpAnyN_one (i := 11) (by kernel_rfl) rfl (fun K hK => ?_)
          go_simp
          refine hK.out _ _ (fun _ _ => N4.out.h) ?_
          clear hK K
          try simp only [List.getElem_toArray, List.getElem_cons_zero, List.getElem_cons_succ, Act.put, List.setIfInBounds_toArray, List.set_cons_zero, List.set_cons_succ]
          refine wpAnyN_done (by kernel_rfl) ?_ _
          refine NoPanic.normal ?_
          have HE := Lib.hid T4.out
          obtain ⟨A1, c1, e1, _⟩ := HE.out.o1.form
          obtain ⟨A2, c2, e2, _⟩ := HE.out.o2.form
          go_wp2_with fail
          go_roundw
          case rel => exact ⟨q + 1, by omega, by go_num, by rw [HT1.out, HT2.out]; exact HE.out⟩
          case measure => simp [intOf]; omega
        · skip
          go_simp
          refine hK.out _ _ (fun _ hS => blk_below hS ((Below.refl _ _).alloc (Nat.le_refl _) _)) ?_
          clear hK K
          try simp only [List.getElem_toArray, List.getElem_cons_zero, List.getElem_cons_succ, Act.put, List.setIfInBounds_toArray, List.set_cons_zero, List.set_cons_succ]
          have L5 := Lib.hid (OffB.new T1.out #[.int .i64 y.2] 3)
          have T5 := Lib.hid (T1.out.alloc (.cells #[.int .i64 y.2] 3))
          have N5 := Lib.hid (N1.out.alloc (.cells #[.int .i64 y.2] 3))
          have M5 := Lib.hid (L1.out.alloc (.cells #[.int .i64 y.2] 3))
          have hs5 : W1.heap.size < (W1.alloc (.cells #[.int .i64 y.2] 3)).heap.size := by simp
          generalize W1.alloc (.cells #[.int .i64 y.2] 3) = W5 at L5 T5 N5 M5 hs5 ⊢
          refine wpAnyN_one (i := 4) (by kernel_rfl) rfl (fun K hK => ?_)
          refine step_app (o := ⟨some 30, _, _, _, _, _⟩) tyZ (by rfl) _ _ (by rfl) encZ B u5 ((r.take q).map (·.1)) (by rfl) T5.out.o1 _ 1 [y.1] _ (by rfl) (sl_one M5.out.h) (by simp only [List.length_map, List.length_take, List.length_append, List.length_cons, List.length_nil]; omega) (by simp only [maxLen, List.length_map, List.length_take, List.length_append, List.length_cons, List.length_nil]; omega) T5.out.size ?_
          intro v6 W6 ho6 hg6 hl6 hb6 hn6
          refine hK.out _ _ (fun _ hS => blk_grown_not hS hg6 N5.out.n1) ?_
          clear hK K
          try simp only [List.getElem_toArray, List.getElem_cons_zero, List.getElem_cons_succ, Act.put, List.setIfInBounds_toArray, List.set_cons_zero, List.set_cons_succ]
          have T6 := Lib.hid (T5.out.app1 hg6 ho6 hl6 hb6)
          have N6 := Lib.hid (N5.out.app1 hg6 hl6)
          have M6 := Lib.hid (L5.out.app1 hg6 hl6)
          clear ho6 hg6 hl6 hb6 hn6
          refine wpAnyN_one (i := 9) (by kernel_rfl) rfl (fun K hK => ?_)
          refine step_app (o := ⟨some 35, _, _, _, _, _⟩) tyZ (by rfl) _ _ (by rfl) encZ B u6 ((r.take q).map (·.2)) (by rfl) T6.out.o2 _ 1 [y.2] _ (by rfl) (sl_one M6.out.h) (by simp only [List.length_map, List.length_take, List.length_append, List.length_cons, List.length_nil]; omega) (by simp only [maxLen, List.length_map, List.length_take, List.length_append, List.length_cons, List.length_nil]; omega) T6.out.size ?_
          intro v7 W7 ho7 hg7 hl7 hb7 hn7
          refine hK.out _ _ (fun _ hS => blk_grown_not hS hg7 N6.out.n2) ?_
          clear hK K
          try simp only [List.getElem_toArray, List.getElem_cons_zero, List.getElem_cons_succ, Act.put, List.setIfInBounds_toArray, List.set_cons_zero, List.set_cons_succ]
          have T7 := Lib.hid (T6.out.app2 hg7 ho7 hl7 hb7)
          have N7 := Lib.hid (N6.out.app2 hg7 hl7)
          clear ho7 hg7 hl7 hb7 hn7
          refine wpAnyN_pure (i := 10) (v := v6) rfl (by kernel_rfl) (by kernel_rfl) (by kernel_rfl) (fun _ _ _ h => h) (Or.inl ⟨by rfl, fun W _ => by go_simp⟩) ?_
          try simp only [List.getElem_toArray, List.getElem_cons_zero, List.getElem_cons_succ, Act.put, List.setIfInBounds_toArray, List.set_cons_zero, List.set_cons_succ]
          refine wpAnyN_one (i := 11) (by kernel_rfl) rfl (fun K hK => ?_)
          go_simp
          refine hK.out _ _ (fun _ _ => N7.out.h) ?_
          clear hK K
          try simp only [List.getElem_toArray, List.getElem_cons_zero, List.getElem_cons_succ, Act.put, List.setIfInBounds_toArray, List.set_cons_zero, List.set_cons_succ]
          refine wpAnyN_done (by kernel_rfl) ?_ _
          refine NoPanic.normal ?_
          have HE := Lib.hid T7.out
          obtain ⟨A1, c1, e1, _⟩ := HE.out.o1.form
          obtain ⟨A2, c2, e2, _⟩ := HE.out.o2.form
          go_wp2_with fail
          go_roundw
          case rel => exact ⟨q + 1, by omega, by go_num, by rw [HT1.out, HT2.out]; exact HE.out⟩
          case measure => simp [intOf]; omega
      · skip
        go_simp
        refine hK.out _ _ (fun _ hS => blk_below hS ((Below.refl _ _).alloc (Nat.le_refl _) _)) ?_
        clear hK K
        try simp only [List.getElem_toArray, List.getElem_cons_zero, List.getElem_cons_succ, Act.put, List.setIfInBounds_toArray, List.set_cons_zero, List.set_cons_succ]
        have L8 := Lib.hid (OffB.new T0.out #[.int .i64 y.2] 3)
        have T8 := Lib.hid (T0.out.alloc (.cells #[.int .i64 y.2] 3))
        have N8 := Lib.hid (N0.out.alloc (.cells #[.int .i64 y.2] 3))
        have hs8 : Wd.heap.size < (Wd.alloc (.cells #[.int .i64 y.2] 3)).heap.size := by simp
        generalize Wd.alloc (.cells #[.int .i64 y.2] 3) = W8 at L8 T8 N8 hs8 ⊢
        refine wpAnyN_one (i := 3) (by kernel_rfl) rfl (fun K hK => ?_)
        go_simp
        refine hK.out _ _ (fun _ hS => blk_below hS ((Below.refl _ _).alloc (Nat.le_refl _) _)) ?_
        clear hK K
        try simp only [List.getElem_toArray, List.getElem_cons_zero, List.getElem_cons_succ, Act.put, List.setIfInBounds_toArray, List.set_cons_zero, List.set_cons_succ]
        have L9 := Lib.hid (OffB.new T8.out #[.int .i64 y.1] 3)
        have T9 := Lib.hid (T8.out.alloc (.cells #[.int .i64 y.1] 3))
        have N9 := Lib.hid (N8.out.alloc (.cells #[.int .i64 y.1] 3))
        have M9 := Lib.hid (L8.out.alloc (.cells #[.int .i64 y.1] 3))
        have hs9 : W8.heap.size < (W8.alloc (.cells #[.int .i64 y.1] 3)).heap.size := by simp
        generalize W8.alloc (.cells #[.int .i64 y.1] 3) = W9 at L9 T9 N9 M9 hs9 ⊢
        refine wpAnyN_one (i := 4) (by kernel_rfl) rfl (fun K hK => ?_)
        refine step_app (o := ⟨some 30, _, _, _, _, _⟩) tyZ (by rfl) _ _ (by rfl) encZ B u5 ((r.take q).map (·.1)) (by rfl) T9.out.o1 _ 1 [y.1] _ (by rfl) (sl_one L9.out.h) (by simp only [List.length_map, List.length_take, List.length_append, List.length_cons, List.length_nil]; omega) (by simp only [maxLen, List.length_map, List.length_take, List.length_append, List.length_cons, List.length_nil]; omega) T9.out.size ?_
        intro v10 W10 ho10 hg10 hl10 hb10 hn10
        refine hK.out _ _ (fun _ hS => blk_grown_not hS hg10 N9.out.n1) ?_
        clear hK K
        try simp only [List.getElem_toArray, List.getElem_cons_zero, List.getElem_cons_succ, Act.put, List.setIfInBounds_toArray, List.set_cons_zero, List.set_cons_succ]
        have T10 := Lib.hid (T9.out.app1 hg10 ho10 hl10 hb10)
        have N10 := Lib.hid (N9.out.app1 hg10 hl10)
        have M10 := Lib.hid (M9.out.app1 hg10 hl10)
        clear ho10 hg10 hl10 hb10 hn10
        refine wpAnyN_one (i := 9) (by kernel_rfl) rfl (fun K hK => ?_)
        refine step_app (o := ⟨some 35, _, _, _, _, _⟩) tyZ (by rfl) _ _ (by rfl) encZ B u6 ((r.take q).map (·.2)) (by rfl) T10.out.o2 _ 1 [y.2] _ (by rfl) (sl_one M10.out.h) (by simp only [List.length_map, List.length_take, List.length_append, List.length_cons, List.length_nil]; omega) (by simp only [maxLen, List.length_map, List.length_take, List.length_append, List.length_cons, List.length_nil]; omega) T10.out.size ?_
        intro v11 W11 ho11 hg11 hl11 hb11 hn11
        refine hK.out _ _ (fun _ hS => blk_grown_not hS hg11 N10.out.n2) ?_
        clear hK K
        try simp only [List.getElem_toArray, List.getElem_cons_zero, List.getElem_cons_succ, Act.put, List.setIfInBounds_toArray, List.set_cons_zero, List.set_cons_succ]
        have T11 := Lib.hid (T10.out.app2 hg11 ho11 hl11 hb11)
        have N11 := Lib.hid (N10.out.app2 hg11 hl11)
        clear ho11 hg11 hl11 hb11 hn11
        refine wpAnyN_pure (i := 10) (v := v10) rfl (by kernel_rfl) (by kernel_rfl) (by kernel_rfl) (fun _ _ _ h => h) (Or.inl ⟨by rfl, fun W _ => by go_simp⟩) ?_
        try simp only [List.getElem_toArray, List.getElem_cons_zero, List.getElem_cons_succ, Act.put, List.setIfInBounds_toArray, List.set_cons_zero, List.set_cons_succ]
        refine wpAnyN_one (i := 11) (by kernel_rfl) rfl (fun K hK => ?_)
        go_simp
        refine hK.out _ _ (fun _ _ => N11.out.h) ?_
        clear hK K
        try simp only [List.getElem_toArray, List.getElem_cons_zero, List.getElem_cons_succ, Act.put, List.setIfInBounds_toArray, List.set_cons_zero, List.set_cons_succ]
        refine wpAnyN_done (by kernel_rfl) ?_ _
        refine NoPanic.normal ?_
        have HE := Lib.hid T11.out
        obtain ⟨A1, c1, e1, _⟩ := HE.out.o1.form
        obtain ⟨A2, c2, e2, _⟩ := HE.out.o2.form
        go_wp2_with fail
        go_roundw
        case rel => exact ⟨q + 1, by omega, by go_num, by rw [HT1.out, HT2.out]; exact HE.out⟩
        case measure => simp [intOf]; omega
    · obtain rfl : q = r.length := by omega

      rw [List.take_length] at KT
      have hTb : Below w3.heap.size w3 wr := HBe.out ▸ KT.out.b
      have X4 := Lib.hid (blk_below X3.out hTb)
      have X5 := Lib.hid (show wr.drew.heap[w1.heap.size]? = _ from X4.out)
      have D5 := Lib.hid ((D3.out.below hTb).below (w' := wr.drew) (by repeat (first | with_reducible exact Below.refl _ _ | with_reducible assumption | ((with_reducible refine Below.setCell ?_ ?_ _); rotate_left; · (first | omega | exact Nat.le_refl _ | (simp <;> omega))) | (with_reducible refine Below.allocW ?_ _) | (with_reducible refine Below.drew ?_) | (with_reducible refine Below.extW ?_ _))))
      have B5 := Lib.hid ((Below.then_ B3.out hTb).drew)
      obtain ⟨A1, c1, rfl, _⟩ := KT.out.o1.form
      obtain ⟨A2, c2, rfl, _⟩ := KT.out.o2.form
      have O51 := Lib.hid (KT.out.o1.drew)
      have O52 := Lib.hid (KT.out.o2.drew)
      simp only [List.length_map] at O51 O52
      have HW := Lib.hid (WireF.of hll HF.out hk.1 hk.2 hn)
      have hlw := HW.out.l1
      have hlr := HW.out.l2
      have hlc := HW.out.l3
      have HPt : Hid (∀ W n, W.heap.size = n → Calls Tryz.prog 141 #[.slice (some ⟨n, 0, none⟩) 2 2] (W.alloc (.cells #[.int .i64 k, .int .i64 (sumR r)] 3)) fun e w' => e = .returned (.tuple #[.string ⟨(putB [k, sumR r]).toArray⟩, .int .i64 0]) ∧ Below W.heap.size W w') := Lib.hid (fun W n hn => by
        subst hn
        refine (vary_PutC _ _ _ [k, sumR r] (Own.lit W encZ [k, sumR r] 3 (Nat.le_refl _) (by simp [maxLen])) HW.out.hd (by simp)).mono ?_
        rintro e w' ⟨he, hb⟩
        exact ⟨he, ((Below.refl W.heap.size W).alloc (Nat.le_refl _) _).trans (hb.mono (by simp))⟩)
      have HRi := Lib.hid (fun W h => vary_Rises W B (.slice A1 (r.map (·.1)).length c1) (r.map (·.1)) h HW.out.ids (by simp; omega) HW.out.up)
      have HPc := Lib.hid (fun W h => vary_PutC W B (.slice A2 (r.map (·.2)).length c2) (r.map (·.2)) h HW.out.cts (by simp; omega))
      obtain ⟨a, ha⟩ : ∃ a, a = UInt8.ofNat l := ⟨_, rfl⟩
      have hal : (a.toNat : Int) = (l : Int) := by rw [ha, UInt8.toNat_ofNat']; omega
      have hg := HG.out
      unfold wireT at hg
      rw [← ha] at hg
      obtain ⟨P1, hP1⟩ : ∃ P1, P1 = putB [k, sumR r] := ⟨_, rfl⟩
      obtain ⟨R1, hR1⟩ : ∃ R1, R1 = risesB (r.map (·.1)) := ⟨_, rfl⟩
      obtain ⟨C1, hC1⟩ : ∃ C1, C1 = putB (r.map (·.2)) := ⟨_, rfl⟩
      rw [← hP1] at HPt hlw hg
      rw [← hR1] at HRi hlr hg
      rw [← hC1] at HPc hlc hg
      have hc1 := fun W => run_string_add_lists (P := Tryz.prog) W [68, 87, 80, 1] [a] (by simp) (by simp)
      obtain ⟨U1, hU1⟩ : ∃ U1 : List UInt8, U1 = [68, 87, 80, 1] ++ [a] := ⟨_, rfl⟩
      have lU1 : U1.length = 5 := by rw [hU1]; rfl
      rw [← hU1] at hc1 hg
      have hc2 := fun W => run_string_add_lists (P := Tryz.prog) W U1 P1 (by omega) (by omega)
      obtain ⟨U2, hU2⟩ : ∃ U2, U2 = U1 ++ P1 := ⟨_, rfl⟩
      have lU2 : U2.length ≤ 23 := by rw [hU2, List.length_append]; omega
      rw [← hU2] at hc2 hg
      have hc3 := fun W => run_string_add_lists (P := Tryz.prog) W U2 R1 (by omega) (by omega)
      obtain ⟨U3, hU3⟩ : ∃ U3, U3 = U2 ++ R1 := ⟨_, rfl⟩
      have lU3 : U3.length ≤ 32 + 9 * r.length := by rw [hU3, List.length_append]; omega
      rw [← hU3] at hc3 hg
      have hc4 := fun W => run_string_add_lists (P := Tryz.prog) W U3 C1 (by omega) (by omega)
      obtain ⟨U4, hU4⟩ : ∃ U4, U4 = U3 ++ C1 := ⟨_, rfl⟩
      have lU4 : U4.length ≤ 8000000 := by rw [hU4, List.length_append]; omega
      rw [← hU4] at hc4 hg
      have HSe := Lib.hid (fun W => seal_Seal W U4 lU4)
      have hcv := fun W => back1 W a W.heap.size rfl
      rw [hal] at hcv
      clear hal
      rw [← hg] at HSe
      simp only [List.length_map] at HRi HPc
      clear hg hP1 hR1 hC1 hU1 hU2 hU3 hU4 lU1 lU2 lU3 lU4 hlw hlr hlc HW ha KT hTb OR hBw X3 D3 B3
      go_upto_region 10 with fail
      refine wp_region_noPanic ?_
      refine wp_region_N (fun w' => w'.heap[w1.heap.size]? = some (.cells #[.int .i64 l, .int .i64 k, .int .i64 K] 23 (0, 0))) [] (by kernel_rfl) (X4.out) (fun hHeld => ?_)
      generalize wr.drew = Wd at X5 D5 B5 O51 O52 hHeld ⊢
      refine wpAnyN_pure (i := 0) (v := Value.pointer (some ⟨w1.heap.size, 1, none⟩)) rfl (by kernel_rfl) (by kernel_rfl) (by kernel_rfl) (fun _ _ _ h => h) (Or.inl ⟨by rfl, fun W _ => by go_simp⟩) ?_
      try simp only [List.getElem_toArray, List.getElem_cons_zero, List.getElem_cons_succ, Act.put, List.setIfInBounds_toArray, List.set_cons_zero, List.set_cons_succ]
      refine wpAnyN_take (i := 1) (v := Value.int .i64 k) rfl (by kernel_rfl) (by kernel_rfl) (by kernel_rfl) (by kernel_rfl) (fun _ _ _ h => h) (Or.inl ⟨by rfl, fun W hW => by have q1 := blk_cell hW; have q2 := lt_of_block hW; go_simp⟩) X5.out ?_
      try simp only [List.getElem_toArray, List.getElem_cons_zero, List.getElem_cons_succ, Act.put, List.setIfInBounds_toArray, List.set_cons_zero, List.set_cons_succ]
      refine wpAnyN_pure (i := 2) (v := Value.pointer (some ⟨g, 0, none⟩)) rfl (by kernel_rfl) (by kernel_rfl) (by kernel_rfl) (fun _ _ _ h => h) (Or.inl ⟨by rfl, fun W _ => by go_simp⟩) ?_
      try simp only [List.getElem_toArray, List.getElem_cons_zero, List.getElem_cons_succ, Act.put, List.setIfInBounds_toArray, List.set_cons_zero, List.set_cons_succ]
      refine wpAnyN_one (i := 3) (by kernel_rfl) rfl (fun K hK => ?_)
      go_simp
      refine (digest_N _ g _ l k r F D5.out).mono ?_
      rintro e w5 ⟨rfl, hb5⟩
      have X6 := Lib.hid (blk_below X5.out hb5)
      have B6 := Lib.hid (Below.then_ B5.out hb5)
      have O61 := Lib.hid (O51.out.below hb5)
      have O62 := Lib.hid (O52.out.below hb5)
      clear hb5
      refine hK.out _ _ (fun _ _ => X6.out) ?_
      clear hK K
      try simp only [List.getElem_toArray, List.getElem_cons_zero, List.getElem_cons_succ, Act.put, List.setIfInBounds_toArray, List.set_cons_zero, List.set_cons_succ]
      refine wpAnyN_one (i := 4) (by kernel_rfl) rfl (fun K hK => ?_)
      go_simp
      go_simp
      refine hK.out _ _ (fun _ hS => blk_below hS ((Below.refl _ _).alloc (Nat.le_refl _) _)) ?_
      clear hK K
      try simp only [List.getElem_toArray, List.getElem_cons_zero, List.getElem_cons_succ, Act.put, List.setIfInBounds_toArray, List.set_cons_zero, List.set_cons_succ]
      refine wpAnyN_one (i := 5) (by kernel_rfl) rfl (fun K hK => ?_)
      go_simp
      refine (HPt.out w5 _ rfl).mono ?_
      rintro e w6 ⟨rfl, hb6⟩
      have X7 := Lib.hid (blk_below X6.out hb6)
      have B7 := Lib.hid (Below.then_ B6.out hb6)
      have O71 := Lib.hid (O61.out.below hb6)
      have O72 := Lib.hid (O62.out.below hb6)
      clear hb6
      refine hK.out _ _ (fun _ _ => X7.out) ?_
      clear hK K
      try simp only [List.getElem_toArray, List.getElem_cons_zero, List.getElem_cons_succ, Act.put, List.setIfInBounds_toArray, List.set_cons_zero, List.set_cons_succ]
      refine wpAnyN_pure (i := 6) (v := Value.tuple #[.string ⟨P1.toArray⟩, .int .i64 0]) rfl (by kernel_rfl) (by kernel_rfl) (by kernel_rfl) (fun _ _ _ h => h) (Or.inl ⟨by rfl, fun W _ => by go_simp⟩) ?_
      try simp only [List.getElem_toArray, List.getElem_cons_zero, List.getElem_cons_succ, Act.put, List.setIfInBounds_toArray, List.set_cons_zero, List.set_cons_succ]
      refine wpAnyN_pure (i := 7) (v := Value.string ⟨P1.toArray⟩) rfl (by kernel_rfl) (by kernel_rfl) (by kernel_rfl) (fun _ _ _ h => h) (Or.inl ⟨by rfl, fun W _ => by go_simp⟩) ?_
      try simp only [List.getElem_toArray, List.getElem_cons_zero, List.getElem_cons_succ, Act.put, List.setIfInBounds_toArray, List.set_cons_zero, List.set_cons_succ]
      refine wpAnyN_pure (i := 8) (v := Value.int .i64 0) rfl (by kernel_rfl) (by kernel_rfl) (by kernel_rfl) (fun _ _ _ h => h) (Or.inl ⟨by rfl, fun W _ => by go_simp⟩) ?_
      try simp only [List.getElem_toArray, List.getElem_cons_zero, List.getElem_cons_succ, Act.put, List.setIfInBounds_toArray, List.set_cons_zero, List.set_cons_succ]
      refine wpAnyN_pure (i := 9) (v := Value.string ⟨P1.toArray⟩) rfl (by kernel_rfl) (by kernel_rfl) (by kernel_rfl) (fun _ _ _ h => h) (Or.inl ⟨by rfl, fun W _ => by go_simp⟩) ?_
      try simp only [List.getElem_toArray, List.getElem_cons_zero, List.getElem_cons_succ, Act.put, List.setIfInBounds_toArray, List.set_cons_zero, List.set_cons_succ]
      refine wpAnyN_one (i := 10) (by kernel_rfl) rfl (fun K hK => ?_)
      go_simp
      refine hK.out _ _ (fun _ _ => X7.out) ?_
      clear hK K
      try simp only [List.getElem_toArray, List.getElem_cons_zero, List.getElem_cons_succ, Act.put, List.setIfInBounds_toArray, List.set_cons_zero, List.set_cons_succ]
      refine wpAnyN_done (by kernel_rfl) ?_ _
      refine NoPanic.normal ?_
      clear O61 O62 O51 O52 X4 X5 X6 B5 B6 D5
      go_wp2_with fail
      refine (HRi.out _ O71.out).mono ?_
      rintro e w8 ⟨rfl, hb8⟩
      have X8 := Lib.hid (blk_below X7.out hb8)
      have B8 := Lib.hid (Below.then_ B7.out hb8)
      have O82 := Lib.hid (O72.out.below hb8)
      clear hb8 X7 B7 O71 O72
      go_wp2_with fail
      refine (HPc.out _ O82.out).mono ?_
      rintro e w9 ⟨rfl, hb9⟩
      have X9 := Lib.hid (blk_below X8.out hb9)
      have B9 := Lib.hid (Below.then_ B8.out hb9)
      have c9 := blk_cell X9.out
      have z9 := lt_of_block X9.out
      clear hb9 X8 B8 O82
      go_wp2_with fail
      refine (HSe.out _).mono ?_
      rintro e wa ⟨rfl, hba⟩
      have Ba : Hid (Below w.heap.size w wa) := Lib.hid (by
        have B9 := B9.out
        exact Below.then_ (by repeat (first | with_reducible exact Below.refl _ _ | with_reducible assumption | ((with_reducible refine Below.setCell ?_ ?_ _); rotate_left; · (first | omega | exact Nat.le_refl _ | (simp <;> omega))) | (with_reducible refine Below.allocW ?_ _) | (with_reducible refine Below.drew ?_) | (with_reducible refine Below.extW ?_ _))) hba)
      clear hba
      go_wp2_with fail
      exact bodyPost_ret (v := .tuple #[.string ⟨G.toArray⟩, .int .i64 0]) (by simp only [results, Tryz.results89]; go_simp) rfl ⟨rfl, Ba.out⟩
end Go.Proofs.YtgjaopfjffncbaaGreat
/- Package digest: Reset. -/
namespace Go.Proofs.YtgjaopfjffncbaaGreat
open Go.ChangeShapes Go.WideShapes Go.ChangeAt Go.RowKit
set_option linter.unusedVariables false
set_option linter.unusedSimpArgs false
set_option maxRecDepth 100000

theorem delR_drop {r : List Nd} (hr : Roll r) {q : Nat} (h : q < r.length) : delR (r.drop q) r[q].1 = r.drop (q + 1) := by
  rw [drop_cons h]
  simp [delR]
end Go.Proofs.YtgjaopfjffncbaaGreat
/- What the laws are given: a digest's conf and calls. -/
namespace Go.Proofs.YtgjaopfjffncbaaGreat
open Go.ChangeShapes Go.WideShapes Go.ChangeAt Go.RowKit
set_option linter.unusedVariables false
set_option maxRecDepth 100000

/-- How a call lies in memory. -/
def encO : Enc Op3 3 := ⟨fun x => [.int .i64 x.1, .int .i64 x.2.1, .int .i64 x.2.2], fun _ => rfl, by intro x u hu; simp at hu; rcases hu with rfl | rfl | rfl <;> rfl⟩
/-- All numbers of all calls are ints. -/
def intsO (l : List Op3) : Prop := ∀ x ∈ l, i64 x.1 ∧ i64 x.2.1 ∧ i64 x.2.2
section
variable {H : Type} {enc : TypeId × Value → H} {w : World} {base : Nat} {spare : Nat → Bool} {held : Bool} {fuel : Nat} {cs : List Value} {x : DataW H × List MemPlace}
theorem op3_of_trod (h : DataW.trod enc Tryz.prog w base spare held fuel 154 cs = some x) : ∃ o : Op3, cs = encO.enc o ∧ i64 o.1 ∧ i64 o.2.1 ∧ i64 o.2.2 := by
  obtain ⟨xs, n, _, _, hlen, hxl, hf⟩ := DataW.trod_struct Tryz.underlying154 h
  have hC : (Tryz.prog).cellsOf 154 = 3 := by kernel_rfl
  have hCi : (Tryz.prog).cellsOf 3 = 1 := by kernel_rfl
  rw [hC] at hlen
  match cs, hlen with
  | [c0, c1, c2], _ =>
    match xs, hxl with
    | [y0, y1, y2], _ =>
      have g0 : DataW.trod enc Tryz.prog w base spare held n 3 (([c0, c1, c2].drop 0).take ((Tryz.prog).cellsOf 3)) = some y0 := hf 0 _ rfl
      have g1 : DataW.trod enc Tryz.prog w base spare held n 3 (([c0, c1, c2].drop 1).take ((Tryz.prog).cellsOf 3)) = some y1 := hf 1 _ rfl
      have g2 : DataW.trod enc Tryz.prog w base spare held n 3 (([c0, c1, c2].drop 2).take ((Tryz.prog).cellsOf 3)) = some y2 := hf 2 _ rfl
      simp only [hCi] at g0 g1 g2
      obtain ⟨k, e0, _, k0⟩ := DataW.trod_int Tryz.underlying3 g0
      obtain ⟨i, e1, _, k1⟩ := DataW.trod_int Tryz.underlying3 g1
      obtain ⟨j, e2, _, k2⟩ := DataW.trod_int Tryz.underlying3 g2
      simp at e0 e1 e2
      subst e0 e1 e2
      exact ⟨(k, i, j), rfl, i64_of_wf k0, i64_of_wf k1, i64_of_wf k2⟩
theorem ops_of_trod (h : DataW.trod enc Tryz.prog w base spare held fuel 60 cs = some x) : ∃ (l : List Op3) (A : Option Addr) (cap : Nat), cs = [.slice A l.length cap] ∧ Sl w w.heap.size encO A l ∧ intsO l ∧ l.length ≤ maxLen := by
  obtain ⟨l, A, cap, h1, h2, h3, h4⟩ := slice_of_trod encO (fun o => i64 o.1 ∧ i64 o.2.1 ∧ i64 o.2.2) Tryz.underlying60 (by kernel_rfl) (by decide) (fun _ _ _ h => op3_of_trod h) h
  exact ⟨l, A, cap, h1, h2, h3, h4⟩
end
/-- A conf and calls, by value. -/
def callsV (l k K : Int) (A : Option Addr) (n cap : Nat) : Value := .agg #[.int .i64 l, .int .i64 k, .int .i64 K, .slice A n cap]
theorem open_Op3 {H : Type} {enc : TypeId × Value → H} {w : World} {base : Nat} {spare : Nat → Bool} {held : Bool} {r : Reach} {b0 : Nat} {v : Value} {d : DataW H} {p : List MemPlace}
    (hv : Value.okWide Tryz.prog w r b0 154 v) (h : DataW.Trod enc Tryz.prog w base spare held 154 v d p) :
    ∃ (o : Op3), v = .agg #[.int .i64 o.1, .int .i64 o.2.1, .int .i64 o.2.2] ∧ i64 o.1 ∧ i64 o.2.1 ∧ i64 o.2.2 := by
  obtain ⟨cs, rfl, hsz⟩ := okWide_struct Tryz.underlying154 hv
  obtain ⟨fuel, hf⟩ := h
  obtain ⟨o, hc, rest⟩ := op3_of_trod hf
  refine ⟨o, ?_, rest⟩
  obtain ⟨c⟩ := cs
  have : c = [.int .i64 o.1, .int .i64 o.2.1, .int .i64 o.2.2] := by simpa [Value.cells, encO] using hc
  subst this
  rfl
end Go.Proofs.YtgjaopfjffncbaaGreat
/- Package rank: made: the walk. -/
namespace Go.Proofs.YtgjaopfjffncbaaGreat
open Go.ChangeShapes Go.WideShapes Go.ChangeAt Go.RowKit
set_option linter.unusedVariables false
set_option maxRecDepth 100000

end Go.Proofs.YtgjaopfjffncbaaGreat
/- Package reach: Between and Share. -/
namespace Go.Proofs.YtgjaopfjffncbaaGreat
open Go.ChangeShapes Go.WideShapes Go.ChangeAt Go.RowKit
set_option linter.unusedVariables false
set_option maxRecDepth 100000

/-- What Between tells: the two weights, and the error. -/
def betw (l : Int) (r : List Nd) (a b : Int) : Int × Int × Int := if b < a then (0, 0, 2) else (betwLow l r a b, betwHigh l r a b, 0)
/-- What Share tells. -/
def share (l : Int) (r : List Nd) (a b d : Int) : Int × Int × Int :=
  if sumR r = 0 then (0, 0, 7) else if d < 1 ∨ b < a then (0, 0, 2) else (((betwLow l r a b).toNat * d.toNat / (sumR r).toNat : Nat), (upV (betwHigh l r a b).toNat d.toNat (sumR r).toNat : Nat), 0)
def bothV (t : Int × Int × Int) : Value := .tuple #[.agg #[.int .i64 t.1, .int .i64 t.2.1], .int .i64 t.2.2]
theorem betw_no {l a b : Int} {r : List Nd} (h : b < a) : bothV (betw l r a b) = .tuple #[.agg #[.int .i64 0, .int .i64 0], .int .i64 2] := by unfold betw; rw [if_pos h]; rfl
theorem betw_yes {l a b : Int} {r : List Nd} (h : ¬ b < a) : bothV (betw l r a b) = .tuple #[.agg #[.int .i64 (betwLow l r a b), .int .i64 (betwHigh l r a b)], .int .i64 0] := by unfold betw; rw [if_neg h]; rfl

end Go.Proofs.YtgjaopfjffncbaaGreat
/- Package rank: tables. -/
namespace Go.Proofs.YtgjaopfjffncbaaGreat
open Go.ChangeShapes Go.WideShapes Go.ChangeAt Go.RowKit
set_option linter.unusedVariables false
set_option maxRecDepth 100000

/-- What a table says of a number. -/
def upT (t : List Nd) (x : Int) : Int := if atMost t x = 0 then 0 else (t.getD (atMost t x - 1) (0, 0)).2
theorem Tab.upT {l t : List Nd} (h : Tab l t) (x : Int) : upT t x = wUp l x := by
  unfold Go.Proofs.YtgjaopfjffncbaaGreat.upT
  by_cases h0 : atMost t x = 0
  · rw [if_pos h0, h.none h0]
  · have hi : atMost t x - 1 < t.length := by have := atMost_le t x; omega
    rw [if_neg h0, getD_at hi, h.some h0 hi]
theorem rise_mono {t : List Nd} (hr : t.Pairwise fun a b => a.1 < b.1) (x : Int) (a b : Nat) (hab : a ≤ b) (hb : b < t.length) (h : decide (x < (t.getD a (0, 0)).1) = true) : decide (x < (t.getD b (0, 0)).1) = true := by
  rw [getD_at (by omega)] at h
  rw [getD_at hb]
  simp only [decide_eq_true_eq] at h ⊢
  rcases Nat.lt_or_ge a b with hlt | hge
  · have := List.pairwise_iff_getElem.1 hr a b (by omega) hb hlt; omega
  · obtain rfl : a = b := by omega
    exact h
end Go.Proofs.YtgjaopfjffncbaaGreat
/- Package bag: what is read of it. -/
namespace Go.Proofs.YtgjaopfjffncbaaGreat
open Go.ChangeShapes Go.WideShapes Go.ChangeAt Go.RowKit
set_option linter.unusedVariables false
set_option linter.unusedSimpArgs false
set_option maxRecDepth 100000

theorem count_range {m : List Nd} {p : Int → Bool} : (List.range m.length).countP (fun i => !p (m.getD i (0, 0)).1) = m.countP fun z => !p z.1 := by
  have h : m = (List.range m.length).map fun i => m.getD i (0, 0) := by
    apply List.ext_getElem
    · simp
    · intro i h1 h2
      simp only [List.getElem_map, List.getElem_range]
      rw [getD_at h1]
  conv => rhs; rw [h, List.countP_map]
  rfl
theorem cut_count {p : Int → Bool} (hp : ∀ a b, a ≤ b → p a = true → p b = true) : ∀ {m : List Nd}, (m.Pairwise fun a b => a.1 < b.1) → CutAt m (fun v => p v = true) (m.countP fun z => !p z.1) := by
  intro m
  induction m with
  | nil => intro _; exact ⟨by simp, by simp, by simp⟩
  | cons z m ih =>
    intro hup
    obtain ⟨h1, h2⟩ := List.pairwise_cons.1 hup
    cases hz : p z.1
    · have k := ih h2
      rw [List.countP_cons_of_pos (by simp [hz])]
      refine ⟨by have := k.le; simp; omega, fun y hy => ?_, fun y hy => k.behind y (by simpa using hy)⟩
      rw [List.take_succ_cons] at hy
      rcases List.mem_cons.1 hy with rfl | hy
      · simp [hz]
      · exact k.ahead y hy
    · have e : (z :: m).countP (fun z => !p z.1) = 0 := by
        rw [List.countP_eq_zero]
        intro y hy
        rcases List.mem_cons.1 hy with rfl | hy
        · simp [hz]
        · simp [hp _ _ (Int.le_of_lt (h1 y hy)) hz]
      rw [e]
      refine ⟨by simp, by simp, fun y hy => ?_⟩
      rcases List.mem_cons.1 (by simpa using hy) with rfl | hy
      · exact hz
      · exact hp _ _ (Int.le_of_lt (h1 y hy)) hz
end Go.Proofs.YtgjaopfjffncbaaGreat
/- Package bag: what is put into it. -/
namespace Go.Proofs.YtgjaopfjffncbaaGreat
open Go.ChangeShapes Go.WideShapes Go.ChangeAt Go.RowKit
set_option linter.unusedVariables false
set_option linter.unusedSimpArgs false
set_option maxRecDepth 100000

theorem run_copy2 (w : World) (dT sT ty elem : TypeId) (g o dLen dCap : Nat) (a : Addr) (sLen sCap n : Nat) (cur : Array Value) (t : TypeId) (cs : List Value)
    (hu : (Tryz.prog).underlying dT = some (.slice elem)) (hs : ((Tryz.prog).info? elem).map (·.size) = some 2)
    (hg : w.heap[g]? = some (.cells cur t (0, 0))) (hn : n = Nat.min sLen dLen) (hl2 : cs.length = n * 2)
    (hsrc : ∀ j v, cs[j]? = some v → w.cell? (a.add j) = some v) (hfit : o + cs.length ≤ cur.size) (h1 : ∀ v ∈ cs, v.oneCell' = true) :
    (Builtin.copy_ #[dT, sT] ty #[.slice (some ⟨g, o, none⟩) dLen dCap, .slice (some a) sLen sCap]).run Tryz.prog w =
      .ok (goInt n) (w.setRow g (cur.toList.take o ++ cs ++ cur.toList.drop (o + cs.length)).toArray) := by
  have hl := run_loadCells_list (P := Tryz.prog) w a cs hsrc
  have hst := run_storeCells_at Tryz.prog g o t cs 0 cur w hg (by simpa using hfit) h1
  cases hq : (Tryz.prog).info? elem with
  | none => simp [hq] at hs
  | some i =>
    have hi : i.size = 2 := by simpa [hq] using hs
    simp [Builtin.copy_, run_underlying hu, Builtin.lenOf, Builtin.firstCells, sizeOf, typeInfo, hq, hi, ← hn, ← hl2, hl, hst]
theorem run_copy2_none (w : World) (dT sT ty elem : TypeId) (d : Option Addr) (a : Addr) (dLen dCap sLen sCap : Nat) (hu : (Tryz.prog).underlying dT = some (.slice elem)) (hs : ((Tryz.prog).info? elem).map (·.size) = some 2) (hn : Nat.min sLen dLen = 0) :
    (Builtin.copy_ #[dT, sT] ty #[.slice d dLen dCap, .slice (some a) sLen sCap]).run Tryz.prog w = .ok (goInt 0) w := by
  cases hq : (Tryz.prog).info? elem with
  | none => simp [hq] at hs
  | some i =>
    have hl : ∀ (x : Addr), (loadCells x 0).run Tryz.prog w = .ok #[] w := fun x => by simpa using run_loadCells_list (P := Tryz.prog) w x [] (by simp)
    cases d <;> simp [Builtin.copy_, run_underlying hu, Builtin.lenOf, Builtin.firstCells, sizeOf, typeInfo, hq, hn, storeCells, hl]
theorem encN_one (L : List Nd) : ∀ v ∈ L.flatMap encN.enc, v.oneCell' = true := by
  intro v hv
  obtain ⟨x, _, hx⟩ := List.mem_flatMap.1 hv
  simp [encN] at hx
  rcases hx with rfl | rfl <;> rfl
/-- copy(v[i+1:], v[i:]) -/
theorem own_copy {w : World} {base e g off cap : Nat} {L : List Nd} (h : Own w base e encN (.slice (some ⟨g, off, none⟩) L.length cap) L) (i : Nat) (hi : i + 1 ≤ L.length) (dT : TypeId) (hu : (Tryz.prog).underlying dT = some (.slice e)) (hs : ((Tryz.prog).info? e).map (·.size) = some 2) :
    ∃ w', (∀ ty dc sc (A : Option Addr), (i + 1 < L.length → A = some ⟨g, off + (i + 1) * 2, none⟩) → (Builtin.copy_ #[dT, dT] ty #[.slice A (L.length - (i + 1)) dc, .slice (some ⟨g, off + i * 2, none⟩) (L.length - i) sc]).run Tryz.prog w = .ok (goInt ((L.length - (i + 1) : Nat))) w') ∧
      Own w' base e encN (.slice (some ⟨g, off, none⟩) L.length cap) (L.take (i + 1) ++ (L.drop i).take (L.length - (i + 1))) ∧ (∀ b, b ≠ g → w'.heap[b]? = w.heap[b]?) ∧ Below base w w' ∧ w.heap.size ≤ w'.heap.size := by
  rcases h with ⟨hv, _⟩ | ⟨g', o', c', cur, hv, hg, hh, h1, h2, h3, h4⟩
  · cases hv
  cases hv
  obtain ⟨n, hn⟩ : ∃ n, n = L.length - (i + 1) := ⟨_, rfl⟩
  obtain ⟨D, hD⟩ : ∃ D, D = (L.drop i).take n := ⟨_, rfl⟩
  have hDl : D.length = n := by rw [hD]; simp; omega
  have hcl : (D.flatMap encN.enc).length = n * 2 := by rw [flat_len, hDl]
  have e0 : L.length * 2 ≤ cap * 2 := Nat.mul_le_mul_right _ h1
  have hDget : ∀ k x, D[k]? = some x → L[i + k]? = some x := fun k x hk => by
    rw [hD, List.getElem?_take] at hk
    split at hk
    · rwa [List.getElem?_drop] at hk
    · cases hk
  have hsrc : ∀ j v, (D.flatMap encN.enc)[j]? = some v → w.cell? ((⟨g, off + i * 2, none⟩ : Addr).add j) = some v := fun j v hj => by
    obtain ⟨k, x, q, hk, hq, rfl⟩ := flat_inv encN D j v hj
    rw [Addr.add_lit, cell_of_row _ _ _ _ _ _ hh]
    have := h4 _ v (flat_get encN L (i + k) q x v (hDget k x hk) hq)
    rw [← this]; congr 1; omega
  have hfit : off + (i + 1) * 2 + (D.flatMap encN.enc).length ≤ cur.size := by rw [hcl]; omega
  have hlen' : (L.take (i + 1) ++ D).length = L.length := by simp [hDl]; omega
  refine ⟨w.setRow g (cur.toList.take (off + (i + 1) * 2) ++ D.flatMap encN.enc ++ cur.toList.drop (off + (i + 1) * 2 + (D.flatMap encN.enc).length)).toArray, fun ty dc sc A hA => ?_, ?_, fun b hb => setRow_other w g b _ hb, ?_, by simp [World.setRow]⟩
  · by_cases h0 : i + 1 < L.length
    · rw [hA h0, ← hn]
      exact run_copy2 w dT dT ty e g _ n dc ⟨g, off + i * 2, none⟩ (L.length - i) sc n cur e _ hu hs hh (by show n = min (L.length - i) n; omega) hcl hsrc hfit (encN_one D)
    · have hn0 : n = 0 := by omega
      have hD0 : D = [] := List.eq_nil_of_length_eq_zero (by omega)
      rw [run_copy2_none w dT dT ty e A _ _ dc _ sc hu hs (by show min (L.length - i) (L.length - (i + 1)) = 0; omega), hD0]
      simp only [List.flatMap_nil, List.append_nil, List.length_nil, Nat.add_zero, List.take_append_drop, Array.toArray_toList]
      rw [setRow_self w g cur e (0, 0) hh, show L.length - (i + 1) = 0 by omega]
      rfl
  · rw [← hn, ← hD]
    refine .inr ⟨g, off, cap, _, by rw [hlen'], hg, setRow_heap w g _ _ e _ hh, by rw [hlen']; exact h1, h2, ?_, fun q v hq => ?_⟩
    · simp only [List.size_toArray, List.length_append, List.length_take, List.length_drop, Array.length_toList]
      omega
    · obtain ⟨k, x, q', hk, hq', rfl⟩ := flat_inv encN _ q v hq
      have hq2 : q' < 2 := by
        have := (List.getElem?_eq_some_iff.1 hq').1
        rwa [encN.len] at this
      rw [List.getElem?_toArray]
      by_cases hki : k < i + 1
      · rw [List.getElem?_append_left (by simp only [List.length_take]; omega), List.getElem?_take, if_pos hki] at hk
        rw [List.append_assoc, List.getElem?_append_left (by simp only [List.length_take, Array.length_toList]; omega), List.getElem?_take, if_pos (by omega), Array.getElem?_toList]
        exact h4 _ v (flat_get encN L k q' x v hk hq')
      · have hlt : (L.take (i + 1)).length = i + 1 := by simp; omega
        rw [List.getElem?_append_right (by omega), hlt] at hk
        have hkD : k - (i + 1) < D.length := (List.getElem?_eq_some_iff.1 hk).1
        have hct : (cur.toList.take (off + (i + 1) * 2)).length = off + (i + 1) * 2 := by simp; omega
        rw [List.append_assoc, List.getElem?_append_right (by omega), hct, List.getElem?_append_left (by rw [hcl]; omega)]
        rw [show off + (k * 2 + q') - (off + (i + 1) * 2) = (k - (i + 1)) * 2 + q' by omega]
        exact flat_get encN D _ q' x v hk hq'
  · exact (Below.refl base w).trans ⟨rfl, rfl, rfl, by simp [World.setRow], fun k hk => setRow_other w g k _ (by omega)⟩
theorem put_list {m : List Nd} {i : Nat} (hi : i ≤ m.length) (z x : Nd) : ((m ++ [z]).take (i + 1) ++ ((m ++ [z]).drop i).take ((m ++ [z]).length - (i + 1))).set i x = m.take i ++ x :: m.drop i := by
  obtain ⟨a, b, rfl, ha⟩ : ∃ a b, m = a ++ b ∧ a.length = i := ⟨m.take i, m.drop i, (List.take_append_drop i m).symm, by simp; omega⟩
  subst ha
  have e1 : (a ++ b ++ [z]).take (a.length + 1) = a ++ (b ++ [z]).take 1 := by rw [List.append_assoc, List.take_append, List.take_of_length_le (by omega)]; simp
  have e2 : (a ++ b ++ [z]).drop a.length = b ++ [z] := by rw [List.append_assoc, List.drop_left]
  have e3 : ((b ++ [z]).take ((a ++ b ++ [z]).length - (a.length + 1))) = b := by
    rw [show (a ++ b ++ [z]).length - (a.length + 1) = b.length by simp; omega]
    exact List.take_left
  obtain ⟨y, hy⟩ : ∃ y, (b ++ [z]).take 1 = [y] := by cases b <;> exact ⟨_, rfl⟩
  rw [e1, e2, e3, hy, List.take_left, List.drop_left]
  simp [List.set_append]
theorem addR_cut {x : Int} : ∀ {m : List Nd} {i : Nat}, CutAt m (fun v => x ≤ v) i → (m.Pairwise fun a b => a.1 < b.1) → ∀ c, (∀ h : i < m.length, m[i].1 = x → addR m x c = m.set i (x, m[i].2 + c)) ∧ ((i = m.length ∨ ∃ h : i < m.length, m[i].1 ≠ x) → addR m x c = m.take i ++ (x, c) :: m.drop i) := by
  intro m
  induction m with
  | nil =>
    intro i hc _ c
    obtain rfl : i = 0 := by have := hc.le; simpa using this
    exact ⟨fun h => by simp at h, fun _ => rfl⟩
  | cons z m ih =>
    intro i hc hup c
    obtain ⟨u1, u2⟩ := List.pairwise_cons.1 hup
    cases i with
    | zero =>
      have h0 := hc.behind z (by simp)
      refine ⟨fun h hx => ?_, fun h => ?_⟩
      · simp only [List.getElem_cons_zero] at hx
        simp only [addR, if_pos hx, List.getElem_cons_zero, List.set_cons_zero]
      · rcases h with h | ⟨h, hx⟩
        · simp at h
        · simp only [List.getElem_cons_zero] at hx
          simp only [addR, if_neg hx, if_pos (show x < z.1 by omega), List.take_zero, List.drop_zero, List.nil_append]
    | succ i =>
      have h0 := hc.ahead z (by simp)
      have hc' : CutAt m (fun v => x ≤ v) i := ⟨by have := hc.le; simpa using this, fun y hy => hc.ahead y (by rw [List.take_succ_cons]; exact List.mem_cons_of_mem _ hy), fun y hy => hc.behind y (by simpa using hy)⟩
      obtain ⟨k1, k2⟩ := ih hc' u2 c
      have ea : addR (z :: m) x c = z :: addR m x c := by simp only [addR]; rw [if_neg (by omega), if_neg (by omega)]
      refine ⟨fun h hx => ?_, fun h => ?_⟩
      · simp only [List.getElem_cons_succ] at hx
        rw [ea, k1 (by simpa using h) hx]
        simp
      · rw [ea, k2 (by
          rcases h with h | ⟨h, hx⟩
          · exact .inl (by simpa using h)
          · exact .inr ⟨by simpa using h, by simpa using hx⟩)]
        simp
end Go.Proofs.YtgjaopfjffncbaaGreat
/- Package bag: put, Add. -/
namespace Go.Proofs.YtgjaopfjffncbaaGreat
open Go.ChangeShapes Go.WideShapes Go.ChangeAt Go.RowKit
set_option linter.unusedVariables false
set_option linter.unusedSimpArgs false
set_option maxRecDepth 100000

theorem tyRd : SliceTy Tryz.prog 74 111 2 16 (.agg #[.int .i64 0, .int .i64 0]) := ⟨Tryz.underlying74, by kernel_rfl, rfl, by decide⟩
theorem szRd : ((Tryz.prog).info? 111).map (·.size) = some 2 := by kernel_rfl
theorem nq_of {i n cap : Nat} (h : n + 1 ≤ cap) : i + 1 < n + 1 → ¬ (cap = i + 1) := by omega
end Go.Proofs.YtgjaopfjffncbaaGreat
/- Package bag: Add. -/
namespace Go.Proofs.YtgjaopfjffncbaaGreat
open Go.ChangeShapes Go.WideShapes Go.ChangeAt Go.RowKit
set_option linter.unusedVariables false
set_option linter.unusedSimpArgs false
set_option maxRecDepth 100000

end Go.Proofs.YtgjaopfjffncbaaGreat
/- Reference 10: bags. -/
namespace Go.Proofs.YtgjaopfjffncbaaGreat
open Go.ChangeShapes Go.WideShapes Go.ChangeAt Go.RowKit
set_option linter.unusedVariables false
set_option linter.unusedSimpArgs false
set_option maxRecDepth 100000

/-- The document's bag. -/
def bagV (l : Int) (A : Option Addr) (n cap : Nat) : Value := .agg #[.int .i64 l, .slice A n cap]
theorem sumV_take {m : List Nd} {q : Nat} (h : q < m.length) : sumR (m.take (q + 1)) = sumR (m.take q) + m[q].2 := by
  rw [List.take_succ_eq_append_getElem h, sumR_append]; simp [sumR]
theorem sumV_take_le {m : List Nd} (h : ∀ x ∈ m, 1 ≤ x.2) (q : Nat) : 0 ≤ sumR (m.take q) ∧ sumR (m.take q) ≤ sumR m := by
  have e1 : sumR m = sumR (m.take q) + sumR (m.drop q) := by rw [← sumR_append, List.take_append_drop]
  have e3 := (sumR_pos (m := m.drop q) fun y hy => h y (List.mem_of_mem_drop hy)).1
  have e4 := (sumR_pos (m := m.take q) fun y hy => h y (List.mem_of_mem_take hy)).1
  omega
theorem ref10_Total (w : World) (l : Int) (A : Option Addr) (cap : Nat) (m : List Nd) (hS : Sl w w.heap.size encN A m) (hv : ∀ x ∈ m, 1 ≤ x.2) (hs : sumR m ≤ 72057594037927935) :
    Calls Tryz.prog 34 #[bagV l A m.length cap] w fun e w' => e = .returned (.int .i64 (sumR m)) ∧ Below w.heap.size w w' := by
  have hml : (m.length : Int) ≤ 72057594037927935 := by have := (sumR_pos hv).2; omega
  have HS := Lib.hid hS
  have HV := Lib.hid hv
  clear hS hv
  unfold bagV
  have X0 : Hid ((w.alloc (.cells #[.int .i64 l, .slice A m.length cap] 76)).heap[w.heap.size]? = some (.cells #[.int .i64 l, .slice A m.length cap] 76 (0, 0))) := Lib.hid (heap_alloc_new w _)
  go_enter Tryz.func34, Tryz.ntmps34
  go_wp2_with fail
  go_loopw [3, 4] (fun n j wr => ∃ q : Nat, q ≤ m.length ∧ j = .int .i64 q ∧ n = .int .i64 (sumR (m.take q)) ∧ wr.heap[w.heap.size]? = some (.cells #[.int .i64 l, .slice A m.length cap] 76 (0, 0)) ∧ Below w.heap.size w wr) (fun _ j _ => m.length - (intOf j).toNat)
  case atStart => exact ⟨0, Nat.zero_le _, rfl, rfl, X0.out, (by repeat (first | with_reducible exact Below.refl _ _ | with_reducible assumption | ((with_reducible refine Below.setCell ?_ ?_ _); rotate_left; · (first | omega | exact Nat.le_refl _ | (simp <;> omega))) | (with_reducible refine Below.allocW ?_ _) | (with_reducible refine Below.drew ?_) | (with_reducible refine Below.extW ?_ _)))⟩
  case round =>
    obtain ⟨q, hq, rfl, rfl, hX, hB⟩ := hrel
    have c0 : wr.cell? ⟨w.heap.size, 1, none⟩ = some (.slice A m.length cap) := by rw [blk_cell hX]; rfl
    have z0 := lt_of_block hX
    have HX := Lib.hid hX
    clear hX
    by_cases hlt : q < m.length
    · have hE := Lib.hid (sumV_take hlt)
      obtain ⟨b, off, rfl, hb, hc⟩ := HS.out.at_ hlt
      have d0 := (hB.cell (p := ⟨b, off + q * 2 + 1, none⟩) hb).trans (hc 1 (.int .i64 m[q].2) rfl)
      have lb : b < wr.heap.size := Nat.lt_of_lt_of_le hb hB.size
      have v1 := HV.out _ (List.getElem_mem hlt)
      have s0 := (sumV_take_le HV.out q).1
      have s1 := (sumV_take_le HV.out (q + 1)).2
      rw [hE.out] at s1
      obtain ⟨c, hc1⟩ : ∃ c, c = m[q].2 := ⟨_, rfl⟩
      rw [← hc1] at d0 v1 s1 hE
      obtain ⟨n, hn⟩ : ∃ n, n = sumR (m.take q) := ⟨_, rfl⟩
      rw [← hn] at s0 s1 hE ⊢
      have hsum : n + c ≤ 72057594037927935 := by omega
      clear hc s1 hn
      go_wp2_with fail
      go_roundw
      case rel => exact ⟨q + 1, by omega, by go_num, by (rw [hE.out]; try go_num), HX.out, hB⟩
      case measure => simp [intOf]; omega
    · obtain rfl : q = m.length := by omega
      rw [List.take_length]
      go_wp2_with fail
      go_ret
      exact ⟨rfl, hB⟩
theorem betwB_take {m : List Nd} {q : Nat} (h : q < m.length) (x y : Int) : betwB (m.take (q + 1)) x y = betwB (m.take q) x y + if x ≤ m[q].1 ∧ m[q].1 ≤ y then m[q].2 else 0 := by
  rw [List.take_succ_eq_append_getElem h, betwB_append, betwB_one]
theorem ref10_Between (w : World) (l : Int) (A : Option Addr) (cap : Nat) (m : List Nd) (x y : Int) (hS : Sl w w.heap.size encN A m) (hv : ∀ x ∈ m, 1 ≤ x.2) (hs : sumR m ≤ 72057594037927935) :
    Calls Tryz.prog 84 #[bagV l A m.length cap, .int .i64 x, .int .i64 y] w fun e w' => e = .returned (.int .i64 (betwB m x y)) ∧ Below w.heap.size w w' := by
  have hml : (m.length : Int) ≤ 72057594037927935 := by have := (sumR_pos hv).2; omega
  have HS := Lib.hid hS
  have HV := Lib.hid hv
  clear hS hv
  unfold bagV
  have X0 : Hid ((w.alloc (.cells #[.int .i64 l, .slice A m.length cap] 76)).heap[w.heap.size]? = some (.cells #[.int .i64 l, .slice A m.length cap] 76 (0, 0))) := Lib.hid (heap_alloc_new w _)
  go_enter Tryz.func84, Tryz.ntmps84
  go_wp2_with fail
  go_loopw [7, 8] (fun n j wr => ∃ q : Nat, q ≤ m.length ∧ j = .int .i64 q ∧ n = .int .i64 (betwB (m.take q) x y) ∧ wr.heap[w.heap.size]? = some (.cells #[.int .i64 l, .slice A m.length cap] 76 (0, 0)) ∧ Below w.heap.size w wr) (fun _ j _ => m.length - (intOf j).toNat)
  case atStart => exact ⟨0, Nat.zero_le _, rfl, rfl, X0.out, (by repeat (first | with_reducible exact Below.refl _ _ | with_reducible assumption | ((with_reducible refine Below.setCell ?_ ?_ _); rotate_left; · (first | omega | exact Nat.le_refl _ | (simp <;> omega))) | (with_reducible refine Below.allocW ?_ _) | (with_reducible refine Below.drew ?_) | (with_reducible refine Below.extW ?_ _)))⟩
  case round =>
    obtain ⟨q, hq, rfl, rfl, hX, hB⟩ := hrel
    have c0 : wr.cell? ⟨w.heap.size, 1, none⟩ = some (.slice A m.length cap) := by rw [blk_cell hX]; rfl
    have z0 := lt_of_block hX
    have HX := Lib.hid hX
    clear hX
    by_cases hlt : q < m.length
    · have hE := Lib.hid (betwB_take hlt x y)
      obtain ⟨b, off, rfl, hb, hc⟩ := HS.out.at_ hlt
      have d0 := (hB.cell (p := ⟨b, off + q * 2 + 1, none⟩) hb).trans (hc 1 (.int .i64 m[q].2) rfl)
      have d1 := (hB.cell (p := ⟨b, off + q * 2, none⟩) hb).trans (by have := hc 0 (.int .i64 m[q].1) rfl; simpa using this)
      have lb : b < wr.heap.size := Nat.lt_of_lt_of_le hb hB.size
      have v1 := HV.out _ (List.getElem_mem hlt)
      have s0 := (betwB_le (m := m.take q) (fun u hu => HV.out u (List.mem_of_mem_take hu)) x y)
      have s1 := (sumV_take_le HV.out (q + 1)).2
      rw [sumV_take hlt] at s1
      obtain ⟨c, hc1⟩ : ∃ c, c = m[q].2 := ⟨_, rfl⟩
      obtain ⟨v, hv1⟩ : ∃ v, v = m[q].1 := ⟨_, rfl⟩
      rw [← hc1] at d0 v1 s1 hE
      rw [← hv1] at d1 hE
      obtain ⟨n, hn⟩ : ∃ n, n = betwB (m.take q) x y := ⟨_, rfl⟩
      rw [← hn] at s0 hE ⊢
      have n0 := s0.1
      have hsum : n + c ≤ 72057594037927935 := by have := s0.2; omega
      clear hc s0 s1 hn hc1 hv1
      by_cases k1 : x ≤ v
      · by_cases k2 : v ≤ y
        · rw [if_pos ⟨k1, k2⟩] at hE
          go_wp2_with fail
          go_roundw
          case rel => exact ⟨q + 1, by omega, by go_num, by (rw [hE.out]; try go_num), HX.out, hB⟩
          case measure => simp [intOf]; omega
        · rw [if_neg (by omega)] at hE
          have k2' : decide (v ≤ y) = false := by simpa using k2
          go_wp2_with fail
          go_roundw
          case rel => exact ⟨q + 1, by omega, by go_num, by rw [hE.out, Int.add_zero], HX.out, hB⟩
          case measure => simp [intOf]; omega
      · rw [if_neg (by omega)] at hE
        have k1' : decide (x ≤ v) = false := by simpa using k1
        go_wp2_with fail
        go_roundw
        case rel => exact ⟨q + 1, by omega, by go_num, by rw [hE.out, Int.add_zero], HX.out, hB⟩
        case measure => simp [intOf]; omega
    · obtain rfl : q = m.length := by omega
      rw [List.take_length]
      go_wp2_with fail
      go_ret
      exact ⟨rfl, hB⟩
theorem ref10_Rank (w : World) (l : Int) (A : Option Addr) (cap : Nat) (m : List Nd) (y : Int) (hS : Sl w w.heap.size encN A m) (hv : ∀ x ∈ m, 1 ≤ x.2) (hs : sumR m ≤ 72057594037927935) :
    Calls Tryz.prog 35 #[bagV l A m.length cap, .int .i64 y] w fun e w' => e = .returned (.int .i64 (betwB m 0 y)) ∧ Below w.heap.size w w' := by
  have HC := Lib.hid (fun W h => ref10_Between W l A cap m 0 y h hv hs)
  have BA : Below w.heap.size w (w.alloc (.cells #[.int .i64 l, .slice A m.length cap] 76)) := (by repeat (first | with_reducible exact Below.refl _ _ | with_reducible assumption | ((with_reducible refine Below.setCell ?_ ?_ _); rotate_left; · (first | omega | exact Nat.le_refl _ | (simp <;> omega))) | (with_reducible refine Below.allocW ?_ _) | (with_reducible refine Below.drew ?_) | (with_reducible refine Below.extW ?_ _)))
  have S1 := Lib.hid (hS.keep (B' := (w.alloc (.cells #[.int .i64 l, .slice A m.length cap] 76)).heap.size) BA.size fun p hp => BA.cell hp)
  clear hS hv hs BA
  unfold bagV at HC ⊢
  go_enter Tryz.func35, Tryz.ntmps35
  go_wp2_with fail
  refine (HC.out _ S1.out).mono ?_
  rintro e w1 ⟨rfl, hb1⟩
  have B1 : Below w.heap.size w w1 := Below.then_ (by repeat (first | with_reducible exact Below.refl _ _ | with_reducible assumption | ((with_reducible refine Below.setCell ?_ ?_ _); rotate_left; · (first | omega | exact Nat.le_refl _ | (simp <;> omega))) | (with_reducible refine Below.allocW ?_ _) | (with_reducible refine Below.drew ?_) | (with_reducible refine Below.extW ?_ _))) hb1
  have s1 : w.heap.size ≤ w1.heap.size := B1.size
  have z1_0 : w.heap.size < w1.heap.size := by have := hb1.size; (try simp at this); omega
  have y1_0 : w.heap.size ≤ w1.heap.size := Nat.le_of_lt z1_0
  have c1_0 := fun o => hb1.cell (p := ⟨w.heap.size, o, none⟩) (by first | omega | (simp <;> omega))
  have f1_0 := fun o => hb1.frozen (p := ⟨w.heap.size, o, none⟩) (by first | omega | (simp <;> omega))
  go_wp2_with fail
  go_ret
  exact ⟨rfl, (by repeat (first | with_reducible exact Below.refl _ _ | with_reducible assumption | ((with_reducible refine Below.setCell ?_ ?_ _); rotate_left; · (first | omega | exact Nat.le_refl _ | (simp <;> omega))) | (with_reducible refine Below.allocW ?_ _) | (with_reducible refine Below.drew ?_) | (with_reducible refine Below.extW ?_ _)))⟩
end Go.Proofs.YtgjaopfjffncbaaGreat
