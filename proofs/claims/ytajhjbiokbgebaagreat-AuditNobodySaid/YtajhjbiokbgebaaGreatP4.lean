/-
  Texts of this proof, one behind the other: GapLaw, AuditLaw, TilesMore, BagLaw, SortK, TabLaw, Made, RegionN, Made2, Reach2, Table, Bag, BagPut, BagAdd.
-/
import Derived.Shelf.SlSortCmp.NoneTotal
import Derived.Test.YtajhjbiokbgebaaGreatLaid
import Derived.Deep.RegionHeld3
import Derived.Deep.RegionLaw
import Derived.Deep.DeepCutAuto
import Derived.Deep.RegionWith
import Derived.Shelf.SlSorted.Search
import Derived.Shelf.Spec.SlicesInsert
import Derived.Test.YtajhjbiokbgebaaGreatP1
import Derived.Test.YtajhjbiokbgebaaGreatP2
import Derived.Test.YtajhjbiokbgebaaGreatP3
/- Chapter 21: how far two digests are apart: plain laws. -/
set_option linter.unusedSimpArgs false namespace Go.Proofs.YtajhjbiokbgebaaGreat
open Go.ChangeShapes Go.WideShapes Go.ChangeAt Go.RowKit
set_option linter.unusedVariables false

/-- Which of two shares is surely greater: of what is told at a number, and of what all weigh. -/
def sideV (n m : Int) (pl ph ql qh : Int) : Int := if qh * n < pl * m then 1 else if ph * m < ql * n then -1 else 0
def sideOf (l : Int) (a b : List Nd) (x : Int) : Int := sideV (sumR a) (sumR b) (lowOf l a x) (highOf l a x) (lowOf l b x) (highOf l b x)
/-- The first value at which one has, in a list in any order. -/
def apStep (f : Int → Int) (a : Int × Int) (x : Int) : Int × Int := if f x ≠ 0 ∧ (a.2 = 0 ∨ x < a.1) then (x, f x) else a
def apFold (f : Int → Int) (l : List Int) : Int × Int := l.foldl (apStep f) (0, 0)
/-- What it is. -/
def apIs (f : Int → Int) (l : List Int) (r : Int × Int) : Prop := ((∀ x ∈ l, f x = 0) ∧ r = (0, 0)) ∨ (r.1 ∈ l ∧ r.2 = f r.1 ∧ r.2 ≠ 0 ∧ ∀ x ∈ l, f x ≠ 0 → r.1 ≤ x)
theorem apFold_succ {f : Int → Int} {l : List Int} {q : Nat} (h : q < l.length) : apFold f (l.take (q + 1)) = apStep f (apFold f (l.take q)) l[q] := by
  unfold apFold
  rw [List.take_succ_eq_append_getElem h, List.foldl_append]; rfl
theorem apFold_snoc (f : Int → Int) (l : List Int) (x : Int) : apFold f (l ++ [x]) = apStep f (apFold f l) x := by
  unfold apFold
  rw [List.foldl_append]; rfl
theorem apFold_is (f : Int → Int) (l : List Int) : apIs f l (apFold f l) := by
  suffices h : ∀ q, q ≤ l.length → apIs f (l.take q) (apFold f (l.take q)) by
    have := h l.length (Nat.le_refl _)
    rwa [List.take_length] at this
  intro q
  induction q with
  | zero => intro _; left; exact ⟨by simp, rfl⟩
  | succ q ih =>
    intro hq
    have hlt : q < l.length := by omega
    rw [apFold_succ hlt]
    have hts := List.take_succ_eq_append_getElem hlt
    rw [hts]
    have hi := ih (by omega)
    generalize apFold f (l.take q) = r at hi
    unfold apStep
    by_cases h0 : f l[q] = 0
    · rw [if_neg (by simp [h0])]
      rcases hi with ⟨h1, h2⟩ | ⟨h1, h2, h3, h4⟩
      · left
        refine ⟨fun x hx => ?_, h2⟩
        rcases List.mem_append.1 hx with hx | hx
        · exact h1 x hx
        · rw [List.mem_singleton.1 hx]; exact h0
      · right
        refine ⟨List.mem_append_left _ h1, h2, h3, fun x hx hf => ?_⟩
        rcases List.mem_append.1 hx with hx | hx
        · exact h4 x hx hf
        · rw [List.mem_singleton.1 hx] at hf; exact absurd h0 hf
    · rcases hi with ⟨h1, h2⟩ | ⟨h1, h2, h3, h4⟩
      · rw [if_pos ⟨h0, .inl (by rw [h2])⟩]
        right
        refine ⟨List.mem_append_right _ (List.mem_singleton.2 rfl), rfl, h0, fun x hx hf => ?_⟩
        rcases List.mem_append.1 hx with hx | hx
        · exact absurd (h1 x hx) hf
        · rw [List.mem_singleton.1 hx]; exact Int.le_refl _
      · right
        by_cases hlt2 : l[q] < r.1
        · rw [if_pos ⟨h0, .inr hlt2⟩]
          refine ⟨List.mem_append_right _ (List.mem_singleton.2 rfl), rfl, h0, fun x hx hf => ?_⟩
          rcases List.mem_append.1 hx with hx | hx
          · have := h4 x hx hf; simp only; omega
          · rw [List.mem_singleton.1 hx]; exact Int.le_refl _
        · rw [if_neg (fun h => h.2.elim h3 hlt2)]
          refine ⟨List.mem_append_left _ h1, h2, h3, fun x hx hf => ?_⟩
          rcases List.mem_append.1 hx with hx | hx
          · exact h4 x hx hf
          · rw [List.mem_singleton.1 hx]; omega
theorem apIs_unique {f : Int → Int} {l m : List Int} {r s : Int × Int} (hm : ∀ x, x ∈ l ↔ x ∈ m) (h : apIs f l r) (k : apIs f m s) : r = s := by
  rcases h with ⟨h1, h2⟩ | ⟨h1, h2, h3, h4⟩
  · rcases k with ⟨k1, k2⟩ | ⟨k1, k2, k3, k4⟩
    · rw [h2, k2]
    · exact absurd (k2.trans (h1 _ ((hm _).2 k1))) k3
  · rcases k with ⟨k1, k2⟩ | ⟨k1, k2, k3, k4⟩
    · exact absurd (h2.trans (k1 _ ((hm _).1 h1))) h3
    · have e1 := h4 s.1 ((hm _).2 k1) (k2 ▸ k3)
      have e2 := k4 r.1 ((hm _).1 h1) (h2 ▸ h3)
      have e : r.1 = s.1 := by omega
      exact Prod.ext e (by rw [h2, k2, e])
/-- In a rising list it is the first one. -/
theorem apIs_first {f : Int → Int} {pre : List Int} {x : Int} {suf : List Int} (hs : (pre ++ x :: suf).Pairwise (· ≤ ·)) (h0 : ∀ y ∈ pre, f y = 0) (hx : f x ≠ 0) : apIs f (pre ++ x :: suf) (x, f x) := by
  right
  refine ⟨by simp, rfl, hx, fun y hy hf => ?_⟩
  rcases List.mem_append.1 hy with hy | hy
  · exact absurd (h0 y hy) hf
  · rcases List.mem_cons.1 hy with rfl | hy
    · exact Int.le_refl _
    · exact (List.pairwise_cons.1 (List.pairwise_append.1 hs).2.1).1 y hy
theorem apIs_none {f : Int → Int} {l : List Int} (h : ∀ x ∈ l, f x = 0) : apIs f l (0, 0) := .inl ⟨h, rfl⟩

/-- Shares in parts, rounded down and up. -/
def downV (n d x : Int) : Int := (x.toNat * d.toNat / n.toNat : Nat)
def upP (n d x : Int) : Int := (upV x.toNat d.toNat n.toNat : Nat)
/-- How far shares are apart at a value: at least, and at most. -/
def gapStep (l d : Int) (a b : List Nd) (o : Int × Int) (x : Int) : Int × Int :=
  (max (max o.1 (downV (sumR a) d (lowOf l a x) - upP (sumR b) d (highOf l b x))) (downV (sumR b) d (lowOf l b x) - upP (sumR a) d (highOf l a x)),
   max (max o.2 (upP (sumR a) d (highOf l a x) - downV (sumR b) d (lowOf l b x))) (upP (sumR b) d (highOf l b x) - downV (sumR a) d (lowOf l a x)))
def gapFold (l d : Int) (a b : List Nd) (e : List Int) : Int × Int := e.foldl (gapStep l d a b) (0, 0)
theorem gapFold_snoc (l d : Int) (a b : List Nd) (e : List Int) (x : Int) : gapFold l d a b (e ++ [x]) = gapStep l d a b (gapFold l d a b e) x := by
  unfold gapFold
  rw [List.foldl_append]; rfl
theorem gapFold_succ {l d : Int} {a b : List Nd} {e : List Int} {q : Nat} (h : q < e.length) : gapFold l d a b (e.take (q + 1)) = gapStep l d a b (gapFold l d a b (e.take q)) e[q] := by
  rw [List.take_succ_eq_append_getElem h, gapFold_snoc]
theorem gapFold_le (l d : Int) (a b : List Nd) (e : List Int) (z y : Int) : ((gapFold l d a b e).1 ≤ z ↔ 0 ≤ z ∧ ∀ x ∈ e, (gapStep l d a b (0, 0) x).1 ≤ z) ∧ ((gapFold l d a b e).2 ≤ y ↔ 0 ≤ y ∧ ∀ x ∈ e, (gapStep l d a b (0, 0) x).2 ≤ y) := by
  suffices h : ∀ (e : List Int) (o : Int × Int), 0 ≤ o.1 → 0 ≤ o.2 → (((e.foldl (gapStep l d a b) o).1 ≤ z ↔ o.1 ≤ z ∧ ∀ x ∈ e, (gapStep l d a b (0, 0) x).1 ≤ z) ∧ ((e.foldl (gapStep l d a b) o).2 ≤ y ↔ o.2 ≤ y ∧ ∀ x ∈ e, (gapStep l d a b (0, 0) x).2 ≤ y)) from h e (0, 0) (Int.le_refl _) (Int.le_refl _)
  intro e
  induction e with
  | nil => intro o h1 h2; simp
  | cons x e ih =>
    intro o h1 h2
    rw [List.foldl_cons]
    obtain ⟨i1, i2⟩ := ih (gapStep l d a b o x) (by simp only [gapStep]; omega) (by simp only [gapStep]; omega)
    constructor
    · rw [i1]
      simp only [List.mem_cons, forall_eq_or_imp]
      have : ((gapStep l d a b o x).1 ≤ z) ↔ o.1 ≤ z ∧ (gapStep l d a b (0, 0) x).1 ≤ z := by simp only [gapStep]; omega
      rw [this, and_assoc]
    · rw [i2]
      simp only [List.mem_cons, forall_eq_or_imp]
      have : ((gapStep l d a b o x).2 ≤ y) ↔ o.2 ≤ y ∧ (gapStep l d a b (0, 0) x).2 ≤ y := by simp only [gapStep]; omega
      rw [this, and_assoc]
theorem gapFold_set {l d : Int} {a b : List Nd} {e f : List Int} (h : ∀ x, x ∈ e ↔ x ∈ f) : gapFold l d a b e = gapFold l d a b f := by
  have h1 := gapFold_le l d a b e
  have h2 := gapFold_le l d a b f
  have k : ∀ p : Int → Prop, (∀ x ∈ e, p x) ↔ (∀ x ∈ f, p x) := fun p => ⟨fun q x hx => q x ((h x).2 hx), fun q x hx => q x ((h x).1 hx)⟩
  have e1 : ∀ z, (gapFold l d a b e).1 ≤ z ↔ (gapFold l d a b f).1 ≤ z := fun z => by rw [(h1 z 0).1, (h2 z 0).1, k]
  have e2 : ∀ z, (gapFold l d a b e).2 ≤ z ↔ (gapFold l d a b f).2 ≤ z := fun z => by rw [(h1 0 z).2, (h2 0 z).2, k]
  refine Prod.ext ?_ ?_
  · have := (e1 _).1 (Int.le_refl _); have := (e1 _).2 (Int.le_refl _); omega
  · have := (e2 _).1 (Int.le_refl _); have := (e2 _).2 (Int.le_refl _); omega
end Go.Proofs.YtajhjbiokbgebaaGreat
/- Digests held against bags: plain laws. -/
namespace Go.Proofs.YtajhjbiokbgebaaGreat
open Go.ChangeShapes Go.WideShapes Go.ChangeAt Go.RowKit
set_option linter.unusedVariables false

/-- What a node has, with all below it. -/
def ownN (r : List Nd) (id : Int) : Int := wIds (fun x => abv id x) r
/-- What a bag has between two values. -/
def bagB (l : Nat) (q : List Nd) (lo hi : Int) : Int := weighR l (inLow lo hi) q
def moreN (l : Nat) (r q : List Nd) (id : Int) : Int := ownN r id - bagB l q (loN l id) (hiN l id)
/-- How much more a node has than it holds; 0: no more. -/
def culF (l : Nat) (r q : List Nd) (id : Int) : Int := max (moreN l r q id) 0
theorem wIds_le {p g : Int → Bool} {r : List Nd} (h0 : ∀ x ∈ r, 0 ≤ x.2) (h : ∀ x ∈ r, p x.1 = true → g x.1 = true) : wIds p r ≤ wIds g r := by
  induction r with
  | nil => simp [wIds]
  | cons x r ih =>
    have h1 := h0 x (by simp)
    have h2 := h x (by simp)
    have h3 := ih (fun y hy => h0 y (by simp [hy])) fun y hy => h y (by simp [hy])
    simp only [wIds]
    by_cases hp : p x.1 = true
    · rw [if_pos hp, if_pos (h2 hp)]; omega
    · rw [if_neg hp]; split <;> omega
theorem wIds_0 {p : Int → Bool} {r : List Nd} (h0 : ∀ x ∈ r, 0 ≤ x.2) : 0 ≤ wIds p r := by
  induction r with
  | nil => simp [wIds]
  | cons x r ih =>
    have h1 := h0 x (by simp)
    have h3 := ih (fun y hy => h0 y (by simp [hy]))
    simp only [wIds]
    split <;> omega
theorem wIds_none {p : Int → Bool} {r : List Nd} (h : ∀ x ∈ r, p x.1 = false) : wIds p r = 0 := by
  induction r with
  | nil => rfl
  | cons x r ih => simp only [wIds, h x (by simp), ih fun y hy => h y (by simp [hy])]; simp
theorem wIds_or {p g k : Int → Bool} {r : List Nd} (h0 : ∀ x ∈ r, 0 ≤ x.2) (h : ∀ x ∈ r, p x.1 = true → g x.1 = true ∨ k x.1 = true) : wIds p r ≤ wIds g r + wIds k r := by
  induction r with
  | nil => simp [wIds]
  | cons x r ih =>
    have h1 := h0 x (by simp)
    have h2 := h x (by simp)
    have h3 := ih (fun y hy => h0 y (by simp [hy])) fun y hy => h y (by simp [hy])
    simp only [wIds]
    by_cases hp : p x.1 = true
    · rw [if_pos hp]
      rcases h2 hp with h4 | h4
      · rw [if_pos h4]; split <;> omega
      · rw [if_pos h4]; split <;> omega
    · rw [if_neg hp]; split <;> split <;> omega
theorem wIds_and {p g k : Int → Bool} {r : List Nd} (h0 : ∀ x ∈ r, 0 ≤ x.2) (hg : ∀ x ∈ r, g x.1 = true → p x.1 = true) (hk : ∀ x ∈ r, k x.1 = true → p x.1 = true) (hn : ∀ x ∈ r, g x.1 = true → k x.1 = false) : wIds g r + wIds k r ≤ wIds p r := by
  induction r with
  | nil => simp [wIds]
  | cons x r ih =>
    have h1 := h0 x (by simp)
    have h2 := hg x (by simp)
    have h3 := hk x (by simp)
    have h4 := hn x (by simp)
    have h5 := ih (fun y hy => h0 y (by simp [hy])) (fun y hy => hg y (by simp [hy])) (fun y hy => hk y (by simp [hy])) fun y hy => hn y (by simp [hy])
    simp only [wIds]
    by_cases c1 : g x.1 = true
    · rw [if_pos c1, if_neg (by rw [h4 c1]; simp), if_pos (h2 c1)]; omega
    · rw [if_neg c1]
      by_cases c2 : k x.1 = true
      · rw [if_pos c2, if_pos (h3 c2)]; omega
      · rw [if_neg c2]; split <;> omega
theorem abv_same {p q : Int} (h : abv p q = true) (e : p.toNat.log2 = q.toNat.log2) : p = q := by
  simp only [abv, decide_eq_true_eq] at h
  have e0 : q.toNat.log2 - p.toNat.log2 = 0 := by omega
  have h3 := h.2.2.2
  rw [e0, Nat.pow_zero, Nat.div_one] at h3
  omega
/-- What is below a node, and not itself, is below one of its children. -/
theorem abv_kids {l : Nat} {x z : Int} (hx : isNode l x = true) (hz : isNode l z = true) (h : abv x z = true) (hne : z ≠ x) : abv (2 * x) z = true ∨ abv (2 * x + 1) z = true := by
  have hlog := abv_log h
  have hlt : x.toNat.log2 < z.toNat.log2 := by
    rcases Nat.lt_or_ge x.toNat.log2 z.toNat.log2 with h1 | h1
    · exact h1
    · exact absurd (abv_same h (by omega)).symm hne
  obtain ⟨k1, k2, k3, k4, k5, k6, k7⟩ := node_kids hx (by have := log2_le hz; omega)
  have r := (abv_iff hx hz).1 h
  have wz := lo_hi hz
  have w1 := lo_hi k1
  have w2 := lo_hi k2
  by_cases hc : loN l z ≤ hiN l (2 * x)
  · left
    rcases lam k1 hz (by omega) hc with g | g
    · exact g
    · have := abv_log g
      rw [abv_same g (by omega)]
      exact abv_refl k1
  · right
    rcases lam k2 hz (by omega) (by omega) with g | g
    · exact g
    · have := abv_log g
      rw [abv_same g (by omega)]
      exact abv_refl k2
/-- What nodes have that lie in a run, below a node: no more than a bag has there. -/
def inRun (l : Nat) (a b x z : Int) : Bool := abv x z && (decide (a ≤ loN l z) && decide (hiN l z ≤ b))
def inRunV (l : Nat) (a b x z : Int) : Bool := (decide (a ≤ loN l z) && decide (loN l x ≤ loN l z)) && (decide (hiN l z ≤ b) && decide (hiN l z ≤ hiN l x))
theorem inRun_iff {l : Nat} {a b x z : Int} : inRun l a b x z = true ↔ abv x z = true ∧ a ≤ loN l z ∧ hiN l z ≤ b := by simp [inRun]
theorem inRunV_iff {l : Nat} {a b x z : Int} : inRunV l a b x z = true ↔ (a ≤ loN l z ∧ loN l x ≤ loN l z) ∧ hiN l z ≤ b ∧ hiN l z ≤ hiN l x := by simp [inRunV]
theorem bagB_ids (l : Nat) (q : List Nd) (lo hi : Int) : bagB l q lo hi = wIds (fun z => decide (lo ≤ loN l z) && decide (hiN l z ≤ hi)) q := by
  unfold bagB; rw [weighR_ids]; rfl
theorem own_le {l : Nat} {r q : List Nd} (hr : ∀ x ∈ r, isNode l x.1 = true ∧ 0 ≤ x.2) (hq : ∀ x ∈ q, isNode l x.1 = true ∧ 0 ≤ x.2) (H : ∀ id, isNode l id = true → ownN r id ≤ bagB l q (loN l id) (hiN l id)) (a b : Int) :
    ∀ (h : Nat) (x : Int), isNode l x = true → x.toNat.log2 + h = l → wIds (inRun l a b x) r ≤ wIds (inRunV l a b x) q := by
  have hr0 : ∀ x ∈ r, 0 ≤ x.2 := fun x hx => (hr x hx).2
  have hq0 : ∀ x ∈ q, 0 ≤ x.2 := fun x hx => (hq x hx).2
  have out : ∀ x, isNode l x = true → (hiN l x < a ∨ b < loN l x) → wIds (inRun l a b x) r ≤ wIds (inRunV l a b x) q := by
    intro x hx hc
    rw [wIds_none]
    · exact wIds_0 hq0
    · intro z hz
      rw [← Bool.not_eq_true, inRun_iff]
      rintro ⟨h1, h2, h3⟩
      have := (abv_iff hx (hr z hz).1).1 h1
      have := lo_hi (hr z hz).1
      omega
  have ins : ∀ x, isNode l x = true → (a ≤ loN l x ∧ hiN l x ≤ b) → wIds (inRun l a b x) r ≤ wIds (inRunV l a b x) q := by
    intro x hx hc
    refine Int.le_trans (wIds_le (g := fun z => abv x z) hr0 fun z hz h => (inRun_iff.1 h).1) (Int.le_trans (H x hx) ?_)
    rw [bagB_ids]
    refine wIds_le hq0 fun z hz h => ?_
    simp only [Bool.and_eq_true, decide_eq_true_eq] at h
    rw [inRunV_iff]; omega
  intro h
  induction h with
  | zero =>
    intro x hx hb
    have := leaf_one hx (by omega)
    by_cases hc : hiN l x < a ∨ b < loN l x
    · exact out x hx hc
    · exact ins x hx (by omega)
  | succ h ih =>
    intro x hx hb
    by_cases hc : hiN l x < a ∨ b < loN l x
    · exact out x hx hc
    · by_cases hd : a ≤ loN l x ∧ hiN l x ≤ b
      · exact ins x hx hd
      · obtain ⟨k1, k2, k3, k4, k5, k6, k7⟩ := node_kids hx (by omega)
        have w1 := lo_hi k1
        have w2 := lo_hi k2
        have i1 := ih (2 * x) k1 (by omega)
        have i2 := ih (2 * x + 1) k2 (by omega)
        have a1 : wIds (inRun l a b x) r ≤ wIds (inRun l a b (2 * x)) r + wIds (inRun l a b (2 * x + 1)) r := wIds_or hr0 fun z hz h => by
          rw [inRun_iff] at h
          have hzn := (hr z hz).1
          rcases abv_kids hx hzn h.1 (by rintro e; rw [e] at h; exact hd h.2) with g | g
          · left; rw [inRun_iff]; exact ⟨g, h.2⟩
          · right; rw [inRun_iff]; exact ⟨g, h.2⟩
        have a2 : wIds (inRunV l a b (2 * x)) q + wIds (inRunV l a b (2 * x + 1)) q ≤ wIds (inRunV l a b x) q := wIds_and hq0 (fun z hz h => by rw [inRunV_iff] at h ⊢; omega) (fun z hz h => by rw [inRunV_iff] at h ⊢; omega) (fun z hz h => by
          rw [inRunV_iff] at h
          rw [← Bool.not_eq_true, inRunV_iff]
          have := lo_hi (hq z hz).1
          omega)
        omega
/-- A digest that stands for a bag: no node has more than it holds, and both weigh the same. -/
theorem stands_bounds {l : Nat} (hl : 1 ≤ l ∧ l ≤ 48) {r q : List Nd} (hr : ∀ x ∈ r, isNode l x.1 = true ∧ 0 ≤ x.2) (hq : ∀ x ∈ q, isNode l x.1 = true ∧ 0 ≤ x.2) (H : ∀ id, isNode l id = true → ownN r id ≤ bagB l q (loN l id) (hiN l id)) (hs : sumR r = sumR q) (y : Int) : lowOf l r y ≤ rankQ l q y ∧ rankQ l q y ≤ highOf l r y := by
  obtain ⟨n1, n2, n3⟩ := isNode_root hl
  have hlog : (1 : Int).toNat.log2 + l = l := by
    have : (1 : Int).toNat.log2 = 0 := by decide
    omega
  have hr0 : ∀ x ∈ r, 0 ≤ x.2 := fun x hx => (hr x hx).2
  have hq0 : ∀ x ∈ q, 0 ≤ x.2 := fun x hx => (hq x hx).2
  have root : ∀ z, isNode l z = true → abv 1 z = true := fun z hz => (abv_iff n1 hz).2 ⟨by have := lo_0 hz; omega, by have := hi_top hz; omega⟩
  have e1 : lowOf l r y = wIds (fun z => decide (hiN l z ≤ y)) r := by unfold lowOf; rw [weighR_ids]; rfl
  have e2 : highOf l r y = wIds (fun z => decide (loN l z ≤ y)) r := by unfold highOf; rw [weighR_ids]; rfl
  have e3 : rankQ l q y = wIds (fun z => decide (hiN l z ≤ y)) q := by unfold rankQ lowOf; rw [weighR_ids]; rfl
  constructor
  · have a1 := own_le hr hq H 0 y l 1 n1 hlog
    have a2 : wIds (fun z => decide (hiN l z ≤ y)) r ≤ wIds (inRun l 0 y 1) r := wIds_le hr0 fun z hz h => by
      simp only [decide_eq_true_eq] at h
      rw [inRun_iff]
      exact ⟨root _ (hr z hz).1, lo_0 (hr z hz).1, h⟩
    have a3 : wIds (inRunV l 0 y 1) q ≤ wIds (fun z => decide (hiN l z ≤ y)) q := wIds_le hq0 fun z hz h => by
      rw [inRunV_iff] at h
      simp only [decide_eq_true_eq]; omega
    omega
  · have a1 := own_le hr hq H (y + 1) (2 ^ l) l 1 n1 hlog
    have a2 : sumR r ≤ wIds (inRun l (y + 1) (2 ^ l) 1) r + wIds (fun z => decide (loN l z ≤ y)) r := by
      rw [sumR_ids]
      refine wIds_or hr0 fun z hz _ => ?_
      by_cases hc : loN l z.1 ≤ y
      · right; simpa using hc
      · left
        rw [inRun_iff]
        exact ⟨root _ (hr z hz).1, by omega, by have := hi_top (hr z hz).1; omega⟩
    have a3 : wIds (inRunV l (y + 1) (2 ^ l) 1) q + wIds (fun z => decide (hiN l z ≤ y)) q ≤ sumR q := by
      rw [sumR_ids]
      refine wIds_and hq0 (fun _ _ _ => rfl) (fun _ _ _ => rfl) fun z hz h => ?_
      rw [inRunV_iff] at h
      have := lo_hi (hq z hz).1
      simp only [decide_eq_false_iff_not]; omega
    omega
/-- All nodes above one. -/
def ancF : Nat → Int → List Int
  | 0, _ => []
  | n + 1, x => if x < 1 then [] else x :: ancF n (x / 2)
theorem toNat_half (x : Int) : (x / 2).toNat = x.toNat / 2 := by omega
theorem anc_log {x : Int} (h : 2 ≤ x) : x.toNat.log2 = (x / 2).toNat.log2 + 1 := by
  rw [Nat.log2_def, if_pos (by omega), toNat_half]
theorem abv_half {x z : Int} (hx : 1 ≤ x) : abv z x = true ↔ z = x ∨ (2 ≤ x ∧ abv z (x / 2) = true) := by
  constructor
  · intro h
    by_cases e : z.toNat.log2 = x.toNat.log2
    · exact .inl (abv_same h e)
    · right
      have h0 := h
      simp only [abv, decide_eq_true_eq] at h
      obtain ⟨h1, h2, h3, h4⟩ := h
      have hx2 : 2 ≤ x := by
        rcases Int.lt_or_le x 2 with g | g
        · exfalso
          have : x.toNat = 1 := by omega
          rw [this] at h3 e
          have : Nat.log2 1 = 0 := by decide
          omega
        · exact g
      have hl := anc_log hx2
      refine ⟨hx2, ?_⟩
      simp only [abv, decide_eq_true_eq]
      refine ⟨h1, by omega, by omega, ?_⟩
      have e2 : x.toNat.log2 - z.toNat.log2 = ((x / 2).toNat.log2 - z.toNat.log2) + 1 := by omega
      rw [e2, Nat.pow_succ, Nat.mul_comm, ← Nat.div_div_eq_div_mul, ← toNat_half] at h4
      exact h4
  · rintro (rfl | ⟨hx2, h⟩)
    · simp [abv, hx]
    · have hl := anc_log hx2
      simp only [abv, decide_eq_true_eq] at h ⊢
      obtain ⟨h1, h2, h3, h4⟩ := h
      refine ⟨h1, hx, by omega, ?_⟩
      have e2 : x.toNat.log2 - z.toNat.log2 = ((x / 2).toNat.log2 - z.toNat.log2) + 1 := by omega
      rw [e2, Nat.pow_succ, Nat.mul_comm, ← Nat.div_div_eq_div_mul, ← toNat_half]
      exact h4
theorem ancF_mem : ∀ (n : Nat) (x z : Int), x < 2 ^ n → (z ∈ ancF n x ↔ 1 ≤ x ∧ abv z x = true) := by
  intro n
  induction n with
  | zero =>
    intro x z h
    simp only [Int.pow_zero] at h
    simp only [ancF, List.not_mem_nil, false_iff]
    omega
  | succ n ih =>
    intro x z h
    unfold ancF
    by_cases hx : x < 1
    · rw [if_pos hx]
      simp only [List.not_mem_nil, false_iff]; omega
    · rw [if_neg hx, List.mem_cons, ih (x / 2) z (by rw [Int.pow_succ] at h; omega), abv_half (x := x) (z := z) (by omega)]
      constructor
      · rintro (h1 | ⟨h1, h2⟩)
        · exact ⟨by omega, Or.inl h1⟩
        · exact ⟨by omega, Or.inr ⟨by omega, h2⟩⟩
      · rintro ⟨h1, h2⟩
        rcases h2 with h2 | ⟨h2, h3⟩
        · exact Or.inl h2
        · exact Or.inr ⟨by omega, h3⟩
def ancL (x : Int) : List Int := ancF 49 x
/-- All nodes above those of a digest. -/
def allAnc (r : List Nd) : List Int := r.flatMap fun x => ancL x.1
theorem allAnc_mem {r : List Nd} (hr : ∀ x ∈ r, 1 ≤ x.1 ∧ x.1 < 562949953421312) (z : Int) : z ∈ allAnc r ↔ ∃ x ∈ r, abv z x.1 = true := by
  unfold allAnc
  rw [List.mem_flatMap]
  constructor
  · rintro ⟨x, hx, h⟩
    exact ⟨x, hx, ((ancF_mem 49 x.1 z (by have := (hr x hx).2; simpa using this)).1 h).2⟩
  · rintro ⟨x, hx, h⟩
    exact ⟨x, hx, (ancF_mem 49 x.1 z (by have := (hr x hx).2; simpa using this)).2 ⟨(hr x hx).1, h⟩⟩
/-- No culprit: no node has more than it holds. -/
theorem no_culprit {l : Nat} {r q : List Nd} (hr : ∀ x ∈ r, 1 ≤ x.1 ∧ x.1 < 562949953421312) (hq : ∀ x ∈ q, 0 ≤ x.2) {L : List Int} (hL : ∀ z, z ∈ L ↔ z ∈ allAnc r) (h : ∀ z ∈ L, culF l r q z = 0) (id : Int) : ownN r id ≤ bagB l q (loN l id) (hiN l id) := by
  by_cases hc : ∃ x ∈ r, abv id x.1 = true
  · have := h id ((hL id).2 ((allAnc_mem hr id).2 hc))
    unfold culF moreN at this
    omega
  · have : ownN r id = 0 := wIds_none fun x hx => by
      rw [← Bool.not_eq_true]
      exact fun h => hc ⟨x, hx, h⟩
    rw [this, bagB_ids]
    exact wIds_0 hq
/-- Where ranks are farthest off, and how far. -/
def offIs (f : Int → Int) (L : List Int) (r : Int × Int) : Prop := r.1 ∈ L ∧ r.2 = f r.1 ∧ ∀ x ∈ L, f x ≤ r.2 ∧ (f x = r.2 → r.1 ≤ x)
theorem offIs_unique {f : Int → Int} {L M : List Int} (hm : ∀ x, x ∈ L ↔ x ∈ M) {r s : Int × Int} (h : offIs f L r) (k : offIs f M s) : r = s := by
  obtain ⟨h1, h2, h3⟩ := h
  obtain ⟨k1, k2, k3⟩ := k
  have a := h3 s.1 ((hm _).2 k1)
  have b := k3 r.1 ((hm _).1 h1)
  have e2 : r.2 = s.2 := by omega
  have e1 : r.1 = s.1 := by
    have := a.2 (by omega)
    have := b.2 (by omega)
    omega
  exact Prod.ext e1 e2
def offStep (f : Int → Int) (a : Int × Int) (x : Int) : Int × Int := if a.2 < f x then (x, f x) else a
def offFold (f : Int → Int) (L : List Int) : Int × Int := L.foldl (offStep f) (0, 0)
theorem offFold_snoc (f : Int → Int) (L : List Int) (x : Int) : offFold f (L ++ [x]) = offStep f (offFold f L) x := by
  unfold offFold; rw [List.foldl_append]; rfl
theorem offFold_is {f : Int → Int} (h0 : ∀ x, 0 ≤ f x) {L : List Int} (hs : L.Pairwise (· ≤ ·)) (hz : (0 : Int) ∈ L) (hn : ∀ x ∈ L, 0 ≤ x) : offIs f L (offFold f L) := by
  obtain ⟨y, t, rfl⟩ : ∃ y t, L = y :: t := by
    cases L with
    | nil => simp at hz
    | cons y t => exact ⟨y, t, rfl⟩
  obtain rfl : y = 0 := by
    have h1 := hn y (by simp)
    rcases List.mem_cons.1 hz with h2 | h2
    · exact h2.symm
    · have := (List.pairwise_cons.1 hs).1 0 h2; omega
  clear hz hn
  suffices h : ∀ k, k ≤ t.length → offIs f (0 :: t.take k) (offFold f (0 :: t.take k)) by
    have := h t.length (Nat.le_refl _)
    rwa [List.take_length] at this
  intro k
  induction k with
  | zero =>
    intro _
    have := h0 0
    simp only [List.take_zero]
    unfold offFold offIs
    simp only [List.foldl_cons, List.foldl_nil, offStep]
    by_cases hc : 0 < f 0
    · rw [if_pos hc]
      refine ⟨by simp, rfl, fun x hx => ?_⟩
      rw [List.mem_singleton.1 hx]; simp
    · rw [if_neg hc]
      refine ⟨by simp, by simp only; omega, fun x hx => ?_⟩
      rw [List.mem_singleton.1 hx]; simp only; omega
  | succ k ih =>
    intro hk
    have hlt : k < t.length := by omega
    obtain ⟨i1, i2, i3⟩ := ih (by omega)
    rw [List.take_succ_eq_append_getElem hlt, ← List.cons_append, offFold_snoc]
    have hx : ∀ y ∈ 0 :: t.take k, y ≤ t[k] := by
      intro y hy
      rcases List.mem_cons.1 hy with rfl | hy
      · exact (List.pairwise_cons.1 hs).1 _ (List.getElem_mem hlt)
      · obtain ⟨i, hi, rfl⟩ := List.getElem_of_mem hy
        simp only [List.length_take] at hi
        rw [List.getElem_take]
        exact List.pairwise_iff_getElem.1 (List.pairwise_cons.1 hs).2 i k (by omega) hlt (by omega)
    generalize offFold f (0 :: t.take k) = a at i1 i2 i3
    generalize t[k] = x at hx
    unfold offStep
    by_cases hc : a.2 < f x
    · rw [if_pos hc]
      refine ⟨by simp, rfl, fun y hy => ?_⟩
      rcases List.mem_append.1 hy with hy | hy
      · have := i3 y hy; simp only; omega
      · rw [List.mem_singleton.1 hy]; simp
    · rw [if_neg hc]
      refine ⟨List.mem_append_left _ i1, i2, fun y hy => ?_⟩
      rcases List.mem_append.1 hy with hy | hy
      · exact i3 y hy
      · rw [List.mem_singleton.1 hy]
        have := hx a.1 i1
        omega
def offStepR (f : Int → Int) (a : Int × Int) (x : Int) : Int × Int := if a.2 < f x ∨ (f x = a.2 ∧ x < a.1) then (x, f x) else a
def offFoldR (f : Int → Int) (L : List Int) : Int × Int := L.foldl (offStepR f) (0, f 0)
theorem offFoldR_snoc (f : Int → Int) (L : List Int) (x : Int) : offFoldR f (L ++ [x]) = offStepR f (offFoldR f L) x := by
  unfold offFoldR; rw [List.foldl_append]; rfl
theorem offFoldR_is (f : Int → Int) (t : List Int) : offIs f (0 :: t) (offFoldR f t) := by
  suffices h : ∀ k, k ≤ t.length → offIs f (0 :: t.take k) (offFoldR f (t.take k)) by
    have := h t.length (Nat.le_refl _)
    rwa [List.take_length] at this
  intro k
  induction k with
  | zero =>
    intro _
    refine ⟨by simp [offFoldR], rfl, fun x hx => ?_⟩
    simp only [List.take_zero] at hx
    rw [List.mem_singleton.1 hx]; simp [offFoldR]
  | succ k ih =>
    intro hk
    have hlt : k < t.length := by omega
    obtain ⟨i1, i2, i3⟩ := ih (by omega)
    rw [List.take_succ_eq_append_getElem hlt, offFoldR_snoc, ← List.cons_append]
    generalize offFoldR f (t.take k) = a at i1 i2 i3
    generalize t[k] = x
    unfold offStepR
    by_cases hc : a.2 < f x ∨ (f x = a.2 ∧ x < a.1)
    · rw [if_pos hc]
      refine ⟨by simp, rfl, fun y hy => ?_⟩
      rcases List.mem_append.1 hy with hy | hy
      · have := i3 y hy; simp only; omega
      · rw [List.mem_singleton.1 hy]; simp
    · rw [if_neg hc]
      refine ⟨by rw [List.cons_append]; exact (List.mem_append_left (bs := [x]) i1 : a.1 ∈ (0 :: t.take k) ++ [x]), i2, fun y hy => ?_⟩
      rcases List.mem_append.1 hy with hy | hy
      · exact i3 y hy
      · rw [List.mem_singleton.1 hy]; omega
end Go.Proofs.YtajhjbiokbgebaaGreat
/- Tiles: how many there are; one behind the other; the reference's way from left to right. Plain laws. -/
namespace Go.Proofs.YtajhjbiokbgebaaGreat
open Go.ChangeShapes Go.WideShapes Go.ChangeAt Go.RowKit
set_option linter.unusedVariables false

theorem layT_out {l : Nat} {a b : Int} {h : Nat} {x : Int} (hc : hiN l x < a ∨ b < loN l x) : layT l a b h x = [] := by
  cases h <;> simp only [layT, if_pos hc]
theorem layT_whole {l : Nat} {a b : Int} {h : Nat} {x : Int} (hx : isNode l x = true) (h1 : a ≤ loN l x) (h2 : hiN l x ≤ b) : layT l a b h x = [x] := by
  have hw := lo_hi hx
  cases h <;> simp only [layT] <;> rw [if_neg (by omega)]
  rw [if_pos ⟨h1, h2⟩]
theorem layT_left {l : Nat} (a b : Int) : ∀ (h : Nat) (x : Int), isNode l x = true → x.toNat.log2 + h = l → a ≤ loN l x → (layT l a b h x).length ≤ h + 1 := by
  intro h
  induction h with
  | zero => intro x _ _ _; simp only [layT]; split <;> simp
  | succ h ih =>
    intro x hx hb ha
    obtain ⟨k1, k2, k3, k4, k5, k6, k7⟩ := node_kids hx (by omega)
    have w1 := lo_hi k1
    simp only [layT]
    split
    · simp
    · split
      · simp
      · rw [List.length_append]
        by_cases hc : hiN l (2 * x) ≤ b
        · rw [layT_whole k1 (by omega) hc]
          have := ih (2 * x + 1) k2 (by omega) (by omega)
          simp only [List.length_cons, List.length_nil]; omega
        · rw [layT_out (x := 2 * x + 1) (.inr (by omega))]
          have := ih (2 * x) k1 (by omega) (by omega)
          simp only [List.length_nil]; omega
theorem layT_right {l : Nat} (a b : Int) : ∀ (h : Nat) (x : Int), isNode l x = true → x.toNat.log2 + h = l → hiN l x ≤ b → (layT l a b h x).length ≤ h + 1 := by
  intro h
  induction h with
  | zero => intro x _ _ _; simp only [layT]; split <;> simp
  | succ h ih =>
    intro x hx hb ha
    obtain ⟨k1, k2, k3, k4, k5, k6, k7⟩ := node_kids hx (by omega)
    have w2 := lo_hi k2
    simp only [layT]
    split
    · simp
    · split
      · simp
      · rw [List.length_append]
        by_cases hc : a ≤ loN l (2 * x + 1)
        · rw [layT_whole k2 hc (by omega)]
          have := ih (2 * x) k1 (by omega) (by omega)
          simp only [List.length_cons, List.length_nil]; omega
        · rw [layT_out (x := 2 * x) (.inl (by omega))]
          have := ih (2 * x + 1) k2 (by omega) (by omega)
          simp only [List.length_nil]; omega
theorem layT_len {l : Nat} (a b : Int) : ∀ (h : Nat) (x : Int), isNode l x = true → x.toNat.log2 + h = l → (layT l a b h x).length ≤ 2 * h + 1 := by
  intro h
  induction h with
  | zero => intro x _ _; simp only [layT]; split <;> simp
  | succ h ih =>
    intro x hx hb
    obtain ⟨k1, k2, k3, k4, k5, k6, k7⟩ := node_kids hx (by omega)
    simp only [layT]
    split
    · simp
    · split
      · simp
      · rw [List.length_append]
        by_cases h1 : b < loN l (2 * x + 1)
        · rw [layT_out (x := 2 * x + 1) (.inr h1)]
          have := ih (2 * x) k1 (by omega)
          simp only [List.length_nil]; omega
        · by_cases h2 : hiN l (2 * x) < a
          · rw [layT_out (x := 2 * x) (.inl h2)]
            have := ih (2 * x + 1) k2 (by omega)
            simp only [List.length_nil]; omega
          · have := layT_right a b h (2 * x) k1 (by omega) (by omega)
            have := layT_left a b h (2 * x + 1) k2 (by omega) (by omega)
            omega
theorem root_log : (1 : Int).toNat.log2 = 0 := by decide
theorem ofTiles_len {l : Nat} (hl : 1 ≤ l ∧ l ≤ 48) (a b : Int) : (ofTiles l a b).length ≤ 97 := by
  have := layT_len a b l 1 (isNode_root hl).1 (by rw [root_log]; omega)
  unfold ofTiles; omega
theorem chain_append {l : Nat} {b m : Int} {M : List Int} (hM : chainT l b (m + 1) M) (hm : m ≤ b) : ∀ (L : List Int) (a : Int), chainT l m a L → chainT l b a (L ++ M) := by
  intro L
  induction L with
  | nil => intro a h; simp only [chainT] at h; subst h; exact hM
  | cons t L ih =>
    intro a h
    obtain ⟨h1, h2, h3, h4⟩ := h
    exact ⟨h1, h2, by omega, ih _ h4⟩
theorem chain_one {l : Nat} {t a b : Int} (h1 : isNode l t = true) (h2 : loN l t = a) (h3 : hiN l t = b) : chainT l b a [t] := ⟨h1, h2, by omega, by simp only [chainT]; omega⟩
theorem layT_chain {l : Nat} (a b : Int) (hab : a ≤ b) : ∀ (h : Nat) (x : Int), isNode l x = true → x.toNat.log2 + h = l → a ≤ hiN l x → loN l x ≤ b → chainT l (min b (hiN l x)) (max a (loN l x)) (layT l a b h x) := by
  intro h
  induction h with
  | zero =>
    intro x hx hb h1 h2
    have he := leaf_one hx (by omega)
    simp only [layT]
    rw [if_neg (by omega)]
    exact chain_one hx (by omega) (by omega)
  | succ h ih =>
    intro x hx hb h1 h2
    obtain ⟨k1, k2, k3, k4, k5, k6, k7⟩ := node_kids hx (by omega)
    have w1 := lo_hi k1
    have w2 := lo_hi k2
    simp only [layT]
    rw [if_neg (by omega)]
    split
    · exact chain_one hx (by omega) (by omega)
    · by_cases c1 : b < loN l (2 * x + 1)
      · rw [layT_out (x := 2 * x + 1) (.inr c1), List.append_nil]
        have := ih (2 * x) k1 (by omega) (by omega) (by omega)
        rw [show min b (hiN l x) = min b (hiN l (2 * x)) by omega, ← k3]
        exact this
      · by_cases c2 : hiN l (2 * x) < a
        · rw [layT_out (x := 2 * x) (.inl c2), List.nil_append]
          have := ih (2 * x + 1) k2 (by omega) (by omega) (by omega)
          rw [show max a (loN l x) = max a (loN l (2 * x + 1)) by omega, ← k4]
          exact this
        · have i1 := ih (2 * x) k1 (by omega) (by omega) (by omega)
          have i2 := ih (2 * x + 1) k2 (by omega) (by omega) (by omega)
          rw [show min b (hiN l (2 * x)) = hiN l (2 * x) by omega, k3] at i1
          rw [show max a (loN l (2 * x + 1)) = hiN l (2 * x) + 1 by omega, k4] at i2
          exact chain_append i2 (by omega) _ _ i1
theorem ofTiles_chain {l : Nat} (hl : 1 ≤ l ∧ l ≤ 48) {a b : Int} (ha : 0 ≤ a) (hab : a ≤ b) (hb : b ≤ 2 ^ l - 1) : chainT l b a (ofTiles l a b) := by
  obtain ⟨h1, h2, h3⟩ := isNode_root hl
  have := layT_chain a b hab l 1 h1 (by rw [root_log]; omega) (by omega) (by omega)
  rw [h2, h3, show min b (2 ^ l - 1) = b by omega, show max a 0 = a by omega] at this
  exact this
theorem chain_mem {l : Nat} {b : Int} : ∀ (L : List Int) (a : Int), chainT l b a L → ∀ t ∈ L, isNode l t = true ∧ a ≤ loN l t ∧ hiN l t ≤ b := by
  intro L
  induction L with
  | nil => intro a _ t ht; simp at ht
  | cons u L ih =>
    intro a h t ht
    obtain ⟨h1, h2, h3, h4⟩ := h
    have hw := lo_hi h1
    rcases List.mem_cons.1 ht with rfl | ht
    · exact ⟨h1, by omega, h3⟩
    · obtain ⟨g1, g2, g3⟩ := ih _ h4 t ht
      exact ⟨g1, by omega, g3⟩
theorem chain_cov {l : Nat} {b : Int} : ∀ (L : List Int) (a : Int), chainT l b a L → ∀ v, a ≤ v → v ≤ b → ∃ t ∈ L, loN l t ≤ v ∧ v ≤ hiN l t := by
  intro L
  induction L with
  | nil => intro a h v h1 h2; simp only [chainT] at h; omega
  | cons u L ih =>
    intro a h v h1 h2
    obtain ⟨g1, g2, g3, g4⟩ := h
    by_cases hv : v ≤ hiN l u
    · exact ⟨u, by simp, by omega, hv⟩
    · obtain ⟨t, ht, k⟩ := ih _ g4 v (by omega) h2
      exact ⟨t, List.mem_cons_of_mem _ ht, k⟩
/-- Two ways of tiles from a value to another one, each of greatest ones, are one. -/
theorem chain_unique {l : Nat} {b : Int} : ∀ (L M : List Int) (a : Int), chainT l b a L → chainT l b a M → (∀ x, isNode l x = true → a ≤ loN l x → hiN l x ≤ b → ∃ t ∈ L, abv t x = true) → (∀ x, isNode l x = true → a ≤ loN l x → hiN l x ≤ b → ∃ t ∈ M, abv t x = true) → L = M := by
  intro L
  induction L with
  | nil =>
    intro M a h k _ _
    cases M with
    | nil => rfl
    | cons u M =>
      simp only [chainT] at h
      obtain ⟨g1, g2, g3, g4⟩ := k
      have := lo_hi g1
      omega
  | cons t L ih =>
    intro M a h k hL hM
    obtain ⟨h1, h2, h3, h4⟩ := h
    have wt := lo_hi h1
    cases M with
    | nil => simp only [chainT] at k; omega
    | cons u M =>
      obtain ⟨g1, g2, g3, g4⟩ := k
      have wu := lo_hi g1
      have e1 : abv u t = true := by
        obtain ⟨v, hv, q⟩ := hM t h1 (by omega) h3
        rcases List.mem_cons.1 hv with rfl | hv
        · exact q
        · obtain ⟨m1, m2, m3⟩ := chain_mem M _ g4 v hv
          have := (abv_iff m1 h1).1 q
          omega
      have e2 : abv t u = true := by
        obtain ⟨v, hv, q⟩ := hL u g1 (by omega) g3
        rcases List.mem_cons.1 hv with rfl | hv
        · exact q
        · obtain ⟨m1, m2, m3⟩ := chain_mem L _ h4 v hv
          have := (abv_iff m1 g1).1 q
          omega
      obtain rfl : t = u := abv_eq h1 g1 e2 e1
      congr 1
      refine ih M _ h4 g4 (fun x hx q1 q2 => ?_) (fun x hx q1 q2 => ?_)
      · obtain ⟨v, hv, q⟩ := hL x hx (by omega) q2
        rcases List.mem_cons.1 hv with rfl | hv
        · have := (abv_iff h1 hx).1 q
          have := lo_hi hx
          omega
        · exact ⟨v, hv, q⟩
      · obtain ⟨v, hv, q⟩ := hM x hx (by omega) q2
        rcases List.mem_cons.1 hv with rfl | hv
        · have := (abv_iff h1 hx).1 q
          have := lo_hi hx
          omega
        · exact ⟨v, hv, q⟩
/-- The node above. -/
theorem node_par {l : Nat} {x : Int} (hx : isNode l x = true) (h2 : 2 ≤ x) : isNode l (x / 2) = true ∧ (x / 2).toNat.log2 < l := by
  have hxl : x < 2 * 2 ^ l := by simp only [isNode, decide_eq_true_eq, Int.toNat_natCast] at hx; omega
  have hl := isNode_l hx
  have hn : isNode l (x / 2) = true := by simp only [isNode, decide_eq_true_eq, Int.toNat_natCast]; omega
  refine ⟨hn, ?_⟩
  obtain ⟨d, b, u, g1, g2, g3, g4, _⟩ := node_shape hn
  rw [g2, Int.toNat_natCast, g4]
  apply Classical.byContradiction
  intro hd
  obtain rfl : d = l := by omega
  have : ((2 ^ d : Nat) : Int) = 2 ^ d := by simp
  omega
theorem par_even {l : Nat} {x : Int} (hx : isNode l x = true) (h : x % 2 = 0) : isNode l (x / 2) = true ∧ loN l (x / 2) = loN l x ∧ hiN l x < hiN l (x / 2) := by
  have h2 : 2 ≤ x := by simp only [isNode, decide_eq_true_eq] at hx; omega
  obtain ⟨h1, h3⟩ := node_par hx h2
  obtain ⟨k1, k2, k3, k4, k5, k6, k7⟩ := node_kids h1 h3
  have e : 2 * (x / 2) = x := by omega
  rw [e] at k2 k3 k4 k5
  have := lo_hi k2
  exact ⟨h1, k3.symm, by omega⟩
theorem par_odd {l : Nat} {x : Int} (hx : isNode l x = true) (h2 : 2 ≤ x) (h : x % 2 = 1) : isNode l (x / 2) = true ∧ loN l (x / 2) < loN l x := by
  obtain ⟨h1, h3⟩ := node_par hx h2
  obtain ⟨k1, k2, k3, k4, k5, k6, k7⟩ := node_kids h1 h3
  have e : 2 * (x / 2) + 1 = x := by omega
  rw [e] at k5
  have := lo_hi k1
  exact ⟨h1, by omega⟩
/-- A tile that can't be greater. -/
def mxT (l : Nat) (b t : Int) : Prop := t % 2 = 1 ∨ b < hiN l (t / 2)
theorem greedy_top {l : Nat} {a b c : Int} {L : List Int} (h : chainT l c a L) (hcb : c ≤ b) (hm : ∀ t ∈ L, mxT l b t) : ∀ x, isNode l x = true → a ≤ loN l x → hiN l x ≤ c → ∃ t ∈ L, abv t x = true := by
  intro x hx h1 h2
  have wx := lo_hi hx
  obtain ⟨t, ht, q1, q2⟩ := chain_cov L a h (loN l x) h1 (by omega)
  obtain ⟨nt, _, _⟩ := chain_mem L a h t ht
  have wt := lo_hi nt
  refine ⟨t, ht, ?_⟩
  rcases lam nt hx (by omega) (by omega) with g | g
  · exact g
  · have x1 : 1 ≤ t := by simp only [isNode, decide_eq_true_eq] at nt; omega
    rcases (abv_half x1).1 g with e | ⟨t2, g2⟩
    · rw [e]; exact abv_refl nt
    · exfalso
      rcases hm t ht with m | m
      · obtain ⟨p1, p2⟩ := par_odd nt t2 m
        have := (abv_iff hx p1).1 g2
        omega
      · have p1 := (node_par nt t2).1
        have := (abv_iff hx p1).1 g2
        omega
/-- The reference's way is the program's. -/
theorem greedy_eq {l : Nat} (hl : 1 ≤ l ∧ l ≤ 48) {a b c : Int} {L : List Int} (ha : 0 ≤ a) (hac : a ≤ c) (hc : c ≤ 2 ^ l - 1) (h : chainT l c a L) (hcb : c ≤ b) (hm : ∀ t ∈ L, mxT l b t) : L = ofTiles l a c := by
  refine chain_unique L _ a h (ofTiles_chain hl ha hac hc) (greedy_top h hcb hm) fun x hx h1 h2 => ?_
  exact (of_tiles hl ha hc).top x hx fun v g1 g2 => by omega
theorem greedy_len {l : Nat} (hl : 1 ≤ l ∧ l ≤ 48) {a b c : Int} {L : List Int} (ha : 0 ≤ a) (hac : a ≤ c + 1) (hc : c ≤ 2 ^ l - 1) (h : chainT l c a L) (hcb : c ≤ b) (hm : ∀ t ∈ L, mxT l b t) : L.length ≤ 97 := by
  by_cases e : a = c + 1
  · subst e
    cases L with
    | nil => simp
    | cons t L =>
      obtain ⟨h1, h2, h3, h4⟩ := h
      have := lo_hi h1
      omega
  · rw [greedy_eq hl ha (by omega) hc h hcb hm]
    exact ofTiles_len hl a c
theorem chain_snoc {l : Nat} {a c : Int} {L : List Int} (h : chainT l c a L) {t : Int} (ht : isNode l t = true) (hlo : loN l t = c + 1) : chainT l (hiN l t) a (L ++ [t]) :=
  chain_append (chain_one ht hlo rfl) (by have := lo_hi ht; omega) L a h
/-- The leaf of a value. -/
theorem leaf_node {l : Nat} (hl : 1 ≤ l ∧ l ≤ 48) {x : Int} (h0 : 0 ≤ x) (h1 : x < 2 ^ l) : isNode l (2 ^ l + x) = true ∧ loN l (2 ^ l + x) = x ∧ hiN l (2 ^ l + x) = x := by
  obtain ⟨n, rfl⟩ := Int.eq_ofNat_of_zero_le h0
  have hn : n < 2 ^ l := by
    have : ((2 ^ l : Nat) : Int) = 2 ^ l := by simp
    omega
  have e : (2 : Int) ^ l + (n : Int) = ((2 ^ l + n : Nat) : Int) := by push_cast; rfl
  rw [e]
  have hN := node_of_shape (b := 0) hl (by omega) hn
  obtain ⟨d, b, t, g1, g2, g3, g4, g5, g6⟩ := node_shape hN
  have i1 := log2_shape hn
  have g2' := Int.ofNat.inj g2
  rw [← g2', i1] at g4
  subst g4
  obtain rfl : b = 0 := by omega
  obtain rfl : t = n := by omega
  rw [g5, g6]
  exact ⟨hN, by simp, by simp⟩
/-- The tiles of runs. -/
def layR (l : Nat) (L : List (Int × Int)) : List Int := L.flatMap fun r => ofTiles l r.1 r.2
theorem layR_len {l : Nat} (hl : 1 ≤ l ∧ l ≤ 48) (L : List (Int × Int)) : (layR l L).length ≤ 97 * L.length := by
  induction L with
  | nil => simp [layR]
  | cons r L ih =>
    have := ofTiles_len hl r.1 r.2
    simp only [layR, List.flatMap_cons, List.length_append, List.length_cons] at ih ⊢
    omega
theorem layR_cnt {l : Nat} (hl : 1 ≤ l ∧ l ≤ 48) (lo hi : Int) : ∀ (L : List (Int × Int)), (∀ r ∈ L, 0 ≤ r.1 ∧ r.1 ≤ r.2 ∧ r.2 ≤ 2 ^ l - 1) → cntR lo hi ((layR l L).map (ends2 l)) = cntR lo hi L := by
  intro L
  induction L with
  | nil => intro _; rfl
  | cons r L ih =>
    intro h
    obtain ⟨h1, h2, h3⟩ := h r (by simp)
    have := ih fun q hq => h q (by simp [hq])
    simp only [layR, List.flatMap_cons, List.map_append, cntR_append] at this ⊢
    rw [this, chain_cnt lo hi _ r.1 (by omega) (ofTiles_chain hl h1 h2 h3)]
    simp only [cntR]
theorem withF_len (L : List (Int × Int)) (x : Int × Int) : (withL L x).length ≤ L.length + 1 := by
  suffices h : ∀ (L : List (Int × Int)) (s : WithS), (L.foldl withStep s).ahead.length + (L.foldl withStep s).behind.length ≤ s.ahead.length + s.behind.length + L.length by
    have := h L ⟨[], x, []⟩
    simp only [withL, withF, List.length_append, List.length_cons, List.length_nil] at this ⊢
    omega
  intro L
  induction L with
  | nil => intro s; simp
  | cons r L ih =>
    intro s
    have := ih (withStep s r)
    simp only [List.foldl_cons, List.length_cons]
    have h2 : (withStep s r).ahead.length + (withStep s r).behind.length ≤ s.ahead.length + s.behind.length + 1 := by
      unfold withStep
      split
      · simp; omega
      · split
        · simp; omega
        · simp
    omega
theorem runsF_len (l : Nat) (ids : List Int) : (runsF l ids).length ≤ ids.length := by
  suffices h : ∀ k, k ≤ ids.length → (runsF l (ids.take k)).length ≤ k by
    have := h ids.length (Nat.le_refl _)
    rwa [List.take_length] at this
  intro k
  induction k with
  | zero => intro _; simp [runsF]
  | succ k ih =>
    intro hk
    rw [List.take_succ_eq_append_getElem (by omega), runsF_snoc]
    have := withF_len (runsF l (ids.take k)) (loN l ids[k], hiN l ids[k])
    have := ih (by omega)
    omega
theorem runsF_in {l : Nat} {ids : List Int} (hn : ∀ x ∈ ids, isNode l x = true) : ∀ r ∈ runsF l ids, 0 ≤ r.1 ∧ r.1 ≤ r.2 ∧ r.2 ≤ 2 ^ l - 1 := by
  obtain ⟨h1, h2⟩ := runsF_apart hn
  intro r hr
  have hw := h1.run r hr
  obtain ⟨t, ht, g1, g2⟩ := (h2 r.1).1 ⟨r, hr, Int.le_refl _, hw⟩
  obtain ⟨u, hu, k1, k2⟩ := (h2 r.2).1 ⟨r, hr, hw, Int.le_refl _⟩
  have := lo_0 (hn t ht)
  have := hi_top (hn u hu)
  omega
/-- A pair's other one, by the last bit. -/
theorem xor_one {t : Int} (h0 : 0 ≤ t) (h1 : t < 4611686018427387904) : bits .xor .i64 t 1 = sibN t := by
  obtain ⟨n, rfl⟩ := Int.eq_ofNat_of_zero_le h0
  have hn : n < 4611686018427387904 := by omega
  have e1 : (n ^^^ 1) / 2 = n / 2 := by rw [Nat.xor_div_two]; simp
  have e2 : (n ^^^ 1) % 2 = (n + 1) % 2 := by
    have := Nat.xor_mod_two_eq_one (a := n) (b := 1)
    omega
  have e3 : ((n ^^^ 1 : Nat) : Int) = sibN n := by unfold sibN; split <;> omega
  have hx : n ^^^ 1 < 2 ^ 64 := Nat.xor_lt_two_pow (by omega) (by omega)
  have ha : n % 2 ^ 64 = n := Nat.mod_eq_of_lt (by omega)
  show IntKind.i64.wrap (((BitVec.ofInt 64 (n : Int)) ^^^ (BitVec.ofInt 64 1)).toNat : Int) = sibN n
  have h3 : (BitVec.ofInt 64 (n : Int)).toNat = n := by rw [BitVec.ofInt_natCast, BitVec.toNat_ofNat, ha]
  have h4 : (BitVec.ofInt 64 (1 : Int)).toNat = 1 := by decide
  rw [BitVec.toNat_xor, h3, h4, e3, IntKind.wrap_i64]
  unfold sibN; split <;> omega
end Go.Proofs.YtajhjbiokbgebaaGreat
/- Bags as lists of values and weights; culprits. Plain laws. -/
namespace Go.Proofs.YtajhjbiokbgebaaGreat
open Go.ChangeShapes Go.WideShapes Go.ChangeAt Go.RowKit
set_option linter.unusedVariables false

/-- A bag's items: by rising values. -/
structure BagL (l : Nat) (m : List Nd) : Prop where
  up : m.Pairwise fun a b => a.1 < b.1
  val : ∀ x ∈ m, 0 ≤ x.1 ∧ x.1 < 2 ^ l ∧ 1 ≤ x.2
  sum : sumR m ≤ 72057594037927935
theorem BagL.nil (l : Nat) : BagL l [] := ⟨.nil, by simp, by simp [sumR]⟩
theorem sumR_pos {m : List Nd} (h : ∀ x ∈ m, 1 ≤ x.2) : 0 ≤ sumR m ∧ (m.length : Int) ≤ sumR m := by
  induction m with
  | nil => simp [sumR]
  | cons x m ih =>
    have := ih fun y hy => h y (by simp [hy])
    have := h x (by simp)
    simp only [sumR, List.length_cons]; omega
theorem BagL.len {l : Nat} {m : List Nd} (h : BagL l m) : (m.length : Int) ≤ sumR m := (sumR_pos fun x hx => (h.val x hx).2.2).2
theorem BagL.sum0 {l : Nat} {m : List Nd} (h : BagL l m) : 0 ≤ sumR m := (sumR_pos fun x hx => (h.val x hx).2.2).1
theorem addR_vals {m : List Nd} {x c : Int} {P : Nd → Prop} (h : ∀ y ∈ m, P y) (hn : P (x, c)) (ho : ∀ y ∈ m, y.1 = x → P (x, y.2 + c)) : ∀ y ∈ addR m x c, P y := by
  induction m with
  | nil => intro y hy; simp [addR] at hy; rw [hy]; exact hn
  | cons z m ih =>
    intro y hy
    simp only [addR] at hy
    split at hy
    · rename_i he
      rcases List.mem_cons.1 hy with rfl | hy
      · exact ho z (by simp) he
      · exact h y (by simp [hy])
    · split at hy
      · rcases List.mem_cons.1 hy with rfl | hy
        · exact hn
        · exact h y hy
      · rcases List.mem_cons.1 hy with rfl | hy
        · exact h y (by simp)
        · exact ih (fun u hu => h u (by simp [hu])) (fun u hu => ho u (by simp [hu])) y hy
theorem addR_up {m : List Nd} (h : m.Pairwise fun a b => a.1 < b.1) (x c : Int) : (addR m x c).Pairwise fun a b => a.1 < b.1 := by
  induction m with
  | nil => simp [addR]
  | cons z m ih =>
    obtain ⟨h1, h2⟩ := List.pairwise_cons.1 h
    simp only [addR]
    split
    · rename_i he
      exact List.pairwise_cons.2 ⟨fun y hy => by have := h1 y hy; simp only; omega, h2⟩
    · split
      · rename_i hlt
        refine List.pairwise_cons.2 ⟨fun y hy => ?_, h⟩
        rcases List.mem_cons.1 hy with rfl | hy
        · exact hlt
        · have := h1 y hy; simp only; omega
      · rename_i hne hge
        refine List.pairwise_cons.2 ⟨fun y hy => ?_, ih h2⟩
        rcases addR_mem hy with hy | hy
        · omega
        · exact h1 y hy
theorem BagL.add {l : Nat} {m : List Nd} (h : BagL l m) {x c : Int} (h0 : 0 ≤ x) (h1 : x < 2 ^ l) (hc : 1 ≤ c) (hs : sumR m + c ≤ 72057594037927935) : BagL l (addR m x c) :=
  ⟨addR_up h.up x c, addR_vals h.val ⟨h0, h1, hc⟩ fun y hy he => ⟨h0, h1, by have := (h.val y hy).2.2; simp only; omega⟩, by rw [sumR_add]; exact hs⟩
/-- What weighs from a value to another one. -/
def betwB : List Nd → Int → Int → Int
  | [], _, _ => 0
  | x :: m, a, b => (if a ≤ x.1 ∧ x.1 ≤ b then x.2 else 0) + betwB m a b
theorem betwB_append (a b : List Nd) (x y : Int) : betwB (a ++ b) x y = betwB a x y + betwB b x y := by
  induction a with
  | nil => simp [betwB]
  | cons z a ih => simp only [List.cons_append, betwB, ih]; omega
theorem betwB_one (z : Nd) (x y : Int) : betwB [z] x y = if x ≤ z.1 ∧ z.1 ≤ y then z.2 else 0 := by simp [betwB]
theorem betwB_none {m : List Nd} {x y : Int} (h : ∀ z ∈ m, z.1 < x ∨ y < z.1) : betwB m x y = 0 := by
  induction m with
  | nil => rfl
  | cons z m ih =>
    simp only [betwB]
    have := h z (by simp)
    rw [if_neg (by omega), ih fun u hu => h u (by simp [hu])]; rfl
theorem betwB_all {m : List Nd} {x y : Int} (h : ∀ z ∈ m, x ≤ z.1 ∧ z.1 ≤ y) : betwB m x y = sumR m := by
  induction m with
  | nil => rfl
  | cons z m ih =>
    simp only [betwB, sumR]
    rw [if_pos (h z (by simp)), ih fun u hu => h u (by simp [hu])]
theorem betwB_le {m : List Nd} (h : ∀ z ∈ m, 1 ≤ z.2) (x y : Int) : 0 ≤ betwB m x y ∧ betwB m x y ≤ sumR m := by
  induction m with
  | nil => simp [betwB, sumR]
  | cons z m ih =>
    have := ih fun u hu => h u (by simp [hu])
    have := h z (by simp)
    simp only [betwB, sumR]
    split <;> omega
/-- Where the values that are at least one begin; where those that are greater begin. -/
structure CutAt (m : List Nd) (p : Int → Prop) (i : Nat) : Prop where
  le : i ≤ m.length
  ahead : ∀ z ∈ m.take i, ¬ p z.1
  behind : ∀ z ∈ m.drop i, p z.1
theorem betwB_cut {m : List Nd} {x y : Int} {i k : Nat} (h : CutAt m (fun v => x ≤ v) i) (g : CutAt m (fun v => y < v) k) : betwB m x y = sumR ((m.take k).drop i) := by
  have e1 : m = m.take i ++ m.drop i := (List.take_append_drop i m).symm
  have e2 : m.drop i = (m.drop i).take (k - i) ++ (m.drop i).drop (k - i) := (List.take_append_drop _ _).symm
  have e3 : (m.take k).drop i = (m.drop i).take (k - i) := by rw [List.drop_take]
  rw [e3]
  conv => lhs; rw [e1, betwB_append, e2, betwB_append]
  rw [betwB_none (m := m.take i) fun z hz => .inl (by have := h.ahead z hz; omega)]
  rw [betwB_none (m := (m.drop i).drop (k - i)) fun z hz => .inr (by
    refine g.behind z ?_
    rw [List.drop_drop] at hz
    by_cases hki : i ≤ k
    · rwa [show i + (k - i) = k by omega] at hz
    · rw [show i + (k - i) = k + (i - k) by omega, ← List.drop_drop] at hz
      exact List.mem_of_mem_drop hz)]
  rw [betwB_all (m := (m.drop i).take (k - i)) fun z hz => ⟨h.behind z (List.mem_of_mem_take hz), by
    have : z ∈ m.take k := by
      rw [← e3] at hz
      exact List.mem_of_mem_drop hz
    have := g.ahead z this; omega⟩]
  omega
theorem take_drop_succ {m : List Nd} {i j k : Nat} (hij : i ≤ j) (hjk : j < k) (hk : k ≤ m.length) : sumR ((m.take (j + 1)).drop i) = sumR ((m.take j).drop i) + (m[j]'(by omega)).2 := by
  rw [List.take_succ_eq_append_getElem (by omega), List.drop_append_of_le_length (by rw [List.length_take]; omega), sumR_append]
  simp [sumR]
/-- A bag's items, as leaves. -/
def leaves (l : Nat) (m : List Nd) : List Nd := m.map fun x => (2 ^ l + x.1, x.2)
theorem leaves_roll {l : Nat} {m : List Nd} (h : BagL l m) : Roll (leaves l m) := by
  have := pow_pos' l
  refine ⟨?_, fun x hx => ?_⟩
  · unfold leaves
    rw [List.pairwise_map]
    exact h.up.imp fun {a b} hab => by simp only; omega
  · obtain ⟨y, hy, rfl⟩ := List.mem_map.1 hx
    have := h.val y hy
    simp only; omega
theorem leaves_sum (l : Nat) (m : List Nd) : sumR (leaves l m) = sumR m := by
  induction m with
  | nil => rfl
  | cons x m ih => simp only [leaves, List.map_cons, sumR] at ih ⊢; rw [ih]
theorem leaves_add (l : Nat) (m : List Nd) (x c : Int) : leaves l (addR m x c) = addR (leaves l m) (2 ^ l + x) c := by
  induction m with
  | nil => rfl
  | cons z m ih =>
    simp only [addR, leaves, List.map_cons] at ih ⊢
    by_cases h1 : z.1 = x
    · rw [if_pos h1, if_pos (show (2 : Int) ^ l + z.1 = 2 ^ l + x by omega)]; simp
    · rw [if_neg h1, if_neg (show ¬ (2 : Int) ^ l + z.1 = 2 ^ l + x by omega)]
      by_cases h2 : x < z.1
      · rw [if_pos h2, if_pos (show (2 : Int) ^ l + x < 2 ^ l + z.1 by omega)]; simp
      · rw [if_neg h2, if_neg (show ¬ (2 : Int) ^ l + x < 2 ^ l + z.1 by omega)]; simp [ih]
theorem leaves_node {l : Nat} (hl : 1 ≤ l ∧ l ≤ 48) {m : List Nd} (h : BagL l m) : ∀ x ∈ leaves l m, isNode l x.1 = true := by
  intro x hx
  obtain ⟨y, hy, rfl⟩ := List.mem_map.1 hx
  have := h.val y hy
  exact (leaf_node hl this.1 this.2.1).1
theorem leaves_betw {l : Nat} (hl : 1 ≤ l ∧ l ≤ 48) : ∀ {m : List Nd}, (∀ x ∈ m, 0 ≤ x.1 ∧ x.1 < 2 ^ l) → ∀ (a b : Int), bagB l (leaves l m) a b = betwB m a b := by
  intro m
  induction m with
  | nil => intro _ a b; rfl
  | cons x m ih =>
    intro h a b
    have hx := h x (by simp)
    obtain ⟨n1, n2, n3⟩ := leaf_node hl hx.1 hx.2
    have := ih (fun y hy => h y (by simp [hy])) a b
    simp only [bagB, leaves, List.map_cons, weighR, betwB] at this ⊢
    rw [this]
    congr 1
    unfold loN at n2; unfold hiN at n3
    simp only [n2, n3, inLow, Bool.and_eq_true, decide_eq_true_eq]
theorem leaves_rank {l : Nat} (hl : 1 ≤ l ∧ l ≤ 48) : ∀ {m : List Nd}, (∀ x ∈ m, 0 ≤ x.1 ∧ x.1 < 2 ^ l) → ∀ (y : Int), rankQ l (leaves l m) y = betwB m 0 y := by
  intro m
  induction m with
  | nil => intro _ y; rfl
  | cons x m ih =>
    intro h y
    have hx := h x (by simp)
    obtain ⟨n1, n2, n3⟩ := leaf_node hl hx.1 hx.2
    have := ih (fun y hy => h y (by simp [hy])) y
    simp only [rankQ, lowOf, leaves, List.map_cons, weighR, betwB] at this ⊢
    rw [this]
    congr 1
    unfold hiN at n3
    simp only [n3, decide_eq_true_eq]
    by_cases h1 : x.1 ≤ y
    · rw [if_pos h1, if_pos ⟨hx.1, h1⟩]
    · rw [if_neg h1, if_neg (by omega)]
/-- The least one of those that have more than they hold, and how much; 0, 0: there is none. -/
def culIs (f : Int → Int) (L : List Int) (r : Int × Int) : Prop := (r = (0, 0) ∧ ∀ x ∈ L, f x ≤ 0) ∨ (r.1 ∈ L ∧ r.2 = f r.1 ∧ 0 < f r.1 ∧ ∀ x ∈ L, 0 < f x → r.1 ≤ x)
theorem culIs_unique {f : Int → Int} {L M : List Int} (hm : ∀ x, x ∈ L ↔ x ∈ M) {r s : Int × Int} (h : culIs f L r) (k : culIs f M s) : r = s := by
  rcases h with ⟨h1, h2⟩ | ⟨h1, h2, h3, h4⟩ <;> rcases k with ⟨k1, k2⟩ | ⟨k1, k2, k3, k4⟩
  · rw [h1, k1]
  · have := h2 _ ((hm _).2 k1); omega
  · have := k2 _ ((hm _).1 h1); omega
  · have e : r.1 = s.1 := by
      have := h4 _ ((hm _).2 k1) k3
      have := k4 _ ((hm _).1 h1) h3
      omega
    exact Prod.ext e (by rw [h2, k2, e])
theorem culIs_snoc {f : Int → Int} {L : List Int} {r : Int × Int} (h : culIs f L r) (hp : ∀ x ∈ L, 1 ≤ x) {x : Int} (hx : 1 ≤ x) : culIs f (L ++ [x]) (if 0 < f x ∧ (r.1 = 0 ∨ x < r.1) then (x, f x) else r) := by
  rcases h with ⟨h1, h2⟩ | ⟨h1, h2, h3, h4⟩
  · subst h1
    by_cases hf : 0 < f x
    · rw [if_pos ⟨hf, .inl rfl⟩]
      refine .inr ⟨by simp, rfl, hf, fun y hy hyf => ?_⟩
      rcases List.mem_append.1 hy with hy | hy
      · have := h2 y hy; omega
      · rw [List.mem_singleton.1 hy]; exact Int.le_refl _
    · rw [if_neg (by omega)]
      refine .inl ⟨rfl, fun y hy => ?_⟩
      rcases List.mem_append.1 hy with hy | hy
      · exact h2 y hy
      · rw [List.mem_singleton.1 hy]; omega
  · have hr := hp _ h1
    by_cases hf : 0 < f x ∧ (r.1 = 0 ∨ x < r.1)
    · rw [if_pos hf]
      refine .inr ⟨by simp, rfl, hf.1, fun y hy hyf => ?_⟩
      rcases List.mem_append.1 hy with hy | hy
      · have := h4 y hy hyf; simp only; omega
      · rw [List.mem_singleton.1 hy]; exact Int.le_refl _
    · rw [if_neg hf]
      refine .inr ⟨List.mem_append_left _ h1, h2, h3, fun y hy hyf => ?_⟩
      rcases List.mem_append.1 hy with hy | hy
      · exact h4 y hy hyf
      · rw [List.mem_singleton.1 hy] at hyf ⊢; omega
/-- Looking through rising numbers, till the first that has more. -/
theorem culIs_first {f : Int → Int} {L : List Int} (hs : L.Pairwise (· ≤ ·)) {k : Nat} (hk : k < L.length) (h0 : ∀ x ∈ L.take k, f x ≤ 0) (h1 : 0 < f L[k]) : culIs f L (L[k], f L[k]) := by
  refine .inr ⟨List.getElem_mem hk, rfl, h1, fun x hx hf => ?_⟩
  obtain ⟨j, hj, rfl⟩ := List.getElem_of_mem hx
  by_cases hjk : j < k
  · have : L[j] ∈ L.take k := by
      rw [List.mem_take_iff_getElem]
      exact ⟨j, by omega, rfl⟩
    have := h0 _ this
    omega
  · rcases Nat.lt_or_ge k j with h | h
    · exact List.pairwise_iff_getElem.1 hs k j hk hj h
    · obtain rfl : j = k := by omega
      exact Int.le_refl _
theorem culIs_none {f : Int → Int} {L : List Int} (h : ∀ x ∈ L, f x ≤ 0) : culIs f L (0, 0) := .inl ⟨rfl, h⟩
end Go.Proofs.YtajhjbiokbgebaaGreat
/- A slice of the call's own, sorted by slices.SortFunc. -/
namespace Go.Proofs.YtajhjbiokbgebaaGreat
open Go.ChangeShapes Go.WideShapes Go.ChangeAt Go.RowKit
set_option linter.unusedVariables false

section
variable {α : Type} [Inhabited α] {size : Nat}
/-- The cells of a list, one behind the other, as the kit has them. -/
theorem flatK_get (E : Enc α size) (l : List α) (j : Nat) (h : j < l.length * size) : (Go.Sort.flatK E.enc size l.toArray)[j]! = (l.flatMap E.enc)[j]! ∧ (l.flatMap E.enc)[j]? = some (Go.Sort.flatK E.enc size l.toArray)[j]! := by
  have hs : 0 < size := Nat.pos_of_ne_zero (by rintro rfl; simp at h)
  have hk : j / size < l.length := Nat.div_lt_of_lt_mul (by rwa [Nat.mul_comm] at h)
  have hq : j % size < size := Nat.mod_lt _ hs
  have e := Go.Sort.get_flatK E.enc size l.toArray j (by simpa using h)
  have hx : l[j / size]? = some l[j / size] := List.getElem?_eq_getElem hk
  have hu : (E.enc l[j / size])[j % size]? = some (E.enc l[j / size])[j % size]! := by
    rw [getElem!_pos _ _ (by rw [E.len]; exact hq)]
    exact List.getElem?_eq_getElem _
  have hj : j / size * size + j % size = j := by rw [Nat.mul_comm]; exact Nat.div_add_mod j size
  have := flat_get E l (j / size) (j % size) _ _ hx hu
  rw [hj] at this
  have e2 : l.toArray[j / size]! = l[j / size] := by
    rw [getElem!_pos _ _ (by simpa using hk)]; simp
  rw [e2] at e
  rw [e, this]
  exact ⟨by rw [getElem!_pos _ j (List.getElem?_eq_some_iff.1 this).1]; exact (List.getElem?_eq_some_iff.1 this).2.symm, rfl⟩
theorem Own.holdsK {w : World} {base e : Nat} {E : Enc α size} {g off cap : Nat} {l : List α} (h : Own w base e E (.slice (some ⟨g, off, none⟩) l.length cap) l) : Go.Sort.HoldsK E.enc size w g off l.toArray := by
  intro j hj
  have hj : j < l.length * size := by simpa using hj
  rcases h with ⟨h, _⟩ | ⟨g', off', cap', cur, hv, hb, hh, h1, h2, h3, hc⟩
  · cases h
  · injection hv with hv _ _
    injection hv with hv
    injection hv with e1 e2
    subst e1 e2
    have h4 := (flatK_get E l j hj).2
    rw [blk_cell hh, blk_frozen hh]
    exact ⟨hc j _ h4, rfl⟩
theorem Own.sorted {w : World} {base e : Nat} {E : Enc α size} {g off cap : Nat} {l : List α} (h : Own w base e E (.slice (some ⟨g, off, none⟩) l.length cap) l) (d : Array α) (hd : d.size = l.length) (n : Nat) (os : Array Obj) :
    Own (Go.Proofs.sortWorldK E.enc size w g off n d os) base e E (.slice (some ⟨g, off, none⟩) l.length cap) d.toList ∧ Turn (fun b => b = g) w (Go.Proofs.sortWorldK E.enc size w g off n d os) := by
  have hl : d.toList.length = l.length := by simpa using hd
  rcases h with ⟨h, _⟩ | ⟨g', off', cap', cur, hv, hb, hh, h1, h2, h3, hc⟩
  · cases h
  · injection hv with hv _ hcap
    injection hv with hv
    injection hv with e1 e2
    subst e1 e2 hcap
    have hlt : g < w.heap.size := lt_of_block hh
    have hg : (Go.Proofs.sortWorldK E.enc size w g off n d os).heap[g]? = some (.cells (Go.Sort.putCells id off (Go.Sort.flatK E.enc size d) cur) e (0, 0)) := by
      unfold Go.Proofs.sortWorldK
      rw [Go.Sort.heap_grow_old _ _ (by simp [Go.Sort.putRowK]; exact hlt)]
      simp [Go.Sort.putRowK, Go.Sort.putRow, Go.Sort.mapBlock, Array.getElem?_modify, Go.Sort.onCells, hh]
    refine ⟨.inr ⟨g, off, cap, _, by rw [hl], hb, hg, by omega, h2, by simpa [Go.Sort.putCells] using h3, fun j u hj => ?_⟩, ⟨rfl, rfl, rfl, ?_, fun b hlb hn => ?_⟩⟩
    · have hjl : j < d.toList.length * size := by rw [← flat_len E]; exact (List.getElem?_eq_some_iff.1 hj).1
      have h4 := (flatK_get E d.toList j hjl).2
      rw [hj] at h4
      have hle : l.length * size ≤ cap * size := Nat.mul_le_mul_right _ h1
      rw [hl] at hjl
      have hcur : cur[off + j]? = some cur[off + j] := Array.getElem?_eq_getElem (by omega)
      simp only [Go.Sort.putCells, Array.getElem?_mapIdx, hcur, Option.map_some]
      rw [if_pos ⟨by omega, by simp [hd]; omega⟩, h4]
      simp
    · unfold Go.Proofs.sortWorldK
      simp [Go.Sort.putRowK]
    · unfold Go.Proofs.sortWorldK
      rw [Go.Sort.heap_grow_old _ _ (by simp [Go.Sort.putRowK]; exact hlb)]
      simp only [Go.Sort.putRowK, Go.Sort.putRow, Go.Sort.mapBlock, Array.getElem?_modify]
      rw [if_neg (by intro h; exact hn h.symm)]
      rfl
theorem perm_of_in {d d' : Array α} (h : Go.Sort.PermIn 0 d.size d d') : d'.toList.Perm d.toList := by
  have e1 : (d.extract 0 d.size).toList = d.toList := by simp
  have e2 : (d'.extract 0 d.size).toList = d'.toList := by rw [← h.1]; simp
  rw [← e1, ← e2]
  exact h.2.2
theorem pairwise_of_in {lt : α → α → Bool} {d : Array α} {n : Nat} (hn : n = d.size) (h : Go.Sort.SortedIn lt 0 n d) : d.toList.Pairwise fun a b => lt b a = false := by
  rw [List.pairwise_iff_getElem]
  intro i j hi hj hij
  have hj' : j < d.size := by simpa using hj
  have := h i j (Nat.zero_le _) hij (by omega)
  rw [getElem!_pos d j hj', getElem!_pos d i (by omega)] at this
  simpa using this
/-- slices.SortFunc on a slice of the call's own. -/
def SortPost {w : World} (base e : Nat) (E : Enc α size) (v : Value) (lt : α → α → Bool) (l : List α) (w : World) (en : Ending) (w' : World) : Prop :=
  en = .returned (.tuple #[]) ∧ ∃ l' : List α, l'.Perm l ∧ l'.Pairwise (fun a b => lt b a = false) ∧ Own w' base e E v l' ∧ Turn (fun b => v.ownBlock = some b) w w'
theorem sortFunc_own {P : Program} {ρ : Go.Shelf.Ren} (L : Go.Proofs.SlLaysF0.n6 P ρ) (E : Enc α size) (aE : ∀ w, (isAgg (ρ.t 24)).run P w = .ok true w) (zE : ∀ w, (Go.sizeOf (ρ.t 24)).run P w = .ok size w) (cf : α → α → Int) (hO : Go.Sort.SWO (Go.Proofs.ltOf cf))
    (g : Nat) (cb : Array Value) (eg : ∀ args w, (callFunc g args).run P w = .ok (.enter g args) w) (w : World) (base e : Nat) (v : Value) (l : List α) (ho : Own w base e E v l) (hl : l.length < 4611686018427387904)
    (hcmp : ∀ W, Turn (fun b => v.ownBlock = some b) w W → ∀ x y : α, Calls P g (#[.agg (E.enc x).toArray, .agg (E.enc y).toArray] ++ cb) W fun e W' => e = .returned (.int .i64 (cf x y)) ∧ ∃ q os', W' = Go.Sort.grow (W.drewN q) os') :
    Calls P (ρ.f 6) #[v, .func (.func g) #[] cb] w (SortPost (w := w) base e E v (Go.Proofs.ltOf cf) l w) := by
  have ho' := ho
  rcases ho' with ⟨rfl, rfl⟩ | ⟨b, off, cap, cur, rfl, hb, hh, h1, h2, h3, hc⟩
  · refine (Go.Proofs.AnyF.slices_SortFunc_none L none 0 (.func (.func g) #[] cb) w).mono ?_
    rintro e' w' ⟨rfl, rfl⟩
    exact ⟨rfl, [], .refl _, .nil, ho, Turn.refl _ _⟩
  · have hC : Go.Proofs.CmpLays P g cb E.enc size cf b off l.toArray.size w := fun m os dk hs x y => hcmp _ (((ho.sorted dk (by simpa using hs) m os).2).mono fun c _ h => by subst h; rfl) x y
    refine (Go.Proofs.AnyQ.slices_SortFunc L size aE zE E.enc E.len E.one cf hO g cb b off cap l.toArray w eg hC ho.holdsK (lt_of_block hh) (by simpa using hl)).mono ?_
    rintro e' w' ⟨rfl, d', n, os, hp, hs, rfl⟩
    have hsz : d'.size = l.length := by simpa using hp.1
    obtain ⟨o1, o2⟩ := ho.sorted d' hsz n os
    refine ⟨rfl, d'.toList, by simpa using perm_of_in hp, pairwise_of_in (by simp [hsz]) hs, o1, o2.mono fun c _ h => by subst h; rfl⟩
end
end Go.Proofs.YtajhjbiokbgebaaGreat
/- Sums of weights up to numbers: the plain law. -/
namespace Go.Proofs.YtajhjbiokbgebaaGreat
open Go.ChangeShapes Go.WideShapes Go.ChangeAt Go.RowKit
set_option linter.unusedVariables false

/-- What weighs up to a number. -/
def wUp : List Nd → Int → Int
  | [], _ => 0
  | y :: l, x => (if y.1 ≤ x then y.2 else 0) + wUp l x
theorem wUp_append (a b : List Nd) (x : Int) : wUp (a ++ b) x = wUp a x + wUp b x := by
  induction a with
  | nil => simp [wUp]
  | cons y a ih => simp only [List.cons_append, wUp, ih]; omega
theorem wUp_perm {a b : List Nd} (h : a.Perm b) (x : Int) : wUp a x = wUp b x := by
  induction h with
  | nil => rfl
  | cons y _ ih => simp only [wUp, ih]
  | swap y z l => simp only [wUp]; omega
  | trans _ _ h1 h2 => exact h1.trans h2
theorem wUp_all {l : List Nd} {x : Int} (h : ∀ y ∈ l, y.1 ≤ x) : wUp l x = sumR l := by
  induction l with
  | nil => rfl
  | cons y l ih =>
    simp only [wUp, sumR]
    rw [if_pos (h y (by simp)), ih fun z hz => h z (by simp [hz])]
theorem wUp_none {l : List Nd} {x : Int} (h : ∀ y ∈ l, x < y.1) : wUp l x = 0 := by
  induction l with
  | nil => rfl
  | cons y l ih =>
    simp only [wUp]
    have := h y (by simp)
    rw [if_neg (by omega), ih fun z hz => h z (by simp [hz])]; rfl
theorem wUp_same {l : List Nd} {x z : Int} (h : ∀ y ∈ l, (y.1 ≤ x ↔ y.1 ≤ z)) : wUp l x = wUp l z := by
  induction l with
  | nil => rfl
  | cons y l ih =>
    simp only [wUp]
    have h1 := h y (by simp)
    rw [ih fun z hz => h z (by simp [hz])]
    congr 1
    by_cases h2 : y.1 ≤ x
    · rw [if_pos h2, if_pos (h1.1 h2)]
    · rw [if_neg h2, if_neg (fun h => h2 (h1.2 h))]
theorem sumR_perm {a b : List Nd} (h : a.Perm b) : sumR a = sumR b := by
  induction h with
  | nil => rfl
  | cons y _ ih => simp only [sumR, ih]
  | swap y z l => simp only [sumR]; omega
  | trans _ _ h1 h2 => exact h1.trans h2

/-- A table of numbers, rising, and of what weighs up to each. -/
structure Tab (l t : List Nd) : Prop where
  rise : t.Pairwise fun a b => a.1 < b.1
  up : ∀ z ∈ t, z.2 = wUp l z.1
  all : ∀ y ∈ l, ∃ z ∈ t, z.1 = y.1
  of : ∀ z ∈ t, ∃ y ∈ l, y.1 = z.1
theorem Tab.perm {l l' t : List Nd} (h : Tab l t) (hp : l.Perm l') : Tab l' t :=
  ⟨h.rise, fun z hz => (h.up z hz).trans (wUp_perm hp _), fun y hy => h.all y (hp.mem_iff.2 hy), fun z hz => by obtain ⟨y, hy, e⟩ := h.of z hz; exact ⟨y, hp.mem_iff.1 hy, e⟩⟩
theorem Tab.nil : Tab [] [] := ⟨.nil, by simp, by simp, by simp⟩
/-- One number more, which isn't less than those ahead: it stands already, or not. -/
theorem Tab.same {p t : List Nd} {y : Nd} {s : Int} (h : Tab p (t ++ [(y.1, s)])) (hy : ∀ z ∈ p, z.1 ≤ y.1) : Tab (p ++ [y]) (t ++ [(y.1, sumR p + y.2)]) := by
  have hr := List.pairwise_append.1 h.rise
  refine ⟨List.pairwise_append.2 ⟨hr.1, List.pairwise_singleton _ _, fun a ha b hb => ?_⟩, fun z hz => ?_, fun z hz => ?_, fun z hz => ?_⟩
  · simp at hb; subst hb; exact hr.2.2 a ha (y.1, s) (by simp)
  · rw [wUp_append]
    rcases List.mem_append.1 hz with hz | hz
    · have h1 := hr.2.2 z hz (y.1, s) (by simp)
      have h2 := h.up z (List.mem_append_left _ hz)
      simp only at h1
      simp only [wUp]
      rw [if_neg (by omega)]; omega
    · simp at hz; subst hz
      simp only [wUp, wUp_all hy]
      simp
  · rcases List.mem_append.1 hz with hz | hz
    · obtain ⟨u, hu, e⟩ := h.all z hz
      rcases List.mem_append.1 hu with hu | hu
      · exact ⟨u, List.mem_append_left _ hu, e⟩
      · simp at hu; subst hu; exact ⟨(y.1, sumR p + y.2), by simp, e⟩
    · simp at hz; subst hz; exact ⟨(z.1, sumR p + z.2), by simp, rfl⟩
  · rcases List.mem_append.1 hz with hz | hz
    · obtain ⟨u, hu, e⟩ := h.of z (List.mem_append_left _ hz)
      exact ⟨u, List.mem_append_left _ hu, e⟩
    · simp at hz; subst hz; exact ⟨y, by simp, rfl⟩
theorem Tab.more {p t : List Nd} {y : Nd} (h : Tab p t) (hy : ∀ z ∈ p, z.1 ≤ y.1) (hn : ∀ z ∈ t, z.1 ≠ y.1) : Tab (p ++ [y]) (t ++ [(y.1, sumR p + y.2)]) := by
  have hlt : ∀ z ∈ t, z.1 < y.1 := fun z hz => by
    obtain ⟨u, hu, e⟩ := h.of z hz
    have := hy u hu
    have := hn z hz
    omega
  refine ⟨List.pairwise_append.2 ⟨h.rise, List.pairwise_singleton _ _, fun a ha b hb => ?_⟩, fun z hz => ?_, fun z hz => ?_, fun z hz => ?_⟩
  · simp at hb; subst hb; exact hlt a ha
  · rw [wUp_append]
    rcases List.mem_append.1 hz with hz | hz
    · have h1 := hlt z hz
      have h2 := h.up z hz
      simp only [wUp]
      rw [if_neg (by omega)]; omega
    · simp at hz; subst hz
      simp only [wUp, wUp_all hy]
      simp
  · rcases List.mem_append.1 hz with hz | hz
    · obtain ⟨u, hu, e⟩ := h.all z hz
      exact ⟨u, List.mem_append_left _ hu, e⟩
    · simp at hz; subst hz; exact ⟨(z.1, sumR p + z.2), by simp, rfl⟩
  · rcases List.mem_append.1 hz with hz | hz
    · obtain ⟨u, hu, e⟩ := h.of z hz
      exact ⟨u, List.mem_append_left _ hu, e⟩
    · simp at hz; subst hz; exact ⟨y, by simp, rfl⟩
/-- The last one of a table is the greatest: others aren't it. -/
theorem Tab.last_ne {p t : List Nd} {a : Nd} {y : Nd} (h : Tab p (t ++ [a])) (hy : ∀ z ∈ p, z.1 ≤ y.1) (hn : a.1 ≠ y.1) : ∀ z ∈ t ++ [a], z.1 ≠ y.1 := by
  have hr := List.pairwise_append.1 h.rise
  intro z hz
  rcases List.mem_append.1 hz with hz | hz
  · have h1 := hr.2.2 z hz a (by simp)
    obtain ⟨u, hu, e⟩ := h.of a (by simp)
    have := hy u hu
    omega
  · simp at hz; subst hz; exact hn

theorem count_boundary (p : Nat → Bool) (k : Nat) : ∀ n, k ≤ n → (∀ i, i < k → p i = true) → (∀ i, k ≤ i → i < n → p i = false) → (List.range n).countP p = k
  | 0, hk, _, _ => by have : k = 0 := by omega
                      subst this; rfl
  | n + 1, hk, h1, h2 => by
    rw [List.range_succ, List.countP_append]
    by_cases h : k = n + 1
    · subst h
      rw [count_boundary p n n (Nat.le_refl _) (fun i hi => h1 i (by omega)) (fun i h3 h4 => by omega)]
      simp [h1 n (by omega)]
    · rw [count_boundary p k n (by omega) h1 fun i h3 h4 => h2 i h3 (by omega)]
      simp [h2 n (by omega) (by omega)]
/-- Where numbers that rise go beyond one. -/
theorem rise_boundary {t : List Nd} (h : t.Pairwise fun a b => a.1 < b.1) (x : Int) : ∃ k, k ≤ t.length ∧ (∀ i (hi : i < t.length), i < k → t[i].1 ≤ x) ∧ ∀ i (hi : i < t.length), k ≤ i → x < t[i].1 := by
  induction t with
  | nil => exact ⟨0, Nat.le_refl _, fun i hi => absurd hi (Nat.not_lt_zero _), fun i hi => absurd hi (Nat.not_lt_zero _)⟩
  | cons a t ih =>
    obtain ⟨h1, h2⟩ := List.pairwise_cons.1 h
    obtain ⟨k, hk, h3, h4⟩ := ih h2
    by_cases ha : a.1 ≤ x
    · refine ⟨k + 1, by simp; omega, fun i hi hlt => ?_, fun i hi hle => ?_⟩
      · cases i with
        | zero => exact ha
        | succ i => exact h3 i (by simpa using hi) (by omega)
      · cases i with
        | zero => omega
        | succ i => exact h4 i (by simpa using hi) (by omega)
    · refine ⟨0, Nat.zero_le _, fun i hi hlt => by omega, fun i hi _ => ?_⟩
      cases i with
      | zero => simp; omega
      | succ i =>
        have hi' : i < t.length := by simpa using hi
        have := h1 t[i] (List.getElem_mem hi')
        simp only [List.getElem_cons_succ]; omega
/-- How many numbers of a table aren't above one. -/
def atMost (t : List Nd) (x : Int) : Nat := (List.range t.length).countP fun i => !decide (x < (t.getD i (0, 0)).1)
theorem atMost_le (t : List Nd) (x : Int) : atMost t x ≤ t.length := by
  have := List.countP_le_length (p := fun i => !decide (x < (t.getD i (0, 0)).1)) (l := List.range t.length)
  simpa [atMost] using this
theorem getD_at {t : List Nd} {i : Nat} (hi : i < t.length) : t.getD i (0, 0) = t[i] := by rw [List.getD_eq_getElem?_getD, List.getElem?_eq_getElem hi]; rfl
theorem atMost_boundary {t : List Nd} (h : t.Pairwise fun a b => a.1 < b.1) (x : Int) : (∀ i (hi : i < t.length), i < atMost t x → t[i].1 ≤ x) ∧ ∀ i (hi : i < t.length), atMost t x ≤ i → x < t[i].1 := by
  obtain ⟨k, hk, h1, h2⟩ := rise_boundary h x
  have e : atMost t x = k := by
    refine count_boundary _ k _ hk (fun i hi => ?_) (fun i h3 h4 => ?_)
    · have := h1 i (by omega) hi
      rw [getD_at (by omega)]; simp; omega
    · have := h2 i h4 h3
      rw [getD_at h4]; simp; omega
  rw [e]
  exact ⟨h1, h2⟩
theorem Tab.none {l t : List Nd} (h : Tab l t) {x : Int} (h0 : atMost t x = 0) : wUp l x = 0 := by
  have hb := (atMost_boundary h.rise x).2
  rw [h0] at hb
  refine wUp_none fun y hy => ?_
  obtain ⟨z, hz, e⟩ := h.all y hy
  obtain ⟨i, hi, rfl⟩ := List.getElem_of_mem hz
  have := hb i hi (Nat.zero_le _)
  omega
theorem Tab.some {l t : List Nd} (h : Tab l t) {x : Int} (h0 : atMost t x ≠ 0) (hi : atMost t x - 1 < t.length) : t[atMost t x - 1].2 = wUp l x := by
  have hb := atMost_boundary h.rise x
  rw [h.up _ (List.getElem_mem hi)]
  refine wUp_same fun y hy => ?_
  obtain ⟨z, hz, e⟩ := h.all y hy
  obtain ⟨i, hi2, rfl⟩ := List.getElem_of_mem hz
  have h1 := hb.1 _ hi (by omega)
  constructor
  · intro h2; omega
  · intro h2
    by_cases h3 : i < atMost t x
    · rcases Nat.lt_or_ge i (atMost t x - 1) with h4 | h4
      · have := List.pairwise_iff_getElem.1 h.rise i (atMost t x - 1) hi2 hi h4; omega
      · obtain rfl : i = atMost t x - 1 := by omega
        omega
    · have := hb.2 i hi2 (by omega); omega
end Go.Proofs.YtajhjbiokbgebaaGreat
/- Package rank: made: the sums of readings. -/
namespace Go.Proofs.YtajhjbiokbgebaaGreat
open Go.ChangeShapes Go.WideShapes Go.ChangeAt Go.RowKit
set_option linter.unusedVariables false
set_option maxRecDepth 100000

/-- A reading that may be. -/
abbrev Rdg := { x : Nd // 0 ≤ x.1 ∧ x.1 ≤ 281474976710655 }
instance : Inhabited Rdg := ⟨⟨(0, 0), by decide⟩⟩
def encQ : Enc Rdg 2 := ⟨fun x => [.int .i64 x.1.1, .int .i64 x.1.2], fun _ => rfl, by intro x u hu; simp at hu; rcases hu with rfl | rfl <;> rfl⟩
theorem flat_Q (l : List Rdg) : l.flatMap encQ.enc = (l.map (·.1)).flatMap encN.enc := by
  induction l with
  | nil => rfl
  | cons x l ih => rw [List.flatMap_cons, List.map_cons, List.flatMap_cons, ih]; rfl
theorem own_Q {w : World} {base e : Nat} {v : Value} {l : List Rdg} : Own w base e encQ v l ↔ Own w base e encN v (l.map (·.1)) := by
  unfold Own
  rw [flat_Q]
  simp
theorem made_cmp (W : World) (x y : Rdg) : Calls Tryz.prog 163 #[.agg #[.int .i64 x.1.1, .int .i64 x.1.2], .agg #[.int .i64 y.1.1, .int .i64 y.1.2]] W fun e W' => e = .returned (.int .i64 (x.1.1 - y.1.1)) ∧ ∃ q os', W' = Go.Sort.grow (W.drewN q) os' := by
  obtain ⟨x, hx1, hx2⟩ := x
  obtain ⟨y, hy1, hy2⟩ := y
  go_enter Tryz.func163, Tryz.ntmps163
  go_wp2_with fail
  go_ret
  refine ⟨rfl, 0, #[.cells #[.int .i64 x.1, .int .i64 x.2] 96, .cells #[.int .i64 y.1, .int .i64 y.2] 96], ?_⟩
  rw [Go.Sort.alloc_eq_grow, Go.Sort.alloc_eq_grow, Go.Sort.grow_grow]
  rfl
theorem swo_Q : Go.Sort.SWO (Go.Proofs.ltOf fun x y : Rdg => x.1.1 - y.1.1) where
  irrefl x := by simp [Go.Proofs.ltOf]
  trans x y z h1 h2 := by simp only [Go.Proofs.ltOf, decide_eq_true_eq] at *; omega
  ntrans x y z h1 h2 := by simp only [Go.Proofs.ltOf, decide_eq_false_iff_not] at *; omega
theorem enters_made : ∀ args W, (callFunc 163 args).run Tryz.prog W = .ok (.enter 163 args) W := enters_of Tryz.func163 (by kernel_rfl) rfl
theorem made_sort (w : World) (base : Nat) (v : Value) (l : List Nd) (ho : Own w base 96 encN v l) (hl : ∀ x ∈ l, 0 ≤ x.1 ∧ x.1 ≤ 281474976710655) (hm : l.length ≤ 67108864) :
    Calls Tryz.prog 162 #[v, .func (.func 163) #[] #[]] w fun en w' => en = .returned (.tuple #[]) ∧ ∃ l', l'.Perm l ∧ l'.Pairwise (fun a b => a.1 ≤ b.1) ∧ Own w' base 96 encN v l' ∧ Turn (fun b => v.ownBlock = some b) w w' := by
  obtain ⟨lq, rfl⟩ : ∃ lq : List Rdg, l = lq.map (·.1) := ⟨l.pmap (fun x h => ⟨x, h⟩) hl, by rw [List.map_pmap]; simp⟩
  have := sortFunc_own Tryz.sortReading encQ (by intro w; kernel_rfl) (by intro w; kernel_rfl) (fun x y : Rdg => x.1.1 - y.1.1) swo_Q 163 #[] enters_made w base 96 v lq (own_Q.2 ho) (by simp at hm; omega) (fun W _ x y => made_cmp W x y)
  refine Calls.mono this ?_
  rintro e w' ⟨rfl, l', hp, hs, ho', hT⟩
  refine ⟨rfl, l'.map (·.1), hp.map _, ?_, own_Q.1 ho', hT⟩
  rw [List.pairwise_map]
  exact hs.imp fun {a b} h => by simp only [Go.Proofs.ltOf, decide_eq_false_iff_not] at h; omega
/-- Two slices lie apart. -/
def Sep (u v : Value) : Prop := ∀ g, u.ownBlock = some g → v.ownBlock ≠ some g
theorem Sep.symm {u v : Value} (h : Sep u v) : Sep v u := fun g h1 h2 => h g h2 h1
theorem turn_then {F : Nat → Prop} {w wa w1 w' : World} (hA : Below w.heap.size w wa) (hT : Turn F wa w1) (hB : Below w.heap.size w1 w') : Turn F w w' :=
  ⟨hB.os.trans (hT.os.trans hA.os), hB.tape.trans (hT.tape.trans hA.tape), hB.output.trans (hT.output.trans hA.output), Nat.le_trans hA.size (Nat.le_trans hT.size hB.size), fun b hb hn => (hB.block b hb).trans ((hT.block b (Nat.lt_of_lt_of_le hb hA.size) hn).trans (hA.block b hb))⟩
/-- What made tells. -/
def MadePost (v : Value) (l : List Nd) (w : World) (e : Ending) (w' : World) : Prop :=
  ∃ t A1 c1 A2 c2, e = .returned (.agg #[.slice A1 t.length c1, .slice A2 t.length c2]) ∧ Tab l t ∧ t.length ≤ l.length ∧ Own w' w.heap.size 3 encZ (.slice A1 t.length c1) (t.map (·.1)) ∧ Own w' w.heap.size 3 encZ (.slice A2 t.length c2) (t.map (·.2)) ∧ Turn (fun b => v.ownBlock = some b) w w'
def sumsAt (w : World) (b : Nat) (v1 v2 : Value) : Prop := w.heap[b]? = some (.cells #[v1, v2] 139 (0, 0))
theorem sumsAt.ty {w : World} {b : Nat} {v1 v2 : Value} (h : sumsAt w b v1 v2) : TypeAt w b 139 := .of h
/-- Two lists that grow, and what stands beside them. -/
structure TwoSt (w : World) (base B b0 bs : Nat) (vl : Value) (ll : List Nd) (V1 V2 : Value) (W : World) (U1 : Value) (L1 : List Int) (U2 : Value) (L2 : List Int) : Prop where
  lst : Own W 0 96 encN vl ll
  sums : sumsAt W bs V1 V2
  zero : sumsAt W b0 (.slice none 0 0) (.slice none 0 0)
  own1 : Own W B 3 encZ U1 L1
  own2 : Own W B 3 encZ U2 L2
  sep : Sep U1 U2
  blw : Below base w W
  size : B ≤ W.heap.size
  h0 : b0 < bs
  h1 : bs < B
  hb0 : base ≤ b0
section
variable {w : World} {base B b0 bs : Nat} {vl : Value} {ll : List Nd} {V1 V2 : Value} {W W' : World} {U1 U1' : Value} {L1 L1' : List Int} {U2 U2' : Value} {L2 L2' : List Int}
theorem TwoSt.below (h : TwoSt w base B b0 bs vl ll V1 V2 W U1 L1 U2 L2) (hb : Below W.heap.size W W') : TwoSt w base B b0 bs vl ll V1 V2 W' U1 L1 U2 L2 :=
  ⟨h.lst.below hb, blk_below h.sums hb, blk_below h.zero hb, h.own1.below hb, h.own2.below hb, h.sep, h.blw.trans (hb.mono (by have := h.h0; have := h.h1; have := h.hb0; have := h.size; omega)), Nat.le_trans h.size hb.size, h.h0, h.h1, h.hb0⟩
theorem TwoSt.alloc (h : TwoSt w base B b0 bs vl ll V1 V2 W U1 L1 U2 L2) (o : Obj) : TwoSt w base B b0 bs vl ll V1 V2 (W.alloc o) U1 L1 U2 L2 := h.below ((Below.refl _ _).alloc (Nat.le_refl _) o)
theorem TwoSt.drew (h : TwoSt w base B b0 bs vl ll V1 V2 W U1 L1 U2 L2) : TwoSt w base B b0 bs vl ll V1 V2 W.drew U1 L1 U2 L2 := h.below (Below.refl _ _).drew
theorem TwoSt.app1 (h : TwoSt w base B b0 bs vl ll V1 V2 W U1 L1 U2 L2) (hg : W.grownBy W' U1.ownBlock) (ho : Own W' B 3 encZ U1' L1') (hl : U1'.ownBlock = U1.ownBlock ∨ U1'.ownBlock = some W.heap.size) (hb : Below B W W') :
    TwoSt w base B b0 bs vl ll V1 V2 W' U1' L1' U2 L2 :=
  ⟨h.lst.kept hg (own_ne h.lst h.own1 (by decide)), blk_grown h.sums h.own1 hg (by decide), blk_grown h.zero h.own1 hg (by decide), ho, h.own2.kept hg (by
    cases e : U2.ownBlock with
    | none => exact .inl rfl
    | some g => exact .inr fun he => h.sep g (by rw [← he]) e), fun g h1 h2 => by
      rcases hl with hl | hl
      · exact h.sep g (hl ▸ h1) h2
      · rw [hl] at h1; cases h1; exact absurd (h.own2.lt _ h2).2 (Nat.lt_irrefl _), h.blw.trans (hb.mono (by have := h.h0; have := h.h1; have := h.hb0; omega)), Nat.le_trans h.size hb.size, h.h0, h.h1, h.hb0⟩
theorem TwoSt.app2 (h : TwoSt w base B b0 bs vl ll V1 V2 W U1 L1 U2 L2) (hg : W.grownBy W' U2.ownBlock) (ho : Own W' B 3 encZ U2' L2') (hl : U2'.ownBlock = U2.ownBlock ∨ U2'.ownBlock = some W.heap.size) (hb : Below B W W') :
    TwoSt w base B b0 bs vl ll V1 V2 W' U1 L1 U2' L2' :=
  ⟨h.lst.kept hg (own_ne h.lst h.own2 (by decide)), blk_grown h.sums h.own2 hg (by decide), blk_grown h.zero h.own2 hg (by decide), h.own1.kept hg (by
    cases e : U1.ownBlock with
    | none => exact .inl rfl
    | some g => exact .inr fun he => h.sep g e (by rw [← he])), ho, fun g h1 h2 => by
      rcases hl with hl | hl
      · exact h.sep g h1 (hl ▸ h2)
      · rw [hl] at h2; cases h2; exact absurd (h.own1.lt _ h1).2 (Nat.lt_irrefl _), h.blw.trans (hb.mono (by have := h.h0; have := h.h1; have := h.hb0; omega)), Nat.le_trans h.size hb.size, h.h0, h.h1, h.hb0⟩
theorem TwoSt.st (h : TwoSt w base B b0 bs vl ll V1 V2 W U1 L1 U2 L2) : TwoSt w base B b0 bs vl ll U1 U2 ((W.setCell ⟨bs, 0, none⟩ U1).setCell ⟨bs, 1, none⟩ U2) U1 L1 U2 L2 :=
  have hbb : base ≤ bs := by have := h.h0; have := h.hb0; omega
  ⟨(h.lst.setCellT h.sums.ty (by decide)).setCellT h.sums.ty.setCell (by decide), heap_set_at (i := 1) (heap_set_at (i := 0) h.sums _) _,
    (Below.heap_setCell _ _ _ _ (by have := h.h0; simp only; omega)).trans ((Below.heap_setCell _ _ _ _ (by have := h.h0; simp only; omega)).trans h.zero),
    (h.own1.setCellB h.h1).setCellB h.h1, (h.own2.setCellB h.h1).setCellB h.h1, h.sep, (h.blw.setCell (p := ⟨bs, 0, none⟩) hbb _).setCell (p := ⟨bs, 1, none⟩) hbb _, by simp only [World.size_setCell]; exact h.size, h.h0, h.h1, h.hb0⟩
theorem Own.ty_at {α : Type} {size base e : Nat} {w : World} {E : Enc α size} {b off n cap : Nat} {l : List α} (h : Own w base e E (.slice (some ⟨b, off, none⟩) n cap) l) : TypeAt w b e := by
  rcases h with ⟨hv, _⟩ | ⟨g, o, c, cur, hv, _, hh, _⟩
  · cases hv
  · cases hv
    exact .of hh
theorem TwoSt.set2 {b o n c : Nat} (h : TwoSt w base B b0 bs vl ll V1 V2 W U1 L1 (.slice (some ⟨b, o, none⟩) n c) L2) (m : Nat) (hm : m < L2.length) (x : Int) :
    TwoSt w base B b0 bs vl ll V1 V2 (W.setCell ⟨b, o + m, none⟩ (.int .i64 x)) U1 L1 (.slice (some ⟨b, o, none⟩) n c) (L2.set m x) :=
  have hty := h.own2.ty_at
  have hbB : B ≤ b := (h.own2.lt b rfl).1
  ⟨h.lst.setCellT hty (by decide), (Below.heap_setCell _ _ _ _ (by have := h.h1; simp only; omega)).trans h.sums, (Below.heap_setCell _ _ _ _ (by have := h.h0; have := h.h1; simp only; omega)).trans h.zero,
    h.own1.setCell (fun he => h.sep b he rfl) _, by have := h.own2.setElem m 0 hm (by decide) (.int .i64 x) x rfl; simpa using this, h.sep, h.blw.setCell (p := ⟨b, o + m, none⟩) (by have := h.h0; have := h.h1; have := h.hb0; simp only; omega) _, by simp only [World.size_setCell]; exact h.size, h.h0, h.h1, h.hb0⟩
theorem set_last {t' : List Nd} {a : Nd} {m : Nat} (hm : m = t'.length) (z : Nd) : ((t' ++ [a]).map (·.2)).set m z.2 = (t' ++ [z]).map (·.2) := by
  subst hm
  rw [List.map_append, List.set_append_right _ _ (by simp)]
  simp
/-- An append leaves the cells of other blocks. -/
theorem grown_new {row : Option Nat} (hg : W.grownBy W' row) (z : Nat) (hz : ∀ g, row = some g → g < z) (b o : Nat) (h1 : z ≤ b) (h2 : b < W.heap.size) : W'.cell? ⟨b, o, none⟩ = W.cell? ⟨b, o, none⟩ :=
  grown_cell hg b h2 (by rintro rfl; have := hz b rfl; omega) o
end
theorem sl_cell {W : World} {b o : Nat} {x : Int} (h : W.cell? ⟨b, o, none⟩ = some (.int .i64 x)) (hb : b < W.heap.size) : Sl W W.heap.size encZ (some ⟨b, o, none⟩) [x] :=
  .inr ⟨b, o, rfl, hb, fun i y hi j u hj => by
    cases i with
    | succ i => simp at hi
    | zero =>
      simp at hi; subst hi
      cases j with
      | succ j => simp [encZ] at hj
      | zero => simp [encZ] at hj; subst hj; simpa using h⟩
theorem sum_part {l : List Nd} (h : ∀ z ∈ l, 1 ≤ z.2) {q : Nat} (hq : q < l.length) : 0 ≤ sumR (l.take q) ∧ sumR (l.take q) + l[q].2 ≤ sumR l := by
  induction l generalizing q with
  | nil => exact absurd hq (Nat.not_lt_zero _)
  | cons x l ih =>
    have hx := h x (by simp)
    cases q with
    | zero =>
      have : ∀ l : List Nd, (∀ z ∈ l, 1 ≤ z.2) → 0 ≤ sumR l := fun l => by
        intro hl
        induction l with
        | nil => simp [sumR]
        | cons y l ih2 => have := hl y (by simp); have := ih2 fun z hz => hl z (by simp [hz]); simp only [sumR]; omega
      have := this l fun z hz => h z (by simp [hz])
      simp [sumR]; omega
    | succ q =>
      have := ih (fun z hz => h z (by simp [hz])) (q := q) (by simpa using hq)
      simp only [List.take_succ_cons, sumR, List.getElem_cons_succ]; omega
end Go.Proofs.YtajhjbiokbgebaaGreat
/- A region that draws its order: loads are taken first under a condition S, which the operations in X, behind all of these loads, need not keep. -/
namespace Go.Proofs.YtajhjbiokbgebaaGreat
open Go.RowKit

section
variable {P : Program} {md : Region.Mode} {ops : Array Oper} {Q : Exit → Act → World → Prop} {S : World → Prop} {X : List Nat}
/-- Whatever order is picked from here on, and S holds behind every operation that isn't in X. -/
def wpAnyN (P : Program) (md : Region.Mode) (ops : Array Oper) (Q : Exit → Act → World → Prop) (S : World → Prop) (X : List Nat) : Nat → Array Bool → Act → World → Prop
  | 0, listed, a, w => Region.ready md ops listed = [] ∧ Q .normal a w
  | fuel + 1, listed, a, w =>
    (Region.ready md ops listed = [] → Q .normal a w) ∧
    ∀ i ∈ Region.ready md ops listed, wpOp P ops Q i (fun a' w' => (i ∉ X → S w → S w') ∧ wpAnyN P md ops Q S X fuel (listed.setIfInBounds i true) a' w') a w
theorem wpAny_of_N : ∀ (fuel : Nat) (listed : Array Bool) (a : Act) (w : World), wpAnyN P md ops Q S X fuel listed a w → wpAny P md ops Q fuel listed a w
  | 0, _, _, _, h => h
  | fuel + 1, _, _, _, h => ⟨h.1, fun i hi => wpOp_mono (fun a' w' h' => wpAny_of_N fuel _ a' w' h'.2) (h.2 i hi)⟩
theorem wpAnyN_first {i : Nat} {oi : Oper} {v : Value} (hi : ops[i]? = some oi) (hsel : ∀ (j : Nat) (o : Oper) cs b, ops[j]? = some o → o.op ≠ .select cs b)
    (hQ : ∀ c a w, Q (.panic c) (a.put oi.dst v) w → Q (.panic c) a w) (hX : ∀ j ∈ X, ∃ o, ops[j]? = some o ∧ ∃ e ∈ o.after, Region.binds md e = true ∧ e.on = i) :
    ∀ (fuel : Nat) (listed : Array Bool) (a : Act) (w : World),
      (∀ j oj, ops[j]? = some oj → j ≠ i → listed.getD j true = false → (∀ e ∈ oj.after, Region.binds md e = true → e.on ≠ i) → oi.apart ops oj = true) →
      i ∈ Region.ready md ops listed → YieldsIf P ops S oi v a → S w →
      wpAnyN P md ops Q S X fuel (listed.setIfInBounds i true) (a.put oi.dst v) w → wpAnyN P md ops Q S X (fuel + 1) listed a w := by
  intro fuel
  induction fuel with
  | zero =>
    intro listed a w _ hr hy hS H
    refine ⟨fun h => (by rw [h] at hr; cases hr), fun j hj => ?_⟩
    by_cases hji : j = i
    · subst hji; exact hy.wpOp hi hS ⟨fun _ h => h, H⟩
    · have := ready_mono hj hji
      rw [H.1] at this
      cases this
  | succ fuel ih =>
    intro listed a w hfree hr hy hS H
    refine ⟨fun h => (by rw [h] at hr; cases hr), fun j hj => ?_⟩
    by_cases hji : j = i
    · subst hji; exact hy.wpOp hi hS ⟨fun _ h => h, H⟩
    · have h1 := H.2 j (ready_mono hj hji)
      obtain ⟨hjun, oj, hoj, hall⟩ := mem_ready.1 hj
      have hnot : ∀ e ∈ oj.after, Region.binds md e = true → e.on ≠ i := fun e he hb heq => by
        have h1 := hall e he hb
        have h0 := (mem_ready.1 hr).1
        rw [heq] at h1
        rcases Nat.lt_or_ge i listed.size with h' | h'
        · simp [h'] at h0 h1; rw [h0] at h1; cases h1
        · simp [Array.getElem?_eq_none h'] at h1
      have hjX : j ∉ X := fun hx => by
        obtain ⟨o, ho, e, he, hb, hon⟩ := hX j hx
        have : o = oj := Option.some.inj (ho.symm.trans hoj)
        subst this
        exact hnot e he hb hon
      have h2 := wpOp_putIf hoj (hfree j oj hoj hji hjun hnot) (fun cs b => hsel i oi cs b hi) (fun cs b => hsel j oj cs b hoj) hQ hy h1
      have hfree' : ∀ k ok, ops[k]? = some ok → k ≠ i → (listed.setIfInBounds j true).getD k true = false →
          (∀ e ∈ ok.after, Region.binds md e = true → e.on ≠ i) → oi.apart ops ok = true := fun k ok hk hki hun hno => by
        refine hfree k ok hk hki ?_ hno
        by_cases hjk : j = k
        · subst hjk; exact hjun
        · rw [getD_set_ne true hjk] at hun; exact hun
      refine wpOp_mono (fun a' w' h3 => ⟨h3.2.1, ih (listed.setIfInBounds j true) a' w' hfree' (ready_mono hr (Ne.symm hji)) h3.1 (h3.2.1 hjX hS) ?_⟩) h2
      rw [Array.setIfInBounds_comm _ _ hji]
      exact h3.2.2
theorem wpAnyN_first0 {i : Nat} {oi : Oper} {v : Value} (hi : ops[i]? = some oi) (hsel : ∀ (j : Nat) (o : Oper) cs b, ops[j]? = some o → o.op ≠ .select cs b)
    (hQ : ∀ c a w, Q (.panic c) (a.put oi.dst v) w → Q (.panic c) a w) :
    ∀ (fuel : Nat) (listed : Array Bool) (a : Act) (w : World),
      (∀ j oj, ops[j]? = some oj → j ≠ i → listed.getD j true = false → (∀ e ∈ oj.after, Region.binds md e = true → e.on ≠ i) → oi.apart ops oj = true) →
      i ∈ Region.ready md ops listed → YieldsIf P ops (fun _ => True) oi v a →
      wpAnyN P md ops Q S X fuel (listed.setIfInBounds i true) (a.put oi.dst v) w → wpAnyN P md ops Q S X (fuel + 1) listed a w := by
  intro fuel
  induction fuel with
  | zero =>
    intro listed a w _ hr hy H
    refine ⟨fun h => (by rw [h] at hr; cases hr), fun j hj => ?_⟩
    by_cases hji : j = i
    · subst hji; exact hy.wpOp hi trivial ⟨fun _ h => h, H⟩
    · have := ready_mono hj hji
      rw [H.1] at this
      cases this
  | succ fuel ih =>
    intro listed a w hfree hr hy H
    refine ⟨fun h => (by rw [h] at hr; cases hr), fun j hj => ?_⟩
    by_cases hji : j = i
    · subst hji; exact hy.wpOp hi trivial ⟨fun _ h => h, H⟩
    · have h1 := H.2 j (ready_mono hj hji)
      obtain ⟨hjun, oj, hoj, hall⟩ := mem_ready.1 hj
      have hnot : ∀ e ∈ oj.after, Region.binds md e = true → e.on ≠ i := fun e he hb heq => by
        have h1 := hall e he hb
        have h0 := (mem_ready.1 hr).1
        rw [heq] at h1
        rcases Nat.lt_or_ge i listed.size with h' | h'
        · simp [h'] at h0 h1; rw [h0] at h1; cases h1
        · simp [Array.getElem?_eq_none h'] at h1
      have h2 := wpOp_putIf hoj (hfree j oj hoj hji hjun hnot) (fun cs b => hsel i oi cs b hi) (fun cs b => hsel j oj cs b hoj) hQ hy h1
      have hfree' : ∀ k ok, ops[k]? = some ok → k ≠ i → (listed.setIfInBounds j true).getD k true = false →
          (∀ e ∈ ok.after, Region.binds md e = true → e.on ≠ i) → oi.apart ops ok = true := fun k ok hk hki hun hno => by
        refine hfree k ok hk hki ?_ hno
        by_cases hjk : j = k
        · subst hjk; exact hjun
        · rw [getD_set_ne true hjk] at hun; exact hun
      refine wpOp_mono (fun a' w' h3 => ⟨h3.2.1, ih (listed.setIfInBounds j true) a' w' hfree' (ready_mono hr (Ne.symm hji)) h3.1 ?_⟩) h2
      rw [Array.setIfInBounds_comm _ _ hji]
      exact h3.2.2
/-- Take number i first. -/
theorem wpAnyN_take {i : Nat} {oi : Oper} {v : Value} {fuel : Nat} {listed : Array Bool} {a : Act} {w : World} (hi : ops[i]? = some oi)
    (hs : Region.noSelect ops = true) (hf : Region.free md ops listed i = true) (hr : (Region.ready md ops listed).contains i = true) (hX : (X.all fun j => Region.waitsFor md ops j i) = true)
    (hQ : ∀ c a w, Q (.panic c) (a.put oi.dst v) w → Q (.panic c) a w) (hy : YieldsIf P ops S oi v a) (hS : S w)
    (h : wpAnyN P md ops Q S X fuel (listed.setIfInBounds i true) (a.put oi.dst v) w) : wpAnyN P md ops Q S X (fuel + 1) listed a w :=
  wpAnyN_first hi (Region.noSelect_spec hs) hQ (fun j hj => Region.waitsFor_spec (List.all_eq_true.1 hX j hj)) fuel listed a w (Region.free_spec hi hf) (by simpa using hr) hy hS h
/-- Take number i first, which yields in whatever world. -/
theorem wpAnyN_pure {i : Nat} {oi : Oper} {v : Value} {fuel : Nat} {listed : Array Bool} {a : Act} {w : World} (hi : ops[i]? = some oi)
    (hs : Region.noSelect ops = true) (hf : Region.free md ops listed i = true) (hr : (Region.ready md ops listed).contains i = true)
    (hQ : ∀ c a w, Q (.panic c) (a.put oi.dst v) w → Q (.panic c) a w) (hy : YieldsIf P ops (fun _ => True) oi v a)
    (h : wpAnyN P md ops Q S X fuel (listed.setIfInBounds i true) (a.put oi.dst v) w) : wpAnyN P md ops Q S X (fuel + 1) listed a w :=
  wpAnyN_first0 hi (Region.noSelect_spec hs) hQ fuel listed a w (Region.free_spec hi hf) (by simpa using hr) hy h
/-- One may come up, or one of two. -/
theorem wpAnyN_one {i : Nat} {o : Oper} {fuel : Nat} {listed : Array Bool} {a : Act} {w : World} (hr : Region.ready md ops listed = [i]) (ho : ops[i]? = some o)
    (h : ∀ K : Act → World → Prop, Shut (∀ a' w', (i ∉ X → S w → S w') → wpAnyN P md ops Q S X fuel (listed.setIfInBounds i true) a' w' → K a' w') → if Region.wanted o (yielded ops a.tmps) = true then Oper.wp P o a w K Q else K (a.put o.dst undef) w) :
    wpAnyN P md ops Q S X (fuel + 1) listed a w := by
  refine ⟨(fun h0 => by rw [hr] at h0; cases h0), fun j hj => ?_⟩
  rw [hr] at hj
  simp at hj
  subst hj
  exact wpOp_step ho fun K' hK => h K' fun a' w' h1 h2 => hK a' w' ⟨h1, h2⟩
theorem wpAnyN_two {i k : Nat} {o ok : Oper} {fuel : Nat} {listed : Array Bool} {a : Act} {w : World} (hr : Region.ready md ops listed = [i, k]) (ho : ops[i]? = some o) (hk : ops[k]? = some ok)
    (h : ∀ K : Act → World → Prop, Shut (∀ a' w', (i ∉ X → S w → S w') → wpAnyN P md ops Q S X fuel (listed.setIfInBounds i true) a' w' → K a' w') → if Region.wanted o (yielded ops a.tmps) = true then Oper.wp P o a w K Q else K (a.put o.dst undef) w)
    (h' : ∀ K : Act → World → Prop, Shut (∀ a' w', (k ∉ X → S w → S w') → wpAnyN P md ops Q S X fuel (listed.setIfInBounds k true) a' w' → K a' w') → if Region.wanted ok (yielded ops a.tmps) = true then Oper.wp P ok a w K Q else K (a.put ok.dst undef) w) :
    wpAnyN P md ops Q S X (fuel + 1) listed a w := by
  refine ⟨(fun h0 => by rw [hr] at h0; cases h0), fun j hj => ?_⟩
  rw [hr] at hj
  simp at hj
  rcases hj with rfl | rfl
  · exact wpOp_step ho fun K' hK => h K' fun a' w' h1 h2 => hK a' w' ⟨h1, h2⟩
  · exact wpOp_step hk fun K' hK => h' K' fun a' w' h1 h2 => hK a' w' ⟨h1, h2⟩
theorem wpAnyN_three {i k m : Nat} {o ok om : Oper} {fuel : Nat} {listed : Array Bool} {a : Act} {w : World} (hr : Region.ready md ops listed = [i, k, m]) (ho : ops[i]? = some o) (hk : ops[k]? = some ok) (hm : ops[m]? = some om)
    (h : ∀ K : Act → World → Prop, Shut (∀ a' w', (i ∉ X → S w → S w') → wpAnyN P md ops Q S X fuel (listed.setIfInBounds i true) a' w' → K a' w') → if Region.wanted o (yielded ops a.tmps) = true then Oper.wp P o a w K Q else K (a.put o.dst undef) w)
    (h' : ∀ K : Act → World → Prop, Shut (∀ a' w', (k ∉ X → S w → S w') → wpAnyN P md ops Q S X fuel (listed.setIfInBounds k true) a' w' → K a' w') → if Region.wanted ok (yielded ops a.tmps) = true then Oper.wp P ok a w K Q else K (a.put ok.dst undef) w)
    (h'' : ∀ K : Act → World → Prop, Shut (∀ a' w', (m ∉ X → S w → S w') → wpAnyN P md ops Q S X fuel (listed.setIfInBounds m true) a' w' → K a' w') → if Region.wanted om (yielded ops a.tmps) = true then Oper.wp P om a w K Q else K (a.put om.dst undef) w) :
    wpAnyN P md ops Q S X (fuel + 1) listed a w := by
  refine ⟨(fun h0 => by rw [hr] at h0; cases h0), fun j hj => ?_⟩
  rw [hr] at hj
  simp at hj
  rcases hj with rfl | rfl | rfl
  · exact wpOp_step ho fun K' hK => h K' fun a' w' h1 h2 => hK a' w' ⟨h1, h2⟩
  · exact wpOp_step hk fun K' hK => h' K' fun a' w' h1 h2 => hK a' w' ⟨h1, h2⟩
  · exact wpOp_step hm fun K' hK => h'' K' fun a' w' h1 h2 => hK a' w' ⟨h1, h2⟩
theorem wpAnyN_done {listed : Array Bool} {a : Act} {w : World} (hr : Region.ready md ops listed = []) (h : Q .normal a w) : ∀ fuel, wpAnyN P md ops Q S X fuel listed a w
  | 0 => ⟨hr, h⟩
  | _ + 1 => ⟨fun _ => h, by rw [hr]; simp⟩
theorem wp_region_N {id : Nat} {a : Act} {w : World} (S : World → Prop) (X : List Nat) (hm : P.follows .mixedOrders = true) (hS : S w.drew)
    (h : S w.drew → wpAnyN P .any ops Q S X ops.size (Array.replicate ops.size false) a w.drew) : (Code.region id ops true).wp P Q a w :=
  wp_region_any hm (wpAny_of_N _ _ _ _ (h hS))
end
end Go.Proofs.YtajhjbiokbgebaaGreat
/- Package rank: made: the walk. -/
namespace Go.Proofs.YtajhjbiokbgebaaGreat
open Go.ChangeShapes Go.WideShapes Go.ChangeAt Go.RowKit
set_option linter.unusedVariables false
set_option maxRecDepth 100000

set_option maxHeartbeats 4000000 in
theorem rank_made (w : World) (base : Nat) (v : Value) (l : List Nd) (ho : Own w base 96 encN v l) (hl : ∀ x ∈ l, 0 ≤ x.1 ∧ x.1 ≤ 281474976710655) (h1 : ∀ x ∈ l, 1 ≤ x.2) (hs : sumR l ≤ 72057594037927935) (hm : l.length ≤ 67108864) :
    Calls Tryz.prog 86 #[v] w (MadePost v l w) := by
  have hno := ho.not_at w.heap.size (Nat.le_refl _)
  have HO := Lib.hid (ho.alloc (.cells #[.slice none 0 0, .slice none 0 0] 139))
  have HL := Lib.hid hl
  have H1 := Lib.hid h1
  clear ho hl h1
  go_enter Tryz.func86, Tryz.ntmps86
  go_wp2_with fail
  refine (made_sort _ base v l HO.out HL.out hm).mono ?_
  rintro e w1 ⟨rfl, l', hp, hsrt, ho1, hT⟩
  have HLen := Lib.hid hp.length_eq
  have hlm : l'.length ≤ 67108864 := by have := HLen.out; omega
  have HTu := Lib.hid hT
  have s1 := hT.size
  have HP := Lib.hid hp
  have HSo := Lib.hid hsrt
  have HO1 := Lib.hid ho1
  have z0 : w.heap.size < w1.heap.size := by simp at s1; omega
  have N0 := Lib.hid (hT.keep (b := w.heap.size) (heap_alloc_new w _) hno)
  clear hp hsrt ho1 hT
  obtain ⟨A, cap, hvf, _⟩ := HO1.out.form
  have HV := Lib.hid hvf
  subst hvf
  go_wp2_with fail
  have S0 : Hid (TwoSt w1 w.heap.size (w1.heap.size + 1) w.heap.size w1.heap.size (.slice A l'.length cap) l' (.slice none 0 0) (.slice none 0 0) (w1.alloc (.cells #[.slice none 0 0, .slice none 0 0] 139)) (.slice none 0 0) [] (.slice none 0 0) []) :=
    Lib.hid ⟨(HO1.out.base_le (Nat.zero_le _)).alloc _, heap_alloc_new w1 _, (Below.heap_alloc w1 _ w.heap.size z0).trans N0.out, Own.nil _ _ _ _, Own.nil _ _ _ _, (fun g h => by cases h), (Below.refl _ _).alloc (by omega) _, (by simp), z0, (by omega), Nat.le_refl _⟩
  go_loopw [4, 12] (fun n i wr => ∃ (q k1 k2 : Nat) (t : List Nd) (A1 A2 : Option Addr) (c1 c2 : Nat), q ≤ l'.length ∧ i = .int .i64 q ∧ n = .int .i64 (sumR (l'.take q)) ∧ k1 = t.length ∧ k2 = t.length ∧
      TwoSt w1 w.heap.size (w1.heap.size + 1) w.heap.size w1.heap.size (.slice A l'.length cap) l' (.slice A1 k1 c1) (.slice A2 k2 c2) wr (.slice A1 k1 c1) (t.map (·.1)) (.slice A2 k2 c2) (t.map (·.2)) ∧ Tab (l'.take q) t ∧ t.length ≤ q) (fun _ i _ => l'.length - (intOf i).toNat)
  case atStart => exact ⟨0, 0, 0, [], none, none, 0, 0, Nat.zero_le _, rfl, rfl, rfl, rfl, S0.out, Tab.nil, Nat.le_refl _⟩
  case round =>
    obtain ⟨q, k1, k2, t, A1, A2, c1, c2, hq, rfl, rfl, hk1, hk2, hst, htab, htq⟩ := hrel
    have hz := hst.size
    have hzs : w1.heap.size < wr.heap.size := by omega
    have cs := blk_cell hst.sums
    have cf := blk_frozen hst.sums
    have KST := Lib.hid hst
    have KT := Lib.hid htab
    by_cases hlt : q < l'.length
    · obtain ⟨c, off, rfl, hc, hcl⟩ := hst.lst.sl.at_ hlt
      have d0 := hcl 0 (.int .i64 l'[q].1) rfl
      have d1 := hcl 1 (.int .i64 l'[q].2) rfl
      simp only [Nat.add_zero] at d0
      have hx := HL.out _ (HP.out.mem_iff.1 (List.getElem_mem hlt))
      have hx1 := H1.out _ (HP.out.mem_iff.1 (List.getElem_mem hlt))
      have e1 := sumR_take_succ hlt
      have hle : ∀ z ∈ l'.take q, z.1 ≤ l'[q].1 := fun z hz => by
        obtain ⟨i, hi, rfl⟩ := List.getElem_of_mem hz
        have hi' : i < q := by rw [List.length_take] at hi; omega
        rw [List.getElem_take]
        exact List.pairwise_iff_getElem.1 HSo.out i q (by omega) hlt hi'
      have hts := List.take_succ_eq_append_getElem hlt
      have hpos : ∀ z ∈ l', 1 ≤ z.2 := fun z hz => H1.out z (HP.out.mem_iff.1 hz)
      have hsb := sum_part hpos hlt
      rw [sumR_perm HP.out] at hsb
      obtain ⟨y, hye⟩ : ∃ y, y = l'[q] := ⟨_, rfl⟩
      rw [← hye] at d0 d1 hx hx1 e1 hle hts hsb
      have HTS := Lib.hid hts
      have HLE := Lib.hid hle
      have HE1 := Lib.hid e1
      have hlq : q ≤ 67108864 := by omega
      have HK1 := Lib.hid hk1
      have HK2 := Lib.hid hk2
      have kb1 : k1 ≤ 67108864 := by omega
      have kb2 : k2 ≤ 67108864 := by omega
      obtain ⟨n, hn⟩ : ∃ n, n = sumR (l'.take q) := ⟨_, rfl⟩
      rw [← hn] at hsb HE1 ⊢
      have HN := Lib.hid hn
      have i1 := hst.own1.len_le
      have i2 := hst.own2.len_le
      simp only [List.length_map] at i1 i2
      have ic1 : k1 ≤ c1 := by omega
      have ic2 : k2 ≤ c2 := by omega
      have kk : Hid (k2 = k1) := Lib.hid (by omega)
      clear hst htab hcl e1 hle hts hye hpos hk1 hk2 hn hq i1 i2
      rcases List.eq_nil_or_concat t with ht | ⟨t', a, ht⟩
      · have g1 : decide (0 < k1) = false := by have := HK1.out; rw [ht] at this; simp at this; simp; omega
        have hne : ∀ z ∈ t, z.1 ≠ y.1 := by rw [ht]; simp
        have HNE := Lib.hid hne
        clear hne ht
        go_wp2_with fail
        refine wp_region_ext (by kernel_rfl) (by kernel_rfl) ?_
        repeat (go_big_quiet_step (fail))
        refine wpQuiet_nil ?_
        intro w2 hb2
        replace hb2 := below_of_ext hb2
        have c20 := (hb2.cell (p := ⟨wr.heap.size, 0, none⟩) (by simp)).trans (by go_simp : _ = some (Value.int .i64 y.1))
        have z20 : wr.heap.size < w2.heap.size := by have := hb2.size; simp at this; omega
        have s2 := (KST.out.alloc (.cells #[.int .i64 y.1, .int .i64 y.2] 96)).below hb2
        have cs2 := blk_cell s2.sums
        have cf2 := blk_frozen s2.sums
        have zs2 : w1.heap.size < w2.heap.size := by omega
        have ow1 : ∀ g, (Value.slice A1 k1 c1).ownBlock = some g → g < wr.heap.size := fun g hg => (KST.out.own1.lt g hg).2
        have ow2 : ∀ g, (Value.slice A2 k2 c2).ownBlock = some g → g < wr.heap.size := fun g hg => (KST.out.own2.lt g hg).2
        generalize Value.slice A1 k1 c1 = V1 at s2 cs2 ow1 ⊢
        generalize Value.slice A2 k2 c2 = V2 at s2 cs2 ow2 ⊢
        have W1 := Lib.hid ow1
        have W2 := Lib.hid ow2
        have S2 := Lib.hid s2
        clear s2 hb2 cs cf g1 ow1 ow2
        go_wp2_with fail
        refine wp_region_noPanic ?_
        refine wp_region_N (fun w' => w'.cell? ⟨w1.heap.size, 0, none⟩ = some V1 ∧ w'.cell? ⟨w1.heap.size, 1, none⟩ = some V2 ∧ w'.cell? ⟨wr.heap.size, 0, none⟩ = some (.int .i64 y.1)) [12, 14] (by kernel_rfl) ⟨by simp [*, go_sem], by simp [*, go_sem], by simp [*, go_sem]⟩ (fun hHeld => ?_)
        refine wpAnyN_pure (i := 0) (v := .pointer (some ⟨w1.heap.size, 0, none⟩)) rfl (by kernel_rfl) (by kernel_rfl) (by kernel_rfl) (fun _ _ _ h => h) (Or.inl ⟨by rfl, fun W _ => by go_simp⟩) ?_
        try simp only [Act.put, List.setIfInBounds_toArray, List.set_cons_zero, List.set_cons_succ]
        refine wpAnyN_take (i := 1) (v := V1) rfl (by kernel_rfl) (by kernel_rfl) (by kernel_rfl) (by kernel_rfl) (fun _ _ _ h => h) (Or.inl ⟨by rfl, fun W hW => by obtain ⟨q1, q2, q3⟩ := hW; go_simp⟩) hHeld ?_
        try simp only [Act.put, List.setIfInBounds_toArray, List.set_cons_zero, List.set_cons_succ]
        refine wpAnyN_pure (i := 2) (v := .pointer (some ⟨wr.heap.size, 0, none⟩)) rfl (by kernel_rfl) (by kernel_rfl) (by kernel_rfl) (fun _ _ _ h => h) (Or.inl ⟨by rfl, fun W _ => by go_simp⟩) ?_
        try simp only [Act.put, List.setIfInBounds_toArray, List.set_cons_zero, List.set_cons_succ]
        refine wpAnyN_take (i := 3) (v := .int .i64 y.1) rfl (by kernel_rfl) (by kernel_rfl) (by kernel_rfl) (by kernel_rfl) (fun _ _ _ h => h) (Or.inl ⟨by rfl, fun W hW => by obtain ⟨q1, q2, q3⟩ := hW; go_simp⟩) hHeld ?_
        try simp only [Act.put, List.setIfInBounds_toArray, List.set_cons_zero, List.set_cons_succ]
        refine wpAnyN_pure (i := 6) (v := .pointer (some ⟨w1.heap.size, 1, none⟩)) rfl (by kernel_rfl) (by kernel_rfl) (by kernel_rfl) (fun _ _ _ h => h) (Or.inl ⟨by rfl, fun W _ => by go_simp⟩) ?_
        try simp only [Act.put, List.setIfInBounds_toArray, List.set_cons_zero, List.set_cons_succ]
        refine wpAnyN_take (i := 7) (v := V2) rfl (by kernel_rfl) (by kernel_rfl) (by kernel_rfl) (by kernel_rfl) (fun _ _ _ h => h) (Or.inl ⟨by rfl, fun W hW => by obtain ⟨q1, q2, q3⟩ := hW; go_simp⟩) hHeld ?_
        try simp only [Act.put, List.setIfInBounds_toArray, List.set_cons_zero, List.set_cons_succ]
        refine wpAnyN_pure (i := 8) (v := .int .i64 (n + y.2)) rfl (by kernel_rfl) (by kernel_rfl) (by kernel_rfl) (fun _ _ _ h => h) (Or.inl ⟨by rfl, fun W _ => by go_simp⟩) ?_
        try simp only [Act.put, List.setIfInBounds_toArray, List.set_cons_zero, List.set_cons_succ]
        clear hHeld
        refine wpAnyN_two (i := 4) (k := 9) (by kernel_rfl) rfl rfl (fun K hK => ?_) (fun K hK => ?_)
        · skip
          go_simp
          refine hK.out _ _ (fun _ _ => ?_) ?_
          · exact ⟨by simp [*, go_sem], by simp [*, go_sem], by simp [*, go_sem]⟩
          clear hK K
          try simp only [Act.put, List.setIfInBounds_toArray, List.set_cons_zero, List.set_cons_succ]
          refine wpAnyN_two (i := 5) (k := 9) (by kernel_rfl) rfl rfl (fun K hK => ?_) (fun K hK => ?_)
          · skip
            refine step_app (o := ⟨some 47, _, _, _, _, _⟩) tyZ (by rfl) _ _ (by rfl) encZ (w1.heap.size + 1) V1 (t.map (·.1)) (by rfl) (TwoSt.own1 (w := w1) (base := w.heap.size) (B := w1.heap.size + 1) (b0 := w.heap.size) (bs := w1.heap.size) (vl := (Value.slice (some ⟨c, off, none⟩) l'.length cap)) (ll := l') (V1 := V1) (V2 := V2) (U2 := V2) (L2 := (t.map (·.2))) (by (repeat (first | with_reducible exact S2.out | with_reducible refine TwoSt.alloc ?_ _ | with_reducible refine TwoSt.drew ?_)); done)) _ 1 [y.1] _ (by rfl) (sl_cell (by simp [*, go_sem]) (by first | omega | (simp; done) | (simp; omega))) (by first | omega | (simp; omega)) (by simp [maxLen]; omega) (by first | omega | (simp; omega)) ?_
            intro v4 w4 ho4 hg4 hl4 hb4 hn4
            obtain ⟨A4, k4, m4, rfl⟩ : ∃ A k m, v4 = .slice A m k := by obtain ⟨A, k, hv, _⟩ := ho4.form; exact ⟨A, k, _, hv⟩
            have P4 := TwoSt.app1 (w := w1) (base := w.heap.size) (B := w1.heap.size + 1) (b0 := w.heap.size) (bs := w1.heap.size) (vl := (Value.slice (some ⟨c, off, none⟩) l'.length cap)) (ll := l') (V1 := V1) (V2 := V2) (U2 := V2) (L2 := (t.map (·.2))) (U1 := V1) (L1 := (t.map (·.1))) (by (repeat (first | with_reducible exact S2.out | with_reducible refine TwoSt.alloc ?_ _ | with_reducible refine TwoSt.drew ?_)); done) hg4 ho4 hl4 hb4
            have r4 := hg4.size
            try simp only [World.size_alloc, World.drew] at r4
            have G4 := grown_new hg4 wr.heap.size (fun g hg => W1.out g hg)
            have x4 := blk_cell P4.sums
            have f4 := blk_frozen P4.sums
            have y4 : w4.cell? ⟨wr.heap.size, 0, none⟩ = some (.int .i64 y.1) := (G4 wr.heap.size 0 (Nat.le_refl _) (by first | omega | (simp; omega))).trans (by simp [*, go_sem])
            have z4 : w1.heap.size < w4.heap.size := P4.size
            have q4 : wr.heap.size < w4.heap.size := by have := hg4.size; (try simp at this); omega
            clear hn4 hb4 hl4 hg4 ho4
            refine hK.out _ _ (fun _ _ => ?_) ?_
            · exact ⟨by simp [*, go_sem], by simp [*, go_sem], by simp [*, go_sem]⟩
            clear hK K
            try simp only [Act.put, List.setIfInBounds_toArray, List.set_cons_zero, List.set_cons_succ]
            refine wpAnyN_pure (i := 11) (v := .pointer (some ⟨w1.heap.size, 0, none⟩)) rfl (by kernel_rfl) (by kernel_rfl) (by kernel_rfl) (fun _ _ _ h => h) (Or.inl ⟨by rfl, fun W _ => by go_simp⟩) ?_
            try simp only [Act.put, List.setIfInBounds_toArray, List.set_cons_zero, List.set_cons_succ]
            refine wpAnyN_one (i := 9) (by kernel_rfl) rfl (fun K hK => ?_)
            go_simp
            refine hK.out _ _ (fun _ _ => ?_) ?_
            · exact ⟨by simp [*, go_sem], by simp [*, go_sem], by simp [*, go_sem]⟩
            clear hK K
            try simp only [Act.put, List.setIfInBounds_toArray, List.set_cons_zero, List.set_cons_succ]
            refine wpAnyN_one (i := 10) (by kernel_rfl) rfl (fun K hK => ?_)
            refine step_app (o := ⟨some 52, _, _, _, _, _⟩) tyZ (by rfl) _ _ (by rfl) encZ (w1.heap.size + 1) V2 (t.map (·.2)) (by rfl) (TwoSt.own2 (w := w1) (base := w.heap.size) (B := w1.heap.size + 1) (b0 := w.heap.size) (bs := w1.heap.size) (vl := (Value.slice (some ⟨c, off, none⟩) l'.length cap)) (ll := l') (V1 := V1) (V2 := V2) (U1 := .slice A4 m4 k4) (L1 := (t.map (·.1)) ++ [y.1]) (by (repeat (first | with_reducible exact P4 | with_reducible refine TwoSt.alloc ?_ _ | with_reducible refine TwoSt.drew ?_)); done)) _ 1 [(n + y.2)] _ (by rfl) (sl_cell (by simp [*, go_sem]) (by first | omega | (simp; done) | (simp; omega))) (by first | omega | (simp; omega)) (by simp [maxLen]; omega) (by first | omega | (simp; omega)) ?_
            intro v5 w5 ho5 hg5 hl5 hb5 hn5
            obtain ⟨A5, k5, m5, rfl⟩ : ∃ A k m, v5 = .slice A m k := by obtain ⟨A, k, hv, _⟩ := ho5.form; exact ⟨A, k, _, hv⟩
            have P5 := TwoSt.app2 (w := w1) (base := w.heap.size) (B := w1.heap.size + 1) (b0 := w.heap.size) (bs := w1.heap.size) (vl := (Value.slice (some ⟨c, off, none⟩) l'.length cap)) (ll := l') (V1 := V1) (V2 := V2) (U1 := .slice A4 m4 k4) (L1 := (t.map (·.1)) ++ [y.1]) (U2 := V2) (L2 := (t.map (·.2))) (by (repeat (first | with_reducible exact P4 | with_reducible refine TwoSt.alloc ?_ _ | with_reducible refine TwoSt.drew ?_)); done) hg5 ho5 hl5 hb5
            have r5 := hg5.size
            try simp only [World.size_alloc, World.drew] at r5
            have G5 := grown_new hg5 wr.heap.size (fun g hg => W2.out g hg)
            have x5 := blk_cell P5.sums
            have f5 := blk_frozen P5.sums
            have y5 : w5.cell? ⟨wr.heap.size, 0, none⟩ = some (.int .i64 y.1) := (G5 wr.heap.size 0 (Nat.le_refl _) (by first | omega | (simp; omega))).trans (by simp [*, go_sem])
            have z5 : w1.heap.size < w5.heap.size := P5.size
            have q5 : wr.heap.size < w5.heap.size := by have := hg5.size; (try simp at this); omega
            clear hn5 hb5 hl5 hg5 ho5
            refine hK.out _ _ (fun _ _ => ?_) ?_
            · exact ⟨by simp [*, go_sem], by simp [*, go_sem], by simp [*, go_sem]⟩
            clear hK K
            try simp only [Act.put, List.setIfInBounds_toArray, List.set_cons_zero, List.set_cons_succ]
            refine wpAnyN_one (i := 12) (by kernel_rfl) rfl (fun K hK => ?_)
            go_simp
            refine hK.out _ _ (fun h _ => absurd (by decide) h) ?_
            clear hK K
            try simp only [Act.put, List.setIfInBounds_toArray, List.set_cons_zero, List.set_cons_succ]
            refine wpAnyN_pure (i := 13) (v := .pointer (some ⟨w1.heap.size, 1, none⟩)) rfl (by kernel_rfl) (by kernel_rfl) (by kernel_rfl) (fun _ _ _ h => h) (Or.inl ⟨by rfl, fun W _ => by go_simp⟩) ?_
            try simp only [Act.put, List.setIfInBounds_toArray, List.set_cons_zero, List.set_cons_succ]
            refine wpAnyN_one (i := 14) (by kernel_rfl) rfl (fun K hK => ?_)
            go_simp
            refine hK.out _ _ (fun h _ => absurd (by decide) h) ?_
            clear hK K
            try simp only [Act.put, List.setIfInBounds_toArray, List.set_cons_zero, List.set_cons_succ]
            refine wpAnyN_done (by kernel_rfl) ?_ _
            have E4 := P5.own1.len_le
            have E5 := P5.own2.len_le
            simp only [List.length_append, List.length_map, List.length_cons, List.length_nil] at E4 E5
            have F4 := Lib.hid E4.1
            have F5 := Lib.hid E5.1
            have PF := Lib.hid P5.st
            clear E4 E5 P4 P5 G4 G5 x4 x5 f4 f5 y4 y5 z4 z5 q4 q5 r4 r5 c20 z20 cs2 cf2
            refine NoPanic.normal ?_
            go_wp2_with fail
            go_roundw
            case rel => exact ⟨q + 1, m4, m5, t ++ [(y.1, n + y.2)], A4, A5, k4, k5, by omega, by go_num, by rw [HE1.out], by have := F4.out; simp; omega, by have := F5.out; simp; omega, by simpa using PF.out, by rw [HTS.out]; have := KT.out.more HLE.out HNE.out; rwa [← HN.out] at this, by simp; omega⟩
            case measure => simp [intOf]; omega
          · skip
            go_simp
            refine hK.out _ _ (fun _ _ => ?_) ?_
            · exact ⟨by simp [*, go_sem], by simp [*, go_sem], by simp [*, go_sem]⟩
            clear hK K
            try simp only [Act.put, List.setIfInBounds_toArray, List.set_cons_zero, List.set_cons_succ]
            refine wpAnyN_one (i := 5) (by kernel_rfl) rfl (fun K hK => ?_)
            refine step_app (o := ⟨some 47, _, _, _, _, _⟩) tyZ (by rfl) _ _ (by rfl) encZ (w1.heap.size + 1) V1 (t.map (·.1)) (by rfl) (TwoSt.own1 (w := w1) (base := w.heap.size) (B := w1.heap.size + 1) (b0 := w.heap.size) (bs := w1.heap.size) (vl := (Value.slice (some ⟨c, off, none⟩) l'.length cap)) (ll := l') (V1 := V1) (V2 := V2) (U2 := V2) (L2 := (t.map (·.2))) (by (repeat (first | with_reducible exact S2.out | with_reducible refine TwoSt.alloc ?_ _ | with_reducible refine TwoSt.drew ?_)); done)) _ 1 [y.1] _ (by rfl) (sl_cell (by simp [*, go_sem]) (by first | omega | (simp; done) | (simp; omega))) (by first | omega | (simp; omega)) (by simp [maxLen]; omega) (by first | omega | (simp; omega)) ?_
            intro v4 w4 ho4 hg4 hl4 hb4 hn4
            obtain ⟨A4, k4, m4, rfl⟩ : ∃ A k m, v4 = .slice A m k := by obtain ⟨A, k, hv, _⟩ := ho4.form; exact ⟨A, k, _, hv⟩
            have P4 := TwoSt.app1 (w := w1) (base := w.heap.size) (B := w1.heap.size + 1) (b0 := w.heap.size) (bs := w1.heap.size) (vl := (Value.slice (some ⟨c, off, none⟩) l'.length cap)) (ll := l') (V1 := V1) (V2 := V2) (U2 := V2) (L2 := (t.map (·.2))) (U1 := V1) (L1 := (t.map (·.1))) (by (repeat (first | with_reducible exact S2.out | with_reducible refine TwoSt.alloc ?_ _ | with_reducible refine TwoSt.drew ?_)); done) hg4 ho4 hl4 hb4
            have r4 := hg4.size
            try simp only [World.size_alloc, World.drew] at r4
            have G4 := grown_new hg4 wr.heap.size (fun g hg => W1.out g hg)
            have x4 := blk_cell P4.sums
            have f4 := blk_frozen P4.sums
            have y4 : w4.cell? ⟨wr.heap.size, 0, none⟩ = some (.int .i64 y.1) := (G4 wr.heap.size 0 (Nat.le_refl _) (by first | omega | (simp; omega))).trans (by simp [*, go_sem])
            have b4 : w4.cell? ⟨w2.heap.size + 1, 0, none⟩ = some (.int .i64 (n + y.2)) := (G4 (w2.heap.size + 1) 0 (by omega) (by first | omega | (simp; done) | (simp; omega))).trans (by simp [*, go_sem])
            have z4 : w1.heap.size < w4.heap.size := P4.size
            have q4 : wr.heap.size < w4.heap.size := by have := hg4.size; (try simp at this); omega
            clear hn4 hb4 hl4 hg4 ho4
            refine hK.out _ _ (fun _ _ => ?_) ?_
            · exact ⟨by simp [*, go_sem], by simp [*, go_sem], by simp [*, go_sem]⟩
            clear hK K
            try simp only [Act.put, List.setIfInBounds_toArray, List.set_cons_zero, List.set_cons_succ]
            refine wpAnyN_pure (i := 11) (v := .pointer (some ⟨w1.heap.size, 0, none⟩)) rfl (by kernel_rfl) (by kernel_rfl) (by kernel_rfl) (fun _ _ _ h => h) (Or.inl ⟨by rfl, fun W _ => by go_simp⟩) ?_
            try simp only [Act.put, List.setIfInBounds_toArray, List.set_cons_zero, List.set_cons_succ]
            refine wpAnyN_one (i := 10) (by kernel_rfl) rfl (fun K hK => ?_)
            refine step_app (o := ⟨some 52, _, _, _, _, _⟩) tyZ (by rfl) _ _ (by rfl) encZ (w1.heap.size + 1) V2 (t.map (·.2)) (by rfl) (TwoSt.own2 (w := w1) (base := w.heap.size) (B := w1.heap.size + 1) (b0 := w.heap.size) (bs := w1.heap.size) (vl := (Value.slice (some ⟨c, off, none⟩) l'.length cap)) (ll := l') (V1 := V1) (V2 := V2) (U1 := .slice A4 m4 k4) (L1 := (t.map (·.1)) ++ [y.1]) (by (repeat (first | with_reducible exact P4 | with_reducible refine TwoSt.alloc ?_ _ | with_reducible refine TwoSt.drew ?_)); done)) _ 1 [(n + y.2)] _ (by rfl) (sl_cell (by simp [*, go_sem]) (by first | omega | (simp; done) | (simp; omega))) (by first | omega | (simp; omega)) (by simp [maxLen]; omega) (by first | omega | (simp; omega)) ?_
            intro v5 w5 ho5 hg5 hl5 hb5 hn5
            obtain ⟨A5, k5, m5, rfl⟩ : ∃ A k m, v5 = .slice A m k := by obtain ⟨A, k, hv, _⟩ := ho5.form; exact ⟨A, k, _, hv⟩
            have P5 := TwoSt.app2 (w := w1) (base := w.heap.size) (B := w1.heap.size + 1) (b0 := w.heap.size) (bs := w1.heap.size) (vl := (Value.slice (some ⟨c, off, none⟩) l'.length cap)) (ll := l') (V1 := V1) (V2 := V2) (U1 := .slice A4 m4 k4) (L1 := (t.map (·.1)) ++ [y.1]) (U2 := V2) (L2 := (t.map (·.2))) (by (repeat (first | with_reducible exact P4 | with_reducible refine TwoSt.alloc ?_ _ | with_reducible refine TwoSt.drew ?_)); done) hg5 ho5 hl5 hb5
            have r5 := hg5.size
            try simp only [World.size_alloc, World.drew] at r5
            have G5 := grown_new hg5 wr.heap.size (fun g hg => W2.out g hg)
            have x5 := blk_cell P5.sums
            have f5 := blk_frozen P5.sums
            have y5 : w5.cell? ⟨wr.heap.size, 0, none⟩ = some (.int .i64 y.1) := (G5 wr.heap.size 0 (Nat.le_refl _) (by first | omega | (simp; omega))).trans (by simp [*, go_sem])
            have z5 : w1.heap.size < w5.heap.size := P5.size
            have q5 : wr.heap.size < w5.heap.size := by have := hg5.size; (try simp at this); omega
            clear hn5 hb5 hl5 hg5 ho5
            refine hK.out _ _ (fun _ _ => ?_) ?_
            · exact ⟨by simp [*, go_sem], by simp [*, go_sem], by simp [*, go_sem]⟩
            clear hK K
            try simp only [Act.put, List.setIfInBounds_toArray, List.set_cons_zero, List.set_cons_succ]
            refine wpAnyN_one (i := 12) (by kernel_rfl) rfl (fun K hK => ?_)
            go_simp
            refine hK.out _ _ (fun h _ => absurd (by decide) h) ?_
            clear hK K
            try simp only [Act.put, List.setIfInBounds_toArray, List.set_cons_zero, List.set_cons_succ]
            refine wpAnyN_pure (i := 13) (v := .pointer (some ⟨w1.heap.size, 1, none⟩)) rfl (by kernel_rfl) (by kernel_rfl) (by kernel_rfl) (fun _ _ _ h => h) (Or.inl ⟨by rfl, fun W _ => by go_simp⟩) ?_
            try simp only [Act.put, List.setIfInBounds_toArray, List.set_cons_zero, List.set_cons_succ]
            refine wpAnyN_one (i := 14) (by kernel_rfl) rfl (fun K hK => ?_)
            go_simp
            refine hK.out _ _ (fun h _ => absurd (by decide) h) ?_
            clear hK K
            try simp only [Act.put, List.setIfInBounds_toArray, List.set_cons_zero, List.set_cons_succ]
            refine wpAnyN_done (by kernel_rfl) ?_ _
            have E4 := P5.own1.len_le
            have E5 := P5.own2.len_le
            simp only [List.length_append, List.length_map, List.length_cons, List.length_nil] at E4 E5
            have F4 := Lib.hid E4.1
            have F5 := Lib.hid E5.1
            have PF := Lib.hid P5.st
            clear E4 E5 P4 P5 G4 G5 x4 x5 f4 f5 y4 y5 z4 z5 q4 q5 r4 r5 c20 z20 cs2 cf2
            refine NoPanic.normal ?_
            go_wp2_with fail
            go_roundw
            case rel => exact ⟨q + 1, m4, m5, t ++ [(y.1, n + y.2)], A4, A5, k4, k5, by omega, by go_num, by rw [HE1.out], by have := F4.out; simp; omega, by have := F5.out; simp; omega, by simpa using PF.out, by rw [HTS.out]; have := KT.out.more HLE.out HNE.out; rwa [← HN.out] at this, by simp; omega⟩
            case measure => simp [intOf]; omega
        · skip
          go_simp
          refine hK.out _ _ (fun _ _ => ?_) ?_
          · exact ⟨by simp [*, go_sem], by simp [*, go_sem], by simp [*, go_sem]⟩
          clear hK K
          try simp only [Act.put, List.setIfInBounds_toArray, List.set_cons_zero, List.set_cons_succ]
          refine wpAnyN_one (i := 4) (by kernel_rfl) rfl (fun K hK => ?_)
          go_simp
          refine hK.out _ _ (fun _ _ => ?_) ?_
          · exact ⟨by simp [*, go_sem], by simp [*, go_sem], by simp [*, go_sem]⟩
          clear hK K
          try simp only [Act.put, List.setIfInBounds_toArray, List.set_cons_zero, List.set_cons_succ]
          refine wpAnyN_one (i := 5) (by kernel_rfl) rfl (fun K hK => ?_)
          refine step_app (o := ⟨some 47, _, _, _, _, _⟩) tyZ (by rfl) _ _ (by rfl) encZ (w1.heap.size + 1) V1 (t.map (·.1)) (by rfl) (TwoSt.own1 (w := w1) (base := w.heap.size) (B := w1.heap.size + 1) (b0 := w.heap.size) (bs := w1.heap.size) (vl := (Value.slice (some ⟨c, off, none⟩) l'.length cap)) (ll := l') (V1 := V1) (V2 := V2) (U2 := V2) (L2 := (t.map (·.2))) (by (repeat (first | with_reducible exact S2.out | with_reducible refine TwoSt.alloc ?_ _ | with_reducible refine TwoSt.drew ?_)); done)) _ 1 [y.1] _ (by rfl) (sl_cell (by simp [*, go_sem]) (by first | omega | (simp; done) | (simp; omega))) (by first | omega | (simp; omega)) (by simp [maxLen]; omega) (by first | omega | (simp; omega)) ?_
          intro v4 w4 ho4 hg4 hl4 hb4 hn4
          obtain ⟨A4, k4, m4, rfl⟩ : ∃ A k m, v4 = .slice A m k := by obtain ⟨A, k, hv, _⟩ := ho4.form; exact ⟨A, k, _, hv⟩
          have P4 := TwoSt.app1 (w := w1) (base := w.heap.size) (B := w1.heap.size + 1) (b0 := w.heap.size) (bs := w1.heap.size) (vl := (Value.slice (some ⟨c, off, none⟩) l'.length cap)) (ll := l') (V1 := V1) (V2 := V2) (U2 := V2) (L2 := (t.map (·.2))) (U1 := V1) (L1 := (t.map (·.1))) (by (repeat (first | with_reducible exact S2.out | with_reducible refine TwoSt.alloc ?_ _ | with_reducible refine TwoSt.drew ?_)); done) hg4 ho4 hl4 hb4
          have r4 := hg4.size
          try simp only [World.size_alloc, World.drew] at r4
          have G4 := grown_new hg4 wr.heap.size (fun g hg => W1.out g hg)
          have x4 := blk_cell P4.sums
          have f4 := blk_frozen P4.sums
          have y4 : w4.cell? ⟨wr.heap.size, 0, none⟩ = some (.int .i64 y.1) := (G4 wr.heap.size 0 (Nat.le_refl _) (by first | omega | (simp; omega))).trans (by simp [*, go_sem])
          have b4 : w4.cell? ⟨w2.heap.size, 0, none⟩ = some (.int .i64 (n + y.2)) := (G4 (w2.heap.size) 0 (by omega) (by first | omega | (simp; done) | (simp; omega))).trans (by simp [*, go_sem])
          have z4 : w1.heap.size < w4.heap.size := P4.size
          have q4 : wr.heap.size < w4.heap.size := by have := hg4.size; (try simp at this); omega
          clear hn4 hb4 hl4 hg4 ho4
          refine hK.out _ _ (fun _ _ => ?_) ?_
          · exact ⟨by simp [*, go_sem], by simp [*, go_sem], by simp [*, go_sem]⟩
          clear hK K
          try simp only [Act.put, List.setIfInBounds_toArray, List.set_cons_zero, List.set_cons_succ]
          refine wpAnyN_pure (i := 11) (v := .pointer (some ⟨w1.heap.size, 0, none⟩)) rfl (by kernel_rfl) (by kernel_rfl) (by kernel_rfl) (fun _ _ _ h => h) (Or.inl ⟨by rfl, fun W _ => by go_simp⟩) ?_
          try simp only [Act.put, List.setIfInBounds_toArray, List.set_cons_zero, List.set_cons_succ]
          refine wpAnyN_one (i := 10) (by kernel_rfl) rfl (fun K hK => ?_)
          refine step_app (o := ⟨some 52, _, _, _, _, _⟩) tyZ (by rfl) _ _ (by rfl) encZ (w1.heap.size + 1) V2 (t.map (·.2)) (by rfl) (TwoSt.own2 (w := w1) (base := w.heap.size) (B := w1.heap.size + 1) (b0 := w.heap.size) (bs := w1.heap.size) (vl := (Value.slice (some ⟨c, off, none⟩) l'.length cap)) (ll := l') (V1 := V1) (V2 := V2) (U1 := .slice A4 m4 k4) (L1 := (t.map (·.1)) ++ [y.1]) (by (repeat (first | with_reducible exact P4 | with_reducible refine TwoSt.alloc ?_ _ | with_reducible refine TwoSt.drew ?_)); done)) _ 1 [(n + y.2)] _ (by rfl) (sl_cell (by simp [*, go_sem]) (by first | omega | (simp; done) | (simp; omega))) (by first | omega | (simp; omega)) (by simp [maxLen]; omega) (by first | omega | (simp; omega)) ?_
          intro v5 w5 ho5 hg5 hl5 hb5 hn5
          obtain ⟨A5, k5, m5, rfl⟩ : ∃ A k m, v5 = .slice A m k := by obtain ⟨A, k, hv, _⟩ := ho5.form; exact ⟨A, k, _, hv⟩
          have P5 := TwoSt.app2 (w := w1) (base := w.heap.size) (B := w1.heap.size + 1) (b0 := w.heap.size) (bs := w1.heap.size) (vl := (Value.slice (some ⟨c, off, none⟩) l'.length cap)) (ll := l') (V1 := V1) (V2 := V2) (U1 := .slice A4 m4 k4) (L1 := (t.map (·.1)) ++ [y.1]) (U2 := V2) (L2 := (t.map (·.2))) (by (repeat (first | with_reducible exact P4 | with_reducible refine TwoSt.alloc ?_ _ | with_reducible refine TwoSt.drew ?_)); done) hg5 ho5 hl5 hb5
          have r5 := hg5.size
          try simp only [World.size_alloc, World.drew] at r5
          have G5 := grown_new hg5 wr.heap.size (fun g hg => W2.out g hg)
          have x5 := blk_cell P5.sums
          have f5 := blk_frozen P5.sums
          have y5 : w5.cell? ⟨wr.heap.size, 0, none⟩ = some (.int .i64 y.1) := (G5 wr.heap.size 0 (Nat.le_refl _) (by first | omega | (simp; omega))).trans (by simp [*, go_sem])
          have z5 : w1.heap.size < w5.heap.size := P5.size
          have q5 : wr.heap.size < w5.heap.size := by have := hg5.size; (try simp at this); omega
          clear hn5 hb5 hl5 hg5 ho5
          refine hK.out _ _ (fun _ _ => ?_) ?_
          · exact ⟨by simp [*, go_sem], by simp [*, go_sem], by simp [*, go_sem]⟩
          clear hK K
          try simp only [Act.put, List.setIfInBounds_toArray, List.set_cons_zero, List.set_cons_succ]
          refine wpAnyN_one (i := 12) (by kernel_rfl) rfl (fun K hK => ?_)
          go_simp
          refine hK.out _ _ (fun h _ => absurd (by decide) h) ?_
          clear hK K
          try simp only [Act.put, List.setIfInBounds_toArray, List.set_cons_zero, List.set_cons_succ]
          refine wpAnyN_pure (i := 13) (v := .pointer (some ⟨w1.heap.size, 1, none⟩)) rfl (by kernel_rfl) (by kernel_rfl) (by kernel_rfl) (fun _ _ _ h => h) (Or.inl ⟨by rfl, fun W _ => by go_simp⟩) ?_
          try simp only [Act.put, List.setIfInBounds_toArray, List.set_cons_zero, List.set_cons_succ]
          refine wpAnyN_one (i := 14) (by kernel_rfl) rfl (fun K hK => ?_)
          go_simp
          refine hK.out _ _ (fun h _ => absurd (by decide) h) ?_
          clear hK K
          try simp only [Act.put, List.setIfInBounds_toArray, List.set_cons_zero, List.set_cons_succ]
          refine wpAnyN_done (by kernel_rfl) ?_ _
          have E4 := P5.own1.len_le
          have E5 := P5.own2.len_le
          simp only [List.length_append, List.length_map, List.length_cons, List.length_nil] at E4 E5
          have F4 := Lib.hid E4.1
          have F5 := Lib.hid E5.1
          have PF := Lib.hid P5.st
          clear E4 E5 P4 P5 G4 G5 x4 x5 f4 f5 y4 y5 z4 z5 q4 q5 r4 r5 c20 z20 cs2 cf2
          refine NoPanic.normal ?_
          go_wp2_with fail
          go_roundw
          case rel => exact ⟨q + 1, m4, m5, t ++ [(y.1, n + y.2)], A4, A5, k4, k5, by omega, by go_num, by rw [HE1.out], by have := F4.out; simp; omega, by have := F5.out; simp; omega, by simpa using PF.out, by rw [HTS.out]; have := KT.out.more HLE.out HNE.out; rwa [← HN.out] at this, by simp; omega⟩
          case measure => simp [intOf]; omega
      · rw [List.concat_eq_append] at ht
        obtain ⟨m, hm⟩ : ∃ m, m = t'.length := ⟨_, rfl⟩
        have hkm : k1 = m + 1 := by have := HK1.out; rw [ht] at this; simp at this; omega
        have g1 : decide (0 < k1) = true := by simp; omega
        have g2 : (k1 : Int) - 1 = (m : Int) := by omega
        have g3 : (m : Int) < (k1 : Int) := by omega
        have g4 : m < k1 := by omega
        have g5 : m < (t.map (·.1)).length := by rw [ht]; simp; omega
        have ga : (t.map (·.1))[m] = a.1 := by simp only [ht, hm]; simp
        obtain ⟨b1, o1, rfl, hb1, hc1⟩ := KST.out.own1.sl.at_ g5
        have e0 := hc1 0 (.int .i64 a.1) (by rw [ga]; rfl)
        simp only [Nat.add_zero, Nat.mul_one] at e0
        have g6 : m < (t.map (·.2)).length := by rw [ht]; simp; omega
        obtain ⟨b2, o2, rfl, hb2, hc2⟩ := KST.out.own2.sl.at_ g6
        have gb : (t.map (·.2))[m] = a.2 := by simp only [ht, hm]; simp
        have e8 := hc2 0 (.int .i64 a.2) (by rw [gb]; rfl)
        simp only [Nat.add_zero, Nat.mul_one] at e8
        have g7 : m < k2 := by have := kk.out; omega
        have HKM := Lib.hid hkm
        have HM := Lib.hid hm
        have HT := Lib.hid ht
        clear hc1 hc2 g5 ga gb hkm hm ht
        by_cases ha : a.1 = y.1
        · have ha' : (a.1 == y.1) = true := by simpa using ha
          have HAE := Lib.hid ha
          have e9 := KST.out.own2.frozen
          have hz2 : b2 < wr.heap.size := hb2
          clear ha
          go_wp2_with fail
          refine wp_region_ext (by kernel_rfl) (by kernel_rfl) ?_
          repeat (go_big_quiet_step (fail))
          refine wpQuiet_nil ?_
          intro w2 hb2'
          replace hb2' := below_of_ext hb2'
          have s2 := (KST.out.alloc (.cells #[.int .i64 y.1, .int .i64 y.2] 96)).below hb2'
          have cs2 := blk_cell s2.sums
          have cf2 := blk_frozen s2.sums
          have zs2 : w1.heap.size < w2.heap.size := by have := hb2'.size; simp at this; omega
          have z22 : b2 < w2.heap.size := by have := hb2'.size; simp at this; omega
          have c23 : w2.cell? ⟨b2, o2 + m, none⟩ = some (.int .i64 a.2) := (hb2'.cell (p := ⟨b2, o2 + m, none⟩) (by simp; omega)).trans (by go_simp)
          have f22 := s2.own2.frozen
          have S2 := Lib.hid s2
          clear s2 hb2' cs cf g1 e0 e9 e8
          go_wp2_with fail
          have S3 := Lib.hid (S2.out.set2 m g6 (n + y.2))
          clear c23 f22 S2 cs2 cf2
          go_wp2_with fail
          go_roundw
          case rel => exact ⟨q + 1, k1, k2, t' ++ [(y.1, n + y.2)], some ⟨b1, o1, none⟩, some ⟨b2, o2, none⟩, c1, c2, by omega, by go_num, by rw [HE1.out], by have := HKM.out; have := HM.out; simp; omega, by have := HKM.out; have := HM.out; have := kk.out; simp; omega, by have h := S3.out; rw [HT.out, set_last HM.out (y.1, n + y.2)] at h; have e : (t' ++ [a]).map (·.1) = (t' ++ [(y.1, n + y.2)]).map (·.1) := (by simp [HAE.out]); rwa [e] at h, by have h := KT.out; rw [HT.out, show a = (y.1, a.2) from Prod.ext HAE.out rfl] at h; have h2 := h.same HLE.out; rw [← HN.out] at h2; rwa [HTS.out], by rw [HT.out] at htq; simp at htq ⊢; omega⟩
          case measure => simp [intOf]; omega
        · have ha' : (a.1 == y.1) = false := by simpa using ha
          have HNE := Lib.hid (show ∀ z ∈ t, z.1 ≠ y.1 by rw [HT.out]; exact Tab.last_ne (by rw [← HT.out]; exact KT.out) HLE.out ha)
          clear ha
          go_wp2_with fail
          refine wp_region_ext (by kernel_rfl) (by kernel_rfl) ?_
          repeat (go_big_quiet_step (fail))
          refine wpQuiet_nil ?_
          intro w2 hb2
          replace hb2 := below_of_ext hb2
          have c20 := (hb2.cell (p := ⟨wr.heap.size, 0, none⟩) (by simp)).trans (by go_simp : _ = some (Value.int .i64 y.1))
          have z20 : wr.heap.size < w2.heap.size := by have := hb2.size; simp at this; omega
          have s2 := (KST.out.alloc (.cells #[.int .i64 y.1, .int .i64 y.2] 96)).below hb2
          have cs2 := blk_cell s2.sums
          have cf2 := blk_frozen s2.sums
          have zs2 : w1.heap.size < w2.heap.size := by omega
          have ow1 : ∀ g, (Value.slice (some ⟨b1, o1, none⟩) k1 c1).ownBlock = some g → g < wr.heap.size := fun g hg => (KST.out.own1.lt g hg).2
          have ow2 : ∀ g, (Value.slice (some ⟨b2, o2, none⟩) k2 c2).ownBlock = some g → g < wr.heap.size := fun g hg => (KST.out.own2.lt g hg).2
          generalize Value.slice (some ⟨b1, o1, none⟩) k1 c1 = V1 at s2 cs2 ow1 ⊢
          generalize Value.slice (some ⟨b2, o2, none⟩) k2 c2 = V2 at s2 cs2 ow2 ⊢
          have W1 := Lib.hid ow1
          have W2 := Lib.hid ow2
          have S2 := Lib.hid s2
          clear s2 hb2 cs cf g1 g2 g3 g4 ow1 ow2 e0 e8 g7
          go_wp2_with fail
          refine wp_region_noPanic ?_
          refine wp_region_N (fun w' => w'.cell? ⟨w1.heap.size, 0, none⟩ = some V1 ∧ w'.cell? ⟨w1.heap.size, 1, none⟩ = some V2 ∧ w'.cell? ⟨wr.heap.size, 0, none⟩ = some (.int .i64 y.1)) [12, 14] (by kernel_rfl) ⟨by simp [*, go_sem], by simp [*, go_sem], by simp [*, go_sem]⟩ (fun hHeld => ?_)
          refine wpAnyN_pure (i := 0) (v := .pointer (some ⟨w1.heap.size, 0, none⟩)) rfl (by kernel_rfl) (by kernel_rfl) (by kernel_rfl) (fun _ _ _ h => h) (Or.inl ⟨by rfl, fun W _ => by go_simp⟩) ?_
          try simp only [Act.put, List.setIfInBounds_toArray, List.set_cons_zero, List.set_cons_succ]
          refine wpAnyN_take (i := 1) (v := V1) rfl (by kernel_rfl) (by kernel_rfl) (by kernel_rfl) (by kernel_rfl) (fun _ _ _ h => h) (Or.inl ⟨by rfl, fun W hW => by obtain ⟨q1, q2, q3⟩ := hW; go_simp⟩) hHeld ?_
          try simp only [Act.put, List.setIfInBounds_toArray, List.set_cons_zero, List.set_cons_succ]
          refine wpAnyN_pure (i := 2) (v := .pointer (some ⟨wr.heap.size, 0, none⟩)) rfl (by kernel_rfl) (by kernel_rfl) (by kernel_rfl) (fun _ _ _ h => h) (Or.inl ⟨by rfl, fun W _ => by go_simp⟩) ?_
          try simp only [Act.put, List.setIfInBounds_toArray, List.set_cons_zero, List.set_cons_succ]
          refine wpAnyN_take (i := 3) (v := .int .i64 y.1) rfl (by kernel_rfl) (by kernel_rfl) (by kernel_rfl) (by kernel_rfl) (fun _ _ _ h => h) (Or.inl ⟨by rfl, fun W hW => by obtain ⟨q1, q2, q3⟩ := hW; go_simp⟩) hHeld ?_
          try simp only [Act.put, List.setIfInBounds_toArray, List.set_cons_zero, List.set_cons_succ]
          refine wpAnyN_pure (i := 6) (v := .pointer (some ⟨w1.heap.size, 1, none⟩)) rfl (by kernel_rfl) (by kernel_rfl) (by kernel_rfl) (fun _ _ _ h => h) (Or.inl ⟨by rfl, fun W _ => by go_simp⟩) ?_
          try simp only [Act.put, List.setIfInBounds_toArray, List.set_cons_zero, List.set_cons_succ]
          refine wpAnyN_take (i := 7) (v := V2) rfl (by kernel_rfl) (by kernel_rfl) (by kernel_rfl) (by kernel_rfl) (fun _ _ _ h => h) (Or.inl ⟨by rfl, fun W hW => by obtain ⟨q1, q2, q3⟩ := hW; go_simp⟩) hHeld ?_
          try simp only [Act.put, List.setIfInBounds_toArray, List.set_cons_zero, List.set_cons_succ]
          refine wpAnyN_pure (i := 8) (v := .int .i64 (n + y.2)) rfl (by kernel_rfl) (by kernel_rfl) (by kernel_rfl) (fun _ _ _ h => h) (Or.inl ⟨by rfl, fun W _ => by go_simp⟩) ?_
          try simp only [Act.put, List.setIfInBounds_toArray, List.set_cons_zero, List.set_cons_succ]
          clear hHeld
          refine wpAnyN_two (i := 4) (k := 9) (by kernel_rfl) rfl rfl (fun K hK => ?_) (fun K hK => ?_)
          · skip
            go_simp
            refine hK.out _ _ (fun _ _ => ?_) ?_
            · exact ⟨by simp [*, go_sem], by simp [*, go_sem], by simp [*, go_sem]⟩
            clear hK K
            try simp only [Act.put, List.setIfInBounds_toArray, List.set_cons_zero, List.set_cons_succ]
            refine wpAnyN_two (i := 5) (k := 9) (by kernel_rfl) rfl rfl (fun K hK => ?_) (fun K hK => ?_)
            · skip
              refine step_app (o := ⟨some 47, _, _, _, _, _⟩) tyZ (by rfl) _ _ (by rfl) encZ (w1.heap.size + 1) V1 (t.map (·.1)) (by rfl) (TwoSt.own1 (w := w1) (base := w.heap.size) (B := w1.heap.size + 1) (b0 := w.heap.size) (bs := w1.heap.size) (vl := (Value.slice (some ⟨c, off, none⟩) l'.length cap)) (ll := l') (V1 := V1) (V2 := V2) (U2 := V2) (L2 := (t.map (·.2))) (by (repeat (first | with_reducible exact S2.out | with_reducible refine TwoSt.alloc ?_ _ | with_reducible refine TwoSt.drew ?_)); done)) _ 1 [y.1] _ (by rfl) (sl_cell (by simp [*, go_sem]) (by first | omega | (simp; done) | (simp; omega))) (by first | omega | (simp; omega)) (by simp [maxLen]; omega) (by first | omega | (simp; omega)) ?_
              intro v4 w4 ho4 hg4 hl4 hb4 hn4
              obtain ⟨A4, k4, m4, rfl⟩ : ∃ A k m, v4 = .slice A m k := by obtain ⟨A, k, hv, _⟩ := ho4.form; exact ⟨A, k, _, hv⟩
              have P4 := TwoSt.app1 (w := w1) (base := w.heap.size) (B := w1.heap.size + 1) (b0 := w.heap.size) (bs := w1.heap.size) (vl := (Value.slice (some ⟨c, off, none⟩) l'.length cap)) (ll := l') (V1 := V1) (V2 := V2) (U2 := V2) (L2 := (t.map (·.2))) (U1 := V1) (L1 := (t.map (·.1))) (by (repeat (first | with_reducible exact S2.out | with_reducible refine TwoSt.alloc ?_ _ | with_reducible refine TwoSt.drew ?_)); done) hg4 ho4 hl4 hb4
              have r4 := hg4.size
              try simp only [World.size_alloc, World.drew] at r4
              have G4 := grown_new hg4 wr.heap.size (fun g hg => W1.out g hg)
              have x4 := blk_cell P4.sums
              have f4 := blk_frozen P4.sums
              have y4 : w4.cell? ⟨wr.heap.size, 0, none⟩ = some (.int .i64 y.1) := (G4 wr.heap.size 0 (Nat.le_refl _) (by first | omega | (simp; omega))).trans (by simp [*, go_sem])
              have z4 : w1.heap.size < w4.heap.size := P4.size
              have q4 : wr.heap.size < w4.heap.size := by have := hg4.size; (try simp at this); omega
              clear hn4 hb4 hl4 hg4 ho4
              refine hK.out _ _ (fun _ _ => ?_) ?_
              · exact ⟨by simp [*, go_sem], by simp [*, go_sem], by simp [*, go_sem]⟩
              clear hK K
              try simp only [Act.put, List.setIfInBounds_toArray, List.set_cons_zero, List.set_cons_succ]
              refine wpAnyN_pure (i := 11) (v := .pointer (some ⟨w1.heap.size, 0, none⟩)) rfl (by kernel_rfl) (by kernel_rfl) (by kernel_rfl) (fun _ _ _ h => h) (Or.inl ⟨by rfl, fun W _ => by go_simp⟩) ?_
              try simp only [Act.put, List.setIfInBounds_toArray, List.set_cons_zero, List.set_cons_succ]
              refine wpAnyN_one (i := 9) (by kernel_rfl) rfl (fun K hK => ?_)
              go_simp
              refine hK.out _ _ (fun _ _ => ?_) ?_
              · exact ⟨by simp [*, go_sem], by simp [*, go_sem], by simp [*, go_sem]⟩
              clear hK K
              try simp only [Act.put, List.setIfInBounds_toArray, List.set_cons_zero, List.set_cons_succ]
              refine wpAnyN_one (i := 10) (by kernel_rfl) rfl (fun K hK => ?_)
              refine step_app (o := ⟨some 52, _, _, _, _, _⟩) tyZ (by rfl) _ _ (by rfl) encZ (w1.heap.size + 1) V2 (t.map (·.2)) (by rfl) (TwoSt.own2 (w := w1) (base := w.heap.size) (B := w1.heap.size + 1) (b0 := w.heap.size) (bs := w1.heap.size) (vl := (Value.slice (some ⟨c, off, none⟩) l'.length cap)) (ll := l') (V1 := V1) (V2 := V2) (U1 := .slice A4 m4 k4) (L1 := (t.map (·.1)) ++ [y.1]) (by (repeat (first | with_reducible exact P4 | with_reducible refine TwoSt.alloc ?_ _ | with_reducible refine TwoSt.drew ?_)); done)) _ 1 [(n + y.2)] _ (by rfl) (sl_cell (by simp [*, go_sem]) (by first | omega | (simp; done) | (simp; omega))) (by first | omega | (simp; omega)) (by simp [maxLen]; omega) (by first | omega | (simp; omega)) ?_
              intro v5 w5 ho5 hg5 hl5 hb5 hn5
              obtain ⟨A5, k5, m5, rfl⟩ : ∃ A k m, v5 = .slice A m k := by obtain ⟨A, k, hv, _⟩ := ho5.form; exact ⟨A, k, _, hv⟩
              have P5 := TwoSt.app2 (w := w1) (base := w.heap.size) (B := w1.heap.size + 1) (b0 := w.heap.size) (bs := w1.heap.size) (vl := (Value.slice (some ⟨c, off, none⟩) l'.length cap)) (ll := l') (V1 := V1) (V2 := V2) (U1 := .slice A4 m4 k4) (L1 := (t.map (·.1)) ++ [y.1]) (U2 := V2) (L2 := (t.map (·.2))) (by (repeat (first | with_reducible exact P4 | with_reducible refine TwoSt.alloc ?_ _ | with_reducible refine TwoSt.drew ?_)); done) hg5 ho5 hl5 hb5
              have r5 := hg5.size
              try simp only [World.size_alloc, World.drew] at r5
              have G5 := grown_new hg5 wr.heap.size (fun g hg => W2.out g hg)
              have x5 := blk_cell P5.sums
              have f5 := blk_frozen P5.sums
              have y5 : w5.cell? ⟨wr.heap.size, 0, none⟩ = some (.int .i64 y.1) := (G5 wr.heap.size 0 (Nat.le_refl _) (by first | omega | (simp; omega))).trans (by simp [*, go_sem])
              have z5 : w1.heap.size < w5.heap.size := P5.size
              have q5 : wr.heap.size < w5.heap.size := by have := hg5.size; (try simp at this); omega
              clear hn5 hb5 hl5 hg5 ho5
              refine hK.out _ _ (fun _ _ => ?_) ?_
              · exact ⟨by simp [*, go_sem], by simp [*, go_sem], by simp [*, go_sem]⟩
              clear hK K
              try simp only [Act.put, List.setIfInBounds_toArray, List.set_cons_zero, List.set_cons_succ]
              refine wpAnyN_one (i := 12) (by kernel_rfl) rfl (fun K hK => ?_)
              go_simp
              refine hK.out _ _ (fun h _ => absurd (by decide) h) ?_
              clear hK K
              try simp only [Act.put, List.setIfInBounds_toArray, List.set_cons_zero, List.set_cons_succ]
              refine wpAnyN_pure (i := 13) (v := .pointer (some ⟨w1.heap.size, 1, none⟩)) rfl (by kernel_rfl) (by kernel_rfl) (by kernel_rfl) (fun _ _ _ h => h) (Or.inl ⟨by rfl, fun W _ => by go_simp⟩) ?_
              try simp only [Act.put, List.setIfInBounds_toArray, List.set_cons_zero, List.set_cons_succ]
              refine wpAnyN_one (i := 14) (by kernel_rfl) rfl (fun K hK => ?_)
              go_simp
              refine hK.out _ _ (fun h _ => absurd (by decide) h) ?_
              clear hK K
              try simp only [Act.put, List.setIfInBounds_toArray, List.set_cons_zero, List.set_cons_succ]
              refine wpAnyN_done (by kernel_rfl) ?_ _
              have E4 := P5.own1.len_le
              have E5 := P5.own2.len_le
              simp only [List.length_append, List.length_map, List.length_cons, List.length_nil] at E4 E5
              have F4 := Lib.hid E4.1
              have F5 := Lib.hid E5.1
              have PF := Lib.hid P5.st
              clear E4 E5 P4 P5 G4 G5 x4 x5 f4 f5 y4 y5 z4 z5 q4 q5 r4 r5 c20 z20 cs2 cf2
              refine NoPanic.normal ?_
              go_wp2_with fail
              go_roundw
              case rel => exact ⟨q + 1, m4, m5, t ++ [(y.1, n + y.2)], A4, A5, k4, k5, by omega, by go_num, by rw [HE1.out], by have := F4.out; simp; omega, by have := F5.out; simp; omega, by simpa using PF.out, by rw [HTS.out]; have := KT.out.more HLE.out HNE.out; rwa [← HN.out] at this, by simp; omega⟩
              case measure => simp [intOf]; omega
            · skip
              go_simp
              refine hK.out _ _ (fun _ _ => ?_) ?_
              · exact ⟨by simp [*, go_sem], by simp [*, go_sem], by simp [*, go_sem]⟩
              clear hK K
              try simp only [Act.put, List.setIfInBounds_toArray, List.set_cons_zero, List.set_cons_succ]
              refine wpAnyN_one (i := 5) (by kernel_rfl) rfl (fun K hK => ?_)
              refine step_app (o := ⟨some 47, _, _, _, _, _⟩) tyZ (by rfl) _ _ (by rfl) encZ (w1.heap.size + 1) V1 (t.map (·.1)) (by rfl) (TwoSt.own1 (w := w1) (base := w.heap.size) (B := w1.heap.size + 1) (b0 := w.heap.size) (bs := w1.heap.size) (vl := (Value.slice (some ⟨c, off, none⟩) l'.length cap)) (ll := l') (V1 := V1) (V2 := V2) (U2 := V2) (L2 := (t.map (·.2))) (by (repeat (first | with_reducible exact S2.out | with_reducible refine TwoSt.alloc ?_ _ | with_reducible refine TwoSt.drew ?_)); done)) _ 1 [y.1] _ (by rfl) (sl_cell (by simp [*, go_sem]) (by first | omega | (simp; done) | (simp; omega))) (by first | omega | (simp; omega)) (by simp [maxLen]; omega) (by first | omega | (simp; omega)) ?_
              intro v4 w4 ho4 hg4 hl4 hb4 hn4
              obtain ⟨A4, k4, m4, rfl⟩ : ∃ A k m, v4 = .slice A m k := by obtain ⟨A, k, hv, _⟩ := ho4.form; exact ⟨A, k, _, hv⟩
              have P4 := TwoSt.app1 (w := w1) (base := w.heap.size) (B := w1.heap.size + 1) (b0 := w.heap.size) (bs := w1.heap.size) (vl := (Value.slice (some ⟨c, off, none⟩) l'.length cap)) (ll := l') (V1 := V1) (V2 := V2) (U2 := V2) (L2 := (t.map (·.2))) (U1 := V1) (L1 := (t.map (·.1))) (by (repeat (first | with_reducible exact S2.out | with_reducible refine TwoSt.alloc ?_ _ | with_reducible refine TwoSt.drew ?_)); done) hg4 ho4 hl4 hb4
              have r4 := hg4.size
              try simp only [World.size_alloc, World.drew] at r4
              have G4 := grown_new hg4 wr.heap.size (fun g hg => W1.out g hg)
              have x4 := blk_cell P4.sums
              have f4 := blk_frozen P4.sums
              have y4 : w4.cell? ⟨wr.heap.size, 0, none⟩ = some (.int .i64 y.1) := (G4 wr.heap.size 0 (Nat.le_refl _) (by first | omega | (simp; omega))).trans (by simp [*, go_sem])
              have b4 : w4.cell? ⟨w2.heap.size + 1, 0, none⟩ = some (.int .i64 (n + y.2)) := (G4 (w2.heap.size + 1) 0 (by omega) (by first | omega | (simp; done) | (simp; omega))).trans (by simp [*, go_sem])
              have z4 : w1.heap.size < w4.heap.size := P4.size
              have q4 : wr.heap.size < w4.heap.size := by have := hg4.size; (try simp at this); omega
              clear hn4 hb4 hl4 hg4 ho4
              refine hK.out _ _ (fun _ _ => ?_) ?_
              · exact ⟨by simp [*, go_sem], by simp [*, go_sem], by simp [*, go_sem]⟩
              clear hK K
              try simp only [Act.put, List.setIfInBounds_toArray, List.set_cons_zero, List.set_cons_succ]
              refine wpAnyN_pure (i := 11) (v := .pointer (some ⟨w1.heap.size, 0, none⟩)) rfl (by kernel_rfl) (by kernel_rfl) (by kernel_rfl) (fun _ _ _ h => h) (Or.inl ⟨by rfl, fun W _ => by go_simp⟩) ?_
              try simp only [Act.put, List.setIfInBounds_toArray, List.set_cons_zero, List.set_cons_succ]
              refine wpAnyN_one (i := 10) (by kernel_rfl) rfl (fun K hK => ?_)
              refine step_app (o := ⟨some 52, _, _, _, _, _⟩) tyZ (by rfl) _ _ (by rfl) encZ (w1.heap.size + 1) V2 (t.map (·.2)) (by rfl) (TwoSt.own2 (w := w1) (base := w.heap.size) (B := w1.heap.size + 1) (b0 := w.heap.size) (bs := w1.heap.size) (vl := (Value.slice (some ⟨c, off, none⟩) l'.length cap)) (ll := l') (V1 := V1) (V2 := V2) (U1 := .slice A4 m4 k4) (L1 := (t.map (·.1)) ++ [y.1]) (by (repeat (first | with_reducible exact P4 | with_reducible refine TwoSt.alloc ?_ _ | with_reducible refine TwoSt.drew ?_)); done)) _ 1 [(n + y.2)] _ (by rfl) (sl_cell (by simp [*, go_sem]) (by first | omega | (simp; done) | (simp; omega))) (by first | omega | (simp; omega)) (by simp [maxLen]; omega) (by first | omega | (simp; omega)) ?_
              intro v5 w5 ho5 hg5 hl5 hb5 hn5
              obtain ⟨A5, k5, m5, rfl⟩ : ∃ A k m, v5 = .slice A m k := by obtain ⟨A, k, hv, _⟩ := ho5.form; exact ⟨A, k, _, hv⟩
              have P5 := TwoSt.app2 (w := w1) (base := w.heap.size) (B := w1.heap.size + 1) (b0 := w.heap.size) (bs := w1.heap.size) (vl := (Value.slice (some ⟨c, off, none⟩) l'.length cap)) (ll := l') (V1 := V1) (V2 := V2) (U1 := .slice A4 m4 k4) (L1 := (t.map (·.1)) ++ [y.1]) (U2 := V2) (L2 := (t.map (·.2))) (by (repeat (first | with_reducible exact P4 | with_reducible refine TwoSt.alloc ?_ _ | with_reducible refine TwoSt.drew ?_)); done) hg5 ho5 hl5 hb5
              have r5 := hg5.size
              try simp only [World.size_alloc, World.drew] at r5
              have G5 := grown_new hg5 wr.heap.size (fun g hg => W2.out g hg)
              have x5 := blk_cell P5.sums
              have f5 := blk_frozen P5.sums
              have y5 : w5.cell? ⟨wr.heap.size, 0, none⟩ = some (.int .i64 y.1) := (G5 wr.heap.size 0 (Nat.le_refl _) (by first | omega | (simp; omega))).trans (by simp [*, go_sem])
              have z5 : w1.heap.size < w5.heap.size := P5.size
              have q5 : wr.heap.size < w5.heap.size := by have := hg5.size; (try simp at this); omega
              clear hn5 hb5 hl5 hg5 ho5
              refine hK.out _ _ (fun _ _ => ?_) ?_
              · exact ⟨by simp [*, go_sem], by simp [*, go_sem], by simp [*, go_sem]⟩
              clear hK K
              try simp only [Act.put, List.setIfInBounds_toArray, List.set_cons_zero, List.set_cons_succ]
              refine wpAnyN_one (i := 12) (by kernel_rfl) rfl (fun K hK => ?_)
              go_simp
              refine hK.out _ _ (fun h _ => absurd (by decide) h) ?_
              clear hK K
              try simp only [Act.put, List.setIfInBounds_toArray, List.set_cons_zero, List.set_cons_succ]
              refine wpAnyN_pure (i := 13) (v := .pointer (some ⟨w1.heap.size, 1, none⟩)) rfl (by kernel_rfl) (by kernel_rfl) (by kernel_rfl) (fun _ _ _ h => h) (Or.inl ⟨by rfl, fun W _ => by go_simp⟩) ?_
              try simp only [Act.put, List.setIfInBounds_toArray, List.set_cons_zero, List.set_cons_succ]
              refine wpAnyN_one (i := 14) (by kernel_rfl) rfl (fun K hK => ?_)
              go_simp
              refine hK.out _ _ (fun h _ => absurd (by decide) h) ?_
              clear hK K
              try simp only [Act.put, List.setIfInBounds_toArray, List.set_cons_zero, List.set_cons_succ]
              refine wpAnyN_done (by kernel_rfl) ?_ _
              have E4 := P5.own1.len_le
              have E5 := P5.own2.len_le
              simp only [List.length_append, List.length_map, List.length_cons, List.length_nil] at E4 E5
              have F4 := Lib.hid E4.1
              have F5 := Lib.hid E5.1
              have PF := Lib.hid P5.st
              clear E4 E5 P4 P5 G4 G5 x4 x5 f4 f5 y4 y5 z4 z5 q4 q5 r4 r5 c20 z20 cs2 cf2
              refine NoPanic.normal ?_
              go_wp2_with fail
              go_roundw
              case rel => exact ⟨q + 1, m4, m5, t ++ [(y.1, n + y.2)], A4, A5, k4, k5, by omega, by go_num, by rw [HE1.out], by have := F4.out; simp; omega, by have := F5.out; simp; omega, by simpa using PF.out, by rw [HTS.out]; have := KT.out.more HLE.out HNE.out; rwa [← HN.out] at this, by simp; omega⟩
              case measure => simp [intOf]; omega
          · skip
            go_simp
            refine hK.out _ _ (fun _ _ => ?_) ?_
            · exact ⟨by simp [*, go_sem], by simp [*, go_sem], by simp [*, go_sem]⟩
            clear hK K
            try simp only [Act.put, List.setIfInBounds_toArray, List.set_cons_zero, List.set_cons_succ]
            refine wpAnyN_one (i := 4) (by kernel_rfl) rfl (fun K hK => ?_)
            go_simp
            refine hK.out _ _ (fun _ _ => ?_) ?_
            · exact ⟨by simp [*, go_sem], by simp [*, go_sem], by simp [*, go_sem]⟩
            clear hK K
            try simp only [Act.put, List.setIfInBounds_toArray, List.set_cons_zero, List.set_cons_succ]
            refine wpAnyN_one (i := 5) (by kernel_rfl) rfl (fun K hK => ?_)
            refine step_app (o := ⟨some 47, _, _, _, _, _⟩) tyZ (by rfl) _ _ (by rfl) encZ (w1.heap.size + 1) V1 (t.map (·.1)) (by rfl) (TwoSt.own1 (w := w1) (base := w.heap.size) (B := w1.heap.size + 1) (b0 := w.heap.size) (bs := w1.heap.size) (vl := (Value.slice (some ⟨c, off, none⟩) l'.length cap)) (ll := l') (V1 := V1) (V2 := V2) (U2 := V2) (L2 := (t.map (·.2))) (by (repeat (first | with_reducible exact S2.out | with_reducible refine TwoSt.alloc ?_ _ | with_reducible refine TwoSt.drew ?_)); done)) _ 1 [y.1] _ (by rfl) (sl_cell (by simp [*, go_sem]) (by first | omega | (simp; done) | (simp; omega))) (by first | omega | (simp; omega)) (by simp [maxLen]; omega) (by first | omega | (simp; omega)) ?_
            intro v4 w4 ho4 hg4 hl4 hb4 hn4
            obtain ⟨A4, k4, m4, rfl⟩ : ∃ A k m, v4 = .slice A m k := by obtain ⟨A, k, hv, _⟩ := ho4.form; exact ⟨A, k, _, hv⟩
            have P4 := TwoSt.app1 (w := w1) (base := w.heap.size) (B := w1.heap.size + 1) (b0 := w.heap.size) (bs := w1.heap.size) (vl := (Value.slice (some ⟨c, off, none⟩) l'.length cap)) (ll := l') (V1 := V1) (V2 := V2) (U2 := V2) (L2 := (t.map (·.2))) (U1 := V1) (L1 := (t.map (·.1))) (by (repeat (first | with_reducible exact S2.out | with_reducible refine TwoSt.alloc ?_ _ | with_reducible refine TwoSt.drew ?_)); done) hg4 ho4 hl4 hb4
            have r4 := hg4.size
            try simp only [World.size_alloc, World.drew] at r4
            have G4 := grown_new hg4 wr.heap.size (fun g hg => W1.out g hg)
            have x4 := blk_cell P4.sums
            have f4 := blk_frozen P4.sums
            have y4 : w4.cell? ⟨wr.heap.size, 0, none⟩ = some (.int .i64 y.1) := (G4 wr.heap.size 0 (Nat.le_refl _) (by first | omega | (simp; omega))).trans (by simp [*, go_sem])
            have b4 : w4.cell? ⟨w2.heap.size, 0, none⟩ = some (.int .i64 (n + y.2)) := (G4 (w2.heap.size) 0 (by omega) (by first | omega | (simp; done) | (simp; omega))).trans (by simp [*, go_sem])
            have z4 : w1.heap.size < w4.heap.size := P4.size
            have q4 : wr.heap.size < w4.heap.size := by have := hg4.size; (try simp at this); omega
            clear hn4 hb4 hl4 hg4 ho4
            refine hK.out _ _ (fun _ _ => ?_) ?_
            · exact ⟨by simp [*, go_sem], by simp [*, go_sem], by simp [*, go_sem]⟩
            clear hK K
            try simp only [Act.put, List.setIfInBounds_toArray, List.set_cons_zero, List.set_cons_succ]
            refine wpAnyN_pure (i := 11) (v := .pointer (some ⟨w1.heap.size, 0, none⟩)) rfl (by kernel_rfl) (by kernel_rfl) (by kernel_rfl) (fun _ _ _ h => h) (Or.inl ⟨by rfl, fun W _ => by go_simp⟩) ?_
            try simp only [Act.put, List.setIfInBounds_toArray, List.set_cons_zero, List.set_cons_succ]
            refine wpAnyN_one (i := 10) (by kernel_rfl) rfl (fun K hK => ?_)
            refine step_app (o := ⟨some 52, _, _, _, _, _⟩) tyZ (by rfl) _ _ (by rfl) encZ (w1.heap.size + 1) V2 (t.map (·.2)) (by rfl) (TwoSt.own2 (w := w1) (base := w.heap.size) (B := w1.heap.size + 1) (b0 := w.heap.size) (bs := w1.heap.size) (vl := (Value.slice (some ⟨c, off, none⟩) l'.length cap)) (ll := l') (V1 := V1) (V2 := V2) (U1 := .slice A4 m4 k4) (L1 := (t.map (·.1)) ++ [y.1]) (by (repeat (first | with_reducible exact P4 | with_reducible refine TwoSt.alloc ?_ _ | with_reducible refine TwoSt.drew ?_)); done)) _ 1 [(n + y.2)] _ (by rfl) (sl_cell (by simp [*, go_sem]) (by first | omega | (simp; done) | (simp; omega))) (by first | omega | (simp; omega)) (by simp [maxLen]; omega) (by first | omega | (simp; omega)) ?_
            intro v5 w5 ho5 hg5 hl5 hb5 hn5
            obtain ⟨A5, k5, m5, rfl⟩ : ∃ A k m, v5 = .slice A m k := by obtain ⟨A, k, hv, _⟩ := ho5.form; exact ⟨A, k, _, hv⟩
            have P5 := TwoSt.app2 (w := w1) (base := w.heap.size) (B := w1.heap.size + 1) (b0 := w.heap.size) (bs := w1.heap.size) (vl := (Value.slice (some ⟨c, off, none⟩) l'.length cap)) (ll := l') (V1 := V1) (V2 := V2) (U1 := .slice A4 m4 k4) (L1 := (t.map (·.1)) ++ [y.1]) (U2 := V2) (L2 := (t.map (·.2))) (by (repeat (first | with_reducible exact P4 | with_reducible refine TwoSt.alloc ?_ _ | with_reducible refine TwoSt.drew ?_)); done) hg5 ho5 hl5 hb5
            have r5 := hg5.size
            try simp only [World.size_alloc, World.drew] at r5
            have G5 := grown_new hg5 wr.heap.size (fun g hg => W2.out g hg)
            have x5 := blk_cell P5.sums
            have f5 := blk_frozen P5.sums
            have y5 : w5.cell? ⟨wr.heap.size, 0, none⟩ = some (.int .i64 y.1) := (G5 wr.heap.size 0 (Nat.le_refl _) (by first | omega | (simp; omega))).trans (by simp [*, go_sem])
            have z5 : w1.heap.size < w5.heap.size := P5.size
            have q5 : wr.heap.size < w5.heap.size := by have := hg5.size; (try simp at this); omega
            clear hn5 hb5 hl5 hg5 ho5
            refine hK.out _ _ (fun _ _ => ?_) ?_
            · exact ⟨by simp [*, go_sem], by simp [*, go_sem], by simp [*, go_sem]⟩
            clear hK K
            try simp only [Act.put, List.setIfInBounds_toArray, List.set_cons_zero, List.set_cons_succ]
            refine wpAnyN_one (i := 12) (by kernel_rfl) rfl (fun K hK => ?_)
            go_simp
            refine hK.out _ _ (fun h _ => absurd (by decide) h) ?_
            clear hK K
            try simp only [Act.put, List.setIfInBounds_toArray, List.set_cons_zero, List.set_cons_succ]
            refine wpAnyN_pure (i := 13) (v := .pointer (some ⟨w1.heap.size, 1, none⟩)) rfl (by kernel_rfl) (by kernel_rfl) (by kernel_rfl) (fun _ _ _ h => h) (Or.inl ⟨by rfl, fun W _ => by go_simp⟩) ?_
            try simp only [Act.put, List.setIfInBounds_toArray, List.set_cons_zero, List.set_cons_succ]
            refine wpAnyN_one (i := 14) (by kernel_rfl) rfl (fun K hK => ?_)
            go_simp
            refine hK.out _ _ (fun h _ => absurd (by decide) h) ?_
            clear hK K
            try simp only [Act.put, List.setIfInBounds_toArray, List.set_cons_zero, List.set_cons_succ]
            refine wpAnyN_done (by kernel_rfl) ?_ _
            have E4 := P5.own1.len_le
            have E5 := P5.own2.len_le
            simp only [List.length_append, List.length_map, List.length_cons, List.length_nil] at E4 E5
            have F4 := Lib.hid E4.1
            have F5 := Lib.hid E5.1
            have PF := Lib.hid P5.st
            clear E4 E5 P4 P5 G4 G5 x4 x5 f4 f5 y4 y5 z4 z5 q4 q5 r4 r5 c20 z20 cs2 cf2
            refine NoPanic.normal ?_
            go_wp2_with fail
            go_roundw
            case rel => exact ⟨q + 1, m4, m5, t ++ [(y.1, n + y.2)], A4, A5, k4, k5, by omega, by go_num, by rw [HE1.out], by have := F4.out; simp; omega, by have := F5.out; simp; omega, by simpa using PF.out, by rw [HTS.out]; have := KT.out.more HLE.out HNE.out; rwa [← HN.out] at this, by simp; omega⟩
            case measure => simp [intOf]; omega
    · obtain rfl : q = l'.length := by omega
      rw [List.take_length] at KT
      have ct := blk_cell hst.zero
      have cft := blk_frozen hst.zero
      have zt := lt_of_block hst.zero
      clear hst htab
      subst hk1
      subst hk2
      go_wp2_with fail
      refine bodyPost_ret (v := .agg #[.slice A1 t.length c1, .slice A2 t.length c2]) (by simp only [results, Tryz.results86]; go_simp) rfl ⟨t, A1, c1, A2, c2, rfl, KT.out.perm HP.out, by have := HLen.out; omega, ?_, ?_, ?_⟩
      · exact ((KST.out.own1.setCellB (by simp only; omega)).setCellB (by simp only; omega)).base_le (by omega)
      · exact ((KST.out.own2.setCellB (by simp only; omega)).setCellB (by simp only; omega)).base_le (by omega)
      · have hB := (KST.out.blw.setCell (p := ⟨w.heap.size, 0, none⟩) (Nat.le_refl _) (.slice A1 t.length c1)).setCell (p := ⟨w.heap.size, 1, none⟩) (Nat.le_refl _) (.slice A2 t.length c2)
        have hA : Below w.heap.size w (w.alloc (.cells #[.slice none 0 0, .slice none 0 0] 139)) := (Below.refl _ _).alloc (Nat.le_refl _) _
        exact turn_then hA HTu.out hB
end Go.Proofs.YtajhjbiokbgebaaGreat
/- Package reach: Between and Share. -/
namespace Go.Proofs.YtajhjbiokbgebaaGreat
open Go.ChangeShapes Go.WideShapes Go.ChangeAt Go.RowKit
set_option linter.unusedVariables false
set_option maxRecDepth 100000

/-- What Between tells: the two weights, and the error. -/
def betw (l : Int) (r : List Nd) (a b : Int) : Int × Int × Int := if b < a then (0, 0, 2) else (betwLow l r a b, betwHigh l r a b, 0)
/-- What Share tells. -/
def share (l : Int) (r : List Nd) (a b d : Int) : Int × Int × Int :=
  if sumR r = 0 then (0, 0, 7) else if d < 1 ∨ b < a then (0, 0, 2) else (((betwLow l r a b).toNat * d.toNat / (sumR r).toNat : Nat), (upV (betwHigh l r a b).toNat d.toNat (sumR r).toNat : Nat), 0)
def bothV (t : Int × Int × Int) : Value := .tuple #[.agg #[.int .i64 t.1, .int .i64 t.2.1], .int .i64 t.2.2]
theorem betw_no {l a b : Int} {r : List Nd} (h : b < a) : bothV (betw l r a b) = .tuple #[.agg #[.int .i64 0, .int .i64 0], .int .i64 2] := by unfold betw; rw [if_pos h]; rfl
theorem betw_yes {l a b : Int} {r : List Nd} (h : ¬ b < a) : bothV (betw l r a b) = .tuple #[.agg #[.int .i64 (betwLow l r a b), .int .i64 (betwHigh l r a b)], .int .i64 0] := by unfold betw; rw [if_neg h]; rfl

theorem reach_Between (w : World) (g K l : Nat) (k : Int) (r : List Nd) (F : Nat → Prop) (a b : Int) (h : DigAt w g K l k r F) (hn : r.length ≤ 67108864) :
    Calls Tryz.prog 138 #[.pointer (some ⟨g, 0, none⟩), .int .i64 a, .int .i64 b] w fun e w' => e = .returned (bothV (betw l r a b)) ∧ Below w.heap.size w w' := by
  have HD := Lib.hid h
  clear h
  by_cases hab : b < a
  · rw [betw_no hab]
    go_enter Tryz.func138, Tryz.ntmps138
    go_wp2_with fail
    exact bodyPost_ret (v := .tuple #[.agg #[.int .i64 0, .int .i64 0], .int .i64 2]) (by simp only [results, Tryz.results138]; go_simp) rfl ⟨rfl, (by repeat (first | with_reducible exact Below.refl _ _ | with_reducible assumption | ((with_reducible refine Below.setCell ?_ ?_ _); rotate_left; · (first | omega | exact Nat.le_refl _ | (simp <;> omega))) | (with_reducible refine Below.allocW ?_ _) | (with_reducible refine Below.drew ?_) | (with_reducible refine Below.extW ?_ _)))⟩
  · rw [betw_yes hab]
    have h1 : decide (b < a) = false := by simpa using hab
    have hba : a ≤ b := by omega
    clear hab
    go_enter Tryz.func138, Tryz.ntmps138
    go_wp2_with fail
    have B0 : Below w.heap.size w (((w.alloc (.cells #[.int .i64 a] 3)).alloc (.cells #[.int .i64 b] 3)).alloc (.cells #[.int .i64 0, .int .i64 0] 57)) := (by repeat (first | with_reducible exact Below.refl _ _ | with_reducible assumption | ((with_reducible refine Below.setCell ?_ ?_ _); rotate_left; · (first | omega | exact Nat.le_refl _ | (simp <;> omega))) | (with_reducible refine Below.allocW ?_ _) | (with_reducible refine Below.drew ?_) | (with_reducible refine Below.extW ?_ _)))
    have ca : (((w.alloc (.cells #[.int .i64 a] 3)).alloc (.cells #[.int .i64 b] 3)).alloc (.cells #[.int .i64 0, .int .i64 0] 57)).cell? ⟨w.heap.size, 0, none⟩ = some (.int .i64 a) := by go_simp
    have cb : (((w.alloc (.cells #[.int .i64 a] 3)).alloc (.cells #[.int .i64 b] 3)).alloc (.cells #[.int .i64 0, .int .i64 0] 57)).cell? ⟨w.heap.size + 1, 0, none⟩ = some (.int .i64 b) := by go_simp
    have HA := Lib.hid ca
    have HB := Lib.hid cb
    clear ca cb
    refine (digest_Conf _ g K l k r F (HD.out.below B0)).mono ?_
    rintro e w1 ⟨rfl, hb1⟩
    have B1 : Below w.heap.size w w1 := Below.then_ (by repeat (first | with_reducible exact Below.refl _ _ | with_reducible assumption | ((with_reducible refine Below.setCell ?_ ?_ _); rotate_left; · (first | omega | exact Nat.le_refl _ | (simp <;> omega))) | (with_reducible refine Below.allocW ?_ _) | (with_reducible refine Below.drew ?_) | (with_reducible refine Below.extW ?_ _))) hb1
    have s1 : w.heap.size ≤ w1.heap.size := B1.size
    have z1_0 : w.heap.size < w1.heap.size := by have := hb1.size; (try simp at this); omega
    have y1_0 : w.heap.size ≤ w1.heap.size := Nat.le_of_lt z1_0
    have c1_0 := fun o => hb1.cell (p := ⟨w.heap.size, o, none⟩) (by first | omega | (simp <;> omega))
    have f1_0 := fun o => hb1.frozen (p := ⟨w.heap.size, o, none⟩) (by first | omega | (simp <;> omega))
    have z1_1 : w.heap.size + 1 < w1.heap.size := by have := hb1.size; (try simp at this); omega
    have y1_1 : w.heap.size + 1 ≤ w1.heap.size := Nat.le_of_lt z1_1
    have c1_1 := fun o => hb1.cell (p := ⟨w.heap.size + 1, o, none⟩) (by first | omega | (simp <;> omega))
    have f1_1 := fun o => hb1.frozen (p := ⟨w.heap.size + 1, o, none⟩) (by first | omega | (simp <;> omega))
    have z1_2 : w.heap.size + 1 + 1 < w1.heap.size := by have := hb1.size; (try simp at this); omega
    have y1_2 : w.heap.size + 1 + 1 ≤ w1.heap.size := Nat.le_of_lt z1_2
    have c1_2 := fun o => hb1.cell (p := ⟨w.heap.size + 1 + 1, o, none⟩) (by first | omega | (simp <;> omega))
    have f1_2 := fun o => hb1.frozen (p := ⟨w.heap.size + 1 + 1, o, none⟩) (by first | omega | (simp <;> omega))
    have KD := Lib.hid ((HD.out.below B1).below ((Below.refl w1.heap.size w1).alloc (Nat.le_refl _) (.cells #[.int .i64 l] 3)))
    have WA := (Below.refl w1.heap.size w1).alloc (Nat.le_refl _) (.cells #[.int .i64 l] 3)
    have ca := (WA.cell (p := ⟨w.heap.size, 0, none⟩) z1_0).trans ((c1_0 0).trans HA.out)
    have cb := (WA.cell (p := ⟨w.heap.size + 1, 0, none⟩) z1_1).trans ((c1_1 0).trans HB.out)
    have HA1 := Lib.hid ca
    have HB1 := Lib.hid cb
    clear ca cb WA hb1
    go_wp2_with fail
    refine (sum_Between _ g K l k r F a b w1.heap.size w.heap.size (w.heap.size + 1) KD.out hn (by go_simp) HA1.out HB1.out).mono ?_
    rintro e w2 ⟨rfl, hb2⟩
    have B2 : Below w.heap.size w w2 := Below.then_ (by repeat (first | with_reducible exact Below.refl _ _ | with_reducible assumption | ((with_reducible refine Below.setCell ?_ ?_ _); rotate_left; · (first | omega | exact Nat.le_refl _ | (simp <;> omega))) | (with_reducible refine Below.allocW ?_ _) | (with_reducible refine Below.drew ?_) | (with_reducible refine Below.extW ?_ _))) hb2
    have s2 : w.heap.size ≤ w2.heap.size := B2.size
    have z2_0 : w.heap.size + 1 + 1 < w2.heap.size := by have := hb2.size; (try simp at this); omega
    have y2_0 : w.heap.size + 1 + 1 ≤ w2.heap.size := Nat.le_of_lt z2_0
    have c2_0 := fun o => hb2.cell (p := ⟨w.heap.size + 1 + 1, o, none⟩) (by first | omega | (simp <;> omega))
    have f2_0 := fun o => hb2.frozen (p := ⟨w.heap.size + 1 + 1, o, none⟩) (by first | omega | (simp <;> omega))
    go_wp2_with fail
    exact bodyPost_ret (v := .tuple #[.agg #[.int .i64 (betwLow l r a b), .int .i64 (betwHigh l r a b)], .int .i64 0]) (by simp only [results, Tryz.results138]; go_simp) rfl ⟨rfl, (by repeat (first | with_reducible exact Below.refl _ _ | with_reducible assumption | ((with_reducible refine Below.setCell ?_ ?_ _); rotate_left; · (first | omega | exact Nat.le_refl _ | (simp <;> omega))) | (with_reducible refine Below.allocW ?_ _) | (with_reducible refine Below.drew ?_) | (with_reducible refine Below.extW ?_ _)))⟩
theorem reach_Between_nil (w : World) (a b : Int) :
    Calls Tryz.prog 138 #[.pointer none, .int .i64 a, .int .i64 b] w fun e w' => e = .returned (bothV (0, 0, 1)) ∧ Below w.heap.size w w' := by
  unfold bothV
  go_enter Tryz.func138, Tryz.ntmps138
  go_wp2_with fail
  exact bodyPost_ret (v := .tuple #[.agg #[.int .i64 0, .int .i64 0], .int .i64 1]) (by simp only [results, Tryz.results138]; go_simp) rfl ⟨rfl, (by repeat (first | with_reducible exact Below.refl _ _ | with_reducible assumption | ((with_reducible refine Below.setCell ?_ ?_ _); rotate_left; · (first | omega | exact Nat.le_refl _ | (simp <;> omega))) | (with_reducible refine Below.allocW ?_ _) | (with_reducible refine Below.drew ?_) | (with_reducible refine Below.extW ?_ _)))⟩
end Go.Proofs.YtajhjbiokbgebaaGreat
/- Package rank: tables. -/
namespace Go.Proofs.YtajhjbiokbgebaaGreat
open Go.ChangeShapes Go.WideShapes Go.ChangeAt Go.RowKit
set_option linter.unusedVariables false
set_option maxRecDepth 100000

/-- What a table says of a number. -/
def upT (t : List Nd) (x : Int) : Int := if atMost t x = 0 then 0 else (t.getD (atMost t x - 1) (0, 0)).2
theorem Tab.upT {l t : List Nd} (h : Tab l t) (x : Int) : upT t x = wUp l x := by
  unfold Go.Proofs.YtajhjbiokbgebaaGreat.upT
  by_cases h0 : atMost t x = 0
  · rw [if_pos h0, h.none h0]
  · have hi : atMost t x - 1 < t.length := by have := atMost_le t x; omega
    rw [if_neg h0, getD_at hi, h.some h0 hi]
theorem upTo_closure (W : World) (b2 b3 i n c2 blk off : Nat) (v2 : Value) (x y : Int) (hi : i < n) (hn : n ≤ 67108864) (h2 : W.cell? ⟨b2, 0, none⟩ = some (.slice (some ⟨blk, off, none⟩) n c2)) (h3 : W.cell? ⟨b3, 0, none⟩ = some (.int .i64 x)) (h4 : W.cell? ⟨blk, off + i, none⟩ = some (.int .i64 y)) :
    Calls Tryz.prog 165 (#[.int .i64 i] ++ #[.pointer (some ⟨b2, 0, none⟩), .pointer (some ⟨b3, 0, none⟩)]) W fun e w' => e = .returned (.bool (decide (x < y))) ∧ ∃ q os, w' = Go.Sort.grow (W.drewN q) os := by
  have hi1 : (i : Int) < (n : Int) := by omega
  go_enter Tryz.func165, Tryz.ntmps165
  go_wp2_with fail
  go_region
  all_goals go_wp2_with fail
  all_goals go_ret
  all_goals exact ⟨rfl, 1, #[], by rw [Go.Sort.grow_empty]; rfl⟩
theorem enters_upTo : ∀ args W, (callFunc 165 args).run Tryz.prog W = .ok (.enter 165 args) W := enters_of Tryz.func165 (by kernel_rfl) rfl
theorem rise_mono {t : List Nd} (hr : t.Pairwise fun a b => a.1 < b.1) (x : Int) (a b : Nat) (hab : a ≤ b) (hb : b < t.length) (h : decide (x < (t.getD a (0, 0)).1) = true) : decide (x < (t.getD b (0, 0)).1) = true := by
  rw [getD_at (by omega)] at h
  rw [getD_at hb]
  simp only [decide_eq_true_eq] at h ⊢
  rcases Nat.lt_or_ge a b with hlt | hge
  · have := List.pairwise_iff_getElem.1 hr a b (by omega) hb hlt; omega
  · obtain rfl : a = b := by omega
    exact h
theorem sums_upTo (w : World) (A1 A2 : Option Addr) (c1 c2 : Nat) (t : List Nd) (x : Int) (h1 : Sl w w.heap.size encZ A1 (t.map (·.1))) (h2 : Sl w w.heap.size encZ A2 (t.map (·.2))) (hm : t.length ≤ 67108864) (hr : t.Pairwise fun a b => a.1 < b.1) :
    Calls Tryz.prog 87 #[.agg #[.slice A1 t.length c1, .slice A2 t.length c2], .int .i64 x] w fun e w' => e = .returned (.int .i64 (upT t x)) ∧ Below w.heap.size w w' := by
  obtain ⟨W0, hW0⟩ : ∃ W0, W0 = (w.alloc (.cells #[.slice A1 t.length c1, .slice A2 t.length c2] 139)).alloc (.cells #[.int .i64 x] 3) := ⟨_, rfl⟩
  have hsz : W0.heap.size = w.heap.size + 1 + 1 := by rw [hW0]; simp
  have B0 : Below w.heap.size w W0 := by rw [hW0]; exact (by repeat (first | with_reducible exact Below.refl _ _ | with_reducible assumption | ((with_reducible refine Below.setCell ?_ ?_ _); rotate_left; · (first | omega | exact Nat.le_refl _ | (simp <;> omega))) | (with_reducible refine Below.allocW ?_ _) | (with_reducible refine Below.drew ?_) | (with_reducible refine Below.extW ?_ _)))
  have k0 : W0.cell? ⟨w.heap.size, 0, none⟩ = some (.slice A1 t.length c1) := by rw [hW0]; go_simp
  have k1 : W0.cell? ⟨w.heap.size, 1, none⟩ = some (.slice A2 t.length c2) := by rw [hW0]; go_simp
  have k2 : W0.cell? ⟨w.heap.size + 1, 0, none⟩ = some (.int .i64 x) := by rw [hW0]; go_simp
  have hS := Go.Proofs.Any.sort_Search Tryz.search 165 #[.pointer (some ⟨w.heap.size, 0, none⟩), .pointer (some ⟨w.heap.size + 1, 0, none⟩)] t.length (fun i => decide (x < (t.getD i (0, 0)).1)) W0 enters_upTo (by omega)
    (fun m os i hi => by
      rw [getD_at hi]
      rcases h1 with h1 | ⟨blk, off, rfl, hb, hc⟩
      · have : t.length = 0 := by have := congrArg List.length h1; simpa using this
        omega
      · have hc' := hc i t[i].1 (by simp [hi]) 0 (.int .i64 t[i].1) rfl
        simp only [Nat.add_zero, Nat.mul_one] at hc'
        refine upTo_closure _ w.heap.size (w.heap.size + 1) i t.length c1 blk off undef x t[i].1 hi hm (Go.cell_grown (by simp only [hsz]; omega) k0 m os) (Go.cell_grown (by simp only [hsz]; omega) k2 m os) (Go.cell_grown (by simp only [hsz]; omega) ((B0.cell (p := ⟨blk, off + i, none⟩) hb).trans hc') m os))
    (rise_mono hr x)
  have HS : Hid (Calls Tryz.prog 164 #[.int .i64 t.length, .func (.func 165) #[] #[.pointer (some ⟨w.heap.size, 0, none⟩), .pointer (some ⟨w.heap.size + 1, 0, none⟩)]] W0 fun e w' => e = .returned (.int .i64 (atMost t x)) ∧ ∃ q os, w' = Go.Sort.grow (W0.drewN q) os) := Lib.hid hS
  have hle := atMost_le t x
  have H2 := Lib.hid h2
  have HW := Lib.hid hW0
  have K1 := Lib.hid k1
  have HB0 := Lib.hid B0
  have HZ := Lib.hid hsz
  clear hS h1 h2 hr k0 k1 k2 B0 hsz hW0
  unfold upT
  generalize hk : atMost t x = k at HS hle ⊢
  clear hk
  by_cases hk0 : k = 0
  · subst hk0
    rw [if_pos rfl]
    go_enter Tryz.func87, Tryz.ntmps87
    go_wp2_with fail
    rw [← HW.out]
    refine HS.out.mono ?_
    rintro e w1 ⟨rfl, q, os, rfl⟩
    go_wp2_with fail
    go_ret
    exact ⟨rfl, HB0.out.trans (Go.Proofs.below_grown_sl w.heap.size W0 q os (by have := HZ.out; omega))⟩
  · rw [if_neg hk0]
    obtain ⟨m, rfl⟩ : ∃ m, k = m + 1 := ⟨k - 1, by omega⟩
    simp only [Nat.add_sub_cancel]
    have hm1 : m < t.length := by omega
    rw [getD_at hm1]
    have g0 : ((m + 1 : Nat) == 0) = false := by simp
    have g2 : (m : Int) < (t.length : Int) := by omega
    obtain ⟨blk, off, rfl, hb, hc⟩ := H2.out.at_ (k := m) (by simpa using hm1)
    have hc' := hc 0 (.int .i64 t[m].2) (by simp [encZ])
    simp only [Nat.add_zero, Nat.mul_one] at hc'
    generalize t[m].2 = z at hc' ⊢
    clear hc
    go_enter Tryz.func87, Tryz.ntmps87
    go_wp2_with fail
    rw [← HW.out]
    refine HS.out.mono ?_
    rintro e w1 ⟨rfl, q, os, hw1⟩
    have hB1 : Below w.heap.size w w1 := by rw [hw1]; exact HB0.out.trans (Go.Proofs.below_grown_sl w.heap.size W0 q os (by have := HZ.out; omega))
    have c1' : w1.cell? ⟨w.heap.size, 1, none⟩ = some (.slice (some ⟨blk, off, none⟩) t.length c2) := by rw [hw1]; exact Go.cell_grown (by have := HZ.out; simp only; omega) K1.out q os
    have c2' := (hB1.cell (p := ⟨blk, off + m, none⟩) hb).trans hc'
    clear hw1 hc'
    go_wp2_with fail
    go_ret
    exact ⟨rfl, hB1⟩
end Go.Proofs.YtajhjbiokbgebaaGreat
/- Package bag: what is read of it. -/
namespace Go.Proofs.YtajhjbiokbgebaaGreat
open Go.ChangeShapes Go.WideShapes Go.ChangeAt Go.RowKit
set_option linter.unusedVariables false
set_option linter.unusedSimpArgs false
set_option maxRecDepth 100000

theorem count_range {m : List Nd} {p : Int → Bool} : (List.range m.length).countP (fun i => !p (m.getD i (0, 0)).1) = m.countP fun z => !p z.1 := by
  have h : m = (List.range m.length).map fun i => m.getD i (0, 0) := by
    apply List.ext_getElem
    · simp
    · intro i h1 h2
      simp only [List.getElem_map, List.getElem_range]
      rw [getD_at h1]
  conv => rhs; rw [h, List.countP_map]
  rfl
theorem cut_count {p : Int → Bool} (hp : ∀ a b, a ≤ b → p a = true → p b = true) : ∀ {m : List Nd}, (m.Pairwise fun a b => a.1 < b.1) → CutAt m (fun v => p v = true) (m.countP fun z => !p z.1) := by
  intro m
  induction m with
  | nil => intro _; exact ⟨by simp, by simp, by simp⟩
  | cons z m ih =>
    intro hup
    obtain ⟨h1, h2⟩ := List.pairwise_cons.1 hup
    cases hz : p z.1
    · have k := ih h2
      rw [List.countP_cons_of_pos (by simp [hz])]
      refine ⟨by have := k.le; simp; omega, fun y hy => ?_, fun y hy => k.behind y (by simpa using hy)⟩
      rw [List.take_succ_cons] at hy
      rcases List.mem_cons.1 hy with rfl | hy
      · simp [hz]
      · exact k.ahead y hy
    · have e : (z :: m).countP (fun z => !p z.1) = 0 := by
        rw [List.countP_eq_zero]
        intro y hy
        rcases List.mem_cons.1 hy with rfl | hy
        · simp [hz]
        · simp [hp _ _ (Int.le_of_lt (h1 y hy)) hz]
      rw [e]
      refine ⟨by simp, by simp, fun y hy => ?_⟩
      rcases List.mem_cons.1 (by simpa using hy) with rfl | hy
      · exact hz
      · exact hp _ _ (Int.le_of_lt (h1 y hy)) hz
/-- The bag in block g. -/
def BagS (w : World) (base g : Nat) (l s : Int) (m : List Nd) : Prop := ∃ v, w.heap[g]? = some (.cells #[.int .i64 l, .int .i64 s, v] 179 (0, 0)) ∧ base ≤ g ∧ Own w base 96 encN v m
abbrev BagAt (w : World) (base g : Nat) (l : Int) (m : List Nd) : Prop := BagS w base g l (sumR m) m
theorem BagS.below {w w' : World} {base g : Nat} {l s : Int} {m : List Nd} (h : BagS w base g l s m) (hb : Below w.heap.size w w') : BagS w' base g l s m := by
  obtain ⟨v, hh, hg, ho⟩ := h
  exact ⟨v, blk_below hh hb, hg, ho.below hb⟩
theorem BagS.mono {w : World} {base base' g : Nat} {l s : Int} {m : List Nd} (h : BagS w base g l s m) (hb : base' ≤ base) : BagS w base' g l s m := by
  obtain ⟨v, hh, hg, ho⟩ := h
  exact ⟨v, hh, Nat.le_trans hb hg, ho.imp id fun ⟨g, off, cap, cur, h1, h2, h3⟩ => ⟨g, off, cap, cur, h1, Nat.le_trans hb h2, h3⟩⟩
theorem bag_L (w : World) (base g : Nat) (l : Int) (m : List Nd) (h : BagAt w base g l m) : Calls Tryz.prog 100 #[.pointer (some ⟨g, 0, none⟩)] w fun e w' => e = .returned (.int .i64 l) ∧ Below w.heap.size w w' := by
  obtain ⟨v, hh, _⟩ := h
  have c := blk_cell hh
  have z := lt_of_block hh
  clear hh
  go_enter Tryz.func100, Tryz.ntmps100
  go_wp2_with fail
  go_ret
  exact ⟨rfl, (by repeat (first | with_reducible exact Below.refl _ _ | with_reducible assumption | ((with_reducible refine Below.setCell ?_ ?_ _); rotate_left; · (first | omega | exact Nat.le_refl _ | (simp <;> omega))) | (with_reducible refine Below.allocW ?_ _) | (with_reducible refine Below.drew ?_) | (with_reducible refine Below.extW ?_ _)))⟩
theorem bag_Total (w : World) (base g : Nat) (l : Int) (m : List Nd) (h : BagAt w base g l m) : Calls Tryz.prog 95 #[.pointer (some ⟨g, 0, none⟩)] w fun e w' => e = .returned (.int .i64 (sumR m)) ∧ Below w.heap.size w w' := by
  obtain ⟨v, hh, _⟩ := h
  have c := blk_cell hh
  have z := lt_of_block hh
  clear hh
  go_enter Tryz.func95, Tryz.ntmps95
  go_wp2_with fail
  go_ret
  exact ⟨rfl, (by repeat (first | with_reducible exact Below.refl _ _ | with_reducible assumption | ((with_reducible refine Below.setCell ?_ ?_ _); rotate_left; · (first | omega | exact Nat.le_refl _ | (simp <;> omega))) | (with_reducible refine Below.allocW ?_ _) | (with_reducible refine Below.drew ?_) | (with_reducible refine Below.extW ?_ _)))⟩
theorem bag_New_no (w : World) (l : Int) (h : l < 1 ∨ 48 < l) : Calls Tryz.prog 111 #[.int .i64 l] w fun e w' => e = .returned (.tuple #[.pointer none, .int .i64 2]) ∧ Below w.heap.size w w' := by
  by_cases h1 : l < 1
  · go_enter Tryz.func111, Tryz.ntmps111
    go_wp2_with fail
    go_ret2
    exact ⟨rfl, (by repeat (first | with_reducible exact Below.refl _ _ | with_reducible assumption | ((with_reducible refine Below.setCell ?_ ?_ _); rotate_left; · (first | omega | exact Nat.le_refl _ | (simp <;> omega))) | (with_reducible refine Below.allocW ?_ _) | (with_reducible refine Below.drew ?_) | (with_reducible refine Below.extW ?_ _)))⟩
  · have h2 : 48 < l := by omega
    have h1' : decide (l < 1) = false := by simpa using h1
    go_enter Tryz.func111, Tryz.ntmps111
    go_wp2_with fail
    go_ret2
    exact ⟨rfl, (by repeat (first | with_reducible exact Below.refl _ _ | with_reducible assumption | ((with_reducible refine Below.setCell ?_ ?_ _); rotate_left; · (first | omega | exact Nat.le_refl _ | (simp <;> omega))) | (with_reducible refine Below.allocW ?_ _) | (with_reducible refine Below.drew ?_) | (with_reducible refine Below.extW ?_ _)))⟩
theorem bag_New (w : World) (l : Int) (h1 : 1 ≤ l) (h2 : l ≤ 48) : Calls Tryz.prog 111 #[.int .i64 l] w fun e w' => e = .returned (.tuple #[.pointer (some ⟨w.heap.size, 0, none⟩), .int .i64 0]) ∧ BagAt w' w.heap.size w.heap.size l [] ∧ Below w.heap.size w w' := by
  have k1 : decide (l < 1) = false := by simpa using h1
  have k2 : decide (48 < l) = false := by simpa using h2
  go_enter Tryz.func111, Tryz.ntmps111
  go_wp2_with fail
  go_ret2
  exact ⟨rfl, ⟨.slice none 0 0, heap_alloc_new w _, Nat.le_refl _, .nil _ _ _ _⟩, (by repeat (first | with_reducible exact Below.refl _ _ | with_reducible assumption | ((with_reducible refine Below.setCell ?_ ?_ _); rotate_left; · (first | omega | exact Nat.le_refl _ | (simp <;> omega))) | (with_reducible refine Below.allocW ?_ _) | (with_reducible refine Below.drew ?_) | (with_reducible refine Below.extW ?_ _)))⟩
theorem bag_place_closure (W : World) (b2 b3 i n c2 blk off g : Nat) (x y : Int) (hi : i < n) (hn : n ≤ 72057594037927935) (h2 : W.cell? ⟨b2, 0, none⟩ = some (.pointer (some ⟨g, 0, none⟩))) (h3 : W.cell? ⟨b3, 0, none⟩ = some (.int .i64 x)) (hg : W.cell? ⟨g, 2, none⟩ = some (.slice (some ⟨blk, off, none⟩) n c2)) (h4 : W.cell? ⟨blk, off + i * 2, none⟩ = some (.int .i64 y)) :
    Calls Tryz.prog 239 (#[.int .i64 i] ++ #[.pointer (some ⟨b2, 0, none⟩), .pointer (some ⟨b3, 0, none⟩)]) W fun e w' => e = .returned (.bool (decide (x ≤ y))) ∧ ∃ q os, w' = Go.Sort.grow (W.drewN q) os := by
  have hi1 : (i : Int) < (n : Int) := by omega
  go_enter Tryz.func239, Tryz.ntmps239
  go_wp2_with fail
  go_region
  all_goals go_wp2_with fail
  all_goals go_ret
  all_goals exact ⟨rfl, 1, #[], by rw [Go.Sort.grow_empty]; rfl⟩
theorem bag_above_closure (W : World) (b2 b3 i n c2 blk off g : Nat) (x y : Int) (hi : i < n) (hn : n ≤ 72057594037927935) (h2 : W.cell? ⟨b2, 0, none⟩ = some (.pointer (some ⟨g, 0, none⟩))) (h3 : W.cell? ⟨b3, 0, none⟩ = some (.int .i64 x)) (hg : W.cell? ⟨g, 2, none⟩ = some (.slice (some ⟨blk, off, none⟩) n c2)) (h4 : W.cell? ⟨blk, off + i * 2, none⟩ = some (.int .i64 y)) :
    Calls Tryz.prog 183 (#[.int .i64 i] ++ #[.pointer (some ⟨b2, 0, none⟩), .pointer (some ⟨b3, 0, none⟩)]) W fun e w' => e = .returned (.bool (decide (x < y))) ∧ ∃ q os, w' = Go.Sort.grow (W.drewN q) os := by
  have hi1 : (i : Int) < (n : Int) := by omega
  go_enter Tryz.func183, Tryz.ntmps183
  go_wp2_with fail
  go_region
  all_goals go_wp2_with fail
  all_goals go_ret
  all_goals exact ⟨rfl, 1, #[], by rw [Go.Sort.grow_empty]; rfl⟩
theorem enters_place : ∀ args W, (callFunc 239 args).run Tryz.prog W = .ok (.enter 239 args) W := enters_of Tryz.func239 (by kernel_rfl) rfl
theorem enters_above : ∀ args W, (callFunc 183 args).run Tryz.prog W = .ok (.enter 183 args) W := enters_of Tryz.func183 (by kernel_rfl) rfl
theorem bag_place (w : World) (base g : Nat) (l s : Int) (m : List Nd) (x : Int) (h : BagS w base g l s m) (hm : m.length ≤ 72057594037927935) (hup : m.Pairwise fun a b => a.1 < b.1) :
    Calls Tryz.prog 181 #[.pointer (some ⟨g, 0, none⟩), .int .i64 x] w fun e w' => ∃ i : Nat, e = .returned (.int .i64 i) ∧ CutAt m (fun v => x ≤ v) i ∧ Below w.heap.size w w' := by
  obtain ⟨v, hh, hg, ho⟩ := h
  obtain ⟨A, cap, rfl, hcap, hmx, hS, _⟩ := ho.form
  have z := lt_of_block hh
  obtain ⟨W0, hW0⟩ : ∃ W0, W0 = (w.alloc (.cells #[.pointer (some ⟨g, 0, none⟩)] 71)).alloc (.cells #[.int .i64 x] 3) := ⟨_, rfl⟩
  have hsz : W0.heap.size = w.heap.size + 1 + 1 := by rw [hW0]; simp
  have B0 : Below w.heap.size w W0 := by rw [hW0]; exact (by repeat (first | with_reducible exact Below.refl _ _ | with_reducible assumption | ((with_reducible refine Below.setCell ?_ ?_ _); rotate_left; · (first | omega | exact Nat.le_refl _ | (simp <;> omega))) | (with_reducible refine Below.allocW ?_ _) | (with_reducible refine Below.drew ?_) | (with_reducible refine Below.extW ?_ _)))
  have k0 : W0.cell? ⟨w.heap.size, 0, none⟩ = some (.pointer (some ⟨g, 0, none⟩)) := by rw [hW0]; go_simp
  have k2 : W0.cell? ⟨w.heap.size + 1, 0, none⟩ = some (.int .i64 x) := by rw [hW0]; go_simp
  have cg : w.cell? ⟨g, 2, none⟩ = some (.slice A m.length cap) := by rw [blk_cell hh]; rfl
  have kg : W0.cell? ⟨g, 2, none⟩ = some (.slice A m.length cap) := (B0.cell (p := ⟨g, 2, none⟩) z).trans cg
  have hmono : ∀ a b : Int, a ≤ b → decide (x ≤ a) = true → decide (x ≤ b) = true := fun a b h1 h2 => by simp only [decide_eq_true_eq] at h2 ⊢; omega
  have hS' := Go.Proofs.Any.sort_Search Tryz.search 239 #[.pointer (some ⟨w.heap.size, 0, none⟩), .pointer (some ⟨w.heap.size + 1, 0, none⟩)] m.length (fun i => decide (x ≤ (m.getD i (0, 0)).1)) W0 enters_place (by omega)
    (fun q os i hi => by
      rw [getD_at hi]
      rcases hS with h1 | ⟨blk, off, rfl, hb, hc⟩
      · subst h1; simp at hi
      · have hc' := hc i m[i] (List.getElem?_eq_getElem hi) 0 (.int .i64 m[i].1) rfl
        simp only [Nat.add_zero] at hc'
        exact bag_place_closure _ w.heap.size (w.heap.size + 1) i m.length cap blk off g x m[i].1 hi hm (Go.cell_grown (by simp only [hsz]; omega) k0 q os) (Go.cell_grown (by simp only [hsz]; omega) k2 q os) (Go.cell_grown (by simp only [hsz]; omega) kg q os) (Go.cell_grown (by simp only [hsz]; omega) ((B0.cell (p := ⟨blk, off + i * 2, none⟩) hb).trans hc') q os))
    (fun a b hab hb h => by
      rw [getD_at (by omega)] at h
      rw [getD_at hb]
      rcases Nat.lt_or_ge a b with hlt | hge
      · exact hmono _ _ (Int.le_of_lt (List.pairwise_iff_getElem.1 hup a b (by omega) hb hlt)) h
      · obtain rfl : a = b := by omega
        exact h)
  have hcut := cut_count (p := fun v => decide (x ≤ v)) hmono hup
  have ecnt := count_range (m := m) (p := fun v => decide (x ≤ v))
  rw [ecnt] at hS'
  obtain ⟨i, hi⟩ : ∃ i, i = m.countP fun z => !decide (x ≤ z.1) := ⟨_, rfl⟩
  rw [← hi] at hS' hcut
  have HS : Hid (Calls Tryz.prog 164 #[.int .i64 m.length, .func (.func 239) #[] #[.pointer (some ⟨w.heap.size, 0, none⟩), .pointer (some ⟨w.heap.size + 1, 0, none⟩)]] W0 fun e w' => e = .returned (.int .i64 i) ∧ ∃ q os, w' = Go.Sort.grow (W0.drewN q) os) := Lib.hid hS'
  have HC : Hid (CutAt m (fun v => x ≤ v) i) := Lib.hid ⟨hcut.le, fun y hy => by have := hcut.ahead y hy; simpa using this, fun y hy => by have := hcut.behind y hy; simpa using this⟩
  have HW := Lib.hid hW0
  have HB0 := Lib.hid B0
  have HZ := Lib.hid hsz
  have cg' : ((w.alloc (.cells #[.pointer (some ⟨g, 0, none⟩)] 71)).alloc (.cells #[.int .i64 x] 3)).cell? ⟨g, 2, none⟩ = some (.slice A m.length cap) := by rw [← hW0]; exact kg
  clear hS' hS hcut ecnt hi k0 k2 kg B0 hsz hW0 hh ho cg hup hmono hcap
  go_enter Tryz.func181, Tryz.ntmps181
  go_wp2_with fail
  rw [← HW.out]
  refine HS.out.mono ?_
  rintro e w1 ⟨rfl, q, os, rfl⟩
  go_wp2_with fail
  go_ret
  exact ⟨i, rfl, HC.out, HB0.out.trans (Go.Proofs.below_grown_sl w.heap.size W0 q os (by have := HZ.out; omega))⟩
theorem bag_above (w : World) (base g : Nat) (l s : Int) (m : List Nd) (x : Int) (h : BagS w base g l s m) (hm : m.length ≤ 72057594037927935) (hup : m.Pairwise fun a b => a.1 < b.1) :
    Calls Tryz.prog 104 #[.pointer (some ⟨g, 0, none⟩), .int .i64 x] w fun e w' => ∃ i : Nat, e = .returned (.int .i64 i) ∧ CutAt m (fun v => x < v) i ∧ Below w.heap.size w w' := by
  obtain ⟨v, hh, hg, ho⟩ := h
  obtain ⟨A, cap, rfl, hcap, hmx, hS, _⟩ := ho.form
  have z := lt_of_block hh
  obtain ⟨W0, hW0⟩ : ∃ W0, W0 = (w.alloc (.cells #[.pointer (some ⟨g, 0, none⟩)] 71)).alloc (.cells #[.int .i64 x] 3) := ⟨_, rfl⟩
  have hsz : W0.heap.size = w.heap.size + 1 + 1 := by rw [hW0]; simp
  have B0 : Below w.heap.size w W0 := by rw [hW0]; exact (by repeat (first | with_reducible exact Below.refl _ _ | with_reducible assumption | ((with_reducible refine Below.setCell ?_ ?_ _); rotate_left; · (first | omega | exact Nat.le_refl _ | (simp <;> omega))) | (with_reducible refine Below.allocW ?_ _) | (with_reducible refine Below.drew ?_) | (with_reducible refine Below.extW ?_ _)))
  have k0 : W0.cell? ⟨w.heap.size, 0, none⟩ = some (.pointer (some ⟨g, 0, none⟩)) := by rw [hW0]; go_simp
  have k2 : W0.cell? ⟨w.heap.size + 1, 0, none⟩ = some (.int .i64 x) := by rw [hW0]; go_simp
  have cg : w.cell? ⟨g, 2, none⟩ = some (.slice A m.length cap) := by rw [blk_cell hh]; rfl
  have kg : W0.cell? ⟨g, 2, none⟩ = some (.slice A m.length cap) := (B0.cell (p := ⟨g, 2, none⟩) z).trans cg
  have hmono : ∀ a b : Int, a ≤ b → decide (x < a) = true → decide (x < b) = true := fun a b h1 h2 => by simp only [decide_eq_true_eq] at h2 ⊢; omega
  have hS' := Go.Proofs.Any.sort_Search Tryz.search 183 #[.pointer (some ⟨w.heap.size, 0, none⟩), .pointer (some ⟨w.heap.size + 1, 0, none⟩)] m.length (fun i => decide (x < (m.getD i (0, 0)).1)) W0 enters_above (by omega)
    (fun q os i hi => by
      rw [getD_at hi]
      rcases hS with h1 | ⟨blk, off, rfl, hb, hc⟩
      · subst h1; simp at hi
      · have hc' := hc i m[i] (List.getElem?_eq_getElem hi) 0 (.int .i64 m[i].1) rfl
        simp only [Nat.add_zero] at hc'
        exact bag_above_closure _ w.heap.size (w.heap.size + 1) i m.length cap blk off g x m[i].1 hi hm (Go.cell_grown (by simp only [hsz]; omega) k0 q os) (Go.cell_grown (by simp only [hsz]; omega) k2 q os) (Go.cell_grown (by simp only [hsz]; omega) kg q os) (Go.cell_grown (by simp only [hsz]; omega) ((B0.cell (p := ⟨blk, off + i * 2, none⟩) hb).trans hc') q os))
    (fun a b hab hb h => by
      rw [getD_at (by omega)] at h
      rw [getD_at hb]
      rcases Nat.lt_or_ge a b with hlt | hge
      · exact hmono _ _ (Int.le_of_lt (List.pairwise_iff_getElem.1 hup a b (by omega) hb hlt)) h
      · obtain rfl : a = b := by omega
        exact h)
  have hcut := cut_count (p := fun v => decide (x < v)) hmono hup
  have ecnt := count_range (m := m) (p := fun v => decide (x < v))
  rw [ecnt] at hS'
  obtain ⟨i, hi⟩ : ∃ i, i = m.countP fun z => !decide (x < z.1) := ⟨_, rfl⟩
  rw [← hi] at hS' hcut
  have HS : Hid (Calls Tryz.prog 164 #[.int .i64 m.length, .func (.func 183) #[] #[.pointer (some ⟨w.heap.size, 0, none⟩), .pointer (some ⟨w.heap.size + 1, 0, none⟩)]] W0 fun e w' => e = .returned (.int .i64 i) ∧ ∃ q os, w' = Go.Sort.grow (W0.drewN q) os) := Lib.hid hS'
  have HC : Hid (CutAt m (fun v => x < v) i) := Lib.hid ⟨hcut.le, fun y hy => by have := hcut.ahead y hy; simpa using this, fun y hy => by have := hcut.behind y hy; simpa using this⟩
  have HW := Lib.hid hW0
  have HB0 := Lib.hid B0
  have HZ := Lib.hid hsz
  have cg' : ((w.alloc (.cells #[.pointer (some ⟨g, 0, none⟩)] 71)).alloc (.cells #[.int .i64 x] 3)).cell? ⟨g, 2, none⟩ = some (.slice A m.length cap) := by rw [← hW0]; exact kg
  clear hS' hS hcut ecnt hi k0 k2 kg B0 hsz hW0 hh ho cg hup hmono hcap
  go_enter Tryz.func104, Tryz.ntmps104
  go_wp2_with fail
  rw [← HW.out]
  refine HS.out.mono ?_
  rintro e w1 ⟨rfl, q, os, rfl⟩
  go_wp2_with fail
  go_ret
  exact ⟨i, rfl, HC.out, HB0.out.trans (Go.Proofs.below_grown_sl w.heap.size W0 q os (by have := HZ.out; omega))⟩
theorem bag_weigh (w : World) (base g : Nat) (l : Int) (m : List Nd) (i k : Nat) (h : BagAt w base g l m) (hv : ∀ x ∈ m, 1 ≤ x.2) (hs : sumR m ≤ 72057594037927935) (hk : k ≤ m.length) :
    Calls Tryz.prog 103 #[.pointer (some ⟨g, 0, none⟩), .int .i64 i, .int .i64 k] w fun e w' => e = .returned (.int .i64 (sumR ((m.take k).drop i))) ∧ Below w.heap.size w w' := by
  obtain ⟨v, hh, hg, ho⟩ := h
  obtain ⟨A, cap, rfl, hcap, hmx, hS, _⟩ := ho.form
  have z := lt_of_block hh
  have cg : w.cell? ⟨g, 2, none⟩ = some (.slice A m.length cap) := by rw [blk_cell hh]; rfl
  have hml : (m.length : Int) ≤ 72057594037927935 := by have := (sumR_pos hv).2; omega
  have HS := Lib.hid hS
  have HV := Lib.hid hv
  clear hS hh ho hv hcap
  go_enter Tryz.func103, Tryz.ntmps103
  go_wp2_with fail
  go_loopw [7, 8] (fun n j wr => ∃ q : Nat, i ≤ q ∧ (q ≤ k ∨ q = i) ∧ j = .int .i64 q ∧ n = .int .i64 (sumR ((m.take q).drop i)) ∧ Below w.heap.size w wr) (fun _ j _ => k - (intOf j).toNat)
  case atStart => exact ⟨i, Nat.le_refl _, .inr rfl, rfl, by rw [List.drop_eq_nil_of_le (by rw [List.length_take]; omega)]; rfl, Below.refl _ _⟩
  case round =>
    obtain ⟨q, hq1, hq2, rfl, rfl, hB⟩ := hrel
    by_cases hlt : q < k
    · have hql : q < m.length := by omega
      have hE := take_drop_succ (m := m) hq1 (Nat.lt_of_lt_of_le hlt hk |> fun _ => hlt) hk
      obtain ⟨b, off, rfl, hb, hc⟩ := HS.out.at_ hql
      have d0 := (hB.cell (p := ⟨b, off + q * 2 + 1, none⟩) hb).trans (hc 1 (.int .i64 m[q].2) rfl)
      have d1 := (hB.cell (p := ⟨g, 2, none⟩) z).trans cg
      have lb : b < wr.heap.size := Nat.lt_of_lt_of_le hb hB.size
      have v1 := HV.out _ (List.getElem_mem hql)
      have s0 : 0 ≤ sumR ((m.take q).drop i) := (sumR_pos fun y hy => HV.out y (List.mem_of_mem_take (List.mem_of_mem_drop hy))).1
      have s1 : sumR ((m.take (q + 1)).drop i) ≤ sumR m := by
        have e1 : sumR m = sumR (m.take (q + 1)) + sumR (m.drop (q + 1)) := by rw [← sumR_append, List.take_append_drop]
        have e2 : sumR (m.take (q + 1)) = sumR ((m.take (q + 1)).take i) + sumR ((m.take (q + 1)).drop i) := by rw [← sumR_append, List.take_append_drop]
        have e3 := (sumR_pos (m := m.drop (q + 1)) fun y hy => HV.out y (List.mem_of_mem_drop hy)).1
        have e4 := (sumR_pos (m := (m.take (q + 1)).take i) fun y hy => HV.out y (List.mem_of_mem_take (List.mem_of_mem_take hy))).1
        omega
      have HE := Lib.hid hE
      obtain ⟨c, hc1⟩ : ∃ c, c = m[q].2 := ⟨_, rfl⟩
      rw [← hc1] at d0 v1 hE
      obtain ⟨n, hn⟩ : ∃ n, n = sumR ((m.take q).drop i) := ⟨_, rfl⟩
      rw [← hn] at s0 hE ⊢
      have hsum : n + c ≤ 72057594037927935 := by omega
      have HE2 := Lib.hid hE
      clear hc hE s1 hn
      go_wp2_with fail
      go_roundw
      case rel => exact ⟨q + 1, by omega, by omega, by go_num, by rw [HE2.out]; go_num, hB⟩
      case measure => simp [intOf]; omega
    · have hnlt : decide ((q : Int) < (k : Int)) = false := by simp; omega
      have e1 : sumR ((m.take q).drop i) = sumR ((m.take k).drop i) := by
        rcases hq2 with h | rfl
        · obtain rfl : q = k := by omega
          rfl
        · rw [List.drop_eq_nil_of_le (by rw [List.length_take]; omega), List.drop_eq_nil_of_le (by rw [List.length_take]; omega)]
      rw [e1]
      clear e1
      go_wp2_with fail
      go_ret
      exact ⟨rfl, hB⟩
theorem bag_Rank (w : World) (base g l : Nat) (m : List Nd) (y : Int) (h : BagAt w base g l m) (hm : BagL l m) :
    Calls Tryz.prog 39 #[.pointer (some ⟨g, 0, none⟩), .int .i64 y] w fun e w' => e = .returned (.int .i64 (betwB m 0 y)) ∧ Below w.heap.size w w' := by
  have hlen : m.length ≤ 72057594037927935 := by have := hm.len; have := hm.sum; omega
  have H := Lib.hid h
  have HM := Lib.hid hm
  have c0 : Hid (CutAt m (fun v => 0 ≤ v) 0) := Lib.hid ⟨Nat.zero_le _, by simp, fun z hz => (hm.val z (by simpa using hz)).1⟩
  clear h hm
  go_enter Tryz.func39, Tryz.ntmps39
  go_wp2_with fail
  refine (bag_above w base g l _ m y H.out hlen HM.out.up).mono ?_
  rintro e w1 ⟨k, rfl, hk, hb1⟩
  have HW := Lib.hid (fun W h => bag_weigh W base g l m 0 k h (fun x hx => (HM.out.val x hx).2.2) HM.out.sum hk.le)
  rw [← betwB_cut c0.out hk] at HW
  clear hk
  go_wp2_with fail
  refine (HW.out _ (H.out.below hb1)).mono ?_
  rintro e w2 ⟨rfl, hb2⟩
  go_wp2_with fail
  go_ret
  exact ⟨rfl, Below.then_ hb1 hb2⟩
theorem bag_Between (w : World) (base g l : Nat) (m : List Nd) (x y : Int) (h : BagAt w base g l m) (hm : BagL l m) :
    Calls Tryz.prog 101 #[.pointer (some ⟨g, 0, none⟩), .int .i64 x, .int .i64 y] w fun e w' => e = .returned (.int .i64 (betwB m x y)) ∧ Below w.heap.size w w' := by
  have hlen : m.length ≤ 72057594037927935 := by have := hm.len; have := hm.sum; omega
  have H := Lib.hid h
  have HM := Lib.hid hm
  clear h hm
  go_enter Tryz.func101, Tryz.ntmps101
  go_wp2_with fail
  refine (bag_place w base g l _ m x H.out hlen HM.out.up).mono ?_
  rintro e w1 ⟨i, rfl, hi, hb1⟩
  have HI := Lib.hid hi
  clear hi
  go_wp2_with fail
  refine (bag_above w1 base g l _ m y (H.out.below hb1) hlen HM.out.up).mono ?_
  rintro e w2 ⟨k, rfl, hk, hb2⟩
  have HW := Lib.hid (fun W h => bag_weigh W base g l m i k h (fun x hx => (HM.out.val x hx).2.2) HM.out.sum hk.le)
  rw [← betwB_cut HI.out hk] at HW
  clear hk
  go_wp2_with fail
  refine (HW.out _ ((H.out.below hb1).below hb2)).mono ?_
  rintro e w3 ⟨rfl, hb3⟩
  go_wp2_with fail
  go_ret
  exact ⟨rfl, Below.then_ (Below.then_ hb1 hb2) hb3⟩
end Go.Proofs.YtajhjbiokbgebaaGreat
/- Package bag: what is put into it. -/
namespace Go.Proofs.YtajhjbiokbgebaaGreat
open Go.ChangeShapes Go.WideShapes Go.ChangeAt Go.RowKit
set_option linter.unusedVariables false
set_option linter.unusedSimpArgs false
set_option maxRecDepth 100000

theorem run_copy2 (w : World) (dT sT ty elem : TypeId) (g o dLen dCap : Nat) (a : Addr) (sLen sCap n : Nat) (cur : Array Value) (t : TypeId) (cs : List Value)
    (hu : (Tryz.prog).underlying dT = some (.slice elem)) (hs : ((Tryz.prog).info? elem).map (·.size) = some 2)
    (hg : w.heap[g]? = some (.cells cur t (0, 0))) (hn : n = Nat.min sLen dLen) (hl2 : cs.length = n * 2)
    (hsrc : ∀ j v, cs[j]? = some v → w.cell? (a.add j) = some v) (hfit : o + cs.length ≤ cur.size) (h1 : ∀ v ∈ cs, v.oneCell' = true) :
    (Builtin.copy_ #[dT, sT] ty #[.slice (some ⟨g, o, none⟩) dLen dCap, .slice (some a) sLen sCap]).run Tryz.prog w =
      .ok (goInt n) (w.setRow g (cur.toList.take o ++ cs ++ cur.toList.drop (o + cs.length)).toArray) := by
  have hl := run_loadCells_list (P := Tryz.prog) w a cs hsrc
  have hst := run_storeCells_at Tryz.prog g o t cs 0 cur w hg (by simpa using hfit) h1
  cases hq : (Tryz.prog).info? elem with
  | none => simp [hq] at hs
  | some i =>
    have hi : i.size = 2 := by simpa [hq] using hs
    simp [Builtin.copy_, run_underlying hu, Builtin.lenOf, Builtin.firstCells, sizeOf, typeInfo, hq, hi, ← hn, ← hl2, hl, hst]
theorem run_copy2_none (w : World) (dT sT ty elem : TypeId) (d : Option Addr) (a : Addr) (dLen dCap sLen sCap : Nat) (hu : (Tryz.prog).underlying dT = some (.slice elem)) (hs : ((Tryz.prog).info? elem).map (·.size) = some 2) (hn : Nat.min sLen dLen = 0) :
    (Builtin.copy_ #[dT, sT] ty #[.slice d dLen dCap, .slice (some a) sLen sCap]).run Tryz.prog w = .ok (goInt 0) w := by
  cases hq : (Tryz.prog).info? elem with
  | none => simp [hq] at hs
  | some i =>
    have hl : ∀ (x : Addr), (loadCells x 0).run Tryz.prog w = .ok #[] w := fun x => by simpa using run_loadCells_list (P := Tryz.prog) w x [] (by simp)
    cases d <;> simp [Builtin.copy_, run_underlying hu, Builtin.lenOf, Builtin.firstCells, sizeOf, typeInfo, hq, hn, storeCells, hl]
theorem encN_one (L : List Nd) : ∀ v ∈ L.flatMap encN.enc, v.oneCell' = true := by
  intro v hv
  obtain ⟨x, _, hx⟩ := List.mem_flatMap.1 hv
  simp [encN] at hx
  rcases hx with rfl | rfl <;> rfl
/-- copy(v[i+1:], v[i:]) -/
theorem own_copy {w : World} {base e g off cap : Nat} {L : List Nd} (h : Own w base e encN (.slice (some ⟨g, off, none⟩) L.length cap) L) (i : Nat) (hi : i + 1 ≤ L.length) (dT : TypeId) (hu : (Tryz.prog).underlying dT = some (.slice e)) (hs : ((Tryz.prog).info? e).map (·.size) = some 2) :
    ∃ w', (∀ ty dc sc (A : Option Addr), (i + 1 < L.length → A = some ⟨g, off + (i + 1) * 2, none⟩) → (Builtin.copy_ #[dT, dT] ty #[.slice A (L.length - (i + 1)) dc, .slice (some ⟨g, off + i * 2, none⟩) (L.length - i) sc]).run Tryz.prog w = .ok (goInt ((L.length - (i + 1) : Nat))) w') ∧
      Own w' base e encN (.slice (some ⟨g, off, none⟩) L.length cap) (L.take (i + 1) ++ (L.drop i).take (L.length - (i + 1))) ∧ (∀ b, b ≠ g → w'.heap[b]? = w.heap[b]?) ∧ Below base w w' ∧ w.heap.size ≤ w'.heap.size := by
  rcases h with ⟨hv, _⟩ | ⟨g', o', c', cur, hv, hg, hh, h1, h2, h3, h4⟩
  · cases hv
  cases hv
  obtain ⟨n, hn⟩ : ∃ n, n = L.length - (i + 1) := ⟨_, rfl⟩
  obtain ⟨D, hD⟩ : ∃ D, D = (L.drop i).take n := ⟨_, rfl⟩
  have hDl : D.length = n := by rw [hD]; simp; omega
  have hcl : (D.flatMap encN.enc).length = n * 2 := by rw [flat_len, hDl]
  have e0 : L.length * 2 ≤ cap * 2 := Nat.mul_le_mul_right _ h1
  have hDget : ∀ k x, D[k]? = some x → L[i + k]? = some x := fun k x hk => by
    rw [hD, List.getElem?_take] at hk
    split at hk
    · rwa [List.getElem?_drop] at hk
    · cases hk
  have hsrc : ∀ j v, (D.flatMap encN.enc)[j]? = some v → w.cell? ((⟨g, off + i * 2, none⟩ : Addr).add j) = some v := fun j v hj => by
    obtain ⟨k, x, q, hk, hq, rfl⟩ := flat_inv encN D j v hj
    rw [Addr.add_lit, cell_of_row _ _ _ _ _ _ hh]
    have := h4 _ v (flat_get encN L (i + k) q x v (hDget k x hk) hq)
    rw [← this]; congr 1; omega
  have hfit : off + (i + 1) * 2 + (D.flatMap encN.enc).length ≤ cur.size := by rw [hcl]; omega
  have hlen' : (L.take (i + 1) ++ D).length = L.length := by simp [hDl]; omega
  refine ⟨w.setRow g (cur.toList.take (off + (i + 1) * 2) ++ D.flatMap encN.enc ++ cur.toList.drop (off + (i + 1) * 2 + (D.flatMap encN.enc).length)).toArray, fun ty dc sc A hA => ?_, ?_, fun b hb => setRow_other w g b _ hb, ?_, by simp [World.setRow]⟩
  · by_cases h0 : i + 1 < L.length
    · rw [hA h0, ← hn]
      exact run_copy2 w dT dT ty e g _ n dc ⟨g, off + i * 2, none⟩ (L.length - i) sc n cur e _ hu hs hh (by show n = min (L.length - i) n; omega) hcl hsrc hfit (encN_one D)
    · have hn0 : n = 0 := by omega
      have hD0 : D = [] := List.eq_nil_of_length_eq_zero (by omega)
      rw [run_copy2_none w dT dT ty e A _ _ dc _ sc hu hs (by show min (L.length - i) (L.length - (i + 1)) = 0; omega), hD0]
      simp only [List.flatMap_nil, List.append_nil, List.length_nil, Nat.add_zero, List.take_append_drop, Array.toArray_toList]
      rw [setRow_self w g cur e (0, 0) hh, show L.length - (i + 1) = 0 by omega]
      rfl
  · rw [← hn, ← hD]
    refine .inr ⟨g, off, cap, _, by rw [hlen'], hg, setRow_heap w g _ _ e _ hh, by rw [hlen']; exact h1, h2, ?_, fun q v hq => ?_⟩
    · simp only [List.size_toArray, List.length_append, List.length_take, List.length_drop, Array.length_toList]
      omega
    · obtain ⟨k, x, q', hk, hq', rfl⟩ := flat_inv encN _ q v hq
      have hq2 : q' < 2 := by
        have := (List.getElem?_eq_some_iff.1 hq').1
        rwa [encN.len] at this
      rw [List.getElem?_toArray]
      by_cases hki : k < i + 1
      · rw [List.getElem?_append_left (by simp only [List.length_take]; omega), List.getElem?_take, if_pos hki] at hk
        rw [List.append_assoc, List.getElem?_append_left (by simp only [List.length_take, Array.length_toList]; omega), List.getElem?_take, if_pos (by omega), Array.getElem?_toList]
        exact h4 _ v (flat_get encN L k q' x v hk hq')
      · have hlt : (L.take (i + 1)).length = i + 1 := by simp; omega
        rw [List.getElem?_append_right (by omega), hlt] at hk
        have hkD : k - (i + 1) < D.length := (List.getElem?_eq_some_iff.1 hk).1
        have hct : (cur.toList.take (off + (i + 1) * 2)).length = off + (i + 1) * 2 := by simp; omega
        rw [List.append_assoc, List.getElem?_append_right (by omega), hct, List.getElem?_append_left (by rw [hcl]; omega)]
        rw [show off + (k * 2 + q') - (off + (i + 1) * 2) = (k - (i + 1)) * 2 + q' by omega]
        exact flat_get encN D _ q' x v hk hq'
  · exact (Below.refl base w).trans ⟨rfl, rfl, rfl, by simp [World.setRow], fun k hk => setRow_other w g k _ (by omega)⟩
theorem put_list {m : List Nd} {i : Nat} (hi : i ≤ m.length) (z x : Nd) : ((m ++ [z]).take (i + 1) ++ ((m ++ [z]).drop i).take ((m ++ [z]).length - (i + 1))).set i x = m.take i ++ x :: m.drop i := by
  obtain ⟨a, b, rfl, ha⟩ : ∃ a b, m = a ++ b ∧ a.length = i := ⟨m.take i, m.drop i, (List.take_append_drop i m).symm, by simp; omega⟩
  subst ha
  have e1 : (a ++ b ++ [z]).take (a.length + 1) = a ++ (b ++ [z]).take 1 := by rw [List.append_assoc, List.take_append, List.take_of_length_le (by omega)]; simp
  have e2 : (a ++ b ++ [z]).drop a.length = b ++ [z] := by rw [List.append_assoc, List.drop_left]
  have e3 : ((b ++ [z]).take ((a ++ b ++ [z]).length - (a.length + 1))) = b := by
    rw [show (a ++ b ++ [z]).length - (a.length + 1) = b.length by simp; omega]
    exact List.take_left
  obtain ⟨y, hy⟩ : ∃ y, (b ++ [z]).take 1 = [y] := by cases b <;> exact ⟨_, rfl⟩
  rw [e1, e2, e3, hy, List.take_left, List.drop_left]
  simp [List.set_append]
theorem addR_cut {x : Int} : ∀ {m : List Nd} {i : Nat}, CutAt m (fun v => x ≤ v) i → (m.Pairwise fun a b => a.1 < b.1) → ∀ c, (∀ h : i < m.length, m[i].1 = x → addR m x c = m.set i (x, m[i].2 + c)) ∧ ((i = m.length ∨ ∃ h : i < m.length, m[i].1 ≠ x) → addR m x c = m.take i ++ (x, c) :: m.drop i) := by
  intro m
  induction m with
  | nil =>
    intro i hc _ c
    obtain rfl : i = 0 := by have := hc.le; simpa using this
    exact ⟨fun h => by simp at h, fun _ => rfl⟩
  | cons z m ih =>
    intro i hc hup c
    obtain ⟨u1, u2⟩ := List.pairwise_cons.1 hup
    cases i with
    | zero =>
      have h0 := hc.behind z (by simp)
      refine ⟨fun h hx => ?_, fun h => ?_⟩
      · simp only [List.getElem_cons_zero] at hx
        simp only [addR, if_pos hx, List.getElem_cons_zero, List.set_cons_zero]
      · rcases h with h | ⟨h, hx⟩
        · simp at h
        · simp only [List.getElem_cons_zero] at hx
          simp only [addR, if_neg hx, if_pos (show x < z.1 by omega), List.take_zero, List.drop_zero, List.nil_append]
    | succ i =>
      have h0 := hc.ahead z (by simp)
      have hc' : CutAt m (fun v => x ≤ v) i := ⟨by have := hc.le; simpa using this, fun y hy => hc.ahead y (by rw [List.take_succ_cons]; exact List.mem_cons_of_mem _ hy), fun y hy => hc.behind y (by simpa using hy)⟩
      obtain ⟨k1, k2⟩ := ih hc' u2 c
      have ea : addR (z :: m) x c = z :: addR m x c := by simp only [addR]; rw [if_neg (by omega), if_neg (by omega)]
      refine ⟨fun h hx => ?_, fun h => ?_⟩
      · simp only [List.getElem_cons_succ] at hx
        rw [ea, k1 (by simpa using h) hx]
        simp
      · rw [ea, k2 (by
          rcases h with h | ⟨h, hx⟩
          · exact .inl (by simpa using h)
          · exact .inr ⟨by simpa using h, by simpa using hx⟩)]
        simp
end Go.Proofs.YtajhjbiokbgebaaGreat
/- Package bag: put, Add. -/
namespace Go.Proofs.YtajhjbiokbgebaaGreat
open Go.ChangeShapes Go.WideShapes Go.ChangeAt Go.RowKit
set_option linter.unusedVariables false
set_option linter.unusedSimpArgs false
set_option maxRecDepth 100000

theorem tyRd : SliceTy Tryz.prog 29 96 2 16 (.agg #[.int .i64 0, .int .i64 0]) := ⟨Tryz.underlying29, by kernel_rfl, rfl, by decide⟩
theorem szRd : ((Tryz.prog).info? 96).map (·.size) = some 2 := by kernel_rfl
theorem nq_of {i n cap : Nat} (h : n + 1 ≤ cap) : i + 1 < n + 1 → ¬ (cap = i + 1) := by omega
set_option maxHeartbeats 8000000 in
theorem bag_put (w : World) (base g l : Nat) (m : List Nd) (x c : Int) (h : BagAt w base g l m) (hm : BagL l m) (hc : 1 ≤ c) (hs : sumR m + c ≤ 72057594037927935) (hlen : m.length ≤ 65536) (hb : base ≤ w.heap.size) :
    Calls Tryz.prog 128 #[.pointer (some ⟨g, 0, none⟩), .int .i64 x, .int .i64 c] w fun e w' => e = .returned (.tuple #[]) ∧ BagAt w' base g l (addR m x c) ∧ Below base w w' := by
  obtain ⟨v, hh, hg, ho⟩ := h
  have z := lt_of_block hh
  have c0 := blk_cell hh
  have f0 := blk_frozen hh
  have s0 := hm.sum0
  have hne := ho.ne_block hh (by decide)
  have H1 : Hid (BagS (w.setCell ⟨g, 1, none⟩ (.int .i64 (sumR m + c))) base g l (sumR m + c) m) := Lib.hid ⟨v, heap_set_at (i := 1) hh _, hg, ho.setCell hne _⟩
  have BW := Lib.hid (Below.setCell (p := ⟨g, 1, none⟩) (Below.refl base w) hg (.int .i64 (sumR m + c)))
  have SZ := Lib.hid (show base ≤ (w.setCell ⟨g, 1, none⟩ (.int .i64 (sumR m + c))).heap.size by simp [World.setCell]; exact hb)
  have HUP := Lib.hid hm.up
  have HVAL := Lib.hid (fun y hy => (hm.val y hy).2.2)
  have HN := Lib.hid hs
  have HSUM := Lib.hid (sumR_add m x c)
  obtain ⟨n, hn⟩ : ∃ n, n = sumR m := ⟨_, rfl⟩
  rw [← hn] at s0 hs c0 H1 BW SZ HSUM
  clear hh ho hne hm hn
  go_enter Tryz.func128, Tryz.ntmps128
  go_upto_region 1 with fail
  generalize w.setCell ⟨g, 1, none⟩ (.int .i64 (n + c)) = w0 at H1 BW SZ ⊢
  clear c0 f0 z
  go_wp2_with fail
  refine (bag_place w0 base g l _ m x H1.out (by omega) HUP.out).mono ?_
  rintro e w1 ⟨i, rfl, hi, hb1⟩
  have hile := hi.le
  obtain ⟨hA1, hA2⟩ := addR_cut hi HUP.out c
  have BW1 := Lib.hid (BW.out.trans (hb1.mono SZ.out))
  have SZ1 := Lib.hid (Nat.le_trans SZ.out hb1.size)
  obtain ⟨v1, hh1, hg1, ho1⟩ := H1.out.below hb1
  have H2 := Lib.hid (And.intro hh1 ho1)
  have H3 := Lib.hid hg1
  clear hi hb1 H1 BW SZ hg1
  have z := lt_of_block hh1
  have c1 := blk_cell hh1
  have f1 := blk_frozen hh1
  have hne := ho1.ne_block hh1 (by decide)
  obtain ⟨A, cap, rfl, hcap, hmx, hS, _⟩ := ho1.form
  by_cases him : i < m.length
  · have hmi : (i : Int) < (m.length : Int) := by omega
    obtain ⟨blk1, off1, rfl, hbb, hc2⟩ := hS.at_ him
    have d0 := hc2 0 (.int .i64 m[i].1) rfl
    have d1 := hc2 1 (.int .i64 m[i].2) rfl
    simp only [Nat.add_zero] at d0
    have fr := ho1.frozen (off1 + i * 2 + 1)
    have bl1 := Lib.hid (ho1.lt blk1 rfl).1
    by_cases hx : m[i].1 = x
    · have hA := Lib.hid (hA1 him hx)
      have HS1 := Lib.hid (ho1.setElem i 1 him (by decide) (.int .i64 (m[i].2 + c)) (x, m[i].2 + c) (by simp [encN, hx]))
      have wsm : m[i].2 + c ≤ 72057594037927935 := by have := sum_part HVAL.out him; have := HN.out; omega
      have w0' : 1 ≤ m[i].2 := HVAL.out _ (List.getElem_mem him)
      obtain ⟨q, hq⟩ : ∃ q, q = m[i].2 := ⟨_, rfl⟩
      rw [← hq] at d1 hA HS1 wsm w0'
      rw [hx] at d0
      clear hA1 hA2 hS hc2 hh1 ho1 hq hcap
      go_wp2_with fail
      have HB : BagS (w1.setCell ⟨blk1, off1 + i * 2 + 1, none⟩ (.int .i64 (q + c))) base g l (sumR (addR m x c)) (addR m x c) := by
        rw [HSUM.out, hA.out]
        exact ⟨_, (Below.heap_setCell _ _ _ _ (fun e => hne (by rw [e]; rfl))).trans H2.out.1, H3.out, HS1.out⟩
      exact bodyPost_ret (v := .tuple #[]) (by simp only [results, Tryz.results128]; go_simp) rfl ⟨rfl, HB, Below.setCell (p := ⟨blk1, off1 + i * 2 + 1, none⟩) BW1.out bl1.out _⟩
    · have hx' : (m[i].1 == x) = false := by simpa using hx
      have HL2 := Lib.hid (hA2 (.inr ⟨him, hx⟩))
      clear hA1 hA2
      go_wp2_with ((at_builtin; refine wpList_push tyRd rfl _ _ rfl encN w1 base (.slice (some ⟨blk1, off1, none⟩) m.length cap) m rfl H2.out.2 (0, 0) (by go_simp) rfl ?c1 ?c2 ?c3 ?c4))
      case c1 => omega
      case c2 => simp only [maxLen]; omega
      case c3 => exact SZ1.out
      case c4 =>
        intro v5 w5 ho5 hgrow hsz5 _ hb5 _
        have hh5 := blk_grown_not H2.out.1 hgrow hne
        have hne5 := ho5.ne_block hh5 (by decide)
        have z5 := lt_of_block hh5
        have c5 := blk_cell hh5
        have f5 := blk_frozen hh5
        have BW5 := Lib.hid (BW1.out.trans hb5)
        obtain ⟨A5, cap5, rfl, hcap5, hmx5, hS5, _⟩ := ho5.form
        obtain ⟨blk, off, rfl, hbb, _⟩ := hS5.at_ (k := i) (by simp; omega)
        have hll : (m ++ [((0 : Int), (0 : Int))]).length = m.length + 1 := by simp
        rw [hll] at ho5 hcap5 hne5
        have H6 : Hid ((w5.setCell ⟨g, 2, none⟩ (.slice (some ⟨blk, off, none⟩) (m.length + 1) cap5)).heap[g]? = some (.cells #[.int .i64 l, .int .i64 (n + c), .slice (some ⟨blk, off, none⟩) (m.length + 1) cap5] 179 (0, 0)) ∧ Own (w5.setCell ⟨g, 2, none⟩ (.slice (some ⟨blk, off, none⟩) (m.length + 1) cap5)) base 96 encN (.slice (some ⟨blk, off, none⟩) (m.length + 1) cap5) (m ++ [(0, 0)])) := Lib.hid ⟨heap_set_at (i := 2) hh5 _, ho5.setCell hne5 _⟩
        have BW6 := Lib.hid (Below.setCell (p := ⟨g, 2, none⟩) BW5.out H3.out (.slice (some ⟨blk, off, none⟩) (m.length + 1) cap5))
        rw [hll]
        clear c1 f1 z hS5 ho5 hgrow hb5 hh5 hbb BW5
        go_upto_region 5 with fail
        generalize w5.setCell ⟨g, 2, none⟩ (.slice (some ⟨blk, off, none⟩) (m.length + 1) cap5) = w6 at H6 BW6 ⊢
        clear c5 f5 z5
        have hh6 := H6.out.1
        have ho6 := H6.out.2
        rw [← hll] at ho6
        obtain ⟨w7, hrun, ho7, hblk, hb7, hs7⟩ := own_copy (w := w6.drew) ho6 i (by rw [hll]; omega) 29 Tryz.underlying29 szRd
        rw [hll] at hrun ho7 ho6
        rw [show m.length + 1 - (i + 1) = m.length - i by omega] at hrun
        have HRUN := Lib.hid hrun
        have gne : g ≠ blk := by
          have := ho6.ne_block hh6 (by decide)
          rintro rfl
          exact this rfl
        have hh7 : w7.heap[g]? = _ := (hblk g gne).trans hh6
        have z6 := lt_of_block hh6
        have c6 := blk_cell hh6
        have q1 : i + 1 ≤ m.length + 1 := by omega
        have q2 : ¬ (cap5 = i) := by omega
        have q3 : (i : Int) ≤ (m.length : Int) + 1 := by omega
        have q4 : (0 : Int) ≤ (i : Int) + 1 := by omega
        have q5 : (i : Int) ≤ (m.length : Int) := by omega
        have q6 : ((i : Int) + 1).toNat = i + 1 := by omega
        have q7 : (i : Int) + 1 ≤ (m.length : Int) + 1 := by omega
        have q8 : IntKind.i64.wrap ((i : Int) + 1) = (i : Int) + 1 := by rw [IntKind.wrap_i64]; omega
        have nq : i + 1 < m.length + 1 → ¬ (cap5 = i + 1) := nq_of hcap5
        have hA : i + 1 < m.length + 1 → (if cap5 = i + 1 then some ⟨blk, off, none⟩ else some ⟨blk, off + (i + 1) * 2, none⟩ : Option Addr) = some ⟨blk, off + (i + 1) * 2, none⟩ := fun h => if_neg (nq h)
        have HA := Lib.hid hA
        have H7 := Lib.hid (And.intro hh7 ho7)
        have BW7 := Lib.hid ((Below.drew BW6.out).trans hb7)
        clear hrun hblk hb7 hA hh7 ho7 ho6 hh6 BW6

        go_region_law ((first | refine step_copy_runI rfl _ _ 29 29 rfl _ _ (by simp [Act.eval, Act.put]) (by simp [Act.eval, Act.put]) (HRUN.out _ (cap5 - (i + 1)) (cap5 - i) _ (fun _ => rfl)) ?_ | refine step_copy_runI rfl _ _ 29 29 rfl _ _ (by simp [Act.eval, Act.put]) (by simp [Act.eval, Act.put]) (HRUN.out _ (cap5 - (i + 1)) (cap5 - i) _ HA.out) ?_))
        all_goals
          clear HRUN HA c6 z6 H6 q1 q2 q3 q4 q5 q6 q7 q8 nq
          have i7 : i < (List.take (i + 1) (m ++ [((0 : Int), (0 : Int))]) ++ List.take (m.length + 1 - (i + 1)) (List.drop i (m ++ [(0, 0)]))).length := by simp; omega
          have hl7 : (List.take (i + 1) (m ++ [((0 : Int), (0 : Int))]) ++ List.take (m.length + 1 - (i + 1)) (List.drop i (m ++ [(0, 0)]))).length = m.length + 1 := by simp; omega
          have hpl := put_list (m := m) hile (0, 0) (x, c)
          rw [hll] at hpl
          have HL3 := Lib.hid (hpl.trans HL2.out.symm)
          generalize List.take (i + 1) (m ++ [((0 : Int), (0 : Int))]) ++ List.take (m.length + 1 - (i + 1)) (List.drop i (m ++ [(0, 0)])) = L7 at i7 hl7 H7 HL3
          have ho7 := H7.out.2
          have hS7 := ho7.sl
          obtain ⟨_, _, hv7, hb7, hc7⟩ := hS7.at_ i7
          cases hv7
          have d70 := hc7 0 (.int .i64 L7[i].1) rfl
          have d71 := hc7 1 (.int .i64 L7[i].2) rfl
          simp only [Nat.add_zero] at d70
          have f70 := ho7.frozen (off + i * 2)
          have f71 := ho7.frozen (off + i * 2 + 1)
          have c7 : w7.cell? ⟨g, 2, none⟩ = some (.slice (some ⟨blk, off, none⟩) (m.length + 1) cap5) := by rw [blk_cell H7.out.1]; rfl
          have z7 := lt_of_block H7.out.1
          have hi7 : (i : Int) < (m.length : Int) + 1 := by omega
          have ne7 : blk ≠ g := fun e => gne e.symm
          have HS7 := Lib.hid ((ho7.setElem i 0 i7 (by decide) (.int .i64 x) (x, L7[i].2) rfl).setElem i 1 (by rw [List.length_set]; exact i7) (by decide) (.int .i64 c) (x, c) (by simp [encN]))
          have bl7 := Lib.hid (ho7.lt blk rfl).1
          clear hS7 hc7 ho7 hpl
          go_wp2_with fail
          go_end0
          have HB : BagS ((w7.setCell ⟨blk, off + i * 2, none⟩ (.int .i64 x)).setCell ⟨blk, off + i * 2 + 1, none⟩ (.int .i64 c)) base g l (sumR (addR m x c)) (addR m x c) := by
            have h8 := HS7.out
            rw [List.set_set, HL3.out, Nat.add_zero] at h8
            rw [HSUM.out]
            exact ⟨_, (Below.heap_setCell _ _ _ _ gne).trans ((Below.heap_setCell _ _ _ _ gne).trans H7.out.1), H3.out, h8⟩
          exact ⟨rfl, HB, Below.setCell (p := ⟨blk, off + i * 2 + 1, none⟩) (Below.setCell (p := ⟨blk, off + i * 2, none⟩) BW7.out bl7.out _) bl7.out _⟩
  · have hmi : decide ((i : Int) < (m.length : Int)) = false := by simp; omega
    have HL2 := Lib.hid (hA2 (.inl (by omega)))
    clear hA1 hA2
    go_wp2_with ((at_builtin; refine wpList_push tyRd rfl _ _ rfl encN w1 base (.slice A m.length cap) m rfl H2.out.2 (0, 0) (by go_simp) rfl ?c1 ?c2 ?c3 ?c4))
    case c1 => omega
    case c2 => simp only [maxLen]; omega
    case c3 => exact SZ1.out
    case c4 =>
      intro v5 w5 ho5 hgrow hsz5 _ hb5 _
      have hh5 := blk_grown_not H2.out.1 hgrow hne
      have hne5 := ho5.ne_block hh5 (by decide)
      have z5 := lt_of_block hh5
      have c5 := blk_cell hh5
      have f5 := blk_frozen hh5
      have BW5 := Lib.hid (BW1.out.trans hb5)
      obtain ⟨A5, cap5, rfl, hcap5, hmx5, hS5, _⟩ := ho5.form
      obtain ⟨blk, off, rfl, hbb, _⟩ := hS5.at_ (k := i) (by simp; omega)
      have hll : (m ++ [((0 : Int), (0 : Int))]).length = m.length + 1 := by simp
      rw [hll] at ho5 hcap5 hne5
      have H6 : Hid ((w5.setCell ⟨g, 2, none⟩ (.slice (some ⟨blk, off, none⟩) (m.length + 1) cap5)).heap[g]? = some (.cells #[.int .i64 l, .int .i64 (n + c), .slice (some ⟨blk, off, none⟩) (m.length + 1) cap5] 179 (0, 0)) ∧ Own (w5.setCell ⟨g, 2, none⟩ (.slice (some ⟨blk, off, none⟩) (m.length + 1) cap5)) base 96 encN (.slice (some ⟨blk, off, none⟩) (m.length + 1) cap5) (m ++ [(0, 0)])) := Lib.hid ⟨heap_set_at (i := 2) hh5 _, ho5.setCell hne5 _⟩
      have BW6 := Lib.hid (Below.setCell (p := ⟨g, 2, none⟩) BW5.out H3.out (.slice (some ⟨blk, off, none⟩) (m.length + 1) cap5))
      rw [hll]
      clear c1 f1 z hS5 ho5 hgrow hb5 hh5 hbb BW5
      go_upto_region 5 with fail
      generalize w5.setCell ⟨g, 2, none⟩ (.slice (some ⟨blk, off, none⟩) (m.length + 1) cap5) = w6 at H6 BW6 ⊢
      clear c5 f5 z5
      have hh6 := H6.out.1
      have ho6 := H6.out.2
      rw [← hll] at ho6
      obtain ⟨w7, hrun, ho7, hblk, hb7, hs7⟩ := own_copy (w := w6.drew) ho6 i (by rw [hll]; omega) 29 Tryz.underlying29 szRd
      rw [hll] at hrun ho7 ho6
      rw [show m.length + 1 - (i + 1) = m.length - i by omega] at hrun
      have HRUN := Lib.hid hrun
      have gne : g ≠ blk := by
        have := ho6.ne_block hh6 (by decide)
        rintro rfl
        exact this rfl
      have hh7 : w7.heap[g]? = _ := (hblk g gne).trans hh6
      have z6 := lt_of_block hh6
      have c6 := blk_cell hh6
      have q1 : i + 1 ≤ m.length + 1 := by omega
      have q2 : ¬ (cap5 = i) := by omega
      have q3 : (i : Int) ≤ (m.length : Int) + 1 := by omega
      have q4 : (0 : Int) ≤ (i : Int) + 1 := by omega
      have q5 : (i : Int) ≤ (m.length : Int) := by omega
      have q6 : ((i : Int) + 1).toNat = i + 1 := by omega
      have q7 : (i : Int) + 1 ≤ (m.length : Int) + 1 := by omega
      have q8 : IntKind.i64.wrap ((i : Int) + 1) = (i : Int) + 1 := by rw [IntKind.wrap_i64]; omega
      have nq : i + 1 < m.length + 1 → ¬ (cap5 = i + 1) := nq_of hcap5
      have hA : i + 1 < m.length + 1 → (if cap5 = i + 1 then some ⟨blk, off, none⟩ else some ⟨blk, off + (i + 1) * 2, none⟩ : Option Addr) = some ⟨blk, off + (i + 1) * 2, none⟩ := fun h => if_neg (nq h)
      have HA := Lib.hid hA
      have H7 := Lib.hid (And.intro hh7 ho7)
      have BW7 := Lib.hid ((Below.drew BW6.out).trans hb7)
      clear hrun hblk hb7 hA hh7 ho7 ho6 hh6 BW6

      go_region_law ((refine step_copy_runI rfl _ _ 29 29 rfl _ _ (by first | rfl | simp [Act.eval, Act.put]) (by first | rfl | simp [Act.eval, Act.put]) (HRUN.out _ (cap5 - (i + 1)) (cap5 - i) _ HA.out) ?_))
      all_goals
        clear HRUN HA c6 z6 H6 q1 q2 q3 q4 q5 q6 q7 q8 nq
        have i7 : i < (List.take (i + 1) (m ++ [((0 : Int), (0 : Int))]) ++ List.take (m.length + 1 - (i + 1)) (List.drop i (m ++ [(0, 0)]))).length := by simp; omega
        have hl7 : (List.take (i + 1) (m ++ [((0 : Int), (0 : Int))]) ++ List.take (m.length + 1 - (i + 1)) (List.drop i (m ++ [(0, 0)]))).length = m.length + 1 := by simp; omega
        have hpl := put_list (m := m) hile (0, 0) (x, c)
        rw [hll] at hpl
        have HL3 := Lib.hid (hpl.trans HL2.out.symm)
        generalize List.take (i + 1) (m ++ [((0 : Int), (0 : Int))]) ++ List.take (m.length + 1 - (i + 1)) (List.drop i (m ++ [(0, 0)])) = L7 at i7 hl7 H7 HL3
        have ho7 := H7.out.2
        have hS7 := ho7.sl
        obtain ⟨_, _, hv7, hb7, hc7⟩ := hS7.at_ i7
        cases hv7
        have d70 := hc7 0 (.int .i64 L7[i].1) rfl
        have d71 := hc7 1 (.int .i64 L7[i].2) rfl
        simp only [Nat.add_zero] at d70
        have f70 := ho7.frozen (off + i * 2)
        have f71 := ho7.frozen (off + i * 2 + 1)
        have c7 : w7.cell? ⟨g, 2, none⟩ = some (.slice (some ⟨blk, off, none⟩) (m.length + 1) cap5) := by rw [blk_cell H7.out.1]; rfl
        have z7 := lt_of_block H7.out.1
        have hi7 : (i : Int) < (m.length : Int) + 1 := by omega
        have ne7 : blk ≠ g := fun e => gne e.symm
        have HS7 := Lib.hid ((ho7.setElem i 0 i7 (by decide) (.int .i64 x) (x, L7[i].2) rfl).setElem i 1 (by rw [List.length_set]; exact i7) (by decide) (.int .i64 c) (x, c) (by simp [encN]))
        have bl7 := Lib.hid (ho7.lt blk rfl).1
        clear hS7 hc7 ho7 hpl
        have HB : BagS ((w7.setCell ⟨blk, off + i * 2, none⟩ (.int .i64 x)).setCell ⟨blk, off + i * 2 + 1, none⟩ (.int .i64 c)) base g l (sumR (addR m x c)) (addR m x c) := by
          have h8 := HS7.out
          rw [List.set_set, HL3.out, Nat.add_zero] at h8
          rw [HSUM.out]
          exact ⟨_, (Below.heap_setCell _ _ _ _ gne).trans ((Below.heap_setCell _ _ _ _ gne).trans H7.out.1), H3.out, h8⟩
        go_wp2_with fail
        all_goals go_end0
        all_goals exact ⟨rfl, HB, Below.setCell (p := ⟨blk, off + i * 2 + 1, none⟩) (Below.setCell (p := ⟨blk, off + i * 2, none⟩) BW7.out bl7.out _) bl7.out _⟩
end Go.Proofs.YtajhjbiokbgebaaGreat
