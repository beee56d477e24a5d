/-
  Texts of this proof, one behind the other: GapLaw, AuditLaw, TilesMore, AgendaLaw, HeapLaw, FoldLaw, RunLaw, ProbeDel, Dense3, Probe4, Pool3, Probe5, Pool4, FoldW, Agenda, AgPut, AgPop, AgNew, MemIn.
-/
import Derived.BigRegion
import Derived.Deep.DeepCutAuto
import Derived.Maps.OwnSet
import Derived.Carry
import Derived.BigQuiet
import Derived.OwnWalkIn
import Derived.Test.YtcjnchjmpkapmaaGreatP1
import Derived.Test.YtcjnchjmpkapmaaGreatP2
import Derived.Test.YtcjnchjmpkapmaaGreatP3
/- Chapter 21: how far two digests are apart: plain laws. -/
set_option linter.unusedSimpArgs false namespace Go.Proofs.YtcjnchjmpkapmaaGreat
open Go.ChangeShapes Go.WideShapes Go.ChangeAt Go.RowKit
set_option linter.unusedVariables false

def sideV (n m : Int) (pl ph ql qh : Int) : Int := if qh * n < pl * m then 1 else if ph * m < ql * n then -1 else 0
def sideOf (l : Int) (a b : List Nd) (x : Int) : Int := sideV (sumR a) (sumR b) (lowOf l a x) (highOf l a x) (lowOf l b x) (highOf l b x)
def apStep (f : Int → Int) (a : Int × Int) (x : Int) : Int × Int := if f x ≠ 0 ∧ (a.2 = 0 ∨ x < a.1) then (x, f x) else a
def apFold (f : Int → Int) (l : List Int) : Int × Int := l.foldl (apStep f) (0, 0)
def apIs (f : Int → Int) (l : List Int) (r : Int × Int) : Prop := ((∀ x ∈ l, f x = 0) ∧ r = (0, 0)) ∨ (r.1 ∈ l ∧ r.2 = f r.1 ∧ r.2 ≠ 0 ∧ ∀ x ∈ l, f x ≠ 0 → r.1 ≤ x)
theorem apFold_succ {f : Int → Int} {l : List Int} {q : Nat} (h : q < l.length) : apFold f (l.take (q + 1)) = apStep f (apFold f (l.take q)) l[q] := by
  unfold apFold
  rw [List.take_succ_eq_append_getElem h, List.foldl_append]; rfl
theorem apFold_is (f : Int → Int) (l : List Int) : apIs f l (apFold f l) := by
  suffices h : ∀ q, q ≤ l.length → apIs f (l.take q) (apFold f (l.take q)) by
    have := h l.length (Nat.le_refl _)
    rwa [List.take_length] at this
  intro q
  induction q with
  | zero => intro _; left; exact ⟨by simp, rfl⟩
  | succ q ih =>
    intro hq
    have hlt : q < l.length := by omega
    rw [apFold_succ hlt]
    have hts := List.take_succ_eq_append_getElem hlt
    rw [hts]
    have hi := ih (by omega)
    generalize apFold f (l.take q) = r at hi
    unfold apStep
    by_cases h0 : f l[q] = 0
    · rw [if_neg (by simp [h0])]
      rcases hi with ⟨h1, h2⟩ | ⟨h1, h2, h3, h4⟩
      · left
        refine ⟨fun x hx => ?_, h2⟩
        rcases List.mem_append.1 hx with hx | hx
        · exact h1 x hx
        · rw [List.mem_singleton.1 hx]; exact h0
      · right
        refine ⟨List.mem_append_left _ h1, h2, h3, fun x hx hf => ?_⟩
        rcases List.mem_append.1 hx with hx | hx
        · exact h4 x hx hf
        · rw [List.mem_singleton.1 hx] at hf; exact absurd h0 hf
    · rcases hi with ⟨h1, h2⟩ | ⟨h1, h2, h3, h4⟩
      · rw [if_pos ⟨h0, .inl (by rw [h2])⟩]
        right
        refine ⟨List.mem_append_right _ (List.mem_singleton.2 rfl), rfl, h0, fun x hx hf => ?_⟩
        rcases List.mem_append.1 hx with hx | hx
        · exact absurd (h1 x hx) hf
        · rw [List.mem_singleton.1 hx]; exact Int.le_refl _
      · right
        by_cases hlt2 : l[q] < r.1
        · rw [if_pos ⟨h0, .inr hlt2⟩]
          refine ⟨List.mem_append_right _ (List.mem_singleton.2 rfl), rfl, h0, fun x hx hf => ?_⟩
          rcases List.mem_append.1 hx with hx | hx
          · have := h4 x hx hf; simp only; omega
          · rw [List.mem_singleton.1 hx]; exact Int.le_refl _
        · rw [if_neg (fun h => h.2.elim h3 hlt2)]
          refine ⟨List.mem_append_left _ h1, h2, h3, fun x hx hf => ?_⟩
          rcases List.mem_append.1 hx with hx | hx
          · exact h4 x hx hf
          · rw [List.mem_singleton.1 hx]; omega
theorem apIs_unique {f : Int → Int} {l m : List Int} {r s : Int × Int} (hm : ∀ x, x ∈ l ↔ x ∈ m) (h : apIs f l r) (k : apIs f m s) : r = s := by
  rcases h with ⟨h1, h2⟩ | ⟨h1, h2, h3, h4⟩
  · rcases k with ⟨k1, k2⟩ | ⟨k1, k2, k3, k4⟩
    · rw [h2, k2]
    · exact absurd (k2.trans (h1 _ ((hm _).2 k1))) k3
  · rcases k with ⟨k1, k2⟩ | ⟨k1, k2, k3, k4⟩
    · exact absurd (h2.trans (k1 _ ((hm _).1 h1))) h3
    · have e1 := h4 s.1 ((hm _).2 k1) (k2 ▸ k3)
      have e2 := k4 r.1 ((hm _).1 h1) (h2 ▸ h3)
      have e : r.1 = s.1 := by omega
      exact Prod.ext e (by rw [h2, k2, e])
theorem apIs_first {f : Int → Int} {pre : List Int} {x : Int} {suf : List Int} (hs : (pre ++ x :: suf).Pairwise (· ≤ ·)) (h0 : ∀ y ∈ pre, f y = 0) (hx : f x ≠ 0) : apIs f (pre ++ x :: suf) (x, f x) := by
  right
  refine ⟨by simp, rfl, hx, fun y hy hf => ?_⟩
  rcases List.mem_append.1 hy with hy | hy
  · exact absurd (h0 y hy) hf
  · rcases List.mem_cons.1 hy with rfl | hy
    · exact Int.le_refl _
    · exact (List.pairwise_cons.1 (List.pairwise_append.1 hs).2.1).1 y hy
theorem apIs_none {f : Int → Int} {l : List Int} (h : ∀ x ∈ l, f x = 0) : apIs f l (0, 0) := .inl ⟨h, rfl⟩

def downV (n d x : Int) : Int := (x.toNat * d.toNat / n.toNat : Nat)
def upP (n d x : Int) : Int := (upV x.toNat d.toNat n.toNat : Nat)
def gapStep (l d : Int) (a b : List Nd) (o : Int × Int) (x : Int) : Int × Int :=
  (max (max o.1 (downV (sumR a) d (lowOf l a x) - upP (sumR b) d (highOf l b x))) (downV (sumR b) d (lowOf l b x) - upP (sumR a) d (highOf l a x)),
   max (max o.2 (upP (sumR a) d (highOf l a x) - downV (sumR b) d (lowOf l b x))) (upP (sumR b) d (highOf l b x) - downV (sumR a) d (lowOf l a x)))
def gapFold (l d : Int) (a b : List Nd) (e : List Int) : Int × Int := e.foldl (gapStep l d a b) (0, 0)
theorem gapFold_snoc (l d : Int) (a b : List Nd) (e : List Int) (x : Int) : gapFold l d a b (e ++ [x]) = gapStep l d a b (gapFold l d a b e) x := by
  unfold gapFold
  rw [List.foldl_append]; rfl
theorem gapFold_le (l d : Int) (a b : List Nd) (e : List Int) (z y : Int) : ((gapFold l d a b e).1 ≤ z ↔ 0 ≤ z ∧ ∀ x ∈ e, (gapStep l d a b (0, 0) x).1 ≤ z) ∧ ((gapFold l d a b e).2 ≤ y ↔ 0 ≤ y ∧ ∀ x ∈ e, (gapStep l d a b (0, 0) x).2 ≤ y) := by
  suffices h : ∀ (e : List Int) (o : Int × Int), 0 ≤ o.1 → 0 ≤ o.2 → (((e.foldl (gapStep l d a b) o).1 ≤ z ↔ o.1 ≤ z ∧ ∀ x ∈ e, (gapStep l d a b (0, 0) x).1 ≤ z) ∧ ((e.foldl (gapStep l d a b) o).2 ≤ y ↔ o.2 ≤ y ∧ ∀ x ∈ e, (gapStep l d a b (0, 0) x).2 ≤ y)) from h e (0, 0) (Int.le_refl _) (Int.le_refl _)
  intro e
  induction e with
  | nil => intro o h1 h2; simp
  | cons x e ih =>
    intro o h1 h2
    rw [List.foldl_cons]
    obtain ⟨i1, i2⟩ := ih (gapStep l d a b o x) (by simp only [gapStep]; omega) (by simp only [gapStep]; omega)
    constructor
    · rw [i1]
      simp only [List.mem_cons, forall_eq_or_imp]
      have : ((gapStep l d a b o x).1 ≤ z) ↔ o.1 ≤ z ∧ (gapStep l d a b (0, 0) x).1 ≤ z := by simp only [gapStep]; omega
      rw [this, and_assoc]
    · rw [i2]
      simp only [List.mem_cons, forall_eq_or_imp]
      have : ((gapStep l d a b o x).2 ≤ y) ↔ o.2 ≤ y ∧ (gapStep l d a b (0, 0) x).2 ≤ y := by simp only [gapStep]; omega
      rw [this, and_assoc]
theorem gapFold_set {l d : Int} {a b : List Nd} {e f : List Int} (h : ∀ x, x ∈ e ↔ x ∈ f) : gapFold l d a b e = gapFold l d a b f := by
  have h1 := gapFold_le l d a b e
  have h2 := gapFold_le l d a b f
  have k : ∀ p : Int → Prop, (∀ x ∈ e, p x) ↔ (∀ x ∈ f, p x) := fun p => ⟨fun q x hx => q x ((h x).2 hx), fun q x hx => q x ((h x).1 hx)⟩
  have e1 : ∀ z, (gapFold l d a b e).1 ≤ z ↔ (gapFold l d a b f).1 ≤ z := fun z => by rw [(h1 z 0).1, (h2 z 0).1, k]
  have e2 : ∀ z, (gapFold l d a b e).2 ≤ z ↔ (gapFold l d a b f).2 ≤ z := fun z => by rw [(h1 0 z).2, (h2 0 z).2, k]
  refine Prod.ext ?_ ?_
  · have := (e1 _).1 (Int.le_refl _); have := (e1 _).2 (Int.le_refl _); omega
  · have := (e2 _).1 (Int.le_refl _); have := (e2 _).2 (Int.le_refl _); omega
end Go.Proofs.YtcjnchjmpkapmaaGreat
/- Digests held against bags: plain laws. -/
namespace Go.Proofs.YtcjnchjmpkapmaaGreat
open Go.ChangeShapes Go.WideShapes Go.ChangeAt Go.RowKit
set_option linter.unusedVariables false

def ownN (r : List Nd) (id : Int) : Int := wIds (fun x => abv id x) r
def bagB (l : Nat) (q : List Nd) (lo hi : Int) : Int := weighR l (inLow lo hi) q
def moreN (l : Nat) (r q : List Nd) (id : Int) : Int := ownN r id - bagB l q (loN l id) (hiN l id)
def culF (l : Nat) (r q : List Nd) (id : Int) : Int := max (moreN l r q id) 0
def inRun (l : Nat) (a b x z : Int) : Bool := abv x z && (decide (a ≤ loN l z) && decide (hiN l z ≤ b))
def inRunV (l : Nat) (a b x z : Int) : Bool := (decide (a ≤ loN l z) && decide (loN l x ≤ loN l z)) && (decide (hiN l z ≤ b) && decide (hiN l z ≤ hiN l x))
def ancF : Nat → Int → List Int
  | 0, _ => []
  | n + 1, x => if x < 1 then [] else x :: ancF n (x / 2)
def ancL (x : Int) : List Int := ancF 49 x
def allAnc (r : List Nd) : List Int := r.flatMap fun x => ancL x.1
def offIs (f : Int → Int) (L : List Int) (r : Int × Int) : Prop := r.1 ∈ L ∧ r.2 = f r.1 ∧ ∀ x ∈ L, f x ≤ r.2 ∧ (f x = r.2 → r.1 ≤ x)
def offStep (f : Int → Int) (a : Int × Int) (x : Int) : Int × Int := if a.2 < f x then (x, f x) else a
def offFold (f : Int → Int) (L : List Int) : Int × Int := L.foldl (offStep f) (0, 0)
def offStepR (f : Int → Int) (a : Int × Int) (x : Int) : Int × Int := if a.2 < f x ∨ (f x = a.2 ∧ x < a.1) then (x, f x) else a
def offFoldR (f : Int → Int) (L : List Int) : Int × Int := L.foldl (offStepR f) (0, f 0)
end Go.Proofs.YtcjnchjmpkapmaaGreat
/- Tiles: how many there are; one behind the other; the reference's way from left to right. Plain laws. -/
namespace Go.Proofs.YtcjnchjmpkapmaaGreat
open Go.ChangeShapes Go.WideShapes Go.ChangeAt Go.RowKit
set_option linter.unusedVariables false

def mxT (l : Nat) (b t : Int) : Prop := t % 2 = 1 ∨ b < hiN l (t / 2)
theorem leaf_node {l : Nat} (hl : 1 ≤ l ∧ l ≤ 48) {x : Int} (h0 : 0 ≤ x) (h1 : x < 2 ^ l) : isNode l (2 ^ l + x) = true ∧ loN l (2 ^ l + x) = x ∧ hiN l (2 ^ l + x) = x := by
  obtain ⟨n, rfl⟩ := Int.eq_ofNat_of_zero_le h0
  have hn : n < 2 ^ l := by
    have : ((2 ^ l : Nat) : Int) = 2 ^ l := by simp
    omega
  have e : (2 : Int) ^ l + (n : Int) = ((2 ^ l + n : Nat) : Int) := by push_cast; rfl
  rw [e]
  have hN := node_of_shape (b := 0) hl (by omega) hn
  obtain ⟨d, b, t, g1, g2, g3, g4, g5, g6⟩ := node_shape hN
  have i1 := log2_shape hn
  have g2' := Int.ofNat.inj g2
  rw [← g2', i1] at g4
  subst g4
  obtain rfl : b = 0 := by omega
  obtain rfl : t = n := by omega
  rw [g5, g6]
  exact ⟨hN, by simp, by simp⟩
def layR (l : Nat) (L : List (Int × Int)) : List Int := L.flatMap fun r => ofTiles l r.1 r.2
end Go.Proofs.YtcjnchjmpkapmaaGreat
/- The agenda's heap: what its calls make of it; what it holds. Plain laws. -/
namespace Go.Proofs.YtcjnchjmpkapmaaGreat
open Go.ChangeShapes Go.WideShapes Go.ChangeAt Go.RowKit
set_option linter.unusedVariables false

def aheadI (a b : Int) : Bool := if a.toNat.log2 ≠ b.toNat.log2 then decide (b.toNat.log2 < a.toNat.log2) else decide (a < b)
def swapL (L : List Int) (i j : Nat) : List Int := (L.set i (L.getD j 0)).set j (L.getD i 0)
theorem swapL_len (L : List Int) (i j : Nat) : (swapL L i j).length = L.length := by simp [swapL]
theorem swapL_perm {L : List Int} {i j : Nat} (hi : i < L.length) (hj : j < L.length) : (swapL L i j).Perm L := by
  rw [List.perm_iff_count]
  intro a
  unfold swapL
  have e1 : L.getD j 0 = L[j] := by simp [hj]
  have e2 : L.getD i 0 = L[i] := by simp [hi]
  rw [e1, e2]
  by_cases hij : i = j
  · subst hij; simp
  · rw [List.count_set (by simpa using hj), List.count_set hi]
    have e3 : (L.set i L[j])[j]'(by simpa using hj) = L[j] := by rw [List.getElem_set_ne hij]
    rw [e3]
    have c1 : L[i] = a → 0 < List.count a L := fun h => List.count_pos_iff.2 (h ▸ List.getElem_mem hi)
    have c2 : L[j] = a → 0 < List.count a L := fun h => List.count_pos_iff.2 (h ▸ List.getElem_mem hj)
    by_cases h1 : L[i] = a <;> by_cases h2 : L[j] = a <;> simp [h1, h2] <;> (have := c1; have := c2; simp_all)
def upH : Nat → List Int → Nat → List Int
  | 0, L, _ => L
  | n + 1, L, i => if 0 < i ∧ aheadI (L.getD i 0) (L.getD ((i - 1) / 2) 0) = true then upH n (swapL L i ((i - 1) / 2)) ((i - 1) / 2) else L
theorem upH_perm : ∀ (n : Nat) (L : List Int) (i : Nat), i < L.length → (upH n L i).Perm L := by
  intro n
  induction n with
  | zero => intro L i _; exact .refl _
  | succ n ih =>
    intro L i hi
    simp only [upH]
    split
    · exact (ih _ _ (by rw [swapL_len]; omega)).trans (swapL_perm hi (by omega))
    · exact .refl _
def stepH (L : List Int) (a k : Nat) : Nat := if k < L.length ∧ aheadI (L.getD k 0) (L.getD a 0) = true then k else a
theorem stepH_or (L : List Int) (a k : Nat) : stepH L a k = a ∨ (stepH L a k = k ∧ k < L.length) := by
  unfold stepH
  split
  · rename_i h; exact .inr ⟨rfl, h.1⟩
  · exact .inl rfl
def firstH (L : List Int) (i : Nat) : Nat := stepH L (stepH L i (2 * i + 1)) (2 * i + 2)
theorem firstH_le (L : List Int) (i : Nat) : i ≤ firstH L i := by
  unfold firstH
  rcases stepH_or L i (2 * i + 1) with h | h <;> rcases stepH_or L (stepH L i (2 * i + 1)) (2 * i + 2) with g | g <;> omega
theorem firstH_lt {L : List Int} {i : Nat} (h : i < L.length) : firstH L i < L.length := by
  unfold firstH
  rcases stepH_or L i (2 * i + 1) with h | h <;> rcases stepH_or L (stepH L i (2 * i + 1)) (2 * i + 2) with g | g <;> omega
def downH : Nat → List Int → Nat → List Int
  | 0, L, _ => L
  | n + 1, L, i => if firstH L i = i then L else downH n (swapL L i (firstH L i)) (firstH L i)
theorem downH_perm : ∀ (n : Nat) (L : List Int) (i : Nat), i < L.length → (downH n L i).Perm L := by
  intro n
  induction n with
  | zero => intro L i _; exact .refl _
  | succ n ih =>
    intro L i hi
    simp only [downH]
    split
    · exact .refl _
    · have := firstH_lt hi
      exact (ih _ _ (by rw [swapL_len]; exact this)).trans (swapL_perm hi this)
def putH (L : List Int) (id : Int) : List Int := upH L.length (L ++ [id]) L.length
theorem putH_perm (L : List Int) (id : Int) : (putH L id).Perm (id :: L) :=
  (upH_perm _ _ _ (by simp)).trans (List.perm_append_comm (l₁ := L) (l₂ := [id]))
def popH : List Int → List Int
  | [] => []
  | x :: L => downH L.length ((x :: L).set 0 ((x :: L).getD L.length 0) |>.take L.length) 0
theorem popH_perm (x : Int) (L : List Int) : (popH (x :: L)).Perm L := by
  unfold popH
  cases L with
  | nil => simp [downH]
  | cons y L =>
    refine (downH_perm _ _ _ (by simp)).trans ?_
    have e : ((x :: y :: L).set 0 ((x :: y :: L).getD (y :: L).length 0)).take (y :: L).length = ((y :: L).getLast (by simp)) :: (y :: L).dropLast := by
      rw [List.set_cons_zero, List.length_cons, List.take_succ_cons, List.dropLast_eq_take, List.getLast_eq_getElem]
      congr 1
      simp
    rw [e]
    have h := List.dropLast_concat_getLast (l := y :: L) (by simp)
    conv => rhs; rw [← h]
    exact (List.perm_append_comm (l₁ := [(y :: L).getLast (by simp)]) (l₂ := (y :: L).dropLast)).symm.symm
end Go.Proofs.YtcjnchjmpkapmaaGreat
/- The agenda's heap: the first one stands first. Plain laws. -/
namespace Go.Proofs.YtcjnchjmpkapmaaGreat
open Go.ChangeShapes Go.WideShapes Go.ChangeAt Go.RowKit
set_option linter.unusedVariables false

def leA (a b : Int) : Prop := aheadI b a = false
theorem ahead_iff (a b : Int) : aheadI a b = true ↔ b.toNat.log2 < a.toNat.log2 ∨ (a.toNat.log2 = b.toNat.log2 ∧ a < b) := by
  unfold aheadI
  split
  · rename_i h; simp only [decide_eq_true_eq]; omega
  · rename_i h; simp only [decide_eq_true_eq]; omega
theorem leA_iff (a b : Int) : leA a b ↔ b.toNat.log2 < a.toNat.log2 ∨ (a.toNat.log2 = b.toNat.log2 ∧ a ≤ b) := by
  unfold leA
  rw [← Bool.not_eq_true, ahead_iff]
  omega
theorem leA_refl (a : Int) : leA a a := (leA_iff a a).2 (by omega)
theorem leA_trans {a b c : Int} (h : leA a b) (k : leA b c) : leA a c := by
  rw [leA_iff] at *
  omega
theorem leA_of {a b : Int} (h : aheadI a b = true) : leA a b := by
  rw [ahead_iff] at h
  rw [leA_iff]
  omega
def HeapO (L : List Int) : Prop := ∀ j : Nat, 0 < j → j < L.length → leA (L.getD ((j - 1) / 2) 0) (L.getD j 0)
theorem swapL_get {L : List Int} {i j : Nat} (hi : i < L.length) (hj : j < L.length) (k : Nat) : (swapL L i j).getD k 0 = if k = j then L.getD i 0 else if k = i then L.getD j 0 else L.getD k 0 := by
  unfold swapL
  simp only [List.getD_eq_getElem?_getD, List.getElem?_set, List.length_set]
  by_cases h1 : k = j
  · subst h1; simp [hj]
  · rw [if_neg h1, if_neg (fun e => h1 e.symm)]
    by_cases h2 : k = i
    · subst h2; simp [hi]
    · rw [if_neg h2, if_neg (fun e => h2 e.symm)]
structure UpO (L : List Int) (i : Nat) : Prop where
  ok : ∀ j : Nat, 0 < j → j < L.length → j ≠ i → leA (L.getD ((j - 1) / 2) 0) (L.getD j 0)
  kid : 0 < i → ∀ j : Nat, 0 < j → j < L.length → (j - 1) / 2 = i → leA (L.getD ((i - 1) / 2) 0) (L.getD j 0)
theorem upH_heap : ∀ (n : Nat) (L : List Int) (i : Nat), i < L.length → i ≤ n → UpO L i → HeapO (upH n L i) := by
  intro n
  induction n with
  | zero =>
    intro L i hi hn h j h0 hj
    simp only [upH] at hj ⊢
    exact h.ok j h0 hj (by omega)
  | succ n ih =>
    intro L i hi hn h
    simp only [upH]
    split
    · rename_i hs
      obtain ⟨hi0, ha⟩ := hs
      obtain ⟨p, hp⟩ : ∃ p, p = (i - 1) / 2 := ⟨_, rfl⟩
      rw [← hp] at ha ⊢
      have hpi : p < i := by omega
      have hpl : p < L.length := by omega
      have hle := leA_of ha
      refine ih _ _ (by rw [swapL_len]; exact hpl) (by omega) ⟨?_, ?_⟩
      · intro j h0 hj hne
        rw [swapL_len] at hj
        rw [swapL_get hi hpl, swapL_get hi hpl]
        by_cases hji : j = i
        · subst hji
          rw [← hp, if_pos rfl, if_neg (by omega), if_pos rfl]
          exact hle
        · rw [if_neg hne, if_neg hji]
          by_cases hqp : (j - 1) / 2 = p
          · rw [if_pos hqp]
            have := h.ok j h0 hj hji
            rw [hqp] at this
            exact leA_trans hle this
          · rw [if_neg hqp]
            by_cases hqi : (j - 1) / 2 = i
            · rw [if_pos hqi]
              have := h.kid hi0 j h0 hj hqi
              rw [← hp] at this
              exact this
            · rw [if_neg hqi]
              exact h.ok j h0 hj hji
      · intro hp0 j h0 hj hjp
        rw [swapL_len] at hj
        rw [swapL_get hi hpl, swapL_get hi hpl]
        rw [if_neg (by omega : ¬ (p - 1) / 2 = p), if_neg (by omega : ¬ (p - 1) / 2 = i), if_neg (by omega : ¬ j = p)]
        have k1 := h.ok p hp0 hpl (by omega)
        by_cases hji : j = i
        · rw [if_pos hji]
          exact k1
        · rw [if_neg hji]
          have k2 := h.ok j h0 hj hji
          rw [hjp] at k2
          exact leA_trans k1 k2
    · rename_i hs
      intro j h0 hj
      by_cases hji : j = i
      · subst hji
        have : aheadI (L.getD j 0) (L.getD ((j - 1) / 2) 0) = false := by
          rw [← Bool.not_eq_true]
          exact fun ha => hs ⟨h0, ha⟩
        exact this
      · exact h.ok j h0 hj hji
theorem getD_append {L : List Int} {x : Int} {j : Nat} (h : j < L.length) : (L ++ [x]).getD j 0 = L.getD j 0 := by
  simp only [List.getD_eq_getElem?_getD]
  rw [List.getElem?_append_left h]
theorem putH_heap {L : List Int} (h : HeapO L) (id : Int) : HeapO (putH L id) := by
  refine upH_heap _ _ _ (by simp) (Nat.le_refl _) ⟨?_, ?_⟩
  · intro j h0 hj hne
    simp only [List.length_append, List.length_cons, List.length_nil] at hj
    rw [getD_append (by omega), getD_append (by omega)]
    exact h j h0 (by omega)
  · intro _ j h0 hj hjp
    simp only [List.length_append, List.length_cons, List.length_nil] at hj
    omega
structure DownO (L : List Int) (i : Nat) : Prop where
  ok : ∀ j : Nat, 0 < j → j < L.length → (j - 1) / 2 ≠ i → leA (L.getD ((j - 1) / 2) 0) (L.getD j 0)
  kid : 0 < i → ∀ j : Nat, 0 < j → j < L.length → (j - 1) / 2 = i → leA (L.getD ((i - 1) / 2) 0) (L.getD j 0)
theorem stepH_le (L : List Int) (a k : Nat) : leA (L.getD (stepH L a k) 0) (L.getD a 0) ∧ (k < L.length → leA (L.getD (stepH L a k) 0) (L.getD k 0)) := by
  unfold stepH
  split
  · rename_i h
    exact ⟨leA_of h.2, fun _ => leA_refl _⟩
  · rename_i h
    refine ⟨leA_refl _, fun hk => ?_⟩
    have : aheadI (L.getD k 0) (L.getD a 0) = false := by
      rw [← Bool.not_eq_true]
      exact fun ha => h ⟨hk, ha⟩
    exact this
theorem firstH_min (L : List Int) (i : Nat) : leA (L.getD (firstH L i) 0) (L.getD i 0) ∧ ∀ j : Nat, 0 < j → j < L.length → (j - 1) / 2 = i → leA (L.getD (firstH L i) 0) (L.getD j 0) := by
  unfold firstH
  obtain ⟨a1, a2⟩ := stepH_le L i (2 * i + 1)
  obtain ⟨b1, b2⟩ := stepH_le L (stepH L i (2 * i + 1)) (2 * i + 2)
  refine ⟨leA_trans b1 a1, fun j h0 hj hp => ?_⟩
  rcases (by omega : j = 2 * i + 1 ∨ j = 2 * i + 2) with e | e
  · rw [e] at hj ⊢
    exact leA_trans b1 (a2 hj)
  · rw [e] at hj ⊢
    exact b2 hj
theorem firstH_or (L : List Int) (i : Nat) : firstH L i = i ∨ firstH L i = 2 * i + 1 ∨ firstH L i = 2 * i + 2 := by
  unfold firstH
  rcases stepH_or L i (2 * i + 1) with h | h <;> rcases stepH_or L (stepH L i (2 * i + 1)) (2 * i + 2) with g | g <;> omega
theorem downH_heap : ∀ (n : Nat) (L : List Int) (i : Nat), i < L.length → L.length ≤ n + i → DownO L i → HeapO (downH n L i) := by
  intro n
  induction n with
  | zero => intro L i hi hn h; omega
  | succ n ih =>
    intro L i hi hn h
    simp only [downH]
    obtain ⟨m1, m2⟩ := firstH_min L i
    have hf := firstH_lt hi
    split
    · rename_i he
      intro j h0 hj
      by_cases hp : (j - 1) / 2 = i
      · rw [he] at m2
        rw [hp]
        exact m2 j h0 hj hp
      · exact h.ok j h0 hj hp
    · rename_i hne
      have hor := firstH_or L i
      generalize firstH L i = f at *
      have hfi : (f - 1) / 2 = i := by omega
      refine ih _ _ (by rw [swapL_len]; exact hf) (by rw [swapL_len]; omega) ⟨?_, ?_⟩
      · intro j h0 hj hp
        rw [swapL_len] at hj
        rw [swapL_get hi hf, swapL_get hi hf]
        rw [if_neg hp]
        by_cases hjf : j = f
        · rw [if_pos hjf, hjf, hfi, if_pos rfl]
          exact m1
        · rw [if_neg hjf]
          by_cases hqi : (j - 1) / 2 = i
          · rw [if_pos hqi, if_neg (by omega)]
            exact m2 j h0 hj hqi
          · rw [if_neg hqi]
            by_cases hji : j = i
            · rw [if_pos hji, hji]
              exact h.kid (by omega) f (by omega) hf hfi
            · rw [if_neg hji]
              exact h.ok j h0 hj hqi
      · intro _ j h0 hj hjp
        rw [swapL_len] at hj
        rw [swapL_get hi hf, swapL_get hi hf, hfi]
        rw [if_neg (by omega : ¬ i = f), if_pos rfl, if_neg (by omega : ¬ j = f), if_neg (by omega : ¬ j = i)]
        have := h.ok j h0 hj (by omega)
        rw [hjp] at this
        exact this
theorem popH_heap {x : Int} {L : List Int} (h : HeapO (x :: L)) : HeapO (popH (x :: L)) := by
  unfold popH
  by_cases h0 : L.length = 0
  · have : L = [] := List.length_eq_zero_iff.1 h0
    subst this
    intro j h1 h2
    simp [downH] at h2
  · have e : ∀ j : Nat, 0 < j → j < L.length → (((x :: L).set 0 ((x :: L).getD L.length 0)).take L.length).getD j 0 = (x :: L).getD j 0 := by
      intro j h1 h2
      simp only [List.getD_eq_getElem?_getD, List.getElem?_take, List.getElem?_set]
      rw [if_pos h2, if_neg (by omega)]
    have hl : (((x :: L).set 0 ((x :: L).getD L.length 0)).take L.length).length = L.length := by
      rw [List.length_take, List.length_set, List.length_cons]
      omega
    refine downH_heap _ _ _ (by rw [hl]; omega) (by rw [hl]; omega) ⟨?_, fun h => by omega⟩
    intro j h1 h2 h3
    rw [hl] at h2
    rw [e j h1 h2, e _ (by omega) (by omega)]
    exact h j h1 (by rw [List.length_cons]; omega)
theorem heap_first {L : List Int} (h : HeapO L) : ∀ j : Nat, j < L.length → leA (L.getD 0 0) (L.getD j 0) := by
  intro j
  induction j using Nat.strongRecOn with
  | ind j ih =>
    intro hj
    by_cases h0 : j = 0
    · subst h0; exact leA_refl _
    · exact leA_trans (ih ((j - 1) / 2) (by omega) (by omega)) (h j (by omega) hj)
theorem heap_head {x : Int} {L : List Int} (h : HeapO (x :: L)) : ∀ y ∈ x :: L, leA x y := by
  intro y hy
  obtain ⟨j, hj, rfl⟩ := List.mem_iff_getElem.1 hy
  have := heap_first h j hj
  simp only [List.getD_eq_getElem?_getD] at this
  rw [List.getElem?_eq_getElem hj] at this
  simpa using this
theorem heap_nil : HeapO [] := fun j _ hj => by simp at hj
end Go.Proofs.YtcjnchjmpkapmaaGreat
/- Folds: what they make of a roll. Plain laws. -/
namespace Go.Proofs.YtcjnchjmpkapmaaGreat
open Go.ChangeShapes Go.WideShapes Go.ChangeAt Go.RowKit
set_option linter.unusedVariables false

def pairR (r : List Nd) (p : Int) : Int := getR r (2 * p) + getR r (2 * p + 1)
def foldR (r : List Nd) (p : Int) : List Nd := addR (delR (delR r (2 * p)) (2 * p + 1)) p (pairR r p)
def readyR (l : Nat) (r : List Nd) (p most : Int) : Bool := (kidsOf l p).2.2 && decide (0 < pairR r p ∧ pairR r p + getR r p ≤ most)
theorem ready_iff {l : Nat} {r : List Nd} {p most : Int} : readyR l r p most = true ↔ (kidsOf l p).2.2 = true ∧ 0 < pairR r p ∧ pairR r p + getR r p ≤ most := by
  simp [readyR]
theorem kids_iff {l : Nat} {p : Int} : (kidsOf l p).2.2 = true ↔ isNode l p = true ∧ p < 2 ^ l := by
  unfold kidsOf
  simp only [Int.toNat_natCast]
  by_cases h : isNode l p = true ∧ p < 2 ^ l
  · rw [if_pos h]; simp [h]
  · rw [if_neg h]; simp; intro h1; exact Int.not_lt.1 fun h2 => h ⟨h1, h2⟩
theorem kids_node {l : Nat} {p : Int} (h : isNode l p = true) (h2 : p < 2 ^ l) : p.toNat.log2 < l := by
  have h1 : 1 ≤ p := by simp only [isNode, decide_eq_true_eq] at h; omega
  obtain ⟨n, rfl⟩ := Int.eq_ofNat_of_zero_le (show 0 ≤ p by omega)
  rw [Int.toNat_natCast]
  refine (Nat.log2_lt (by omega)).2 ?_
  have : ((2 ^ l : Nat) : Int) = 2 ^ l := by simp
  omega
theorem getR_fold {r : List Nd} (hr : Roll r) {p : Int} (hp : 1 ≤ p) (id : Int) : getR (foldR r p) id = if id = p then getR r p + getR r (2 * p) + getR r (2 * p + 1) else if id = 2 * p ∨ id = 2 * p + 1 then 0 else getR r id := by
  unfold foldR
  rw [getR_add ((hr.del _).del _), getR_del (hr.del _), getR_del (hr.del _), getR_del hr, getR_del hr]
  by_cases h1 : id = p
  · rw [if_pos h1, if_pos h1, if_neg (by omega), if_neg (by omega)]; unfold pairR; omega
  · rw [if_neg h1, if_neg h1]
    by_cases h2 : id = 2 * p + 1
    · rw [if_pos h2, if_pos (.inr h2)]
    · rw [if_neg h2]
      by_cases h3 : id = 2 * p
      · rw [if_pos h3, if_pos (.inl h3)]
      · rw [if_neg h3, if_neg (by omega)]
theorem foldR_roll {r : List Nd} (hr : Roll r) {p : Int} (hp : 1 ≤ p) (h : 0 < pairR r p) : Roll (foldR r p) := ((hr.del _).del _).add hp (by omega)
theorem foldR_sum {r : List Nd} (hr : Roll r) {p : Int} : sumR (foldR r p) = sumR r := by
  unfold foldR
  rw [sumR_add, sumR_del (hr.del _), sumR_del hr, getR_del hr, if_neg (by omega)]
  unfold pairR; omega
theorem delR_len {r : List Nd} (id : Int) : (delR r id).length ≤ r.length ∧ (getR r id ≠ 0 → (delR r id).length + 1 = r.length) := by
  induction r with
  | nil => simp [delR, getR]
  | cons x r ih =>
    simp only [delR, getR]
    split
    · simp
    · simp only [List.length_cons]
      exact ⟨by omega, fun h => by have := ih.2 h; omega⟩
theorem foldR_len {r : List Nd} (hr : Roll r) {p : Int} (hp : 1 ≤ p) (h : 0 < pairR r p) : (foldR r p).length ≤ r.length := by
  have h1 := delR_len (r := r) (2 * p)
  have h2 := delR_len (r := delR r (2 * p)) (2 * p + 1)
  have h3 : getR (delR r (2 * p)) (2 * p + 1) = getR r (2 * p + 1) := by rw [getR_del hr, if_neg (by omega)]
  have h4 := len_add ((hr.del (2 * p)).del (2 * p + 1)) p (pairR r p)
  unfold foldR
  rw [h4]
  have : getR r (2 * p) ≠ 0 ∨ getR r (2 * p + 1) ≠ 0 := by unfold pairR at h; omega
  rcases this with g | g
  · have := h1.2 g; split <;> omega
  · have := h2.2 (by rw [h3]; exact g); split <;> omega
theorem foldR_fits {l : Nat} {r : List Nd} (hf : Fits l r) {p most : Int} (h : readyR l r p most = true) : Fits l (foldR r p) := by
  obtain ⟨h1, h2, h3⟩ := ready_iff.1 h
  obtain ⟨n1, n2⟩ := kids_iff.1 h1
  have hp := (isNode_lt n1).1
  refine ⟨foldR_roll hf.roll hp h2, fun x hx => ?_, by rw [foldR_sum hf.roll]; exact hf.sum⟩
  rcases addR_mem hx with e | hx
  · have := pow_pos' l; omega
  · exact hf.lt x (delR_sub (delR_sub hx))
theorem foldR_flow {l : Nat} {r q : List Nd} (h : Flow l r q) (hr : Roll r) {p most : Int} (hy : readyR l r p most = true) : Flow l (foldR r p) q := by
  obtain ⟨h1, h2, h3⟩ := ready_iff.1 hy
  obtain ⟨n1, n2⟩ := kids_iff.1 h1
  have hp := (isNode_lt n1).1
  obtain ⟨k1, k2, k3, k4, k5, k6, k7⟩ := node_kids n1 (kids_node n1 n2)
  have w1 := lo_hi k1
  have w2 := lo_hi k2
  unfold loN hiN at *
  refine h.fold n1 (a := 2 * p) (b := 2 * p + 1) (by omega) (by omega) (by omega) ⟨by omega, by omega⟩ ⟨by omega, by omega⟩ fun id => getR_fold hr hp id
theorem light_of {l : Nat} {r : List Nd} {k : Int} (h : ∀ x ∈ r, (kidsOf l x.1).2.2 = true → x.2 ≤ sumR r / k) : lightOf l r k = true := by
  unfold lightOf
  rw [Bool.not_eq_true', ← Bool.not_eq_true, List.any_eq_true]
  rintro ⟨x, hx, hh⟩
  simp only [heavy, Bool.and_eq_true, decide_eq_true_eq] at hh
  have := h x hx hh.1
  omega
theorem light_all {l : Nat} {r : List Nd} {k : Int} (h : lightOf l r k = true) : ∀ x ∈ r, (kidsOf l x.1).2.2 = true → x.2 ≤ sumR r / k := by
  intro x hx hk
  apply Classical.byContradiction
  intro hc
  have : r.any (heavy l (sumR r / k)) = true := List.any_eq_true.2 ⟨x, hx, by simp only [heavy, hk, Bool.true_and, decide_eq_true_eq]; omega⟩
  unfold lightOf at h
  rw [this] at h
  cases h
theorem foldR_light {l : Nat} {r : List Nd} (hr : Roll r) {k p : Int} (hl : lightOf l r k = true) (hy : readyR l r p (sumR r / k) = true) : lightOf l (foldR r p) k = true := by
  obtain ⟨h1, h2, h3⟩ := ready_iff.1 hy
  obtain ⟨n1, n2⟩ := kids_iff.1 h1
  have hp := (isNode_lt n1).1
  have hR := foldR_roll hr hp h2
  refine light_of fun x hx hk => ?_
  rw [foldR_sum hr]
  have e := getR_mem hR hx
  rw [getR_fold hr hp] at e
  have hpos := (hR.2 x hx).2
  split at e
  · unfold pairR at h3; omega
  · split at e
    · omega
    · have hm := getR_pos hr (id := x.1) (by omega)
      have := light_all hl _ hm hk
      simp only at this
      omega
theorem add_light {l : Nat} {r : List Nd} (hr : Roll r) {k x c : Int} (hk1 : 1 ≤ k) (hl : lightOf l r k = true) (hc : 1 ≤ c) (hleaf : (kidsOf l x).2.2 = false) : lightOf l (addR r x c) k = true := by
  have h0 := sumR_nonneg hr
  refine light_of fun y hy hk => ?_
  rw [sumR_add]
  have hx1 : y.1 ≠ x := by rintro rfl; rw [hleaf] at hk; cases hk
  have hm : y ∈ r := by
    rcases addR_mem hy with e | h
    · exact absurd e hx1
    · exact h
  have h1 := light_all hl y hm hk
  have h2 : sumR r / k ≤ (sumR r + c) / k := Int.ediv_le_ediv (by omega) (by omega)
  omega
inductive Folded (l : Nat) (most : Int) : List Nd → List Nd → Prop
  | refl (r) : Folded l most r r
  | step {r s} (p) : Folded l most r s → readyR l s p most = true → Folded l most r (foldR s p)
theorem Folded.fits {l : Nat} {most : Int} {r s : List Nd} (h : Folded l most r s) (hf : Fits l r) : Fits l s := by
  induction h with
  | refl => exact hf
  | step p _ hy ih => exact foldR_fits ih hy
theorem Folded.sum {l : Nat} {most : Int} {r s : List Nd} (h : Folded l most r s) (hf : Fits l r) : sumR s = sumR r := by
  induction h with
  | refl => rfl
  | step p h hy ih => rw [foldR_sum (h.fits hf).roll, ih]
theorem Folded.len {l : Nat} {most : Int} {r s : List Nd} (h : Folded l most r s) (hf : Fits l r) : s.length ≤ r.length := by
  induction h with
  | refl => exact Nat.le_refl _
  | step p h hy ih =>
    obtain ⟨h1, h2, h3⟩ := ready_iff.1 hy
    exact Nat.le_trans (foldR_len (h.fits hf).roll (isNode_lt (kids_iff.1 h1).1).1 h2) ih
theorem Folded.flow {l : Nat} {most : Int} {r s q : List Nd} (h : Folded l most r s) (hf : Fits l r) (hF : Flow l r q) : Flow l s q := by
  induction h with
  | refl => exact hF
  | step p h hy ih => exact foldR_flow ih (h.fits hf).roll hy
theorem Folded.light {l : Nat} {k : Int} {r s : List Nd} (h : Folded l (sumR r / k) r s) (hf : Fits l r) (hl : lightOf l r k = true) : lightOf l s k = true := by
  generalize hm : sumR r / k = most at h
  induction h with
  | refl => exact hl
  | step p h hy ih =>
    refine foldR_light (h.fits hf).roll ih ?_
    rw [h.sum hf, hm]; exact hy
theorem Folded.trans {l : Nat} {most : Int} {r s t : List Nd} (h : Folded l most r s) (k : Folded l most s t) : Folded l most r t := by
  induction k with
  | refl => exact h
  | step p _ hy ih => exact .step p ih hy
def deepR (r : List Nd) : Nat := (r.map fun x => x.1.toNat.log2).sum
theorem deep_del {r : List Nd} (id : Int) (h : getR r id ≠ 0) : deepR (delR r id) + id.toNat.log2 = deepR r := by
  induction r with
  | nil => simp [getR] at h
  | cons x r ih =>
    simp only [getR] at h
    simp only [delR]
    split
    · rename_i he; subst he; simp [deepR]; omega
    · rename_i hne
      rw [if_neg hne] at h
      have := ih h
      simp only [deepR, List.map_cons, List.sum_cons] at this ⊢
      omega
theorem del_none {r : List Nd} (hr : Roll r) {id : Int} (h : getR r id = 0) : delR r id = r := by
  induction r with
  | nil => rfl
  | cons x r ih =>
    have hx := hr.2 x (by simp)
    simp only [getR] at h
    simp only [delR]
    split
    · rename_i he; rw [if_pos he] at h; omega
    · rename_i hne; rw [if_neg hne] at h; rw [ih hr.tail h]
theorem deep_add (r : List Nd) (id c : Int) : deepR (addR r id c) ≤ deepR r + id.toNat.log2 := by
  induction r with
  | nil => simp [addR, deepR]
  | cons x r ih =>
    simp only [addR]
    split
    · rename_i he; subst he; simp [deepR]
    · split
      · simp [deepR]; omega
      · simp only [deepR, List.map_cons, List.sum_cons] at ih ⊢; omega
theorem deep_fold {l : Nat} {r : List Nd} (hr : Roll r) {p most : Int} (hy : readyR l r p most = true) : deepR (foldR r p) + 1 ≤ deepR r := by
  obtain ⟨h1, h2, h3⟩ := ready_iff.1 hy
  obtain ⟨n1, n2⟩ := kids_iff.1 h1
  obtain ⟨k1, k2, k3, k4, k5, k6, k7⟩ := node_kids n1 (kids_node n1 n2)
  have a1 := deep_add (delR (delR r (2 * p)) (2 * p + 1)) p (pairR r p)
  have e1 : getR (delR r (2 * p)) (2 * p + 1) = getR r (2 * p + 1) := by rw [getR_del hr, if_neg (by omega)]
  unfold foldR
  unfold pairR at h2
  by_cases g1 : getR r (2 * p) = 0
  · rw [del_none hr g1] at a1 e1 ⊢
    have := deep_del (r := r) (2 * p + 1) (by omega)
    omega
  · have d1 := deep_del (2 * p) g1
    by_cases g2 : getR r (2 * p + 1) = 0
    · rw [del_none (hr.del _) (by rw [e1]; exact g2)] at a1 ⊢
      omega
    · have d2 := deep_del (r := delR r (2 * p)) (2 * p + 1) (by rw [e1]; exact g2)
      omega
end Go.Proofs.YtcjnchjmpkapmaaGreat
/- Folding as far as it goes, the first that is ready first. Plain laws. -/
namespace Go.Proofs.YtcjnchjmpkapmaaGreat
open Go.ChangeShapes Go.WideShapes Go.ChangeAt Go.RowKit
set_option linter.unusedVariables false

def FirstIs (l : Nat) (most : Int) (r : List Nd) (p : Int) : Prop := readyR l r p most = true ∧ ∀ q, readyR l r q most = true → leA p q
inductive RunTo (l : Nat) (most : Int) : List Nd → List Int → List Nd → Prop
  | done {r : List Nd} (h : ∀ p, readyR l r p most = false) : RunTo l most r [] r
  | step {r s : List Nd} {p : Int} {ps : List Int} (h : FirstIs l most r p) (k : RunTo l most (foldR r p) ps s) : RunTo l most r (p :: ps) s
theorem RunTo.folded {l : Nat} {most : Int} {r s : List Nd} {ps : List Int} (h : RunTo l most r ps s) : Folded l most r s := by
  induction h with
  | done _ => exact Folded.refl _
  | step h _ ih => exact (Folded.step _ (Folded.refl _) h.1).trans ih
theorem RunTo.tight {l : Nat} {most : Int} {r s : List Nd} {ps : List Int} (h : RunTo l most r ps s) : ∀ p, readyR l s p most = false := by
  induction h with
  | done h => exact h
  | step _ _ ih => exact ih
def putW (L : List Int) (id : Int) : List Int := if id < 1 ∨ id ∈ L then L else putH L id
theorem putW_mem (L : List Int) (id : Int) (y : Int) : y ∈ putW L id ↔ y ∈ L ∨ (1 ≤ id ∧ y = id) := by
  unfold putW
  split
  · rename_i h
    rcases h with h | h
    · constructor
      · exact .inl
      · rintro (h2 | ⟨h2, _⟩)
        · exact h2
        · omega
    · constructor
      · exact .inl
      · rintro (h2 | ⟨_, rfl⟩)
        · exact h2
        · exact h
  · rename_i h
    rw [(putH_perm L id).mem_iff, List.mem_cons]
    constructor
    · rintro (rfl | h2)
      · exact .inr ⟨by omega, rfl⟩
      · exact .inl h2
    · rintro (h2 | ⟨_, rfl⟩)
      · exact .inr h2
      · exact .inl rfl
theorem putW_len (L : List Int) (id : Int) : (putW L id).length ≤ L.length + 1 := by
  unfold putW
  split
  · omega
  · rw [(putH_perm L id).length_eq]; simp
structure WaitL (L : List Int) : Prop where
  heap : HeapO L
  once : L.Nodup
  pos : ∀ x ∈ L, 1 ≤ x
theorem WaitL.nil : WaitL [] := ⟨heap_nil, List.nodup_nil, by simp⟩
theorem WaitL.put {L : List Int} (h : WaitL L) (id : Int) : WaitL (putW L id) := by
  unfold putW
  split
  · exact h
  · rename_i hn
    refine ⟨putH_heap h.heap id, ?_, ?_⟩
    · rw [(putH_perm L id).nodup_iff, List.nodup_cons]
      exact ⟨fun hm => hn (.inr hm), h.once⟩
    · intro x hx
      rcases List.mem_cons.1 ((putH_perm L id).mem_iff.1 hx) with rfl | hx
      · omega
      · exact h.pos x hx
theorem WaitL.pop {x : Int} {L : List Int} (h : WaitL (x :: L)) : WaitL (popH (x :: L)) :=
  ⟨popH_heap h.heap, (popH_perm x L).nodup_iff.2 (List.nodup_cons.1 h.once).2, fun y hy => h.pos y (List.mem_cons_of_mem _ ((popH_perm x L).mem_iff.1 hy))⟩
def Waits (l : Nat) (most : Int) (r : List Nd) (L : List Int) : Prop := ∀ p, readyR l r p most = true → p ∈ L
theorem Waits.skip {l : Nat} {most : Int} {r : List Nd} {x : Int} {L : List Int} (h : Waits l most r (x :: L)) (hx : readyR l r x most = false) : Waits l most r (popH (x :: L)) := by
  intro p hp
  rw [(popH_perm x L).mem_iff]
  rcases List.mem_cons.1 (h p hp) with rfl | h2
  · rw [hx] at hp; cases hp
  · exact h2
theorem Waits.first {l : Nat} {most : Int} {r : List Nd} {x : Int} {L : List Int} (h : Waits l most r (x :: L)) (hw : WaitL (x :: L)) (hx : readyR l r x most = true) : FirstIs l most r x :=
  ⟨hx, fun q hq => heap_head hw.heap q (h q hq)⟩
theorem Waits.fold {l : Nat} {most : Int} {r : List Nd} {x : Int} {L : List Int} (hr : Roll r) (h : Waits l most r (x :: L)) (hx : readyR l r x most = true) :
    Waits l most (foldR r x) (putW (putW (putW (popH (x :: L)) (2 * x)) (2 * x + 1)) (x / 2)) := by
  have hk := (ready_iff.1 hx).1
  have hx1 : 1 ≤ x := (isNode_lt (kids_iff.1 hk).1).1
  intro p hp
  rw [putW_mem, putW_mem, putW_mem, (popH_perm x L).mem_iff]
  obtain ⟨h1, h2, h3⟩ := ready_iff.1 hp
  have hp1 : 1 ≤ p := (isNode_lt (kids_iff.1 h1).1).1
  by_cases e1 : p = 2 * x
  · exact .inl (.inl (.inr ⟨by omega, e1⟩))
  by_cases e2 : p = 2 * x + 1
  · exact .inl (.inr ⟨by omega, e2⟩)
  by_cases e3 : p = x / 2
  · exact .inr ⟨by omega, e3⟩
  by_cases e4 : p = x
  · subst e4
    simp only [pairR, getR_fold hr hx1] at h2
    rw [if_neg (by omega), if_pos (.inl trivial), if_neg (by omega), if_pos (.inr trivial)] at h2
    omega
  refine .inl (.inl (.inl ?_))
  have g : ∀ id, id ≠ x → id ≠ 2 * x → id ≠ 2 * x + 1 → getR (foldR r x) id = getR r id := fun id a b c => by
    rw [getR_fold hr hx1, if_neg a, if_neg (by omega)]
  have q1 := g (2 * p) (by omega) (by omega) (by omega)
  have q2 := g (2 * p + 1) (by omega) (by omega) (by omega)
  have q3 := g p e4 e1 e2
  have : readyR l r p most = true := by
    rw [ready_iff]
    refine ⟨h1, ?_, ?_⟩
    · simp only [pairR, q1, q2] at h2 ⊢
      exact h2
    · simp only [pairR, q1, q2, q3] at h3 ⊢
      exact h3
  rcases List.mem_cons.1 (h p this) with h | h
  · exact absurd h e4
  · exact h
theorem Waits.done {l : Nat} {most : Int} {r : List Nd} (h : Waits l most r []) : RunTo l most r [] r := .done fun p => by
  rw [← Bool.not_eq_true]
  exact fun hp => by simpa using h p hp
theorem Waits.start {l : Nat} {most : Int} {r : List Nd} {L : List Int} (hL : ∀ x ∈ r, 1 ≤ x.1 / 2 → x.1 / 2 ∈ L) (hr : Roll r) : Waits l most r L := by
  intro p hp
  obtain ⟨h1, h2, _⟩ := ready_iff.1 hp
  have hp1 : 1 ≤ p := (isNode_lt (kids_iff.1 h1).1).1
  have : getR r (2 * p) ≠ 0 ∨ getR r (2 * p + 1) ≠ 0 := by
    unfold pairR at h2
    omega
  rcases this with h | h
  · have := hL _ (getR_pos hr h) (by simp only; omega)
    simp only at this
    rwa [show 2 * p / 2 = p by omega] at this
  · have := hL _ (getR_pos hr h) (by simp only; omega)
    simp only at this
    rwa [show (2 * p + 1) / 2 = p by omega] at this
end Go.Proofs.YtcjnchjmpkapmaaGreat
/- A table that is looked through: a node less. No program in sight. -/
namespace Go.Proofs.YtcjnchjmpkapmaaGreat
set_option linter.unusedVariables false

def wayOf (n a b : Nat) : Nat := (b + n - a) % n
theorem way_step {n a b : Nat} (ha : a < n) (hb : b < n) : b = step n a (wayOf n a b) ∧ wayOf n a b < n := by
  refine ⟨?_, Nat.mod_lt _ (by omega)⟩
  unfold step wayOf
  rw [Nat.add_mod_mod]
  have : a + (b + n - a) = b + n := by omega
  rw [this, Nat.add_mod_right, Nat.mod_eq_of_lt hb]
theorem way_of {n a d : Nat} (ha : a < n) (hd : d < n) : wayOf n a (step n a d) = d := by
  have h := way_step (b := step n a d) ha (step_lt (by omega))
  exact (step_inj hd h.2 h.1).symm
theorem step_step {n h c s : Nat} : step n (step n h c) s = step n h (c + s) := by
  unfold step
  rw [Nat.mod_add_mod, Nat.add_assoc]

structure Del (b : Nat) (S0 : List Nd) (h0 E : Nat) (S m : List Nd) (c t : Nat) : Prop where
  len : S.length = 2 ^ b
  perm : (S.filter full).Perm m
  hole : ∀ y, S[step (2 ^ b) h0 c]? = some y → y.2 = 0
  ct : c < t
  tE : t ≤ E
  En : E < 2 ^ b
  h0n : h0 < 2 ^ b
  same : ∀ t', t ≤ t' → t' < 2 ^ b → S[step (2 ^ b) h0 t']? = S0[step (2 ^ b) h0 t']?
  free : ∀ y, S0[step (2 ^ b) h0 E]? = some y → y.2 = 0
  mid : ∀ t', c < t' → t' < t → ∀ y, S[step (2 ^ b) h0 t']? = some y → y.2 ≠ 0 → ∃ d, d < 2 ^ b ∧ step (2 ^ b) h0 t' = step (2 ^ b) (homeOf b y.1) d ∧ ∀ d' < d, ∀ z, S[step (2 ^ b) (homeOf b y.1) d']? = some z → z.2 ≠ 0
  reach : ∀ i x, S[i]? = some x → x.2 ≠ 0 → ∃ d, d < 2 ^ b ∧ i = step (2 ^ b) (homeOf b x.1) d ∧ ∀ d' < d, step (2 ^ b) (homeOf b x.1) d' = step (2 ^ b) h0 c ∨ ∀ y, S[step (2 ^ b) (homeOf b x.1) d']? = some y → y.2 ≠ 0

theorem get_set' {S : List Nd} {i j : Nat} {x : Nd} (h : j ≠ i) : (S.set i x)[j]? = S[j]? := by
  rw [List.getElem?_set, if_neg (fun e => h e.symm)]
theorem get_set_at {S : List Nd} {i : Nat} {x : Nd} (h : i < S.length) : (S.set i x)[i]? = some x := by
  rw [List.getElem?_set, if_pos rfl, if_pos h]
theorem filter_set_free {S : List Nd} {i : Nat} {y x : Nd} (hi : S[i]? = some y) (hy : y.2 ≠ 0) (hx : x.2 = 0) : (S.filter full).Perm (y :: (S.set i x).filter full) := by
  have h1 := set_split hi
  have hlt := (List.getElem?_eq_some_iff.1 hi).1
  have h2 : S.set i x = S.take i ++ x :: S.drop (i + 1) := by rw [List.set_eq_take_append_cons_drop, if_pos hlt]
  rw [h2, List.filter_append, List.filter_cons, if_neg (by simp [full, hx])]
  conv => lhs; rw [h1]
  rw [List.filter_append, List.filter_cons, if_pos (by simp [full, hy])]
  exact List.perm_middle
section
variable {b : Nat} {S0 S m : List Nd} {h0 E c t : Nat}
theorem Del.start (h : PInv b S m) {x : Nd} (hx : S[h0]? = some x) (hx0 : x.2 ≠ 0) (hm : m.length < 2 ^ b) {m' : List Nd} (hm' : m.Perm (x :: m')) :
    ∃ E, Del b (S.set h0 (0, 0)) h0 E (S.set h0 (0, 0)) m' 0 1 := by
  have hlt := (List.getElem?_eq_some_iff.1 hx).1
  have hn : h0 < 2 ^ b := by rw [← h.len]; exact hlt
  obtain ⟨j, y, hj, hy⟩ := h.free hm
  have hjn : j < 2 ^ b := by rw [← h.len]; exact (List.getElem?_eq_some_iff.1 hj).1
  have hne : j ≠ h0 := by rintro rfl; rw [hx] at hj; cases hj; exact hx0 hy
  obtain ⟨e, he, hje⟩ := step_onto hjn hn
  have hs0 : step (2 ^ b) h0 0 = h0 := by unfold step; rw [Nat.add_zero, Nat.mod_eq_of_lt hn]
  have he0 : e ≠ 0 := by rintro rfl; exact hne (hje.trans hs0)
  refine ⟨e, by rw [List.length_set]; exact h.len, ?_, ?_, by omega, by omega, he, hn, fun _ _ _ => rfl, ?_, fun t' h1 h2 => by omega, ?_⟩
  · exact ((filter_set_free hx hx0 (x := (0, 0)) rfl).symm.trans (h.perm.trans hm')).cons_inv
  · intro y hy
    rw [hs0, get_set_at hlt] at hy
    cases hy; rfl
  · intro z hz
    rw [← hje, get_set' hne, hj] at hz
    cases hz; exact hy
  · intro i z hi hz
    rcases get_set hi with ⟨rfl, rfl⟩ | ⟨hi0, hi⟩
    · exact absurd rfl hz
    · obtain ⟨d, hd, e1, hw⟩ := h.reach i z hi hz
      refine ⟨d, hd, e1, fun d' hd' => ?_⟩
      by_cases hp : step (2 ^ b) (homeOf b z.1) d' = h0
      · left; rw [hp, hs0]
      · right
        intro y hy
        rw [get_set' hp] at hy
        exact hw d' hd' y hy
theorem Del.ne (h : Del b S0 h0 E S m c t) {x : Nd} (hx : S[step (2 ^ b) h0 t]? = some x) (hx0 : x.2 ≠ 0) : t < E := by
  refine Nat.lt_of_le_of_ne h.tE ?_
  rintro rfl
  rw [h.same t (Nat.le_refl _) h.En] at hx
  exact hx0 (h.free x hx)
theorem Del.stay (h : Del b S0 h0 E S m c t) (hb : b ≤ 64) {x : Nd} (hx : S[step (2 ^ b) h0 t]? = some x) (hx0 : x.2 ≠ 0) (hw : wayOf (2 ^ b) (homeOf b x.1) (step (2 ^ b) h0 t) < wayOf (2 ^ b) (homeOf b x.1) (step (2 ^ b) h0 c)) :
    Del b S0 h0 E S m c (t + 1) := by
  have hE := h.ne hx hx0
  have hct := h.ct
  refine ⟨h.len, h.perm, h.hole, by omega, hE, h.En, h.h0n, fun t' h1 h2 => h.same t' (by omega) h2, h.free, ?_, h.reach⟩
  intro t' h1 h2 y hy hy0
  rcases Nat.lt_or_eq_of_le (Nat.le_of_lt_succ h2) with hlt | rfl
  · exact h.mid t' h1 hlt y hy hy0
  · rw [hx] at hy; cases hy
    obtain ⟨d, hd, e1, hr⟩ := h.reach _ x hx hx0
    refine ⟨d, hd, e1, fun d' hd' z hz => ?_⟩
    rcases hr d' hd' with hp | hp
    · have hh := homeOf_lt hb x.1
      rw [e1, way_of hh hd, ← hp, way_of hh (by omega)] at hw
      omega
    · exact hp z hz
theorem Del.move (h : Del b S0 h0 E S m c t) (hb : b ≤ 64) {x : Nd} (hx : S[step (2 ^ b) h0 t]? = some x) (hx0 : x.2 ≠ 0) (hw : wayOf (2 ^ b) (homeOf b x.1) (step (2 ^ b) h0 c) ≤ wayOf (2 ^ b) (homeOf b x.1) (step (2 ^ b) h0 t)) :
    Del b S0 h0 E ((S.set (step (2 ^ b) h0 c) x).set (step (2 ^ b) h0 t) (0, 0)) m t (t + 1) := by
  have hE := h.ne hx hx0
  have hct := h.ct
  have hn := h.En
  have hp := Nat.two_pow_pos b
  have hh := homeOf_lt hb x.1
  have hL := h.len
  have hci : step (2 ^ b) h0 c < S.length := by rw [hL]; exact step_lt hp
  have hti : step (2 ^ b) h0 t < S.length := by rw [hL]; exact step_lt hp
  have hne : step (2 ^ b) h0 c ≠ step (2 ^ b) h0 t := fun e => by have := step_inj (by omega) (by omega) e; omega
  obtain ⟨y, hy⟩ : ∃ y, S[step (2 ^ b) h0 c]? = some y := ⟨_, List.getElem?_eq_getElem hci⟩
  have hy0 := h.hole y hy
  have g1 : ∀ j, j ≠ step (2 ^ b) h0 c → j ≠ step (2 ^ b) h0 t → ((S.set (step (2 ^ b) h0 c) x).set (step (2 ^ b) h0 t) (0, 0))[j]? = S[j]? := fun j h1 h2 => by rw [get_set' h2, get_set' h1]
  have g2 : ((S.set (step (2 ^ b) h0 c) x).set (step (2 ^ b) h0 t) (0, 0))[step (2 ^ b) h0 c]? = some x := by rw [get_set' hne, get_set_at hci]
  have g3 : ((S.set (step (2 ^ b) h0 c) x).set (step (2 ^ b) h0 t) (0, 0))[step (2 ^ b) h0 t]? = some (0, 0) := get_set_at (by rw [List.length_set]; exact hti)
  obtain ⟨d, hd, e1, hr⟩ := h.reach _ x hx hx0
  obtain ⟨dh, edh, hdh⟩ : ∃ dh, step (2 ^ b) h0 c = step (2 ^ b) (homeOf b x.1) dh ∧ dh < 2 ^ b := ⟨_, way_step hh (step_lt hp)⟩
  rw [e1, way_of hh hd, edh, way_of hh hdh] at hw
  have hlt : dh < d := by
    refine Nat.lt_of_le_of_ne hw ?_
    rintro rfl
    exact hne (edh.trans e1.symm)
  refine ⟨by rw [List.length_set, List.length_set]; exact hL, ?_, ?_, by omega, hE, hn, h.h0n, ?_, h.free, fun t' h1 h2 => by omega, ?_⟩
  · have p1 := filter_set_new hy hy0 hx0
    have q : (S.set (step (2 ^ b) h0 c) x)[step (2 ^ b) h0 t]? = some x := by rw [get_set' (fun e => hne e.symm)]; exact hx
    have p2 := filter_set_free q hx0 (x := (0, 0)) rfl
    exact ((p2.symm.trans p1).cons_inv).trans h.perm
  · intro z hz
    rw [g3] at hz
    cases hz; rfl
  · intro t' h1 h2
    rw [g1 _ (fun e => by have := step_inj (by omega) (by omega) e; omega) (fun e => by have := step_inj (by omega) (by omega) e; omega)]
    exact h.same t' (by omega) h2
  · intro i z hi hz
    by_cases hit : i = step (2 ^ b) h0 t
    · subst hit; rw [g3] at hi; cases hi; exact absurd rfl hz
    · by_cases hic : i = step (2 ^ b) h0 c
      · subst hic
        rw [g2] at hi; cases hi
        refine ⟨dh, hdh, edh, fun d' hd' => .inr fun y hy => ?_⟩
        have n1 : step (2 ^ b) (homeOf b x.1) d' ≠ step (2 ^ b) h0 c := fun e => by rw [edh] at e; have := step_inj (by omega) hdh e; omega
        have n2 : step (2 ^ b) (homeOf b x.1) d' ≠ step (2 ^ b) h0 t := fun e => by rw [e1] at e; have := step_inj (by omega) hd e; omega
        rw [g1 _ n1 n2] at hy
        rcases hr d' (by omega) with hq | hq
        · exact absurd hq n1
        · exact hq y hy
      · rw [g1 i hic hit] at hi
        obtain ⟨d2, hd2, e2, hr2⟩ := h.reach i z hi hz
        refine ⟨d2, hd2, e2, fun d' hd' => ?_⟩
        by_cases n2 : step (2 ^ b) (homeOf b z.1) d' = step (2 ^ b) h0 t
        · exact .inl n2
        · right
          intro y hy
          by_cases n1 : step (2 ^ b) (homeOf b z.1) d' = step (2 ^ b) h0 c
          · rw [n1, g2] at hy; cases hy; exact hx0
          · rw [g1 _ n1 n2] at hy
            rcases hr2 d' hd' with hq | hq
            · exact absurd hq n1
            · exact hq y hy
theorem Del.done (h : Del b S0 h0 E S m c t) {x : Nd} (hx : S[step (2 ^ b) h0 t]? = some x) (hx0 : x.2 = 0) (hi : (m.map (·.1)).Nodup) (hpos : ∀ x ∈ m, 1 ≤ x.2) : PInv b S m := by
  have hct := h.ct
  have hn := h.En
  have htE := h.tE
  refine ⟨h.len, h.perm, hi, hpos, fun i z hz hz0 => ?_⟩
  obtain ⟨d, hd, e1, hr⟩ := h.reach i z hz hz0
  by_cases hh : ∃ d', d' < d ∧ step (2 ^ b) (homeOf b z.1) d' = step (2 ^ b) h0 c
  · obtain ⟨d', hd', e2⟩ := hh
    have key : ∀ s, step (2 ^ b) (homeOf b z.1) (d' + s) = step (2 ^ b) h0 (c + s) := fun s => by rw [← step_step, e2, step_step]
    have ei : i = step (2 ^ b) h0 (c + (d - d')) := by rw [e1, ← key]; congr 1; omega
    rcases Nat.lt_trichotomy (c + (d - d')) t with hlt | heq | hgt
    · rw [ei] at hz
      obtain ⟨d2, h1, h2, h3⟩ := h.mid _ (by omega) hlt z hz hz0
      exact ⟨d2, h1, ei.trans h2, h3⟩
    · rw [ei, heq, hx] at hz
      cases hz
      exact absurd hx0 hz0
    · have h3 := hr (d' + (t - c)) (by omega)
      rw [key, show c + (t - c) = t by omega] at h3
      rcases h3 with h3 | h3
      · have := step_inj (by omega) (by omega) h3; omega
      · exact absurd hx0 (h3 x hx)
  · refine ⟨d, hd, e1, fun d' hd' y hy => ?_⟩
    rcases hr d' hd' with hq | hq
    · exact absurd ⟨d', hd', hq⟩ hh
    · exact hq y hy
end
end Go.Proofs.YtcjnchjmpkapmaaGreat
/- Package dense: Get, Len, Take. -/
namespace Go.Proofs.YtcjnchjmpkapmaaGreat
open Go.ChangeShapes Go.WideShapes Go.ChangeAt Go.RowKit
set_option linter.unusedVariables false
set_option linter.unusedSimpArgs false
set_option maxRecDepth 100000

theorem isNode_nat' {l : Nat} {id : Int} (h : isNode l id = true) : ∃ k : Nat, id = k ∧ 1 ≤ k ∧ k < 2 * 2 ^ l := by
  obtain ⟨n, x, hn, rfl, _, _, h1, h2⟩ := isNode_nat h
  obtain rfl : n = l := by omega
  exact ⟨x, rfl, h1, by exact_mod_cast h2⟩
theorem getR_out {l : Nat} {r : List Nd} (hn : ∀ x ∈ r, isNode l x.1 = true) {id : Int} (h : isNode l id = false) : getR r id = 0 := getR_none fun x hx he => by
  have := hn x hx
  rw [he, h] at this
  cases this
theorem dense_Len (w : World) (g l : Nat) (r : List Nd) (F : Nat → Prop) (h : DenseAt w g l r F) : Calls Tryz.prog 301 #[.pointer (some ⟨g, 0, none⟩)] w fun e w' => e = .returned (.int .i64 r.length) ∧ Below w.heap.size w w' := by
  obtain ⟨v, C, hh, _⟩ := h
  have c := blk_cell hh
  have z := lt_of_block hh
  clear hh
  go_enter Tryz.func301, Tryz.ntmps301
  go_wp2_with fail
  go_ret
  exact ⟨rfl, (by repeat (first | with_reducible exact Below.refl _ _ | with_reducible assumption | ((with_reducible refine Below.setCell ?_ ?_ _); rotate_left; · (first | omega | exact Nat.le_refl _ | (simp <;> omega))) | (with_reducible refine Below.allocW ?_ _) | (with_reducible refine Below.drew ?_) | (with_reducible refine Below.extW ?_ _)))⟩
theorem dense_Get (w : World) (g l : Nat) (r : List Nd) (F : Nat → Prop) (h : DenseAt w g l r F) (id : Int) (hn : ∀ x ∈ r, isNode l x.1 = true) : Calls Tryz.prog 279 #[.pointer (some ⟨g, 0, none⟩), .int .i64 id] w fun e w' => e = .returned (.int .i64 (getR r id)) ∧ Below w.heap.size w w' := by
  obtain ⟨v, C, hh, ho, hl, hcc, rfl⟩ := h
  have cc := blk_cell hh
  have zg := lt_of_block hh
  have H := Lib.hid hh
  cases hN : isNode l id
  · rw [getR_out hn hN]
    clear hh ho hl hcc
    have HN := Lib.hid hN
    clear hN hn
    go_enter Tryz.func279, Tryz.ntmps279
    go_wp2_with fail
    refine (twig_Right _ l id).mono ?_
    rintro e w1 ⟨rfl, hb1⟩
    have B1 : Below w.heap.size w w1 := Below.then_ (by repeat (first | with_reducible exact Below.refl _ _ | with_reducible assumption | ((with_reducible refine Below.setCell ?_ ?_ _); rotate_left; · (first | omega | exact Nat.le_refl _ | (simp <;> omega))) | (with_reducible refine Below.allocW ?_ _) | (with_reducible refine Below.drew ?_) | (with_reducible refine Below.extW ?_ _))) hb1
    have s1 : w.heap.size ≤ w1.heap.size := B1.size
    rw [HN.out]
    go_wp2_with fail
    go_ret
    exact ⟨rfl, (by repeat (first | with_reducible exact Below.refl _ _ | with_reducible assumption | ((with_reducible refine Below.setCell ?_ ?_ _); rotate_left; · (first | omega | exact Nat.le_refl _ | (simp <;> omega))) | (with_reducible refine Below.allocW ?_ _) | (with_reducible refine Below.drew ?_) | (with_reducible refine Below.extW ?_ _)))⟩
  · obtain ⟨k, rfl, hk1, hk2⟩ := isNode_nat' hN
    obtain ⟨b, off, cap, rfl, hcap⟩ := own_at0 ho (by omega)
    have d := ho.slT.cell_at (k := k) (by omega) 0 (.int .i64 C[k]) rfl
    have hck := hcc k (by omega)
    rw [List.getElem?_eq_getElem (by omega)] at hck
    injection hck with hck
    rw [hck] at d
    simp only [Nat.mul_one, Nat.add_zero] at d
    have zb := (ho.lt b rfl).2
    have i1 : (k : Int) < (C.length : Int) := by omega
    generalize getR r k = n at d ⊢
    have HN := Lib.hid hN
    clear hh ho hl hcc hck hn hN
    go_enter Tryz.func279, Tryz.ntmps279
    go_wp2_with fail
    refine (twig_Right _ l k).mono ?_
    rintro e w1 ⟨rfl, hb1⟩
    have B1 : Below w.heap.size w w1 := Below.then_ (by repeat (first | with_reducible exact Below.refl _ _ | with_reducible assumption | ((with_reducible refine Below.setCell ?_ ?_ _); rotate_left; · (first | omega | exact Nat.le_refl _ | (simp <;> omega))) | (with_reducible refine Below.allocW ?_ _) | (with_reducible refine Below.drew ?_) | (with_reducible refine Below.extW ?_ _))) hb1
    have s1 : w.heap.size ≤ w1.heap.size := B1.size
    rw [HN.out]
    have k1 := blk_below H.out hb1
    have cc1 := blk_cell k1
    have d1 := (hb1.cell (p := ⟨b, off + k, none⟩) zb).trans d
    have zg1 := lt_of_block k1
    clear cc d k1
    go_wp2_with fail
    go_ret
    exact ⟨rfl, (by repeat (first | with_reducible exact Below.refl _ _ | with_reducible assumption | ((with_reducible refine Below.setCell ?_ ?_ _); rotate_left; · (first | omega | exact Nat.le_refl _ | (simp <;> omega))) | (with_reducible refine Below.allocW ?_ _) | (with_reducible refine Below.drew ?_) | (with_reducible refine Below.extW ?_ _)))⟩
theorem len_del {r : List Nd} (id : Int) : ((delR r id).length : Int) = if getR r id = 0 ∧ (∀ x ∈ r, x.1 ≠ id) then (r.length : Int) else (r.length : Int) - (if ∃ x ∈ r, x.1 = id then 1 else 0) := by
  induction r with
  | nil => simp [delR, getR]
  | cons x r ih =>
    simp only [delR]
    by_cases hx : x.1 = id
    · rw [if_pos hx]
      have h1 : ¬ (getR (x :: r) id = 0 ∧ ∀ y ∈ x :: r, y.1 ≠ id) := fun h => h.2 x (by simp) hx
      have h2 : ∃ y ∈ x :: r, y.1 = id := ⟨x, by simp, hx⟩
      rw [if_neg h1, if_pos h2]
      simp
    · rw [if_neg hx]
      have e1 : getR (x :: r) id = getR r id := by simp only [getR]; rw [if_neg hx]
      have e2 : (∀ y ∈ x :: r, y.1 ≠ id) ↔ ∀ y ∈ r, y.1 ≠ id := by simp [hx]
      have e3 : (∃ y ∈ x :: r, y.1 = id) ↔ ∃ y ∈ r, y.1 = id := by simp [hx]
      simp only [List.length_cons, e1, e2, e3]
      push_cast
      rw [ih]
      split <;> omega
theorem len_del_pos {r : List Nd} {id : Int} (h : getR r id ≠ 0) : ((delR r id).length : Int) = (r.length : Int) - 1 := by
  rw [len_del]
  have : ∃ x ∈ r, x.1 = id := by
    rcases Classical.em (∃ x ∈ r, x.1 = id) with h' | h'
    · exact h'
    · exact absurd (getR_none fun x hx he => h' ⟨x, hx, he⟩) h
  rw [if_neg (fun h' => h h'.1), if_pos this]
theorem dense_taken {w : World} {g l b off cap k : Nat} {r r' : List Nd} {C : List Int} {u m : Int} {v0 v1 v2 : Value} (hh : w.heap[g]? = some (.cells #[v0, v1, v2, .slice (some ⟨b, off, none⟩) C.length cap] 315 (0, 0)))
    (ho : Own w 0 3 encZ (.slice (some ⟨b, off, none⟩) C.length cap) C) (hl : C.length = 2 * 2 ^ l) (hc : ∀ i : Nat, i < C.length → C[i]? = some (getR r i)) (hk : k < C.length)
    (hr : ∀ j : Int, getR r' j = if j = k then 0 else getR r j) (hu : (r'.length : Int) = u) (hm : sumR r' = m) (hv0 : v0 = .int .i64 l := by rfl) :
    DenseAt (((w.setCell ⟨b, off + k, none⟩ (.int .i64 0)).setCell ⟨g, 1, none⟩ (.int .i64 u)).setCell ⟨g, 2, none⟩ (.int .i64 m)) g l r' (foot2 g (.slice (some ⟨b, off, none⟩) C.length cap)) := by
  have hne := ho.ne_block hh (by decide)
  have hgb : g ≠ b := fun he => hne (by rw [he]; rfl)
  have o1 := ho.setElem k 0 hk (by decide) (.int .i64 0) 0 rfl
  rw [Nat.mul_one, Nat.add_zero] at o1
  subst hv0
  have k1 : (w.setCell ⟨b, off + k, none⟩ (.int .i64 0)).heap[g]? = _ := (Below.heap_setCell _ _ _ _ hgb).trans hh
  have k2 := heap_set_at (i := 1) k1 (.int .i64 u)
  have o2 := o1.setCell (p := ⟨g, 1, none⟩) (o1.ne_block k1 (by decide)) (.int .i64 u)
  have k3 := heap_set_at (i := 2) k2 (.int .i64 m)
  have o3 := o2.setCell (p := ⟨g, 2, none⟩) (o2.ne_block k2 (by decide)) (.int .i64 m)
  subst hu hm
  refine ⟨_, C.set k 0, by rw [k3]; rfl, o3, by simpa using hl, fun i hi => ?_, rfl⟩
  rw [List.length_set] at hi
  rw [List.getElem?_set]
  by_cases hik : k = i
  · subst hik
    rw [if_pos rfl, if_pos hi, hr, if_pos rfl]
  · rw [if_neg hik, hc i hi, hr, if_neg (by omega)]
theorem del_none' {r : List Nd} {id : Int} (h : ∀ x ∈ r, x.1 ≠ id) : delR r id = r := by
  induction r with
  | nil => rfl
  | cons x r ih =>
    simp only [delR]
    rw [if_neg (h x (by simp)), ih fun y hy => h y (by simp [hy])]
theorem del_zero {r : List Nd} (hr : Roll r) {id : Int} (h : getR r id = 0) : delR r id = r := del_none' fun x hx he => by
  have := getR_mem hr hx
  have := (hr.2 x hx).2
  rw [he] at *
  omega
theorem dense_Take (w : World) (g l : Nat) (r : List Nd) (F : Nat → Prop) (h : DenseAt w g l r F) (hf : Fits l r) (id : Int) (hn : ∀ x ∈ r, isNode l x.1 = true) :
    Calls Tryz.prog 277 #[.pointer (some ⟨g, 0, none⟩), .int .i64 id] w fun e w' => e = .returned (.int .i64 (getR r id)) ∧ DenseAt w' g l (delR r id) F ∧ Turn F w w' := by
  have HG := Lib.hid (dense_Get w g l r F h id hn)
  by_cases h0 : getR r id = 0
  · rw [h0] at HG ⊢
    rw [del_zero hf.roll h0]
    have H := Lib.hid h
    clear h hf hn h0
    go_enter Tryz.func277, Tryz.ntmps277
    go_wp2_with fail
    refine HG.out.mono ?_
    rintro e w1 ⟨rfl, hb1⟩
    have HB := Lib.hid hb1
    go_wp2_with fail
    go_ret
    exact ⟨rfl, H.out.below HB.out, .of_below HB.out⟩
  · have hN : isNode l id = true := by
      cases hN : isNode l id
      · exact absurd (getR_out hn hN) h0
      · rfl
    obtain ⟨k, rfl, hk1, hk2⟩ := isNode_nat' hN
    have hp := getR_nonneg hf.roll k
    have hle := getR_le_sum hf.roll k
    have hs := hf.sum
    have hlen := len_del_pos h0
    have hsum := sumR_del hf.roll k
    have hls := len_le_sum hf.roll
    have hgd := getR_del hf.roll k
    have hpos : 0 < getR r k := by omega
    obtain ⟨v, C, hh, ho, hl, hcc, rfl⟩ := h
    obtain ⟨b, off, cap, rfl, hcap⟩ := own_at0 ho (by omega)
    have H := Lib.hid hh
    have HO := Lib.hid ho
    have HS := Lib.hid (And.intro hl (And.intro hcc (And.intro hgd (And.intro hlen hsum))))
    have zb := (ho.lt b rfl).2
    have i1 : (k : Int) < (C.length : Int) := by omega
    have hkl : k < C.length := by omega
    have hrl : 0 ≤ (r.length : Int) - 1 := by have := (delR r k).length; omega
    clear hh ho hgd hlen hsum hf hn hN hl hcc
    generalize getR r k = n at HG hp hle h0 hpos HS ⊢
    go_enter Tryz.func277, Tryz.ntmps277
    go_wp2_with fail
    refine HG.out.mono ?_
    rintro e w1 ⟨rfl, hb1⟩
    have HB := Lib.hid hb1
    have k1 := blk_below H.out hb1
    have o1 := HO.out.below hb1
    have cc1 := blk_cell k1
    have cf1 := blk_frozen k1
    have f1 := o1.frozen (off + k)
    have zg1 := lt_of_block k1
    have zb1 := (o1.lt b rfl).2
    have hnb : g ≠ b := fun he => o1.ne_block k1 (by decide) (by rw [he]; rfl)
    have hnb' : b ≠ g := fun he => hnb he.symm
    have d1 := o1.slT.cell_at (k := k) (by omega) 0 (.int .i64 C[k]) rfl
    simp only [Nat.mul_one, Nat.add_zero] at d1
    have K1 := Lib.hid k1
    have O1 := Lib.hid o1
    clear k1 o1 hb1
    go_wp2_with fail
    go_ret
    refine ⟨rfl, ?_, ?_⟩
    · exact dense_taken (r' := delR r k) K1.out O1.out HS.out.1 HS.out.2.1 hkl HS.out.2.2.1 HS.out.2.2.2.1 HS.out.2.2.2.2
    · refine Turn.setCell (Turn.setCell (Turn.setCell (.of_below HB.out) ?_ _) ?_ _) ?_ _
      · exact .inl (.inr rfl)
      · exact .inl (.inl rfl)
      · exact .inl (.inl rfl)
end Go.Proofs.YtcjnchjmpkapmaaGreat
/- Package probe: Get, Len, and the way from a slot to another one. -/
namespace Go.Proofs.YtcjnchjmpkapmaaGreat
open Go.ChangeShapes Go.WideShapes Go.ChangeAt Go.RowKit
set_option linter.unusedVariables false
set_option linter.unusedSimpArgs false
set_option maxRecDepth 100000

theorem mask_any (i : Nat) (hi : i ≤ 62) (x : Int) : bits .and .i64 x (2 ^ i - 1) = x % 2 ^ i := by
  have hi64 : i + (64 - i) = 64 := by omega
  have hd : (2 : Int) ^ i ∣ 2 ^ 64 := ⟨2 ^ (64 - i), by rw [← Int.pow_add, hi64]⟩
  have hpos : 0 < 2 ^ i := Nat.two_pow_pos i
  have hc : ((2 : Int) ^ i - 1) = ((2 ^ i - 1 : Nat) : Int) := by
    rw [Int.natCast_sub hpos]; simp
  have e0 : bits .and .i64 x ((2 ^ i - 1 : Nat) : Int) = IntKind.i64.wrap (((BitVec.ofInt 64 x) &&& (BitVec.ofInt 64 ((2 ^ i - 1 : Nat) : Int))).toNat : Int) := rfl
  rw [hc, e0, BitVec.toNat_and, BitVec.toNat_ofInt, BitVec.ofInt_natCast, BitVec.toNat_ofNat]
  have hle : 2 ^ i ≤ 4611686018427387904 := by
    have := Nat.pow_le_pow_right (n := 2) (by decide) hi
    simpa using this
  have hm : (2 ^ i - 1) % 2 ^ 64 = 2 ^ i - 1 := Nat.mod_eq_of_lt (by
    have : (2 : Nat) ^ 64 = 18446744073709551616 := by decide
    rw [this]
    generalize 2 ^ i = p at *
    omega)
  rw [hm, Nat.and_two_pow_sub_one_eq_mod]
  have e : (((x % (2 ^ 64 : Nat)).toNat % 2 ^ i : Nat) : Int) = x % 2 ^ i := by
    have h64 : ((2 ^ 64 : Nat) : Int) = 2 ^ 64 := Int.natCast_pow 2 64
    have hn : (0 : Int) ≤ x % ((2 ^ 64 : Nat) : Int) := Int.emod_nonneg _ (Int.ne_of_gt (Int.natCast_pos.2 (Nat.two_pow_pos 64)))
    have t := Int.toNat_of_nonneg hn
    rw [Int.natCast_emod, t, h64]
    have p2 : ((2 ^ i : Nat) : Int) = 2 ^ i := Int.natCast_pow 2 i
    rw [p2]
    exact Int.emod_emod_of_dvd x hd
  rw [e]
  have h0 := Int.emod_nonneg x (show (2 : Int) ^ i ≠ 0 from Int.ne_of_gt (Int.pow_pos (by decide)))
  have h1 := Int.emod_lt_of_pos x (show (0 : Int) < 2 ^ i from Int.pow_pos (by decide))
  have h2 : (2 : Int) ^ i ≤ 4611686018427387904 := by
    have h62 : (2 : Int) ^ 62 = 4611686018427387904 := by decide
    rw [← h62]
    exact pow_le' hi
  refine wraps_i64 _ h0 ?_
  have : (2 : Int) ^ 63 = 9223372036854775808 := by decide
  rw [this]
  generalize x % 2 ^ i = y at *
  generalize (2 : Int) ^ i = p at *
  omega
theorem way_mask (i j n b : Nat) (hn : n = 2 ^ b) (hb : b ≤ 40) (hi : i < n) (hj : j < n) : bits .and .i64 ((j : Int) - (i : Int)) ((n : Int) - 1) = (wayOf n i j : Nat) := by
  have e : ((n : Int) - 1) = 2 ^ b - 1 := by rw [hn]; push_cast; rfl
  rw [e, mask_any b (by omega)]
  unfold wayOf
  rw [Int.natCast_emod, Int.natCast_sub (by omega), Int.natCast_add, hn]
  push_cast
  rw [show (j : Int) + 2 ^ b - i = (j - i) + 2 ^ b by omega, Int.add_emod_right]
theorem probe_way (w : World) (g n b i j : Nat) (cs : Array Value) (A : Option Addr) (cap : Nat) (hh : w.heap[g]? = some (.cells cs 317 (0, 0))) (hv : cs[4]? = some (.slice A n cap)) (hn : n = 2 ^ b) (hb : b ≤ 35) (hi : i < n) (hj : j < n) :
    Calls Tryz.prog 337 #[.pointer (some ⟨g, 0, none⟩), .int .i64 i, .int .i64 j] w fun e w' => e = .returned (.int .i64 (wayOf n i j : Nat)) ∧ Below w.heap.size w w' := by
  have c := (blk_cell hh 4).trans hv
  have hN : n ≤ 34359738368 := by rw [hn]; have := Nat.pow_le_pow_right (n := 2) (by decide) hb; simpa using this
  have hp : 0 < n := by rw [hn]; exact Nat.two_pow_pos b
  have HN := Lib.hid hn
  clear hh hv hn
  go_enter Tryz.func337, Tryz.ntmps337
  go_wp2_with fail
  go_ret
  exact ⟨ret_int (way_mask i j n b HN.out (by omega) (by omega) (by omega)), (by repeat (first | with_reducible exact Below.refl _ _ | with_reducible assumption | ((with_reducible refine Below.setCell ?_ ?_ _); rotate_left; · (first | omega | exact Nat.le_refl _ | (simp <;> omega))) | (with_reducible refine Below.allocW ?_ _) | (with_reducible refine Below.drew ?_) | (with_reducible refine Below.extW ?_ _)))⟩
theorem probe_Len (w : World) (g l : Nat) (r : List Nd) (F : Nat → Prop) (h : ProbeAt w g l r F) : Calls Tryz.prog 302 #[.pointer (some ⟨g, 0, none⟩)] w fun e w' => e = .returned (.int .i64 r.length) ∧ Below w.heap.size w w' := by
  obtain ⟨v, S, b, hh, _⟩ := h
  have c := blk_cell hh
  have z := lt_of_block hh
  clear hh
  go_enter Tryz.func302, Tryz.ntmps302
  go_wp2_with fail
  go_ret
  exact ⟨rfl, (by repeat (first | with_reducible exact Below.refl _ _ | with_reducible assumption | ((with_reducible refine Below.setCell ?_ ?_ _); rotate_left; · (first | omega | exact Nat.le_refl _ | (simp <;> omega))) | (with_reducible refine Below.allocW ?_ _) | (with_reducible refine Below.drew ?_) | (with_reducible refine Below.extW ?_ _)))⟩
theorem probe_Get (w : World) (g l : Nat) (r : List Nd) (F : Nat → Prop) (h : ProbeAt w g l r F) (hl : l ≤ 48) (id : Int) (hn : ∀ x ∈ r, isNode l x.1 = true) : Calls Tryz.prog 280 #[.pointer (some ⟨g, 0, none⟩), .int .i64 id] w fun e w' => e = .returned (.int .i64 (getR r id)) ∧ Below w.heap.size w w' := by
  obtain ⟨v, S, b, hh, ho, hI, hq3, hq34, hfree, rfl⟩ := h
  cases hN : isNode l id
  · rw [getR_out hn hN]
    have HN := Lib.hid hN
    have H := Lib.hid hh
    clear hh ho hI hN hn hfree
    go_enter Tryz.func280, Tryz.ntmps280
    go_wp2_with fail
    refine (probe_right _ g l _ id H.out rfl).mono ?_
    rintro e w1 ⟨rfl, hb1⟩
    have B1 : Below w.heap.size w w1 := Below.then_ (by repeat (first | with_reducible exact Below.refl _ _ | with_reducible assumption | ((with_reducible refine Below.setCell ?_ ?_ _); rotate_left; · (first | omega | exact Nat.le_refl _ | (simp <;> omega))) | (with_reducible refine Below.allocW ?_ _) | (with_reducible refine Below.drew ?_) | (with_reducible refine Below.extW ?_ _))) hb1
    have s1 : w.heap.size ≤ w1.heap.size := B1.size
    rw [HN.out]
    go_wp2_with fail
    go_ret
    exact ⟨rfl, (by repeat (first | with_reducible exact Below.refl _ _ | with_reducible assumption | ((with_reducible refine Below.setCell ?_ ?_ _); rotate_left; · (first | omega | exact Nat.le_refl _ | (simp <;> omega))) | (with_reducible refine Below.allocW ?_ _) | (with_reducible refine Below.drew ?_) | (with_reducible refine Below.extW ?_ _)))⟩
  · have hid := isNode_lt hN
    have hkb : id ≤ 562949953421312 := by have := pow_48 hl; have h3 := hid.2; omega
    have hid1 := hid.1
    obtain ⟨sb, off, cap, rfl, hcap⟩ := own_at0 ho (by rw [hI.len]; exact Nat.two_pow_pos b)
    have hm : r.length < 2 ^ b := by have := Nat.two_pow_pos b; omega
    have hl := hI.len
    have hSl : S.length ≤ 34359738368 := by rw [hl]; have := Nat.pow_le_pow_right (n := 2) (by decide) (show b ≤ 35 by omega); simpa using this
    have cc := blk_cell hh
    have H := Lib.hid hh
    have HO := Lib.hid ho
    have HI := Lib.hid hI
    have HF := Lib.hid (And.intro hm (And.intro hfree hl))
    have HN := Lib.hid hN
    have HG := Lib.hid (fun i d (hL : LookAt S b id i d) => hL.get hI)
    generalize getR r id = n at HG ⊢
    clear hh ho hI hfree hl hm hN hn hid cc
    go_enter Tryz.func280, Tryz.ntmps280
    go_wp2_with fail
    refine (probe_right _ g l _ id H.out rfl).mono ?_
    rintro e w1 ⟨rfl, hb1⟩
    have B1 : Below w.heap.size w w1 := Below.then_ (by repeat (first | with_reducible exact Below.refl _ _ | with_reducible assumption | ((with_reducible refine Below.setCell ?_ ?_ _); rotate_left; · (first | omega | exact Nat.le_refl _ | (simp <;> omega))) | (with_reducible refine Below.allocW ?_ _) | (with_reducible refine Below.drew ?_) | (with_reducible refine Below.extW ?_ _))) hb1
    have s1 : w.heap.size ≤ w1.heap.size := B1.size
    rw [HN.out]
    have k1 := blk_below H.out hb1
    have o1 := HO.out.below hb1
    have K1 := Lib.hid k1
    have O1 := Lib.hid o1
    clear k1 o1
    go_wp2_with fail
    refine (probe_look _ g b sb off _ cap _ _ _ S r id K1.out O1.out HI.out HF.out.1 hq3 (by omega) hid1 hkb).mono ?_
    rintro e w3 ⟨i, d, rfl, hL, hb3⟩
    have B3 : Below w.heap.size w w3 := Below.then_ (by repeat (first | with_reducible exact Below.refl _ _ | with_reducible assumption | ((with_reducible refine Below.setCell ?_ ?_ _); rotate_left; · (first | omega | exact Nat.le_refl _ | (simp <;> omega))) | (with_reducible refine Below.allocW ?_ _) | (with_reducible refine Below.drew ?_) | (with_reducible refine Below.extW ?_ _))) hb3
    have s3 : w.heap.size ≤ w3.heap.size := B3.size
    have k3 := blk_below K1.out hb3
    have o3 := O1.out.below hb3
    have cc3 := blk_cell k3
    have hil : i < S.length := by rw [HF.out.2.2]; exact hL.i_lt
    obtain ⟨x, hx, hx2, _⟩ := HG.out _ _ hL
    have d1 := o3.slT.cell_at hil 1 (.int .i64 S[i].2) rfl
    rw [List.getElem?_eq_getElem hil] at hx
    injection hx with hx
    rw [hx, hx2] at d1
    have zg3 := lt_of_block k3
    have zb3 := (o3.lt _ rfl).2
    clear hL hx hx2 k3 o3 hb3 K1 O1
    have hil2 : (i : Int) < (S.length : Int) := by omega
    go_wp2_with fail
    go_ret
    exact ⟨rfl, (by repeat (first | with_reducible exact Below.refl _ _ | with_reducible assumption | ((with_reducible refine Below.setCell ?_ ?_ _); rotate_left; · (first | omega | exact Nat.le_refl _ | (simp <;> omega))) | (with_reducible refine Below.allocW ?_ _) | (with_reducible refine Below.drew ?_) | (with_reducible refine Below.extW ?_ _)))⟩
end Go.Proofs.YtcjnchjmpkapmaaGreat
/- Package pool: Get, Len. -/
namespace Go.Proofs.YtcjnchjmpkapmaaGreat
open Go.ChangeShapes Go.WideShapes Go.ChangeAt Go.RowKit
set_option linter.unusedVariables false
set_option linter.unusedSimpArgs false
set_option maxRecDepth 100000

theorem PoolAt.l_le {w : World} {g K l : Nat} {r : List Nd} {F : Nat → Prop} (h : PoolAt w g K l r F) : 1 ≤ l ∧ l ≤ 48 := ⟨h.1, h.2.1⟩
theorem pool_Len (w : World) (g K l : Nat) (r : List Nd) (F : Nat → Prop) (h : PoolAt w g K l r F) : Calls Tryz.prog 239 #[.pointer (some ⟨g, 0, none⟩)] w fun e w' => e = .returned (.int .i64 (r.length)) ∧ Below w.heap.size w w' := by
  have hn := h.fits.nodes h.l_le
  obtain ⟨h1, h2, h3, p, F0, rfl, h4⟩ := h
  rcases h4 with ⟨rfl, h16, hh, hd⟩ | ⟨rfl, hh, hd⟩
  · have H := Lib.hid hh
    have HC := Lib.hid (fun W (h : DenseAt W p l r F0) => dense_Len W p l r F0 h)
    have HD := Lib.hid hd
    clear hh hd hn
    go_enter Tryz.func239, Tryz.ntmps239
    go_wp2_with fail
    refine (pool_isArray _ g p _ H.out).mono ?_
    rintro e w1 ⟨rfl, hb1⟩
    have k1 := blk_below H.out hb1
    have c1 := blk_cell k1
    have z1 := lt_of_block k1
    have D1 := Lib.hid (HD.out.below hb1)
    clear k1
    go_wp2_with fail
    refine (HC.out _ D1.out).mono ?_
    rintro e w2 ⟨rfl, hb2⟩
    have HB2 := Lib.hid (hb1.trans (hb2.mono hb1.size))
    clear hb2
    go_wp2_with fail
    go_ret
    exact ⟨rfl, HB2.out⟩
  · have H := Lib.hid hh
    have HC := Lib.hid (fun W (h : ProbeAt W p l r F0) => probe_Len W p l r F0 h)
    have HD := Lib.hid hd
    clear hh hd hn
    go_enter Tryz.func239, Tryz.ntmps239
    go_wp2_with fail
    refine (pool_isArray_no _ g _ H.out).mono ?_
    rintro e w0 ⟨rfl, hb0⟩
    have K0 := Lib.hid (blk_below H.out hb0)
    go_wp2_with fail
    refine (pool_inner _ g _ _ K0.out).mono ?_
    rintro e w1 ⟨rfl, hb1'⟩
    have hb1 := hb0.trans (hb1'.mono hb0.size)
    have D1 := Lib.hid (HD.out.below hb1)
    clear hb0 hb1' K0
    go_wp2_with fail
    refine (HC.out _ D1.out).mono ?_
    rintro e w2 ⟨rfl, hb2⟩
    have HB2 := Lib.hid (hb1.trans (hb2.mono hb1.size))
    clear hb2
    go_wp2_with fail
    go_ret
    exact ⟨rfl, HB2.out⟩
theorem pool_Get (w : World) (g K l : Nat) (r : List Nd) (F : Nat → Prop) (h : PoolAt w g K l r F) (id : Int) : Calls Tryz.prog 201 #[.pointer (some ⟨g, 0, none⟩), .int .i64 id] w fun e w' => e = .returned (.int .i64 (getR r id)) ∧ Below w.heap.size w w' := by
  have hn := h.fits.nodes h.l_le
  obtain ⟨h1, h2, h3, p, F0, rfl, h4⟩ := h
  rcases h4 with ⟨rfl, h16, hh, hd⟩ | ⟨rfl, hh, hd⟩
  · have H := Lib.hid hh
    have HC := Lib.hid (fun W (h : DenseAt W p l r F0) => dense_Get W p l r F0 h id hn)
    have HD := Lib.hid hd
    clear hh hd hn
    go_enter Tryz.func201, Tryz.ntmps201
    go_wp2_with fail
    refine (pool_isArray _ g p _ H.out).mono ?_
    rintro e w1 ⟨rfl, hb1⟩
    have k1 := blk_below H.out hb1
    have c1 := blk_cell k1
    have z1 := lt_of_block k1
    have D1 := Lib.hid (HD.out.below hb1)
    clear k1
    go_wp2_with fail
    refine (HC.out _ D1.out).mono ?_
    rintro e w2 ⟨rfl, hb2⟩
    have HB2 := Lib.hid (hb1.trans (hb2.mono hb1.size))
    clear hb2
    go_wp2_with fail
    go_ret
    exact ⟨rfl, HB2.out⟩
  · have H := Lib.hid hh
    have HC := Lib.hid (fun W (h : ProbeAt W p l r F0) => probe_Get W p l r F0 h h2 id hn)
    have HD := Lib.hid hd
    clear hh hd hn
    go_enter Tryz.func201, Tryz.ntmps201
    go_wp2_with fail
    refine (pool_isArray_no _ g _ H.out).mono ?_
    rintro e w0 ⟨rfl, hb0⟩
    have K0 := Lib.hid (blk_below H.out hb0)
    go_wp2_with fail
    refine (pool_inner _ g _ _ K0.out).mono ?_
    rintro e w1 ⟨rfl, hb1'⟩
    have hb1 := hb0.trans (hb1'.mono hb0.size)
    have D1 := Lib.hid (HD.out.below hb1)
    clear hb0 hb1' K0
    go_wp2_with fail
    refine (HC.out _ D1.out).mono ?_
    rintro e w2 ⟨rfl, hb2⟩
    have HB2 := Lib.hid (hb1.trans (hb2.mono hb1.size))
    clear hb2
    go_wp2_with fail
    go_ret
    exact ⟨rfl, HB2.out⟩
end Go.Proofs.YtcjnchjmpkapmaaGreat
/- Package probe: Take. -/
namespace Go.Proofs.YtcjnchjmpkapmaaGreat
open Go.ChangeShapes Go.WideShapes Go.ChangeAt Go.RowKit
set_option linter.unusedVariables false
set_option linter.unusedSimpArgs false
set_option maxRecDepth 100000

theorem step_zero {n h : Nat} (hh : h < n) : step n h 0 = h := by unfold step; rw [Nat.add_zero, Nat.mod_eq_of_lt hh]
theorem probe_Take_none (w : World) (g l : Nat) (r : List Nd) (F : Nat → Prop) (h : ProbeAt w g l r F) (hl : l ≤ 48) (id : Int) (hn : ∀ x ∈ r, isNode l x.1 = true) (h0 : getR r id = 0) :
    Calls Tryz.prog 278 #[.pointer (some ⟨g, 0, none⟩), .int .i64 id] w fun e w' => e = .returned (.int .i64 0) ∧ Below w.heap.size w w' := by
  obtain ⟨v, S, b, hh, ho, hI, hq3, hq34, hfree, rfl⟩ := h
  cases hN : isNode l id
  · have HN := Lib.hid hN
    have H := Lib.hid hh
    clear hh ho hI hN hn hfree
    go_enter Tryz.func278, Tryz.ntmps278
    go_wp2_with fail
    refine (probe_right _ g l _ id H.out rfl).mono ?_
    rintro e w1 ⟨rfl, hb1⟩
    have B1 : Below w.heap.size w w1 := Below.then_ (by repeat (first | with_reducible exact Below.refl _ _ | with_reducible assumption | ((with_reducible refine Below.setCell ?_ ?_ _); rotate_left; · (first | omega | exact Nat.le_refl _ | (simp <;> omega))) | (with_reducible refine Below.allocW ?_ _) | (with_reducible refine Below.drew ?_) | (with_reducible refine Below.extW ?_ _))) hb1
    have s1 : w.heap.size ≤ w1.heap.size := B1.size
    rw [HN.out]
    go_wp2_with fail
    go_ret
    exact ⟨rfl, (by repeat (first | with_reducible exact Below.refl _ _ | with_reducible assumption | ((with_reducible refine Below.setCell ?_ ?_ _); rotate_left; · (first | omega | exact Nat.le_refl _ | (simp <;> omega))) | (with_reducible refine Below.allocW ?_ _) | (with_reducible refine Below.drew ?_) | (with_reducible refine Below.extW ?_ _)))⟩
  · have hid := isNode_lt hN
    have hkb : id ≤ 562949953421312 := by have := pow_48 hl; have h3 := hid.2; omega
    have hid1 := hid.1
    obtain ⟨sb, off, cap, rfl, hcap⟩ := own_at0 ho (by rw [hI.len]; exact Nat.two_pow_pos b)
    have hm : r.length < 2 ^ b := by have := Nat.two_pow_pos b; omega
    have hl := hI.len
    have hSl : S.length ≤ 34359738368 := by rw [hl]; have := Nat.pow_le_pow_right (n := 2) (by decide) (show b ≤ 35 by omega); simpa using this
    have H := Lib.hid hh
    have HO := Lib.hid ho
    have HI := Lib.hid hI
    have HF := Lib.hid (And.intro hm (And.intro hfree hl))
    have HN := Lib.hid hN
    have HG := Lib.hid (fun i d (hL : LookAt S b id i d) => hL.get hI)
    rw [h0] at HG
    clear hh ho hI hfree hl hm hN hn hid h0
    go_enter Tryz.func278, Tryz.ntmps278
    go_wp2_with fail
    refine (probe_right _ g l _ id H.out rfl).mono ?_
    rintro e w1 ⟨rfl, hb1⟩
    have B1 : Below w.heap.size w w1 := Below.then_ (by repeat (first | with_reducible exact Below.refl _ _ | with_reducible assumption | ((with_reducible refine Below.setCell ?_ ?_ _); rotate_left; · (first | omega | exact Nat.le_refl _ | (simp <;> omega))) | (with_reducible refine Below.allocW ?_ _) | (with_reducible refine Below.drew ?_) | (with_reducible refine Below.extW ?_ _))) hb1
    have s1 : w.heap.size ≤ w1.heap.size := B1.size
    rw [HN.out]
    have k1 := blk_below H.out hb1
    have o1 := HO.out.below hb1
    have K1 := Lib.hid k1
    have O1 := Lib.hid o1
    clear k1 o1
    go_wp2_with fail
    refine (probe_look _ g b sb off _ cap _ _ _ S r id K1.out O1.out HI.out HF.out.1 hq3 (by omega) hid1 hkb).mono ?_
    rintro e w3 ⟨i, d, rfl, hL, hb3⟩
    have B3 : Below w.heap.size w w3 := Below.then_ (by repeat (first | with_reducible exact Below.refl _ _ | with_reducible assumption | ((with_reducible refine Below.setCell ?_ ?_ _); rotate_left; · (first | omega | exact Nat.le_refl _ | (simp <;> omega))) | (with_reducible refine Below.allocW ?_ _) | (with_reducible refine Below.drew ?_) | (with_reducible refine Below.extW ?_ _))) hb3
    have s3 : w.heap.size ≤ w3.heap.size := B3.size
    have k3 := blk_below K1.out hb3
    have o3 := O1.out.below hb3
    have cc3 := blk_cell k3
    have hil : i < S.length := by rw [HF.out.2.2]; exact hL.i_lt
    obtain ⟨x, hx, hx2, _⟩ := HG.out _ _ hL
    have d1 := o3.slT.cell_at hil 1 (.int .i64 S[i].2) rfl
    rw [List.getElem?_eq_getElem hil] at hx
    injection hx with hx
    rw [hx, hx2] at d1
    have zg3 := lt_of_block k3
    have zb3 := (o3.lt _ rfl).2
    clear hL hx hx2 k3 o3 hb3 K1 O1
    have hil2 : (i : Int) < (S.length : Int) := by omega
    go_wp2_with fail
    go_ret
    exact ⟨rfl, (by repeat (first | with_reducible exact Below.refl _ _ | with_reducible assumption | ((with_reducible refine Below.setCell ?_ ?_ _); rotate_left; · (first | omega | exact Nat.le_refl _ | (simp <;> omega))) | (with_reducible refine Below.allocW ?_ _) | (with_reducible refine Below.drew ?_) | (with_reducible refine Below.extW ?_ _)))⟩
theorem del_less {b i t E p n : Nat} (hi : i < 2 ^ b) (ht : t < E) (hE : E < 2 ^ b) (hp : p = step (2 ^ b) i t) (hn : n = 2 ^ b) : E - wayOf (2 ^ b) i (intOf (.int .i64 (((p : Int) + 1) % (n : Int)))).toNat < E - wayOf (2 ^ b) i (intOf (.int .i64 (p : Int))).toNat := by
  have e1 : (intOf (.int .i64 (((p : Int) + 1) % (n : Int)))).toNat = (p + 1) % n := by
    show (((p : Int) + 1) % (n : Int)).toNat = _
    rw [show ((p : Int) + 1) % (n : Int) = (((p + 1) % n : Nat) : Int) by push_cast; rfl, Int.toNat_natCast]
  have e2 : (intOf (.int .i64 (p : Int))).toNat = p := Int.toNat_natCast p
  rw [e1, e2, hn, hp, step_succ (Nat.two_pow_pos b), way_of hi (by omega), way_of hi (by omega)]
  omega
theorem probe_taken {w : World} {g l b sb off cap n : Nat} {r' S : List Nd} {u m : Int} {v2 v3 : Value} (hh : w.heap[g]? = some (.cells #[.int .i64 l, .int .i64 b, v2, v3, .slice (some ⟨sb, off, none⟩) n cap] 317 (0, 0)))
    (ho : Own w 0 153 encN (.slice (some ⟨sb, off, none⟩) n cap) S) (hI : PInv b S r') (h3 : 3 ≤ b) (h34 : b ≤ 34) (hfree : 2 * r'.length ≤ 2 ^ b) (hu : (r'.length : Int) = u) (hm : sumR r' = m) :
    ProbeAt ((w.setCell ⟨g, 2, none⟩ (.int .i64 u)).setCell ⟨g, 3, none⟩ (.int .i64 m)) g l r' (foot2 g (.slice (some ⟨sb, off, none⟩) n cap)) := by
  have k1 := heap_set_at (i := 2) hh (.int .i64 u)
  have o1 := ho.setCell (p := ⟨g, 2, none⟩) (ho.ne_block hh (by decide)) (.int .i64 u)
  have k2 := heap_set_at (i := 3) k1 (.int .i64 m)
  have o2 := o1.setCell (p := ⟨g, 3, none⟩) (o1.ne_block k1 (by decide)) (.int .i64 m)
  subst hm hu
  exact ⟨_, S, b, by rw [k2]; rfl, o2, hI, h3, h34, hfree, rfl⟩
set_option maxHeartbeats 8000000 in
theorem probe_Take_some (w : World) (g l : Nat) (r : List Nd) (F : Nat → Prop) (h : ProbeAt w g l r F) (hf : Fits l r) (hl : l ≤ 48) (id : Int) (hn : ∀ x ∈ r, isNode l x.1 = true) (h0 : getR r id ≠ 0) :
    Calls Tryz.prog 278 #[.pointer (some ⟨g, 0, none⟩), .int .i64 id] w fun e w' => e = .returned (.int .i64 (getR r id)) ∧ ProbeAt w' g l (delR r id) F ∧ Turn F w w' := by
  have hN : isNode l id = true := by
    cases hN : isNode l id
    · exact absurd (getR_out hn hN) h0
    · rfl
  have hp := getR_nonneg hf.roll id
  have hle := getR_le_sum hf.roll id
  have hs := hf.sum
  have hlen := len_del_pos h0
  have hsum := sumR_del hf.roll id
  have hls := len_le_sum hf.roll
  have hpos : 0 < getR r id := by omega
  have hperm := delR_perm hf.roll h0
  have hroll := hf.roll.del id
  have hids : ∀ x ∈ delR r id, 1 ≤ x.1 ∧ x.1 ≤ 562949953421312 := fun x hx => by
    have h1 := isNode_lt (hn x (delR_sub hx))
    have := pow_48 hl
    omega
  obtain ⟨v, S0, b, hh, ho, hI, hq3, hq34, hfree, rfl⟩ := h
  have hid := isNode_lt hN
  have hkb : id ≤ 562949953421312 := by have := pow_48 hl; have h3 := hid.2; omega
  have hid1 := hid.1
  obtain ⟨sb, off, cap, rfl, hcap⟩ := own_at0 ho (by rw [hI.len]; exact Nat.two_pow_pos b)
  have hm : r.length < 2 ^ b := by have := Nat.two_pow_pos b; omega
  have hl2 := hI.len
  have hSl : S0.length ≤ 34359738368 := by rw [hl2]; have := Nat.pow_le_pow_right (n := 2) (by decide) (show b ≤ 35 by omega); simpa using this
  have hrl : 1 ≤ (r.length : Int) := by have : (0 : Int) ≤ ((delR r id).length : Int) := by omega
                                        omega
  have H := Lib.hid hh
  have HO := Lib.hid ho
  have HI := Lib.hid hI
  have HF := Lib.hid (And.intro hm (And.intro hfree hl2))
  have HL2 := Lib.hid hl2
  have HN := Lib.hid hN
  have HM := Lib.hid (And.intro hlen (And.intro hsum (And.intro hperm (And.intro hroll hids))))
  have HG := Lib.hid (fun i d (hL : LookAt S0 b id i d) => hL.hit hI h0)
  have hs0 : 0 ≤ sumR r - getR r id := by omega
  have hs1 : sumR r ≤ 72057594037927935 := hs
  generalize getR r id = n at HM HG hp hle h0 hpos hs0 ⊢
  clear hl2 hh ho hI hfree hm hN hn hid hlen hsum hperm hroll hids hf hs
  go_enter Tryz.func278, Tryz.ntmps278
  go_wp2_with fail
  refine (probe_right _ g l _ id H.out rfl).mono ?_
  rintro e w1 ⟨rfl, hb1⟩
  have B1 : Below w.heap.size w w1 := Below.then_ (by repeat (first | with_reducible exact Below.refl _ _ | with_reducible assumption | ((with_reducible refine Below.setCell ?_ ?_ _); rotate_left; · (first | omega | exact Nat.le_refl _ | (simp <;> omega))) | (with_reducible refine Below.allocW ?_ _) | (with_reducible refine Below.drew ?_) | (with_reducible refine Below.extW ?_ _))) hb1
  have s1 : w.heap.size ≤ w1.heap.size := B1.size
  rw [HN.out]
  have K1 := Lib.hid (blk_below H.out hb1)
  have O1 := Lib.hid (HO.out.below hb1)
  go_wp2_with fail
  refine (probe_look _ g b sb off _ cap _ _ _ S0 r id K1.out O1.out HI.out HF.out.1 hq3 (by omega) hid1 hkb).mono ?_
  rintro e w3 ⟨i, d, rfl, hL, hb3⟩
  have B3 : Below w.heap.size w w3 := Below.then_ (by repeat (first | with_reducible exact Below.refl _ _ | with_reducible assumption | ((with_reducible refine Below.setCell ?_ ?_ _); rotate_left; · (first | omega | exact Nat.le_refl _ | (simp <;> omega))) | (with_reducible refine Below.allocW ?_ _) | (with_reducible refine Below.drew ?_) | (with_reducible refine Below.extW ?_ _))) hb3
  have s3 : w.heap.size ≤ w3.heap.size := B3.size
  have k3 := blk_below K1.out hb3
  have o3 := O1.out.below hb3
  have cc3 := blk_cell k3
  have cf3 := blk_frozen k3
  have hil : i < S0.length := by rw [HF.out.2.2]; exact hL.i_lt
  have hx := HG.out _ _ hL
  have d1 := o3.slT.cell_at hil 1 (.int .i64 S0[i].2) rfl
  have d0 := o3.slT.cell_at hil 0 (.int .i64 S0[i].1) rfl
  have HX := Lib.hid hx
  rw [List.getElem?_eq_getElem hil] at hx
  injection hx with hx
  rw [hx] at d1 d0
  simp only [Nat.add_zero] at d0
  have fb := o3.frozen
  have zg3 := lt_of_block k3
  have zb3 := (o3.lt _ rfl).2
  have hnb : g ≠ sb := fun he => o3.ne_block k3 (by decide) (by rw [he]; rfl)
  have T3 : Turn (foot2 g (.slice (some ⟨sb, off, none⟩) S0.length cap)) w w3 := .of_below B3
  have HI2 := Lib.hid (show i < 2 ^ b from hL.i_lt)
  obtain ⟨E, hE⟩ := Del.start HI.out HX.out h0 HF.out.1 HM.out.2.2.1
  have HE := Lib.hid hE
  have K3 := Lib.hid k3
  have o4 := own_slot o3 i hil (0, 0)
  have O4 := Lib.hid o4
  have k4 : ((w3.setCell ⟨sb, off + i * 2, none⟩ (.int .i64 0)).setCell ⟨sb, off + i * 2 + 1, none⟩ (.int .i64 0)).heap[g]? = _ := (Below.heap_setCell _ _ _ _ hnb).trans ((Below.heap_setCell _ _ _ _ hnb).trans k3)
  have K4 := Lib.hid k4
  have T4 := Lib.hid ((T3.setCell (p := ⟨sb, off + i * 2, none⟩) (.inl (.inr rfl)) (.int .i64 0)).setCell (p := ⟨sb, off + i * 2 + 1, none⟩) (.inl (.inr rfl)) (.int .i64 0))
  clear hL hx k3 o3 hb3 K1 O1 T3 hE o4 k4
  have hil2 : (i : Int) < (S0.length : Int) := by omega
  go_upto_region 8 with fail
  generalize (w3.setCell ⟨sb, off + i * 2, none⟩ (.int .i64 0)).setCell ⟨sb, off + i * 2 + 1, none⟩ (.int .i64 0) = W4 at K4 O4 T4 ⊢
  clear cc3 cf3 d1 d0 fb zg3 zb3 K3
  go_wp2_with fail
  refine (probe_next _ g S0.length b i _ _ cap K4.out rfl HL2.out (by omega) hil).mono ?_
  rintro e w5 ⟨rfl, hb5⟩
  have K5 := Lib.hid (blk_below K4.out hb5)
  have O5 := Lib.hid (O4.out.below hb5)
  have T5 := Lib.hid (T4.out.more hb5)
  clear K4 O4 T4 hb5 B3 s3
  go_wp2_with fail
  go_loopw [5, 8] (fun hole at_ wr => ∃ (S : List Nd) (c t : Nat), hole = .int .i64 (step (2 ^ b) i c) ∧ at_ = .int .i64 (step (2 ^ b) i t) ∧ Del b (S0.set i (0, 0)) i E S (delR r id) c t ∧
    wr.heap[g]? = some (.cells #[.int .i64 l, .int .i64 b, .int .i64 r.length, .int .i64 (sumR r), .slice (some ⟨sb, off, none⟩) S0.length cap] 317 (0, 0)) ∧ Own wr 0 153 encN (.slice (some ⟨sb, off, none⟩) S0.length cap) S ∧
    Turn (foot2 g (.slice (some ⟨sb, off, none⟩) S0.length cap)) w wr) (fun _ at_ _ => E - wayOf (2 ^ b) i (intOf at_).toNat)
  case atStart => exact ⟨_, 0, 1, by rw [step_zero HI2.out], val_int (by rw [HL2.out]; unfold step; push_cast; rfl), HE.out, K5.out, O5.out, T5.out⟩
  case round =>
    obtain ⟨S, c, t, rfl, rfl, hD, hK, hO, hT⟩ := hrel
    have HD := Lib.hid hD
    have KW := Lib.hid hK
    have OW := Lib.hid hO
    have TW := Lib.hid hT
    have hSl2 : S.length = S0.length := by rw [hD.len, HL2.out]
    have HSL := Lib.hid hSl2
    have hpb := Nat.two_pow_pos b
    obtain ⟨p, hp_⟩ : ∃ p, p = step (2 ^ b) i t := ⟨_, rfl⟩
    obtain ⟨q, hq_⟩ : ∃ q, q = step (2 ^ b) i c := ⟨_, rfl⟩
    have HP := Lib.hid hp_
    have HQ := Lib.hid hq_
    have hpn : p < 2 ^ b := by rw [hp_]; exact step_lt hpb
    have hqn : q < 2 ^ b := by rw [hq_]; exact step_lt hpb
    have hpl : p < S.length := by rw [hD.len]; exact hpn
    have hql : q < S.length := by rw [hD.len]; exact hqn
    have hpl0 : p < S0.length := by rw [← hSl2]; exact hpl
    have hql0 : q < S0.length := by rw [← hSl2]; exact hql
    rw [← hp_, ← hq_]
    have cc := blk_cell hK
    have cf := blk_frozen hK
    have zg := lt_of_block hK
    have zb := (hO.lt _ rfl).2
    have fb := hO.frozen
    have d0 := hO.slT.cell_at hpl 0 (.int .i64 S[p].1) rfl
    have d1 := hO.slT.cell_at hpl 1 (.int .i64 S[p].2) rfl
    simp only [Nat.add_zero] at d0
    obtain ⟨x, hx⟩ : ∃ x, x = S[p] := ⟨_, rfl⟩
    rw [← hx] at d0 d1
    have HX := Lib.hid (show S[p]? = some x by rw [hx]; exact List.getElem?_eq_getElem hpl)
    have HX2 := Lib.hid (show S[step (2 ^ b) i t]? = some x by rw [← hp_]; exact HX.out)
    clear hD hK hO hT hp_ hq_ hx hpb hSl2
    by_cases hx0 : 0 < x.2
    · have hmem : Hid (1 ≤ x.1 ∧ x.1 ≤ 562949953421312) := Lib.hid (HM.out.2.2.2.2 x (HD.out.perm.subset (List.mem_filter.2 ⟨List.mem_of_getElem? HX.out, by simp [full]; omega⟩)))
      have HH := Lib.hid (fun W => probe_Home W b x.1 (by omega) (by omega) hmem.out.1 hmem.out.2)
      have hhn : homeOf b x.1 < 2 ^ b := homeOf_lt (by omega) x.1
      have HS1 := Lib.hid (fun hw => HD.out.stay (by omega) HX2.out (by omega) hw)
      have HS2 := Lib.hid (fun hw => HD.out.move (by omega) HX2.out (by omega) hw)
      have HE2 := Lib.hid (HD.out.ne HX2.out (by omega))
      rw [← HP.out, ← HQ.out] at HS1 HS2
      generalize homeOf b x.1 = ho at HH hhn HS1 HS2
      have hho0 : ho < S0.length := by rw [HL2.out]; exact hhn
      go_upto_region 11 with fail
      refine wp_region_ext (by kernel_rfl) (by kernel_rfl) ?_
      repeat (go_big_quiet_step ((go_at_call 336; exact quiet_ext (HH.out _))))
      refine wpQuiet_nil ?_
      intro w6 h6
      have hb6 := below_of_ext h6
      have K6 := Lib.hid (blk_below KW.out hb6)
      have O6 := Lib.hid (OW.out.below hb6)
      have T6 := Lib.hid (TW.out.more hb6)
      clear h6 hb6 cc cf zg zb fb d0 d1
      go_wp2_with fail
      refine (probe_way _ g S0.length b ho q _ _ cap K6.out rfl HL2.out (by omega) hho0 hql0).mono ?_
      rintro e w7 ⟨rfl, hb7⟩
      have K7 := Lib.hid (blk_below K6.out hb7)
      have O7 := Lib.hid (O6.out.below hb7)
      have T7 := Lib.hid (T6.out.more hb7)
      clear K6 O6 T6 hb7
      go_wp2_with fail
      refine (probe_way _ g S0.length b ho p _ _ cap K7.out rfl HL2.out (by omega) hho0 hpl0).mono ?_
      rintro e w8 ⟨rfl, hb8⟩
      have K8 := Lib.hid (blk_below K7.out hb8)
      have O8 := Lib.hid (O7.out.below hb8)
      have T8 := Lib.hid (T7.out.more hb8)
      clear K7 O7 T7 hb8
      rw [← HL2.out] at HS1 HS2
      generalize wayOf S0.length ho p = wp_ at HS1 HS2 ⊢
      generalize wayOf S0.length ho q = wq at HS1 HS2 ⊢
      by_cases hw : wq ≤ wp_
      · have hwi : (wq : Int) ≤ (wp_ : Int) := by omega
        have HS := Lib.hid (HS2.out hw)
        clear HS1 HS2
        have cc := blk_cell K8.out
        have cf := blk_frozen K8.out
        have zg := lt_of_block K8.out
        have zb := (O8.out.lt _ rfl).2
        have fb := O8.out.frozen
        have d0 := O8.out.slT.cell_at hpl 0 (.int .i64 S[p].1) rfl
        have d1 := O8.out.slT.cell_at hpl 1 (.int .i64 S[p].2) rfl
        have d2 := O8.out.slT.cell_at hql 0 (.int .i64 S[q].1) rfl
        have d3 := O8.out.slT.cell_at hql 1 (.int .i64 S[q].2) rfl
        have hxx : S[p] = x := by have := HX.out; rw [List.getElem?_eq_getElem hpl] at this; exact Option.some.inj this
        rw [hxx] at d0 d1
        simp only [Nat.add_zero] at d0 d2
        obtain ⟨y, hy⟩ : ∃ y, y = S[q] := ⟨_, rfl⟩
        rw [← hy] at d2 d3
        clear hy
        have hpq : ¬ p = q := fun he => by
          rw [HP.out, HQ.out] at he
          have h1 := HD.out.ct
          have h2 := HE2.out
          have h3 := HD.out.En
          have := step_inj (by omega) (by omega) he
          omega
        have hpq1 : ¬ q = p := fun he => hpq he.symm
        have hpq2 : ¬ p * 2 = q * 2 + 1 := by omega
        have hpq3 : ¬ q * 2 + 1 = p * 2 := by omega
        have hpq4 : ¬ p * 2 + 1 = q * 2 := by omega
        have hpq5 : ¬ q * 2 = p * 2 + 1 := by omega
        have hpi : (p : Int) < (S0.length : Int) := by omega
        have hqi : (q : Int) < (S0.length : Int) := by omega
        have o9 := own_slot (own_slot O8.out q hql x) p (by simpa using hpl) (0, 0)
        have O9 := Lib.hid o9
        have k9 := (Below.heap_setCell (((w8.setCell ⟨sb, off + q * 2, none⟩ (.int .i64 x.1)).setCell ⟨sb, off + q * 2 + 1, none⟩ (.int .i64 x.2)).setCell ⟨sb, off + p * 2, none⟩ (.int .i64 0)) ⟨sb, off + p * 2 + 1, none⟩ (.int .i64 0) g hnb).trans ((Below.heap_setCell ((w8.setCell ⟨sb, off + q * 2, none⟩ (.int .i64 x.1)).setCell ⟨sb, off + q * 2 + 1, none⟩ (.int .i64 x.2)) ⟨sb, off + p * 2, none⟩ (.int .i64 0) g hnb).trans ((Below.heap_setCell (w8.setCell ⟨sb, off + q * 2, none⟩ (.int .i64 x.1)) ⟨sb, off + q * 2 + 1, none⟩ (.int .i64 x.2) g hnb).trans ((Below.heap_setCell w8 ⟨sb, off + q * 2, none⟩ (.int .i64 x.1) g hnb).trans K8.out)))
        have K9 := Lib.hid k9
        have T9 := Lib.hid ((((T8.out.setCell (p := ⟨sb, off + q * 2, none⟩) (.inl (.inr rfl)) (.int .i64 x.1)).setCell (p := ⟨sb, off + q * 2 + 1, none⟩) (.inl (.inr rfl)) (.int .i64 x.2)).setCell (p := ⟨sb, off + p * 2, none⟩) (.inl (.inr rfl)) (.int .i64 0)).setCell (p := ⟨sb, off + p * 2 + 1, none⟩) (.inl (.inr rfl)) (.int .i64 0))
        clear o9 k9 hxx
        go_upto_region 13 with fail
        go_region
        generalize (((w8.setCell ⟨sb, off + q * 2, none⟩ (.int .i64 x.1)).setCell ⟨sb, off + q * 2 + 1, none⟩ (.int .i64 x.2)).setCell ⟨sb, off + p * 2, none⟩ (.int .i64 0)).setCell ⟨sb, off + p * 2 + 1, none⟩ (.int .i64 0) = w9 at K9 O9 T9 ⊢
        have K9 : Hid (w9.drew.heap[g]? = _) := Lib.hid K9.out
        have O9 := Lib.hid O9.out.drew
        have T9 := Lib.hid T9.out.drew
        generalize w9.drew = w9d at K9 O9 T9 ⊢
        clear cc cf zg zb fb d0 d1 d2 d3 hpq hpq1 hpq2 hpq3 hpq4 hpq5 K8 O8 T8
        go_wp2_with fail
        refine (probe_next _ g S0.length b p _ _ cap K9.out rfl HL2.out (by omega) hpl0).mono ?_
        rintro e wA ⟨rfl, hbA⟩
        have KA := Lib.hid (blk_below K9.out hbA)
        have OA := Lib.hid (O9.out.below hbA)
        have TA := Lib.hid (T9.out.more hbA)
        go_wp2_with fail
        go_roundw
        case rel => exact ⟨_, t, t + 1, by rw [HP.out], by rw [HP.out, HL2.out]; exact val_int (by push_cast; exact_mod_cast step_next (Nat.two_pow_pos b)), HS.out, KA.out, OA.out, TA.out⟩
        case measure => exact del_less HI2.out HE2.out HD.out.En HP.out HL2.out
      · have hwi : decide ((wq : Int) ≤ (wp_ : Int)) = false := by simp; omega
        have HS := Lib.hid (HS1.out (by omega))
        clear HS1 HS2
        go_wp2_with fail
        refine (probe_next _ g S0.length b p _ _ cap K8.out rfl HL2.out (by omega) hpl0).mono ?_
        rintro e w9 ⟨rfl, hb9⟩
        have K9 := Lib.hid (blk_below K8.out hb9)
        have O9 := Lib.hid (O8.out.below hb9)
        have T9 := Lib.hid (T8.out.more hb9)
        go_wp2_with fail
        go_roundw
        case rel => exact ⟨S, c, t + 1, by rw [HQ.out], by rw [HP.out, HL2.out]; exact val_int (by push_cast; exact_mod_cast step_next (Nat.two_pow_pos b)), HS.out, K9.out, O9.out, T9.out⟩
        case measure => exact del_less HI2.out HE2.out HD.out.En HP.out HL2.out
    · have hx0' : decide (0 < x.2) = false := by simpa using hx0
      have hz : x.2 = 0 := by
        by_cases hz : x.2 = 0
        · exact hz
        · have := (HM.out.2.2.2.1.2 x (HD.out.perm.subset (List.mem_filter.2 ⟨List.mem_of_getElem? HX.out, by simp [full]; omega⟩))).2
          omega
      have HPI := Lib.hid (HD.out.done HX2.out hz HM.out.2.2.2.1.ids fun y hy => (HM.out.2.2.2.1.2 y hy).2)
      have hpi : (p : Int) < (S0.length : Int) := by omega
      have hrl2 : (r.length : Int) ≤ 72057594037927935 := by omega
      clear hz HD HX HX2
      go_wp2_with fail
      go_ret
      refine ⟨rfl, ?_, ?_⟩
      · exact probe_taken (r' := delR r id) KW.out OW.out HPI.out hq3 hq34 (by have := HM.out.1; have := HF.out.2.1; omega) HM.out.1 HM.out.2.1
      · refine Turn.setCell (Turn.setCell TW.out ?_ _) ?_ _
        · exact .inl (.inl rfl)
        · exact .inl (.inl rfl)
theorem probe_Take (w : World) (g l : Nat) (r : List Nd) (F : Nat → Prop) (h : ProbeAt w g l r F) (hf : Fits l r) (hl : l ≤ 48) (id : Int) (hn : ∀ x ∈ r, isNode l x.1 = true) :
    Calls Tryz.prog 278 #[.pointer (some ⟨g, 0, none⟩), .int .i64 id] w fun e w' => e = .returned (.int .i64 (getR r id)) ∧ ProbeAt w' g l (delR r id) F ∧ Turn F w w' := by
  by_cases h0 : getR r id = 0
  · refine (probe_Take_none w g l r F h hl id hn h0).mono ?_
    rintro e w' ⟨rfl, hb⟩
    rw [h0, del_zero hf.roll h0]
    exact ⟨rfl, h.below hb, .of_below hb⟩
  · exact probe_Take_some w g l r F h hf hl id hn h0
end Go.Proofs.YtcjnchjmpkapmaaGreat
/- Package pool: Take. -/
namespace Go.Proofs.YtcjnchjmpkapmaaGreat
open Go.ChangeShapes Go.WideShapes Go.ChangeAt Go.RowKit
set_option linter.unusedVariables false
set_option linter.unusedSimpArgs false
set_option maxRecDepth 100000

theorem Fits.del {l : Nat} {r : List Nd} (hf : Fits l r) (id : Int) : Fits l (delR r id) :=
  ⟨hf.roll.del id, fun x hx => hf.lt x (delR_sub hx), by rw [sumR_del hf.roll]; have := getR_nonneg hf.roll id; have := hf.sum; omega⟩
theorem pool_Take (w : World) (g K l : Nat) (r : List Nd) (F : Nat → Prop) (h : PoolAt w g K l r F) (id : Int) :
    Calls Tryz.prog 200 #[.pointer (some ⟨g, 0, none⟩), .int .i64 id] w fun e w' => e = .returned (.int .i64 (getR r id)) ∧ PoolAt w' g K l (delR r id) F ∧ Turn F w w' := by
  have hn := h.fits.nodes h.l_le
  obtain ⟨h1, h2, h3, p, F0, rfl, h4⟩ := h
  have hF := h3.del id
  rcases h4 with ⟨rfl, h16, hh, hd⟩ | ⟨rfl, hh, hd⟩
  · have hgF : ¬ F0 g := fun hg => by
      rcases hd.typed g hg with h | h
      · exact absurd (typeAt_eq h (.of hh)) (by decide)
      · exact absurd (typeAt_eq h (.of hh)) (by decide)
    have HC := Lib.hid (fun W (h : DenseAt W p l r F0) => dense_Take W p l r F0 h h3 id hn)
    have H := Lib.hid hh
    have HD := Lib.hid hd
    generalize getR r id = n at HC ⊢
    clear hh hd hn
    go_enter Tryz.func200, Tryz.ntmps200
    go_wp2_with fail
    refine (pool_isArray _ g p _ H.out).mono ?_
    rintro e w1 ⟨rfl, hb1⟩
    have k1 := blk_below H.out hb1
    have c1 := blk_cell k1
    have z1 := lt_of_block k1
    have D1 := Lib.hid (HD.out.below hb1)
    have K1 := Lib.hid k1
    clear k1
    go_wp2_with fail
    refine (HC.out _ D1.out).mono ?_
    rintro e w2 ⟨rfl, hd2, hT2⟩
    have HP : Hid (PoolAt w2 g 1 l (delR r id) (footP g F0) ∧ Turn (footP g F0) w w2) :=
      ⟨⟨h1, h2, hF, p, F0, rfl, .inl ⟨rfl, h16, hT2.keep K1.out hgF, hd2⟩⟩, (Turn.of_below hb1).trans hT2 (fun b hb => .inl (.inr hb))⟩
    clear hd2 hT2
    go_wp2_with fail
    go_ret
    exact ⟨rfl, HP.out⟩
  · have hgF : ¬ F0 g := fun hg => by
      rcases hd.typed g hg with h | h
      · exact absurd (typeAt_eq h (.of hh)) (by decide)
      · exact absurd (typeAt_eq h (.of hh)) (by decide)
    have HC := Lib.hid (fun W (h : ProbeAt W p l r F0) => probe_Take W p l r F0 h h3 h2 id hn)
    have H := Lib.hid hh
    have HD := Lib.hid hd
    generalize getR r id = n at HC ⊢
    clear hh hd hn
    go_enter Tryz.func200, Tryz.ntmps200
    go_wp2_with fail
    refine (pool_isArray_no _ g _ H.out).mono ?_
    rintro e w0 ⟨rfl, hb0⟩
    have K0 := Lib.hid (blk_below H.out hb0)
    go_wp2_with fail
    refine (pool_inner _ g _ _ K0.out).mono ?_
    rintro e w1 ⟨rfl, hb1'⟩
    have hb1 := hb0.trans (hb1'.mono hb0.size)
    have D1 := Lib.hid (HD.out.below hb1)
    have K1 := Lib.hid (blk_below H.out hb1)
    clear hb0 hb1' K0
    go_wp2_with fail
    refine (HC.out _ D1.out).mono ?_
    rintro e w2 ⟨rfl, hd2, hT2⟩
    have HP : Hid (PoolAt w2 g 2 l (delR r id) (footP g F0) ∧ Turn (footP g F0) w w2) :=
      ⟨⟨h1, h2, hF, p, F0, rfl, .inr ⟨rfl, hT2.keep K1.out hgF, hd2⟩⟩, (Turn.of_below hb1).trans hT2 (fun b hb => .inl (.inr hb))⟩
    clear hd2 hT2
    go_wp2_with fail
    go_ret
    exact ⟨rfl, HP.out⟩
end Go.Proofs.YtcjnchjmpkapmaaGreat
/- Package fold: Mass, Ready, Do. -/
namespace Go.Proofs.YtcjnchjmpkapmaaGreat
open Go.ChangeShapes Go.WideShapes Go.ChangeAt Go.RowKit
set_option linter.unusedVariables false
set_option linter.unusedSimpArgs false
set_option maxRecDepth 100000

theorem kids_yes {l : Nat} {p : Int} (h : (kidsOf l p).2.2 = true) : kidsOf l p = (2 * p, 2 * p + 1, true) := by
  unfold kidsOf at h ⊢
  split
  · rfl
  · rename_i hn; rw [if_neg hn] at h; cases h
theorem kids_no {l : Nat} {p : Int} (h : (kidsOf l p).2.2 = false) : kidsOf l p = (0, 0, false) := by
  unfold kidsOf at h ⊢
  split
  · rename_i hn; rw [if_pos hn] at h; cases h
  · rfl
theorem fold_Mass (w : World) (g K l : Nat) (r : List Nd) (F : Nat → Prop) (h : PoolAt w g K l r F) (p : Int) :
    Calls Tryz.prog 358 #[.pointer (some ⟨g, 0, none⟩), .int .i64 p] w fun e w' => e = .returned (.tuple #[.int .i64 (if (kidsOf l p).2.2 = true then pairR r p else 0), .int .i64 (if (kidsOf l p).2.2 = true then pairR r p + getR r p else 0)]) ∧ Below w.heap.size w w' := by
  have HL := Lib.hid (fun W h => pool_L W g K l r F h)
  have HP := Lib.hid h
  cases hk : (kidsOf l p).2.2
  · have HK := Lib.hid (kids_no hk)
    rw [if_neg (by simp), if_neg (by simp)]
    clear h hk
    go_enter Tryz.func358, Tryz.ntmps358
    go_wp2_with fail
    refine (HL.out _ HP.out).mono ?_
    rintro e w1 ⟨rfl, hb1⟩
    have B1 := Lib.hid hb1
    go_wp2_with fail
    refine (twig_Kids _ l p).mono ?_
    rintro e w2 ⟨rfl, hb2⟩
    rw [HK.out]
    unfold endsV
    have B2 := Lib.hid (Below.then_ B1.out hb2)
    clear hb1 hb2
    go_wp2_with fail
    go_ret2
    exact ⟨rfl, B2.out⟩
  · have HK := Lib.hid (kids_yes hk)
    rw [if_pos rfl, if_pos rfl]
    have HG := Lib.hid (fun W id h => pool_Get W g K l r F h id)
    have hs := h.fits.sum
    have a0 := getR_nonneg h.fits.roll (2 * p)
    have a1 := getR_le_sum h.fits.roll (2 * p)
    have b0 := getR_nonneg h.fits.roll (2 * p + 1)
    have b1 := getR_le_sum h.fits.roll (2 * p + 1)
    have c0 := getR_nonneg h.fits.roll p
    have c1 := getR_le_sum h.fits.roll p
    have HG1 := Lib.hid (fun W h => HG.out W (2 * p) h)
    have HG2 := Lib.hid (fun W h => HG.out W (2 * p + 1) h)
    have HG3 := Lib.hid (fun W h => HG.out W p h)
    unfold pairR
    generalize getR r (2 * p) = n1 at HG1 a0 a1 ⊢
    generalize getR r (2 * p + 1) = n2 at HG2 b0 b1 ⊢
    generalize getR r p = n3 at HG3 c0 c1 ⊢
    generalize sumR r = n4 at hs a1 b1 c1
    clear h hk HG
    go_enter Tryz.func358, Tryz.ntmps358
    go_wp2_with fail
    refine (HL.out _ HP.out).mono ?_
    rintro e w1 ⟨rfl, hb1⟩
    have B1 := Lib.hid hb1
    go_wp2_with fail
    refine (twig_Kids _ l p).mono ?_
    rintro e w2 ⟨rfl, hb2⟩
    rw [HK.out]
    unfold endsV
    have B2 := Lib.hid (Below.then_ B1.out hb2)
    clear hb1 hb2
    go_wp2_with fail
    refine (HG1.out _ (HP.out.below B2.out)).mono ?_
    rintro e w3 ⟨rfl, hb3⟩
    have B3 := Lib.hid (Below.then_ B2.out hb3)
    clear hb3
    go_wp2_with fail
    refine (HG2.out _ (HP.out.below B3.out)).mono ?_
    rintro e w4 ⟨rfl, hb4⟩
    have B4 := Lib.hid (Below.then_ B3.out hb4)
    clear hb4
    go_wp2_with fail
    refine (HG3.out _ (HP.out.below B4.out)).mono ?_
    rintro e w5 ⟨rfl, hb5⟩
    have B5 := Lib.hid (Below.then_ B4.out hb5)
    clear hb5
    go_wp2_with fail
    go_ret2
    exact ⟨rfl, B5.out⟩
theorem fold_Ready (w : World) (g K l : Nat) (r : List Nd) (F : Nat → Prop) (h : PoolAt w g K l r F) (p most : Int) :
    Calls Tryz.prog 300 #[.pointer (some ⟨g, 0, none⟩), .int .i64 p, .int .i64 most] w fun e w' => e = .returned (.bool (readyR l r p most)) ∧ Below w.heap.size w w' := by
  have HM := Lib.hid (fold_Mass w g K l r F h p)
  cases hk : (kidsOf l p).2.2
  · have e1 : readyR l r p most = false := by simp [readyR, hk]
    rw [e1]
    rw [if_neg (by simp [hk]), if_neg (by simp [hk])] at HM
    clear h hk e1
    go_enter Tryz.func300, Tryz.ntmps300
    go_wp2_with fail
    refine HM.out.mono ?_
    rintro e w1 ⟨rfl, hb1⟩
    go_wp2_with fail
    go_ret
    exact ⟨rfl, hb1⟩
  · have e1 : readyR l r p most = decide (0 < pairR r p ∧ pairR r p + getR r p ≤ most) := by simp [readyR, hk]
    rw [e1]
    rw [if_pos hk, if_pos hk] at HM
    generalize pairR r p + getR r p = m at HM ⊢
    generalize pairR r p = n at HM ⊢
    clear h hk e1
    by_cases h1 : 0 < n
    · by_cases h2 : m ≤ most
      · rw [decide_eq_true ⟨h1, h2⟩]
        go_enter Tryz.func300, Tryz.ntmps300
        go_wp2_with fail
        refine HM.out.mono ?_
        rintro e w1 ⟨rfl, hb1⟩
        go_wp2_with fail
        go_ret
        exact ⟨rfl, hb1⟩
      · rw [decide_eq_false (fun h => h2 h.2)]
        have h3 : decide (m ≤ most) = false := by simpa using h2
        clear h2
        go_enter Tryz.func300, Tryz.ntmps300
        go_wp2_with fail
        refine HM.out.mono ?_
        rintro e w1 ⟨rfl, hb1⟩
        go_wp2_with fail
        go_ret
        exact ⟨rfl, hb1⟩
    · rw [decide_eq_false (fun h => h1 h.1)]
      have h3 : decide (0 < n) = false := by simpa using h1
      clear h1
      go_enter Tryz.func300, Tryz.ntmps300
      go_wp2_with fail
      refine HM.out.mono ?_
      rintro e w1 ⟨rfl, hb1⟩
      go_wp2_with fail
      go_ret
      exact ⟨rfl, hb1⟩
def PoolTo (w : World) (g K l : Nat) (s : List Nd) (F : Nat → Prop) (w' : World) : Prop := ∃ F', PoolAt w' g K l s F' ∧ Turn F w w' ∧ Grow w F F'
theorem fold_Do (w : World) (g K l : Nat) (r : List Nd) (F : Nat → Prop) (h : PoolAt w g K l r F) (p most : Int) (hy : readyR l r p most = true) (hr30 : r.length < 1073741824) :
    Calls Tryz.prog 321 #[.pointer (some ⟨g, 0, none⟩), .int .i64 p] w fun e w' => (∃ n, e = .returned (.int .i64 n)) ∧ PoolTo w g K l (foldR r p) F w' := by
  obtain ⟨hk, hpos, hmost⟩ := ready_iff.1 hy
  have hl := h.l_le
  have hid := isNode_lt (kids_iff.1 hk).1
  obtain ⟨k, rfl⟩ : ∃ k : Nat, p = k := ⟨p.toNat, by omega⟩
  have HK := Lib.hid (kids_yes hk)
  have HL := Lib.hid (fun W h => pool_L W g K l r F h)
  have HP := Lib.hid h
  have hs := h.fits.sum
  have hroll := h.fits.roll
  have a0 := getR_nonneg hroll (2 * (k : Int))
  have a1 := getR_le_sum hroll (2 * (k : Int))
  have b0 := getR_nonneg hroll (2 * (k : Int) + 1)
  have b1 := getR_le_sum hroll (2 * (k : Int) + 1)
  have hk1 : 1 ≤ k := by omega
  have hk2 : k < 2 * 2 ^ l := by have := hid.2; exact_mod_cast this
  have e2 : getR (delR r (2 * (k : Int))) (2 * (k : Int) + 1) = getR r (2 * (k : Int) + 1) := by rw [getR_del hroll, if_neg (by omega)]
  have sm : sumR (delR (delR r (2 * (k : Int))) (2 * (k : Int) + 1)) + pairR r k ≤ 72057594037927935 := by
    rw [sumR_del (hroll.del _), e2, sumR_del hroll]
    unfold pairR
    omega
  have ln : (delR (delR r (2 * (k : Int))) (2 * (k : Int) + 1)).length < 1073741824 := by
    have l1 := (delR_len (r := r) (2 * (k : Int))).1
    have l2 := (delR_len (r := delR r (2 * (k : Int))) (2 * (k : Int) + 1)).1
    omega
  have HT1 := Lib.hid (fun W h => pool_Take W g K l r F h (2 * (k : Int)))
  have HT2 := Lib.hid (fun W h => pool_Take W g K l (delR r (2 * (k : Int))) F h (2 * (k : Int) + 1))
  rw [e2] at HT2
  have HA := Lib.hid (fun W h => pool_Add W g K l (delR (delR r (2 * (k : Int))) (2 * (k : Int) + 1)) F h k hk1 hk2 (pairR r k) hpos sm ln)
  unfold foldR
  generalize addR (delR (delR r (2 * (k : Int))) (2 * (k : Int) + 1)) k (pairR r k) = s at HA ⊢
  unfold pairR at HA hpos
  generalize delR (delR r (2 * (k : Int))) (2 * (k : Int) + 1) = r2 at HT2 HA sm ln
  generalize delR r (2 * (k : Int)) = r1 at HT1 HT2 e2
  generalize getR r (2 * (k : Int)) = n1 at HT1 HA a0 a1 hpos
  generalize getR r (2 * (k : Int) + 1) = n2 at HT2 HA b0 b1 hpos
  generalize sumR r = n4 at hs a1 b1
  clear h hk hy hmost hroll e2 sm ln hid
  go_enter Tryz.func321, Tryz.ntmps321
  go_wp2_with fail
  refine (HL.out _ HP.out).mono ?_
  rintro e w1 ⟨rfl, hb1⟩
  have B1 := Lib.hid hb1
  go_wp2_with fail
  refine (twig_Kids _ l k).mono ?_
  rintro e w2 ⟨rfl, hb2⟩
  rw [HK.out]
  unfold endsV
  have B2 := Lib.hid (Below.then_ B1.out hb2)
  clear hb1 hb2
  go_wp2_with fail
  refine (HT1.out _ (HP.out.below B2.out)).mono ?_
  rintro e w3 ⟨rfl, hp3, ht3⟩
  have P3 := Lib.hid hp3
  have T3 := Lib.hid ((Turn.of_below B2.out).trans ht3 Grow.refl)
  clear hp3 ht3
  go_wp2_with fail
  refine (HT2.out _ P3.out).mono ?_
  rintro e w4 ⟨rfl, hp4, ht4⟩
  have P4 := Lib.hid hp4
  have T4 := Lib.hid (T3.out.trans ht4 Grow.refl)
  clear hp4 ht4
  go_wp2_with fail
  refine (HA.out _ P4.out).mono ?_
  rintro e w5 ⟨F5, rfl, hp5, ht5, hg5⟩
  have HE : Hid (PoolTo w g K l s F w5) := Lib.hid ⟨F5, hp5, T4.out.trans ht5 Grow.refl, fun b hb => by
    rcases hg5 b hb with h | h
    · exact .inl h
    · exact .inr (Nat.le_trans T4.out.size h)⟩
  clear hp5 ht5 hg5
  go_wp2_with fail
  go_ret
  exact ⟨⟨_, rfl⟩, HE.out⟩
end Go.Proofs.YtcjnchjmpkapmaaGreat
/- Package fold: the agenda: what it is, Len, swap, ahead. -/
namespace Go.Proofs.YtcjnchjmpkapmaaGreat
open Go.ChangeShapes Go.WideShapes Go.ChangeAt Go.RowKit Go.Maps
set_option linter.unusedVariables false
set_option linter.unusedSimpArgs false
set_option maxRecDepth 100000

theorem keyI' : Keyed Tryz.prog 3 := int_keyed Tryz.underlying3
theorem zeroU (w : World) : (zeroValue 374).run Tryz.prog w = .ok (.agg #[]) w := by kernel_rfl
def footA (a : Nat) (v : Value) (b : Nat) : Nat → Prop := fun x => x = a ∨ v.ownBlock = some x ∨ x = b
def AgS (w : World) (a b : Nat) (M : List Int) (n : Nat) (D : DataW Unit) (F : Nat → Prop) : Prop :=
  ∃ v : Value, w.heap[a]? = some (.cells #[v, .map (some b)] 373 (0, 0)) ∧ Own w 0 3 encZ v M ∧ w.ownsMap Tryz.prog 3 (unitElem (H := Unit)) b n D ∧ F = footA a v b
structure SetIs (D : DataW Unit) (L : List Int) : Prop where
  has : ∀ z, Go.Maps.has D (.int .i64 z) = true ↔ z ∈ L
  size : Go.Maps.size D = L.length
def AgAt (w : World) (a b : Nat) (L : List Int) (F : Nat → Prop) : Prop := ∃ D, AgS w a b L L.length D F ∧ SetIs D L
theorem ownsMap_keep {w w' : World} {b n : Nat} {D : DataW Unit} {R : Value → Option (DataW Unit × List MemPlace)} (h : w.ownsMap Tryz.prog 3 R b n D) (hb : w'.heap[b]? = w.heap[b]?) : w'.ownsMap Tryz.prog 3 R b n D := by
  obtain ⟨es, clock, h1, h2⟩ := h
  exact ⟨es, clock, hb.trans h1, h2⟩
theorem AgS.keep {w w' : World} {a b n : Nat} {M : List Int} {D : DataW Unit} {F : Nat → Prop} (h : AgS w a b M n D F) (hk : ∀ b, F b → w'.heap[b]? = w.heap[b]?) : AgS w' a b M n D F := by
  obtain ⟨v, h1, h2, h3, rfl⟩ := h
  exact ⟨v, (hk a (.inl rfl)).trans h1, h2.of_block fun x hx => hk x (.inr (.inl hx)), ownsMap_keep h3 (hk b (.inr (.inr rfl))), rfl⟩
theorem AgS.lt {w : World} {a b n : Nat} {M : List Int} {D : DataW Unit} {F : Nat → Prop} (h : AgS w a b M n D F) : ∀ b, F b → b < w.heap.size := by
  obtain ⟨v, h1, h2, h3, rfl⟩ := h
  rintro x (rfl | hx | rfl)
  · exact lt_of_block h1
  · exact (h2.lt x hx).2
  · exact h3.lt
theorem AgS.below {w w' : World} {a b n : Nat} {M : List Int} {D : DataW Unit} {F : Nat → Prop} (h : AgS w a b M n D F) (hb : Below w.heap.size w w') : AgS w' a b M n D F := h.keep fun b hf => hb.block b (h.lt b hf)
theorem AgAt.keep {w w' : World} {a b : Nat} {L : List Int} {F : Nat → Prop} (h : AgAt w a b L F) (hk : ∀ b, F b → w'.heap[b]? = w.heap[b]?) : AgAt w' a b L F := by
  obtain ⟨D, h1, h2⟩ := h
  exact ⟨D, h1.keep hk, h2⟩
theorem AgAt.lt {w : World} {a b : Nat} {L : List Int} {F : Nat → Prop} (h : AgAt w a b L F) : ∀ b, F b → b < w.heap.size := by
  obtain ⟨D, h1, h2⟩ := h
  exact h1.lt
theorem AgAt.below {w w' : World} {a b : Nat} {L : List Int} {F : Nat → Prop} (h : AgAt w a b L F) (hb : Below w.heap.size w w') : AgAt w' a b L F := h.keep fun b hf => hb.block b (h.lt b hf)
theorem AgS.apart {w : World} {a b n : Nat} {M : List Int} {D : DataW Unit} {v : Value} (h1 : w.heap[a]? = some (.cells #[v, .map (some b)] 373 (0, 0))) (h2 : Own w 0 3 encZ v M) (h3 : w.ownsMap Tryz.prog 3 (unitElem (H := Unit)) b n D) :
    v.ownBlock ≠ some a ∧ v.ownBlock ≠ some b ∧ a ≠ b := by
  obtain ⟨es, clock, hb, _⟩ := h3
  refine ⟨h2.ne_block h1 (by decide), fun he => ?_, fun he => ?_⟩
  · rcases h2 with ⟨rfl, _⟩ | ⟨g, off, cap, cur, rfl, _, hg, _⟩
    · cases he
    · cases he
      rw [hg] at hb
      cases hb
  · subst he
    rw [h1] at hb
    cases hb
theorem ag_Len (w : World) (a b n : Nat) (M : List Int) (D : DataW Unit) (F : Nat → Prop) (h : AgS w a b M n D F) : Calls Tryz.prog 319 #[.pointer (some ⟨a, 0, none⟩)] w fun e w' => e = .returned (.int .i64 M.length) ∧ Below w.heap.size w w' := by
  obtain ⟨v, h1, h2, _, rfl⟩ := h
  obtain ⟨A, cap, rfl, _⟩ := h2.form
  have c := blk_cell h1
  have z := lt_of_block h1
  clear h1 h2
  go_enter Tryz.func319, Tryz.ntmps319
  go_wp2_with fail
  go_ret
  exact ⟨rfl, (by repeat (first | with_reducible exact Below.refl _ _ | with_reducible assumption | ((with_reducible refine Below.setCell ?_ ?_ _); rotate_left; · (first | omega | exact Nat.le_refl _ | (simp <;> omega))) | (with_reducible refine Below.allocW ?_ _) | (with_reducible refine Below.drew ?_) | (with_reducible refine Below.extW ?_ _)))⟩
theorem fold_ahead (w : World) (x y : Int) (hx : x ≤ 9223372036854775807) (hy : y ≤ 9223372036854775807) (hx1 : 1 ≤ x) (hy1 : 1 ≤ y) : Calls Tryz.prog 367 #[.int .i64 x, .int .i64 y] w fun e w' => e = .returned (.bool (aheadI x y)) ∧ Below w.heap.size w w' := by
  have HX := Lib.hid (fun W => twig_Depth W x hx)
  have HY := Lib.hid (fun W => twig_Depth W y hy)
  rw [if_pos hx1] at HX
  rw [if_pos hy1] at HY
  unfold aheadI
  generalize x.toNat.log2 = n at HX ⊢
  generalize y.toNat.log2 = m at HY ⊢
  clear hx hy hx1 hy1
  by_cases he : n = m
  · subst he
    rw [if_neg (by simp)]
    by_cases hlt : x < y
    · rw [decide_eq_true hlt]
      go_enter Tryz.func367, Tryz.ntmps367
      go_wp2_with fail
      refine (HX.out _).mono ?_
      rintro e w1 ⟨rfl, hb1⟩
      have B1 : Below w.heap.size w w1 := Below.then_ (by repeat (first | with_reducible exact Below.refl _ _ | with_reducible assumption | ((with_reducible refine Below.setCell ?_ ?_ _); rotate_left; · (first | omega | exact Nat.le_refl _ | (simp <;> omega))) | (with_reducible refine Below.allocW ?_ _) | (with_reducible refine Below.drew ?_) | (with_reducible refine Below.extW ?_ _))) hb1
      have s1 : w.heap.size ≤ w1.heap.size := B1.size
      go_wp2_with fail
      refine (HY.out _).mono ?_
      rintro e w2 ⟨rfl, hb2⟩
      have B2 : Below w.heap.size w w2 := Below.then_ (by repeat (first | with_reducible exact Below.refl _ _ | with_reducible assumption | ((with_reducible refine Below.setCell ?_ ?_ _); rotate_left; · (first | omega | exact Nat.le_refl _ | (simp <;> omega))) | (with_reducible refine Below.allocW ?_ _) | (with_reducible refine Below.drew ?_) | (with_reducible refine Below.extW ?_ _))) hb2
      have s2 : w.heap.size ≤ w2.heap.size := B2.size
      go_wp2_with fail
      go_ret
      exact ⟨rfl, (by repeat (first | with_reducible exact Below.refl _ _ | with_reducible assumption | ((with_reducible refine Below.setCell ?_ ?_ _); rotate_left; · (first | omega | exact Nat.le_refl _ | (simp <;> omega))) | (with_reducible refine Below.allocW ?_ _) | (with_reducible refine Below.drew ?_) | (with_reducible refine Below.extW ?_ _)))⟩
    · have hlt' : decide (x < y) = false := by simpa using hlt
      rw [hlt']
      clear hlt
      go_enter Tryz.func367, Tryz.ntmps367
      go_wp2_with fail
      refine (HX.out _).mono ?_
      rintro e w1 ⟨rfl, hb1⟩
      have B1 : Below w.heap.size w w1 := Below.then_ (by repeat (first | with_reducible exact Below.refl _ _ | with_reducible assumption | ((with_reducible refine Below.setCell ?_ ?_ _); rotate_left; · (first | omega | exact Nat.le_refl _ | (simp <;> omega))) | (with_reducible refine Below.allocW ?_ _) | (with_reducible refine Below.drew ?_) | (with_reducible refine Below.extW ?_ _))) hb1
      have s1 : w.heap.size ≤ w1.heap.size := B1.size
      go_wp2_with fail
      refine (HY.out _).mono ?_
      rintro e w2 ⟨rfl, hb2⟩
      have B2 : Below w.heap.size w w2 := Below.then_ (by repeat (first | with_reducible exact Below.refl _ _ | with_reducible assumption | ((with_reducible refine Below.setCell ?_ ?_ _); rotate_left; · (first | omega | exact Nat.le_refl _ | (simp <;> omega))) | (with_reducible refine Below.allocW ?_ _) | (with_reducible refine Below.drew ?_) | (with_reducible refine Below.extW ?_ _))) hb2
      have s2 : w.heap.size ≤ w2.heap.size := B2.size
      go_wp2_with fail
      go_ret
      exact ⟨rfl, (by repeat (first | with_reducible exact Below.refl _ _ | with_reducible assumption | ((with_reducible refine Below.setCell ?_ ?_ _); rotate_left; · (first | omega | exact Nat.le_refl _ | (simp <;> omega))) | (with_reducible refine Below.allocW ?_ _) | (with_reducible refine Below.drew ?_) | (with_reducible refine Below.extW ?_ _)))⟩
  · rw [if_pos he]
    have he' : ((n : Int) == (m : Int)) = false := by simp; omega
    have he2 : (n == m) = false := by simpa using he
    by_cases hlt : m < n
    · rw [decide_eq_true hlt]
      have hlt2 : (m : Int) < (n : Int) := by omega
      clear he
      go_enter Tryz.func367, Tryz.ntmps367
      go_wp2_with fail
      refine (HX.out _).mono ?_
      rintro e w1 ⟨rfl, hb1⟩
      have B1 : Below w.heap.size w w1 := Below.then_ (by repeat (first | with_reducible exact Below.refl _ _ | with_reducible assumption | ((with_reducible refine Below.setCell ?_ ?_ _); rotate_left; · (first | omega | exact Nat.le_refl _ | (simp <;> omega))) | (with_reducible refine Below.allocW ?_ _) | (with_reducible refine Below.drew ?_) | (with_reducible refine Below.extW ?_ _))) hb1
      have s1 : w.heap.size ≤ w1.heap.size := B1.size
      go_wp2_with fail
      refine (HY.out _).mono ?_
      rintro e w2 ⟨rfl, hb2⟩
      have B2 : Below w.heap.size w w2 := Below.then_ (by repeat (first | with_reducible exact Below.refl _ _ | with_reducible assumption | ((with_reducible refine Below.setCell ?_ ?_ _); rotate_left; · (first | omega | exact Nat.le_refl _ | (simp <;> omega))) | (with_reducible refine Below.allocW ?_ _) | (with_reducible refine Below.drew ?_) | (with_reducible refine Below.extW ?_ _))) hb2
      have s2 : w.heap.size ≤ w2.heap.size := B2.size
      go_wp2_with fail
      go_ret
      exact ⟨rfl, (by repeat (first | with_reducible exact Below.refl _ _ | with_reducible assumption | ((with_reducible refine Below.setCell ?_ ?_ _); rotate_left; · (first | omega | exact Nat.le_refl _ | (simp <;> omega))) | (with_reducible refine Below.allocW ?_ _) | (with_reducible refine Below.drew ?_) | (with_reducible refine Below.extW ?_ _)))⟩
    · have hlt' : decide (m < n) = false := by simpa using hlt
      have hlt2 : decide ((m : Int) < (n : Int)) = false := by simp; omega
      rw [hlt']
      clear hlt he
      go_enter Tryz.func367, Tryz.ntmps367
      go_wp2_with fail
      refine (HX.out _).mono ?_
      rintro e w1 ⟨rfl, hb1⟩
      have B1 : Below w.heap.size w w1 := Below.then_ (by repeat (first | with_reducible exact Below.refl _ _ | with_reducible assumption | ((with_reducible refine Below.setCell ?_ ?_ _); rotate_left; · (first | omega | exact Nat.le_refl _ | (simp <;> omega))) | (with_reducible refine Below.allocW ?_ _) | (with_reducible refine Below.drew ?_) | (with_reducible refine Below.extW ?_ _))) hb1
      have s1 : w.heap.size ≤ w1.heap.size := B1.size
      go_wp2_with fail
      refine (HY.out _).mono ?_
      rintro e w2 ⟨rfl, hb2⟩
      have B2 : Below w.heap.size w w2 := Below.then_ (by repeat (first | with_reducible exact Below.refl _ _ | with_reducible assumption | ((with_reducible refine Below.setCell ?_ ?_ _); rotate_left; · (first | omega | exact Nat.le_refl _ | (simp <;> omega))) | (with_reducible refine Below.allocW ?_ _) | (with_reducible refine Below.drew ?_) | (with_reducible refine Below.extW ?_ _))) hb2
      have s2 : w.heap.size ≤ w2.heap.size := B2.size
      go_wp2_with fail
      go_ret
      exact ⟨rfl, (by repeat (first | with_reducible exact Below.refl _ _ | with_reducible assumption | ((with_reducible refine Below.setCell ?_ ?_ _); rotate_left; · (first | omega | exact Nat.le_refl _ | (simp <;> omega))) | (with_reducible refine Below.allocW ?_ _) | (with_reducible refine Below.drew ?_) | (with_reducible refine Below.extW ?_ _)))⟩
theorem own_setZ {w : World} {base b off n cap : Nat} {l : List Int} (h : Own w base 3 encZ (.slice (some ⟨b, off, none⟩) n cap) l) (k : Nat) (hk : k < l.length) (x : Int) : Own (w.setCell ⟨b, off + k, none⟩ (.int .i64 x)) base 3 encZ (.slice (some ⟨b, off, none⟩) n cap) (l.set k x) := by
  have := h.setElem k 0 hk (by decide) (.int .i64 x) x rfl
  rwa [Nat.mul_one, Nat.add_zero] at this
set_option maxHeartbeats 4000000 in
theorem ag_swap (w : World) (a b n : Nat) (M : List Int) (D : DataW Unit) (F : Nat → Prop) (h : AgS w a b M n D F) (i j : Nat) (hi : i < M.length) (hj : j < M.length) (hij : i ≠ j) (hm : M.length ≤ 72057594037927935) :
    Calls Tryz.prog 368 #[.pointer (some ⟨a, 0, none⟩), .int .i64 i, .int .i64 j] w fun e w' => e = .returned (.tuple #[]) ∧ AgS w' a b (swapL M i j) n D F ∧ Turn F w w' := by
  obtain ⟨v, h1, h2, h3, rfl⟩ := h
  have hap := AgS.apart h1 h2 h3
  obtain ⟨g, off, cap, rfl, hcap⟩ := own_at0 h2 (by omega)
  have c := blk_cell h1
  have z := lt_of_block h1
  have zb := (h2.lt g rfl).2
  have fb := h2.frozen
  have d0 := h2.slT.cell_at hi 0 (.int .i64 M[i]) rfl
  have d1 := h2.slT.cell_at hj 0 (.int .i64 M[j]) rfl
  simp only [Nat.mul_one, Nat.add_zero] at d0 d1
  have i0 : (i : Int) < (M.length : Int) := by omega
  have j0 : (j : Int) < (M.length : Int) := by omega
  have hij1 : ¬ i = j := hij
  have hij2 : ¬ j = i := fun he => hij he.symm
  have ei : M.getD i 0 = M[i] := by simp [hi]
  have ej : M.getD j 0 = M[j] := by simp [hj]
  have HS : Hid (AgS ((w.setCell ⟨g, off + i, none⟩ (.int .i64 M[j])).setCell ⟨g, off + j, none⟩ (.int .i64 M[i])) a b (swapL M i j) n D (footA a (.slice (some ⟨g, off, none⟩) M.length cap) b) ∧ Turn (footA a (.slice (some ⟨g, off, none⟩) M.length cap) b) w ((w.setCell ⟨g, off + i, none⟩ (.int .i64 M[j])).setCell ⟨g, off + j, none⟩ (.int .i64 M[i]))) := by
    refine Lib.hid ⟨⟨.slice (some ⟨g, off, none⟩) M.length cap, ?_, ?_, ?_, rfl⟩, ?_⟩
    · exact (Below.heap_setCell _ _ _ _ (fun he => hap.1 (by rw [he]; rfl))).trans ((Below.heap_setCell _ _ _ _ (fun he => hap.1 (by rw [he]; rfl))).trans h1)
    · have o := own_setZ (own_setZ h2 i hi M[j]) j (by simpa using hj) M[i]
      unfold swapL
      rw [ei, ej]
      exact o
    · exact (h3.setCell (fun he => hap.2.1 (by rw [he]; rfl)) _).setCell (fun he => hap.2.1 (by rw [he]; rfl)) _
    · exact ((Turn.refl _ w).setCell (.inl (.inr (.inl rfl))) _).setCell (.inl (.inr (.inl rfl))) _
  obtain ⟨x, hx⟩ : ∃ x, x = M[i] := ⟨_, rfl⟩
  obtain ⟨y, hy⟩ : ∃ y, y = M[j] := ⟨_, rfl⟩
  rw [← hx, ← hy] at HS
  rw [← hx] at d0
  rw [← hy] at d1
  clear h1 h2 h3 hap ei ej hx hy hij
  go_enter Tryz.func368, Tryz.ntmps368
  go_upto_region 0 with fail
  go_region
  go_wp2_with fail
  go_end0
  first | exact ⟨rfl, HS.out⟩ | exact ⟨rfl, HS.out.1.keep (fun _ _ => rfl), HS.out.2.drew⟩ | trace_state
end Go.Proofs.YtcjnchjmpkapmaaGreat
/- Package fold: the agenda: Put. -/
namespace Go.Proofs.YtcjnchjmpkapmaaGreat
open Go.ChangeShapes Go.WideShapes Go.ChangeAt Go.RowKit Go.Maps
set_option linter.unusedVariables false
set_option linter.unusedSimpArgs false
set_option maxRecDepth 100000

theorem SetIs.put {D : DataW Unit} {L : List Int} {w : World} {b n : Nat} (h : SetIs D L) (hown : w.ownsMap Tryz.prog 3 (unitElem (H := Unit)) b n D) {id : Int} (hid : id ∉ L) : SetIs (D.put (.int .i64 id) (.agg [])) (putH L id) := by
  have hp := putH_perm L id
  have hf : Go.Maps.has D (.int .i64 id) = false := by
    rw [← Bool.not_eq_true]
    exact fun hh => hid ((h.has id).1 hh)
  refine ⟨fun z => ?_, ?_⟩
  · rw [hp.mem_iff, List.mem_cons]
    by_cases hz : z = id
    · subst hz
      rw [has_put_same hown.isMap (by simp [WideAt.IsKeyLit])]; simp
    · rw [has_put_other (by simp [hz]), h.has]; simp [hz]
  · rw [size_put (hown.tidy keyI'), hf, h.size, hp.length_eq]; simp
theorem AgS.read {w : World} {a b n : Nat} {M : List Int} {D : DataW Unit} {F : Nat → Prop} (h : AgS w a b M n D F) (h0 : 0 < M.length) : ∃ g off cap, w.heap[a]? = some (.cells #[.slice (some ⟨g, off, none⟩) M.length cap, .map (some b)] 373 (0, 0)) ∧ g < w.heap.size ∧ ∀ j, j < M.length → w.cell? ⟨g, off + j, none⟩ = some (.int .i64 (M.getD j 0)) := by
  obtain ⟨v, h1, h2, h3, rfl⟩ := h
  obtain ⟨g, off, cap, rfl, hcap⟩ := own_at0 h2 h0
  refine ⟨g, off, cap, h1, (h2.lt g rfl).2, fun j hj => ?_⟩
  have d := h2.slT.cell_at hj 0 (.int .i64 M[j]) rfl
  simp only [Nat.mul_one, Nat.add_zero] at d
  rw [d]
  simp [hj]
theorem ag_Put_no (w : World) (a : Nat) (id : Int) (hid : id < 1) : Calls Tryz.prog 322 #[.pointer (some ⟨a, 0, none⟩), .int .i64 id] w fun e w' => e = .returned (.bool false) ∧ Below w.heap.size w w' := by
  go_enter Tryz.func322, Tryz.ntmps322
  go_wp2_with fail
  go_ret
  exact ⟨rfl, (by repeat (first | with_reducible exact Below.refl _ _ | with_reducible assumption | ((with_reducible refine Below.setCell ?_ ?_ _); rotate_left; · (first | omega | exact Nat.le_refl _ | (simp <;> omega))) | (with_reducible refine Below.allocW ?_ _) | (with_reducible refine Below.drew ?_) | (with_reducible refine Below.extW ?_ _)))⟩
theorem ag_Put_in (w : World) (a b : Nat) (L : List Int) (F : Nat → Prop) (h : AgAt w a b L F) (id : Int) (hid : id ∈ L) (h1 : 1 ≤ id) (h2 : id ≤ 9223372036854775807) : Calls Tryz.prog 322 #[.pointer (some ⟨a, 0, none⟩), .int .i64 id] w fun e w' => e = .returned (.bool false) ∧ Below w.heap.size w w' := by
  obtain ⟨D, ⟨v, hh, ho, hm, rfl⟩, hs⟩ := h
  have hhas := (hs.has id).2 hid
  have c := blk_cell hh
  have z := lt_of_block hh
  have hid1 : decide (id < 1) = false := by simp; omega
  have hkey : keyOf Tryz.prog 3 (.int .i64 id) = some (.int .i64 id) := keyOf_int_mk Tryz.underlying3 (WalkArith.wf_i64 (by omega))
  have HM := Lib.hid hm
  clear hs hid hh ho hm
  go_enter Tryz.func322, Tryz.ntmps322
  go_wp2_with ((at_lookup; refine wpList_lookup_own_unit _ rfl _ _ 371 rfl 3 374 keyI' Tryz.underlying371 (zeroU _) b L.length D rfl HM.out _ _ rfl hkey ?_))
  go_ret
  exact ⟨rfl, (by repeat (first | with_reducible exact Below.refl _ _ | with_reducible assumption | ((with_reducible refine Below.setCell ?_ ?_ _); rotate_left; · (first | omega | exact Nat.le_refl _ | (simp <;> omega))) | (with_reducible refine Below.allocW ?_ _) | (with_reducible refine Below.drew ?_) | (with_reducible refine Below.extW ?_ _)))⟩
set_option maxHeartbeats 8000000 in
theorem ag_Put_new (w : World) (a b : Nat) (L : List Int) (F : Nat → Prop) (h : AgAt w a b L F) (id : Int) (hid : id ∉ L) (h1 : 1 ≤ id) (h2 : id ≤ 9223372036854775807) (hL : ∀ x ∈ L, 1 ≤ x ∧ x ≤ 9223372036854775807) (hlen : L.length ≤ 1000000000000) :
    Calls Tryz.prog 322 #[.pointer (some ⟨a, 0, none⟩), .int .i64 id] w fun e w' => ∃ F', e = .returned (.bool true) ∧ AgAt w' a b (putH L id) F' ∧ Turn F w w' ∧ Grow w F F' := by
  obtain ⟨D, ⟨v, hh, ho, hm, rfl⟩, hs⟩ := h
  have hhas : Go.Maps.has D (.int .i64 id) = false := by
    rw [← Bool.not_eq_true]
    exact fun hh => hid ((hs.has id).1 hh)
  have hap := AgS.apart hh ho hm
  have HSet := Lib.hid (hs.put hm hid)
  have c := blk_cell hh
  have z := lt_of_block hh
  have hid1 : decide (id < 1) = false := by simp; omega
  have hkey : keyOf Tryz.prog 3 (.int .i64 id) = some (.int .i64 id) := keyOf_int_mk Tryz.underlying3 (WalkArith.wf_i64 (by omega))
  have HM := Lib.hid hm
  have HH := Lib.hid hh
  have HO := Lib.hid ho
  have HA := Lib.hid hap
  have HL := Lib.hid hL
  clear hs hid hh ho hm hap hL
  go_enter Tryz.func322, Tryz.ntmps322
  go_upto_region 6 with ((at_lookup; refine wpList_lookup_own_unit _ rfl _ _ 371 rfl 3 374 keyI' Tryz.underlying371 (zeroU _) b L.length D rfl HM.out _ _ rfl hkey ?_))
  have b1 : Below w.heap.size w (w.alloc (.cells #[] 374)) := (by repeat (first | with_reducible exact Below.refl _ _ | with_reducible assumption | ((with_reducible refine Below.setCell ?_ ?_ _); rotate_left; · (first | omega | exact Nat.le_refl _ | (simp <;> omega))) | (with_reducible refine Below.allocW ?_ _) | (with_reducible refine Below.drew ?_) | (with_reducible refine Below.extW ?_ _)))
  have H1 := Lib.hid (blk_below HH.out b1)
  have M1 := Lib.hid (ownsMap_keep HM.out (b1.block _ HM.out.lt))
  have O1 := Lib.hid (HO.out.below b1)
  have T1 : Hid (Turn (footA a v b) w (w.alloc (.cells #[] 374))) := Lib.hid (.of_below b1)
  generalize w.alloc (.cells #[] 374) = w1 at H1 M1 O1 T1 ⊢
  have c1 := blk_cell H1.out
  have z1 := lt_of_block H1.out
  clear c z HM HO HH b1
  go_wp2_with ((at_mapUpdate; refine wpList_mapUpdate_own _ rfl _ _ _ 371 rfl 3 374 keyI' Tryz.underlying371 (unitElem (H := Unit)) b L.length D rfl M1.out (by unfold maxLen; omega) _ _ _ rfl rfl hkey (.agg []) [] unitElem_mk ?_))
  intro w2 hown2 hg2
  have hbz := M1.out.lt
  have H2 : Hid (w2.heap[a]? = some (.cells #[v, .map (some b)] 373 (0, 0))) := Lib.hid ((hg2.block a z1 (by simp only [ne_eq, Option.some.injEq]; exact HA.out.2.2)).trans H1.out)
  have O2 := Lib.hid (O1.out.kept hg2 (.inr HA.out.2.1))
  have M2 := Lib.hid hown2
  have T2 : Hid (Turn (footA a v b) w w2) := Lib.hid (T1.out.grown hg2 fun x hx => by cases hx; exact .inl (.inr (.inr rfl)))
  have c2 := blk_cell H2.out
  have f2 := blk_frozen H2.out
  have z2 := lt_of_block H2.out
  obtain ⟨A, cap, rfl, _⟩ := O2.out.form
  have HA2 := Lib.hid (And.intro HA.out.1 HA.out.2.1)
  clear c1 z1 H1 M1 O1 T1 hown2 hg2
  go_wp2_with ((at_builtin; refine wpList_push tyZ rfl _ _ rfl encZ w2 0 _ _ rfl O2.out id rfl rfl ?p1 ?p2 ?p3 ?p4))
  case p1 => omega
  case p2 => simp only [maxLen]; omega
  case p3 => exact Nat.zero_le _
  case p4 =>
    intro v3 w3 hown3 hg3 hsz3 hor3 _ _
    obtain ⟨g, off, cap3, rfl, hcap3⟩ := own_at0 hown3 (by simp)
    have e3 : (L ++ [id]).length = L.length + 1 := by simp
    rw [e3] at hown3 ⊢
    simp only [e3] at hor3
    have H3 := (hg3.block a z2 HA2.out.1.symm).trans H2.out
    have M3 := ownsMap_keep M2.out (hg3.block b M2.out.lt HA2.out.2.symm)
    have c3 := blk_cell H3
    have f3 := blk_frozen H3
    have z3 := lt_of_block H3
    have hne3 := hown3.ne_block H3 (by decide)
    have k4 := heap_set_at (i := 0) H3 (.slice (some ⟨g, off, none⟩) (L.length + 1) cap3)
    have o4 := hown3.setCell (p := ⟨a, 0, none⟩) hne3 (.slice (some ⟨g, off, none⟩) (L.length + 1) cap3)
    have m4 := M3.setCell (a := ⟨a, 0, none⟩) (fun he => HA.out.2.2 he.symm) (.slice (some ⟨g, off, none⟩) (L.length + 1) cap3)
    have G4 : Hid (Grow w (footA a (.slice A L.length cap) b) (footA a (.slice (some ⟨g, off, none⟩) (L.length + 1) cap3) b)) := Lib.hid fun x hx => by
      rcases hx with rfl | hx | rfl
      · exact .inl (.inl rfl)
      · rcases hor3 with h | h
        · exact .inl (.inr (.inl (by rw [← h]; exact hx)))
        · rw [h] at hx
          cases hx
          exact .inr (by have := T2.out.size; omega)
      · exact .inl (.inr (.inr rfl))
    have T4 := Lib.hid (((T2.out.grown hg3 fun x hx => .inl (.inr (.inl hx))).setCell (p := ⟨a, 0, none⟩) (.inl (.inl rfl)) (.slice (some ⟨g, off, none⟩) (L.length + 1) cap3)))
    have S4 : Hid (AgS (w3.setCell ⟨a, 0, none⟩ (.slice (some ⟨g, off, none⟩) (L.length + 1) cap3)) a b (L ++ [id]) (L.length + 1) (D.put (.int .i64 id) (.agg [])) (footA a (.slice (some ⟨g, off, none⟩) (L.length + 1) cap3) b)) := Lib.hid ⟨_, k4, o4, m4, rfl⟩
    clear H3 M3 hne3 k4 o4 m4 hg3 hor3 c2 f2 H2 O2 M2 T2 hown3 HA2
    go_upto_region 8 with fail
    generalize (w3.setCell ⟨a, 0, none⟩ (.slice (some ⟨g, off, none⟩) (L.length + 1) cap3)) = w4 at S4 T4 ⊢
    generalize hF : footA a (.slice (some ⟨g, off, none⟩) (L.length + 1) cap3) b = F' at S4 G4
    generalize D.put (.int .i64 id) (.agg []) = D' at S4 HSet
    clear c3 f3 z3 z2 hF hcap3 e3 hsz3
    have hM0 : ∀ x ∈ L ++ [id], 1 ≤ x ∧ x ≤ 9223372036854775807 := fun x hx => by
      rcases List.mem_append.1 hx with hx | hx
      · exact HL.out x hx
      · obtain rfl := List.mem_singleton.1 hx; exact ⟨h1, h2⟩
    have HM0 := Lib.hid hM0
    have hl4 : (L ++ [id]).length = L.length + 1 := by simp
    obtain ⟨g4, off4, cap4, hh4, hg4, _⟩ := S4.out.read (by simp)
    rw [hl4] at hh4
    have c4 := blk_cell hh4
    have z4 := lt_of_block hh4
    clear hM0 hh4 hg4 HL
    go_wp2_with fail
    go_loopw [7] (fun i wr => ∃ (q k : Nat) (M : List Int), i = .int .i64 q ∧ AgS wr a b M (L.length + 1) D' F' ∧ q < M.length ∧ q ≤ k ∧ upH k M q = putH L id ∧ (∀ x ∈ M, 1 ≤ x ∧ x ≤ 9223372036854775807) ∧ M.length = L.length + 1 ∧ Turn (footA a (.slice A L.length cap) b) w wr) (fun i _ => (intOf i).toNat)
    case atStart => exact ⟨L.length, L.length, L ++ [id], by first | rfl | go_num, S4.out, by simp, Nat.le_refl _, rfl, HM0.out, by simp, T4.out⟩
    case round =>
      obtain ⟨q, k, M, rfl, hS, hq, hk, hup, hM, hlen2, hT⟩ := hrel
      have HS := Lib.hid hS
      have HU := Lib.hid hup
      have HX := Lib.hid hM
      have HT := Lib.hid hT
      have HLn := Lib.hid hlen2
      have hq2 : q ≤ L.length := by omega
      clear c4 z4 S4 T4 HM0 hl4
      obtain ⟨g5, off5, cap5, hh5, hg5, hrd⟩ := hS.read (by omega)
      rw [hlen2] at hh5
      clear hS hup hM hT hlen2
      by_cases hq0 : q = 0
      · subst hq0
        have e0 : upH k M 0 = M := by cases k with
          | zero => rfl
          | succ k => simp [upH]
        rw [e0] at HU
        have hd : decide ((0 : Int) < ((0 : Nat) : Int)) = false := by simp
        clear hrd hh5
        go_upto_region 9 with fail
        refine wp_region_ext (by kernel_rfl) (by kernel_rfl) ?_
        repeat (go_big_quiet_step (fail))
        refine wpQuiet_nil ?_
        intro w6 h6
        have hb6 := below_of_ext h6
        have HS6 := Lib.hid (HS.out.below hb6)
        have HT6 := Lib.hid (HT.out.more hb6)
        clear h6 hb6
        go_wp2_with fail
        go_ret
        refine ⟨F', rfl, ⟨D', ?_, HSet.out⟩, HT6.out, G4.out⟩
        rw [← HU.out, HLn.out]
        exact HS6.out
      · obtain ⟨p, hp⟩ : ∃ p, p = (q - 1) / 2 := ⟨_, rfl⟩
        have hpq : p < q := by omega
        have d0 := hrd q (by omega)
        have d1 := hrd p (by omega)
        have c5 := blk_cell hh5
        have z5 := lt_of_block hh5
        have x0 := HX.out (M.getD q 0) (by simp [List.getD_eq_getElem?_getD, hq])
        have x1 := HX.out (M.getD p 0) (by simp [List.getD_eq_getElem?_getD, (by omega : p < M.length)])
        have HAh := Lib.hid (fun W => fold_ahead W (M.getD q 0) (M.getD p 0) x0.2 x1.2 x0.1 x1.1)
        have hpos : (0 : Int) < (q : Int) := by omega
        have hpos1 : 0 < q := by omega
        have hposd : decide ((0 : Int) < (q : Int)) = true := by simpa using hpos1
        have e1 : ((q : Int) - 1).tdiv 2 = (p : Int) := by rw [Int.tdiv_eq_ediv_of_nonneg (by omega)]; omega
        have e2 : ((q : Int) - 1) / 2 = (p : Int) := by omega
        obtain ⟨k', rfl⟩ : ∃ k', k = k' + 1 := ⟨k - 1, by omega⟩
        have HSw := Lib.hid (fun W hS => ag_swap W a b (L.length + 1) M D' F' hS q p hq (by omega) (by omega) (by have := HLn.out; omega))
        generalize hxq : M.getD q 0 = x at d0 HAh
        generalize hxp : M.getD p 0 = y at d1 HAh
        have HU2 : Hid ((if aheadI x y = true then upH k' (swapL M q p) p else M) = putH L id) := Lib.hid (by
          have := HU.out
          simp only [upH] at this
          rw [← hp, hxq, hxp] at this
          simpa [show 0 < q by omega] using this)
        have hp2 : p ≤ L.length := by omega
        have hpk : p ≤ k' := by omega
        clear hrd hh5 x0 x1 HU hxq hxp hp
        go_upto_region 9 with fail
        refine wp_region_ext (by kernel_rfl) (by kernel_rfl) ?_
        repeat (go_big_quiet_step ((go_at_call 367; exact quiet_ext (HAh.out _))))
        refine wpQuiet_nil ?_
        intro w6 h6
        have hb6 := below_of_ext h6
        have HS6 := Lib.hid (HS.out.below hb6)
        have HT6 := Lib.hid (HT.out.more hb6)
        clear h6 hb6 d0 d1 c5 z5
        cases hah : aheadI x y
        · rw [hah, if_neg (by simp)] at HU2
          go_wp2_with fail
          go_ret
          refine ⟨F', rfl, ⟨D', ?_, HSet.out⟩, HT6.out, G4.out⟩
          rw [← HU2.out, HLn.out]
          exact HS6.out
        · rw [hah, if_pos rfl] at HU2
          go_wp2_with fail
          refine (HSw.out _ HS6.out).mono ?_
          rintro e w7 ⟨rfl, hs7, ht7⟩
          have HS7 := Lib.hid hs7
          have HT7 := Lib.hid (HT6.out.trans ht7 G4.out)
          clear hs7 ht7
          go_wp2_with fail
          go_roundw
          case rel => exact ⟨p, k', swapL M q p, by first | rfl | (rw [e2]) | (rw [e1]), HS7.out, by rw [swapL_len]; omega, hpk, HU2.out, fun z hz => HX.out z ((swapL_perm hq (by omega)).mem_iff.1 hz), by rw [swapL_len]; exact HLn.out, HT7.out⟩
          case measure => simp [intOf]; omega
end Go.Proofs.YtcjnchjmpkapmaaGreat
/- Package fold: the agenda: sink, Pop. -/
namespace Go.Proofs.YtcjnchjmpkapmaaGreat
open Go.ChangeShapes Go.WideShapes Go.ChangeAt Go.RowKit Go.Maps
set_option linter.unusedVariables false
set_option linter.unusedSimpArgs false
set_option maxRecDepth 100000

theorem getD_mem {M : List Int} {q : Nat} (hq : q < M.length) : M.getD q 0 ∈ M := by simp [List.getD_eq_getElem?_getD, hq]
def FstJ (R : List Int) (q j ff : Nat) : Prop := (j = 0 → ff = q) ∧ (j = 1 → ff = stepH R q (2 * q + 1)) ∧ (j = 2 → ff = firstH R q)
theorem FstJ.next {R : List Int} {q j ff : Nat} (h : FstJ R q j ff) (hj : j ≤ 1) : FstJ R q (j + 1) (stepH R ff (2 * q + 1 + j)) := by
  refine ⟨by omega, fun h1 => ?_, fun h1 => ?_⟩
  · obtain rfl : j = 0 := by omega
    rw [h.1 rfl]
  · obtain rfl : j = 1 := by omega
    rw [h.2.1 rfl]
    rfl
theorem FstJ.exit {R : List Int} {q j ff : Nat} (h : FstJ R q j ff) (hj : j ≤ 2) (hx : j = 2 ∨ R.length ≤ 2 * q + 1 + j) : ff = firstH R q := by
  rcases (by omega : j = 0 ∨ j = 1 ∨ j = 2) with rfl | rfl | rfl
  · rw [h.1 rfl]
    unfold firstH
    have e1 : stepH R q (2 * q + 1) = q := by unfold stepH; rw [if_neg (by omega)]
    rw [e1]
    unfold stepH
    rw [if_neg (by omega)]
  · rw [h.2.1 rfl]
    unfold firstH
    generalize stepH R q (2 * q + 1) = z
    unfold stepH
    rw [if_neg (by omega)]
  · exact h.2.2 rfl
set_option maxHeartbeats 8000000 in
theorem ag_sink (w : World) (a b n : Nat) (M : List Int) (D : DataW Unit) (F : Nat → Prop) (h : AgS w a b M n D F) (h0 : 0 < M.length) (hM : ∀ x ∈ M, 1 ≤ x ∧ x ≤ 9223372036854775807) (hlen : M.length ≤ 1000000000001) :
    Calls Tryz.prog 366 #[.pointer (some ⟨a, 0, none⟩)] w fun e w' => e = .returned (.tuple #[]) ∧ AgS w' a b (downH M.length M 0) n D F ∧ Turn F w w' := by
  have HS0 := Lib.hid h
  have HM0 := Lib.hid hM
  obtain ⟨m, hm⟩ : ∃ m, m = M.length := ⟨_, rfl⟩
  obtain ⟨T, hT⟩ : ∃ T, T = downH M.length M 0 := ⟨_, rfl⟩
  rw [← hT]
  have HT0 : Hid (downH m M 0 = T) := Lib.hid (by rw [hm, hT])
  have HML : Hid (M.length = m) := Lib.hid hm.symm
  rw [← hm] at h0 hlen
  clear h hM hT hm
  go_enter Tryz.func366, Tryz.ntmps366
  go_wp2_with fail
  go_loopw [2, 3, 4] (fun i _ _ wr => ∃ (q k : Nat) (R : List Int), i = .int .i64 q ∧ AgS wr a b R n D F ∧ q < R.length ∧ R.length ≤ k + q ∧ downH k R q = T ∧ (∀ x ∈ R, 1 ≤ x ∧ x ≤ 9223372036854775807) ∧ R.length = m ∧ Turn F w wr) (fun i _ _ _ => m - (intOf i).toNat)
  case atStart => exact ⟨0, m, M, rfl, HS0.out, by rw [HML.out]; exact h0, by rw [HML.out]; omega, HT0.out, HM0.out, HML.out, Turn.refl _ _⟩
  case round =>
    obtain ⟨q, k, R, rfl, hS, hq, hk, hdn, hR, hRl, hTn⟩ := hrel
    have HS := Lib.hid hS
    have HD := Lib.hid hdn
    have HX := Lib.hid hR
    have HT := Lib.hid hTn
    have HL := Lib.hid hRl
    have hq2 : q < m := by omega
    obtain ⟨k', rfl⟩ : ∃ k', k = k' + 1 := ⟨k - 1, by omega⟩
    have hk2 : m ≤ k' + 1 + q := by omega
    clear hS hdn hR hTn hRl hq hk HS0 HM0 HT0 HML
    go_wp2_with fail
    go_loopw [3, 4] (fun f c wr => ∃ (j cc : Nat) (ff : Nat), cc = 2 * q + 1 + j ∧ c = .int .i64 cc ∧ f = .int .i64 ff ∧ j ≤ 2 ∧ ff < m ∧ FstJ R q j ff ∧ AgS wr a b R n D F ∧ Turn F w wr) (fun _ c _ => 2 * q + 4 - (intOf c).toNat)
    case atStart => exact ⟨0, 2 * q + 1, q, rfl, by first | rfl | go_num | trace_state, rfl, by omega, hq2, ⟨fun _ => rfl, by omega, by omega⟩, HS.out, HT.out⟩
    case round =>
      obtain ⟨j, c, ff, hc, rfl, rfl, hj, hff, hJ, hS2, hT2⟩ := hrel
      have HC := Lib.hid hc
      have HJ := Lib.hid hJ
      have HS2 := Lib.hid hS2
      have HT2 := Lib.hid hT2
      obtain ⟨g5, off5, cap5, hh5, hg5, hrd⟩ := hS2.read (by rw [HL.out]; omega)
      rw [HL.out] at hh5 hrd
      have c5 := blk_cell hh5
      have z5 := lt_of_block hh5
      clear hS2 hT2 hJ hh5 HS HT
      by_cases hgo : j ≤ 1 ∧ c < m
      · have hcl : (c : Int) ≤ 2 * (q : Int) + 2 := by omega
        have hcm : (c : Int) < (m : Int) := by omega
        have d0 := hrd c hgo.2
        have d1 := hrd ff hff
        have x0 := HX.out _ (getD_mem (M := R) (q := c) (by rw [HL.out]; exact hgo.2))
        have x1 := HX.out _ (getD_mem (M := R) (q := ff) (by rw [HL.out]; exact hff))
        have HAh := Lib.hid (fun W => fold_ahead W (R.getD c 0) (R.getD ff 0) x0.2 x1.2 x0.1 x1.1)
        have HSt : Hid (stepH R ff c = if aheadI (R.getD c 0) (R.getD ff 0) = true then c else ff) := Lib.hid (by
          unfold stepH
          simp only [HL.out, hgo.2, true_and])
        generalize R.getD c 0 = x at d0 HAh HSt
        generalize R.getD ff 0 = y at d1 HAh HSt
        have hj1 := hgo.1
        have hcm2 := hgo.2
        have hfm : (ff : Int) < (m : Int) := by omega
        have HN := Lib.hid (HC.out ▸ HJ.out.next hj1)
        clear hrd x0 x1 hgo hc
        go_upto_region 5 with fail
        refine wp_region_ext (by kernel_rfl) (by kernel_rfl) ?_
        repeat (go_big_quiet_step ((go_at_call 367; exact quiet_ext (HAh.out _))))
        refine wpQuiet_nil ?_
        intro w6 h6
        have hb6 := below_of_ext h6
        have HS6 := Lib.hid (HS2.out.below hb6)
        have HT6 := Lib.hid (HT2.out.more hb6)
        clear h6 hb6 d0 d1 c5 z5
        cases hah : aheadI x y
        · rw [hah, if_neg (by simp)] at HSt
          go_wp2_with fail
          go_roundw
          case rel => exact ⟨j + 1, c + 1, ff, by have := HC.out; omega, by first | rfl | go_num | trace_state, rfl, by omega, hff, by have := HN.out; rw [HSt.out] at this; exact this, HS6.out, HT6.out⟩
          case measure => have := HC.out; simp [intOf]; omega
        · rw [hah, if_pos rfl] at HSt
          go_wp2_with fail
          go_roundw
          case rel => exact ⟨j + 1, c + 1, c, by have := HC.out; omega, by first | rfl | go_num | trace_state, rfl, by omega, hcm2, by have := HN.out; rw [HSt.out] at this; exact this, HS6.out, HT6.out⟩
          case measure => have := HC.out; simp [intOf]; omega
      · have hex : decide ((c : Int) ≤ 2 * (q : Int) + 2) = false ∨ ((c : Int) ≤ 2 * (q : Int) + 2 ∧ decide (c < m) = false) := by
          by_cases hj2 : j = 2
          · exact .inl (by simp; omega)
          · exact .inr ⟨by omega, by simp; omega⟩
        have HFf := Lib.hid (HJ.out.exit hj (by rw [HL.out]; omega))
        have HDn : Hid ((if ff = q then R else downH k' (swapL R q ff) ff) = T) := Lib.hid (by
          have := HD.out
          simp only [downH] at this
          rw [← HFf.out] at this
          exact this)
        have hle : q ≤ ff := by rw [HFf.out]; exact firstH_le R q
        have HSw := Lib.hid (fun W hS hne => ag_swap W a b n R D F hS q ff (by rw [HL.out]; exact hq2) (by rw [HL.out]; exact hff) hne (by rw [HL.out]; omega))
        clear hrd hgo hc
        rcases hex with k1 | ⟨k1, k2⟩
        all_goals
          by_cases hfq : ff = q
          · rw [if_pos hfq] at HDn
            subst hfq
            have hfe : ((ff : Int) == (ff : Int)) = true := by simp
            go_wp2_with fail
            exact bodyPost_ret (v := .tuple #[]) (by simp only [results, Tryz.results366]; go_simp) rfl ⟨rfl, HDn.out ▸ HS2.out, HT2.out⟩
          · rw [if_neg hfq] at HDn
            have hfe : ((ff : Int) == (q : Int)) = false := by simp; omega
            go_wp2_with fail
            refine (HSw.out _ HS2.out (fun e => hfq e.symm)).mono ?_
            rintro e w7 ⟨rfl, hs7, ht7⟩
            have HS7 := Lib.hid hs7
            have HT7 := Lib.hid (HT2.out.trans ht7 Grow.refl)
            clear hs7 ht7
            go_wp2_with fail
            go_roundw
            case rel => exact ⟨ff, k', swapL R q ff, rfl, HS7.out, by rw [swapL_len, HL.out]; exact hff, by rw [swapL_len, HL.out]; omega, HDn.out, fun z hz => HX.out z ((swapL_perm (by rw [HL.out]; exact hq2) (by rw [HL.out]; exact hff)).mem_iff.1 hz), by rw [swapL_len]; exact HL.out, HT7.out⟩
            case measure => simp [intOf]; omega
theorem ag_sink_nil (w : World) (a b n : Nat) (D : DataW Unit) (F : Nat → Prop) (h : AgS w a b [] n D F) :
    Calls Tryz.prog 366 #[.pointer (some ⟨a, 0, none⟩)] w fun e w' => e = .returned (.tuple #[]) ∧ AgS w' a b [] n D F ∧ Turn F w w' := by
  have HS0 := Lib.hid h
  obtain ⟨v, hh, ho, _, _⟩ := h
  obtain ⟨A, cap, rfl, _⟩ := ho.form
  have c := blk_cell hh
  have z := lt_of_block hh
  simp only [List.length_nil] at c
  clear hh ho
  go_enter Tryz.func366, Tryz.ntmps366
  go_wp2_with fail
  go_loopw [2] (fun i wr => i = .int .i64 0 ∧ wr = w) (fun _ _ => 0)
  case atStart => exact ⟨rfl, rfl⟩
  case round =>
    obtain ⟨rfl, rfl⟩ := hrel
    go_wp2_with fail
    go_loopw [3, 4] (fun f c W => f = .int .i64 0 ∧ c = .int .i64 1 ∧ W = wr) (fun _ _ _ => 0)
    case atStart => exact ⟨rfl, rfl, rfl⟩
    case round =>
      obtain ⟨rfl, rfl, rfl⟩ := hrel
      go_wp2_with fail
      exact bodyPost_ret (v := .tuple #[]) (by simp only [results, Tryz.results366]; go_simp) rfl ⟨rfl, HS0.out, Turn.refl _ _⟩
theorem ownsMap_shrink {w : World} {b n : Nat} {D : DataW Unit} {R : Value → Option (DataW Unit × List MemPlace)} (h : w.ownsMap Tryz.prog 3 R b n D) : w.ownsMap Tryz.prog 3 R b (Go.Maps.size D) D := by
  obtain ⟨es, clock, h1, h2, h3, rfl⟩ := h
  refine ⟨es, clock, h1, h2, ?_, rfl⟩
  simp [Go.Maps.size, length_sorted]
theorem SetIs.pop {D : DataW Unit} {x : Int} {L : List Int} {w : World} {b n : Nat} (h : SetIs D (x :: L)) (hown : w.ownsMap Tryz.prog 3 (unitElem (H := Unit)) b n D) (hx : x ∉ L) : SetIs (D.del (.int .i64 x)) (popH (x :: L)) := by
  have hp := popH_perm x L
  refine ⟨fun z => ?_, ?_⟩
  · rw [hp.mem_iff]
    by_cases hz : z = x
    · subst hz
      rw [has_del_same]
      simp [hx]
    · rw [has_del_other (by simp [hz]), h.has]; simp [hz]
  · have hd := size_del (k := .int .i64 x) (hown.tidy keyI')
    rw [(h.has x).2 (by simp), h.size] at hd
    rw [hp.length_eq]
    simp at hd
    omega
theorem ag_sink_any (w : World) (a b n : Nat) (M : List Int) (D : DataW Unit) (F : Nat → Prop) (h : AgS w a b M n D F) (hM : ∀ x ∈ M, 1 ≤ x ∧ x ≤ 9223372036854775807) (hlen : M.length ≤ 1000000000001) :
    Calls Tryz.prog 366 #[.pointer (some ⟨a, 0, none⟩)] w fun e w' => e = .returned (.tuple #[]) ∧ AgS w' a b (downH M.length M 0) n D F ∧ Turn F w w' := by
  by_cases h0 : 0 < M.length
  · exact ag_sink w a b n M D F h h0 hM hlen
  · have : M = [] := List.length_eq_zero_iff.1 (by omega)
    subst this
    exact ag_sink_nil w a b n D F h
set_option maxHeartbeats 8000000 in
theorem ag_Pop (w : World) (a b : Nat) (x : Int) (L : List Int) (F : Nat → Prop) (h : AgAt w a b (x :: L) F) (hx : x ∉ L) (hM : ∀ y ∈ x :: L, 1 ≤ y ∧ y ≤ 9223372036854775807) (hlen : L.length ≤ 1000000000000) :
    Calls Tryz.prog 320 #[.pointer (some ⟨a, 0, none⟩)] w fun e w' => e = .returned (.tuple #[.int .i64 x, .bool true]) ∧ AgAt w' a b (popH (x :: L)) F ∧ Turn F w w' := by
  obtain ⟨D, hS, hs⟩ := h
  have HLn := Lib.hid (ag_Len w a b _ (x :: L) D F hS)
  obtain ⟨v, hh, ho, hm, rfl⟩ := hS
  have hap := AgS.apart hh ho hm
  have HA := Lib.hid hap
  have HSet := Lib.hid (hs.pop hm hx)
  have HK : Hid (keyOf Tryz.prog 3 (.int .i64 x) = some (.int .i64 x)) := Lib.hid (keyOf_int_mk Tryz.underlying3 (WalkArith.wf_i64 (by have := hM x (by simp); omega)))
  obtain ⟨g, off, cap, rfl, hcap⟩ := own_at0 ho (by simp)
  obtain ⟨n, hn⟩ : ∃ n, n = L.length := ⟨_, rfl⟩
  have hN1 : (x :: L).length = n + 1 := by rw [hn]; simp
  obtain ⟨y, hy⟩ : ∃ y, y = (x :: L).getD n 0 := ⟨_, rfl⟩
  have hpop : popH (x :: L) = downH n (((x :: L).set 0 y).take n) 0 := by rw [hy, hn]; rfl
  have HPop := Lib.hid hpop
  have hyM : y ∈ x :: L := by rw [hy]; exact getD_mem (by rw [hN1]; omega)
  have hM2 : ∀ z ∈ ((x :: L).set 0 y).take n, 1 ≤ z ∧ z ≤ 9223372036854775807 := fun z hz => by
    have := List.mem_of_mem_take hz
    rcases List.mem_or_eq_of_mem_set this with h | h
    · exact hM z h
    · rw [h]; exact hM y hyM
  have HM2 := Lib.hid hM2
  have HML : Hid ((((x :: L).set 0 y).take n).length = n) := Lib.hid (by rw [List.length_take, List.length_set, hN1]; omega)
  rw [hN1] at HLn hh ho hm hcap HA hap ⊢
  have ga : g ≠ a := fun he => hap.1 (by rw [he]; rfl)
  have HH := Lib.hid hh
  have HO := Lib.hid ho
  have HMp := Lib.hid hm
  have hlen2 : n ≤ 1000000000000 := by omega
  have HN := Lib.hid hN1
  have HY := Lib.hid hy
  clear hs hh ho hm hap hx hM hn hN1 hy hpop hyM hM2 hlen
  go_enter Tryz.func320, Tryz.ntmps320
  go_wp2_with fail
  refine HLn.out.mono ?_
  rintro e w1 ⟨rfl, hb1⟩
  have H1 := Lib.hid (blk_below HH.out hb1)
  have O1 := Lib.hid (HO.out.below hb1)
  have M1 := Lib.hid (ownsMap_keep HMp.out (hb1.block b HMp.out.lt))
  have T1 : Hid (Turn (footA a (.slice (some ⟨g, off, none⟩) (n + 1) cap) b) w w1) := Lib.hid (.of_below hb1)
  have c1 := blk_cell H1.out
  have z1 := lt_of_block H1.out
  have zg1 := (O1.out.lt g rfl).2
  have d0 := O1.out.slT.cell_at (k := 0) (by rw [HN.out]; omega) 0 (.int .i64 x) rfl
  simp only [Nat.zero_mul, Nat.add_zero] at d0
  clear hb1
  go_upto_region 3 with fail
  refine wp_region_ext (by kernel_rfl) (by kernel_rfl) ?_
  repeat (go_big_quiet_step (fail))
  refine wpQuiet_nil ?_
  intro w2 h2
  have hb2 := below_of_ext h2
  have H2 := Lib.hid (blk_below H1.out hb2)
  have O2 := Lib.hid (O1.out.below hb2)
  have M2 := Lib.hid (ownsMap_keep M1.out (hb2.block b M1.out.lt))
  have T2 := Lib.hid (T1.out.more hb2)
  clear h2 hb2 c1 z1 zg1 d0 H1 O1 M1 T1 HLn HH HO HMp
  have c2 := blk_cell H2.out
  have z2 := lt_of_block H2.out
  have zg2 := (O2.out.lt g rfl).2
  have fg := O2.out.frozen
  have d0 := O2.out.slT.cell_at (k := 0) (by rw [HN.out]; omega) 0 (.int .i64 x) rfl
  have d1 := O2.out.slT.cell_at (k := n) (by rw [HN.out]; omega) 0 (.int .i64 y) (by
    have : (x :: L)[n]'(by rw [HN.out]; omega) = y := by rw [HY.out, List.getD_eq_getElem?_getD, List.getElem?_eq_getElem (by rw [HN.out]; omega)]; rfl
    rw [this]; rfl)
  simp only [Nat.zero_mul, Nat.mul_one, Nat.add_zero] at d0 d1
  have o3 := own_setZ O2.out 0 (by rw [HN.out]; omega) y
  simp only [Nat.add_zero] at o3
  have h3 := (Below.heap_setCell w2 ⟨g, off, none⟩ (.int .i64 y) a (fun he => ga he.symm)).trans H2.out
  have m3 := M2.out.setCell (a := ⟨g, off, none⟩) (fun he => HA.out.2.1 (by rw [he]; rfl)) (.int .i64 y)
  have t3 := T2.out.setCell (p := ⟨g, off, none⟩) (.inl (.inr (.inl rfl))) (.int .i64 y)
  go_upto_region 4 with fail
  have O3 := Lib.hid o3.drew
  have H3 : Hid ((w2.setCell ⟨g, off, none⟩ (.int .i64 y)).drew.heap[a]? = _) := Lib.hid h3
  have M3 : Hid ((w2.setCell ⟨g, off, none⟩ (.int .i64 y)).drew.ownsMap Tryz.prog 3 (unitElem (H := Unit)) b (n + 1) D) := Lib.hid m3
  have T3 := Lib.hid t3.drew
  clear o3 h3 m3 t3
  go_region
  generalize (w2.setCell ⟨g, off, none⟩ (.int .i64 y)).drew = w3 at O3 H3 M3 T3 ⊢
  clear c2 z2 zg2 fg d0 d1 H2 O2 M2 T2
  have c3 := blk_cell H3.out
  have f3 := blk_frozen H3.out
  have z3 := lt_of_block H3.out
  have hnc : n ≤ cap := by omega
  have o4 := O3.out.upTo (k := n) (by rw [List.length_set, HN.out]; omega)
  have S4 : Hid (AgS (w3.setCell ⟨a, 0, none⟩ (.slice (some ⟨g, off, none⟩) n cap)) a b (((x :: L).set 0 y).take n) (n + 1) D (footA a (.slice (some ⟨g, off, none⟩) (n + 1) cap) b)) :=
    Lib.hid ⟨.slice (some ⟨g, off, none⟩) n cap, heap_set_at (i := 0) H3.out (.slice (some ⟨g, off, none⟩) n cap), o4.setCell (p := ⟨a, 0, none⟩) (o4.ne_block H3.out (by decide)) _, M3.out.setCell (a := ⟨a, 0, none⟩) (fun he => HA.out.2.2 he.symm) _, rfl⟩
  have T4 := Lib.hid (T3.out.setCell (p := ⟨a, 0, none⟩) (.inl (.inl rfl)) (.slice (some ⟨g, off, none⟩) n cap))
  clear o4 H3 M3 T3 O3
  go_upto_region 6 with fail
  generalize w3.setCell ⟨a, 0, none⟩ (.slice (some ⟨g, off, none⟩) n cap) = w4 at S4 T4 ⊢
  generalize hFe : footA a (.slice (some ⟨g, off, none⟩) (n + 1) cap) b = F at S4 T4
  have HFe := Lib.hid hFe
  clear hFe
  generalize ((x :: L).set 0 y).take n = M' at S4 HM2 HML HPop
  clear c3 f3 z3
  have HSk := Lib.hid (ag_sink_any w4 a b (n + 1) M' D F S4.out HM2.out (by rw [HML.out]; omega))
  rw [HML.out] at HSk
  go_wp2_with fail
  refine HSk.out.mono ?_
  rintro e w5 ⟨rfl, hs5, ht5⟩
  have HS5 := Lib.hid hs5
  have T5 := Lib.hid (T4.out.trans ht5 Grow.refl)
  rw [← HPop.out] at HS5
  obtain ⟨v5, hh5, ho5, hm5, hF5⟩ := HS5.out
  have c5 := blk_cell hh5
  have z5 := lt_of_block hh5
  have M5 := Lib.hid hm5
  have HH5 := Lib.hid hh5
  have HO5 := Lib.hid ho5
  have HA5 := Lib.hid (AgS.apart hh5 ho5 hm5)
  clear hs5 ht5 hm5 hh5 ho5 HSk
  go_wp2_with ((at_delete; refine wpList_delete_own _ rfl _ _ 371 3 rfl 374 keyI' Tryz.underlying371 (unitElem (H := Unit)) b (n + 1) D rfl M5.out _ _ rfl HK.out ?_; intro w6 hown6 hturn6))
  have hg6 := hturn6.grown
  have A6 : AgAt w6 a b (popH (x :: L)) F := by
    refine ⟨D.del (.int .i64 x), ⟨v5, ?_, ?_, ?_, hF5⟩, HSet.out⟩
    · exact (hg6.block a (lt_of_block HH5.out) (by simp only [ne_eq, Option.some.injEq]; exact HA5.out.2.2)).trans HH5.out
    · exact HO5.out.kept hg6 (.inr HA5.out.2.1)
    · have := ownsMap_shrink hown6
      rwa [HSet.out.size] at this
  have T6 := T5.out.grown hg6 (fun z hz => by cases hz; exact .inl (by rw [hF5]; exact .inr (.inr rfl)))
  refine bodyPost_ret (v := .tuple #[.int .i64 x, .bool true]) (by simp only [results, Tryz.results320]; go_simp) rfl ⟨rfl, ?_, ?_⟩
  · rw [HFe.out]; exact A6
  · rw [HFe.out]; exact T6
end Go.Proofs.YtcjnchjmpkapmaaGreat
/- Package fold: New; Put of whatever number. -/
namespace Go.Proofs.YtcjnchjmpkapmaaGreat
open Go.ChangeShapes Go.WideShapes Go.ChangeAt Go.RowKit Go.Maps
set_option linter.unusedVariables false
set_option linter.unusedSimpArgs false
set_option maxRecDepth 100000

def AgPutPost (w : World) (a b : Nat) (L : List Int) (F : Nat → Prop) (e : Ending) (w' : World) : Prop := ∃ (t : Bool) (F' : Nat → Prop), e = .returned (.bool t) ∧ AgAt w' a b L F' ∧ Turn F w w' ∧ Grow w F F'
theorem ag_Put (w : World) (a b : Nat) (L : List Int) (F : Nat → Prop) (h : AgAt w a b L F) (id : Int) (h2 : id ≤ 9223372036854775807) (hL : ∀ x ∈ L, 1 ≤ x ∧ x ≤ 9223372036854775807) (hlen : L.length ≤ 1000000000000) :
    Calls Tryz.prog 322 #[.pointer (some ⟨a, 0, none⟩), .int .i64 id] w (AgPutPost w a b (putW L id) F) := by
  by_cases h1 : id < 1
  · have e : putW L id = L := by unfold putW; rw [if_pos (.inl h1)]
    rw [e]
    refine (ag_Put_no w a id h1).mono ?_
    rintro e w' ⟨rfl, hb⟩
    exact ⟨false, F, rfl, h.below hb, .of_below hb, Grow.refl⟩
  · by_cases hid : id ∈ L
    · have e : putW L id = L := by unfold putW; rw [if_pos (.inr hid)]
      rw [e]
      refine (ag_Put_in w a b L F h id hid (by omega) h2).mono ?_
      rintro e w' ⟨rfl, hb⟩
      exact ⟨false, F, rfl, h.below hb, .of_below hb, Grow.refl⟩
    · have e : putW L id = putH L id := by unfold putW; rw [if_neg (by rintro (h | h); exact h1 h; exact hid h)]
      rw [e]
      refine (ag_Put_new w a b L F h id hid (by omega) h2 hL hlen).mono ?_
      rintro e w' ⟨F', rfl, ha, ht, hg⟩
      exact ⟨true, F', rfl, ha, ht, hg⟩
def putAll (ids : List Int) : List Int := ids.foldl putW []
theorem putAll_snoc {ids : List Int} {q : Nat} (h : q < ids.length) : putAll (ids.take (q + 1)) = putW (putAll (ids.take q)) ids[q] := by
  unfold putAll
  rw [List.take_succ_eq_append_getElem h, List.foldl_append]; rfl
theorem foldW_len (ids : List Int) : ∀ L : List Int, (ids.foldl putW L).length ≤ L.length + ids.length := by
  induction ids with
  | nil => intro L; simp
  | cons x ids ih =>
    intro L
    have h1 := ih (putW L x)
    have h2 := putW_len L x
    simp only [List.foldl_cons, List.length_cons]
    omega
theorem putAll_len (ids : List Int) : (putAll ids).length ≤ ids.length := by
  have := foldW_len ids []
  simpa [putAll] using this
theorem foldW_mem (ids : List Int) : ∀ (L : List Int) (z : Int), z ∈ ids.foldl putW L ↔ z ∈ L ∨ (1 ≤ z ∧ z ∈ ids) := by
  induction ids with
  | nil => intro L z; simp
  | cons x ids ih =>
    intro L z
    rw [List.foldl_cons, ih, putW_mem, List.mem_cons]
    constructor
    · rintro ((h | ⟨h1, rfl⟩) | ⟨h1, h2⟩)
      · exact .inl h
      · exact .inr ⟨h1, .inl rfl⟩
      · exact .inr ⟨h1, .inr h2⟩
    · rintro (h | ⟨h1, h2 | h2⟩)
      · exact .inl (.inl h)
      · exact .inl (.inr ⟨h2 ▸ h1, h2⟩)
      · exact .inr ⟨h1, h2⟩
theorem putAll_mem (ids : List Int) (z : Int) : z ∈ putAll ids ↔ 1 ≤ z ∧ z ∈ ids := by
  unfold putAll; rw [foldW_mem]; simp
theorem foldW_wait (ids : List Int) : ∀ L : List Int, WaitL L → WaitL (ids.foldl putW L) := by
  induction ids with
  | nil => intro L h; exact h
  | cons x ids ih => intro L h; exact ih _ (h.put x)
theorem putAll_wait (ids : List Int) : WaitL (putAll ids) := foldW_wait ids [] .nil
theorem putAll_vals {ids : List Int} (h : ∀ x ∈ ids, x ≤ 9223372036854775807) : ∀ x ∈ putAll ids, 1 ≤ x ∧ x ≤ 9223372036854775807 := fun x hx => ⟨((putAll_mem ids x).1 hx).1, h x ((putAll_mem ids x).1 hx).2⟩
def AgNewPost (w : World) (L : List Int) (e : Ending) (w' : World) : Prop := ∃ (a b : Nat) (F : Nat → Prop), e = .returned (.pointer (some ⟨a, 0, none⟩)) ∧ AgAt w' a b L F ∧ (∀ x, F x → w.heap.size ≤ x) ∧ Below w.heap.size w w'
set_option maxHeartbeats 4000000 in
theorem fold_New (w : World) (A : Option Addr) (cap : Nat) (ids : List Int) (hS : Sl w w.heap.size encZ A ids) (hI : ∀ x ∈ ids, x ≤ 9223372036854775807) (hlen : ids.length ≤ 1000000000000) :
    Calls Tryz.prog 318 #[.slice A ids.length cap] w (AgNewPost w (putAll ids)) := by
  have hmm := @run_makeMap Tryz.prog
  have HS := Lib.hid hS
  have HI := Lib.hid hI
  clear hS hI
  go_enter Tryz.func318, Tryz.ntmps318
  have M0 := Lib.hid (World.ownsMap_made w Tryz.prog 3 (unitElem (H := Unit)))
  have al := fun (W : World) (o : Obj) => (Below.refl W.heap.size W).alloc (Nat.le_refl _) o
  have BW0 : Hid (Below w.heap.size w ((w.alloc (.map #[] 0)).alloc (.cells #[.slice none 0 0, .map (some w.heap.size)] 373))) := Lib.hid (by repeat (first | with_reducible exact Below.refl _ _ | with_reducible assumption | ((with_reducible refine Below.setCell ?_ ?_ _); rotate_left; · (first | omega | exact Nat.le_refl _ | (simp <;> omega))) | (with_reducible refine Below.allocW ?_ _) | (with_reducible refine Below.drew ?_) | (with_reducible refine Below.extW ?_ _)))
  have A0 : Hid (∃ F, AgAt ((w.alloc (.map #[] 0)).alloc (.cells #[.slice none 0 0, .map (some w.heap.size)] 373)) (w.heap.size + 1) w.heap.size [] F ∧ ∀ x, F x → w.heap.size ≤ x) := Lib.hid ⟨_, ⟨.map [], ⟨.slice none 0 0, heap_new_at (w.alloc (.map #[] 0)) _ _ (by simp), .nil _ _ _ _, ownsMap_keep M0.out ((al (w.alloc (.map #[] 0)) _).block _ (by simp)), rfl⟩, ⟨fun z => by simp [Go.Maps.has], rfl⟩⟩, fun x hx => by
    rcases hx with rfl | hx | rfl
    · omega
    · cases hx
    · exact Nat.le_refl _⟩
  go_upto_region 2 with fail
  generalize (w.alloc (.map #[] 0)).alloc (.cells #[.slice none 0 0, .map (some w.heap.size)] 373) = W0 at BW0 A0 ⊢
  obtain ⟨F0, hA0, hF0⟩ := A0.out
  have HA0 := Lib.hid hA0
  have HF0 := Lib.hid hF0
  obtain ⟨ga, hga⟩ : ∃ ga, ga = w.heap.size + 1 := ⟨_, rfl⟩
  obtain ⟨gm, hgm⟩ : ∃ gm, gm = w.heap.size := ⟨_, rfl⟩
  rw [← hga, ← hgm] at HA0
  rw [← hga]
  clear A0 hA0 hF0 M0 al hga hgm
  go_wp2_with fail
  go_loopw [11] (fun j wr => ∃ (q : Nat) (F : Nat → Prop), q ≤ ids.length ∧ j = .int .i64 q ∧ AgAt wr ga gm (putAll (ids.take q)) F ∧ (∀ x, F x → w.heap.size ≤ x) ∧ Below w.heap.size w wr) (fun j _ => ids.length - (intOf j).toNat)
  case atStart => exact ⟨0, F0, Nat.zero_le _, rfl, HA0.out, HF0.out, BW0.out⟩
  case round =>
    obtain ⟨q, F, hq, rfl, hA, hF, hB⟩ := hrel
    have HA := Lib.hid hA
    have HF := Lib.hid hF
    have HB := Lib.hid hB
    clear hA hF HA0
    by_cases hlt : q < ids.length
    · have hqi : (q : Int) < (ids.length : Int) := by omega
      obtain ⟨b, off, rfl, hb, hc⟩ := HS.out.at_ hlt
      have d0 := (hB.cell (p := ⟨b, off + q, none⟩) hb).trans (by have := hc 0 (.int .i64 ids[q]) rfl; simpa using this)
      have lb : b < wr.heap.size := Nat.lt_of_lt_of_le hb hB.size
      have hx2 := HI.out _ (List.getElem_mem hlt)
      have HSn := Lib.hid (putAll_snoc hlt)
      have hle := putAll_len (ids.take q)
      rw [List.length_take] at hle
      have HPut := Lib.hid (fun W h => ag_Put W ga gm (putAll (ids.take q)) F h ids[q] hx2 (putAll_vals fun x hx => HI.out x (List.mem_of_mem_take hx)) (by omega))
      obtain ⟨x, hx⟩ : ∃ x, x = ids[q] := ⟨_, rfl⟩
      rw [← hx] at d0 HPut HSn
      clear hc hx hx2 hle hB
      go_wp2_with fail
      refine (HPut.out _ HA.out).mono ?_
      rintro e w3 ⟨t, F', rfl, hA3, hT3, hG3⟩
      have N3 : Hid (AgAt w3 ga gm (putW (putAll (ids.take q)) x) F' ∧ (∀ x, F' x → w.heap.size ≤ x) ∧ Below w.heap.size w w3) := Lib.hid ⟨hA3, fun y hy => by
        rcases hG3 y hy with h | h
        · exact HF.out y h
        · exact Nat.le_trans HB.out.size h, HB.out.trans (hT3.below HF.out HB.out.size)⟩
      clear hA3 hT3 hG3
      go_wp2_with fail
      go_roundw
      case rel => exact ⟨q + 1, F', by omega, by go_num, by rw [HSn.out]; exact N3.out.1, N3.out.2.1, N3.out.2.2⟩
      case measure => simp [intOf]; omega
    · obtain rfl : q = ids.length := by omega
      have hqi : decide ((ids.length : Int) < (ids.length : Int)) = false := by simp
      rw [List.take_length] at HA
      go_wp2_with fail
      go_ret
      exact ⟨ga, gm, F, rfl, HA.out, HF.out, HB.out⟩
end Go.Proofs.YtcjnchjmpkapmaaGreat
/- Appends inside a fence; what a round keeps. -/
namespace Go.Proofs.YtcjnchjmpkapmaaGreat
open Go.ChangeShapes Go.WideShapes Go.ChangeAt Go.RowKit
set_option linter.unusedVariables false

section
variable {α : Type} {P : Program} {t e : TypeId} {size bytes : Nat} {z : Value} {F : Fence} {n : Nat}
theorem wpListIn_app {w : World} {ops : Array Oper} {rest : List Oper} {o : Oper} {a : Act} {Q : Exit → Act → World → Prop} (T : SliceTy P t e size bytes z) (hgd : o.guard = none) (s x : Operand)
    (ho : o.op = .call { callee := .builtin .append, args := #[s, x], argTypes := #[t, t] }) (E : Enc α size) (base : Nat) (v : Value) (l : List α) (hs : a.eval s = v) (hown : Own w base e E v l)
    (A : Option Addr) (c : Nat) (l2 : List α) (B : Nat) (hx : a.eval x = .slice A l2.length c) (hsrc : Sl w B E A l2) (hn : (l.length + l2.length) * bytes ≤ 140737488355328) (hm : l.length + l2.length ≤ maxLen) (hbase : base ≤ w.heap.size)
    (h : ∀ v' w', Own w' base e E v' (l ++ l2) → w.grownBy w' v.ownBlock → (v'.ownBlock = v.ownBlock ∨ v'.ownBlock = some w.heap.size) → Below base w w' → (l2 ≠ [] → v' ≠ .slice none 0 0) →
      wpListIn F n P ops Q rest (a.put o.dst v') w') : wpListIn F n P ops Q (o :: rest) a w := by
  refine wpListIn_plain hgd fun K hK => ?_
  obtain ⟨v', w', hr, h2, h3, h4, h5⟩ := app_run T o.type w base v l hown A c l2 B hsrc hn hm hbase
  unfold Oper.wpIn
  refine ⟨?_, ?_⟩
  · simp [Oper.about, ho, resolve, Target.leads, Sem.run_pure]
  · rw [Oper.semAt_plain F _ _ (by rw [ho]; intro c hc'; cases hc')]
    simp only [execOp, ho, resolve, invoke, builtin, Sem.run_bind, Sem.run_pure, Result.andThen_ok, List.map_toArray, List.map_cons, List.map_nil, hs, hx, hr]
    exact hK _ _ (h v' w' h2 h3 h4 ((Below.refl base w).grown h3 hbase fun k hk => (hown.lt k hk).1) h5)
theorem wpListIn_push {w : World} {ops : Array Oper} {rest : List Oper} {o : Oper} {a : Act} {Q : Exit → Act → World → Prop} (T : SliceTy P t e size bytes z) (hgd : o.guard = none) (s x : Operand)
    (ho : o.op = .call { callee := .builtin .append, args := #[s, x], argTypes := #[t, t] }) (E : Enc α size) (W : World) (base : Nat) (v : Value) (l : List α) (hs : a.eval s = v) (hown : Own W base e E v l)
    (x0 : α) (hx : a.eval x = .slice (some ⟨W.heap.size, 0, none⟩) 1 1) (hw : w = W.alloc (.cells (E.enc x0).toArray e)) (hn : (l.length + 1) * bytes ≤ 140737488355328) (hm : l.length + 1 ≤ maxLen) (hbase : base ≤ W.heap.size)
    (h : ∀ v' w', Own w' base e E v' (l ++ [x0]) → W.grownBy w' v.ownBlock → W.heap.size < w'.heap.size → (v'.ownBlock = v.ownBlock ∨ v'.ownBlock = some (W.heap.size + 1)) → Below base W w' → v' ≠ .slice none 0 0 →
      wpListIn F n P ops Q rest (a.put o.dst v') w') : wpListIn F n P ops Q (o :: rest) a w := by
  subst hw
  have hsl := sl_lit W E [x0] e _ rfl
  simp only [List.flatMap_cons, List.flatMap_nil, List.append_nil] at hsl
  refine wpListIn_app T hgd s x ho E base v l hs (hown.alloc _) (some ⟨W.heap.size, 0, none⟩) 1 [x0] _ (by simpa using hx) hsl (by simpa using hn) (by simpa using hm) (by simp; omega) fun v' w' h2 h3 h4 h5 h6 => ?_
  have hs := h3.size
  simp at hs
  refine h v' w' h2 ⟨h3.os, h3.tape, h3.output, by omega, fun i hi hne => (h3.block i (by simp; omega) hne).trans (Below.heap_alloc W _ i hi)⟩ (by omega) ?_ ?_ (h6 (by simp))
  · rcases h4 with h4 | h4
    · exact .inl h4
    · right; rw [h4]; simp
  · exact ((Below.refl base W).alloc hbase _).trans h5
end

def KeepX (z : Nat) (X : Nat → Prop) (A B : World) : Prop := A.heap.size ≤ B.heap.size ∧ ∀ (b : Nat) (cs : Array Value) (t : TypeId) (fr : Nat × Nat), b < z → ¬ X b → A.heap[b]? = some (.cells cs t fr) → B.heap[b]? = some (.cells cs t fr)
section
variable {z : Nat} {X : Nat → Prop} {A B C : World}
theorem keepX_t (h : KeepX z X A B) (k : KeepX z X B C) : KeepX z X A C := ⟨Nat.le_trans h.1 k.1, fun b cs t fr hz hx hb => k.2 b cs t fr hz hx (h.2 b cs t fr hz hx hb)⟩
theorem keepX_b (W : World) (l : Nat) (o o' : Obj) (h : W.heap[l]? = some o) (hc : o.isCells = false) : KeepX z X W (W.putObj l o') := by
  refine ⟨(grownBy_putObj' W l o').size, fun b cs t fr _ _ hb => ?_⟩
  have hne : b ≠ l := by
    rintro rfl
    rw [h] at hb
    cases hb
    simp [Obj.isCells] at hc
  rw [World.putObj_heap_other hne]
  exact hb
theorem KeepX.refl (W : World) : KeepX z X W W := ⟨Nat.le_refl _, fun _ _ _ _ _ _ h => h⟩
theorem KeepX.of_below (h : Below A.heap.size A B) : KeepX z X A B := ⟨h.size, fun b cs t fr _ _ hb => (h.block b (lt_of_block hb)).trans hb⟩
theorem KeepX.set (h : KeepX z X A B) {p : Addr} (hp : X p.block ∨ z ≤ p.block) (u : Value) : KeepX z X A (B.setCell p u) :=
  keepX_t h ⟨by simp [World.setCell], fun b cs t fr hz hx hb => by
    rw [Below.heap_setCell _ _ _ _ (by
      rintro rfl
      rcases hp with hp | hp
      · exact hx hp
      · omega)]
    exact hb⟩
theorem KeepX.cell (h : KeepX z X A B) {b o : Nat} {v : Value} (hz : b < z) (hx : ¬ X b) (hc : A.cell? ⟨b, o, none⟩ = some v) : B.cell? ⟨b, o, none⟩ = some v := by
  obtain ⟨ob, h1, h2⟩ := cells_of_cell hc
  cases ob with
  | cells cs t fr => exact (World.cell?_of_block ((h.2 b cs t fr hz hx h1).trans h1.symm)).trans hc
  | _ => simp [Obj.isCells] at h2
theorem row_grown {row : Option Nat} {b : Nat} {cs : Array Value} {t : TypeId} {fr : Nat × Nat} (h : A.heap[b]? = some (.cells cs t fr)) (hg : A.grownBy B row) (hr : ∀ r, row = some r → ∃ o : Obj, A.heap[r]? = some o ∧ o.isCells = false) : B.heap[b]? = some (.cells cs t fr) :=
  (grownBy_keeps_cells hg hr h rfl).trans h
theorem own_grown {α : Type} {size base e : Nat} {E : Enc α size} {v : Value} {l : List α} {row : Option Nat} (h : Own A base e E v l) (hg : A.grownBy B row) (hr : ∀ r, row = some r → ∃ o : Obj, A.heap[r]? = some o ∧ o.isCells = false) : Own B base e E v l :=
  h.of_block fun g hv => by
    rcases h with ⟨rfl, _⟩ | ⟨g1, o1, c1, u1, rfl, _, hh1, _⟩
    · cases hv
    · have : g1 = g := by simpa [Value.ownBlock] using hv
      subst this
      exact grownBy_keeps_cells hg hr hh1 rfl
end
def SlX (w : World) (z : Nat) (X : Nat → Prop) (A : Option Addr) (es : List Int) : Prop := es = [] ∨ ∃ b off, A = some ⟨b, off, none⟩ ∧ b < z ∧ ¬ X b ∧ ∀ i x, es[i]? = some x → w.cell? ⟨b, off + i, none⟩ = some (.int .i64 x)
theorem SlX.keep {w w' : World} {z : Nat} {X : Nat → Prop} {A : Option Addr} {es : List Int} (h : SlX w z X A es) (k : KeepX z X w w') : SlX w' z X A es := by
  rcases h with h | ⟨b, off, rfl, hz, hx, hc⟩
  · exact .inl h
  · exact .inr ⟨b, off, rfl, hz, hx, fun i x hi => k.cell hz hx (hc i x hi)⟩
theorem SlX.below {w w' : World} {z : Nat} {X : Nat → Prop} {A : Option Addr} {es : List Int} (h : SlX w z X A es) (hb : Below z w w') : SlX w' z X A es := by
  rcases h with h | ⟨b, off, rfl, hz, hx, hc⟩
  · exact .inl h
  · exact .inr ⟨b, off, rfl, hz, hx, fun i x hi => (hb.cell (p := ⟨b, off + i, none⟩) hz).trans (hc i x hi)⟩
theorem SlX.of {w : World} {B z : Nat} {X : Nat → Prop} {A : Option Addr} {es : List Int} (h : Sl w B encZ A es) (hB : B ≤ z) (hX : ∀ b, b < B → ¬ X b) : SlX w z X A es := by
  rcases h with h | ⟨b, off, rfl, hb, hc⟩
  · exact .inl h
  · refine .inr ⟨b, off, rfl, by omega, hX b hb, fun i x hi => ?_⟩
    have := hc i x hi 0 (.int .i64 x) rfl
    simpa using this
theorem SlX.at_ {w : World} {z : Nat} {X : Nat → Prop} {A : Option Addr} {es : List Int} (h : SlX w z X A es) {i : Nat} (hi : i < es.length) : ∃ b off, A = some ⟨b, off, none⟩ ∧ b < z ∧ w.cell? ⟨b, off + i, none⟩ = some (.int .i64 es[i]) := by
  rcases h with h | ⟨b, off, rfl, hz, hx, hc⟩
  · subst h; simp at hi
  · exact ⟨b, off, rfl, hz, hc i _ (List.getElem?_eq_getElem hi)⟩
end Go.Proofs.YtcjnchjmpkapmaaGreat
