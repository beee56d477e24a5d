/-
  Texts of this proof, one behind the other: AgendaLaw, HeapLaw, FoldLaw, RunLaw, ProbeDel, Dense3, Probe4, Pool3, Probe5, Pool4, FoldW, Agenda, AgPut, AgPop, AgNew, MemIn, Parents, First, Press, BagLaw, Leaf, AddB.
-/
import Derived.BigRegion
import Derived.Deep.DeepCutAuto
import Derived.Maps.OwnSet
import Derived.Carry
import Derived.BigQuiet
import Derived.OwnWalkIn
import Derived.Deep.LoopGhost
import Derived.Laws.BitsLemmas
import Derived.Test.YtgjaopfjffncbaaGreatP1
import Derived.Test.YtgjaopfjffncbaaGreatP2
import Derived.Test.YtgjaopfjffncbaaGreatP3
/- The agenda's heap: what its calls make of it; what it holds. Plain laws. -/
set_option linter.unusedSimpArgs false namespace Go.Proofs.YtgjaopfjffncbaaGreat
open Go.ChangeShapes Go.WideShapes Go.ChangeAt Go.RowKit
set_option linter.unusedVariables false

/-- Stands a node ahead of another one? The deeper one does, of one depth the lesser one. -/
def aheadI (a b : Int) : Bool := if a.toNat.log2 ≠ b.toNat.log2 then decide (b.toNat.log2 < a.toNat.log2) else decide (a < b)
/-- Two places changed about. -/
def swapL (L : List Int) (i j : Nat) : List Int := (L.set i (L.getD j 0)).set j (L.getD i 0)
theorem swapL_len (L : List Int) (i j : Nat) : (swapL L i j).length = L.length := by simp [swapL]
theorem swapL_perm {L : List Int} {i j : Nat} (hi : i < L.length) (hj : j < L.length) : (swapL L i j).Perm L := by
  rw [List.perm_iff_count]
  intro a
  unfold swapL
  have e1 : L.getD j 0 = L[j] := by simp [hj]
  have e2 : L.getD i 0 = L[i] := by simp [hi]
  rw [e1, e2]
  by_cases hij : i = j
  · subst hij; simp
  · rw [List.count_set (by simpa using hj), List.count_set hi]
    have e3 : (L.set i L[j])[j]'(by simpa using hj) = L[j] := by rw [List.getElem_set_ne hij]
    rw [e3]
    have c1 : L[i] = a → 0 < List.count a L := fun h => List.count_pos_iff.2 (h ▸ List.getElem_mem hi)
    have c2 : L[j] = a → 0 < List.count a L := fun h => List.count_pos_iff.2 (h ▸ List.getElem_mem hj)
    by_cases h1 : L[i] = a <;> by_cases h2 : L[j] = a <;> simp [h1, h2] <;> (have := c1; have := c2; simp_all)
/-- Up to its place. -/
def upH : Nat → List Int → Nat → List Int
  | 0, L, _ => L
  | n + 1, L, i => if 0 < i ∧ aheadI (L.getD i 0) (L.getD ((i - 1) / 2) 0) = true then upH n (swapL L i ((i - 1) / 2)) ((i - 1) / 2) else L
theorem upH_perm : ∀ (n : Nat) (L : List Int) (i : Nat), i < L.length → (upH n L i).Perm L := by
  intro n
  induction n with
  | zero => intro L i _; exact .refl _
  | succ n ih =>
    intro L i hi
    simp only [upH]
    split
    · exact (ih _ _ (by rw [swapL_len]; omega)).trans (swapL_perm hi (by omega))
    · exact .refl _
/-- The first of two places. -/
def stepH (L : List Int) (a k : Nat) : Nat := if k < L.length ∧ aheadI (L.getD k 0) (L.getD a 0) = true then k else a
theorem stepH_or (L : List Int) (a k : Nat) : stepH L a k = a ∨ (stepH L a k = k ∧ k < L.length) := by
  unfold stepH
  split
  · rename_i h; exact .inr ⟨rfl, h.1⟩
  · exact .inl rfl
/-- The first of three places. -/
def firstH (L : List Int) (i : Nat) : Nat := stepH L (stepH L i (2 * i + 1)) (2 * i + 2)
theorem firstH_le (L : List Int) (i : Nat) : i ≤ firstH L i := by
  unfold firstH
  rcases stepH_or L i (2 * i + 1) with h | h <;> rcases stepH_or L (stepH L i (2 * i + 1)) (2 * i + 2) with g | g <;> omega
theorem firstH_lt {L : List Int} {i : Nat} (h : i < L.length) : firstH L i < L.length := by
  unfold firstH
  rcases stepH_or L i (2 * i + 1) with h | h <;> rcases stepH_or L (stepH L i (2 * i + 1)) (2 * i + 2) with g | g <;> omega
/-- Down to its place. -/
def downH : Nat → List Int → Nat → List Int
  | 0, L, _ => L
  | n + 1, L, i => if firstH L i = i then L else downH n (swapL L i (firstH L i)) (firstH L i)
theorem downH_perm : ∀ (n : Nat) (L : List Int) (i : Nat), i < L.length → (downH n L i).Perm L := by
  intro n
  induction n with
  | zero => intro L i _; exact .refl _
  | succ n ih =>
    intro L i hi
    simp only [downH]
    split
    · exact .refl _
    · have := firstH_lt hi
      exact (ih _ _ (by rw [swapL_len]; exact this)).trans (swapL_perm hi this)
/-- One more waits. -/
def putH (L : List Int) (id : Int) : List Int := upH L.length (L ++ [id]) L.length
theorem putH_perm (L : List Int) (id : Int) : (putH L id).Perm (id :: L) :=
  (upH_perm _ _ _ (by simp)).trans (List.perm_append_comm (l₁ := L) (l₂ := [id]))
/-- The first one is taken. -/
def popH : List Int → List Int
  | [] => []
  | x :: L => downH L.length ((x :: L).set 0 ((x :: L).getD L.length 0) |>.take L.length) 0
theorem popH_perm (x : Int) (L : List Int) : (popH (x :: L)).Perm L := by
  unfold popH
  cases L with
  | nil => simp [downH]
  | cons y L =>
    refine (downH_perm _ _ _ (by simp)).trans ?_
    have e : ((x :: y :: L).set 0 ((x :: y :: L).getD (y :: L).length 0)).take (y :: L).length = ((y :: L).getLast (by simp)) :: (y :: L).dropLast := by
      rw [List.set_cons_zero, List.length_cons, List.take_succ_cons, List.dropLast_eq_take, List.getLast_eq_getElem]
      congr 1
      simp
    rw [e]
    have h := List.dropLast_concat_getLast (l := y :: L) (by simp)
    conv => rhs; rw [← h]
    exact (List.perm_append_comm (l₁ := [(y :: L).getLast (by simp)]) (l₂ := (y :: L).dropLast)).symm.symm
end Go.Proofs.YtgjaopfjffncbaaGreat
/- The agenda's heap: the first one stands first. Plain laws. -/
namespace Go.Proofs.YtgjaopfjffncbaaGreat
open Go.ChangeShapes Go.WideShapes Go.ChangeAt Go.RowKit
set_option linter.unusedVariables false

/-- A node stands not behind another one. -/
def leA (a b : Int) : Prop := aheadI b a = false
theorem ahead_iff (a b : Int) : aheadI a b = true ↔ b.toNat.log2 < a.toNat.log2 ∨ (a.toNat.log2 = b.toNat.log2 ∧ a < b) := by
  unfold aheadI
  split
  · rename_i h; simp only [decide_eq_true_eq]; omega
  · rename_i h; simp only [decide_eq_true_eq]; omega
theorem leA_iff (a b : Int) : leA a b ↔ b.toNat.log2 < a.toNat.log2 ∨ (a.toNat.log2 = b.toNat.log2 ∧ a ≤ b) := by
  unfold leA
  rw [← Bool.not_eq_true, ahead_iff]
  omega
theorem leA_refl (a : Int) : leA a a := (leA_iff a a).2 (by omega)
theorem leA_trans {a b c : Int} (h : leA a b) (k : leA b c) : leA a c := by
  rw [leA_iff] at *
  omega
theorem leA_of {a b : Int} (h : aheadI a b = true) : leA a b := by
  rw [ahead_iff] at h
  rw [leA_iff]
  omega
theorem leA_anti {a b : Int} (h : leA a b) (k : leA b a) : a = b := by
  rw [leA_iff] at *
  omega
/-- Each stands not ahead of the one above it. -/
def HeapO (L : List Int) : Prop := ∀ j : Nat, 0 < j → j < L.length → leA (L.getD ((j - 1) / 2) 0) (L.getD j 0)
theorem swapL_get {L : List Int} {i j : Nat} (hi : i < L.length) (hj : j < L.length) (k : Nat) : (swapL L i j).getD k 0 = if k = j then L.getD i 0 else if k = i then L.getD j 0 else L.getD k 0 := by
  unfold swapL
  simp only [List.getD_eq_getElem?_getD, List.getElem?_set, List.length_set]
  by_cases h1 : k = j
  · subst h1; simp [hj]
  · rw [if_neg h1, if_neg (fun e => h1 e.symm)]
    by_cases h2 : k = i
    · subst h2; simp [hi]
    · rw [if_neg h2, if_neg (fun e => h2 e.symm)]
/-- All but place i stand as they should. -/
structure UpO (L : List Int) (i : Nat) : Prop where
  ok : ∀ j : Nat, 0 < j → j < L.length → j ≠ i → leA (L.getD ((j - 1) / 2) 0) (L.getD j 0)
  kid : 0 < i → ∀ j : Nat, 0 < j → j < L.length → (j - 1) / 2 = i → leA (L.getD ((i - 1) / 2) 0) (L.getD j 0)
theorem upH_heap : ∀ (n : Nat) (L : List Int) (i : Nat), i < L.length → i ≤ n → UpO L i → HeapO (upH n L i) := by
  intro n
  induction n with
  | zero =>
    intro L i hi hn h j h0 hj
    simp only [upH] at hj ⊢
    exact h.ok j h0 hj (by omega)
  | succ n ih =>
    intro L i hi hn h
    simp only [upH]
    split
    · rename_i hs
      obtain ⟨hi0, ha⟩ := hs
      obtain ⟨p, hp⟩ : ∃ p, p = (i - 1) / 2 := ⟨_, rfl⟩
      rw [← hp] at ha ⊢
      have hpi : p < i := by omega
      have hpl : p < L.length := by omega
      have hle := leA_of ha
      refine ih _ _ (by rw [swapL_len]; exact hpl) (by omega) ⟨?_, ?_⟩
      · intro j h0 hj hne
        rw [swapL_len] at hj
        rw [swapL_get hi hpl, swapL_get hi hpl]
        by_cases hji : j = i
        · subst hji
          rw [← hp, if_pos rfl, if_neg (by omega), if_pos rfl]
          exact hle
        · rw [if_neg hne, if_neg hji]
          by_cases hqp : (j - 1) / 2 = p
          · rw [if_pos hqp]
            have := h.ok j h0 hj hji
            rw [hqp] at this
            exact leA_trans hle this
          · rw [if_neg hqp]
            by_cases hqi : (j - 1) / 2 = i
            · rw [if_pos hqi]
              have := h.kid hi0 j h0 hj hqi
              rw [← hp] at this
              exact this
            · rw [if_neg hqi]
              exact h.ok j h0 hj hji
      · intro hp0 j h0 hj hjp
        rw [swapL_len] at hj
        rw [swapL_get hi hpl, swapL_get hi hpl]
        rw [if_neg (by omega : ¬ (p - 1) / 2 = p), if_neg (by omega : ¬ (p - 1) / 2 = i), if_neg (by omega : ¬ j = p)]
        have k1 := h.ok p hp0 hpl (by omega)
        by_cases hji : j = i
        · rw [if_pos hji]
          exact k1
        · rw [if_neg hji]
          have k2 := h.ok j h0 hj hji
          rw [hjp] at k2
          exact leA_trans k1 k2
    · rename_i hs
      intro j h0 hj
      by_cases hji : j = i
      · subst hji
        have : aheadI (L.getD j 0) (L.getD ((j - 1) / 2) 0) = false := by
          rw [← Bool.not_eq_true]
          exact fun ha => hs ⟨h0, ha⟩
        exact this
      · exact h.ok j h0 hj hji
theorem getD_append {L : List Int} {x : Int} {j : Nat} (h : j < L.length) : (L ++ [x]).getD j 0 = L.getD j 0 := by
  simp only [List.getD_eq_getElem?_getD]
  rw [List.getElem?_append_left h]
theorem putH_heap {L : List Int} (h : HeapO L) (id : Int) : HeapO (putH L id) := by
  refine upH_heap _ _ _ (by simp) (Nat.le_refl _) ⟨?_, ?_⟩
  · intro j h0 hj hne
    simp only [List.length_append, List.length_cons, List.length_nil] at hj
    rw [getD_append (by omega), getD_append (by omega)]
    exact h j h0 (by omega)
  · intro _ j h0 hj hjp
    simp only [List.length_append, List.length_cons, List.length_nil] at hj
    omega
/-- All below place i stand as they should, but for it. -/
structure DownO (L : List Int) (i : Nat) : Prop where
  ok : ∀ j : Nat, 0 < j → j < L.length → (j - 1) / 2 ≠ i → leA (L.getD ((j - 1) / 2) 0) (L.getD j 0)
  kid : 0 < i → ∀ j : Nat, 0 < j → j < L.length → (j - 1) / 2 = i → leA (L.getD ((i - 1) / 2) 0) (L.getD j 0)
theorem stepH_le (L : List Int) (a k : Nat) : leA (L.getD (stepH L a k) 0) (L.getD a 0) ∧ (k < L.length → leA (L.getD (stepH L a k) 0) (L.getD k 0)) := by
  unfold stepH
  split
  · rename_i h
    exact ⟨leA_of h.2, fun _ => leA_refl _⟩
  · rename_i h
    refine ⟨leA_refl _, fun hk => ?_⟩
    have : aheadI (L.getD k 0) (L.getD a 0) = false := by
      rw [← Bool.not_eq_true]
      exact fun ha => h ⟨hk, ha⟩
    exact this
theorem firstH_min (L : List Int) (i : Nat) : leA (L.getD (firstH L i) 0) (L.getD i 0) ∧ ∀ j : Nat, 0 < j → j < L.length → (j - 1) / 2 = i → leA (L.getD (firstH L i) 0) (L.getD j 0) := by
  unfold firstH
  obtain ⟨a1, a2⟩ := stepH_le L i (2 * i + 1)
  obtain ⟨b1, b2⟩ := stepH_le L (stepH L i (2 * i + 1)) (2 * i + 2)
  refine ⟨leA_trans b1 a1, fun j h0 hj hp => ?_⟩
  rcases (by omega : j = 2 * i + 1 ∨ j = 2 * i + 2) with e | e
  · rw [e] at hj ⊢
    exact leA_trans b1 (a2 hj)
  · rw [e] at hj ⊢
    exact b2 hj
theorem firstH_or (L : List Int) (i : Nat) : firstH L i = i ∨ firstH L i = 2 * i + 1 ∨ firstH L i = 2 * i + 2 := by
  unfold firstH
  rcases stepH_or L i (2 * i + 1) with h | h <;> rcases stepH_or L (stepH L i (2 * i + 1)) (2 * i + 2) with g | g <;> omega
theorem downH_heap : ∀ (n : Nat) (L : List Int) (i : Nat), i < L.length → L.length ≤ n + i → DownO L i → HeapO (downH n L i) := by
  intro n
  induction n with
  | zero => intro L i hi hn h; omega
  | succ n ih =>
    intro L i hi hn h
    simp only [downH]
    obtain ⟨m1, m2⟩ := firstH_min L i
    have hf := firstH_lt hi
    split
    · rename_i he
      intro j h0 hj
      by_cases hp : (j - 1) / 2 = i
      · rw [he] at m2
        rw [hp]
        exact m2 j h0 hj hp
      · exact h.ok j h0 hj hp
    · rename_i hne
      have hor := firstH_or L i
      generalize firstH L i = f at *
      have hfi : (f - 1) / 2 = i := by omega
      refine ih _ _ (by rw [swapL_len]; exact hf) (by rw [swapL_len]; omega) ⟨?_, ?_⟩
      · intro j h0 hj hp
        rw [swapL_len] at hj
        rw [swapL_get hi hf, swapL_get hi hf]
        rw [if_neg hp]
        by_cases hjf : j = f
        · rw [if_pos hjf, hjf, hfi, if_pos rfl]
          exact m1
        · rw [if_neg hjf]
          by_cases hqi : (j - 1) / 2 = i
          · rw [if_pos hqi, if_neg (by omega)]
            exact m2 j h0 hj hqi
          · rw [if_neg hqi]
            by_cases hji : j = i
            · rw [if_pos hji, hji]
              exact h.kid (by omega) f (by omega) hf hfi
            · rw [if_neg hji]
              exact h.ok j h0 hj hqi
      · intro _ j h0 hj hjp
        rw [swapL_len] at hj
        rw [swapL_get hi hf, swapL_get hi hf, hfi]
        rw [if_neg (by omega : ¬ i = f), if_pos rfl, if_neg (by omega : ¬ j = f), if_neg (by omega : ¬ j = i)]
        have := h.ok j h0 hj (by omega)
        rw [hjp] at this
        exact this
theorem popH_heap {x : Int} {L : List Int} (h : HeapO (x :: L)) : HeapO (popH (x :: L)) := by
  unfold popH
  by_cases h0 : L.length = 0
  · have : L = [] := List.length_eq_zero_iff.1 h0
    subst this
    intro j h1 h2
    simp [downH] at h2
  · have e : ∀ j : Nat, 0 < j → j < L.length → (((x :: L).set 0 ((x :: L).getD L.length 0)).take L.length).getD j 0 = (x :: L).getD j 0 := by
      intro j h1 h2
      simp only [List.getD_eq_getElem?_getD, List.getElem?_take, List.getElem?_set]
      rw [if_pos h2, if_neg (by omega)]
    have hl : (((x :: L).set 0 ((x :: L).getD L.length 0)).take L.length).length = L.length := by
      rw [List.length_take, List.length_set, List.length_cons]
      omega
    refine downH_heap _ _ _ (by rw [hl]; omega) (by rw [hl]; omega) ⟨?_, fun h => by omega⟩
    intro j h1 h2 h3
    rw [hl] at h2
    rw [e j h1 h2, e _ (by omega) (by omega)]
    exact h j h1 (by rw [List.length_cons]; omega)
theorem heap_first {L : List Int} (h : HeapO L) : ∀ j : Nat, j < L.length → leA (L.getD 0 0) (L.getD j 0) := by
  intro j
  induction j using Nat.strongRecOn with
  | ind j ih =>
    intro hj
    by_cases h0 : j = 0
    · subst h0; exact leA_refl _
    · exact leA_trans (ih ((j - 1) / 2) (by omega) (by omega)) (h j (by omega) hj)
theorem heap_head {x : Int} {L : List Int} (h : HeapO (x :: L)) : ∀ y ∈ x :: L, leA x y := by
  intro y hy
  obtain ⟨j, hj, rfl⟩ := List.mem_iff_getElem.1 hy
  have := heap_first h j hj
  simp only [List.getD_eq_getElem?_getD] at this
  rw [List.getElem?_eq_getElem hj] at this
  simpa using this
theorem heap_nil : HeapO [] := fun j _ hj => by simp at hj
end Go.Proofs.YtgjaopfjffncbaaGreat
/- Folds: what they make of a roll. Plain laws. -/
namespace Go.Proofs.YtgjaopfjffncbaaGreat
open Go.ChangeShapes Go.WideShapes Go.ChangeAt Go.RowKit
set_option linter.unusedVariables false

/-- A parent's children. -/
def pairR (r : List Nd) (p : Int) : Int := getR r (2 * p) + getR r (2 * p + 1)
/-- Behind a fold. -/
def foldR (r : List Nd) (p : Int) : List Nd := addR (delR (delR r (2 * p)) (2 * p + 1)) p (pairR r p)
/-- May a pair be folded? -/
def readyR (l : Nat) (r : List Nd) (p most : Int) : Bool := (kidsOf l p).2.2 && decide (0 < pairR r p ∧ pairR r p + getR r p ≤ most)
theorem ready_iff {l : Nat} {r : List Nd} {p most : Int} : readyR l r p most = true ↔ (kidsOf l p).2.2 = true ∧ 0 < pairR r p ∧ pairR r p + getR r p ≤ most := by
  simp [readyR]
theorem kids_iff {l : Nat} {p : Int} : (kidsOf l p).2.2 = true ↔ isNode l p = true ∧ p < 2 ^ l := by
  unfold kidsOf
  simp only [Int.toNat_natCast]
  by_cases h : isNode l p = true ∧ p < 2 ^ l
  · rw [if_pos h]; simp [h]
  · rw [if_neg h]; simp; intro h1; exact Int.not_lt.1 fun h2 => h ⟨h1, h2⟩
theorem kids_node {l : Nat} {p : Int} (h : isNode l p = true) (h2 : p < 2 ^ l) : p.toNat.log2 < l := by
  have h1 : 1 ≤ p := by simp only [isNode, decide_eq_true_eq] at h; omega
  obtain ⟨n, rfl⟩ := Int.eq_ofNat_of_zero_le (show 0 ≤ p by omega)
  rw [Int.toNat_natCast]
  refine (Nat.log2_lt (by omega)).2 ?_
  have : ((2 ^ l : Nat) : Int) = 2 ^ l := by simp
  omega
theorem getR_fold {r : List Nd} (hr : Roll r) {p : Int} (hp : 1 ≤ p) (id : Int) : getR (foldR r p) id = if id = p then getR r p + getR r (2 * p) + getR r (2 * p + 1) else if id = 2 * p ∨ id = 2 * p + 1 then 0 else getR r id := by
  unfold foldR
  rw [getR_add ((hr.del _).del _), getR_del (hr.del _), getR_del (hr.del _), getR_del hr, getR_del hr]
  by_cases h1 : id = p
  · rw [if_pos h1, if_pos h1, if_neg (by omega), if_neg (by omega)]; unfold pairR; omega
  · rw [if_neg h1, if_neg h1]
    by_cases h2 : id = 2 * p + 1
    · rw [if_pos h2, if_pos (.inr h2)]
    · rw [if_neg h2]
      by_cases h3 : id = 2 * p
      · rw [if_pos h3, if_pos (.inl h3)]
      · rw [if_neg h3, if_neg (by omega)]
theorem foldR_roll {r : List Nd} (hr : Roll r) {p : Int} (hp : 1 ≤ p) (h : 0 < pairR r p) : Roll (foldR r p) := ((hr.del _).del _).add hp (by omega)
theorem foldR_sum {r : List Nd} (hr : Roll r) {p : Int} : sumR (foldR r p) = sumR r := by
  unfold foldR
  rw [sumR_add, sumR_del (hr.del _), sumR_del hr, getR_del hr, if_neg (by omega)]
  unfold pairR; omega
theorem delR_len {r : List Nd} (id : Int) : (delR r id).length ≤ r.length ∧ (getR r id ≠ 0 → (delR r id).length + 1 = r.length) := by
  induction r with
  | nil => simp [delR, getR]
  | cons x r ih =>
    simp only [delR, getR]
    split
    · simp
    · simp only [List.length_cons]
      exact ⟨by omega, fun h => by have := ih.2 h; omega⟩
theorem foldR_len {r : List Nd} (hr : Roll r) {p : Int} (hp : 1 ≤ p) (h : 0 < pairR r p) : (foldR r p).length ≤ r.length := by
  have h1 := delR_len (r := r) (2 * p)
  have h2 := delR_len (r := delR r (2 * p)) (2 * p + 1)
  have h3 : getR (delR r (2 * p)) (2 * p + 1) = getR r (2 * p + 1) := by rw [getR_del hr, if_neg (by omega)]
  have h4 := len_add ((hr.del (2 * p)).del (2 * p + 1)) p (pairR r p)
  unfold foldR
  rw [h4]
  have : getR r (2 * p) ≠ 0 ∨ getR r (2 * p + 1) ≠ 0 := by unfold pairR at h; omega
  rcases this with g | g
  · have := h1.2 g; split <;> omega
  · have := h2.2 (by rw [h3]; exact g); split <;> omega
theorem foldR_fits {l : Nat} {r : List Nd} (hf : Fits l r) {p most : Int} (h : readyR l r p most = true) : Fits l (foldR r p) := by
  obtain ⟨h1, h2, h3⟩ := ready_iff.1 h
  obtain ⟨n1, n2⟩ := kids_iff.1 h1
  have hp := (isNode_lt n1).1
  refine ⟨foldR_roll hf.roll hp h2, fun x hx => ?_, by rw [foldR_sum hf.roll]; exact hf.sum⟩
  rcases addR_mem hx with e | hx
  · have := pow_pos' l; omega
  · exact hf.lt x (delR_sub (delR_sub hx))
theorem foldR_node {l : Nat} {r : List Nd} (hn : ∀ x ∈ r, isNode l x.1 = true) {p : Int} (hp : isNode l p = true) : ∀ x ∈ foldR r p, isNode l x.1 = true := by
  intro x hx
  rcases addR_mem hx with e | hx
  · rw [e]; exact hp
  · exact hn x (delR_sub (delR_sub hx))
theorem foldR_flow {l : Nat} {r q : List Nd} (h : Flow l r q) (hr : Roll r) {p most : Int} (hy : readyR l r p most = true) : Flow l (foldR r p) q := by
  obtain ⟨h1, h2, h3⟩ := ready_iff.1 hy
  obtain ⟨n1, n2⟩ := kids_iff.1 h1
  have hp := (isNode_lt n1).1
  obtain ⟨k1, k2, k3, k4, k5, k6, k7⟩ := node_kids n1 (kids_node n1 n2)
  have w1 := lo_hi k1
  have w2 := lo_hi k2
  unfold loN hiN at *
  refine h.fold n1 (a := 2 * p) (b := 2 * p + 1) (by omega) (by omega) (by omega) ⟨by omega, by omega⟩ ⟨by omega, by omega⟩ fun id => getR_fold hr hp id
theorem light_of {l : Nat} {r : List Nd} {k : Int} (h : ∀ x ∈ r, (kidsOf l x.1).2.2 = true → x.2 ≤ sumR r / k) : lightOf l r k = true := by
  unfold lightOf
  rw [Bool.not_eq_true', ← Bool.not_eq_true, List.any_eq_true]
  rintro ⟨x, hx, hh⟩
  simp only [heavy, Bool.and_eq_true, decide_eq_true_eq] at hh
  have := h x hx hh.1
  omega
theorem light_all {l : Nat} {r : List Nd} {k : Int} (h : lightOf l r k = true) : ∀ x ∈ r, (kidsOf l x.1).2.2 = true → x.2 ≤ sumR r / k := by
  intro x hx hk
  apply Classical.byContradiction
  intro hc
  have : r.any (heavy l (sumR r / k)) = true := List.any_eq_true.2 ⟨x, hx, by simp only [heavy, hk, Bool.true_and, decide_eq_true_eq]; omega⟩
  unfold lightOf at h
  rw [this] at h
  cases h
theorem foldR_light {l : Nat} {r : List Nd} (hr : Roll r) {k p : Int} (hl : lightOf l r k = true) (hy : readyR l r p (sumR r / k) = true) : lightOf l (foldR r p) k = true := by
  obtain ⟨h1, h2, h3⟩ := ready_iff.1 hy
  obtain ⟨n1, n2⟩ := kids_iff.1 h1
  have hp := (isNode_lt n1).1
  have hR := foldR_roll hr hp h2
  refine light_of fun x hx hk => ?_
  rw [foldR_sum hr]
  have e := getR_mem hR hx
  rw [getR_fold hr hp] at e
  have hpos := (hR.2 x hx).2
  split at e
  · unfold pairR at h3; omega
  · split at e
    · omega
    · have hm := getR_pos hr (id := x.1) (by omega)
      have := light_all hl _ hm hk
      simp only at this
      omega
theorem add_light {l : Nat} {r : List Nd} (hr : Roll r) {k x c : Int} (hk1 : 1 ≤ k) (hl : lightOf l r k = true) (hc : 1 ≤ c) (hleaf : (kidsOf l x).2.2 = false) : lightOf l (addR r x c) k = true := by
  have h0 := sumR_nonneg hr
  refine light_of fun y hy hk => ?_
  rw [sumR_add]
  have hx1 : y.1 ≠ x := by rintro rfl; rw [hleaf] at hk; cases hk
  have hm : y ∈ r := by
    rcases addR_mem hy with e | h
    · exact absurd e hx1
    · exact h
  have h1 := light_all hl y hm hk
  have h2 : sumR r / k ≤ (sumR r + c) / k := Int.ediv_le_ediv (by omega) (by omega)
  omega
/-- One fold behind the other. -/
inductive Folded (l : Nat) (most : Int) : List Nd → List Nd → Prop
  | refl (r) : Folded l most r r
  | step {r s} (p) : Folded l most r s → readyR l s p most = true → Folded l most r (foldR s p)
theorem Folded.fits {l : Nat} {most : Int} {r s : List Nd} (h : Folded l most r s) (hf : Fits l r) : Fits l s := by
  induction h with
  | refl => exact hf
  | step p _ hy ih => exact foldR_fits ih hy
theorem Folded.sum {l : Nat} {most : Int} {r s : List Nd} (h : Folded l most r s) (hf : Fits l r) : sumR s = sumR r := by
  induction h with
  | refl => rfl
  | step p h hy ih => rw [foldR_sum (h.fits hf).roll, ih]
theorem Folded.len {l : Nat} {most : Int} {r s : List Nd} (h : Folded l most r s) (hf : Fits l r) : s.length ≤ r.length := by
  induction h with
  | refl => exact Nat.le_refl _
  | step p h hy ih =>
    obtain ⟨h1, h2, h3⟩ := ready_iff.1 hy
    exact Nat.le_trans (foldR_len (h.fits hf).roll (isNode_lt (kids_iff.1 h1).1).1 h2) ih
theorem Folded.node {l : Nat} {most : Int} {r s : List Nd} (h : Folded l most r s) (hn : ∀ x ∈ r, isNode l x.1 = true) : ∀ x ∈ s, isNode l x.1 = true := by
  induction h with
  | refl => exact hn
  | step p h hy ih => exact foldR_node ih (kids_iff.1 (ready_iff.1 hy).1).1
theorem Folded.flow {l : Nat} {most : Int} {r s q : List Nd} (h : Folded l most r s) (hf : Fits l r) (hF : Flow l r q) : Flow l s q := by
  induction h with
  | refl => exact hF
  | step p h hy ih => exact foldR_flow ih (h.fits hf).roll hy
theorem Folded.light {l : Nat} {k : Int} {r s : List Nd} (h : Folded l (sumR r / k) r s) (hf : Fits l r) (hl : lightOf l r k = true) : lightOf l s k = true := by
  generalize hm : sumR r / k = most at h
  induction h with
  | refl => exact hl
  | step p h hy ih =>
    refine foldR_light (h.fits hf).roll ih ?_
    rw [h.sum hf, hm]; exact hy
theorem Folded.trans {l : Nat} {most : Int} {r s t : List Nd} (h : Folded l most r s) (k : Folded l most s t) : Folded l most r t := by
  induction k with
  | refl => exact h
  | step p _ hy ih => exact .step p ih hy
/-- How deep all nodes are, together: it falls with each fold. -/
def deepR (r : List Nd) : Nat := (r.map fun x => x.1.toNat.log2).sum
theorem deep_del {r : List Nd} (id : Int) (h : getR r id ≠ 0) : deepR (delR r id) + id.toNat.log2 = deepR r := by
  induction r with
  | nil => simp [getR] at h
  | cons x r ih =>
    simp only [getR] at h
    simp only [delR]
    split
    · rename_i he; subst he; simp [deepR]; omega
    · rename_i hne
      rw [if_neg hne] at h
      have := ih h
      simp only [deepR, List.map_cons, List.sum_cons] at this ⊢
      omega
theorem del_none {r : List Nd} (hr : Roll r) {id : Int} (h : getR r id = 0) : delR r id = r := by
  induction r with
  | nil => rfl
  | cons x r ih =>
    have hx := hr.2 x (by simp)
    simp only [getR] at h
    simp only [delR]
    split
    · rename_i he; rw [if_pos he] at h; omega
    · rename_i hne; rw [if_neg hne] at h; rw [ih hr.tail h]
theorem deep_add (r : List Nd) (id c : Int) : deepR (addR r id c) ≤ deepR r + id.toNat.log2 := by
  induction r with
  | nil => simp [addR, deepR]
  | cons x r ih =>
    simp only [addR]
    split
    · rename_i he; subst he; simp [deepR]
    · split
      · simp [deepR]; omega
      · simp only [deepR, List.map_cons, List.sum_cons] at ih ⊢; omega
theorem deep_fold {l : Nat} {r : List Nd} (hr : Roll r) {p most : Int} (hy : readyR l r p most = true) : deepR (foldR r p) + 1 ≤ deepR r := by
  obtain ⟨h1, h2, h3⟩ := ready_iff.1 hy
  obtain ⟨n1, n2⟩ := kids_iff.1 h1
  obtain ⟨k1, k2, k3, k4, k5, k6, k7⟩ := node_kids n1 (kids_node n1 n2)
  have a1 := deep_add (delR (delR r (2 * p)) (2 * p + 1)) p (pairR r p)
  have e1 : getR (delR r (2 * p)) (2 * p + 1) = getR r (2 * p + 1) := by rw [getR_del hr, if_neg (by omega)]
  unfold foldR
  unfold pairR at h2
  by_cases g1 : getR r (2 * p) = 0
  · rw [del_none hr g1] at a1 e1 ⊢
    have := deep_del (r := r) (2 * p + 1) (by omega)
    omega
  · have d1 := deep_del (2 * p) g1
    by_cases g2 : getR r (2 * p + 1) = 0
    · rw [del_none (hr.del _) (by rw [e1]; exact g2)] at a1 ⊢
      omega
    · have d2 := deep_del (r := delR r (2 * p)) (2 * p + 1) (by rw [e1]; exact g2)
      omega
end Go.Proofs.YtgjaopfjffncbaaGreat
/- Folding as far as it goes, the first that is ready first. Plain laws. -/
namespace Go.Proofs.YtgjaopfjffncbaaGreat
open Go.ChangeShapes Go.WideShapes Go.ChangeAt Go.RowKit
set_option linter.unusedVariables false

/-- The first that is ready. -/
def FirstIs (l : Nat) (most : Int) (r : List Nd) (p : Int) : Prop := readyR l r p most = true ∧ ∀ q, readyR l r q most = true → leA p q
theorem FirstIs.unique {l : Nat} {most : Int} {r : List Nd} {p q : Int} (h : FirstIs l most r p) (k : FirstIs l most r q) : p = q := leA_anti (h.2 q k.1) (k.2 p h.1)
/-- What folding comes to, and the parents that are folded. -/
inductive RunTo (l : Nat) (most : Int) : List Nd → List Int → List Nd → Prop
  | done {r : List Nd} (h : ∀ p, readyR l r p most = false) : RunTo l most r [] r
  | step {r s : List Nd} {p : Int} {ps : List Int} (h : FirstIs l most r p) (k : RunTo l most (foldR r p) ps s) : RunTo l most r (p :: ps) s
theorem RunTo.unique {l : Nat} {most : Int} {r s t : List Nd} {ps qs : List Int} (h : RunTo l most r ps s) : RunTo l most r qs t → ps = qs ∧ s = t := by
  induction h generalizing qs t with
  | done h =>
    intro k
    cases k with
    | done _ => exact ⟨rfl, rfl⟩
    | step k _ => have := k.1; rw [h] at this; cases this
  | step h _ ih =>
    intro k
    cases k with
    | done k => have := h.1; rw [k] at this; cases this
    | step k k2 =>
      obtain rfl := h.unique k
      obtain ⟨rfl, rfl⟩ := ih k2
      exact ⟨rfl, rfl⟩
theorem RunTo.folded {l : Nat} {most : Int} {r s : List Nd} {ps : List Int} (h : RunTo l most r ps s) : Folded l most r s := by
  induction h with
  | done _ => exact Folded.refl _
  | step h _ ih => exact (Folded.step _ (Folded.refl _) h.1).trans ih
theorem RunTo.tight {l : Nat} {most : Int} {r s : List Nd} {ps : List Int} (h : RunTo l most r ps s) : ∀ p, readyR l s p most = false := by
  induction h with
  | done h => exact h
  | step _ _ ih => exact ih
/-- One waits, unless it waits already, or is none. -/
def putW (L : List Int) (id : Int) : List Int := if id < 1 ∨ id ∈ L then L else putH L id
theorem putW_mem (L : List Int) (id : Int) (y : Int) : y ∈ putW L id ↔ y ∈ L ∨ (1 ≤ id ∧ y = id) := by
  unfold putW
  split
  · rename_i h
    rcases h with h | h
    · constructor
      · exact .inl
      · rintro (h2 | ⟨h2, _⟩)
        · exact h2
        · omega
    · constructor
      · exact .inl
      · rintro (h2 | ⟨_, rfl⟩)
        · exact h2
        · exact h
  · rename_i h
    rw [(putH_perm L id).mem_iff, List.mem_cons]
    constructor
    · rintro (rfl | h2)
      · exact .inr ⟨by omega, rfl⟩
      · exact .inl h2
    · rintro (h2 | ⟨_, rfl⟩)
      · exact .inr h2
      · exact .inl rfl
theorem putW_len (L : List Int) (id : Int) : (putW L id).length ≤ L.length + 1 := by
  unfold putW
  split
  · omega
  · rw [(putH_perm L id).length_eq]; simp
/-- What waits: a heap, no node twice. -/
structure WaitL (L : List Int) : Prop where
  heap : HeapO L
  once : L.Nodup
  pos : ∀ x ∈ L, 1 ≤ x
theorem WaitL.nil : WaitL [] := ⟨heap_nil, List.nodup_nil, by simp⟩
theorem WaitL.put {L : List Int} (h : WaitL L) (id : Int) : WaitL (putW L id) := by
  unfold putW
  split
  · exact h
  · rename_i hn
    refine ⟨putH_heap h.heap id, ?_, ?_⟩
    · rw [(putH_perm L id).nodup_iff, List.nodup_cons]
      exact ⟨fun hm => hn (.inr hm), h.once⟩
    · intro x hx
      rcases List.mem_cons.1 ((putH_perm L id).mem_iff.1 hx) with rfl | hx
      · omega
      · exact h.pos x hx
theorem WaitL.pop {x : Int} {L : List Int} (h : WaitL (x :: L)) : WaitL (popH (x :: L)) :=
  ⟨popH_heap h.heap, (popH_perm x L).nodup_iff.2 (List.nodup_cons.1 h.once).2, fun y hy => h.pos y (List.mem_cons_of_mem _ ((popH_perm x L).mem_iff.1 hy))⟩
/-- All that are ready wait. -/
def Waits (l : Nat) (most : Int) (r : List Nd) (L : List Int) : Prop := ∀ p, readyR l r p most = true → p ∈ L
theorem Waits.skip {l : Nat} {most : Int} {r : List Nd} {x : Int} {L : List Int} (h : Waits l most r (x :: L)) (hx : readyR l r x most = false) : Waits l most r (popH (x :: L)) := by
  intro p hp
  rw [(popH_perm x L).mem_iff]
  rcases List.mem_cons.1 (h p hp) with rfl | h2
  · rw [hx] at hp; cases hp
  · exact h2
theorem Waits.first {l : Nat} {most : Int} {r : List Nd} {x : Int} {L : List Int} (h : Waits l most r (x :: L)) (hw : WaitL (x :: L)) (hx : readyR l r x most = true) : FirstIs l most r x :=
  ⟨hx, fun q hq => heap_head hw.heap q (h q hq)⟩
theorem Waits.fold {l : Nat} {most : Int} {r : List Nd} {x : Int} {L : List Int} (hr : Roll r) (h : Waits l most r (x :: L)) (hx : readyR l r x most = true) :
    Waits l most (foldR r x) (putW (putW (putW (popH (x :: L)) (2 * x)) (2 * x + 1)) (x / 2)) := by
  have hk := (ready_iff.1 hx).1
  have hx1 : 1 ≤ x := (isNode_lt (kids_iff.1 hk).1).1
  intro p hp
  rw [putW_mem, putW_mem, putW_mem, (popH_perm x L).mem_iff]
  obtain ⟨h1, h2, h3⟩ := ready_iff.1 hp
  have hp1 : 1 ≤ p := (isNode_lt (kids_iff.1 h1).1).1
  by_cases e1 : p = 2 * x
  · exact .inl (.inl (.inr ⟨by omega, e1⟩))
  by_cases e2 : p = 2 * x + 1
  · exact .inl (.inr ⟨by omega, e2⟩)
  by_cases e3 : p = x / 2
  · exact .inr ⟨by omega, e3⟩
  by_cases e4 : p = x
  · subst e4
    simp only [pairR, getR_fold hr hx1] at h2
    rw [if_neg (by omega), if_pos (.inl trivial), if_neg (by omega), if_pos (.inr trivial)] at h2
    omega
  refine .inl (.inl (.inl ?_))
  have g : ∀ id, id ≠ x → id ≠ 2 * x → id ≠ 2 * x + 1 → getR (foldR r x) id = getR r id := fun id a b c => by
    rw [getR_fold hr hx1, if_neg a, if_neg (by omega)]
  have q1 := g (2 * p) (by omega) (by omega) (by omega)
  have q2 := g (2 * p + 1) (by omega) (by omega) (by omega)
  have q3 := g p e4 e1 e2
  have : readyR l r p most = true := by
    rw [ready_iff]
    refine ⟨h1, ?_, ?_⟩
    · simp only [pairR, q1, q2] at h2 ⊢
      exact h2
    · simp only [pairR, q1, q2, q3] at h3 ⊢
      exact h3
  rcases List.mem_cons.1 (h p this) with h | h
  · exact absurd h e4
  · exact h
theorem Waits.done {l : Nat} {most : Int} {r : List Nd} (h : Waits l most r []) : RunTo l most r [] r := .done fun p => by
  rw [← Bool.not_eq_true]
  exact fun hp => by simpa using h p hp
/-- The parents of all nodes wait: so do all that are ready. -/
theorem Waits.start {l : Nat} {most : Int} {r : List Nd} {L : List Int} (hL : ∀ x ∈ r, 1 ≤ x.1 / 2 → x.1 / 2 ∈ L) (hr : Roll r) : Waits l most r L := by
  intro p hp
  obtain ⟨h1, h2, _⟩ := ready_iff.1 hp
  have hp1 : 1 ≤ p := (isNode_lt (kids_iff.1 h1).1).1
  have : getR r (2 * p) ≠ 0 ∨ getR r (2 * p + 1) ≠ 0 := by
    unfold pairR at h2
    omega
  rcases this with h | h
  · have := hL _ (getR_pos hr h) (by simp only; omega)
    simp only at this
    rwa [show 2 * p / 2 = p by omega] at this
  · have := hL _ (getR_pos hr h) (by simp only; omega)
    simp only at this
    rwa [show (2 * p + 1) / 2 = p by omega] at this
end Go.Proofs.YtgjaopfjffncbaaGreat
/- A table that is looked through: a node less. No program in sight. -/
namespace Go.Proofs.YtgjaopfjffncbaaGreat
set_option linter.unusedVariables false

/-- How many steps it is from a slot on to another one. -/
def wayOf (n a b : Nat) : Nat := (b + n - a) % n
theorem way_step {n a b : Nat} (ha : a < n) (hb : b < n) : b = step n a (wayOf n a b) ∧ wayOf n a b < n := by
  refine ⟨?_, Nat.mod_lt _ (by omega)⟩
  unfold step wayOf
  rw [Nat.add_mod_mod]
  have : a + (b + n - a) = b + n := by omega
  rw [this, Nat.add_mod_right, Nat.mod_eq_of_lt hb]
theorem way_of {n a d : Nat} (ha : a < n) (hd : d < n) : wayOf n a (step n a d) = d := by
  have h := way_step (b := step n a d) ha (step_lt (by omega))
  exact (step_inj hd h.2 h.1).symm
theorem step_step {n h c s : Nat} : step n (step n h c) s = step n h (c + s) := by
  unfold step
  rw [Nat.mod_add_mod, Nat.add_assoc]

/-- Behind so many steps from the slot that was made free, c steps from which the hole is now. -/
structure Del (b : Nat) (S0 : List Nd) (h0 E : Nat) (S m : List Nd) (c t : Nat) : Prop where
  len : S.length = 2 ^ b
  perm : (S.filter full).Perm m
  hole : ∀ y, S[step (2 ^ b) h0 c]? = some y → y.2 = 0
  ct : c < t
  tE : t ≤ E
  En : E < 2 ^ b
  h0n : h0 < 2 ^ b
  same : ∀ t', t ≤ t' → t' < 2 ^ b → S[step (2 ^ b) h0 t']? = S0[step (2 ^ b) h0 t']?
  free : ∀ y, S0[step (2 ^ b) h0 E]? = some y → y.2 = 0
  mid : ∀ t', c < t' → t' < t → ∀ y, S[step (2 ^ b) h0 t']? = some y → y.2 ≠ 0 → ∃ d, d < 2 ^ b ∧ step (2 ^ b) h0 t' = step (2 ^ b) (homeOf b y.1) d ∧ ∀ d' < d, ∀ z, S[step (2 ^ b) (homeOf b y.1) d']? = some z → z.2 ≠ 0
  reach : ∀ i x, S[i]? = some x → x.2 ≠ 0 → ∃ d, d < 2 ^ b ∧ i = step (2 ^ b) (homeOf b x.1) d ∧ ∀ d' < d, step (2 ^ b) (homeOf b x.1) d' = step (2 ^ b) h0 c ∨ ∀ y, S[step (2 ^ b) (homeOf b x.1) d']? = some y → y.2 ≠ 0

theorem get_set' {S : List Nd} {i j : Nat} {x : Nd} (h : j ≠ i) : (S.set i x)[j]? = S[j]? := by
  rw [List.getElem?_set, if_neg (fun e => h e.symm)]
theorem get_set_at {S : List Nd} {i : Nat} {x : Nd} (h : i < S.length) : (S.set i x)[i]? = some x := by
  rw [List.getElem?_set, if_pos rfl, if_pos h]
theorem filter_set_free {S : List Nd} {i : Nat} {y x : Nd} (hi : S[i]? = some y) (hy : y.2 ≠ 0) (hx : x.2 = 0) : (S.filter full).Perm (y :: (S.set i x).filter full) := by
  have h1 := set_split hi
  have hlt := (List.getElem?_eq_some_iff.1 hi).1
  have h2 : S.set i x = S.take i ++ x :: S.drop (i + 1) := by rw [List.set_eq_take_append_cons_drop, if_pos hlt]
  rw [h2, List.filter_append, List.filter_cons, if_neg (by simp [full, hx])]
  conv => lhs; rw [h1]
  rw [List.filter_append, List.filter_cons, if_pos (by simp [full, hy])]
  exact List.perm_middle
section
variable {b : Nat} {S0 S m : List Nd} {h0 E c t : Nat}
theorem Del.start (h : PInv b S m) {x : Nd} (hx : S[h0]? = some x) (hx0 : x.2 ≠ 0) (hm : m.length < 2 ^ b) {m' : List Nd} (hm' : m.Perm (x :: m')) :
    ∃ E, Del b (S.set h0 (0, 0)) h0 E (S.set h0 (0, 0)) m' 0 1 := by
  have hlt := (List.getElem?_eq_some_iff.1 hx).1
  have hn : h0 < 2 ^ b := by rw [← h.len]; exact hlt
  obtain ⟨j, y, hj, hy⟩ := h.free hm
  have hjn : j < 2 ^ b := by rw [← h.len]; exact (List.getElem?_eq_some_iff.1 hj).1
  have hne : j ≠ h0 := by rintro rfl; rw [hx] at hj; cases hj; exact hx0 hy
  obtain ⟨e, he, hje⟩ := step_onto hjn hn
  have hs0 : step (2 ^ b) h0 0 = h0 := by unfold step; rw [Nat.add_zero, Nat.mod_eq_of_lt hn]
  have he0 : e ≠ 0 := by rintro rfl; exact hne (hje.trans hs0)
  refine ⟨e, by rw [List.length_set]; exact h.len, ?_, ?_, by omega, by omega, he, hn, fun _ _ _ => rfl, ?_, fun t' h1 h2 => by omega, ?_⟩
  · exact ((filter_set_free hx hx0 (x := (0, 0)) rfl).symm.trans (h.perm.trans hm')).cons_inv
  · intro y hy
    rw [hs0, get_set_at hlt] at hy
    cases hy; rfl
  · intro z hz
    rw [← hje, get_set' hne, hj] at hz
    cases hz; exact hy
  · intro i z hi hz
    rcases get_set hi with ⟨rfl, rfl⟩ | ⟨hi0, hi⟩
    · exact absurd rfl hz
    · obtain ⟨d, hd, e1, hw⟩ := h.reach i z hi hz
      refine ⟨d, hd, e1, fun d' hd' => ?_⟩
      by_cases hp : step (2 ^ b) (homeOf b z.1) d' = h0
      · left; rw [hp, hs0]
      · right
        intro y hy
        rw [get_set' hp] at hy
        exact hw d' hd' y hy
theorem Del.ne (h : Del b S0 h0 E S m c t) {x : Nd} (hx : S[step (2 ^ b) h0 t]? = some x) (hx0 : x.2 ≠ 0) : t < E := by
  refine Nat.lt_of_le_of_ne h.tE ?_
  rintro rfl
  rw [h.same t (Nat.le_refl _) h.En] at hx
  exact hx0 (h.free x hx)
/-- The node stays. -/
theorem Del.stay (h : Del b S0 h0 E S m c t) (hb : b ≤ 64) {x : Nd} (hx : S[step (2 ^ b) h0 t]? = some x) (hx0 : x.2 ≠ 0) (hw : wayOf (2 ^ b) (homeOf b x.1) (step (2 ^ b) h0 t) < wayOf (2 ^ b) (homeOf b x.1) (step (2 ^ b) h0 c)) :
    Del b S0 h0 E S m c (t + 1) := by
  have hE := h.ne hx hx0
  have hct := h.ct
  refine ⟨h.len, h.perm, h.hole, by omega, hE, h.En, h.h0n, fun t' h1 h2 => h.same t' (by omega) h2, h.free, ?_, h.reach⟩
  intro t' h1 h2 y hy hy0
  rcases Nat.lt_or_eq_of_le (Nat.le_of_lt_succ h2) with hlt | rfl
  · exact h.mid t' h1 hlt y hy hy0
  · rw [hx] at hy; cases hy
    obtain ⟨d, hd, e1, hr⟩ := h.reach _ x hx hx0
    refine ⟨d, hd, e1, fun d' hd' z hz => ?_⟩
    rcases hr d' hd' with hp | hp
    · have hh := homeOf_lt hb x.1
      rw [e1, way_of hh hd, ← hp, way_of hh (by omega)] at hw
      omega
    · exact hp z hz
/-- The node goes to the hole. -/
theorem Del.move (h : Del b S0 h0 E S m c t) (hb : b ≤ 64) {x : Nd} (hx : S[step (2 ^ b) h0 t]? = some x) (hx0 : x.2 ≠ 0) (hw : wayOf (2 ^ b) (homeOf b x.1) (step (2 ^ b) h0 c) ≤ wayOf (2 ^ b) (homeOf b x.1) (step (2 ^ b) h0 t)) :
    Del b S0 h0 E ((S.set (step (2 ^ b) h0 c) x).set (step (2 ^ b) h0 t) (0, 0)) m t (t + 1) := by
  have hE := h.ne hx hx0
  have hct := h.ct
  have hn := h.En
  have hp := Nat.two_pow_pos b
  have hh := homeOf_lt hb x.1
  have hL := h.len
  have hci : step (2 ^ b) h0 c < S.length := by rw [hL]; exact step_lt hp
  have hti : step (2 ^ b) h0 t < S.length := by rw [hL]; exact step_lt hp
  have hne : step (2 ^ b) h0 c ≠ step (2 ^ b) h0 t := fun e => by have := step_inj (by omega) (by omega) e; omega
  obtain ⟨y, hy⟩ : ∃ y, S[step (2 ^ b) h0 c]? = some y := ⟨_, List.getElem?_eq_getElem hci⟩
  have hy0 := h.hole y hy
  have g1 : ∀ j, j ≠ step (2 ^ b) h0 c → j ≠ step (2 ^ b) h0 t → ((S.set (step (2 ^ b) h0 c) x).set (step (2 ^ b) h0 t) (0, 0))[j]? = S[j]? := fun j h1 h2 => by rw [get_set' h2, get_set' h1]
  have g2 : ((S.set (step (2 ^ b) h0 c) x).set (step (2 ^ b) h0 t) (0, 0))[step (2 ^ b) h0 c]? = some x := by rw [get_set' hne, get_set_at hci]
  have g3 : ((S.set (step (2 ^ b) h0 c) x).set (step (2 ^ b) h0 t) (0, 0))[step (2 ^ b) h0 t]? = some (0, 0) := get_set_at (by rw [List.length_set]; exact hti)
  obtain ⟨d, hd, e1, hr⟩ := h.reach _ x hx hx0
  obtain ⟨dh, edh, hdh⟩ : ∃ dh, step (2 ^ b) h0 c = step (2 ^ b) (homeOf b x.1) dh ∧ dh < 2 ^ b := ⟨_, way_step hh (step_lt hp)⟩
  rw [e1, way_of hh hd, edh, way_of hh hdh] at hw
  have hlt : dh < d := by
    refine Nat.lt_of_le_of_ne hw ?_
    rintro rfl
    exact hne (edh.trans e1.symm)
  refine ⟨by rw [List.length_set, List.length_set]; exact hL, ?_, ?_, by omega, hE, hn, h.h0n, ?_, h.free, fun t' h1 h2 => by omega, ?_⟩
  · have p1 := filter_set_new hy hy0 hx0
    have q : (S.set (step (2 ^ b) h0 c) x)[step (2 ^ b) h0 t]? = some x := by rw [get_set' (fun e => hne e.symm)]; exact hx
    have p2 := filter_set_free q hx0 (x := (0, 0)) rfl
    exact ((p2.symm.trans p1).cons_inv).trans h.perm
  · intro z hz
    rw [g3] at hz
    cases hz; rfl
  · intro t' h1 h2
    rw [g1 _ (fun e => by have := step_inj (by omega) (by omega) e; omega) (fun e => by have := step_inj (by omega) (by omega) e; omega)]
    exact h.same t' (by omega) h2
  · intro i z hi hz
    by_cases hit : i = step (2 ^ b) h0 t
    · subst hit; rw [g3] at hi; cases hi; exact absurd rfl hz
    · by_cases hic : i = step (2 ^ b) h0 c
      · subst hic
        rw [g2] at hi; cases hi
        refine ⟨dh, hdh, edh, fun d' hd' => .inr fun y hy => ?_⟩
        have n1 : step (2 ^ b) (homeOf b x.1) d' ≠ step (2 ^ b) h0 c := fun e => by rw [edh] at e; have := step_inj (by omega) hdh e; omega
        have n2 : step (2 ^ b) (homeOf b x.1) d' ≠ step (2 ^ b) h0 t := fun e => by rw [e1] at e; have := step_inj (by omega) hd e; omega
        rw [g1 _ n1 n2] at hy
        rcases hr d' (by omega) with hq | hq
        · exact absurd hq n1
        · exact hq y hy
      · rw [g1 i hic hit] at hi
        obtain ⟨d2, hd2, e2, hr2⟩ := h.reach i z hi hz
        refine ⟨d2, hd2, e2, fun d' hd' => ?_⟩
        by_cases n2 : step (2 ^ b) (homeOf b z.1) d' = step (2 ^ b) h0 t
        · exact .inl n2
        · right
          intro y hy
          by_cases n1 : step (2 ^ b) (homeOf b z.1) d' = step (2 ^ b) h0 c
          · rw [n1, g2] at hy; cases hy; exact hx0
          · rw [g1 _ n1 n2] at hy
            rcases hr2 d' hd' with hq | hq
            · exact absurd hq n1
            · exact hq y hy
/-- The end: a free slot. -/
theorem Del.done (h : Del b S0 h0 E S m c t) {x : Nd} (hx : S[step (2 ^ b) h0 t]? = some x) (hx0 : x.2 = 0) (hi : (m.map (·.1)).Nodup) (hpos : ∀ x ∈ m, 1 ≤ x.2) : PInv b S m := by
  have hct := h.ct
  have hn := h.En
  have htE := h.tE
  refine ⟨h.len, h.perm, hi, hpos, fun i z hz hz0 => ?_⟩
  obtain ⟨d, hd, e1, hr⟩ := h.reach i z hz hz0
  by_cases hh : ∃ d', d' < d ∧ step (2 ^ b) (homeOf b z.1) d' = step (2 ^ b) h0 c
  · obtain ⟨d', hd', e2⟩ := hh
    have key : ∀ s, step (2 ^ b) (homeOf b z.1) (d' + s) = step (2 ^ b) h0 (c + s) := fun s => by rw [← step_step, e2, step_step]
    have ei : i = step (2 ^ b) h0 (c + (d - d')) := by rw [e1, ← key]; congr 1; omega
    rcases Nat.lt_trichotomy (c + (d - d')) t with hlt | heq | hgt
    · rw [ei] at hz
      obtain ⟨d2, h1, h2, h3⟩ := h.mid _ (by omega) hlt z hz hz0
      exact ⟨d2, h1, ei.trans h2, h3⟩
    · rw [ei, heq, hx] at hz
      cases hz
      exact absurd hx0 hz0
    · have h3 := hr (d' + (t - c)) (by omega)
      rw [key, show c + (t - c) = t by omega] at h3
      rcases h3 with h3 | h3
      · have := step_inj (by omega) (by omega) h3; omega
      · exact absurd hx0 (h3 x hx)
  · refine ⟨d, hd, e1, fun d' hd' y hy => ?_⟩
    rcases hr d' hd' with hq | hq
    · exact absurd ⟨d', hd', hq⟩ hh
    · exact hq y hy
end
end Go.Proofs.YtgjaopfjffncbaaGreat
/- Package dense: Get, Len, Take. -/
namespace Go.Proofs.YtgjaopfjffncbaaGreat
open Go.ChangeShapes Go.WideShapes Go.ChangeAt Go.RowKit
set_option linter.unusedVariables false
set_option linter.unusedSimpArgs false
set_option maxRecDepth 100000

theorem isNode_nat' {l : Nat} {id : Int} (h : isNode l id = true) : ∃ k : Nat, id = k ∧ 1 ≤ k ∧ k < 2 * 2 ^ l := by
  obtain ⟨n, x, hn, rfl, _, _, h1, h2⟩ := isNode_nat h
  obtain rfl : n = l := by omega
  exact ⟨x, rfl, h1, by exact_mod_cast h2⟩
theorem getR_out {l : Nat} {r : List Nd} (hn : ∀ x ∈ r, isNode l x.1 = true) {id : Int} (h : isNode l id = false) : getR r id = 0 := getR_none fun x hx he => by
  have := hn x hx
  rw [he, h] at this
  cases this
theorem dense_Len (w : World) (g l : Nat) (r : List Nd) (F : Nat → Prop) (h : DenseAt w g l r F) : Calls Tryz.prog 186 #[.pointer (some ⟨g, 0, none⟩)] w fun e w' => e = .returned (.int .i64 r.length) ∧ Below w.heap.size w w' := by
  obtain ⟨v, C, hh, _⟩ := h
  have c := blk_cell hh
  have z := lt_of_block hh
  clear hh
  go_enter Tryz.func186, Tryz.ntmps186
  go_wp2_with fail
  go_ret
  exact ⟨rfl, (by repeat (first | with_reducible exact Below.refl _ _ | with_reducible assumption | ((with_reducible refine Below.setCell ?_ ?_ _); rotate_left; · (first | omega | exact Nat.le_refl _ | (simp <;> omega))) | (with_reducible refine Below.allocW ?_ _) | (with_reducible refine Below.drew ?_) | (with_reducible refine Below.extW ?_ _)))⟩
theorem dense_Get (w : World) (g l : Nat) (r : List Nd) (F : Nat → Prop) (h : DenseAt w g l r F) (id : Int) (hn : ∀ x ∈ r, isNode l x.1 = true) : Calls Tryz.prog 151 #[.pointer (some ⟨g, 0, none⟩), .int .i64 id] w fun e w' => e = .returned (.int .i64 (getR r id)) ∧ Below w.heap.size w w' := by
  obtain ⟨v, C, hh, ho, hl, hcc, rfl⟩ := h
  have cc := blk_cell hh
  have zg := lt_of_block hh
  have H := Lib.hid hh
  cases hN : isNode l id
  · rw [getR_out hn hN]
    clear hh ho hl hcc
    have HN := Lib.hid hN
    clear hN hn
    go_enter Tryz.func151, Tryz.ntmps151
    go_wp2_with fail
    refine (twig_Right _ l id).mono ?_
    rintro e w1 ⟨rfl, hb1⟩
    have B1 : Below w.heap.size w w1 := Below.then_ (by repeat (first | with_reducible exact Below.refl _ _ | with_reducible assumption | ((with_reducible refine Below.setCell ?_ ?_ _); rotate_left; · (first | omega | exact Nat.le_refl _ | (simp <;> omega))) | (with_reducible refine Below.allocW ?_ _) | (with_reducible refine Below.drew ?_) | (with_reducible refine Below.extW ?_ _))) hb1
    have s1 : w.heap.size ≤ w1.heap.size := B1.size
    rw [HN.out]
    go_wp2_with fail
    go_ret
    exact ⟨rfl, (by repeat (first | with_reducible exact Below.refl _ _ | with_reducible assumption | ((with_reducible refine Below.setCell ?_ ?_ _); rotate_left; · (first | omega | exact Nat.le_refl _ | (simp <;> omega))) | (with_reducible refine Below.allocW ?_ _) | (with_reducible refine Below.drew ?_) | (with_reducible refine Below.extW ?_ _)))⟩
  · obtain ⟨k, rfl, hk1, hk2⟩ := isNode_nat' hN
    obtain ⟨b, off, cap, rfl, hcap⟩ := own_at0 ho (by omega)
    have d := ho.slT.cell_at (k := k) (by omega) 0 (.int .i64 C[k]) rfl
    have hck := hcc k (by omega)
    rw [List.getElem?_eq_getElem (by omega)] at hck
    injection hck with hck
    rw [hck] at d
    simp only [Nat.mul_one, Nat.add_zero] at d
    have zb := (ho.lt b rfl).2
    have i1 : (k : Int) < (C.length : Int) := by omega
    generalize getR r k = n at d ⊢
    have HN := Lib.hid hN
    clear hh ho hl hcc hck hn hN
    go_enter Tryz.func151, Tryz.ntmps151
    go_wp2_with fail
    refine (twig_Right _ l k).mono ?_
    rintro e w1 ⟨rfl, hb1⟩
    have B1 : Below w.heap.size w w1 := Below.then_ (by repeat (first | with_reducible exact Below.refl _ _ | with_reducible assumption | ((with_reducible refine Below.setCell ?_ ?_ _); rotate_left; · (first | omega | exact Nat.le_refl _ | (simp <;> omega))) | (with_reducible refine Below.allocW ?_ _) | (with_reducible refine Below.drew ?_) | (with_reducible refine Below.extW ?_ _))) hb1
    have s1 : w.heap.size ≤ w1.heap.size := B1.size
    rw [HN.out]
    have k1 := blk_below H.out hb1
    have cc1 := blk_cell k1
    have d1 := (hb1.cell (p := ⟨b, off + k, none⟩) zb).trans d
    have zg1 := lt_of_block k1
    clear cc d k1
    go_wp2_with fail
    go_ret
    exact ⟨rfl, (by repeat (first | with_reducible exact Below.refl _ _ | with_reducible assumption | ((with_reducible refine Below.setCell ?_ ?_ _); rotate_left; · (first | omega | exact Nat.le_refl _ | (simp <;> omega))) | (with_reducible refine Below.allocW ?_ _) | (with_reducible refine Below.drew ?_) | (with_reducible refine Below.extW ?_ _)))⟩
theorem len_del {r : List Nd} (id : Int) : ((delR r id).length : Int) = if getR r id = 0 ∧ (∀ x ∈ r, x.1 ≠ id) then (r.length : Int) else (r.length : Int) - (if ∃ x ∈ r, x.1 = id then 1 else 0) := by
  induction r with
  | nil => simp [delR, getR]
  | cons x r ih =>
    simp only [delR]
    by_cases hx : x.1 = id
    · rw [if_pos hx]
      have h1 : ¬ (getR (x :: r) id = 0 ∧ ∀ y ∈ x :: r, y.1 ≠ id) := fun h => h.2 x (by simp) hx
      have h2 : ∃ y ∈ x :: r, y.1 = id := ⟨x, by simp, hx⟩
      rw [if_neg h1, if_pos h2]
      simp
    · rw [if_neg hx]
      have e1 : getR (x :: r) id = getR r id := by simp only [getR]; rw [if_neg hx]
      have e2 : (∀ y ∈ x :: r, y.1 ≠ id) ↔ ∀ y ∈ r, y.1 ≠ id := by simp [hx]
      have e3 : (∃ y ∈ x :: r, y.1 = id) ↔ ∃ y ∈ r, y.1 = id := by simp [hx]
      simp only [List.length_cons, e1, e2, e3]
      push_cast
      rw [ih]
      split <;> omega
theorem len_del_pos {r : List Nd} {id : Int} (h : getR r id ≠ 0) : ((delR r id).length : Int) = (r.length : Int) - 1 := by
  rw [len_del]
  have : ∃ x ∈ r, x.1 = id := by
    rcases Classical.em (∃ x ∈ r, x.1 = id) with h' | h'
    · exact h'
    · exact absurd (getR_none fun x hx he => h' ⟨x, hx, he⟩) h
  rw [if_neg (fun h' => h h'.1), if_pos this]
/-- The stores of Take. -/
theorem dense_taken {w : World} {g l b off cap k : Nat} {r r' : List Nd} {C : List Int} {u m : Int} {v0 v1 v2 : Value} (hh : w.heap[g]? = some (.cells #[v0, v1, v2, .slice (some ⟨b, off, none⟩) C.length cap] 218 (0, 0)))
    (ho : Own w 0 3 encZ (.slice (some ⟨b, off, none⟩) C.length cap) C) (hl : C.length = 2 * 2 ^ l) (hc : ∀ i : Nat, i < C.length → C[i]? = some (getR r i)) (hk : k < C.length)
    (hr : ∀ j : Int, getR r' j = if j = k then 0 else getR r j) (hu : (r'.length : Int) = u) (hm : sumR r' = m) (hv0 : v0 = .int .i64 l := by rfl) :
    DenseAt (((w.setCell ⟨b, off + k, none⟩ (.int .i64 0)).setCell ⟨g, 1, none⟩ (.int .i64 u)).setCell ⟨g, 2, none⟩ (.int .i64 m)) g l r' (foot2 g (.slice (some ⟨b, off, none⟩) C.length cap)) := by
  have hne := ho.ne_block hh (by decide)
  have hgb : g ≠ b := fun he => hne (by rw [he]; rfl)
  have o1 := ho.setElem k 0 hk (by decide) (.int .i64 0) 0 rfl
  rw [Nat.mul_one, Nat.add_zero] at o1
  subst hv0
  have k1 : (w.setCell ⟨b, off + k, none⟩ (.int .i64 0)).heap[g]? = _ := (Below.heap_setCell _ _ _ _ hgb).trans hh
  have k2 := heap_set_at (i := 1) k1 (.int .i64 u)
  have o2 := o1.setCell (p := ⟨g, 1, none⟩) (o1.ne_block k1 (by decide)) (.int .i64 u)
  have k3 := heap_set_at (i := 2) k2 (.int .i64 m)
  have o3 := o2.setCell (p := ⟨g, 2, none⟩) (o2.ne_block k2 (by decide)) (.int .i64 m)
  subst hu hm
  refine ⟨_, C.set k 0, by rw [k3]; rfl, o3, by simpa using hl, fun i hi => ?_, rfl⟩
  rw [List.length_set] at hi
  rw [List.getElem?_set]
  by_cases hik : k = i
  · subst hik
    rw [if_pos rfl, if_pos hi, hr, if_pos rfl]
  · rw [if_neg hik, hc i hi, hr, if_neg (by omega)]
theorem del_none' {r : List Nd} {id : Int} (h : ∀ x ∈ r, x.1 ≠ id) : delR r id = r := by
  induction r with
  | nil => rfl
  | cons x r ih =>
    simp only [delR]
    rw [if_neg (h x (by simp)), ih fun y hy => h y (by simp [hy])]
theorem del_zero {r : List Nd} (hr : Roll r) {id : Int} (h : getR r id = 0) : delR r id = r := del_none' fun x hx he => by
  have := getR_mem hr hx
  have := (hr.2 x hx).2
  rw [he] at *
  omega
/-- What Take leaves. -/
theorem dense_Take (w : World) (g l : Nat) (r : List Nd) (F : Nat → Prop) (h : DenseAt w g l r F) (hf : Fits l r) (id : Int) (hn : ∀ x ∈ r, isNode l x.1 = true) :
    Calls Tryz.prog 247 #[.pointer (some ⟨g, 0, none⟩), .int .i64 id] w fun e w' => e = .returned (.int .i64 (getR r id)) ∧ DenseAt w' g l (delR r id) F ∧ Turn F w w' := by
  have HG := Lib.hid (dense_Get w g l r F h id hn)
  by_cases h0 : getR r id = 0
  · rw [h0] at HG ⊢
    rw [del_zero hf.roll h0]
    have H := Lib.hid h
    clear h hf hn h0
    go_enter Tryz.func247, Tryz.ntmps247
    go_wp2_with fail
    refine HG.out.mono ?_
    rintro e w1 ⟨rfl, hb1⟩
    have HB := Lib.hid hb1
    go_wp2_with fail
    go_ret
    exact ⟨rfl, H.out.below HB.out, .of_below HB.out⟩
  · have hN : isNode l id = true := by
      cases hN : isNode l id
      · exact absurd (getR_out hn hN) h0
      · rfl
    obtain ⟨k, rfl, hk1, hk2⟩ := isNode_nat' hN
    have hp := getR_nonneg hf.roll k
    have hle := getR_le_sum hf.roll k
    have hs := hf.sum
    have hlen := len_del_pos h0
    have hsum := sumR_del hf.roll k
    have hls := len_le_sum hf.roll
    have hgd := getR_del hf.roll k
    have hpos : 0 < getR r k := by omega
    obtain ⟨v, C, hh, ho, hl, hcc, rfl⟩ := h
    obtain ⟨b, off, cap, rfl, hcap⟩ := own_at0 ho (by omega)
    have H := Lib.hid hh
    have HO := Lib.hid ho
    have HS := Lib.hid (And.intro hl (And.intro hcc (And.intro hgd (And.intro hlen hsum))))
    have zb := (ho.lt b rfl).2
    have i1 : (k : Int) < (C.length : Int) := by omega
    have hkl : k < C.length := by omega
    have hrl : 0 ≤ (r.length : Int) - 1 := by have := (delR r k).length; omega
    clear hh ho hgd hlen hsum hf hn hN hl hcc
    generalize getR r k = n at HG hp hle h0 hpos HS ⊢
    go_enter Tryz.func247, Tryz.ntmps247
    go_wp2_with fail
    refine HG.out.mono ?_
    rintro e w1 ⟨rfl, hb1⟩
    have HB := Lib.hid hb1
    have k1 := blk_below H.out hb1
    have o1 := HO.out.below hb1
    have cc1 := blk_cell k1
    have cf1 := blk_frozen k1
    have f1 := o1.frozen (off + k)
    have zg1 := lt_of_block k1
    have zb1 := (o1.lt b rfl).2
    have hnb : g ≠ b := fun he => o1.ne_block k1 (by decide) (by rw [he]; rfl)
    have hnb' : b ≠ g := fun he => hnb he.symm
    have d1 := o1.slT.cell_at (k := k) (by omega) 0 (.int .i64 C[k]) rfl
    simp only [Nat.mul_one, Nat.add_zero] at d1
    have K1 := Lib.hid k1
    have O1 := Lib.hid o1
    clear k1 o1 hb1
    go_wp2_with fail
    go_ret
    refine ⟨rfl, ?_, ?_⟩
    · exact dense_taken (r' := delR r k) K1.out O1.out HS.out.1 HS.out.2.1 hkl HS.out.2.2.1 HS.out.2.2.2.1 HS.out.2.2.2.2
    · refine Turn.setCell (Turn.setCell (Turn.setCell (.of_below HB.out) ?_ _) ?_ _) ?_ _
      · exact .inl (.inr rfl)
      · exact .inl (.inl rfl)
      · exact .inl (.inl rfl)
end Go.Proofs.YtgjaopfjffncbaaGreat
/- Package probe: Get, Len, and the way from a slot to another one. -/
namespace Go.Proofs.YtgjaopfjffncbaaGreat
open Go.ChangeShapes Go.WideShapes Go.ChangeAt Go.RowKit
set_option linter.unusedVariables false
set_option linter.unusedSimpArgs false
set_option maxRecDepth 100000

theorem mask_any (i : Nat) (hi : i ≤ 62) (x : Int) : bits .and .i64 x (2 ^ i - 1) = x % 2 ^ i := by
  have hi64 : i + (64 - i) = 64 := by omega
  have hd : (2 : Int) ^ i ∣ 2 ^ 64 := ⟨2 ^ (64 - i), by rw [← Int.pow_add, hi64]⟩
  have hpos : 0 < 2 ^ i := Nat.two_pow_pos i
  have hc : ((2 : Int) ^ i - 1) = ((2 ^ i - 1 : Nat) : Int) := by
    rw [Int.natCast_sub hpos]; simp
  have e0 : bits .and .i64 x ((2 ^ i - 1 : Nat) : Int) = IntKind.i64.wrap (((BitVec.ofInt 64 x) &&& (BitVec.ofInt 64 ((2 ^ i - 1 : Nat) : Int))).toNat : Int) := rfl
  rw [hc, e0, BitVec.toNat_and, BitVec.toNat_ofInt, BitVec.ofInt_natCast, BitVec.toNat_ofNat]
  have hle : 2 ^ i ≤ 4611686018427387904 := by
    have := Nat.pow_le_pow_right (n := 2) (by decide) hi
    simpa using this
  have hm : (2 ^ i - 1) % 2 ^ 64 = 2 ^ i - 1 := Nat.mod_eq_of_lt (by
    have : (2 : Nat) ^ 64 = 18446744073709551616 := by decide
    rw [this]
    generalize 2 ^ i = p at *
    omega)
  rw [hm, Nat.and_two_pow_sub_one_eq_mod]
  have e : (((x % (2 ^ 64 : Nat)).toNat % 2 ^ i : Nat) : Int) = x % 2 ^ i := by
    have h64 : ((2 ^ 64 : Nat) : Int) = 2 ^ 64 := Int.natCast_pow 2 64
    have hn : (0 : Int) ≤ x % ((2 ^ 64 : Nat) : Int) := Int.emod_nonneg _ (Int.ne_of_gt (Int.natCast_pos.2 (Nat.two_pow_pos 64)))
    have t := Int.toNat_of_nonneg hn
    rw [Int.natCast_emod, t, h64]
    have p2 : ((2 ^ i : Nat) : Int) = 2 ^ i := Int.natCast_pow 2 i
    rw [p2]
    exact Int.emod_emod_of_dvd x hd
  rw [e]
  have h0 := Int.emod_nonneg x (show (2 : Int) ^ i ≠ 0 from Int.ne_of_gt (Int.pow_pos (by decide)))
  have h1 := Int.emod_lt_of_pos x (show (0 : Int) < 2 ^ i from Int.pow_pos (by decide))
  have h2 : (2 : Int) ^ i ≤ 4611686018427387904 := by
    have h62 : (2 : Int) ^ 62 = 4611686018427387904 := by decide
    rw [← h62]
    exact pow_le' hi
  refine wraps_i64 _ h0 ?_
  have : (2 : Int) ^ 63 = 9223372036854775808 := by decide
  rw [this]
  generalize x % 2 ^ i = y at *
  generalize (2 : Int) ^ i = p at *
  omega
theorem way_mask (i j n b : Nat) (hn : n = 2 ^ b) (hb : b ≤ 40) (hi : i < n) (hj : j < n) : bits .and .i64 ((j : Int) - (i : Int)) ((n : Int) - 1) = (wayOf n i j : Nat) := by
  have e : ((n : Int) - 1) = 2 ^ b - 1 := by rw [hn]; push_cast; rfl
  rw [e, mask_any b (by omega)]
  unfold wayOf
  rw [Int.natCast_emod, Int.natCast_sub (by omega), Int.natCast_add, hn]
  push_cast
  rw [show (j : Int) + 2 ^ b - i = (j - i) + 2 ^ b by omega, Int.add_emod_right]
theorem probe_way (w : World) (g n b i j : Nat) (cs : Array Value) (A : Option Addr) (cap : Nat) (hh : w.heap[g]? = some (.cells cs 220 (0, 0))) (hv : cs[4]? = some (.slice A n cap)) (hn : n = 2 ^ b) (hb : b ≤ 35) (hi : i < n) (hj : j < n) :
    Calls Tryz.prog 250 #[.pointer (some ⟨g, 0, none⟩), .int .i64 i, .int .i64 j] w fun e w' => e = .returned (.int .i64 (wayOf n i j : Nat)) ∧ Below w.heap.size w w' := by
  have c := (blk_cell hh 4).trans hv
  have hN : n ≤ 34359738368 := by rw [hn]; have := Nat.pow_le_pow_right (n := 2) (by decide) hb; simpa using this
  have hp : 0 < n := by rw [hn]; exact Nat.two_pow_pos b
  have HN := Lib.hid hn
  clear hh hv hn
  go_enter Tryz.func250, Tryz.ntmps250
  go_wp2_with fail
  go_ret
  exact ⟨ret_int (way_mask i j n b HN.out (by omega) (by omega) (by omega)), (by repeat (first | with_reducible exact Below.refl _ _ | with_reducible assumption | ((with_reducible refine Below.setCell ?_ ?_ _); rotate_left; · (first | omega | exact Nat.le_refl _ | (simp <;> omega))) | (with_reducible refine Below.allocW ?_ _) | (with_reducible refine Below.drew ?_) | (with_reducible refine Below.extW ?_ _)))⟩
theorem probe_Len (w : World) (g l : Nat) (r : List Nd) (F : Nat → Prop) (h : ProbeAt w g l r F) : Calls Tryz.prog 187 #[.pointer (some ⟨g, 0, none⟩)] w fun e w' => e = .returned (.int .i64 r.length) ∧ Below w.heap.size w w' := by
  obtain ⟨v, S, b, hh, _⟩ := h
  have c := blk_cell hh
  have z := lt_of_block hh
  clear hh
  go_enter Tryz.func187, Tryz.ntmps187
  go_wp2_with fail
  go_ret
  exact ⟨rfl, (by repeat (first | with_reducible exact Below.refl _ _ | with_reducible assumption | ((with_reducible refine Below.setCell ?_ ?_ _); rotate_left; · (first | omega | exact Nat.le_refl _ | (simp <;> omega))) | (with_reducible refine Below.allocW ?_ _) | (with_reducible refine Below.drew ?_) | (with_reducible refine Below.extW ?_ _)))⟩
theorem probe_Get (w : World) (g l : Nat) (r : List Nd) (F : Nat → Prop) (h : ProbeAt w g l r F) (hl : l ≤ 48) (id : Int) (hn : ∀ x ∈ r, isNode l x.1 = true) : Calls Tryz.prog 152 #[.pointer (some ⟨g, 0, none⟩), .int .i64 id] w fun e w' => e = .returned (.int .i64 (getR r id)) ∧ Below w.heap.size w w' := by
  obtain ⟨v, S, b, hh, ho, hI, hq3, hq34, hfree, rfl⟩ := h
  cases hN : isNode l id
  · rw [getR_out hn hN]
    have HN := Lib.hid hN
    have H := Lib.hid hh
    clear hh ho hI hN hn hfree
    go_enter Tryz.func152, Tryz.ntmps152
    go_wp2_with fail
    refine (probe_right _ g l _ id H.out rfl).mono ?_
    rintro e w1 ⟨rfl, hb1⟩
    have B1 : Below w.heap.size w w1 := Below.then_ (by repeat (first | with_reducible exact Below.refl _ _ | with_reducible assumption | ((with_reducible refine Below.setCell ?_ ?_ _); rotate_left; · (first | omega | exact Nat.le_refl _ | (simp <;> omega))) | (with_reducible refine Below.allocW ?_ _) | (with_reducible refine Below.drew ?_) | (with_reducible refine Below.extW ?_ _))) hb1
    have s1 : w.heap.size ≤ w1.heap.size := B1.size
    rw [HN.out]
    go_wp2_with fail
    go_ret
    exact ⟨rfl, (by repeat (first | with_reducible exact Below.refl _ _ | with_reducible assumption | ((with_reducible refine Below.setCell ?_ ?_ _); rotate_left; · (first | omega | exact Nat.le_refl _ | (simp <;> omega))) | (with_reducible refine Below.allocW ?_ _) | (with_reducible refine Below.drew ?_) | (with_reducible refine Below.extW ?_ _)))⟩
  · have hid := isNode_lt hN
    have hkb : id ≤ 562949953421312 := by have := pow_48 hl; have h3 := hid.2; omega
    have hid1 := hid.1
    obtain ⟨sb, off, cap, rfl, hcap⟩ := own_at0 ho (by rw [hI.len]; exact Nat.two_pow_pos b)
    have hm : r.length < 2 ^ b := by have := Nat.two_pow_pos b; omega
    have hl := hI.len
    have hSl : S.length ≤ 34359738368 := by rw [hl]; have := Nat.pow_le_pow_right (n := 2) (by decide) (show b ≤ 35 by omega); simpa using this
    have cc := blk_cell hh
    have H := Lib.hid hh
    have HO := Lib.hid ho
    have HI := Lib.hid hI
    have HF := Lib.hid (And.intro hm (And.intro hfree hl))
    have HN := Lib.hid hN
    have HG := Lib.hid (fun i d (hL : LookAt S b id i d) => hL.get hI)
    generalize getR r id = n at HG ⊢
    clear hh ho hI hfree hl hm hN hn hid cc
    go_enter Tryz.func152, Tryz.ntmps152
    go_wp2_with fail
    refine (probe_right _ g l _ id H.out rfl).mono ?_
    rintro e w1 ⟨rfl, hb1⟩
    have B1 : Below w.heap.size w w1 := Below.then_ (by repeat (first | with_reducible exact Below.refl _ _ | with_reducible assumption | ((with_reducible refine Below.setCell ?_ ?_ _); rotate_left; · (first | omega | exact Nat.le_refl _ | (simp <;> omega))) | (with_reducible refine Below.allocW ?_ _) | (with_reducible refine Below.drew ?_) | (with_reducible refine Below.extW ?_ _))) hb1
    have s1 : w.heap.size ≤ w1.heap.size := B1.size
    rw [HN.out]
    have k1 := blk_below H.out hb1
    have o1 := HO.out.below hb1
    have K1 := Lib.hid k1
    have O1 := Lib.hid o1
    clear k1 o1
    go_wp2_with fail
    refine (probe_look _ g b sb off _ cap _ _ _ S r id K1.out O1.out HI.out HF.out.1 hq3 (by omega) hid1 hkb).mono ?_
    rintro e w3 ⟨i, d, rfl, hL, hb3⟩
    have B3 : Below w.heap.size w w3 := Below.then_ (by repeat (first | with_reducible exact Below.refl _ _ | with_reducible assumption | ((with_reducible refine Below.setCell ?_ ?_ _); rotate_left; · (first | omega | exact Nat.le_refl _ | (simp <;> omega))) | (with_reducible refine Below.allocW ?_ _) | (with_reducible refine Below.drew ?_) | (with_reducible refine Below.extW ?_ _))) hb3
    have s3 : w.heap.size ≤ w3.heap.size := B3.size
    have k3 := blk_below K1.out hb3
    have o3 := O1.out.below hb3
    have cc3 := blk_cell k3
    have hil : i < S.length := by rw [HF.out.2.2]; exact hL.i_lt
    obtain ⟨x, hx, hx2, _⟩ := HG.out _ _ hL
    have d1 := o3.slT.cell_at hil 1 (.int .i64 S[i].2) rfl
    rw [List.getElem?_eq_getElem hil] at hx
    injection hx with hx
    rw [hx, hx2] at d1
    have zg3 := lt_of_block k3
    have zb3 := (o3.lt _ rfl).2
    clear hL hx hx2 k3 o3 hb3 K1 O1
    have hil2 : (i : Int) < (S.length : Int) := by omega
    go_wp2_with fail
    go_ret
    exact ⟨rfl, (by repeat (first | with_reducible exact Below.refl _ _ | with_reducible assumption | ((with_reducible refine Below.setCell ?_ ?_ _); rotate_left; · (first | omega | exact Nat.le_refl _ | (simp <;> omega))) | (with_reducible refine Below.allocW ?_ _) | (with_reducible refine Below.drew ?_) | (with_reducible refine Below.extW ?_ _)))⟩
end Go.Proofs.YtgjaopfjffncbaaGreat
/- Package pool: Get, Len. -/
namespace Go.Proofs.YtgjaopfjffncbaaGreat
open Go.ChangeShapes Go.WideShapes Go.ChangeAt Go.RowKit
set_option linter.unusedVariables false
set_option linter.unusedSimpArgs false
set_option maxRecDepth 100000

theorem PoolAt.l_le {w : World} {g K l : Nat} {r : List Nd} {F : Nat → Prop} (h : PoolAt w g K l r F) : 1 ≤ l ∧ l ≤ 48 := ⟨h.1, h.2.1⟩
theorem pool_Len (w : World) (g K l : Nat) (r : List Nd) (F : Nat → Prop) (h : PoolAt w g K l r F) : Calls Tryz.prog 153 #[.pointer (some ⟨g, 0, none⟩)] w fun e w' => e = .returned (.int .i64 (r.length)) ∧ Below w.heap.size w w' := by
  have hn := h.fits.nodes h.l_le
  obtain ⟨h1, h2, h3, p, F0, rfl, h4⟩ := h
  rcases h4 with ⟨rfl, h16, hh, hd⟩ | ⟨rfl, hh, hd⟩
  · have H := Lib.hid hh
    have HC := Lib.hid (fun W (h : DenseAt W p l r F0) => dense_Len W p l r F0 h)
    have HD := Lib.hid hd
    clear hh hd hn
    go_enter Tryz.func153, Tryz.ntmps153
    go_wp2_with fail
    refine (pool_isArray _ g p _ H.out).mono ?_
    rintro e w1 ⟨rfl, hb1⟩
    have k1 := blk_below H.out hb1
    have c1 := blk_cell k1
    have z1 := lt_of_block k1
    have D1 := Lib.hid (HD.out.below hb1)
    clear k1
    go_wp2_with fail
    refine (HC.out _ D1.out).mono ?_
    rintro e w2 ⟨rfl, hb2⟩
    have HB2 := Lib.hid (hb1.trans (hb2.mono hb1.size))
    clear hb2
    go_wp2_with fail
    go_ret
    exact ⟨rfl, HB2.out⟩
  · have H := Lib.hid hh
    have HC := Lib.hid (fun W (h : ProbeAt W p l r F0) => probe_Len W p l r F0 h)
    have HD := Lib.hid hd
    clear hh hd hn
    go_enter Tryz.func153, Tryz.ntmps153
    go_wp2_with fail
    refine (pool_isArray_no _ g _ H.out).mono ?_
    rintro e w0 ⟨rfl, hb0⟩
    have K0 := Lib.hid (blk_below H.out hb0)
    go_wp2_with fail
    refine (pool_inner _ g _ _ K0.out).mono ?_
    rintro e w1 ⟨rfl, hb1'⟩
    have hb1 := hb0.trans (hb1'.mono hb0.size)
    have D1 := Lib.hid (HD.out.below hb1)
    clear hb0 hb1' K0
    go_wp2_with fail
    refine (HC.out _ D1.out).mono ?_
    rintro e w2 ⟨rfl, hb2⟩
    have HB2 := Lib.hid (hb1.trans (hb2.mono hb1.size))
    clear hb2
    go_wp2_with fail
    go_ret
    exact ⟨rfl, HB2.out⟩
theorem pool_Get (w : World) (g K l : Nat) (r : List Nd) (F : Nat → Prop) (h : PoolAt w g K l r F) (id : Int) : Calls Tryz.prog 103 #[.pointer (some ⟨g, 0, none⟩), .int .i64 id] w fun e w' => e = .returned (.int .i64 (getR r id)) ∧ Below w.heap.size w w' := by
  have hn := h.fits.nodes h.l_le
  obtain ⟨h1, h2, h3, p, F0, rfl, h4⟩ := h
  rcases h4 with ⟨rfl, h16, hh, hd⟩ | ⟨rfl, hh, hd⟩
  · have H := Lib.hid hh
    have HC := Lib.hid (fun W (h : DenseAt W p l r F0) => dense_Get W p l r F0 h id hn)
    have HD := Lib.hid hd
    clear hh hd hn
    go_enter Tryz.func103, Tryz.ntmps103
    go_wp2_with fail
    refine (pool_isArray _ g p _ H.out).mono ?_
    rintro e w1 ⟨rfl, hb1⟩
    have k1 := blk_below H.out hb1
    have c1 := blk_cell k1
    have z1 := lt_of_block k1
    have D1 := Lib.hid (HD.out.below hb1)
    clear k1
    go_wp2_with fail
    refine (HC.out _ D1.out).mono ?_
    rintro e w2 ⟨rfl, hb2⟩
    have HB2 := Lib.hid (hb1.trans (hb2.mono hb1.size))
    clear hb2
    go_wp2_with fail
    go_ret
    exact ⟨rfl, HB2.out⟩
  · have H := Lib.hid hh
    have HC := Lib.hid (fun W (h : ProbeAt W p l r F0) => probe_Get W p l r F0 h h2 id hn)
    have HD := Lib.hid hd
    clear hh hd hn
    go_enter Tryz.func103, Tryz.ntmps103
    go_wp2_with fail
    refine (pool_isArray_no _ g _ H.out).mono ?_
    rintro e w0 ⟨rfl, hb0⟩
    have K0 := Lib.hid (blk_below H.out hb0)
    go_wp2_with fail
    refine (pool_inner _ g _ _ K0.out).mono ?_
    rintro e w1 ⟨rfl, hb1'⟩
    have hb1 := hb0.trans (hb1'.mono hb0.size)
    have D1 := Lib.hid (HD.out.below hb1)
    clear hb0 hb1' K0
    go_wp2_with fail
    refine (HC.out _ D1.out).mono ?_
    rintro e w2 ⟨rfl, hb2⟩
    have HB2 := Lib.hid (hb1.trans (hb2.mono hb1.size))
    clear hb2
    go_wp2_with fail
    go_ret
    exact ⟨rfl, HB2.out⟩
end Go.Proofs.YtgjaopfjffncbaaGreat
/- Package probe: Take. -/
namespace Go.Proofs.YtgjaopfjffncbaaGreat
open Go.ChangeShapes Go.WideShapes Go.ChangeAt Go.RowKit
set_option linter.unusedVariables false
set_option linter.unusedSimpArgs false
set_option maxRecDepth 100000

theorem step_zero {n h : Nat} (hh : h < n) : step n h 0 = h := by unfold step; rw [Nat.add_zero, Nat.mod_eq_of_lt hh]
theorem probe_Take_none (w : World) (g l : Nat) (r : List Nd) (F : Nat → Prop) (h : ProbeAt w g l r F) (hl : l ≤ 48) (id : Int) (hn : ∀ x ∈ r, isNode l x.1 = true) (h0 : getR r id = 0) :
    Calls Tryz.prog 248 #[.pointer (some ⟨g, 0, none⟩), .int .i64 id] w fun e w' => e = .returned (.int .i64 0) ∧ Below w.heap.size w w' := by
  obtain ⟨v, S, b, hh, ho, hI, hq3, hq34, hfree, rfl⟩ := h
  cases hN : isNode l id
  · have HN := Lib.hid hN
    have H := Lib.hid hh
    clear hh ho hI hN hn hfree
    go_enter Tryz.func248, Tryz.ntmps248
    go_wp2_with fail
    refine (probe_right _ g l _ id H.out rfl).mono ?_
    rintro e w1 ⟨rfl, hb1⟩
    have B1 : Below w.heap.size w w1 := Below.then_ (by repeat (first | with_reducible exact Below.refl _ _ | with_reducible assumption | ((with_reducible refine Below.setCell ?_ ?_ _); rotate_left; · (first | omega | exact Nat.le_refl _ | (simp <;> omega))) | (with_reducible refine Below.allocW ?_ _) | (with_reducible refine Below.drew ?_) | (with_reducible refine Below.extW ?_ _))) hb1
    have s1 : w.heap.size ≤ w1.heap.size := B1.size
    rw [HN.out]
    go_wp2_with fail
    go_ret
    exact ⟨rfl, (by repeat (first | with_reducible exact Below.refl _ _ | with_reducible assumption | ((with_reducible refine Below.setCell ?_ ?_ _); rotate_left; · (first | omega | exact Nat.le_refl _ | (simp <;> omega))) | (with_reducible refine Below.allocW ?_ _) | (with_reducible refine Below.drew ?_) | (with_reducible refine Below.extW ?_ _)))⟩
  · have hid := isNode_lt hN
    have hkb : id ≤ 562949953421312 := by have := pow_48 hl; have h3 := hid.2; omega
    have hid1 := hid.1
    obtain ⟨sb, off, cap, rfl, hcap⟩ := own_at0 ho (by rw [hI.len]; exact Nat.two_pow_pos b)
    have hm : r.length < 2 ^ b := by have := Nat.two_pow_pos b; omega
    have hl := hI.len
    have hSl : S.length ≤ 34359738368 := by rw [hl]; have := Nat.pow_le_pow_right (n := 2) (by decide) (show b ≤ 35 by omega); simpa using this
    have H := Lib.hid hh
    have HO := Lib.hid ho
    have HI := Lib.hid hI
    have HF := Lib.hid (And.intro hm (And.intro hfree hl))
    have HN := Lib.hid hN
    have HG := Lib.hid (fun i d (hL : LookAt S b id i d) => hL.get hI)
    rw [h0] at HG
    clear hh ho hI hfree hl hm hN hn hid h0
    go_enter Tryz.func248, Tryz.ntmps248
    go_wp2_with fail
    refine (probe_right _ g l _ id H.out rfl).mono ?_
    rintro e w1 ⟨rfl, hb1⟩
    have B1 : Below w.heap.size w w1 := Below.then_ (by repeat (first | with_reducible exact Below.refl _ _ | with_reducible assumption | ((with_reducible refine Below.setCell ?_ ?_ _); rotate_left; · (first | omega | exact Nat.le_refl _ | (simp <;> omega))) | (with_reducible refine Below.allocW ?_ _) | (with_reducible refine Below.drew ?_) | (with_reducible refine Below.extW ?_ _))) hb1
    have s1 : w.heap.size ≤ w1.heap.size := B1.size
    rw [HN.out]
    have k1 := blk_below H.out hb1
    have o1 := HO.out.below hb1
    have K1 := Lib.hid k1
    have O1 := Lib.hid o1
    clear k1 o1
    go_wp2_with fail
    refine (probe_look _ g b sb off _ cap _ _ _ S r id K1.out O1.out HI.out HF.out.1 hq3 (by omega) hid1 hkb).mono ?_
    rintro e w3 ⟨i, d, rfl, hL, hb3⟩
    have B3 : Below w.heap.size w w3 := Below.then_ (by repeat (first | with_reducible exact Below.refl _ _ | with_reducible assumption | ((with_reducible refine Below.setCell ?_ ?_ _); rotate_left; · (first | omega | exact Nat.le_refl _ | (simp <;> omega))) | (with_reducible refine Below.allocW ?_ _) | (with_reducible refine Below.drew ?_) | (with_reducible refine Below.extW ?_ _))) hb3
    have s3 : w.heap.size ≤ w3.heap.size := B3.size
    have k3 := blk_below K1.out hb3
    have o3 := O1.out.below hb3
    have cc3 := blk_cell k3
    have hil : i < S.length := by rw [HF.out.2.2]; exact hL.i_lt
    obtain ⟨x, hx, hx2, _⟩ := HG.out _ _ hL
    have d1 := o3.slT.cell_at hil 1 (.int .i64 S[i].2) rfl
    rw [List.getElem?_eq_getElem hil] at hx
    injection hx with hx
    rw [hx, hx2] at d1
    have zg3 := lt_of_block k3
    have zb3 := (o3.lt _ rfl).2
    clear hL hx hx2 k3 o3 hb3 K1 O1
    have hil2 : (i : Int) < (S.length : Int) := by omega
    go_wp2_with fail
    go_ret
    exact ⟨rfl, (by repeat (first | with_reducible exact Below.refl _ _ | with_reducible assumption | ((with_reducible refine Below.setCell ?_ ?_ _); rotate_left; · (first | omega | exact Nat.le_refl _ | (simp <;> omega))) | (with_reducible refine Below.allocW ?_ _) | (with_reducible refine Below.drew ?_) | (with_reducible refine Below.extW ?_ _)))⟩
theorem del_less {b i t E p n : Nat} (hi : i < 2 ^ b) (ht : t < E) (hE : E < 2 ^ b) (hp : p = step (2 ^ b) i t) (hn : n = 2 ^ b) : E - wayOf (2 ^ b) i (intOf (.int .i64 (((p : Int) + 1) % (n : Int)))).toNat < E - wayOf (2 ^ b) i (intOf (.int .i64 (p : Int))).toNat := by
  have e1 : (intOf (.int .i64 (((p : Int) + 1) % (n : Int)))).toNat = (p + 1) % n := by
    show (((p : Int) + 1) % (n : Int)).toNat = _
    rw [show ((p : Int) + 1) % (n : Int) = (((p + 1) % n : Nat) : Int) by push_cast; rfl, Int.toNat_natCast]
  have e2 : (intOf (.int .i64 (p : Int))).toNat = p := Int.toNat_natCast p
  rw [e1, e2, hn, hp, step_succ (Nat.two_pow_pos b), way_of hi (by omega), way_of hi (by omega)]
  omega
theorem probe_taken {w : World} {g l b sb off cap n : Nat} {r' S : List Nd} {u m : Int} {v2 v3 : Value} (hh : w.heap[g]? = some (.cells #[.int .i64 l, .int .i64 b, v2, v3, .slice (some ⟨sb, off, none⟩) n cap] 220 (0, 0)))
    (ho : Own w 0 115 encN (.slice (some ⟨sb, off, none⟩) n cap) S) (hI : PInv b S r') (h3 : 3 ≤ b) (h34 : b ≤ 34) (hfree : 2 * r'.length ≤ 2 ^ b) (hu : (r'.length : Int) = u) (hm : sumR r' = m) :
    ProbeAt ((w.setCell ⟨g, 2, none⟩ (.int .i64 u)).setCell ⟨g, 3, none⟩ (.int .i64 m)) g l r' (foot2 g (.slice (some ⟨sb, off, none⟩) n cap)) := by
  have k1 := heap_set_at (i := 2) hh (.int .i64 u)
  have o1 := ho.setCell (p := ⟨g, 2, none⟩) (ho.ne_block hh (by decide)) (.int .i64 u)
  have k2 := heap_set_at (i := 3) k1 (.int .i64 m)
  have o2 := o1.setCell (p := ⟨g, 3, none⟩) (o1.ne_block k1 (by decide)) (.int .i64 m)
  subst hm hu
  exact ⟨_, S, b, by rw [k2]; rfl, o2, hI, h3, h34, hfree, rfl⟩
set_option maxHeartbeats 8000000 in
theorem probe_Take_some (w : World) (g l : Nat) (r : List Nd) (F : Nat → Prop) (h : ProbeAt w g l r F) (hf : Fits l r) (hl : l ≤ 48) (id : Int) (hn : ∀ x ∈ r, isNode l x.1 = true) (h0 : getR r id ≠ 0) :
    Calls Tryz.prog 248 #[.pointer (some ⟨g, 0, none⟩), .int .i64 id] w fun e w' => e = .returned (.int .i64 (getR r id)) ∧ ProbeAt w' g l (delR r id) F ∧ Turn F w w' := by
  have hN : isNode l id = true := by
    cases hN : isNode l id
    · exact absurd (getR_out hn hN) h0
    · rfl
  have hp := getR_nonneg hf.roll id
  have hle := getR_le_sum hf.roll id
  have hs := hf.sum
  have hlen := len_del_pos h0
  have hsum := sumR_del hf.roll id
  have hls := len_le_sum hf.roll
  have hpos : 0 < getR r id := by omega
  have hperm := delR_perm hf.roll h0
  have hroll := hf.roll.del id
  have hids : ∀ x ∈ delR r id, 1 ≤ x.1 ∧ x.1 ≤ 562949953421312 := fun x hx => by
    have h1 := isNode_lt (hn x (delR_sub hx))
    have := pow_48 hl
    omega
  obtain ⟨v, S0, b, hh, ho, hI, hq3, hq34, hfree, rfl⟩ := h
  have hid := isNode_lt hN
  have hkb : id ≤ 562949953421312 := by have := pow_48 hl; have h3 := hid.2; omega
  have hid1 := hid.1
  obtain ⟨sb, off, cap, rfl, hcap⟩ := own_at0 ho (by rw [hI.len]; exact Nat.two_pow_pos b)
  have hm : r.length < 2 ^ b := by have := Nat.two_pow_pos b; omega
  have hl2 := hI.len
  have hSl : S0.length ≤ 34359738368 := by rw [hl2]; have := Nat.pow_le_pow_right (n := 2) (by decide) (show b ≤ 35 by omega); simpa using this
  have hrl : 1 ≤ (r.length : Int) := by have : (0 : Int) ≤ ((delR r id).length : Int) := by omega
                                        omega
  have H := Lib.hid hh
  have HO := Lib.hid ho
  have HI := Lib.hid hI
  have HF := Lib.hid (And.intro hm (And.intro hfree hl2))
  have HL2 := Lib.hid hl2
  have HN := Lib.hid hN
  have HM := Lib.hid (And.intro hlen (And.intro hsum (And.intro hperm (And.intro hroll hids))))
  have HG := Lib.hid (fun i d (hL : LookAt S0 b id i d) => hL.hit hI h0)
  have hs0 : 0 ≤ sumR r - getR r id := by omega
  have hs1 : sumR r ≤ 72057594037927935 := hs
  generalize getR r id = n at HM HG hp hle h0 hpos hs0 ⊢
  clear hl2 hh ho hI hfree hm hN hn hid hlen hsum hperm hroll hids hf hs
  go_enter Tryz.func248, Tryz.ntmps248
  go_wp2_with fail
  refine (probe_right _ g l _ id H.out rfl).mono ?_
  rintro e w1 ⟨rfl, hb1⟩
  have B1 : Below w.heap.size w w1 := Below.then_ (by repeat (first | with_reducible exact Below.refl _ _ | with_reducible assumption | ((with_reducible refine Below.setCell ?_ ?_ _); rotate_left; · (first | omega | exact Nat.le_refl _ | (simp <;> omega))) | (with_reducible refine Below.allocW ?_ _) | (with_reducible refine Below.drew ?_) | (with_reducible refine Below.extW ?_ _))) hb1
  have s1 : w.heap.size ≤ w1.heap.size := B1.size
  rw [HN.out]
  have K1 := Lib.hid (blk_below H.out hb1)
  have O1 := Lib.hid (HO.out.below hb1)
  go_wp2_with fail
  refine (probe_look _ g b sb off _ cap _ _ _ S0 r id K1.out O1.out HI.out HF.out.1 hq3 (by omega) hid1 hkb).mono ?_
  rintro e w3 ⟨i, d, rfl, hL, hb3⟩
  have B3 : Below w.heap.size w w3 := Below.then_ (by repeat (first | with_reducible exact Below.refl _ _ | with_reducible assumption | ((with_reducible refine Below.setCell ?_ ?_ _); rotate_left; · (first | omega | exact Nat.le_refl _ | (simp <;> omega))) | (with_reducible refine Below.allocW ?_ _) | (with_reducible refine Below.drew ?_) | (with_reducible refine Below.extW ?_ _))) hb3
  have s3 : w.heap.size ≤ w3.heap.size := B3.size
  have k3 := blk_below K1.out hb3
  have o3 := O1.out.below hb3
  have cc3 := blk_cell k3
  have cf3 := blk_frozen k3
  have hil : i < S0.length := by rw [HF.out.2.2]; exact hL.i_lt
  have hx := HG.out _ _ hL
  have d1 := o3.slT.cell_at hil 1 (.int .i64 S0[i].2) rfl
  have d0 := o3.slT.cell_at hil 0 (.int .i64 S0[i].1) rfl
  have HX := Lib.hid hx
  rw [List.getElem?_eq_getElem hil] at hx
  injection hx with hx
  rw [hx] at d1 d0
  simp only [Nat.add_zero] at d0
  have fb := o3.frozen
  have zg3 := lt_of_block k3
  have zb3 := (o3.lt _ rfl).2
  have hnb : g ≠ sb := fun he => o3.ne_block k3 (by decide) (by rw [he]; rfl)
  have T3 : Turn (foot2 g (.slice (some ⟨sb, off, none⟩) S0.length cap)) w w3 := .of_below B3
  have HI2 := Lib.hid (show i < 2 ^ b from hL.i_lt)
  obtain ⟨E, hE⟩ := Del.start HI.out HX.out h0 HF.out.1 HM.out.2.2.1
  have HE := Lib.hid hE
  have K3 := Lib.hid k3
  have o4 := own_slot o3 i hil (0, 0)
  have O4 := Lib.hid o4
  have k4 : ((w3.setCell ⟨sb, off + i * 2, none⟩ (.int .i64 0)).setCell ⟨sb, off + i * 2 + 1, none⟩ (.int .i64 0)).heap[g]? = _ := (Below.heap_setCell _ _ _ _ hnb).trans ((Below.heap_setCell _ _ _ _ hnb).trans k3)
  have K4 := Lib.hid k4
  have T4 := Lib.hid ((T3.setCell (p := ⟨sb, off + i * 2, none⟩) (.inl (.inr rfl)) (.int .i64 0)).setCell (p := ⟨sb, off + i * 2 + 1, none⟩) (.inl (.inr rfl)) (.int .i64 0))
  clear hL hx k3 o3 hb3 K1 O1 T3 hE o4 k4
  have hil2 : (i : Int) < (S0.length : Int) := by omega
  go_upto_region 8 with fail
  generalize (w3.setCell ⟨sb, off + i * 2, none⟩ (.int .i64 0)).setCell ⟨sb, off + i * 2 + 1, none⟩ (.int .i64 0) = W4 at K4 O4 T4 ⊢
  clear cc3 cf3 d1 d0 fb zg3 zb3 K3
  go_wp2_with fail
  refine (probe_next _ g S0.length b i _ _ cap K4.out rfl HL2.out (by omega) hil).mono ?_
  rintro e w5 ⟨rfl, hb5⟩
  have K5 := Lib.hid (blk_below K4.out hb5)
  have O5 := Lib.hid (O4.out.below hb5)
  have T5 := Lib.hid (T4.out.more hb5)
  clear K4 O4 T4 hb5 B3 s3
  go_wp2_with fail
  go_loopw [5, 8] (fun hole at_ wr => ∃ (S : List Nd) (c t : Nat), hole = .int .i64 (step (2 ^ b) i c) ∧ at_ = .int .i64 (step (2 ^ b) i t) ∧ Del b (S0.set i (0, 0)) i E S (delR r id) c t ∧
    wr.heap[g]? = some (.cells #[.int .i64 l, .int .i64 b, .int .i64 r.length, .int .i64 (sumR r), .slice (some ⟨sb, off, none⟩) S0.length cap] 220 (0, 0)) ∧ Own wr 0 115 encN (.slice (some ⟨sb, off, none⟩) S0.length cap) S ∧
    Turn (foot2 g (.slice (some ⟨sb, off, none⟩) S0.length cap)) w wr) (fun _ at_ _ => E - wayOf (2 ^ b) i (intOf at_).toNat)
  case atStart => exact ⟨_, 0, 1, by rw [step_zero HI2.out], val_int (by rw [HL2.out]; unfold step; push_cast; rfl), HE.out, K5.out, O5.out, T5.out⟩
  case round =>
    obtain ⟨S, c, t, rfl, rfl, hD, hK, hO, hT⟩ := hrel
    have HD := Lib.hid hD
    have KW := Lib.hid hK
    have OW := Lib.hid hO
    have TW := Lib.hid hT
    have hSl2 : S.length = S0.length := by rw [hD.len, HL2.out]
    have HSL := Lib.hid hSl2
    have hpb := Nat.two_pow_pos b
    obtain ⟨p, hp_⟩ : ∃ p, p = step (2 ^ b) i t := ⟨_, rfl⟩
    obtain ⟨q, hq_⟩ : ∃ q, q = step (2 ^ b) i c := ⟨_, rfl⟩
    have HP := Lib.hid hp_
    have HQ := Lib.hid hq_
    have hpn : p < 2 ^ b := by rw [hp_]; exact step_lt hpb
    have hqn : q < 2 ^ b := by rw [hq_]; exact step_lt hpb
    have hpl : p < S.length := by rw [hD.len]; exact hpn
    have hql : q < S.length := by rw [hD.len]; exact hqn
    have hpl0 : p < S0.length := by rw [← hSl2]; exact hpl
    have hql0 : q < S0.length := by rw [← hSl2]; exact hql
    rw [← hp_, ← hq_]
    have cc := blk_cell hK
    have cf := blk_frozen hK
    have zg := lt_of_block hK
    have zb := (hO.lt _ rfl).2
    have fb := hO.frozen
    have d0 := hO.slT.cell_at hpl 0 (.int .i64 S[p].1) rfl
    have d1 := hO.slT.cell_at hpl 1 (.int .i64 S[p].2) rfl
    simp only [Nat.add_zero] at d0
    obtain ⟨x, hx⟩ : ∃ x, x = S[p] := ⟨_, rfl⟩
    rw [← hx] at d0 d1
    have HX := Lib.hid (show S[p]? = some x by rw [hx]; exact List.getElem?_eq_getElem hpl)
    have HX2 := Lib.hid (show S[step (2 ^ b) i t]? = some x by rw [← hp_]; exact HX.out)
    clear hD hK hO hT hp_ hq_ hx hpb hSl2
    by_cases hx0 : 0 < x.2
    · have hmem : Hid (1 ≤ x.1 ∧ x.1 ≤ 562949953421312) := Lib.hid (HM.out.2.2.2.2 x (HD.out.perm.subset (List.mem_filter.2 ⟨List.mem_of_getElem? HX.out, by simp [full]; omega⟩)))
      have HH := Lib.hid (fun W => probe_Home W b x.1 (by omega) (by omega) hmem.out.1 hmem.out.2)
      have hhn : homeOf b x.1 < 2 ^ b := homeOf_lt (by omega) x.1
      have HS1 := Lib.hid (fun hw => HD.out.stay (by omega) HX2.out (by omega) hw)
      have HS2 := Lib.hid (fun hw => HD.out.move (by omega) HX2.out (by omega) hw)
      have HE2 := Lib.hid (HD.out.ne HX2.out (by omega))
      rw [← HP.out, ← HQ.out] at HS1 HS2
      generalize homeOf b x.1 = ho at HH hhn HS1 HS2
      have hho0 : ho < S0.length := by rw [HL2.out]; exact hhn
      go_upto_region 11 with fail
      refine wp_region_ext (by kernel_rfl) (by kernel_rfl) ?_
      repeat (go_big_quiet_step ((go_at_call 224; exact quiet_ext (HH.out _))))
      refine wpQuiet_nil ?_
      intro w6 h6
      have hb6 := below_of_ext h6
      have K6 := Lib.hid (blk_below KW.out hb6)
      have O6 := Lib.hid (OW.out.below hb6)
      have T6 := Lib.hid (TW.out.more hb6)
      clear h6 hb6 cc cf zg zb fb d0 d1
      go_wp2_with fail
      refine (probe_way _ g S0.length b ho q _ _ cap K6.out rfl HL2.out (by omega) hho0 hql0).mono ?_
      rintro e w7 ⟨rfl, hb7⟩
      have K7 := Lib.hid (blk_below K6.out hb7)
      have O7 := Lib.hid (O6.out.below hb7)
      have T7 := Lib.hid (T6.out.more hb7)
      clear K6 O6 T6 hb7
      go_wp2_with fail
      refine (probe_way _ g S0.length b ho p _ _ cap K7.out rfl HL2.out (by omega) hho0 hpl0).mono ?_
      rintro e w8 ⟨rfl, hb8⟩
      have K8 := Lib.hid (blk_below K7.out hb8)
      have O8 := Lib.hid (O7.out.below hb8)
      have T8 := Lib.hid (T7.out.more hb8)
      clear K7 O7 T7 hb8
      rw [← HL2.out] at HS1 HS2
      generalize wayOf S0.length ho p = wp_ at HS1 HS2 ⊢
      generalize wayOf S0.length ho q = wq at HS1 HS2 ⊢
      by_cases hw : wq ≤ wp_
      · have hwi : (wq : Int) ≤ (wp_ : Int) := by omega
        have HS := Lib.hid (HS2.out hw)
        clear HS1 HS2
        have cc := blk_cell K8.out
        have cf := blk_frozen K8.out
        have zg := lt_of_block K8.out
        have zb := (O8.out.lt _ rfl).2
        have fb := O8.out.frozen
        have d0 := O8.out.slT.cell_at hpl 0 (.int .i64 S[p].1) rfl
        have d1 := O8.out.slT.cell_at hpl 1 (.int .i64 S[p].2) rfl
        have d2 := O8.out.slT.cell_at hql 0 (.int .i64 S[q].1) rfl
        have d3 := O8.out.slT.cell_at hql 1 (.int .i64 S[q].2) rfl
        have hxx : S[p] = x := by have := HX.out; rw [List.getElem?_eq_getElem hpl] at this; exact Option.some.inj this
        rw [hxx] at d0 d1
        simp only [Nat.add_zero] at d0 d2
        obtain ⟨y, hy⟩ : ∃ y, y = S[q] := ⟨_, rfl⟩
        rw [← hy] at d2 d3
        clear hy
        have hpq : ¬ p = q := fun he => by
          rw [HP.out, HQ.out] at he
          have h1 := HD.out.ct
          have h2 := HE2.out
          have h3 := HD.out.En
          have := step_inj (by omega) (by omega) he
          omega
        have hpq1 : ¬ q = p := fun he => hpq he.symm
        have hpq2 : ¬ p * 2 = q * 2 + 1 := by omega
        have hpq3 : ¬ q * 2 + 1 = p * 2 := by omega
        have hpq4 : ¬ p * 2 + 1 = q * 2 := by omega
        have hpq5 : ¬ q * 2 = p * 2 + 1 := by omega
        have hpi : (p : Int) < (S0.length : Int) := by omega
        have hqi : (q : Int) < (S0.length : Int) := by omega
        have o9 := own_slot (own_slot O8.out q hql x) p (by simpa using hpl) (0, 0)
        have O9 := Lib.hid o9
        have k9 := (Below.heap_setCell (((w8.setCell ⟨sb, off + q * 2, none⟩ (.int .i64 x.1)).setCell ⟨sb, off + q * 2 + 1, none⟩ (.int .i64 x.2)).setCell ⟨sb, off + p * 2, none⟩ (.int .i64 0)) ⟨sb, off + p * 2 + 1, none⟩ (.int .i64 0) g hnb).trans ((Below.heap_setCell ((w8.setCell ⟨sb, off + q * 2, none⟩ (.int .i64 x.1)).setCell ⟨sb, off + q * 2 + 1, none⟩ (.int .i64 x.2)) ⟨sb, off + p * 2, none⟩ (.int .i64 0) g hnb).trans ((Below.heap_setCell (w8.setCell ⟨sb, off + q * 2, none⟩ (.int .i64 x.1)) ⟨sb, off + q * 2 + 1, none⟩ (.int .i64 x.2) g hnb).trans ((Below.heap_setCell w8 ⟨sb, off + q * 2, none⟩ (.int .i64 x.1) g hnb).trans K8.out)))
        have K9 := Lib.hid k9
        have T9 := Lib.hid ((((T8.out.setCell (p := ⟨sb, off + q * 2, none⟩) (.inl (.inr rfl)) (.int .i64 x.1)).setCell (p := ⟨sb, off + q * 2 + 1, none⟩) (.inl (.inr rfl)) (.int .i64 x.2)).setCell (p := ⟨sb, off + p * 2, none⟩) (.inl (.inr rfl)) (.int .i64 0)).setCell (p := ⟨sb, off + p * 2 + 1, none⟩) (.inl (.inr rfl)) (.int .i64 0))
        clear o9 k9 hxx
        go_upto_region 13 with fail
        go_region
        generalize (((w8.setCell ⟨sb, off + q * 2, none⟩ (.int .i64 x.1)).setCell ⟨sb, off + q * 2 + 1, none⟩ (.int .i64 x.2)).setCell ⟨sb, off + p * 2, none⟩ (.int .i64 0)).setCell ⟨sb, off + p * 2 + 1, none⟩ (.int .i64 0) = w9 at K9 O9 T9 ⊢
        have K9 : Hid (w9.drew.heap[g]? = _) := Lib.hid K9.out
        have O9 := Lib.hid O9.out.drew
        have T9 := Lib.hid T9.out.drew
        generalize w9.drew = w9d at K9 O9 T9 ⊢
        clear cc cf zg zb fb d0 d1 d2 d3 hpq hpq1 hpq2 hpq3 hpq4 hpq5 K8 O8 T8
        go_wp2_with fail
        refine (probe_next _ g S0.length b p _ _ cap K9.out rfl HL2.out (by omega) hpl0).mono ?_
        rintro e wA ⟨rfl, hbA⟩
        have KA := Lib.hid (blk_below K9.out hbA)
        have OA := Lib.hid (O9.out.below hbA)
        have TA := Lib.hid (T9.out.more hbA)
        go_wp2_with fail
        go_roundw
        case rel => exact ⟨_, t, t + 1, by rw [HP.out], by rw [HP.out, HL2.out]; exact val_int (by push_cast; exact_mod_cast step_next (Nat.two_pow_pos b)), HS.out, KA.out, OA.out, TA.out⟩
        case measure => exact del_less HI2.out HE2.out HD.out.En HP.out HL2.out
      · have hwi : decide ((wq : Int) ≤ (wp_ : Int)) = false := by simp; omega
        have HS := Lib.hid (HS1.out (by omega))
        clear HS1 HS2
        go_wp2_with fail
        refine (probe_next _ g S0.length b p _ _ cap K8.out rfl HL2.out (by omega) hpl0).mono ?_
        rintro e w9 ⟨rfl, hb9⟩
        have K9 := Lib.hid (blk_below K8.out hb9)
        have O9 := Lib.hid (O8.out.below hb9)
        have T9 := Lib.hid (T8.out.more hb9)
        go_wp2_with fail
        go_roundw
        case rel => exact ⟨S, c, t + 1, by rw [HQ.out], by rw [HP.out, HL2.out]; exact val_int (by push_cast; exact_mod_cast step_next (Nat.two_pow_pos b)), HS.out, K9.out, O9.out, T9.out⟩
        case measure => exact del_less HI2.out HE2.out HD.out.En HP.out HL2.out
    · have hx0' : decide (0 < x.2) = false := by simpa using hx0
      have hz : x.2 = 0 := by
        by_cases hz : x.2 = 0
        · exact hz
        · have := (HM.out.2.2.2.1.2 x (HD.out.perm.subset (List.mem_filter.2 ⟨List.mem_of_getElem? HX.out, by simp [full]; omega⟩))).2
          omega
      have HPI := Lib.hid (HD.out.done HX2.out hz HM.out.2.2.2.1.ids fun y hy => (HM.out.2.2.2.1.2 y hy).2)
      have hpi : (p : Int) < (S0.length : Int) := by omega
      have hrl2 : (r.length : Int) ≤ 72057594037927935 := by omega
      clear hz HD HX HX2
      go_wp2_with fail
      go_ret
      refine ⟨rfl, ?_, ?_⟩
      · exact probe_taken (r' := delR r id) KW.out OW.out HPI.out hq3 hq34 (by have := HM.out.1; have := HF.out.2.1; omega) HM.out.1 HM.out.2.1
      · refine Turn.setCell (Turn.setCell TW.out ?_ _) ?_ _
        · exact .inl (.inl rfl)
        · exact .inl (.inl rfl)
theorem probe_Take (w : World) (g l : Nat) (r : List Nd) (F : Nat → Prop) (h : ProbeAt w g l r F) (hf : Fits l r) (hl : l ≤ 48) (id : Int) (hn : ∀ x ∈ r, isNode l x.1 = true) :
    Calls Tryz.prog 248 #[.pointer (some ⟨g, 0, none⟩), .int .i64 id] w fun e w' => e = .returned (.int .i64 (getR r id)) ∧ ProbeAt w' g l (delR r id) F ∧ Turn F w w' := by
  by_cases h0 : getR r id = 0
  · refine (probe_Take_none w g l r F h hl id hn h0).mono ?_
    rintro e w' ⟨rfl, hb⟩
    rw [h0, del_zero hf.roll h0]
    exact ⟨rfl, h.below hb, .of_below hb⟩
  · exact probe_Take_some w g l r F h hf hl id hn h0
end Go.Proofs.YtgjaopfjffncbaaGreat
/- Package pool: Take. -/
namespace Go.Proofs.YtgjaopfjffncbaaGreat
open Go.ChangeShapes Go.WideShapes Go.ChangeAt Go.RowKit
set_option linter.unusedVariables false
set_option linter.unusedSimpArgs false
set_option maxRecDepth 100000

theorem Fits.del {l : Nat} {r : List Nd} (hf : Fits l r) (id : Int) : Fits l (delR r id) :=
  ⟨hf.roll.del id, fun x hx => hf.lt x (delR_sub hx), by rw [sumR_del hf.roll]; have := getR_nonneg hf.roll id; have := hf.sum; omega⟩
theorem pool_Take (w : World) (g K l : Nat) (r : List Nd) (F : Nat → Prop) (h : PoolAt w g K l r F) (id : Int) :
    Calls Tryz.prog 242 #[.pointer (some ⟨g, 0, none⟩), .int .i64 id] w fun e w' => e = .returned (.int .i64 (getR r id)) ∧ PoolAt w' g K l (delR r id) F ∧ Turn F w w' := by
  have hn := h.fits.nodes h.l_le
  obtain ⟨h1, h2, h3, p, F0, rfl, h4⟩ := h
  have hF := h3.del id
  rcases h4 with ⟨rfl, h16, hh, hd⟩ | ⟨rfl, hh, hd⟩
  · have hgF : ¬ F0 g := fun hg => by
      rcases hd.typed g hg with h | h
      · exact absurd (typeAt_eq h (.of hh)) (by decide)
      · exact absurd (typeAt_eq h (.of hh)) (by decide)
    have HC := Lib.hid (fun W (h : DenseAt W p l r F0) => dense_Take W p l r F0 h h3 id hn)
    have H := Lib.hid hh
    have HD := Lib.hid hd
    generalize getR r id = n at HC ⊢
    clear hh hd hn
    go_enter Tryz.func242, Tryz.ntmps242
    go_wp2_with fail
    refine (pool_isArray _ g p _ H.out).mono ?_
    rintro e w1 ⟨rfl, hb1⟩
    have k1 := blk_below H.out hb1
    have c1 := blk_cell k1
    have z1 := lt_of_block k1
    have D1 := Lib.hid (HD.out.below hb1)
    have K1 := Lib.hid k1
    clear k1
    go_wp2_with fail
    refine (HC.out _ D1.out).mono ?_
    rintro e w2 ⟨rfl, hd2, hT2⟩
    have HP : Hid (PoolAt w2 g 1 l (delR r id) (footP g F0) ∧ Turn (footP g F0) w w2) :=
      ⟨⟨h1, h2, hF, p, F0, rfl, .inl ⟨rfl, h16, hT2.keep K1.out hgF, hd2⟩⟩, (Turn.of_below hb1).trans hT2 (fun b hb => .inl (.inr hb))⟩
    clear hd2 hT2
    go_wp2_with fail
    go_ret
    exact ⟨rfl, HP.out⟩
  · have hgF : ¬ F0 g := fun hg => by
      rcases hd.typed g hg with h | h
      · exact absurd (typeAt_eq h (.of hh)) (by decide)
      · exact absurd (typeAt_eq h (.of hh)) (by decide)
    have HC := Lib.hid (fun W (h : ProbeAt W p l r F0) => probe_Take W p l r F0 h h3 h2 id hn)
    have H := Lib.hid hh
    have HD := Lib.hid hd
    generalize getR r id = n at HC ⊢
    clear hh hd hn
    go_enter Tryz.func242, Tryz.ntmps242
    go_wp2_with fail
    refine (pool_isArray_no _ g _ H.out).mono ?_
    rintro e w0 ⟨rfl, hb0⟩
    have K0 := Lib.hid (blk_below H.out hb0)
    go_wp2_with fail
    refine (pool_inner _ g _ _ K0.out).mono ?_
    rintro e w1 ⟨rfl, hb1'⟩
    have hb1 := hb0.trans (hb1'.mono hb0.size)
    have D1 := Lib.hid (HD.out.below hb1)
    have K1 := Lib.hid (blk_below H.out hb1)
    clear hb0 hb1' K0
    go_wp2_with fail
    refine (HC.out _ D1.out).mono ?_
    rintro e w2 ⟨rfl, hd2, hT2⟩
    have HP : Hid (PoolAt w2 g 2 l (delR r id) (footP g F0) ∧ Turn (footP g F0) w w2) :=
      ⟨⟨h1, h2, hF, p, F0, rfl, .inr ⟨rfl, hT2.keep K1.out hgF, hd2⟩⟩, (Turn.of_below hb1).trans hT2 (fun b hb => .inl (.inr hb))⟩
    clear hd2 hT2
    go_wp2_with fail
    go_ret
    exact ⟨rfl, HP.out⟩
end Go.Proofs.YtgjaopfjffncbaaGreat
/- Package fold: Mass, Ready, Do. -/
namespace Go.Proofs.YtgjaopfjffncbaaGreat
open Go.ChangeShapes Go.WideShapes Go.ChangeAt Go.RowKit
set_option linter.unusedVariables false
set_option linter.unusedSimpArgs false
set_option maxRecDepth 100000

theorem kids_yes {l : Nat} {p : Int} (h : (kidsOf l p).2.2 = true) : kidsOf l p = (2 * p, 2 * p + 1, true) := by
  unfold kidsOf at h ⊢
  split
  · rfl
  · rename_i hn; rw [if_neg hn] at h; cases h
theorem kids_no {l : Nat} {p : Int} (h : (kidsOf l p).2.2 = false) : kidsOf l p = (0, 0, false) := by
  unfold kidsOf at h ⊢
  split
  · rename_i hn; rw [if_pos hn] at h; cases h
  · rfl
theorem fold_Mass (w : World) (g K l : Nat) (r : List Nd) (F : Nat → Prop) (h : PoolAt w g K l r F) (p : Int) :
    Calls Tryz.prog 241 #[.pointer (some ⟨g, 0, none⟩), .int .i64 p] w fun e w' => e = .returned (.tuple #[.int .i64 (if (kidsOf l p).2.2 = true then pairR r p else 0), .int .i64 (if (kidsOf l p).2.2 = true then pairR r p + getR r p else 0)]) ∧ Below w.heap.size w w' := by
  have HL := Lib.hid (fun W h => pool_L W g K l r F h)
  have HP := Lib.hid h
  cases hk : (kidsOf l p).2.2
  · have HK := Lib.hid (kids_no hk)
    rw [if_neg (by simp), if_neg (by simp)]
    clear h hk
    go_enter Tryz.func241, Tryz.ntmps241
    go_wp2_with fail
    refine (HL.out _ HP.out).mono ?_
    rintro e w1 ⟨rfl, hb1⟩
    have B1 := Lib.hid hb1
    go_wp2_with fail
    refine (twig_Kids _ l p).mono ?_
    rintro e w2 ⟨rfl, hb2⟩
    rw [HK.out]
    unfold endsV
    have B2 := Lib.hid (Below.then_ B1.out hb2)
    clear hb1 hb2
    go_wp2_with fail
    go_ret2
    exact ⟨rfl, B2.out⟩
  · have HK := Lib.hid (kids_yes hk)
    rw [if_pos rfl, if_pos rfl]
    have HG := Lib.hid (fun W id h => pool_Get W g K l r F h id)
    have hs := h.fits.sum
    have a0 := getR_nonneg h.fits.roll (2 * p)
    have a1 := getR_le_sum h.fits.roll (2 * p)
    have b0 := getR_nonneg h.fits.roll (2 * p + 1)
    have b1 := getR_le_sum h.fits.roll (2 * p + 1)
    have c0 := getR_nonneg h.fits.roll p
    have c1 := getR_le_sum h.fits.roll p
    have HG1 := Lib.hid (fun W h => HG.out W (2 * p) h)
    have HG2 := Lib.hid (fun W h => HG.out W (2 * p + 1) h)
    have HG3 := Lib.hid (fun W h => HG.out W p h)
    unfold pairR
    generalize getR r (2 * p) = n1 at HG1 a0 a1 ⊢
    generalize getR r (2 * p + 1) = n2 at HG2 b0 b1 ⊢
    generalize getR r p = n3 at HG3 c0 c1 ⊢
    generalize sumR r = n4 at hs a1 b1 c1
    clear h hk HG
    go_enter Tryz.func241, Tryz.ntmps241
    go_wp2_with fail
    refine (HL.out _ HP.out).mono ?_
    rintro e w1 ⟨rfl, hb1⟩
    have B1 := Lib.hid hb1
    go_wp2_with fail
    refine (twig_Kids _ l p).mono ?_
    rintro e w2 ⟨rfl, hb2⟩
    rw [HK.out]
    unfold endsV
    have B2 := Lib.hid (Below.then_ B1.out hb2)
    clear hb1 hb2
    go_wp2_with fail
    refine (HG1.out _ (HP.out.below B2.out)).mono ?_
    rintro e w3 ⟨rfl, hb3⟩
    have B3 := Lib.hid (Below.then_ B2.out hb3)
    clear hb3
    go_wp2_with fail
    refine (HG2.out _ (HP.out.below B3.out)).mono ?_
    rintro e w4 ⟨rfl, hb4⟩
    have B4 := Lib.hid (Below.then_ B3.out hb4)
    clear hb4
    go_wp2_with fail
    refine (HG3.out _ (HP.out.below B4.out)).mono ?_
    rintro e w5 ⟨rfl, hb5⟩
    have B5 := Lib.hid (Below.then_ B4.out hb5)
    clear hb5
    go_wp2_with fail
    go_ret2
    exact ⟨rfl, B5.out⟩
theorem fold_Ready (w : World) (g K l : Nat) (r : List Nd) (F : Nat → Prop) (h : PoolAt w g K l r F) (p most : Int) :
    Calls Tryz.prog 221 #[.pointer (some ⟨g, 0, none⟩), .int .i64 p, .int .i64 most] w fun e w' => e = .returned (.bool (readyR l r p most)) ∧ Below w.heap.size w w' := by
  have HM := Lib.hid (fold_Mass w g K l r F h p)
  cases hk : (kidsOf l p).2.2
  · have e1 : readyR l r p most = false := by simp [readyR, hk]
    rw [e1]
    rw [if_neg (by simp [hk]), if_neg (by simp [hk])] at HM
    clear h hk e1
    go_enter Tryz.func221, Tryz.ntmps221
    go_wp2_with fail
    refine HM.out.mono ?_
    rintro e w1 ⟨rfl, hb1⟩
    go_wp2_with fail
    go_ret
    exact ⟨rfl, hb1⟩
  · have e1 : readyR l r p most = decide (0 < pairR r p ∧ pairR r p + getR r p ≤ most) := by simp [readyR, hk]
    rw [e1]
    rw [if_pos hk, if_pos hk] at HM
    generalize pairR r p + getR r p = m at HM ⊢
    generalize pairR r p = n at HM ⊢
    clear h hk e1
    by_cases h1 : 0 < n
    · by_cases h2 : m ≤ most
      · rw [decide_eq_true ⟨h1, h2⟩]
        go_enter Tryz.func221, Tryz.ntmps221
        go_wp2_with fail
        refine HM.out.mono ?_
        rintro e w1 ⟨rfl, hb1⟩
        go_wp2_with fail
        go_ret
        exact ⟨rfl, hb1⟩
      · rw [decide_eq_false (fun h => h2 h.2)]
        have h3 : decide (m ≤ most) = false := by simpa using h2
        clear h2
        go_enter Tryz.func221, Tryz.ntmps221
        go_wp2_with fail
        refine HM.out.mono ?_
        rintro e w1 ⟨rfl, hb1⟩
        go_wp2_with fail
        go_ret
        exact ⟨rfl, hb1⟩
    · rw [decide_eq_false (fun h => h1 h.1)]
      have h3 : decide (0 < n) = false := by simpa using h1
      clear h1
      go_enter Tryz.func221, Tryz.ntmps221
      go_wp2_with fail
      refine HM.out.mono ?_
      rintro e w1 ⟨rfl, hb1⟩
      go_wp2_with fail
      go_ret
      exact ⟨rfl, hb1⟩
/-- What a call that writes to a pool leaves. -/
def PoolTo (w : World) (g K l : Nat) (s : List Nd) (F : Nat → Prop) (w' : World) : Prop := ∃ F', PoolAt w' g K l s F' ∧ Turn F w w' ∧ Grow w F F'
theorem fold_Do (w : World) (g K l : Nat) (r : List Nd) (F : Nat → Prop) (h : PoolAt w g K l r F) (p most : Int) (hy : readyR l r p most = true) (hr30 : r.length < 1073741824) :
    Calls Tryz.prog 222 #[.pointer (some ⟨g, 0, none⟩), .int .i64 p] w fun e w' => (∃ n, e = .returned (.int .i64 n)) ∧ PoolTo w g K l (foldR r p) F w' := by
  obtain ⟨hk, hpos, hmost⟩ := ready_iff.1 hy
  have hl := h.l_le
  have hid := isNode_lt (kids_iff.1 hk).1
  obtain ⟨k, rfl⟩ : ∃ k : Nat, p = k := ⟨p.toNat, by omega⟩
  have HK := Lib.hid (kids_yes hk)
  have HL := Lib.hid (fun W h => pool_L W g K l r F h)
  have HP := Lib.hid h
  have hs := h.fits.sum
  have hroll := h.fits.roll
  have a0 := getR_nonneg hroll (2 * (k : Int))
  have a1 := getR_le_sum hroll (2 * (k : Int))
  have b0 := getR_nonneg hroll (2 * (k : Int) + 1)
  have b1 := getR_le_sum hroll (2 * (k : Int) + 1)
  have hk1 : 1 ≤ k := by omega
  have hk2 : k < 2 * 2 ^ l := by have := hid.2; exact_mod_cast this
  have e2 : getR (delR r (2 * (k : Int))) (2 * (k : Int) + 1) = getR r (2 * (k : Int) + 1) := by rw [getR_del hroll, if_neg (by omega)]
  have sm : sumR (delR (delR r (2 * (k : Int))) (2 * (k : Int) + 1)) + pairR r k ≤ 72057594037927935 := by
    rw [sumR_del (hroll.del _), e2, sumR_del hroll]
    unfold pairR
    omega
  have ln : (delR (delR r (2 * (k : Int))) (2 * (k : Int) + 1)).length < 1073741824 := by
    have l1 := (delR_len (r := r) (2 * (k : Int))).1
    have l2 := (delR_len (r := delR r (2 * (k : Int))) (2 * (k : Int) + 1)).1
    omega
  have HT1 := Lib.hid (fun W h => pool_Take W g K l r F h (2 * (k : Int)))
  have HT2 := Lib.hid (fun W h => pool_Take W g K l (delR r (2 * (k : Int))) F h (2 * (k : Int) + 1))
  rw [e2] at HT2
  have HA := Lib.hid (fun W h => pool_Add W g K l (delR (delR r (2 * (k : Int))) (2 * (k : Int) + 1)) F h k hk1 hk2 (pairR r k) hpos sm ln)
  unfold foldR
  generalize addR (delR (delR r (2 * (k : Int))) (2 * (k : Int) + 1)) k (pairR r k) = s at HA ⊢
  unfold pairR at HA hpos
  generalize delR (delR r (2 * (k : Int))) (2 * (k : Int) + 1) = r2 at HT2 HA sm ln
  generalize delR r (2 * (k : Int)) = r1 at HT1 HT2 e2
  generalize getR r (2 * (k : Int)) = n1 at HT1 HA a0 a1 hpos
  generalize getR r (2 * (k : Int) + 1) = n2 at HT2 HA b0 b1 hpos
  generalize sumR r = n4 at hs a1 b1
  clear h hk hy hmost hroll e2 sm ln hid
  go_enter Tryz.func222, Tryz.ntmps222
  go_wp2_with fail
  refine (HL.out _ HP.out).mono ?_
  rintro e w1 ⟨rfl, hb1⟩
  have B1 := Lib.hid hb1
  go_wp2_with fail
  refine (twig_Kids _ l k).mono ?_
  rintro e w2 ⟨rfl, hb2⟩
  rw [HK.out]
  unfold endsV
  have B2 := Lib.hid (Below.then_ B1.out hb2)
  clear hb1 hb2
  go_wp2_with fail
  refine (HT1.out _ (HP.out.below B2.out)).mono ?_
  rintro e w3 ⟨rfl, hp3, ht3⟩
  have P3 := Lib.hid hp3
  have T3 := Lib.hid ((Turn.of_below B2.out).trans ht3 Grow.refl)
  clear hp3 ht3
  go_wp2_with fail
  refine (HT2.out _ P3.out).mono ?_
  rintro e w4 ⟨rfl, hp4, ht4⟩
  have P4 := Lib.hid hp4
  have T4 := Lib.hid (T3.out.trans ht4 Grow.refl)
  clear hp4 ht4
  go_wp2_with fail
  refine (HA.out _ P4.out).mono ?_
  rintro e w5 ⟨F5, rfl, hp5, ht5, hg5⟩
  have HE : Hid (PoolTo w g K l s F w5) := Lib.hid ⟨F5, hp5, T4.out.trans ht5 Grow.refl, fun b hb => by
    rcases hg5 b hb with h | h
    · exact .inl h
    · exact .inr (Nat.le_trans T4.out.size h)⟩
  clear hp5 ht5 hg5
  go_wp2_with fail
  go_ret
  exact ⟨⟨_, rfl⟩, HE.out⟩
end Go.Proofs.YtgjaopfjffncbaaGreat
/- Package fold: the agenda: what it is, Len, swap, ahead. -/
namespace Go.Proofs.YtgjaopfjffncbaaGreat
open Go.ChangeShapes Go.WideShapes Go.ChangeAt Go.RowKit Go.Maps
set_option linter.unusedVariables false
set_option linter.unusedSimpArgs false
set_option maxRecDepth 100000

theorem keyI' : Keyed Tryz.prog 3 := int_keyed Tryz.underlying3
theorem zeroU (w : World) : (zeroValue 293).run Tryz.prog w = .ok (.agg #[]) w := by kernel_rfl
def footA (a : Nat) (v : Value) (b : Nat) : Nat → Prop := fun x => x = a ∨ v.ownBlock = some x ∨ x = b
/-- The agenda in block a: its heap is M, its map is D, of at most n entries; F: its blocks. -/
def AgS (w : World) (a b : Nat) (M : List Int) (n : Nat) (D : DataW Unit) (F : Nat → Prop) : Prop :=
  ∃ v : Value, w.heap[a]? = some (.cells #[v, .map (some b)] 291 (0, 0)) ∧ Own w 0 3 encZ v M ∧ w.ownsMap Tryz.prog 3 (unitElem (H := Unit)) b n D ∧ F = footA a v b
/-- What waits is L. -/
structure SetIs (D : DataW Unit) (L : List Int) : Prop where
  has : ∀ z, Go.Maps.has D (.int .i64 z) = true ↔ z ∈ L
  size : Go.Maps.size D = L.length
def AgAt (w : World) (a b : Nat) (L : List Int) (F : Nat → Prop) : Prop := ∃ D, AgS w a b L L.length D F ∧ SetIs D L
theorem ownsMap_keep {w w' : World} {b n : Nat} {D : DataW Unit} {R : Value → Option (DataW Unit × List MemPlace)} (h : w.ownsMap Tryz.prog 3 R b n D) (hb : w'.heap[b]? = w.heap[b]?) : w'.ownsMap Tryz.prog 3 R b n D := by
  obtain ⟨es, clock, h1, h2⟩ := h
  exact ⟨es, clock, hb.trans h1, h2⟩
theorem AgS.keep {w w' : World} {a b n : Nat} {M : List Int} {D : DataW Unit} {F : Nat → Prop} (h : AgS w a b M n D F) (hk : ∀ b, F b → w'.heap[b]? = w.heap[b]?) : AgS w' a b M n D F := by
  obtain ⟨v, h1, h2, h3, rfl⟩ := h
  exact ⟨v, (hk a (.inl rfl)).trans h1, h2.of_block fun x hx => hk x (.inr (.inl hx)), ownsMap_keep h3 (hk b (.inr (.inr rfl))), rfl⟩
theorem AgS.lt {w : World} {a b n : Nat} {M : List Int} {D : DataW Unit} {F : Nat → Prop} (h : AgS w a b M n D F) : ∀ b, F b → b < w.heap.size := by
  obtain ⟨v, h1, h2, h3, rfl⟩ := h
  rintro x (rfl | hx | rfl)
  · exact lt_of_block h1
  · exact (h2.lt x hx).2
  · exact h3.lt
theorem AgS.below {w w' : World} {a b n : Nat} {M : List Int} {D : DataW Unit} {F : Nat → Prop} (h : AgS w a b M n D F) (hb : Below w.heap.size w w') : AgS w' a b M n D F := h.keep fun b hf => hb.block b (h.lt b hf)
theorem AgAt.keep {w w' : World} {a b : Nat} {L : List Int} {F : Nat → Prop} (h : AgAt w a b L F) (hk : ∀ b, F b → w'.heap[b]? = w.heap[b]?) : AgAt w' a b L F := by
  obtain ⟨D, h1, h2⟩ := h
  exact ⟨D, h1.keep hk, h2⟩
theorem AgAt.lt {w : World} {a b : Nat} {L : List Int} {F : Nat → Prop} (h : AgAt w a b L F) : ∀ b, F b → b < w.heap.size := by
  obtain ⟨D, h1, h2⟩ := h
  exact h1.lt
theorem AgAt.below {w w' : World} {a b : Nat} {L : List Int} {F : Nat → Prop} (h : AgAt w a b L F) (hb : Below w.heap.size w w') : AgAt w' a b L F := h.keep fun b hf => hb.block b (h.lt b hf)
/-- The list's block is no other of the agenda's. -/
theorem AgS.apart {w : World} {a b n : Nat} {M : List Int} {D : DataW Unit} {v : Value} (h1 : w.heap[a]? = some (.cells #[v, .map (some b)] 291 (0, 0))) (h2 : Own w 0 3 encZ v M) (h3 : w.ownsMap Tryz.prog 3 (unitElem (H := Unit)) b n D) :
    v.ownBlock ≠ some a ∧ v.ownBlock ≠ some b ∧ a ≠ b := by
  obtain ⟨es, clock, hb, _⟩ := h3
  refine ⟨h2.ne_block h1 (by decide), fun he => ?_, fun he => ?_⟩
  · rcases h2 with ⟨rfl, _⟩ | ⟨g, off, cap, cur, rfl, _, hg, _⟩
    · cases he
    · cases he
      rw [hg] at hb
      cases hb
  · subst he
    rw [h1] at hb
    cases hb
theorem ag_Len (w : World) (a b n : Nat) (M : List Int) (D : DataW Unit) (F : Nat → Prop) (h : AgS w a b M n D F) : Calls Tryz.prog 219 #[.pointer (some ⟨a, 0, none⟩)] w fun e w' => e = .returned (.int .i64 M.length) ∧ Below w.heap.size w w' := by
  obtain ⟨v, h1, h2, _, rfl⟩ := h
  obtain ⟨A, cap, rfl, _⟩ := h2.form
  have c := blk_cell h1
  have z := lt_of_block h1
  clear h1 h2
  go_enter Tryz.func219, Tryz.ntmps219
  go_wp2_with fail
  go_ret
  exact ⟨rfl, (by repeat (first | with_reducible exact Below.refl _ _ | with_reducible assumption | ((with_reducible refine Below.setCell ?_ ?_ _); rotate_left; · (first | omega | exact Nat.le_refl _ | (simp <;> omega))) | (with_reducible refine Below.allocW ?_ _) | (with_reducible refine Below.drew ?_) | (with_reducible refine Below.extW ?_ _)))⟩
theorem fold_ahead (w : World) (x y : Int) (hx : x ≤ 9223372036854775807) (hy : y ≤ 9223372036854775807) (hx1 : 1 ≤ x) (hy1 : 1 ≤ y) : Calls Tryz.prog 243 #[.int .i64 x, .int .i64 y] w fun e w' => e = .returned (.bool (aheadI x y)) ∧ Below w.heap.size w w' := by
  have HX := Lib.hid (fun W => twig_Depth W x hx)
  have HY := Lib.hid (fun W => twig_Depth W y hy)
  rw [if_pos hx1] at HX
  rw [if_pos hy1] at HY
  unfold aheadI
  generalize x.toNat.log2 = n at HX ⊢
  generalize y.toNat.log2 = m at HY ⊢
  clear hx hy hx1 hy1
  by_cases he : n = m
  · subst he
    rw [if_neg (by simp)]
    by_cases hlt : x < y
    · rw [decide_eq_true hlt]
      go_enter Tryz.func243, Tryz.ntmps243
      go_wp2_with fail
      refine (HX.out _).mono ?_
      rintro e w1 ⟨rfl, hb1⟩
      have B1 : Below w.heap.size w w1 := Below.then_ (by repeat (first | with_reducible exact Below.refl _ _ | with_reducible assumption | ((with_reducible refine Below.setCell ?_ ?_ _); rotate_left; · (first | omega | exact Nat.le_refl _ | (simp <;> omega))) | (with_reducible refine Below.allocW ?_ _) | (with_reducible refine Below.drew ?_) | (with_reducible refine Below.extW ?_ _))) hb1
      have s1 : w.heap.size ≤ w1.heap.size := B1.size
      go_wp2_with fail
      refine (HY.out _).mono ?_
      rintro e w2 ⟨rfl, hb2⟩
      have B2 : Below w.heap.size w w2 := Below.then_ (by repeat (first | with_reducible exact Below.refl _ _ | with_reducible assumption | ((with_reducible refine Below.setCell ?_ ?_ _); rotate_left; · (first | omega | exact Nat.le_refl _ | (simp <;> omega))) | (with_reducible refine Below.allocW ?_ _) | (with_reducible refine Below.drew ?_) | (with_reducible refine Below.extW ?_ _))) hb2
      have s2 : w.heap.size ≤ w2.heap.size := B2.size
      go_wp2_with fail
      go_ret
      exact ⟨rfl, (by repeat (first | with_reducible exact Below.refl _ _ | with_reducible assumption | ((with_reducible refine Below.setCell ?_ ?_ _); rotate_left; · (first | omega | exact Nat.le_refl _ | (simp <;> omega))) | (with_reducible refine Below.allocW ?_ _) | (with_reducible refine Below.drew ?_) | (with_reducible refine Below.extW ?_ _)))⟩
    · have hlt' : decide (x < y) = false := by simpa using hlt
      rw [hlt']
      clear hlt
      go_enter Tryz.func243, Tryz.ntmps243
      go_wp2_with fail
      refine (HX.out _).mono ?_
      rintro e w1 ⟨rfl, hb1⟩
      have B1 : Below w.heap.size w w1 := Below.then_ (by repeat (first | with_reducible exact Below.refl _ _ | with_reducible assumption | ((with_reducible refine Below.setCell ?_ ?_ _); rotate_left; · (first | omega | exact Nat.le_refl _ | (simp <;> omega))) | (with_reducible refine Below.allocW ?_ _) | (with_reducible refine Below.drew ?_) | (with_reducible refine Below.extW ?_ _))) hb1
      have s1 : w.heap.size ≤ w1.heap.size := B1.size
      go_wp2_with fail
      refine (HY.out _).mono ?_
      rintro e w2 ⟨rfl, hb2⟩
      have B2 : Below w.heap.size w w2 := Below.then_ (by repeat (first | with_reducible exact Below.refl _ _ | with_reducible assumption | ((with_reducible refine Below.setCell ?_ ?_ _); rotate_left; · (first | omega | exact Nat.le_refl _ | (simp <;> omega))) | (with_reducible refine Below.allocW ?_ _) | (with_reducible refine Below.drew ?_) | (with_reducible refine Below.extW ?_ _))) hb2
      have s2 : w.heap.size ≤ w2.heap.size := B2.size
      go_wp2_with fail
      go_ret
      exact ⟨rfl, (by repeat (first | with_reducible exact Below.refl _ _ | with_reducible assumption | ((with_reducible refine Below.setCell ?_ ?_ _); rotate_left; · (first | omega | exact Nat.le_refl _ | (simp <;> omega))) | (with_reducible refine Below.allocW ?_ _) | (with_reducible refine Below.drew ?_) | (with_reducible refine Below.extW ?_ _)))⟩
  · rw [if_pos he]
    have he' : ((n : Int) == (m : Int)) = false := by simp; omega
    have he2 : (n == m) = false := by simpa using he
    by_cases hlt : m < n
    · rw [decide_eq_true hlt]
      have hlt2 : (m : Int) < (n : Int) := by omega
      clear he
      go_enter Tryz.func243, Tryz.ntmps243
      go_wp2_with fail
      refine (HX.out _).mono ?_
      rintro e w1 ⟨rfl, hb1⟩
      have B1 : Below w.heap.size w w1 := Below.then_ (by repeat (first | with_reducible exact Below.refl _ _ | with_reducible assumption | ((with_reducible refine Below.setCell ?_ ?_ _); rotate_left; · (first | omega | exact Nat.le_refl _ | (simp <;> omega))) | (with_reducible refine Below.allocW ?_ _) | (with_reducible refine Below.drew ?_) | (with_reducible refine Below.extW ?_ _))) hb1
      have s1 : w.heap.size ≤ w1.heap.size := B1.size
      go_wp2_with fail
      refine (HY.out _).mono ?_
      rintro e w2 ⟨rfl, hb2⟩
      have B2 : Below w.heap.size w w2 := Below.then_ (by repeat (first | with_reducible exact Below.refl _ _ | with_reducible assumption | ((with_reducible refine Below.setCell ?_ ?_ _); rotate_left; · (first | omega | exact Nat.le_refl _ | (simp <;> omega))) | (with_reducible refine Below.allocW ?_ _) | (with_reducible refine Below.drew ?_) | (with_reducible refine Below.extW ?_ _))) hb2
      have s2 : w.heap.size ≤ w2.heap.size := B2.size
      go_wp2_with fail
      go_ret
      exact ⟨rfl, (by repeat (first | with_reducible exact Below.refl _ _ | with_reducible assumption | ((with_reducible refine Below.setCell ?_ ?_ _); rotate_left; · (first | omega | exact Nat.le_refl _ | (simp <;> omega))) | (with_reducible refine Below.allocW ?_ _) | (with_reducible refine Below.drew ?_) | (with_reducible refine Below.extW ?_ _)))⟩
    · have hlt' : decide (m < n) = false := by simpa using hlt
      have hlt2 : decide ((m : Int) < (n : Int)) = false := by simp; omega
      rw [hlt']
      clear hlt he
      go_enter Tryz.func243, Tryz.ntmps243
      go_wp2_with fail
      refine (HX.out _).mono ?_
      rintro e w1 ⟨rfl, hb1⟩
      have B1 : Below w.heap.size w w1 := Below.then_ (by repeat (first | with_reducible exact Below.refl _ _ | with_reducible assumption | ((with_reducible refine Below.setCell ?_ ?_ _); rotate_left; · (first | omega | exact Nat.le_refl _ | (simp <;> omega))) | (with_reducible refine Below.allocW ?_ _) | (with_reducible refine Below.drew ?_) | (with_reducible refine Below.extW ?_ _))) hb1
      have s1 : w.heap.size ≤ w1.heap.size := B1.size
      go_wp2_with fail
      refine (HY.out _).mono ?_
      rintro e w2 ⟨rfl, hb2⟩
      have B2 : Below w.heap.size w w2 := Below.then_ (by repeat (first | with_reducible exact Below.refl _ _ | with_reducible assumption | ((with_reducible refine Below.setCell ?_ ?_ _); rotate_left; · (first | omega | exact Nat.le_refl _ | (simp <;> omega))) | (with_reducible refine Below.allocW ?_ _) | (with_reducible refine Below.drew ?_) | (with_reducible refine Below.extW ?_ _))) hb2
      have s2 : w.heap.size ≤ w2.heap.size := B2.size
      go_wp2_with fail
      go_ret
      exact ⟨rfl, (by repeat (first | with_reducible exact Below.refl _ _ | with_reducible assumption | ((with_reducible refine Below.setCell ?_ ?_ _); rotate_left; · (first | omega | exact Nat.le_refl _ | (simp <;> omega))) | (with_reducible refine Below.allocW ?_ _) | (with_reducible refine Below.drew ?_) | (with_reducible refine Below.extW ?_ _)))⟩
theorem own_setZ {w : World} {base b off n cap : Nat} {l : List Int} (h : Own w base 3 encZ (.slice (some ⟨b, off, none⟩) n cap) l) (k : Nat) (hk : k < l.length) (x : Int) : Own (w.setCell ⟨b, off + k, none⟩ (.int .i64 x)) base 3 encZ (.slice (some ⟨b, off, none⟩) n cap) (l.set k x) := by
  have := h.setElem k 0 hk (by decide) (.int .i64 x) x rfl
  rwa [Nat.mul_one, Nat.add_zero] at this
set_option maxHeartbeats 4000000 in
theorem ag_swap (w : World) (a b n : Nat) (M : List Int) (D : DataW Unit) (F : Nat → Prop) (h : AgS w a b M n D F) (i j : Nat) (hi : i < M.length) (hj : j < M.length) (hij : i ≠ j) (hm : M.length ≤ 72057594037927935) :
    Calls Tryz.prog 244 #[.pointer (some ⟨a, 0, none⟩), .int .i64 i, .int .i64 j] w fun e w' => e = .returned (.tuple #[]) ∧ AgS w' a b (swapL M i j) n D F ∧ Turn F w w' := by
  obtain ⟨v, h1, h2, h3, rfl⟩ := h
  have hap := AgS.apart h1 h2 h3
  obtain ⟨g, off, cap, rfl, hcap⟩ := own_at0 h2 (by omega)
  have c := blk_cell h1
  have z := lt_of_block h1
  have zb := (h2.lt g rfl).2
  have fb := h2.frozen
  have d0 := h2.slT.cell_at hi 0 (.int .i64 M[i]) rfl
  have d1 := h2.slT.cell_at hj 0 (.int .i64 M[j]) rfl
  simp only [Nat.mul_one, Nat.add_zero] at d0 d1
  have i0 : (i : Int) < (M.length : Int) := by omega
  have j0 : (j : Int) < (M.length : Int) := by omega
  have hij1 : ¬ i = j := hij
  have hij2 : ¬ j = i := fun he => hij he.symm
  have ei : M.getD i 0 = M[i] := by simp [hi]
  have ej : M.getD j 0 = M[j] := by simp [hj]
  have HS : Hid (AgS ((w.setCell ⟨g, off + i, none⟩ (.int .i64 M[j])).setCell ⟨g, off + j, none⟩ (.int .i64 M[i])) a b (swapL M i j) n D (footA a (.slice (some ⟨g, off, none⟩) M.length cap) b) ∧ Turn (footA a (.slice (some ⟨g, off, none⟩) M.length cap) b) w ((w.setCell ⟨g, off + i, none⟩ (.int .i64 M[j])).setCell ⟨g, off + j, none⟩ (.int .i64 M[i]))) := by
    refine Lib.hid ⟨⟨.slice (some ⟨g, off, none⟩) M.length cap, ?_, ?_, ?_, rfl⟩, ?_⟩
    · exact (Below.heap_setCell _ _ _ _ (fun he => hap.1 (by rw [he]; rfl))).trans ((Below.heap_setCell _ _ _ _ (fun he => hap.1 (by rw [he]; rfl))).trans h1)
    · have o := own_setZ (own_setZ h2 i hi M[j]) j (by simpa using hj) M[i]
      unfold swapL
      rw [ei, ej]
      exact o
    · exact (h3.setCell (fun he => hap.2.1 (by rw [he]; rfl)) _).setCell (fun he => hap.2.1 (by rw [he]; rfl)) _
    · exact ((Turn.refl _ w).setCell (.inl (.inr (.inl rfl))) _).setCell (.inl (.inr (.inl rfl))) _
  obtain ⟨x, hx⟩ : ∃ x, x = M[i] := ⟨_, rfl⟩
  obtain ⟨y, hy⟩ : ∃ y, y = M[j] := ⟨_, rfl⟩
  rw [← hx, ← hy] at HS
  rw [← hx] at d0
  rw [← hy] at d1
  clear h1 h2 h3 hap ei ej hx hy hij
  go_enter Tryz.func244, Tryz.ntmps244
  go_upto_region 0 with fail
  go_region
  go_wp2_with fail
  go_end0
  first | exact ⟨rfl, HS.out⟩ | exact ⟨rfl, HS.out.1.keep (fun _ _ => rfl), HS.out.2.drew⟩ | trace_state
end Go.Proofs.YtgjaopfjffncbaaGreat
/- Package fold: the agenda: Put. -/
namespace Go.Proofs.YtgjaopfjffncbaaGreat
open Go.ChangeShapes Go.WideShapes Go.ChangeAt Go.RowKit Go.Maps
set_option linter.unusedVariables false
set_option linter.unusedSimpArgs false
set_option maxRecDepth 100000

theorem SetIs.put {D : DataW Unit} {L : List Int} {w : World} {b n : Nat} (h : SetIs D L) (hown : w.ownsMap Tryz.prog 3 (unitElem (H := Unit)) b n D) {id : Int} (hid : id ∉ L) : SetIs (D.put (.int .i64 id) (.agg [])) (putH L id) := by
  have hp := putH_perm L id
  have hf : Go.Maps.has D (.int .i64 id) = false := by
    rw [← Bool.not_eq_true]
    exact fun hh => hid ((h.has id).1 hh)
  refine ⟨fun z => ?_, ?_⟩
  · rw [hp.mem_iff, List.mem_cons]
    by_cases hz : z = id
    · subst hz
      rw [has_put_same hown.isMap (by simp [WideAt.IsKeyLit])]; simp
    · rw [has_put_other (by simp [hz]), h.has]; simp [hz]
  · rw [size_put (hown.tidy keyI'), hf, h.size, hp.length_eq]; simp
theorem AgS.read {w : World} {a b n : Nat} {M : List Int} {D : DataW Unit} {F : Nat → Prop} (h : AgS w a b M n D F) (h0 : 0 < M.length) : ∃ g off cap, w.heap[a]? = some (.cells #[.slice (some ⟨g, off, none⟩) M.length cap, .map (some b)] 291 (0, 0)) ∧ g < w.heap.size ∧ ∀ j, j < M.length → w.cell? ⟨g, off + j, none⟩ = some (.int .i64 (M.getD j 0)) := by
  obtain ⟨v, h1, h2, h3, rfl⟩ := h
  obtain ⟨g, off, cap, rfl, hcap⟩ := own_at0 h2 h0
  refine ⟨g, off, cap, h1, (h2.lt g rfl).2, fun j hj => ?_⟩
  have d := h2.slT.cell_at hj 0 (.int .i64 M[j]) rfl
  simp only [Nat.mul_one, Nat.add_zero] at d
  rw [d]
  simp [hj]
theorem ag_Put_no (w : World) (a : Nat) (id : Int) (hid : id < 1) : Calls Tryz.prog 223 #[.pointer (some ⟨a, 0, none⟩), .int .i64 id] w fun e w' => e = .returned (.bool false) ∧ Below w.heap.size w w' := by
  go_enter Tryz.func223, Tryz.ntmps223
  go_wp2_with fail
  go_ret
  exact ⟨rfl, (by repeat (first | with_reducible exact Below.refl _ _ | with_reducible assumption | ((with_reducible refine Below.setCell ?_ ?_ _); rotate_left; · (first | omega | exact Nat.le_refl _ | (simp <;> omega))) | (with_reducible refine Below.allocW ?_ _) | (with_reducible refine Below.drew ?_) | (with_reducible refine Below.extW ?_ _)))⟩
theorem ag_Put_in (w : World) (a b : Nat) (L : List Int) (F : Nat → Prop) (h : AgAt w a b L F) (id : Int) (hid : id ∈ L) (h1 : 1 ≤ id) (h2 : id ≤ 9223372036854775807) : Calls Tryz.prog 223 #[.pointer (some ⟨a, 0, none⟩), .int .i64 id] w fun e w' => e = .returned (.bool false) ∧ Below w.heap.size w w' := by
  obtain ⟨D, ⟨v, hh, ho, hm, rfl⟩, hs⟩ := h
  have hhas := (hs.has id).2 hid
  have c := blk_cell hh
  have z := lt_of_block hh
  have hid1 : decide (id < 1) = false := by simp; omega
  have hkey : keyOf Tryz.prog 3 (.int .i64 id) = some (.int .i64 id) := keyOf_int_mk Tryz.underlying3 (WalkArith.wf_i64 (by omega))
  have HM := Lib.hid hm
  clear hs hid hh ho hm
  go_enter Tryz.func223, Tryz.ntmps223
  go_wp2_with ((at_lookup; refine wpList_lookup_own_unit _ rfl _ _ 289 rfl 3 293 keyI' Tryz.underlying289 (zeroU _) b L.length D rfl HM.out _ _ rfl hkey ?_))
  go_ret
  exact ⟨rfl, (by repeat (first | with_reducible exact Below.refl _ _ | with_reducible assumption | ((with_reducible refine Below.setCell ?_ ?_ _); rotate_left; · (first | omega | exact Nat.le_refl _ | (simp <;> omega))) | (with_reducible refine Below.allocW ?_ _) | (with_reducible refine Below.drew ?_) | (with_reducible refine Below.extW ?_ _)))⟩
set_option maxHeartbeats 8000000 in
theorem ag_Put_new (w : World) (a b : Nat) (L : List Int) (F : Nat → Prop) (h : AgAt w a b L F) (id : Int) (hid : id ∉ L) (h1 : 1 ≤ id) (h2 : id ≤ 9223372036854775807) (hL : ∀ x ∈ L, 1 ≤ x ∧ x ≤ 9223372036854775807) (hlen : L.length ≤ 1000000000000) :
    Calls Tryz.prog 223 #[.pointer (some ⟨a, 0, none⟩), .int .i64 id] w fun e w' => ∃ F', e = .returned (.bool true) ∧ AgAt w' a b (putH L id) F' ∧ Turn F w w' ∧ Grow w F F' := by
  obtain ⟨D, ⟨v, hh, ho, hm, rfl⟩, hs⟩ := h
  have hhas : Go.Maps.has D (.int .i64 id) = false := by
    rw [← Bool.not_eq_true]
    exact fun hh => hid ((hs.has id).1 hh)
  have hap := AgS.apart hh ho hm
  have HSet := Lib.hid (hs.put hm hid)
  have c := blk_cell hh
  have z := lt_of_block hh
  have hid1 : decide (id < 1) = false := by simp; omega
  have hkey : keyOf Tryz.prog 3 (.int .i64 id) = some (.int .i64 id) := keyOf_int_mk Tryz.underlying3 (WalkArith.wf_i64 (by omega))
  have HM := Lib.hid hm
  have HH := Lib.hid hh
  have HO := Lib.hid ho
  have HA := Lib.hid hap
  have HL := Lib.hid hL
  clear hs hid hh ho hm hap hL
  go_enter Tryz.func223, Tryz.ntmps223
  go_upto_region 6 with ((at_lookup; refine wpList_lookup_own_unit _ rfl _ _ 289 rfl 3 293 keyI' Tryz.underlying289 (zeroU _) b L.length D rfl HM.out _ _ rfl hkey ?_))
  have b1 : Below w.heap.size w (w.alloc (.cells #[] 293)) := (by repeat (first | with_reducible exact Below.refl _ _ | with_reducible assumption | ((with_reducible refine Below.setCell ?_ ?_ _); rotate_left; · (first | omega | exact Nat.le_refl _ | (simp <;> omega))) | (with_reducible refine Below.allocW ?_ _) | (with_reducible refine Below.drew ?_) | (with_reducible refine Below.extW ?_ _)))
  have H1 := Lib.hid (blk_below HH.out b1)
  have M1 := Lib.hid (ownsMap_keep HM.out (b1.block _ HM.out.lt))
  have O1 := Lib.hid (HO.out.below b1)
  have T1 : Hid (Turn (footA a v b) w (w.alloc (.cells #[] 293))) := Lib.hid (.of_below b1)
  generalize w.alloc (.cells #[] 293) = w1 at H1 M1 O1 T1 ⊢
  have c1 := blk_cell H1.out
  have z1 := lt_of_block H1.out
  clear c z HM HO HH b1
  go_wp2_with ((at_mapUpdate; refine wpList_mapUpdate_own _ rfl _ _ _ 289 rfl 3 293 keyI' Tryz.underlying289 (unitElem (H := Unit)) b L.length D rfl M1.out (by unfold maxLen; omega) _ _ _ rfl rfl hkey (.agg []) [] unitElem_mk ?_))
  intro w2 hown2 hg2
  have hbz := M1.out.lt
  have H2 : Hid (w2.heap[a]? = some (.cells #[v, .map (some b)] 291 (0, 0))) := Lib.hid ((hg2.block a z1 (by simp only [ne_eq, Option.some.injEq]; exact HA.out.2.2)).trans H1.out)
  have O2 := Lib.hid (O1.out.kept hg2 (.inr HA.out.2.1))
  have M2 := Lib.hid hown2
  have T2 : Hid (Turn (footA a v b) w w2) := Lib.hid (T1.out.grown hg2 fun x hx => by cases hx; exact .inl (.inr (.inr rfl)))
  have c2 := blk_cell H2.out
  have f2 := blk_frozen H2.out
  have z2 := lt_of_block H2.out
  obtain ⟨A, cap, rfl, _⟩ := O2.out.form
  have HA2 := Lib.hid (And.intro HA.out.1 HA.out.2.1)
  clear c1 z1 H1 M1 O1 T1 hown2 hg2
  go_wp2_with ((at_builtin; refine wpList_push tyZ rfl _ _ rfl encZ w2 0 _ _ rfl O2.out id rfl rfl ?p1 ?p2 ?p3 ?p4))
  case p1 => omega
  case p2 => simp only [maxLen]; omega
  case p3 => exact Nat.zero_le _
  case p4 =>
    intro v3 w3 hown3 hg3 hsz3 hor3 _ _
    obtain ⟨g, off, cap3, rfl, hcap3⟩ := own_at0 hown3 (by simp)
    have e3 : (L ++ [id]).length = L.length + 1 := by simp
    rw [e3] at hown3 ⊢
    simp only [e3] at hor3
    have H3 := (hg3.block a z2 HA2.out.1.symm).trans H2.out
    have M3 := ownsMap_keep M2.out (hg3.block b M2.out.lt HA2.out.2.symm)
    have c3 := blk_cell H3
    have f3 := blk_frozen H3
    have z3 := lt_of_block H3
    have hne3 := hown3.ne_block H3 (by decide)
    have k4 := heap_set_at (i := 0) H3 (.slice (some ⟨g, off, none⟩) (L.length + 1) cap3)
    have o4 := hown3.setCell (p := ⟨a, 0, none⟩) hne3 (.slice (some ⟨g, off, none⟩) (L.length + 1) cap3)
    have m4 := M3.setCell (a := ⟨a, 0, none⟩) (fun he => HA.out.2.2 he.symm) (.slice (some ⟨g, off, none⟩) (L.length + 1) cap3)
    have G4 : Hid (Grow w (footA a (.slice A L.length cap) b) (footA a (.slice (some ⟨g, off, none⟩) (L.length + 1) cap3) b)) := Lib.hid fun x hx => by
      rcases hx with rfl | hx | rfl
      · exact .inl (.inl rfl)
      · rcases hor3 with h | h
        · exact .inl (.inr (.inl (by rw [← h]; exact hx)))
        · rw [h] at hx
          cases hx
          exact .inr (by have := T2.out.size; omega)
      · exact .inl (.inr (.inr rfl))
    have T4 := Lib.hid (((T2.out.grown hg3 fun x hx => .inl (.inr (.inl hx))).setCell (p := ⟨a, 0, none⟩) (.inl (.inl rfl)) (.slice (some ⟨g, off, none⟩) (L.length + 1) cap3)))
    have S4 : Hid (AgS (w3.setCell ⟨a, 0, none⟩ (.slice (some ⟨g, off, none⟩) (L.length + 1) cap3)) a b (L ++ [id]) (L.length + 1) (D.put (.int .i64 id) (.agg [])) (footA a (.slice (some ⟨g, off, none⟩) (L.length + 1) cap3) b)) := Lib.hid ⟨_, k4, o4, m4, rfl⟩
    clear H3 M3 hne3 k4 o4 m4 hg3 hor3 c2 f2 H2 O2 M2 T2 hown3 HA2
    go_upto_region 8 with fail
    generalize (w3.setCell ⟨a, 0, none⟩ (.slice (some ⟨g, off, none⟩) (L.length + 1) cap3)) = w4 at S4 T4 ⊢
    generalize hF : footA a (.slice (some ⟨g, off, none⟩) (L.length + 1) cap3) b = F' at S4 G4
    generalize D.put (.int .i64 id) (.agg []) = D' at S4 HSet
    clear c3 f3 z3 z2 hF hcap3 e3 hsz3
    have hM0 : ∀ x ∈ L ++ [id], 1 ≤ x ∧ x ≤ 9223372036854775807 := fun x hx => by
      rcases List.mem_append.1 hx with hx | hx
      · exact HL.out x hx
      · obtain rfl := List.mem_singleton.1 hx; exact ⟨h1, h2⟩
    have HM0 := Lib.hid hM0
    have hl4 : (L ++ [id]).length = L.length + 1 := by simp
    obtain ⟨g4, off4, cap4, hh4, hg4, _⟩ := S4.out.read (by simp)
    rw [hl4] at hh4
    have c4 := blk_cell hh4
    have z4 := lt_of_block hh4
    clear hM0 hh4 hg4 HL
    go_wp2_with fail
    go_loopw [7] (fun i wr => ∃ (q k : Nat) (M : List Int), i = .int .i64 q ∧ AgS wr a b M (L.length + 1) D' F' ∧ q < M.length ∧ q ≤ k ∧ upH k M q = putH L id ∧ (∀ x ∈ M, 1 ≤ x ∧ x ≤ 9223372036854775807) ∧ M.length = L.length + 1 ∧ Turn (footA a (.slice A L.length cap) b) w wr) (fun i _ => (intOf i).toNat)
    case atStart => exact ⟨L.length, L.length, L ++ [id], by first | rfl | go_num, S4.out, by simp, Nat.le_refl _, rfl, HM0.out, by simp, T4.out⟩
    case round =>
      obtain ⟨q, k, M, rfl, hS, hq, hk, hup, hM, hlen2, hT⟩ := hrel
      have HS := Lib.hid hS
      have HU := Lib.hid hup
      have HX := Lib.hid hM
      have HT := Lib.hid hT
      have HLn := Lib.hid hlen2
      have hq2 : q ≤ L.length := by omega
      clear c4 z4 S4 T4 HM0 hl4
      obtain ⟨g5, off5, cap5, hh5, hg5, hrd⟩ := hS.read (by omega)
      rw [hlen2] at hh5
      clear hS hup hM hT hlen2
      by_cases hq0 : q = 0
      · subst hq0
        have e0 : upH k M 0 = M := by cases k with
          | zero => rfl
          | succ k => simp [upH]
        rw [e0] at HU
        have hd : decide ((0 : Int) < ((0 : Nat) : Int)) = false := by simp
        clear hrd hh5
        go_upto_region 9 with fail
        refine wp_region_ext (by kernel_rfl) (by kernel_rfl) ?_
        repeat (go_big_quiet_step (fail))
        refine wpQuiet_nil ?_
        intro w6 h6
        have hb6 := below_of_ext h6
        have HS6 := Lib.hid (HS.out.below hb6)
        have HT6 := Lib.hid (HT.out.more hb6)
        clear h6 hb6
        go_wp2_with fail
        go_ret
        refine ⟨F', rfl, ⟨D', ?_, HSet.out⟩, HT6.out, G4.out⟩
        rw [← HU.out, HLn.out]
        exact HS6.out
      · obtain ⟨p, hp⟩ : ∃ p, p = (q - 1) / 2 := ⟨_, rfl⟩
        have hpq : p < q := by omega
        have d0 := hrd q (by omega)
        have d1 := hrd p (by omega)
        have c5 := blk_cell hh5
        have z5 := lt_of_block hh5
        have x0 := HX.out (M.getD q 0) (by simp [List.getD_eq_getElem?_getD, hq])
        have x1 := HX.out (M.getD p 0) (by simp [List.getD_eq_getElem?_getD, (by omega : p < M.length)])
        have HAh := Lib.hid (fun W => fold_ahead W (M.getD q 0) (M.getD p 0) x0.2 x1.2 x0.1 x1.1)
        have hpos : (0 : Int) < (q : Int) := by omega
        have hpos1 : 0 < q := by omega
        have hposd : decide ((0 : Int) < (q : Int)) = true := by simpa using hpos1
        have e1 : ((q : Int) - 1).tdiv 2 = (p : Int) := by rw [Int.tdiv_eq_ediv_of_nonneg (by omega)]; omega
        have e2 : ((q : Int) - 1) / 2 = (p : Int) := by omega
        obtain ⟨k', rfl⟩ : ∃ k', k = k' + 1 := ⟨k - 1, by omega⟩
        have HSw := Lib.hid (fun W hS => ag_swap W a b (L.length + 1) M D' F' hS q p hq (by omega) (by omega) (by have := HLn.out; omega))
        generalize hxq : M.getD q 0 = x at d0 HAh
        generalize hxp : M.getD p 0 = y at d1 HAh
        have HU2 : Hid ((if aheadI x y = true then upH k' (swapL M q p) p else M) = putH L id) := Lib.hid (by
          have := HU.out
          simp only [upH] at this
          rw [← hp, hxq, hxp] at this
          simpa [show 0 < q by omega] using this)
        have hp2 : p ≤ L.length := by omega
        have hpk : p ≤ k' := by omega
        clear hrd hh5 x0 x1 HU hxq hxp hp
        go_upto_region 9 with fail
        refine wp_region_ext (by kernel_rfl) (by kernel_rfl) ?_
        repeat (go_big_quiet_step ((go_at_call 243; exact quiet_ext (HAh.out _))))
        refine wpQuiet_nil ?_
        intro w6 h6
        have hb6 := below_of_ext h6
        have HS6 := Lib.hid (HS.out.below hb6)
        have HT6 := Lib.hid (HT.out.more hb6)
        clear h6 hb6 d0 d1 c5 z5
        cases hah : aheadI x y
        · rw [hah, if_neg (by simp)] at HU2
          go_wp2_with fail
          go_ret
          refine ⟨F', rfl, ⟨D', ?_, HSet.out⟩, HT6.out, G4.out⟩
          rw [← HU2.out, HLn.out]
          exact HS6.out
        · rw [hah, if_pos rfl] at HU2
          go_wp2_with fail
          refine (HSw.out _ HS6.out).mono ?_
          rintro e w7 ⟨rfl, hs7, ht7⟩
          have HS7 := Lib.hid hs7
          have HT7 := Lib.hid (HT6.out.trans ht7 G4.out)
          clear hs7 ht7
          go_wp2_with fail
          go_roundw
          case rel => exact ⟨p, k', swapL M q p, by first | rfl | (rw [e2]) | (rw [e1]), HS7.out, by rw [swapL_len]; omega, hpk, HU2.out, fun z hz => HX.out z ((swapL_perm hq (by omega)).mem_iff.1 hz), by rw [swapL_len]; exact HLn.out, HT7.out⟩
          case measure => simp [intOf]; omega
end Go.Proofs.YtgjaopfjffncbaaGreat
/- Package fold: the agenda: sink, Pop. -/
namespace Go.Proofs.YtgjaopfjffncbaaGreat
open Go.ChangeShapes Go.WideShapes Go.ChangeAt Go.RowKit Go.Maps
set_option linter.unusedVariables false
set_option linter.unusedSimpArgs false
set_option maxRecDepth 100000

theorem firstH_nil (i : Nat) : firstH [] i = i := by simp [firstH, stepH]
theorem getD_mem {M : List Int} {q : Nat} (hq : q < M.length) : M.getD q 0 ∈ M := by simp [List.getD_eq_getElem?_getD, hq]
/-- Which of the places is the first, so far. -/
def FstJ (R : List Int) (q j ff : Nat) : Prop := (j = 0 → ff = q) ∧ (j = 1 → ff = stepH R q (2 * q + 1)) ∧ (j = 2 → ff = firstH R q)
theorem FstJ.next {R : List Int} {q j ff : Nat} (h : FstJ R q j ff) (hj : j ≤ 1) : FstJ R q (j + 1) (stepH R ff (2 * q + 1 + j)) := by
  refine ⟨by omega, fun h1 => ?_, fun h1 => ?_⟩
  · obtain rfl : j = 0 := by omega
    rw [h.1 rfl]
  · obtain rfl : j = 1 := by omega
    rw [h.2.1 rfl]
    rfl
theorem FstJ.exit {R : List Int} {q j ff : Nat} (h : FstJ R q j ff) (hj : j ≤ 2) (hx : j = 2 ∨ R.length ≤ 2 * q + 1 + j) : ff = firstH R q := by
  rcases (by omega : j = 0 ∨ j = 1 ∨ j = 2) with rfl | rfl | rfl
  · rw [h.1 rfl]
    unfold firstH
    have e1 : stepH R q (2 * q + 1) = q := by unfold stepH; rw [if_neg (by omega)]
    rw [e1]
    unfold stepH
    rw [if_neg (by omega)]
  · rw [h.2.1 rfl]
    unfold firstH
    generalize stepH R q (2 * q + 1) = z
    unfold stepH
    rw [if_neg (by omega)]
  · exact h.2.2 rfl
set_option maxHeartbeats 8000000 in
theorem ag_sink (w : World) (a b n : Nat) (M : List Int) (D : DataW Unit) (F : Nat → Prop) (h : AgS w a b M n D F) (h0 : 0 < M.length) (hM : ∀ x ∈ M, 1 ≤ x ∧ x ≤ 9223372036854775807) (hlen : M.length ≤ 1000000000001) :
    Calls Tryz.prog 240 #[.pointer (some ⟨a, 0, none⟩)] w fun e w' => e = .returned (.tuple #[]) ∧ AgS w' a b (downH M.length M 0) n D F ∧ Turn F w w' := by
  have HS0 := Lib.hid h
  have HM0 := Lib.hid hM
  obtain ⟨m, hm⟩ : ∃ m, m = M.length := ⟨_, rfl⟩
  obtain ⟨T, hT⟩ : ∃ T, T = downH M.length M 0 := ⟨_, rfl⟩
  rw [← hT]
  have HT0 : Hid (downH m M 0 = T) := Lib.hid (by rw [hm, hT])
  have HML : Hid (M.length = m) := Lib.hid hm.symm
  rw [← hm] at h0 hlen
  clear h hM hT hm
  go_enter Tryz.func240, Tryz.ntmps240
  go_wp2_with fail
  go_loopw [2, 3, 4] (fun i _ _ wr => ∃ (q k : Nat) (R : List Int), i = .int .i64 q ∧ AgS wr a b R n D F ∧ q < R.length ∧ R.length ≤ k + q ∧ downH k R q = T ∧ (∀ x ∈ R, 1 ≤ x ∧ x ≤ 9223372036854775807) ∧ R.length = m ∧ Turn F w wr) (fun i _ _ _ => m - (intOf i).toNat)
  case atStart => exact ⟨0, m, M, rfl, HS0.out, by rw [HML.out]; exact h0, by rw [HML.out]; omega, HT0.out, HM0.out, HML.out, Turn.refl _ _⟩
  case round =>
    obtain ⟨q, k, R, rfl, hS, hq, hk, hdn, hR, hRl, hTn⟩ := hrel
    have HS := Lib.hid hS
    have HD := Lib.hid hdn
    have HX := Lib.hid hR
    have HT := Lib.hid hTn
    have HL := Lib.hid hRl
    have hq2 : q < m := by omega
    obtain ⟨k', rfl⟩ : ∃ k', k = k' + 1 := ⟨k - 1, by omega⟩
    have hk2 : m ≤ k' + 1 + q := by omega
    clear hS hdn hR hTn hRl hq hk HS0 HM0 HT0 HML
    go_wp2_with fail
    go_loopw [3, 4] (fun f c wr => ∃ (j cc : Nat) (ff : Nat), cc = 2 * q + 1 + j ∧ c = .int .i64 cc ∧ f = .int .i64 ff ∧ j ≤ 2 ∧ ff < m ∧ FstJ R q j ff ∧ AgS wr a b R n D F ∧ Turn F w wr) (fun _ c _ => 2 * q + 4 - (intOf c).toNat)
    case atStart => exact ⟨0, 2 * q + 1, q, rfl, by first | rfl | go_num | trace_state, rfl, by omega, hq2, ⟨fun _ => rfl, by omega, by omega⟩, HS.out, HT.out⟩
    case round =>
      obtain ⟨j, c, ff, hc, rfl, rfl, hj, hff, hJ, hS2, hT2⟩ := hrel
      have HC := Lib.hid hc
      have HJ := Lib.hid hJ
      have HS2 := Lib.hid hS2
      have HT2 := Lib.hid hT2
      obtain ⟨g5, off5, cap5, hh5, hg5, hrd⟩ := hS2.read (by rw [HL.out]; omega)
      rw [HL.out] at hh5 hrd
      have c5 := blk_cell hh5
      have z5 := lt_of_block hh5
      clear hS2 hT2 hJ hh5 HS HT
      by_cases hgo : j ≤ 1 ∧ c < m
      · have hcl : (c : Int) ≤ 2 * (q : Int) + 2 := by omega
        have hcm : (c : Int) < (m : Int) := by omega
        have d0 := hrd c hgo.2
        have d1 := hrd ff hff
        have x0 := HX.out _ (getD_mem (M := R) (q := c) (by rw [HL.out]; exact hgo.2))
        have x1 := HX.out _ (getD_mem (M := R) (q := ff) (by rw [HL.out]; exact hff))
        have HAh := Lib.hid (fun W => fold_ahead W (R.getD c 0) (R.getD ff 0) x0.2 x1.2 x0.1 x1.1)
        have HSt : Hid (stepH R ff c = if aheadI (R.getD c 0) (R.getD ff 0) = true then c else ff) := Lib.hid (by
          unfold stepH
          simp only [HL.out, hgo.2, true_and])
        generalize R.getD c 0 = x at d0 HAh HSt
        generalize R.getD ff 0 = y at d1 HAh HSt
        have hj1 := hgo.1
        have hcm2 := hgo.2
        have hfm : (ff : Int) < (m : Int) := by omega
        have HN := Lib.hid (HC.out ▸ HJ.out.next hj1)
        clear hrd x0 x1 hgo hc
        go_upto_region 5 with fail
        refine wp_region_ext (by kernel_rfl) (by kernel_rfl) ?_
        repeat (go_big_quiet_step ((go_at_call 243; exact quiet_ext (HAh.out _))))
        refine wpQuiet_nil ?_
        intro w6 h6
        have hb6 := below_of_ext h6
        have HS6 := Lib.hid (HS2.out.below hb6)
        have HT6 := Lib.hid (HT2.out.more hb6)
        clear h6 hb6 d0 d1 c5 z5
        cases hah : aheadI x y
        · rw [hah, if_neg (by simp)] at HSt
          go_wp2_with fail
          go_roundw
          case rel => exact ⟨j + 1, c + 1, ff, by have := HC.out; omega, by first | rfl | go_num | trace_state, rfl, by omega, hff, by have := HN.out; rw [HSt.out] at this; exact this, HS6.out, HT6.out⟩
          case measure => have := HC.out; simp [intOf]; omega
        · rw [hah, if_pos rfl] at HSt
          go_wp2_with fail
          go_roundw
          case rel => exact ⟨j + 1, c + 1, c, by have := HC.out; omega, by first | rfl | go_num | trace_state, rfl, by omega, hcm2, by have := HN.out; rw [HSt.out] at this; exact this, HS6.out, HT6.out⟩
          case measure => have := HC.out; simp [intOf]; omega
      · have hex : decide ((c : Int) ≤ 2 * (q : Int) + 2) = false ∨ ((c : Int) ≤ 2 * (q : Int) + 2 ∧ decide (c < m) = false) := by
          by_cases hj2 : j = 2
          · exact .inl (by simp; omega)
          · exact .inr ⟨by omega, by simp; omega⟩
        have HFf := Lib.hid (HJ.out.exit hj (by rw [HL.out]; omega))
        have HDn : Hid ((if ff = q then R else downH k' (swapL R q ff) ff) = T) := Lib.hid (by
          have := HD.out
          simp only [downH] at this
          rw [← HFf.out] at this
          exact this)
        have hle : q ≤ ff := by rw [HFf.out]; exact firstH_le R q
        have HSw := Lib.hid (fun W hS hne => ag_swap W a b n R D F hS q ff (by rw [HL.out]; exact hq2) (by rw [HL.out]; exact hff) hne (by rw [HL.out]; omega))
        clear hrd hgo hc
        rcases hex with k1 | ⟨k1, k2⟩
        all_goals
          by_cases hfq : ff = q
          · rw [if_pos hfq] at HDn
            subst hfq
            have hfe : ((ff : Int) == (ff : Int)) = true := by simp
            go_wp2_with fail
            exact bodyPost_ret (v := .tuple #[]) (by simp only [results, Tryz.results240]; go_simp) rfl ⟨rfl, HDn.out ▸ HS2.out, HT2.out⟩
          · rw [if_neg hfq] at HDn
            have hfe : ((ff : Int) == (q : Int)) = false := by simp; omega
            go_wp2_with fail
            refine (HSw.out _ HS2.out (fun e => hfq e.symm)).mono ?_
            rintro e w7 ⟨rfl, hs7, ht7⟩
            have HS7 := Lib.hid hs7
            have HT7 := Lib.hid (HT2.out.trans ht7 Grow.refl)
            clear hs7 ht7
            go_wp2_with fail
            go_roundw
            case rel => exact ⟨ff, k', swapL R q ff, rfl, HS7.out, by rw [swapL_len, HL.out]; exact hff, by rw [swapL_len, HL.out]; omega, HDn.out, fun z hz => HX.out z ((swapL_perm (by rw [HL.out]; exact hq2) (by rw [HL.out]; exact hff)).mem_iff.1 hz), by rw [swapL_len]; exact HL.out, HT7.out⟩
            case measure => simp [intOf]; omega
theorem ag_sink_nil (w : World) (a b n : Nat) (D : DataW Unit) (F : Nat → Prop) (h : AgS w a b [] n D F) :
    Calls Tryz.prog 240 #[.pointer (some ⟨a, 0, none⟩)] w fun e w' => e = .returned (.tuple #[]) ∧ AgS w' a b [] n D F ∧ Turn F w w' := by
  have HS0 := Lib.hid h
  obtain ⟨v, hh, ho, _, _⟩ := h
  obtain ⟨A, cap, rfl, _⟩ := ho.form
  have c := blk_cell hh
  have z := lt_of_block hh
  simp only [List.length_nil] at c
  clear hh ho
  go_enter Tryz.func240, Tryz.ntmps240
  go_wp2_with fail
  go_loopw [2] (fun i wr => i = .int .i64 0 ∧ wr = w) (fun _ _ => 0)
  case atStart => exact ⟨rfl, rfl⟩
  case round =>
    obtain ⟨rfl, rfl⟩ := hrel
    go_wp2_with fail
    go_loopw [3, 4] (fun f c W => f = .int .i64 0 ∧ c = .int .i64 1 ∧ W = wr) (fun _ _ _ => 0)
    case atStart => exact ⟨rfl, rfl, rfl⟩
    case round =>
      obtain ⟨rfl, rfl, rfl⟩ := hrel
      go_wp2_with fail
      exact bodyPost_ret (v := .tuple #[]) (by simp only [results, Tryz.results240]; go_simp) rfl ⟨rfl, HS0.out, Turn.refl _ _⟩
theorem ownsMap_shrink {w : World} {b n : Nat} {D : DataW Unit} {R : Value → Option (DataW Unit × List MemPlace)} (h : w.ownsMap Tryz.prog 3 R b n D) : w.ownsMap Tryz.prog 3 R b (Go.Maps.size D) D := by
  obtain ⟨es, clock, h1, h2, h3, rfl⟩ := h
  refine ⟨es, clock, h1, h2, ?_, rfl⟩
  simp [Go.Maps.size, length_sorted]
theorem SetIs.pop {D : DataW Unit} {x : Int} {L : List Int} {w : World} {b n : Nat} (h : SetIs D (x :: L)) (hown : w.ownsMap Tryz.prog 3 (unitElem (H := Unit)) b n D) (hx : x ∉ L) : SetIs (D.del (.int .i64 x)) (popH (x :: L)) := by
  have hp := popH_perm x L
  refine ⟨fun z => ?_, ?_⟩
  · rw [hp.mem_iff]
    by_cases hz : z = x
    · subst hz
      rw [has_del_same]
      simp [hx]
    · rw [has_del_other (by simp [hz]), h.has]; simp [hz]
  · have hd := size_del (k := .int .i64 x) (hown.tidy keyI')
    rw [(h.has x).2 (by simp), h.size] at hd
    rw [hp.length_eq]
    simp at hd
    omega
theorem ag_sink_any (w : World) (a b n : Nat) (M : List Int) (D : DataW Unit) (F : Nat → Prop) (h : AgS w a b M n D F) (hM : ∀ x ∈ M, 1 ≤ x ∧ x ≤ 9223372036854775807) (hlen : M.length ≤ 1000000000001) :
    Calls Tryz.prog 240 #[.pointer (some ⟨a, 0, none⟩)] w fun e w' => e = .returned (.tuple #[]) ∧ AgS w' a b (downH M.length M 0) n D F ∧ Turn F w w' := by
  by_cases h0 : 0 < M.length
  · exact ag_sink w a b n M D F h h0 hM hlen
  · have : M = [] := List.length_eq_zero_iff.1 (by omega)
    subst this
    exact ag_sink_nil w a b n D F h
set_option maxHeartbeats 8000000 in
theorem ag_Pop (w : World) (a b : Nat) (x : Int) (L : List Int) (F : Nat → Prop) (h : AgAt w a b (x :: L) F) (hx : x ∉ L) (hM : ∀ y ∈ x :: L, 1 ≤ y ∧ y ≤ 9223372036854775807) (hlen : L.length ≤ 1000000000000) :
    Calls Tryz.prog 220 #[.pointer (some ⟨a, 0, none⟩)] w fun e w' => e = .returned (.tuple #[.int .i64 x, .bool true]) ∧ AgAt w' a b (popH (x :: L)) F ∧ Turn F w w' := by
  obtain ⟨D, hS, hs⟩ := h
  have HLn := Lib.hid (ag_Len w a b _ (x :: L) D F hS)
  obtain ⟨v, hh, ho, hm, rfl⟩ := hS
  have hap := AgS.apart hh ho hm
  have HA := Lib.hid hap
  have HSet := Lib.hid (hs.pop hm hx)
  have HK : Hid (keyOf Tryz.prog 3 (.int .i64 x) = some (.int .i64 x)) := Lib.hid (keyOf_int_mk Tryz.underlying3 (WalkArith.wf_i64 (by have := hM x (by simp); omega)))
  obtain ⟨g, off, cap, rfl, hcap⟩ := own_at0 ho (by simp)
  obtain ⟨n, hn⟩ : ∃ n, n = L.length := ⟨_, rfl⟩
  have hN1 : (x :: L).length = n + 1 := by rw [hn]; simp
  obtain ⟨y, hy⟩ : ∃ y, y = (x :: L).getD n 0 := ⟨_, rfl⟩
  have hpop : popH (x :: L) = downH n (((x :: L).set 0 y).take n) 0 := by rw [hy, hn]; rfl
  have HPop := Lib.hid hpop
  have hyM : y ∈ x :: L := by rw [hy]; exact getD_mem (by rw [hN1]; omega)
  have hM2 : ∀ z ∈ ((x :: L).set 0 y).take n, 1 ≤ z ∧ z ≤ 9223372036854775807 := fun z hz => by
    have := List.mem_of_mem_take hz
    rcases List.mem_or_eq_of_mem_set this with h | h
    · exact hM z h
    · rw [h]; exact hM y hyM
  have HM2 := Lib.hid hM2
  have HML : Hid ((((x :: L).set 0 y).take n).length = n) := Lib.hid (by rw [List.length_take, List.length_set, hN1]; omega)
  rw [hN1] at HLn hh ho hm hcap HA hap ⊢
  have ga : g ≠ a := fun he => hap.1 (by rw [he]; rfl)
  have HH := Lib.hid hh
  have HO := Lib.hid ho
  have HMp := Lib.hid hm
  have hlen2 : n ≤ 1000000000000 := by omega
  have HN := Lib.hid hN1
  have HY := Lib.hid hy
  clear hs hh ho hm hap hx hM hn hN1 hy hpop hyM hM2 hlen
  go_enter Tryz.func220, Tryz.ntmps220
  go_wp2_with fail
  refine HLn.out.mono ?_
  rintro e w1 ⟨rfl, hb1⟩
  have H1 := Lib.hid (blk_below HH.out hb1)
  have O1 := Lib.hid (HO.out.below hb1)
  have M1 := Lib.hid (ownsMap_keep HMp.out (hb1.block b HMp.out.lt))
  have T1 : Hid (Turn (footA a (.slice (some ⟨g, off, none⟩) (n + 1) cap) b) w w1) := Lib.hid (.of_below hb1)
  have c1 := blk_cell H1.out
  have z1 := lt_of_block H1.out
  have zg1 := (O1.out.lt g rfl).2
  have d0 := O1.out.slT.cell_at (k := 0) (by rw [HN.out]; omega) 0 (.int .i64 x) rfl
  simp only [Nat.zero_mul, Nat.add_zero] at d0
  clear hb1
  go_upto_region 3 with fail
  refine wp_region_ext (by kernel_rfl) (by kernel_rfl) ?_
  repeat (go_big_quiet_step (fail))
  refine wpQuiet_nil ?_
  intro w2 h2
  have hb2 := below_of_ext h2
  have H2 := Lib.hid (blk_below H1.out hb2)
  have O2 := Lib.hid (O1.out.below hb2)
  have M2 := Lib.hid (ownsMap_keep M1.out (hb2.block b M1.out.lt))
  have T2 := Lib.hid (T1.out.more hb2)
  clear h2 hb2 c1 z1 zg1 d0 H1 O1 M1 T1 HLn HH HO HMp
  have c2 := blk_cell H2.out
  have z2 := lt_of_block H2.out
  have zg2 := (O2.out.lt g rfl).2
  have fg := O2.out.frozen
  have d0 := O2.out.slT.cell_at (k := 0) (by rw [HN.out]; omega) 0 (.int .i64 x) rfl
  have d1 := O2.out.slT.cell_at (k := n) (by rw [HN.out]; omega) 0 (.int .i64 y) (by
    have : (x :: L)[n]'(by rw [HN.out]; omega) = y := by rw [HY.out, List.getD_eq_getElem?_getD, List.getElem?_eq_getElem (by rw [HN.out]; omega)]; rfl
    rw [this]; rfl)
  simp only [Nat.zero_mul, Nat.mul_one, Nat.add_zero] at d0 d1
  have o3 := own_setZ O2.out 0 (by rw [HN.out]; omega) y
  simp only [Nat.add_zero] at o3
  have h3 := (Below.heap_setCell w2 ⟨g, off, none⟩ (.int .i64 y) a (fun he => ga he.symm)).trans H2.out
  have m3 := M2.out.setCell (a := ⟨g, off, none⟩) (fun he => HA.out.2.1 (by rw [he]; rfl)) (.int .i64 y)
  have t3 := T2.out.setCell (p := ⟨g, off, none⟩) (.inl (.inr (.inl rfl))) (.int .i64 y)
  go_upto_region 4 with fail
  have O3 := Lib.hid o3.drew
  have H3 : Hid ((w2.setCell ⟨g, off, none⟩ (.int .i64 y)).drew.heap[a]? = _) := Lib.hid h3
  have M3 : Hid ((w2.setCell ⟨g, off, none⟩ (.int .i64 y)).drew.ownsMap Tryz.prog 3 (unitElem (H := Unit)) b (n + 1) D) := Lib.hid m3
  have T3 := Lib.hid t3.drew
  clear o3 h3 m3 t3
  go_region
  generalize (w2.setCell ⟨g, off, none⟩ (.int .i64 y)).drew = w3 at O3 H3 M3 T3 ⊢
  clear c2 z2 zg2 fg d0 d1 H2 O2 M2 T2
  have c3 := blk_cell H3.out
  have f3 := blk_frozen H3.out
  have z3 := lt_of_block H3.out
  have hnc : n ≤ cap := by omega
  have o4 := O3.out.upTo (k := n) (by rw [List.length_set, HN.out]; omega)
  have S4 : Hid (AgS (w3.setCell ⟨a, 0, none⟩ (.slice (some ⟨g, off, none⟩) n cap)) a b (((x :: L).set 0 y).take n) (n + 1) D (footA a (.slice (some ⟨g, off, none⟩) (n + 1) cap) b)) :=
    Lib.hid ⟨.slice (some ⟨g, off, none⟩) n cap, heap_set_at (i := 0) H3.out (.slice (some ⟨g, off, none⟩) n cap), o4.setCell (p := ⟨a, 0, none⟩) (o4.ne_block H3.out (by decide)) _, M3.out.setCell (a := ⟨a, 0, none⟩) (fun he => HA.out.2.2 he.symm) _, rfl⟩
  have T4 := Lib.hid (T3.out.setCell (p := ⟨a, 0, none⟩) (.inl (.inl rfl)) (.slice (some ⟨g, off, none⟩) n cap))
  clear o4 H3 M3 T3 O3
  go_upto_region 6 with fail
  generalize w3.setCell ⟨a, 0, none⟩ (.slice (some ⟨g, off, none⟩) n cap) = w4 at S4 T4 ⊢
  generalize hFe : footA a (.slice (some ⟨g, off, none⟩) (n + 1) cap) b = F at S4 T4
  have HFe := Lib.hid hFe
  clear hFe
  generalize ((x :: L).set 0 y).take n = M' at S4 HM2 HML HPop
  clear c3 f3 z3
  have HSk := Lib.hid (ag_sink_any w4 a b (n + 1) M' D F S4.out HM2.out (by rw [HML.out]; omega))
  rw [HML.out] at HSk
  go_wp2_with fail
  refine HSk.out.mono ?_
  rintro e w5 ⟨rfl, hs5, ht5⟩
  have HS5 := Lib.hid hs5
  have T5 := Lib.hid (T4.out.trans ht5 Grow.refl)
  rw [← HPop.out] at HS5
  obtain ⟨v5, hh5, ho5, hm5, hF5⟩ := HS5.out
  have c5 := blk_cell hh5
  have z5 := lt_of_block hh5
  have M5 := Lib.hid hm5
  have HH5 := Lib.hid hh5
  have HO5 := Lib.hid ho5
  have HA5 := Lib.hid (AgS.apart hh5 ho5 hm5)
  clear hs5 ht5 hm5 hh5 ho5 HSk
  go_wp2_with ((at_delete; refine wpList_delete_own _ rfl _ _ 289 3 rfl 293 keyI' Tryz.underlying289 (unitElem (H := Unit)) b (n + 1) D rfl M5.out _ _ rfl HK.out ?_; intro w6 hown6 hturn6))
  have hg6 := hturn6.grown
  have A6 : AgAt w6 a b (popH (x :: L)) F := by
    refine ⟨D.del (.int .i64 x), ⟨v5, ?_, ?_, ?_, hF5⟩, HSet.out⟩
    · exact (hg6.block a (lt_of_block HH5.out) (by simp only [ne_eq, Option.some.injEq]; exact HA5.out.2.2)).trans HH5.out
    · exact HO5.out.kept hg6 (.inr HA5.out.2.1)
    · have := ownsMap_shrink hown6
      rwa [HSet.out.size] at this
  have T6 := T5.out.grown hg6 (fun z hz => by cases hz; exact .inl (by rw [hF5]; exact .inr (.inr rfl)))
  refine bodyPost_ret (v := .tuple #[.int .i64 x, .bool true]) (by simp only [results, Tryz.results220]; go_simp) rfl ⟨rfl, ?_, ?_⟩
  · rw [HFe.out]; exact A6
  · rw [HFe.out]; exact T6
end Go.Proofs.YtgjaopfjffncbaaGreat
/- Package fold: New; Put of whatever number. -/
namespace Go.Proofs.YtgjaopfjffncbaaGreat
open Go.ChangeShapes Go.WideShapes Go.ChangeAt Go.RowKit Go.Maps
set_option linter.unusedVariables false
set_option linter.unusedSimpArgs false
set_option maxRecDepth 100000

/-- What Put leaves. -/
def AgPutPost (w : World) (a b : Nat) (L : List Int) (F : Nat → Prop) (e : Ending) (w' : World) : Prop := ∃ (t : Bool) (F' : Nat → Prop), e = .returned (.bool t) ∧ AgAt w' a b L F' ∧ Turn F w w' ∧ Grow w F F'
theorem ag_Put (w : World) (a b : Nat) (L : List Int) (F : Nat → Prop) (h : AgAt w a b L F) (id : Int) (h2 : id ≤ 9223372036854775807) (hL : ∀ x ∈ L, 1 ≤ x ∧ x ≤ 9223372036854775807) (hlen : L.length ≤ 1000000000000) :
    Calls Tryz.prog 223 #[.pointer (some ⟨a, 0, none⟩), .int .i64 id] w (AgPutPost w a b (putW L id) F) := by
  by_cases h1 : id < 1
  · have e : putW L id = L := by unfold putW; rw [if_pos (.inl h1)]
    rw [e]
    refine (ag_Put_no w a id h1).mono ?_
    rintro e w' ⟨rfl, hb⟩
    exact ⟨false, F, rfl, h.below hb, .of_below hb, Grow.refl⟩
  · by_cases hid : id ∈ L
    · have e : putW L id = L := by unfold putW; rw [if_pos (.inr hid)]
      rw [e]
      refine (ag_Put_in w a b L F h id hid (by omega) h2).mono ?_
      rintro e w' ⟨rfl, hb⟩
      exact ⟨false, F, rfl, h.below hb, .of_below hb, Grow.refl⟩
    · have e : putW L id = putH L id := by unfold putW; rw [if_neg (by rintro (h | h); exact h1 h; exact hid h)]
      rw [e]
      refine (ag_Put_new w a b L F h id hid (by omega) h2 hL hlen).mono ?_
      rintro e w' ⟨F', rfl, ha, ht, hg⟩
      exact ⟨true, F', rfl, ha, ht, hg⟩
theorem putW_vals {L : List Int} {id : Int} (h2 : id ≤ 9223372036854775807) (hL : ∀ x ∈ L, 1 ≤ x ∧ x ≤ 9223372036854775807) : ∀ x ∈ putW L id, 1 ≤ x ∧ x ≤ 9223372036854775807 := fun x hx => by
  rcases (putW_mem L id x).1 hx with hx | ⟨h1, rfl⟩
  · exact hL x hx
  · exact ⟨h1, h2⟩
def putAll (ids : List Int) : List Int := ids.foldl putW []
theorem putAll_snoc {ids : List Int} {q : Nat} (h : q < ids.length) : putAll (ids.take (q + 1)) = putW (putAll (ids.take q)) ids[q] := by
  unfold putAll
  rw [List.take_succ_eq_append_getElem h, List.foldl_append]; rfl
theorem foldW_len (ids : List Int) : ∀ L : List Int, (ids.foldl putW L).length ≤ L.length + ids.length := by
  induction ids with
  | nil => intro L; simp
  | cons x ids ih =>
    intro L
    have h1 := ih (putW L x)
    have h2 := putW_len L x
    simp only [List.foldl_cons, List.length_cons]
    omega
theorem putAll_len (ids : List Int) : (putAll ids).length ≤ ids.length := by
  have := foldW_len ids []
  simpa [putAll] using this
theorem foldW_mem (ids : List Int) : ∀ (L : List Int) (z : Int), z ∈ ids.foldl putW L ↔ z ∈ L ∨ (1 ≤ z ∧ z ∈ ids) := by
  induction ids with
  | nil => intro L z; simp
  | cons x ids ih =>
    intro L z
    rw [List.foldl_cons, ih, putW_mem, List.mem_cons]
    constructor
    · rintro ((h | ⟨h1, rfl⟩) | ⟨h1, h2⟩)
      · exact .inl h
      · exact .inr ⟨h1, .inl rfl⟩
      · exact .inr ⟨h1, .inr h2⟩
    · rintro (h | ⟨h1, h2 | h2⟩)
      · exact .inl (.inl h)
      · exact .inl (.inr ⟨h2 ▸ h1, h2⟩)
      · exact .inr ⟨h1, h2⟩
theorem putAll_mem (ids : List Int) (z : Int) : z ∈ putAll ids ↔ 1 ≤ z ∧ z ∈ ids := by
  unfold putAll; rw [foldW_mem]; simp
theorem foldW_wait (ids : List Int) : ∀ L : List Int, WaitL L → WaitL (ids.foldl putW L) := by
  induction ids with
  | nil => intro L h; exact h
  | cons x ids ih => intro L h; exact ih _ (h.put x)
theorem putAll_wait (ids : List Int) : WaitL (putAll ids) := foldW_wait ids [] .nil
theorem putAll_vals {ids : List Int} (h : ∀ x ∈ ids, x ≤ 9223372036854775807) : ∀ x ∈ putAll ids, 1 ≤ x ∧ x ≤ 9223372036854775807 := fun x hx => ⟨((putAll_mem ids x).1 hx).1, h x ((putAll_mem ids x).1 hx).2⟩
/-- A new agenda. -/
def AgNewPost (w : World) (L : List Int) (e : Ending) (w' : World) : Prop := ∃ (a b : Nat) (F : Nat → Prop), e = .returned (.pointer (some ⟨a, 0, none⟩)) ∧ AgAt w' a b L F ∧ (∀ x, F x → w.heap.size ≤ x) ∧ Below w.heap.size w w'
set_option maxHeartbeats 4000000 in
theorem fold_New (w : World) (A : Option Addr) (cap : Nat) (ids : List Int) (hS : Sl w w.heap.size encZ A ids) (hI : ∀ x ∈ ids, x ≤ 9223372036854775807) (hlen : ids.length ≤ 1000000000000) :
    Calls Tryz.prog 217 #[.slice A ids.length cap] w (AgNewPost w (putAll ids)) := by
  have hmm := @run_makeMap Tryz.prog
  have HS := Lib.hid hS
  have HI := Lib.hid hI
  clear hS hI
  go_enter Tryz.func217, Tryz.ntmps217
  have M0 := Lib.hid (World.ownsMap_made w Tryz.prog 3 (unitElem (H := Unit)))
  have al := fun (W : World) (o : Obj) => (Below.refl W.heap.size W).alloc (Nat.le_refl _) o
  have BW0 : Hid (Below w.heap.size w ((w.alloc (.map #[] 0)).alloc (.cells #[.slice none 0 0, .map (some w.heap.size)] 291))) := Lib.hid (by repeat (first | with_reducible exact Below.refl _ _ | with_reducible assumption | ((with_reducible refine Below.setCell ?_ ?_ _); rotate_left; · (first | omega | exact Nat.le_refl _ | (simp <;> omega))) | (with_reducible refine Below.allocW ?_ _) | (with_reducible refine Below.drew ?_) | (with_reducible refine Below.extW ?_ _)))
  have A0 : Hid (∃ F, AgAt ((w.alloc (.map #[] 0)).alloc (.cells #[.slice none 0 0, .map (some w.heap.size)] 291)) (w.heap.size + 1) w.heap.size [] F ∧ ∀ x, F x → w.heap.size ≤ x) := Lib.hid ⟨_, ⟨.map [], ⟨.slice none 0 0, heap_new_at (w.alloc (.map #[] 0)) _ _ (by simp), .nil _ _ _ _, ownsMap_keep M0.out ((al (w.alloc (.map #[] 0)) _).block _ (by simp)), rfl⟩, ⟨fun z => by simp [Go.Maps.has], rfl⟩⟩, fun x hx => by
    rcases hx with rfl | hx | rfl
    · omega
    · cases hx
    · exact Nat.le_refl _⟩
  go_upto_region 2 with fail
  generalize (w.alloc (.map #[] 0)).alloc (.cells #[.slice none 0 0, .map (some w.heap.size)] 291) = W0 at BW0 A0 ⊢
  obtain ⟨F0, hA0, hF0⟩ := A0.out
  have HA0 := Lib.hid hA0
  have HF0 := Lib.hid hF0
  obtain ⟨ga, hga⟩ : ∃ ga, ga = w.heap.size + 1 := ⟨_, rfl⟩
  obtain ⟨gm, hgm⟩ : ∃ gm, gm = w.heap.size := ⟨_, rfl⟩
  rw [← hga, ← hgm] at HA0
  rw [← hga]
  clear A0 hA0 hF0 M0 al hga hgm
  go_wp2_with fail
  go_loopw [11] (fun j wr => ∃ (q : Nat) (F : Nat → Prop), q ≤ ids.length ∧ j = .int .i64 q ∧ AgAt wr ga gm (putAll (ids.take q)) F ∧ (∀ x, F x → w.heap.size ≤ x) ∧ Below w.heap.size w wr) (fun j _ => ids.length - (intOf j).toNat)
  case atStart => exact ⟨0, F0, Nat.zero_le _, rfl, HA0.out, HF0.out, BW0.out⟩
  case round =>
    obtain ⟨q, F, hq, rfl, hA, hF, hB⟩ := hrel
    have HA := Lib.hid hA
    have HF := Lib.hid hF
    have HB := Lib.hid hB
    clear hA hF HA0
    by_cases hlt : q < ids.length
    · have hqi : (q : Int) < (ids.length : Int) := by omega
      obtain ⟨b, off, rfl, hb, hc⟩ := HS.out.at_ hlt
      have d0 := (hB.cell (p := ⟨b, off + q, none⟩) hb).trans (by have := hc 0 (.int .i64 ids[q]) rfl; simpa using this)
      have lb : b < wr.heap.size := Nat.lt_of_lt_of_le hb hB.size
      have hx2 := HI.out _ (List.getElem_mem hlt)
      have HSn := Lib.hid (putAll_snoc hlt)
      have hle := putAll_len (ids.take q)
      rw [List.length_take] at hle
      have HPut := Lib.hid (fun W h => ag_Put W ga gm (putAll (ids.take q)) F h ids[q] hx2 (putAll_vals fun x hx => HI.out x (List.mem_of_mem_take hx)) (by omega))
      obtain ⟨x, hx⟩ : ∃ x, x = ids[q] := ⟨_, rfl⟩
      rw [← hx] at d0 HPut HSn
      clear hc hx hx2 hle hB
      go_wp2_with fail
      refine (HPut.out _ HA.out).mono ?_
      rintro e w3 ⟨t, F', rfl, hA3, hT3, hG3⟩
      have N3 : Hid (AgAt w3 ga gm (putW (putAll (ids.take q)) x) F' ∧ (∀ x, F' x → w.heap.size ≤ x) ∧ Below w.heap.size w w3) := Lib.hid ⟨hA3, fun y hy => by
        rcases hG3 y hy with h | h
        · exact HF.out y h
        · exact Nat.le_trans HB.out.size h, HB.out.trans (hT3.below HF.out HB.out.size)⟩
      clear hA3 hT3 hG3
      go_wp2_with fail
      go_roundw
      case rel => exact ⟨q + 1, F', by omega, by go_num, by rw [HSn.out]; exact N3.out.1, N3.out.2.1, N3.out.2.2⟩
      case measure => simp [intOf]; omega
    · obtain rfl : q = ids.length := by omega
      have hqi : decide ((ids.length : Int) < (ids.length : Int)) = false := by simp
      rw [List.take_length] at HA
      go_wp2_with fail
      go_ret
      exact ⟨ga, gm, F, rfl, HA.out, HF.out, HB.out⟩
end Go.Proofs.YtgjaopfjffncbaaGreat
/- Appends inside a fence; what a round keeps. -/
namespace Go.Proofs.YtgjaopfjffncbaaGreat
open Go.ChangeShapes Go.WideShapes Go.ChangeAt Go.RowKit
set_option linter.unusedVariables false

section
variable {α : Type} {P : Program} {t e : TypeId} {size bytes : Nat} {z : Value} {F : Fence} {n : Nat}
theorem wpListIn_app {w : World} {ops : Array Oper} {rest : List Oper} {o : Oper} {a : Act} {Q : Exit → Act → World → Prop} (T : SliceTy P t e size bytes z) (hgd : o.guard = none) (s x : Operand)
    (ho : o.op = .call { callee := .builtin .append, args := #[s, x], argTypes := #[t, t] }) (E : Enc α size) (base : Nat) (v : Value) (l : List α) (hs : a.eval s = v) (hown : Own w base e E v l)
    (A : Option Addr) (c : Nat) (l2 : List α) (B : Nat) (hx : a.eval x = .slice A l2.length c) (hsrc : Sl w B E A l2) (hn : (l.length + l2.length) * bytes ≤ 140737488355328) (hm : l.length + l2.length ≤ maxLen) (hbase : base ≤ w.heap.size)
    (h : ∀ v' w', Own w' base e E v' (l ++ l2) → w.grownBy w' v.ownBlock → (v'.ownBlock = v.ownBlock ∨ v'.ownBlock = some w.heap.size) → Below base w w' → (l2 ≠ [] → v' ≠ .slice none 0 0) →
      wpListIn F n P ops Q rest (a.put o.dst v') w') : wpListIn F n P ops Q (o :: rest) a w := by
  refine wpListIn_plain hgd fun K hK => ?_
  obtain ⟨v', w', hr, h2, h3, h4, h5⟩ := app_run T o.type w base v l hown A c l2 B hsrc hn hm hbase
  unfold Oper.wpIn
  refine ⟨?_, ?_⟩
  · simp [Oper.about, ho, resolve, Target.leads, Sem.run_pure]
  · rw [Oper.semAt_plain F _ _ (by rw [ho]; intro c hc'; cases hc')]
    simp only [execOp, ho, resolve, invoke, builtin, Sem.run_bind, Sem.run_pure, Result.andThen_ok, List.map_toArray, List.map_cons, List.map_nil, hs, hx, hr]
    exact hK _ _ (h v' w' h2 h3 h4 ((Below.refl base w).grown h3 hbase fun k hk => (hown.lt k hk).1) h5)
theorem wpListIn_push {w : World} {ops : Array Oper} {rest : List Oper} {o : Oper} {a : Act} {Q : Exit → Act → World → Prop} (T : SliceTy P t e size bytes z) (hgd : o.guard = none) (s x : Operand)
    (ho : o.op = .call { callee := .builtin .append, args := #[s, x], argTypes := #[t, t] }) (E : Enc α size) (W : World) (base : Nat) (v : Value) (l : List α) (hs : a.eval s = v) (hown : Own W base e E v l)
    (x0 : α) (hx : a.eval x = .slice (some ⟨W.heap.size, 0, none⟩) 1 1) (hw : w = W.alloc (.cells (E.enc x0).toArray e)) (hn : (l.length + 1) * bytes ≤ 140737488355328) (hm : l.length + 1 ≤ maxLen) (hbase : base ≤ W.heap.size)
    (h : ∀ v' w', Own w' base e E v' (l ++ [x0]) → W.grownBy w' v.ownBlock → W.heap.size < w'.heap.size → (v'.ownBlock = v.ownBlock ∨ v'.ownBlock = some (W.heap.size + 1)) → Below base W w' → v' ≠ .slice none 0 0 →
      wpListIn F n P ops Q rest (a.put o.dst v') w') : wpListIn F n P ops Q (o :: rest) a w := by
  subst hw
  have hsl := sl_lit W E [x0] e _ rfl
  simp only [List.flatMap_cons, List.flatMap_nil, List.append_nil] at hsl
  refine wpListIn_app T hgd s x ho E base v l hs (hown.alloc _) (some ⟨W.heap.size, 0, none⟩) 1 [x0] _ (by simpa using hx) hsl (by simpa using hn) (by simpa using hm) (by simp; omega) fun v' w' h2 h3 h4 h5 h6 => ?_
  have hs := h3.size
  simp at hs
  refine h v' w' h2 ⟨h3.os, h3.tape, h3.output, by omega, fun i hi hne => (h3.block i (by simp; omega) hne).trans (Below.heap_alloc W _ i hi)⟩ (by omega) ?_ ?_ (h6 (by simp))
  · rcases h4 with h4 | h4
    · exact .inl h4
    · right; rw [h4]; simp
  · exact ((Below.refl base W).alloc hbase _).trans h5
end

/-- A round keeps the rows below z, but for those in X. -/
def KeepX (z : Nat) (X : Nat → Prop) (A B : World) : Prop := A.heap.size ≤ B.heap.size ∧ ∀ (b : Nat) (cs : Array Value) (t : TypeId) (fr : Nat × Nat), b < z → ¬ X b → A.heap[b]? = some (.cells cs t fr) → B.heap[b]? = some (.cells cs t fr)
section
variable {z : Nat} {X : Nat → Prop} {A B C : World}
theorem keepX_t (h : KeepX z X A B) (k : KeepX z X B C) : KeepX z X A C := ⟨Nat.le_trans h.1 k.1, fun b cs t fr hz hx hb => k.2 b cs t fr hz hx (h.2 b cs t fr hz hx hb)⟩
theorem keepX_b (W : World) (l : Nat) (o o' : Obj) (h : W.heap[l]? = some o) (hc : o.isCells = false) : KeepX z X W (W.putObj l o') := by
  refine ⟨(grownBy_putObj' W l o').size, fun b cs t fr _ _ hb => ?_⟩
  have hne : b ≠ l := by
    rintro rfl
    rw [h] at hb
    cases hb
    simp [Obj.isCells] at hc
  rw [World.putObj_heap_other hne]
  exact hb
theorem KeepX.refl (W : World) : KeepX z X W W := ⟨Nat.le_refl _, fun _ _ _ _ _ _ h => h⟩
theorem KeepX.of_below (h : Below A.heap.size A B) : KeepX z X A B := ⟨h.size, fun b cs t fr _ _ hb => (h.block b (lt_of_block hb)).trans hb⟩
/-- A store to a block of X, or beyond z. -/
theorem KeepX.set (h : KeepX z X A B) {p : Addr} (hp : X p.block ∨ z ≤ p.block) (u : Value) : KeepX z X A (B.setCell p u) :=
  keepX_t h ⟨by simp [World.setCell], fun b cs t fr hz hx hb => by
    rw [Below.heap_setCell _ _ _ _ (by
      rintro rfl
      rcases hp with hp | hp
      · exact hx hp
      · omega)]
    exact hb⟩
theorem KeepX.grown (h : KeepX z X A B) {row : Option Nat} (hg : B.grownBy C row) (hr : ∀ b, row = some b → z ≤ b) : KeepX z X A C :=
  keepX_t h ⟨hg.size, fun b cs t fr hz hx hb => (hg.block b (lt_of_block hb) (fun e => by have := hr b e.symm; omega)).trans hb⟩
theorem KeepX.cell (h : KeepX z X A B) {b o : Nat} {v : Value} (hz : b < z) (hx : ¬ X b) (hc : A.cell? ⟨b, o, none⟩ = some v) : B.cell? ⟨b, o, none⟩ = some v := by
  obtain ⟨ob, h1, h2⟩ := cells_of_cell hc
  cases ob with
  | cells cs t fr => exact (World.cell?_of_block ((h.2 b cs t fr hz hx h1).trans h1.symm)).trans hc
  | _ => simp [Obj.isCells] at h2
/-- A row is kept where what is no row turns. -/
theorem row_grown {row : Option Nat} {b : Nat} {cs : Array Value} {t : TypeId} {fr : Nat × Nat} (h : A.heap[b]? = some (.cells cs t fr)) (hg : A.grownBy B row) (hr : ∀ r, row = some r → ∃ o : Obj, A.heap[r]? = some o ∧ o.isCells = false) : B.heap[b]? = some (.cells cs t fr) :=
  (grownBy_keeps_cells hg hr h rfl).trans h
theorem own_grown {α : Type} {size base e : Nat} {E : Enc α size} {v : Value} {l : List α} {row : Option Nat} (h : Own A base e E v l) (hg : A.grownBy B row) (hr : ∀ r, row = some r → ∃ o : Obj, A.heap[r]? = some o ∧ o.isCells = false) : Own B base e E v l :=
  h.of_block fun g hv => by
    rcases h with ⟨rfl, _⟩ | ⟨g1, o1, c1, u1, rfl, _, hh1, _⟩
    · cases hv
    · have : g1 = g := by simpa [Value.ownBlock] using hv
      subst this
      exact grownBy_keeps_cells hg hr hh1 rfl
end
/-- A slice of ints that reads as a list, in a block below z that is none of X. -/
def SlX (w : World) (z : Nat) (X : Nat → Prop) (A : Option Addr) (es : List Int) : Prop := es = [] ∨ ∃ b off, A = some ⟨b, off, none⟩ ∧ b < z ∧ ¬ X b ∧ ∀ i x, es[i]? = some x → w.cell? ⟨b, off + i, none⟩ = some (.int .i64 x)
theorem SlX.keep {w w' : World} {z : Nat} {X : Nat → Prop} {A : Option Addr} {es : List Int} (h : SlX w z X A es) (k : KeepX z X w w') : SlX w' z X A es := by
  rcases h with h | ⟨b, off, rfl, hz, hx, hc⟩
  · exact .inl h
  · exact .inr ⟨b, off, rfl, hz, hx, fun i x hi => k.cell hz hx (hc i x hi)⟩
theorem SlX.below {w w' : World} {z : Nat} {X : Nat → Prop} {A : Option Addr} {es : List Int} (h : SlX w z X A es) (hb : Below z w w') : SlX w' z X A es := by
  rcases h with h | ⟨b, off, rfl, hz, hx, hc⟩
  · exact .inl h
  · exact .inr ⟨b, off, rfl, hz, hx, fun i x hi => (hb.cell (p := ⟨b, off + i, none⟩) hz).trans (hc i x hi)⟩
theorem SlX.of {w : World} {B z : Nat} {X : Nat → Prop} {A : Option Addr} {es : List Int} (h : Sl w B encZ A es) (hB : B ≤ z) (hX : ∀ b, b < B → ¬ X b) : SlX w z X A es := by
  rcases h with h | ⟨b, off, rfl, hb, hc⟩
  · exact .inl h
  · refine .inr ⟨b, off, rfl, by omega, hX b hb, fun i x hi => ?_⟩
    have := hc i x hi 0 (.int .i64 x) rfl
    simpa using this
theorem SlX.at_ {w : World} {z : Nat} {X : Nat → Prop} {A : Option Addr} {es : List Int} (h : SlX w z X A es) {i : Nat} (hi : i < es.length) : ∃ b off, A = some ⟨b, off, none⟩ ∧ b < z ∧ w.cell? ⟨b, off + i, none⟩ = some (.int .i64 es[i]) := by
  rcases h with h | ⟨b, off, rfl, hz, hx, hc⟩
  · subst h; simp at hi
  · exact ⟨b, off, rfl, hz, hc i _ (List.getElem?_eq_getElem hi)⟩
end Go.Proofs.YtgjaopfjffncbaaGreat
/- Package fold: Parents: the parents of all nodes, in the order of folding. -/
namespace Go.Proofs.YtgjaopfjffncbaaGreat
open Go.ChangeShapes Go.WideShapes Go.ChangeAt Go.RowKit
set_option linter.unusedVariables false
set_option linter.unusedSimpArgs false
set_option maxRecDepth 100000
attribute [local go_sem] Oper.semAt_some

theorem AgAt.mapb {w : World} {a b : Nat} {L : List Int} {F : Nat → Prop} (h : AgAt w a b L F) : (∃ es clock, w.heap[b]? = some (.map es clock)) ∧ F b ∧ b < w.heap.size := by
  obtain ⟨D, ⟨v, h1, h2, h3, rfl⟩, _⟩ := h
  have hl := h3.lt
  obtain ⟨es, clock, hb, _⟩ := h3
  exact ⟨⟨es, clock, hb⟩, .inr (.inr rfl), hl⟩
theorem AgAt.ty {w : World} {a b : Nat} {L : List Int} {F : Nat → Prop} (h : AgAt w a b L F) {x : Nat} (hx : F x) : x = b ∨ TypeAt w x 291 ∨ TypeAt w x 3 := by
  obtain ⟨D, ⟨v, h1, h2, h3, rfl⟩, _⟩ := h
  rcases hx with rfl | hx | rfl
  · exact .inr (.inl (.of h1))
  · rcases h2 with ⟨rfl, _⟩ | ⟨g1, o1, c1, u1, rfl, _, hh1, _⟩
    · cases hx
    · cases hx; exact .inr (.inr (.of hh1))
  · exact .inl rfl
/-- A block of another kind is none of the agenda's. -/
theorem AgAt.not_type {w : World} {a b : Nat} {L : List Int} {F : Nat → Prop} (h : AgAt w a b L F) {x t : Nat} {cs : Array Value} {fr : Nat × Nat} (hx : w.heap[x]? = some (.cells cs t fr)) (h1 : t ≠ 291) (h2 : t ≠ 3) : ¬ F x := fun hf => by
  rcases h.ty hf with rfl | ht | ht
  · obtain ⟨⟨es, clock, hm⟩, _⟩ := h.mapb
    rw [hx] at hm; cases hm
  · exact h1 (typeAt_eq (.of hx) ht)
  · exact h2 (typeAt_eq (.of hx) ht)
theorem AgAt.not_cells {w : World} {a b : Nat} {L : List Int} {F : Nat → Prop} (h : AgAt w a b L F) {x : Nat} {o : Obj} (hx : w.heap[x]? = some o) (ho : o.isCells = false) (hb : x ≠ b) : ¬ F x := fun hf => by
  rcases h.ty hf with e | ⟨cs, fr, ht⟩ | ⟨cs, fr, ht⟩
  · exact hb e
  · rw [hx] at ht; cases ht; cases ho
  · rw [hx] at ht; cases ht; cases ho
theorem AgAt.grown {w w' : World} {a b : Nat} {L : List Int} {F : Nat → Prop} (h : AgAt w a b L F) {row : Option Nat} (hg : w.grownBy w' row) (hr : ∀ r, row = some r → r ≠ b ∧ ∃ o : Obj, w.heap[r]? = some o ∧ o.isCells = false) : AgAt w' a b L F :=
  h.keep fun x hx => hg.block x (h.lt x hx) fun e => by
    obtain ⟨hb, o, ho, hc⟩ := hr x e.symm
    exact h.not_cells ho hc hb hx
theorem AgAt.turnN {w w' : World} {a b : Nat} {L : List Int} {F : Nat → Prop} (h : AgAt w a b L F) (ht : Turn F w w') : KeepN w w' :=
  ⟨ht.size, fun x cs fr hx => ht.keep hx (h.not_type hx (by decide) (by decide))⟩
theorem AgAt.turnFrom {w w' : World} {a b B : Nat} {L : List Int} {F : Nat → Prop} (h : AgAt w a b L F) (ht : Turn F w w') (hb : b < B) : KeepsFrom B w w' :=
  ⟨ht.size, fun x o hB hx ho => ht.keep hx (h.not_cells hx ho (by omega))⟩
theorem attach_take (r : List Nd) : r.attach.take r.length = r.attach := by have := List.take_length (l := r.attach); rwa [List.length_attach] at this
set_option maxRecDepth 100000 in
set_option maxHeartbeats 2000000 in
/-- All nodes come, or a part of them; each is one of the roll's. -/
theorem each_in (n Bs g K l : Nat) (r : List Nd) (F0 : Nat → Prop) (w : World) (hn : 1 ≤ n) (hBs : w.heap[Bs]? = some (.cells #[.pointer (some ⟨g, 0, none⟩)] 118 (0, 0))) (hP : PoolAt w g K l r F0) (hr : r.length ≤ 67108864) :
    SeqStopsK Fence.wide n Tryz.prog 246 #[.pointer (some ⟨Bs, 0, none⟩)] (fun x : {x : Nd // x ∈ r} => #[Value.int .i64 x.1.1, Value.int .i64 x.1.2]) KeepN (fun ys => ys = r.attach) (fun pre => pre <+: r.attach) r.length w := fun q J Jx W hW hJ hJx hY h0 => by
  have kb := blk_below hBs hW
  have HP := Lib.hid (hP.below hW)
  have cb := blk_cell kb
  have HY := Lib.hid hY
  have HJ := Lib.hid hJ
  clear kb hBs hP hY hJ
  refine callsIn_of_wp Tryz.func246 rfl trivial ?_ rfl
  simp only [Tryz.ntmps246, List.size_toArray, List.length_cons, List.length_nil, Nat.reduceAdd, Nat.reduceSub, Array.replicate_succ, Array.replicate_zero, List.push_toArray, List.append_toArray, List.nil_append, List.cons_append]
  gi_wp2_with fail
  refine ⟨trivial, ?_⟩
  refine (callsIn_wide.2 (pool_Snap _ g K l r F0 HP.out hr)).mono ?_
  rintro e w1 ⟨v, rfl, ho, hb⟩
  have HO := Lib.hid ho
  have J0 : Hid (J [] w1) := Lib.hid (HJ.out _ _ _ none h0 (grownBy_of_below hb none) (fun _ h => by cases h))
  have hs := hb.size
  obtain ⟨A, cap, rfl, _⟩ := ho.form
  clear ho hb h0
  gi_wp2_with fail
  gi_loopw [8] (fun i wr => ∃ k : Nat, k ≤ r.length ∧ i = .int .i64 k ∧ Own wr W.heap.size 115 encN (.slice A r.length cap) r ∧ J (r.attach.take k) wr ∧ W.heap.size ≤ wr.heap.size) (fun i _ => r.length - (intOf i).toNat)
  case atStart => exact ⟨0, Nat.zero_le _, rfl, HO.out, J0.out, hs⟩
  case round =>
    obtain ⟨k, hk, rfl, hown, hJk, hsz⟩ := hrel
    have KO := Lib.hid hown
    have KJ := Lib.hid hJk
    clear hown hJk
    by_cases hlt : k < r.length
    · obtain ⟨b, off, rfl, hT, hc⟩ := KO.out.slT.at_ hlt
      have d0 := hc 0 (.int .i64 r[k].1) rfl
      have d1 := hc 1 (.int .i64 r[k].2) rfl
      simp only [Nat.add_zero] at d0
      have hlt' : k < r.attach.length := by rw [List.length_attach]; exact hlt
      have hts := List.take_succ_eq_append_getElem hlt'
      obtain ⟨x, hx⟩ : ∃ x, x = r[k] := ⟨_, rfl⟩
      obtain ⟨y, hy0⟩ : ∃ y, y = r.attach[k] := ⟨_, rfl⟩
      have hyx : y.1 = x := by rw [hy0, hx, List.getElem_attach]
      rw [← hx] at d0 d1
      rw [← hy0] at hts
      have HS := Lib.hid hts
      have hA : Below wr.heap.size wr (wr.alloc (.cells #[.int .i64 x.1, .int .i64 x.2] 115)) := (Below.refl _ _).alloc (Nat.le_refl _) _
      have hJ2 := HJ.out _ _ _ none KJ.out (grownBy_of_below hA none) (fun _ h => by cases h)
      obtain ⟨fn, tmps, assign, body, hy, hR⟩ := HY.out (r.attach.take k) y _ hJ2 (by rw [List.length_take]; omega)
      have KA := Lib.hid (KO.out.below hA)
      rw [hyx] at hy
      clear hc hts hx hJ2 hA hT hy0 hlt' hyx
      gi_wp2_with fail
      refine hR.mono ?_
      rintro e w3 (⟨rfl, hJ3, hk3⟩ | ⟨rfl, hJx3⟩)
      · have K3 := Lib.hid (hk3.own KA.out)
        have z3 := hk3.1
        rw [← HS.out] at hJ3
        have J3 := Lib.hid hJ3
        clear hJ3 hk3
        gi_wp2_with fail
        go_roundw
        case rel => exact ⟨k + 1, by omega, by go_num, K3.out, J3.out, by simp at z3; omega⟩
        case measure => simp [intOf]; omega
      · rw [← HS.out] at hJx3
        have J3 := Lib.hid hJx3
        clear hJx3
        gi_wp2_with fail
        refine bodyPost_ret (results_none rfl _ _ _) rfl ?_
        exact ⟨⟨_, rfl⟩, .inr ⟨_, List.take_prefix _ _, J3.out⟩⟩
    · obtain rfl : k = r.length := by omega
      rw [attach_take] at KJ
      gi_wp2_with fail
      go_end0
      exact ⟨⟨_, rfl⟩, .inl ⟨_, rfl, KJ.out⟩⟩
def sliceLen : Value → Nat
  | .slice _ n _ => n
  | _ => 0
theorem Drain.len {P O L : List Int} {x : Int} (h : O.length + (x :: L).length = P.length) : (O ++ [x]).length + (popH (x :: L)).length = P.length := by
  rw [(popH_perm x L).length_eq]
  simp only [List.length_append, List.length_cons, List.length_nil] at h ⊢
  omega
/-- The parents of nodes. -/
def halves (r : List Nd) : List Int := r.map fun x => x.1 / 2
theorem halves_snoc (r : List Nd) (x : Nd) : putAll (halves (r ++ [x])) = putW (putAll (halves r)) (x.1 / 2) := by
  unfold halves putAll
  rw [List.map_append, List.foldl_append]; rfl
/-- What was taken, and what waits still. -/
structure Drain (P : List Int) (O L : List Int) : Prop where
  wait : WaitL L
  up : O.Pairwise leA
  ahead : ∀ o ∈ O, ∀ y ∈ L, leA o y
  mem : ∀ z, z ∈ P ↔ z ∈ O ∨ z ∈ L
theorem Drain.start {P : List Int} (h : WaitL P) : Drain P [] P := ⟨h, .nil, by simp, by simp⟩
theorem Drain.step {P O L : List Int} {x : Int} (h : Drain P O (x :: L)) : Drain P (O ++ [x]) (popH (x :: L)) := by
  have hp := popH_perm x L
  refine ⟨h.wait.pop, ?_, ?_, fun z => ?_⟩
  · rw [List.pairwise_append]
    exact ⟨h.up, List.pairwise_singleton _ _, fun o ho y hy => by rw [List.mem_singleton.1 hy]; exact h.ahead o ho x (by simp)⟩
  · intro o ho y hy
    have hy := hp.mem_iff.1 hy
    rcases List.mem_append.1 ho with ho | ho
    · exact h.ahead o ho y (List.mem_cons_of_mem _ hy)
    · rw [List.mem_singleton.1 ho]; exact heap_head h.wait.heap y (List.mem_cons_of_mem _ hy)
  · rw [h.mem, List.mem_append, List.mem_singleton, List.mem_cons, hp.mem_iff]
    constructor
    · rintro (h | h | h)
      · exact .inl (.inl h)
      · exact .inl (.inr h)
      · exact .inr h
    · rintro ((h | h) | h)
      · exact .inl h
      · exact .inr (.inl h)
      · exact .inr (.inr h)
/-- The state behind some nodes. -/
structure ParI (w : World) (ga gm pc : Nat) (pre : List Nd) (W : World) : Prop where
  p : W.heap[pc]? = some (.cells #[.pointer (some ⟨ga, 0, none⟩)] 270 (0, 0))
  a : ∃ F, AgAt W ga gm (putAll (halves pre)) F ∧ ∀ x, F x → w.heap.size ≤ x
set_option maxHeartbeats 4000000 in
theorem fold_Parents (w : World) (g K l : Nat) (r : List Nd) (F : Nat → Prop) (hP : PoolAt w g K l r F) (hr : r.length ≤ 67108864) :
    Calls Tryz.prog 218 #[.pointer (some ⟨g, 0, none⟩)] w fun e w' => ∃ (v : Value) (O : List Int), e = .returned v ∧ Own w' w.heap.size 3 encZ v O ∧ Drain (putAll (halves r)) O [] ∧ O.length ≤ 67108864 ∧ Below w.heap.size w w' := by
  have hroll := hP.fits.roll
  have hP2 : ∀ x ∈ r, 1 ≤ x.1 ∧ x.1 ≤ 1000000000000000 := fun x hx => by
    have h1 := isNode_lt (hP.fits.nodes hP.l_le x hx)
    have h2 := pow_48 hP.l_le.2
    omega
  have hPv : ∀ (pre : List {x : Nd // x ∈ r}) (y : Int), y ∈ halves (pre.map (·.1)) → y ≤ 9223372036854775807 := fun pre y hy => by
    unfold halves at hy
    obtain ⟨z, hz, rfl⟩ := List.mem_map.1 hy
    obtain ⟨u, hu, rfl⟩ := List.mem_map.1 hz
    have := hP2 u.1 u.2
    omega
  have HP := Lib.hid hP
  clear hP
  refine (callsIn_wide (n := 3)).1 ?_
  refine callsIn_of_wp_marks Tryz.func218 rfl trivial ?_ rfl
  simp only [Tryz.ntmps218, List.size_toArray, List.length_cons, List.length_nil, Nat.reduceAdd, Nat.reduceSub, Array.replicate_succ, Array.replicate_zero, List.push_toArray, List.append_toArray, List.nil_append, List.cons_append]
  gi_wp2_with fail
  refine ⟨trivial, ?_⟩
  refine (callsIn_wide.2 (fold_New _ none 0 [] .nil (by simp) (by simp))).mono ?_
  rintro e w1 ⟨ga, gm, FA, rfl, hA, hFA, hb1⟩
  have A1 := Lib.hid hA
  have F1 := Lib.hid hFA
  have B1 := Lib.hid hb1
  clear hA hFA hb1
  gi_wp2_with fail
  refine ⟨trivial, ?_⟩
  refine (callsIn_wide.2 (pool_Each _ g)).mono ?_
  rintro e w4 ⟨rfl, rfl⟩
  gi_wp2_with fail
  have al := fun (W : World) (o : Obj) => (Below.refl W.heap.size W).alloc (Nat.le_refl _) o
  have hb0 := (al w1 (.cells #[.pointer (some ⟨ga, 0, none⟩)] 270)).trans ((al (w1.alloc (.cells #[.pointer (some ⟨ga, 0, none⟩)] 270)) (.cells #[.pointer (some ⟨g, 0, none⟩)] 118)).mono (by simp))
  have BW0 := Lib.hid (Below.then_ B1.out hb0)
  have kp := (heap_new_lt (w1.alloc (.cells #[.pointer (some ⟨ga, 0, none⟩)] 270)) (.cells #[.pointer (some ⟨g, 0, none⟩)] 118) w1.heap.size (by simp)).trans (heap_alloc_new w1 (.cells #[.pointer (some ⟨ga, 0, none⟩)] 270))
  have kb := heap_new_at (w1.alloc (.cells #[.pointer (some ⟨ga, 0, none⟩)] 270)) (.cells #[.pointer (some ⟨g, 0, none⟩)] 118) (w1.heap.size + 1) (by simp)
  have A0 := Lib.hid (A1.out.below hb0)
  have hgm := A1.out.mapb.2.2
  have hgm0 := F1.out gm A1.out.mapb.2.1
  generalize (w1.alloc (.cells #[.pointer (some ⟨ga, 0, none⟩)] 270)).alloc (.cells #[.pointer (some ⟨g, 0, none⟩)] 118) = W0 at hb0 BW0 kp kb A0 ⊢
  have zs0 := hb0.size
  have zs1 := B1.out.size
  have zsW := BW0.out.size
  have hpw : w.heap.size ≤ w1.heap.size := zs1
  have KP0 := Lib.hid kp
  clear al hb0
  refine wpIn_rangeFunc_ownG rfl (by decide) (gf := 246) (lb := #[.pointer (some ⟨w1.heap.size + 1, 0, none⟩)]) rfl trivial (enters_of Tryz.func246 (by kernel_rfl) rfl)
    (each_in (3 - 1) (w1.heap.size + 1) g K l r F W0 (by decide) kb (HP.out.below BW0.out) hr) keepN_t (fun W q o o' _ h hc _ => keepN_b W q o o' h hc) (Below.refl _ _) (fun _ => rfl)
    (fun pre W => ParI w ga gm w1.heap.size (pre.map (·.1)) W ∧ Below w.heap.size w W)
    (fun _ _ _ => False)
    (OwnFrom.and (fun s A B row hs hg hr => ⟨row_grown hs.p hg (fun q e => (hr q e).2), by
      obtain ⟨F', h1, h2⟩ := hs.a
      exact ⟨F', h1.grown hg (fun q e => ⟨by have := (hr q e).1; omega, (hr q e).2⟩), h2⟩⟩) (ownFrom_below (Nat.le_refl _) zsW))
    (fun c => fun _ _ _ _ hs _ _ => hs)
    ⟨⟨KP0.out, _, A0.out, F1.out⟩, BW0.out⟩
    (fun x => { tmps := #[.pointer (some ⟨g, 0, none⟩), undef, .slice none 0 0, .pointer (some ⟨w1.heap.size, 0, none⟩), .int .i64 x.1.1, undef, undef, undef, .pointer (some ⟨ga, 0, none⟩), .pointer (some ⟨g, 0, none⟩), .func (.func 246) #[] #[.pointer (some ⟨w1.heap.size + 1, 0, none⟩)], .int .i64 x.1.1, .int .i64 x.1.2, undef, undef, undef, undef, undef, undef, undef, undef, undef, undef, undef, undef, undef, undef, undef, undef, undef], defers := [] }) ?assign ?body ?done ?stop
  case assign =>
    intro q x W Kc hK
    gi_wp2
    exact hK
  case body =>
    rintro q pre x W ⟨⟨hp, F', hA, hF⟩, hB⟩ hlen
    have HA := Lib.hid hA
    have HF := Lib.hid hF
    have HB := Lib.hid hB
    have HPc := Lib.hid hp
    have cp := blk_cell hp
    have zp := lt_of_block hp
    have hx := hP2 x.1 x.2
    have hlen2 : (putAll (halves (pre.map (·.1)))).length ≤ r.length := by
      have h1 := putAll_len (halves (pre.map (·.1)))
      have h2 : (halves (pre.map (·.1))).length = pre.length := by simp [halves]
      omega
    have hsn := halves_snoc (pre.map (·.1)) x.1
    have HSn := Lib.hid hsn
    have HPut := Lib.hid (fun W h => ag_Put W ga gm (putAll (halves (pre.map (·.1)))) F' h (x.1.1 / 2) (by omega) (putAll_vals fun y hy => hPv pre y hy) (by omega))
    obtain ⟨⟨x1, x2⟩, hxm⟩ := x
    simp only at hx HPut HSn
    clear hA hF hB hp hlen2 hsn
    gi_wp2_with fail
    refine ⟨trivial, ?_⟩
    refine (CallsIn.inRound q (callsIn_wide.2 (HPut.out _ HA.out))).mono ?_
    rintro e w5 ⟨t, F5, rfl, hA5, hT5, hG5⟩
    have KW : Hid (KeepsFrom W0.heap.size W w5) := Lib.hid (HA.out.turnFrom hT5 (by omega))
    have KN := Lib.hid (HA.out.turnN hT5)
    have KP5 := Lib.hid (hT5.keep HPc.out (HA.out.not_type HPc.out (by decide) (by decide)))
    have BB5 := Lib.hid (HB.out.trans (hT5.below HF.out HB.out.size))
    have KA5 := Lib.hid hA5
    have KF5 : Hid (∀ y, F5 y → w.heap.size ≤ y) := Lib.hid fun y hy => by
      rcases hG5 y hy with h | h
      · exact HF.out y h
      · exact Nat.le_trans HB.out.size h
    clear hA5 hT5 hG5 cp
    gi_wp2_with fail
    exact ⟨KW.out, KN.out, ⟨KP5.out, F5, by rw [List.map_append]; exact HSn.out ▸ KA5.out, KF5.out⟩, BB5.out⟩
  case done =>
    rintro D ys W hD hys ⟨⟨hp, F', hA, hF⟩, hB⟩ hK
    have hys' : ys = r.attach := hys
    rw [hys', List.attach_map_subtype_val] at hA
    clear hys hys'
    have HA := Lib.hid hA
    have HF := Lib.hid hF
    have HB := Lib.hid hB
    have HPc := Lib.hid hp
    have cp := blk_cell hp
    have zp := lt_of_block hp
    have HK := Lib.hid hK
    have zD : D < W.heap.size := lt_of_block hK
    have hDm : D ≠ gm := by omega
    have hFW := hA.lt
    have HFW := Lib.hid hFW
    have hDF : ¬ F' D := hA.not_cells hK rfl hDm
    have HDF := Lib.hid hDF
    have hpF : ¬ F' w1.heap.size := hA.not_type hp (by decide) (by decide)
    have HPF := Lib.hid hpF
    have hwW := hB.size
    have hPl := putAll_len (halves r)
    have hPl2 : (halves r).length = r.length := by simp [halves]
    have hPV : ∀ y ∈ putAll (halves r), 1 ≤ y ∧ y ≤ 9223372036854775807 := putAll_vals fun y hy => hPv r.attach y (by rw [List.attach_map_subtype_val]; exact hy)
    have HPV := Lib.hid hPV
    have hdr := Drain.start (putAll_wait (halves r))
    have HDr := Lib.hid hdr
    obtain ⟨P, hPe⟩ : ∃ P, P = putAll (halves r) := ⟨_, rfl⟩
    have HPe := Lib.hid hPe
    rw [← hPe] at HA HPV HDr hPl
    have hPl3 : P.length ≤ 67108864 := by omega
    clear hA hF hB hp hK hFW hDF hpF hPV hdr hPe hPl hPl2
    gi_wp2_with fail
    gi_loopw [5, 6, 7] (fun v _ _ wr => ∃ (O L : List Int), Own wr W.heap.size 3 encZ v O ∧ Drain P O L ∧ O.length + L.length = P.length ∧ AgAt wr ga gm L F' ∧ wr.heap[w1.heap.size]? = some (.cells #[.pointer (some ⟨ga, 0, none⟩)] 270 (0, 0)) ∧ wr.heap[D]? = some (.deferred (some [])) ∧ W.heap.size ≤ wr.heap.size ∧ Below w.heap.size w wr) (fun v _ _ _ => P.length - sliceLen v)
    case atStart => exact ⟨[], P, .nil _ _ _ _, HDr.out, by simp, HA.out, HPc.out, HK.out, Nat.le_refl _, HB.out⟩
    case round =>
      obtain ⟨O, L, hO, hDr, hln, hA, hpc, hK, hsz, hB⟩ := hrel
      have KO := Lib.hid hO
      have KD := Lib.hid hDr
      have KA := Lib.hid hA
      have KP := Lib.hid hpc
      have KK := Lib.hid hK
      have KB := Lib.hid hB
      have cp := blk_cell hpc
      have zp := lt_of_block hpc
      obtain ⟨Ao, co, rfl, _⟩ := hO.form
      obtain ⟨Dm, hAS, _⟩ := hA
      have HLn := Lib.hid (ag_Len _ ga gm _ L Dm F' hAS)
      clear hO hDr hpc hK hAS HA HPc HK HB HDr
      gi_wp2_with fail
      refine ⟨trivial, ?_⟩
      refine (callsIn_wide.2 HLn.out).mono ?_
      rintro e w5 ⟨rfl, hb5⟩
      have s5 := hb5.size
      have KO5 := Lib.hid (KO.out.below hb5)
      have KA5 := Lib.hid (KA.out.below hb5)
      have KP5 := Lib.hid (blk_below KP.out hb5)
      have KK5 := Lib.hid ((hb5.block D (by omega)).trans KK.out)
      have KB5 := Lib.hid (Below.then_ KB.out hb5)
      clear hb5 hB cp zp HLn
      cases L with
      | nil =>
        simp only [List.length_nil]
        have hres : Hid (Drain (putAll (halves r)) O []) := Lib.hid (HPe.out ▸ KD.out)
        gi_wp2_with fail
        have hK5 := KK5.out
        refine ⟨by simp, .inl ⟨_, _, rfl, run_takeDeferred hK5, ?_⟩⟩
        have ho2 := (own_grown KO5.out (grownBy_putObj' w5 D (.deferred none)) (fun r e => by cases e; exact ⟨_, hK5, rfl⟩)).base_le (b := w.heap.size) hwW
        exact ⟨.slice Ao O.length co, by simp [results, Tryz.f218, go_sem], .slice Ao O.length co, O, rfl, ho2, hres.out, by simp only [List.length_nil] at hln; omega, KB5.out.trans (belowK_b (w := w) (Nat.le_refl _) w5 D _ _ (by omega) hK5 rfl rfl)⟩
      | cons x L =>
        have hxL : x ∉ L := (List.nodup_cons.1 KD.out.wait.once).1
        have hpv : ∀ y ∈ x :: L, 1 ≤ y ∧ y ≤ 9223372036854775807 := fun y hy => HPV.out y ((KD.out.mem y).2 (.inr hy))
        have hlL : L.length ≤ 67108864 := by simp only [List.length_cons] at hln; omega
        have HPop := Lib.hid (fun W h => ag_Pop W ga gm x L F' h hxL hpv (by omega))
        have HDs := Lib.hid KD.out.step
        have HLn := Lib.hid (Drain.len hln)
        have hOl : O.length ≤ 67108864 := by simp only [List.length_cons] at hln; omega
        have hl1 : (x :: L).length = L.length + 1 := by simp
        have cp := blk_cell KP5.out
        have zp := lt_of_block KP5.out
        have hmes : O.length < P.length := by simp only [List.length_cons] at hln; omega
        rw [hl1]
        clear hxL hpv KD hl1 hln
        gi_wp2_with fail
        refine ⟨trivial, ?_⟩
        refine (callsIn_wide.2 (HPop.out _ KA5.out)).mono ?_
        rintro e w6 ⟨rfl, hA6, hT6⟩
        have s6 := hT6.size
        have KA6 := Lib.hid hA6
        have KO6 := Lib.hid (hT6.own KO5.out (fun b hb hf => by have := (KO5.out.lt b hb).1; have := HFW.out b hf; omega))
        have KP6 := Lib.hid (hT6.keep KP5.out HPF.out)
        have KK6 := Lib.hid (hT6.keep KK5.out HDF.out)
        have KB6 := Lib.hid (KB5.out.trans (hT6.below HF.out KB5.out.size))
        clear hA6 hT6 cp zp KA5 KO5 KP5 KK5 KB5
        gi_wp2_with ((gi_at_builtin; refine wpListIn_push tyZ rfl _ _ rfl encZ w6 W.heap.size (.slice Ao O.length co) O rfl KO6.out x (by go_simp) rfl ?a1 ?a2 ?a3 ?a4))
        case a1 => omega
        case a2 => simp only [maxLen]; omega
        case a3 => omega
        case a4 =>
          intro v7 w7 ho7 hg7 _ _ hb7 _
          have KO7 := Lib.hid ho7
          have s7 := hg7.size
          have hne : ∀ b, b < W.heap.size → some b ≠ (Value.slice Ao O.length co).ownBlock := fun b hb h => by have := (KO6.out.lt b h.symm).1; omega
          have KA7 := Lib.hid (KA6.out.keep fun b hb => hg7.block b (by have := HFW.out b hb; omega) (hne b (HFW.out b hb)))
          have KP7 := Lib.hid ((hg7.block w1.heap.size (by omega) (hne _ (by omega))).trans KP6.out)
          have KK7 := Lib.hid ((hg7.block D (by omega) (hne _ (by omega))).trans KK6.out)
          have KB7 := Lib.hid (KB6.out.trans (hb7.mono hwW))
          have h7 : sliceLen v7 = O.length + 1 := by
            obtain ⟨A7, c7, rfl, _⟩ := KO7.out.form
            simp [sliceLen]
          clear ho7 hg7 hb7
          gi_wp2_with fail
          go_roundw
          case rel => exact ⟨O ++ [x], popH (x :: L), KO7.out, HDs.out, HLn.out, KA7.out, KP7.out, KK7.out, by omega, KB7.out⟩
          case measure => rw [h7]; simp only [sliceLen]; omega
  case stop =>
    rintro D c pre W hD hpre h hK
    exact h.elim
end Go.Proofs.YtgjaopfjffncbaaGreat
/- Package fold: First; package press: Tight. -/
namespace Go.Proofs.YtgjaopfjffncbaaGreat
open Go.ChangeShapes Go.WideShapes Go.ChangeAt Go.RowKit
set_option linter.unusedVariables false
set_option linter.unusedSimpArgs false
set_option maxRecDepth 100000

theorem drain_waits {l : Nat} {most : Int} {r : List Nd} {O : List Int} (hr : Roll r) (h : Drain (putAll (halves r)) O []) : Waits l most r O :=
  Waits.start (fun x hx h1 => by
    have : x.1 / 2 ∈ putAll (halves r) := (putAll_mem _ _).2 ⟨h1, List.mem_map.2 ⟨x, hx, rfl⟩⟩
    rcases (h.mem _).1 this with h | h
    · exact h
    · simp at h) hr
theorem first_at {l : Nat} {most : Int} {r : List Nd} {O : List Int} (hw : Waits l most r O) (hu : O.Pairwise leA) {q : Nat} (hq : q < O.length) (hn : ∀ z ∈ O.take q, readyR l r z most = false) (hy : readyR l r O[q] most = true) : FirstIs l most r O[q] := by
  refine ⟨hy, fun p hp => ?_⟩
  obtain ⟨j, hj, rfl⟩ := List.mem_iff_getElem.1 (hw p hp)
  rcases Nat.lt_trichotomy j q with h | h | h
  · have := hn O[j] (by rw [List.mem_take_iff_getElem]; exact ⟨j, by omega, rfl⟩)
    rw [hp] at this; cases this
  · subst h; exact leA_refl _
  · exact List.pairwise_iff_getElem.1 hu q j hq hj h
/-- What First tells. -/
def FirstPost (l : Nat) (most : Int) (r : List Nd) (w : World) (e : Ending) (w' : World) : Prop :=
  ∃ (id : Int) (ok : Bool), e = .returned (.tuple #[.int .i64 id, .bool ok]) ∧ (ok = true → FirstIs l most r id) ∧ (ok = false → ∀ p, readyR l r p most = false) ∧ Below w.heap.size w w'
end Go.Proofs.YtgjaopfjffncbaaGreat
/- Package press: run, Run: folding as far as it goes. -/
namespace Go.Proofs.YtgjaopfjffncbaaGreat
open Go.ChangeShapes Go.WideShapes Go.ChangeAt Go.RowKit
set_option linter.unusedVariables false
set_option linter.unusedSimpArgs false
set_option maxRecDepth 100000

theorem deep_le {l : Nat} {r : List Nd} (h : Fits l r) (hl : l ≤ 48) : deepR r ≤ 48 * r.length := by
  have h1 : ∀ x ∈ r, x.1.toNat.log2 ≤ 48 := fun x hx => by
    have h2 := h.lt x hx
    have h3 := (h.roll.2 x hx).1
    have h4 : x.1.toNat < 2 ^ (l + 1) := by
      have : ((2 ^ (l + 1) : Nat) : Int) = 2 * 2 ^ l := by push_cast; omega
      omega
    have := (Nat.log2_lt (by omega)).2 h4
    omega
  clear h
  unfold deepR
  induction r with
  | nil => simp
  | cons x r ih =>
    have := ih fun y hy => h1 y (by simp [hy])
    have := h1 x (by simp)
    simp only [List.map_cons, List.sum_cons, List.length_cons]
    omega
/-- What stands while a pool is folded. -/
structure RunS (w : World) (ga gm g K l nb : Nat) (F : Nat → Prop) (s : List Nd) (L : List Int) (c : Nat) (Fp FA : Nat → Prop) (W : World) : Prop where
  a : AgAt W ga gm L FA
  p : PoolAt W g K l s Fp
  apart : ∀ b, Fp b → ¬ FA b
  n : W.heap[nb]? = some (.cells #[.int .i64 c] 3 (0, 0))
  np : ¬ Fp nb
  na : ¬ FA nb
  fa : ∀ b, FA b → w.heap.size ≤ b
  gp : Grow w F Fp
  t : Turn (fun b => F b ∨ b = nb) w W
section
variable {w : World} {ga gm g K l nb : Nat} {F : Nat → Prop} {s s' : List Nd} {L L' : List Int} {c : Nat} {Fp FA FA' : Nat → Prop} {W W' : World}
theorem RunS.below (h : RunS w ga gm g K l nb F s L c Fp FA W) (hb : Below W.heap.size W W') : RunS w ga gm g K l nb F s L c Fp FA W' :=
  ⟨h.a.below hb, h.p.below hb, h.apart, blk_below h.n hb, h.np, h.na, h.fa, h.gp, h.t.more hb⟩
theorem RunS.ag (h : RunS w ga gm g K l nb F s L c Fp FA W) (ha : AgAt W' ga gm L' FA') (ht : Turn FA W W') (hg : Grow W FA FA') : RunS w ga gm g K l nb F s L' c Fp FA' W' := by
  have lp := h.p.lt
  refine ⟨ha, h.p.keep fun b hb => ht.block b (lp b hb) (h.apart b hb), fun b hb hf => ?_, ht.keep h.n h.na, h.np, fun hf => ?_, fun b hb => ?_, h.gp, ?_⟩
  · rcases hg b hf with hf | hf
    · exact h.apart b hb hf
    · have := lp b hb; omega
  · rcases hg _ hf with hf | hf
    · exact h.na hf
    · have := lt_of_block h.n; omega
  · rcases hg b hb with hf | hf
    · exact h.fa b hf
    · exact Nat.le_trans h.t.size hf
  · exact h.t.trans ht fun b hb => .inr (h.fa b hb)
theorem RunS.pool (h : RunS w ga gm g K l nb F s L c Fp FA W) (hp : PoolTo W g K l s' Fp W') : ∃ Fp', RunS w ga gm g K l nb F s' L c Fp' FA W' := by
  obtain ⟨Fp', h1, h2, h3⟩ := hp
  have la := h.a.lt
  refine ⟨Fp', h.a.keep fun b hb => h2.block b (la b hb) fun hf => h.apart b hf hb, h1, fun b hb hf => ?_, h2.keep h.n h.np, fun hf => ?_, h.na, h.fa, h.gp.trans h3 h.t.size, ?_⟩
  · rcases h3 b hb with hb | hb
    · exact h.apart b hb hf
    · have := la b hf; omega
  · rcases h3 _ hf with hf | hf
    · exact h.np hf
    · have := lt_of_block h.n; omega
  · exact h.t.trans h2 fun b hb => (h.gp b hb).imp .inl id
theorem RunS.count (h : RunS w ga gm g K l nb F s L c Fp FA W) : RunS w ga gm g K l nb F s L (c + 1) Fp FA (W.setCell ⟨nb, 0, none⟩ (.int .i64 (c + 1 : Nat))) := by
  have k : ∀ b, b ≠ nb → (W.setCell ⟨nb, 0, none⟩ (.int .i64 (c + 1 : Nat))).heap[b]? = W.heap[b]? := fun b hb => Below.heap_setCell _ _ _ _ (by simpa using hb)
  refine ⟨h.a.keep fun b hb => k b (by rintro rfl; exact h.na hb), h.p.keep fun b hb => k b (by rintro rfl; exact h.np hb), h.apart, ?_, h.np, h.na, h.fa, h.gp, h.t.setCell (.inl (.inr rfl)) _⟩
  simp [World.setCell, Array.getElem?_modify, h.n]
end
theorem press_Run1 (W : World) (nb c : Nat) (id : Int) (h : W.heap[nb]? = some (.cells #[.int .i64 c] 3 (0, 0))) (hc : c ≤ 4611686018427387904) :
    Calls Tryz.prog 182 #[.int .i64 id, .pointer (some ⟨nb, 0, none⟩)] W fun e w' => e = .returned (.tuple #[]) ∧ w' = W.setCell ⟨nb, 0, none⟩ (.int .i64 (c + 1 : Nat)) := by
  have c0 := blk_cell h
  have f0 := blk_frozen h
  have z0 := lt_of_block h
  clear h
  go_enter Tryz.func182, Tryz.ntmps182
  go_wp2_with fail
  go_end0
  exact ⟨rfl, by congr 1⟩
theorem enters_Run1 : ∀ args W, (callFunc 182 args).run Tryz.prog W = .ok (.enter 182 args) W := enters_of Tryz.func182 (by kernel_rfl) rfl
/-- What folding leaves. -/
def RunPost (g K l : Nat) (r : List Nd) (most : Int) (nb : Nat) (F : Nat → Prop) (w : World) (e : Ending) (w' : World) : Prop :=
  ∃ (ps : List Int) (s : List Nd) (Fp : Nat → Prop), e = .returned (.tuple #[]) ∧ RunTo l most r ps s ∧ ps.length ≤ 48 * r.length ∧ PoolAt w' g K l s Fp ∧ Grow w F Fp ∧ ¬ Fp nb ∧ Turn (fun b => F b ∨ b = nb) w w' ∧ w'.heap[nb]? = some (.cells #[.int .i64 ps.length] 3 (0, 0))
set_option maxHeartbeats 4000000 in
theorem press_run (w : World) (g K l : Nat) (r : List Nd) (F : Nat → Prop) (hP : PoolAt w g K l r F) (hr : r.length ≤ 67108864) (k : Int) (h1 : 1 ≤ k) (h2 : k ≤ 1048576) (nb : Nat) (hn : w.heap[nb]? = some (.cells #[.int .i64 0] 3 (0, 0))) (hnF : ¬ F nb) :
    Calls Tryz.prog 181 #[.pointer (some ⟨g, 0, none⟩), .int .i64 k, .func (.func 182) #[] #[.pointer (some ⟨nb, 0, none⟩)]] w (RunPost g K l r (sumR r / k) nb F w) := by
  have eg := enters_Run1
  have hs0 := sumR_nonneg hP.fits.roll
  have hs1 := hP.fits.sum
  have hll := hP.l_le
  have hdl := deep_le hP.fits hll.2
  have HRl := Lib.hid hP.fits.roll
  have HP := Lib.hid hP
  have HT := Lib.hid (fun W h => pool_Total W g K l r F h)
  have HC := Lib.hid (fun W => fold_Cap W (sumR r) k hs0 (by omega) h1 (by omega))
  have HPa := Lib.hid (fun W h => fold_Parents W g K l r F h hr)
  generalize sumR r / k = most at HC ⊢
  generalize sumR r = n at HC HT hs0 hs1
  have HN := Lib.hid hn
  have HNF := Lib.hid hnF
  clear hP hs0 hs1 hn hnF
  go_enter Tryz.func181, Tryz.ntmps181
  go_wp2_with fail
  refine (HT.out _ HP.out).mono ?_
  rintro e w1 ⟨rfl, hb1⟩
  have B1 := Lib.hid hb1
  clear hb1
  go_wp2_with fail
  refine (HC.out _).mono ?_
  rintro e w2 ⟨rfl, hb2⟩
  have B2 := Lib.hid (Below.then_ B1.out hb2)
  clear hb2
  go_wp2_with fail
  refine (HPa.out _ (HP.out.below B2.out)).mono ?_
  rintro e w3 ⟨v, O, rfl, ho, hd, hol, hb3⟩
  obtain ⟨A, cap, rfl, _⟩ := ho.form
  have S3 := Lib.hid ho.sl
  have hO49 : ∀ x ∈ O, x ≤ 9223372036854775807 := fun x hx => by
    have h3 := (hd.mem x).2 (.inl hx)
    obtain ⟨y, hy, rfl⟩ := List.mem_map.1 ((putAll_mem _ _).1 h3).2
    have h4 := isNode_lt (HP.out.fits.nodes hll y hy)
    have h5 := pow_48 hll.2
    omega
  have hO49' : ∀ x ∈ O, x ≤ 562949953421312 := fun x hx => by
    have h3 := (hd.mem x).2 (.inl hx)
    obtain ⟨y, hy, rfl⟩ := List.mem_map.1 ((putAll_mem _ _).1 h3).2
    have h4 := isNode_lt (HP.out.fits.nodes hll y hy)
    have h5 := pow_48 hll.2
    omega
  have hwt : ∀ x ∈ r, 1 ≤ x.1 / 2 → x.1 / 2 ∈ putAll O := fun x hx h3 => by
    refine (putAll_mem _ _).2 ⟨h3, ?_⟩
    have : x.1 / 2 ∈ putAll (halves r) := (putAll_mem _ _).2 ⟨h3, List.mem_map.2 ⟨x, hx, rfl⟩⟩
    rcases (hd.mem _).1 this with h | h
    · exact h
    · simp at h
  have hlenO := putAll_len O
  have HW := Lib.hid (Waits.start (l := l) (most := most) hwt HRl.out)
  have HWt := Lib.hid (putAll_wait O)
  have HV : Hid (∀ x ∈ putAll O, x ≤ 562949953421312) := Lib.hid fun x hx => hO49' x ((putAll_mem _ _).1 hx).2
  have HNw := Lib.hid (fun W h => fold_New W A cap O h hO49 (by omega))
  have B3 := Lib.hid (Below.then_ B2.out hb3)
  clear ho hd hb3 hO49 hO49' hwt
  generalize putAll O = L0 at HW HWt HV HNw hlenO
  go_wp2_with fail
  refine (HNw.out _ S3.out).mono ?_
  rintro e w4 ⟨ga, gm, FA, rfl, hA4, hF4, hb4⟩
  have B4 := Lib.hid (Below.then_ B3.out hb4)
  have R4 : Hid (RunS w ga gm g K l nb F r L0 0 F FA w4) := Lib.hid
    ⟨hA4, HP.out.below B4.out, fun b hb hf => by have := HP.out.lt b hb; have := hF4 b hf; have := B3.out.size; omega, blk_below HN.out B4.out, HNF.out, fun hf => by have := lt_of_block HN.out; have := hF4 nb hf; have := B3.out.size; omega,
      fun b hb => Nat.le_trans B3.out.size (hF4 b hb), Grow.refl, .of_below B4.out⟩
  clear hA4 hF4 hb4 S3 HNw
  have hn0 : 4 * deepR r + L0.length ≤ 20000000000 := by omega
  have hfR := HP.out.fits
  go_wp2_with fail
  go_loopg [] 20000000000 (fun kk wr => ∃ (s : List Nd) (L : List Int) (ps : List Int) (Fp FA : Nat → Prop), RunS w ga gm g K l nb F s L ps.length Fp FA wr ∧ WaitL L ∧ Waits l most s L ∧ (∀ x ∈ L, x ≤ 562949953421312) ∧ Folded l most r s ∧ (∀ qs t, RunTo l most s qs t → RunTo l most r (ps ++ qs) t) ∧ ps.length + deepR s ≤ deepR r ∧ 4 * deepR s + L.length ≤ kk ∧ kk ≤ 20000000000)
  case atStart => exact ⟨r, L0, [], F, FA, R4.out, HWt.out, HW.out, HV.out, .refl _, fun qs t h => h, by simp, hn0, Nat.le_refl _⟩
  case round =>
    obtain ⟨s, L, ps, Fp, FA, hR, hw, hW, hV, hFo, hTo, hdp, hk1, hk2⟩ := hrel
    have R := Lib.hid hR
    have HWt := Lib.hid hw
    have HW := Lib.hid hW
    have HV := Lib.hid hV
    have HF := Lib.hid hFo
    have HTo := Lib.hid hTo
    have hfs := hFo.fits hfR
    have hls := hFo.len hfR
    obtain ⟨Dm, hAS, _⟩ := hR.a
    have HLn := Lib.hid (ag_Len _ ga gm _ L Dm FA hAS)
    have HD := Lib.hid hdp
    clear hR hw hW hV hFo hTo hAS hdp
    go_wp2_with fail
    refine HLn.out.mono ?_
    rintro e w5 ⟨rfl, hb5⟩
    have R5 := Lib.hid (R.out.below hb5)
    clear hb5 R HLn
    cases L with
    | nil =>
      simp only [List.length_nil]
      have hE := Lib.hid (HTo.out [] s (Waits.done HW.out))
      rw [List.append_nil] at hE
      go_wp2_with fail
      go_end0
      have hd1 := HD.out
      exact ⟨ps, s, Fp, rfl, hE.out, by omega, R5.out.p, R5.out.gp, R5.out.np, R5.out.t, R5.out.n⟩
    | cons x L =>
      have hxL : x ∉ L := (List.nodup_cons.1 HWt.out.once).1
      have hpv : ∀ y ∈ x :: L, 1 ≤ y ∧ y ≤ 9223372036854775807 := fun y hy => ⟨HWt.out.pos y hy, by have := HV.out y hy; omega⟩
      have hx1 : 1 ≤ x := HWt.out.pos x (by simp)
      have hx2 : x ≤ 562949953421312 := HV.out x (by simp)
      have hlL : L.length + 1 + 4 * deepR s ≤ gk := by simp only [List.length_cons] at hk1; omega
      have HPop := Lib.hid (fun W h => ag_Pop W ga gm x L FA h hxL hpv (by omega))
      have hl1 : (x :: L).length = L.length + 1 := by simp
      have hpl : (popH (x :: L)).length = L.length := (popH_perm x L).length_eq
      have HPW := Lib.hid HWt.out.pop
      have HPV : Hid (∀ y ∈ popH (x :: L), 1 ≤ y ∧ y ≤ 562949953421312) := Lib.hid fun y hy => ⟨HWt.out.pos y (List.mem_cons_of_mem _ ((popH_perm x L).mem_iff.1 hy)), HV.out y (List.mem_cons_of_mem _ ((popH_perm x L).mem_iff.1 hy))⟩
      rw [hl1]
      clear hl1 hk1 hpv hxL
      go_wp2_with fail
      refine (HPop.out _ R5.out.a).mono ?_
      rintro e w6 ⟨rfl, hA6, hT6⟩
      have R6 := Lib.hid (R5.out.ag hA6 hT6 Grow.refl)
      clear hA6 hT6 R5
      go_wp2_with fail
      refine (fold_Ready _ g K l s Fp R6.out.p x most).mono ?_
      rintro e w7 ⟨rfl, hb7⟩
      have R7 := Lib.hid (R6.out.below hb7)
      clear hb7 R6
      cases hy : readyR l s x most
      · have HSk := Lib.hid (HW.out.skip hy)
        clear hy
        generalize popH (x :: L) = M at HSk HPW HPV R7 hpl
        go_wp2_with fail
        go_roundg (gk - 1)
        case measure => omega
        case rel => exact ⟨s, M, ps, Fp, FA, R7.out, HPW.out, HSk.out, fun y hy => (HPV.out y hy).2, HF.out, HTo.out, HD.out, by omega, by omega⟩
      · have HFr := Lib.hid (HW.out.first HWt.out hy)
        have HWf := Lib.hid (HW.out.fold hfs.roll hy)
        have hdf := deep_fold hfs.roll hy
        have hkid := kids_iff.1 (ready_iff.1 hy).1
        have hx3 : x < 281474976710656 := by have := pow_48 hll.2; omega
        have HDo := Lib.hid (fun W h => fold_Do W g K l s Fp h x most hy (by omega))
        have HFo : Hid (Folded l most r (foldR s x)) := Lib.hid (.step x HF.out hy)
        have HTo2 : Hid (∀ qs t, RunTo l most (foldR s x) qs t → RunTo l most r ((ps ++ [x]) ++ qs) t) := Lib.hid fun qs t h => by
          have := HTo.out _ _ (.step HFr.out h)
          simpa using this
        have hpl1 : (ps ++ [x]).length = ps.length + 1 := by simp
        have hd1 := HD.out
        clear hkid hy HW HWt HF HTo HV
        generalize foldR s x = s2 at HWf HDo HFo HTo2 hdf
        generalize popH (x :: L) = M at HWf HPW HPV R7 hpl
        go_wp2_with fail
        refine (HDo.out _ R7.out.p).mono ?_
        rintro e w8 ⟨⟨n8, rfl⟩, hp8⟩
        obtain ⟨Fp8, R8'⟩ := R7.out.pool hp8
        have R8 := Lib.hid R8'
        clear R7 hp8 R8' HDo
        go_wp2_with fail
        refine (press_Run1 _ nb ps.length x R8.out.n (by omega)).mono ?_
        rintro e w9 ⟨rfl, rfl⟩
        have R9 := Lib.hid R8.out.count
        generalize w8.setCell ⟨nb, 0, none⟩ (.int .i64 (ps.length + 1 : Nat)) = w9 at R9 ⊢
        clear R8
        have HP1 := Lib.hid (fun W h => ag_Put W ga gm M FA h (2 * x) (by omega) (fun y hy => ⟨(HPV.out y hy).1, by have := (HPV.out y hy).2; omega⟩) (by omega))
        have V1 : Hid (∀ y ∈ putW M (2 * x), 1 ≤ y ∧ y ≤ 562949953421312) := Lib.hid fun y hy => by
          rcases (putW_mem _ _ _).1 hy with h | ⟨_, rfl⟩
          · exact HPV.out y h
          · exact ⟨by omega, by omega⟩
        have W1 := Lib.hid (HPW.out.put (2 * x))
        have L1 := putW_len M (2 * x)
        go_wp2_with fail
        refine (HP1.out _ R9.out.a).mono ?_
        rintro e wa ⟨t1, F1, rfl, hA, hT, hG⟩
        have RA := Lib.hid (R9.out.ag hA hT hG)
        clear hA hT hG R9 HP1
        generalize putW M (2 * x) = M1 at RA V1 W1 L1 HWf
        have HP2 := Lib.hid (fun W h => ag_Put W ga gm M1 F1 h (2 * x + 1) (by omega) (fun y hy => ⟨(V1.out y hy).1, by have := (V1.out y hy).2; omega⟩) (by omega))
        have V2 : Hid (∀ y ∈ putW M1 (2 * x + 1), 1 ≤ y ∧ y ≤ 562949953421312) := Lib.hid fun y hy => by
          rcases (putW_mem _ _ _).1 hy with h | ⟨_, rfl⟩
          · exact V1.out y h
          · exact ⟨by omega, by omega⟩
        have W2 := Lib.hid (W1.out.put (2 * x + 1))
        have L2 := putW_len M1 (2 * x + 1)
        go_wp2_with fail
        refine (HP2.out _ RA.out.a).mono ?_
        rintro e wb ⟨t2, F2, rfl, hA, hT, hG⟩
        have RB := Lib.hid (RA.out.ag hA hT hG)
        clear hA hT hG RA HP2
        generalize putW M1 (2 * x + 1) = M2 at RB V2 W2 L2 HWf
        have HP3 := Lib.hid (fun W h => ag_Put W ga gm M2 F2 h (x / 2) (by omega) (fun y hy => ⟨(V2.out y hy).1, by have := (V2.out y hy).2; omega⟩) (by omega))
        have V3 : Hid (∀ y ∈ putW M2 (x / 2), 1 ≤ y ∧ y ≤ 562949953421312) := Lib.hid fun y hy => by
          rcases (putW_mem _ _ _).1 hy with h | ⟨_, rfl⟩
          · exact V2.out y h
          · exact ⟨by omega, by omega⟩
        have W3 := Lib.hid (W2.out.put (x / 2))
        have L3 := putW_len M2 (x / 2)
        go_wp2_with fail
        refine (HP3.out _ RB.out.a).mono ?_
        rintro e wc ⟨t3, F3, rfl, hA, hT, hG⟩
        have RC := Lib.hid (RB.out.ag hA hT hG)
        clear hA hT hG RB HP3
        generalize putW M2 (x / 2) = M3 at RC V3 W3 L3 HWf
        go_wp2_with fail
        go_roundg (gk - 1)
        case measure => omega
        case rel => exact ⟨s2, M3, ps ++ [x], Fp8, F3, by rw [hpl1]; exact RC.out, W3.out, HWf.out, fun y hy => (V3.out y hy).2, HFo.out, HTo2.out, by rw [hpl1]; omega, by omega, by omega⟩
/-- What Run leaves, and tells. -/
def PressPost (g K l : Nat) (r : List Nd) (most : Int) (F : Nat → Prop) (w : World) (e : Ending) (w' : World) : Prop :=
  ∃ (ps : List Int) (s : List Nd), e = .returned (.tuple #[.int .i64 ps.length, .int .i64 0]) ∧ RunTo l most r ps s ∧ ps.length ≤ 48 * r.length ∧ PoolTo w g K l s F w'
theorem press_Run (w : World) (g K l : Nat) (r : List Nd) (F : Nat → Prop) (hP : PoolAt w g K l r F) (hr : r.length ≤ 67108864) (k : Int) (h1 : 1 ≤ k) (h2 : k ≤ 1048576) :
    Calls Tryz.prog 140 #[.pointer (some ⟨g, 0, none⟩), .int .i64 k] w (PressPost g K l r (sumR r / k) F w) := by
  have HP := Lib.hid hP
  have HR := Lib.hid (fun W h nb hn hf => press_run W g K l r F h hr k h1 h2 nb hn hf)
  generalize sumR r / k = most at HR ⊢
  clear hP
  go_enter Tryz.func140, Tryz.ntmps140
  go_wp2_with fail
  refine (press_wrong _ g k h1 h2).mono ?_
  rintro e w1 ⟨rfl, hb1⟩
  have B1 := Lib.hid (hb1.trans (((Below.refl w1.heap.size w1).alloc (Nat.le_refl _) (.cells #[.int .i64 0] 3)).mono hb1.size))
  have X1 := Lib.hid (heap_alloc_new w1 (.cells #[.int .i64 0] 3))
  have s1 := hb1.size
  have P1 := Lib.hid (HP.out.below B1.out)
  clear hb1
  have NF : Hid (¬ F w1.heap.size) := Lib.hid fun hf => by have := HP.out.lt _ hf; omega
  go_wp2_with fail
  refine (HR.out _ P1.out _ X1.out NF.out).mono ?_
  rintro e w2 ⟨ps, s, Fp, rfl, hR, hpl, hP2, hG, _, hT, hn⟩
  have HE : Hid (RunTo l most r ps s ∧ ps.length ≤ 48 * r.length ∧ PoolTo w g K l s F w2) := by
    refine Lib.hid ⟨hR, hpl, Fp, hP2, ?_, fun b hb => (hG b hb).imp id fun h => Nat.le_trans B1.out.size h⟩
    refine ⟨hT.os.trans B1.out.os, hT.tape.trans B1.out.tape, hT.output.trans B1.out.output, Nat.le_trans B1.out.size hT.size, fun b hb hf => ?_⟩
    rw [hT.block b (Nat.lt_of_lt_of_le hb B1.out.size) (by rintro (h | h); exact hf h; omega)]
    exact B1.out.block b hb
  have c2 := blk_cell hn
  have z2 := lt_of_block hn
  clear hR hP2 hG hT hn hpl X1 P1 B1 HR
  go_wp2_with fail
  go_ret2
  exact ⟨ps, s, rfl, HE.out⟩
end Go.Proofs.YtgjaopfjffncbaaGreat
/- Bags as lists of values and weights; culprits. Plain laws. -/
namespace Go.Proofs.YtgjaopfjffncbaaGreat
open Go.ChangeShapes Go.WideShapes Go.ChangeAt Go.RowKit
set_option linter.unusedVariables false

/-- A bag's items: by rising values. -/
structure BagL (l : Nat) (m : List Nd) : Prop where
  up : m.Pairwise fun a b => a.1 < b.1
  val : ∀ x ∈ m, 0 ≤ x.1 ∧ x.1 < 2 ^ l ∧ 1 ≤ x.2
  sum : sumR m ≤ 72057594037927935
theorem BagL.nil (l : Nat) : BagL l [] := ⟨.nil, by simp, by simp [sumR]⟩
theorem sumR_pos {m : List Nd} (h : ∀ x ∈ m, 1 ≤ x.2) : 0 ≤ sumR m ∧ (m.length : Int) ≤ sumR m := by
  induction m with
  | nil => simp [sumR]
  | cons x m ih =>
    have := ih fun y hy => h y (by simp [hy])
    have := h x (by simp)
    simp only [sumR, List.length_cons]; omega
theorem BagL.len {l : Nat} {m : List Nd} (h : BagL l m) : (m.length : Int) ≤ sumR m := (sumR_pos fun x hx => (h.val x hx).2.2).2
theorem BagL.sum0 {l : Nat} {m : List Nd} (h : BagL l m) : 0 ≤ sumR m := (sumR_pos fun x hx => (h.val x hx).2.2).1
theorem addR_vals {m : List Nd} {x c : Int} {P : Nd → Prop} (h : ∀ y ∈ m, P y) (hn : P (x, c)) (ho : ∀ y ∈ m, y.1 = x → P (x, y.2 + c)) : ∀ y ∈ addR m x c, P y := by
  induction m with
  | nil => intro y hy; simp [addR] at hy; rw [hy]; exact hn
  | cons z m ih =>
    intro y hy
    simp only [addR] at hy
    split at hy
    · rename_i he
      rcases List.mem_cons.1 hy with rfl | hy
      · exact ho z (by simp) he
      · exact h y (by simp [hy])
    · split at hy
      · rcases List.mem_cons.1 hy with rfl | hy
        · exact hn
        · exact h y hy
      · rcases List.mem_cons.1 hy with rfl | hy
        · exact h y (by simp)
        · exact ih (fun u hu => h u (by simp [hu])) (fun u hu => ho u (by simp [hu])) y hy
theorem addR_up {m : List Nd} (h : m.Pairwise fun a b => a.1 < b.1) (x c : Int) : (addR m x c).Pairwise fun a b => a.1 < b.1 := by
  induction m with
  | nil => simp [addR]
  | cons z m ih =>
    obtain ⟨h1, h2⟩ := List.pairwise_cons.1 h
    simp only [addR]
    split
    · rename_i he
      exact List.pairwise_cons.2 ⟨fun y hy => by have := h1 y hy; simp only; omega, h2⟩
    · split
      · rename_i hlt
        refine List.pairwise_cons.2 ⟨fun y hy => ?_, h⟩
        rcases List.mem_cons.1 hy with rfl | hy
        · exact hlt
        · have := h1 y hy; simp only; omega
      · rename_i hne hge
        refine List.pairwise_cons.2 ⟨fun y hy => ?_, ih h2⟩
        rcases addR_mem hy with hy | hy
        · omega
        · exact h1 y hy
theorem BagL.add {l : Nat} {m : List Nd} (h : BagL l m) {x c : Int} (h0 : 0 ≤ x) (h1 : x < 2 ^ l) (hc : 1 ≤ c) (hs : sumR m + c ≤ 72057594037927935) : BagL l (addR m x c) :=
  ⟨addR_up h.up x c, addR_vals h.val ⟨h0, h1, hc⟩ fun y hy he => ⟨h0, h1, by have := (h.val y hy).2.2; simp only; omega⟩, by rw [sumR_add]; exact hs⟩
/-- What weighs from a value to another one. -/
def betwB : List Nd → Int → Int → Int
  | [], _, _ => 0
  | x :: m, a, b => (if a ≤ x.1 ∧ x.1 ≤ b then x.2 else 0) + betwB m a b
theorem betwB_append (a b : List Nd) (x y : Int) : betwB (a ++ b) x y = betwB a x y + betwB b x y := by
  induction a with
  | nil => simp [betwB]
  | cons z a ih => simp only [List.cons_append, betwB, ih]; omega
theorem betwB_one (z : Nd) (x y : Int) : betwB [z] x y = if x ≤ z.1 ∧ z.1 ≤ y then z.2 else 0 := by simp [betwB]
theorem betwB_none {m : List Nd} {x y : Int} (h : ∀ z ∈ m, z.1 < x ∨ y < z.1) : betwB m x y = 0 := by
  induction m with
  | nil => rfl
  | cons z m ih =>
    simp only [betwB]
    have := h z (by simp)
    rw [if_neg (by omega), ih fun u hu => h u (by simp [hu])]; rfl
theorem betwB_all {m : List Nd} {x y : Int} (h : ∀ z ∈ m, x ≤ z.1 ∧ z.1 ≤ y) : betwB m x y = sumR m := by
  induction m with
  | nil => rfl
  | cons z m ih =>
    simp only [betwB, sumR]
    rw [if_pos (h z (by simp)), ih fun u hu => h u (by simp [hu])]
theorem betwB_le {m : List Nd} (h : ∀ z ∈ m, 1 ≤ z.2) (x y : Int) : 0 ≤ betwB m x y ∧ betwB m x y ≤ sumR m := by
  induction m with
  | nil => simp [betwB, sumR]
  | cons z m ih =>
    have := ih fun u hu => h u (by simp [hu])
    have := h z (by simp)
    simp only [betwB, sumR]
    split <;> omega
/-- Where the values that are at least one begin; where those that are greater begin. -/
structure CutAt (m : List Nd) (p : Int → Prop) (i : Nat) : Prop where
  le : i ≤ m.length
  ahead : ∀ z ∈ m.take i, ¬ p z.1
  behind : ∀ z ∈ m.drop i, p z.1
theorem betwB_cut {m : List Nd} {x y : Int} {i k : Nat} (h : CutAt m (fun v => x ≤ v) i) (g : CutAt m (fun v => y < v) k) : betwB m x y = sumR ((m.take k).drop i) := by
  have e1 : m = m.take i ++ m.drop i := (List.take_append_drop i m).symm
  have e2 : m.drop i = (m.drop i).take (k - i) ++ (m.drop i).drop (k - i) := (List.take_append_drop _ _).symm
  have e3 : (m.take k).drop i = (m.drop i).take (k - i) := by rw [List.drop_take]
  rw [e3]
  conv => lhs; rw [e1, betwB_append, e2, betwB_append]
  rw [betwB_none (m := m.take i) fun z hz => .inl (by have := h.ahead z hz; omega)]
  rw [betwB_none (m := (m.drop i).drop (k - i)) fun z hz => .inr (by
    refine g.behind z ?_
    rw [List.drop_drop] at hz
    by_cases hki : i ≤ k
    · rwa [show i + (k - i) = k by omega] at hz
    · rw [show i + (k - i) = k + (i - k) by omega, ← List.drop_drop] at hz
      exact List.mem_of_mem_drop hz)]
  rw [betwB_all (m := (m.drop i).take (k - i)) fun z hz => ⟨h.behind z (List.mem_of_mem_take hz), by
    have : z ∈ m.take k := by
      rw [← e3] at hz
      exact List.mem_of_mem_drop hz
    have := g.ahead z this; omega⟩]
  omega
theorem take_drop_succ {m : List Nd} {i j k : Nat} (hij : i ≤ j) (hjk : j < k) (hk : k ≤ m.length) : sumR ((m.take (j + 1)).drop i) = sumR ((m.take j).drop i) + (m[j]'(by omega)).2 := by
  rw [List.take_succ_eq_append_getElem (by omega), List.drop_append_of_le_length (by rw [List.length_take]; omega), sumR_append]
  simp [sumR]
/-- A bag's items, as leaves. -/
def leaves (l : Nat) (m : List Nd) : List Nd := m.map fun x => (2 ^ l + x.1, x.2)
theorem leaves_roll {l : Nat} {m : List Nd} (h : BagL l m) : Roll (leaves l m) := by
  have := pow_pos' l
  refine ⟨?_, fun x hx => ?_⟩
  · unfold leaves
    rw [List.pairwise_map]
    exact h.up.imp fun {a b} hab => by simp only; omega
  · obtain ⟨y, hy, rfl⟩ := List.mem_map.1 hx
    have := h.val y hy
    simp only; omega
theorem leaves_sum (l : Nat) (m : List Nd) : sumR (leaves l m) = sumR m := by
  induction m with
  | nil => rfl
  | cons x m ih => simp only [leaves, List.map_cons, sumR] at ih ⊢; rw [ih]
theorem leaves_add (l : Nat) (m : List Nd) (x c : Int) : leaves l (addR m x c) = addR (leaves l m) (2 ^ l + x) c := by
  induction m with
  | nil => rfl
  | cons z m ih =>
    simp only [addR, leaves, List.map_cons] at ih ⊢
    by_cases h1 : z.1 = x
    · rw [if_pos h1, if_pos (show (2 : Int) ^ l + z.1 = 2 ^ l + x by omega)]; simp
    · rw [if_neg h1, if_neg (show ¬ (2 : Int) ^ l + z.1 = 2 ^ l + x by omega)]
      by_cases h2 : x < z.1
      · rw [if_pos h2, if_pos (show (2 : Int) ^ l + x < 2 ^ l + z.1 by omega)]; simp
      · rw [if_neg h2, if_neg (show ¬ (2 : Int) ^ l + x < 2 ^ l + z.1 by omega)]; simp [ih]
theorem leaves_node {l : Nat} (hl : 1 ≤ l ∧ l ≤ 48) {m : List Nd} (h : BagL l m) : ∀ x ∈ leaves l m, isNode l x.1 = true := by
  intro x hx
  obtain ⟨y, hy, rfl⟩ := List.mem_map.1 hx
  have := h.val y hy
  exact (leaf_node hl this.1 this.2.1).1
theorem leaves_betw {l : Nat} (hl : 1 ≤ l ∧ l ≤ 48) : ∀ {m : List Nd}, (∀ x ∈ m, 0 ≤ x.1 ∧ x.1 < 2 ^ l) → ∀ (a b : Int), bagB l (leaves l m) a b = betwB m a b := by
  intro m
  induction m with
  | nil => intro _ a b; rfl
  | cons x m ih =>
    intro h a b
    have hx := h x (by simp)
    obtain ⟨n1, n2, n3⟩ := leaf_node hl hx.1 hx.2
    have := ih (fun y hy => h y (by simp [hy])) a b
    simp only [bagB, leaves, List.map_cons, weighR, betwB] at this ⊢
    rw [this]
    congr 1
    unfold loN at n2; unfold hiN at n3
    simp only [n2, n3, inLow, Bool.and_eq_true, decide_eq_true_eq]
theorem leaves_rank {l : Nat} (hl : 1 ≤ l ∧ l ≤ 48) : ∀ {m : List Nd}, (∀ x ∈ m, 0 ≤ x.1 ∧ x.1 < 2 ^ l) → ∀ (y : Int), rankQ l (leaves l m) y = betwB m 0 y := by
  intro m
  induction m with
  | nil => intro _ y; rfl
  | cons x m ih =>
    intro h y
    have hx := h x (by simp)
    obtain ⟨n1, n2, n3⟩ := leaf_node hl hx.1 hx.2
    have := ih (fun y hy => h y (by simp [hy])) y
    simp only [rankQ, lowOf, leaves, List.map_cons, weighR, betwB] at this ⊢
    rw [this]
    congr 1
    unfold hiN at n3
    simp only [n3, decide_eq_true_eq]
    by_cases h1 : x.1 ≤ y
    · rw [if_pos h1, if_pos ⟨hx.1, h1⟩]
    · rw [if_neg h1, if_neg (by omega)]
/-- The least one of those that have more than they hold, and how much; 0, 0: there is none. -/
def culIs (f : Int → Int) (L : List Int) (r : Int × Int) : Prop := (r = (0, 0) ∧ ∀ x ∈ L, f x ≤ 0) ∨ (r.1 ∈ L ∧ r.2 = f r.1 ∧ 0 < f r.1 ∧ ∀ x ∈ L, 0 < f x → r.1 ≤ x)
theorem culIs_unique {f : Int → Int} {L M : List Int} (hm : ∀ x, x ∈ L ↔ x ∈ M) {r s : Int × Int} (h : culIs f L r) (k : culIs f M s) : r = s := by
  rcases h with ⟨h1, h2⟩ | ⟨h1, h2, h3, h4⟩ <;> rcases k with ⟨k1, k2⟩ | ⟨k1, k2, k3, k4⟩
  · rw [h1, k1]
  · have := h2 _ ((hm _).2 k1); omega
  · have := k2 _ ((hm _).1 h1); omega
  · have e : r.1 = s.1 := by
      have := h4 _ ((hm _).2 k1) k3
      have := k4 _ ((hm _).1 h1) h3
      omega
    exact Prod.ext e (by rw [h2, k2, e])
theorem culIs_snoc {f : Int → Int} {L : List Int} {r : Int × Int} (h : culIs f L r) (hp : ∀ x ∈ L, 1 ≤ x) {x : Int} (hx : 1 ≤ x) : culIs f (L ++ [x]) (if 0 < f x ∧ (r.1 = 0 ∨ x < r.1) then (x, f x) else r) := by
  rcases h with ⟨h1, h2⟩ | ⟨h1, h2, h3, h4⟩
  · subst h1
    by_cases hf : 0 < f x
    · rw [if_pos ⟨hf, .inl rfl⟩]
      refine .inr ⟨by simp, rfl, hf, fun y hy hyf => ?_⟩
      rcases List.mem_append.1 hy with hy | hy
      · have := h2 y hy; omega
      · rw [List.mem_singleton.1 hy]; exact Int.le_refl _
    · rw [if_neg (by omega)]
      refine .inl ⟨rfl, fun y hy => ?_⟩
      rcases List.mem_append.1 hy with hy | hy
      · exact h2 y hy
      · rw [List.mem_singleton.1 hy]; omega
  · have hr := hp _ h1
    by_cases hf : 0 < f x ∧ (r.1 = 0 ∨ x < r.1)
    · rw [if_pos hf]
      refine .inr ⟨by simp, rfl, hf.1, fun y hy hyf => ?_⟩
      rcases List.mem_append.1 hy with hy | hy
      · have := h4 y hy hyf; simp only; omega
      · rw [List.mem_singleton.1 hy]; exact Int.le_refl _
    · rw [if_neg hf]
      refine .inr ⟨List.mem_append_left _ h1, h2, h3, fun y hy hyf => ?_⟩
      rcases List.mem_append.1 hy with hy | hy
      · exact h4 y hy hyf
      · rw [List.mem_singleton.1 hy] at hyf ⊢; omega
/-- Looking through rising numbers, till the first that has more. -/
theorem culIs_first {f : Int → Int} {L : List Int} (hs : L.Pairwise (· ≤ ·)) {k : Nat} (hk : k < L.length) (h0 : ∀ x ∈ L.take k, f x ≤ 0) (h1 : 0 < f L[k]) : culIs f L (L[k], f L[k]) := by
  refine .inr ⟨List.getElem_mem hk, rfl, h1, fun x hx hf => ?_⟩
  obtain ⟨j, hj, rfl⟩ := List.getElem_of_mem hx
  by_cases hjk : j < k
  · have : L[j] ∈ L.take k := by
      rw [List.mem_take_iff_getElem]
      exact ⟨j, by omega, rfl⟩
    have := h0 _ this
    omega
  · rcases Nat.lt_or_ge k j with h | h
    · exact List.pairwise_iff_getElem.1 hs k j hk hj h
    · obtain rfl : j = k := by omega
      exact Int.le_refl _
theorem culIs_none {f : Int → Int} {L : List Int} (h : ∀ x ∈ L, f x ≤ 0) : culIs f L (0, 0) := .inl ⟨rfl, h⟩
end Go.Proofs.YtgjaopfjffncbaaGreat
/- Leaves: package twig, and the reference of layer 2. -/
namespace Go.Proofs.YtgjaopfjffncbaaGreat
open Go.ChangeShapes Go.WideShapes Go.ChangeAt Go.RowKit
set_option linter.unusedVariables false
set_option maxRecDepth 100000

/-- Is a number a value of a universe? -/
def isVal (l : Nat) (x : Int) : Bool := decide (0 ≤ x) && decide (x < 2 ^ l)
def leafV (l : Nat) (x : Int) : Value := .tuple #[.int .i64 (if isVal l x = true then 2 ^ l + x else 0), .bool (isVal l x)]
theorem leafV_yes {l : Nat} {x : Int} (h : isVal l x = true) : leafV l x = .tuple #[.int .i64 (2 ^ l + x), .bool true] := by unfold leafV; rw [h]; rfl
theorem leafV_no {l : Nat} {x : Int} (h : isVal l x = false) : leafV l x = .tuple #[.int .i64 0, .bool false] := by unfold leafV; rw [h]; rfl
theorem or_leaf {l : Nat} (h : l ≤ 48) {x : Int} (h0 : 0 ≤ x) (h1 : x < 2 ^ l) : bits .or .i64 (2 ^ l) x = 2 ^ l + x := by
  have p1 := pow_48 h
  have p2 := pow_pos' l
  exact bits_join .i64 63 (by decide) (fun n h0 h1 => by rw [IntKind.wrap_i64]; omega) l (2 ^ l) x (by omega) (Int.emod_self) (by omega) h0 h1 (by omega)
theorem twig_Leaf (w : World) (l : Nat) (x : Int) (h1 : 1 ≤ l) (h2 : l ≤ 48) : Calls Tryz.prog 102 #[.int .i64 l, .int .i64 x] w fun e w' => e = .returned (leafV l x) ∧ Below w.heap.size w w' := by
  have p1 := pow_48 h2
  have p2 := pow_pos' l
  have HU := Lib.hid (show decide (1 ≤ (l : Int) ∧ (l : Int) ≤ 48) = true by simp; omega)
  have l1 : (1 : Int) ≤ (l : Int) := by omega
  have l2 : (l : Int) ≤ 48 := by omega
  by_cases hx0 : x < 0
  · rw [leafV_no (by unfold isVal; simp; omega)]
    go_enter Tryz.func102, Tryz.ntmps102
    go_wp2_with fail
    refine (universe_ _ _).mono ?_
    rintro e w1 ⟨rfl, hb1⟩
    have B1 : Below w.heap.size w w1 := Below.then_ (by repeat (first | with_reducible exact Below.refl _ _ | with_reducible assumption | ((with_reducible refine Below.setCell ?_ ?_ _); rotate_left; · (first | omega | exact Nat.le_refl _ | (simp <;> omega))) | (with_reducible refine Below.allocW ?_ _) | (with_reducible refine Below.drew ?_) | (with_reducible refine Below.extW ?_ _))) hb1
    have s1 : w.heap.size ≤ w1.heap.size := B1.size
    rw [HU.out]
    go_wp2_with fail
    go_ret2
    exact ⟨rfl, B1⟩
  · have k0 : decide (x < 0) = false := by simpa using hx0
    by_cases hx1 : x < 2 ^ l
    · rw [leafV_yes (by unfold isVal; simp; omega)]
      have HO := Lib.hid (or_leaf h2 (show 0 ≤ x by omega) hx1)
      have k1 : decide ((2 : Int) ^ l ≤ x) = false := by simp; omega
      go_enter Tryz.func102, Tryz.ntmps102
      go_wp2_with fail
      refine (universe_ _ _).mono ?_
      rintro e w1 ⟨rfl, hb1⟩
      have B1 : Below w.heap.size w w1 := Below.then_ (by repeat (first | with_reducible exact Below.refl _ _ | with_reducible assumption | ((with_reducible refine Below.setCell ?_ ?_ _); rotate_left; · (first | omega | exact Nat.le_refl _ | (simp <;> omega))) | (with_reducible refine Below.allocW ?_ _) | (with_reducible refine Below.drew ?_) | (with_reducible refine Below.extW ?_ _))) hb1
      have s1 : w.heap.size ≤ w1.heap.size := B1.size
      rw [HU.out]
      go_wp2_with fail
      go_ret2
      exact ⟨by simp [HO.out], B1⟩
    · rw [leafV_no (by unfold isVal; simp; omega)]
      have k1 : decide ((2 : Int) ^ l ≤ x) = true := by simp; omega
      go_enter Tryz.func102, Tryz.ntmps102
      go_wp2_with fail
      refine (universe_ _ _).mono ?_
      rintro e w1 ⟨rfl, hb1⟩
      have B1 : Below w.heap.size w w1 := Below.then_ (by repeat (first | with_reducible exact Below.refl _ _ | with_reducible assumption | ((with_reducible refine Below.setCell ?_ ?_ _); rotate_left; · (first | omega | exact Nat.le_refl _ | (simp <;> omega))) | (with_reducible refine Below.allocW ?_ _) | (with_reducible refine Below.drew ?_) | (with_reducible refine Below.extW ?_ _))) hb1
      have s1 : w.heap.size ≤ w1.heap.size := B1.size
      rw [HU.out]
      go_wp2_with fail
      go_ret2
      exact ⟨rfl, B1⟩
theorem ref2_Leaf (w : World) (l : Nat) (x : Int) (h1 : 1 ≤ l) (h2 : l ≤ 48) : Calls Tryz.prog 159 #[.int .i64 l, .int .i64 x] w fun e w' => e = .returned (leafV l x) ∧ Below w.heap.size w w' := by
  have p1 := pow_48 h2
  have p2 := pow_pos' l
  have HU := Lib.hid (show decide (1 ≤ (l : Int) ∧ (l : Int) ≤ 48) = true by simp; omega)
  have HP := Lib.hid (ref2_Power · l (by omega))
  by_cases hx0 : x < 0
  · rw [leafV_no (by unfold isVal; simp; omega)]
    go_enter Tryz.func159, Tryz.ntmps159
    go_wp2_with fail
    refine (ref2_Is _ _).mono ?_
    rintro e w1 ⟨rfl, hb1⟩
    have B1 : Below w.heap.size w w1 := Below.then_ (by repeat (first | with_reducible exact Below.refl _ _ | with_reducible assumption | ((with_reducible refine Below.setCell ?_ ?_ _); rotate_left; · (first | omega | exact Nat.le_refl _ | (simp <;> omega))) | (with_reducible refine Below.allocW ?_ _) | (with_reducible refine Below.drew ?_) | (with_reducible refine Below.extW ?_ _))) hb1
    have s1 : w.heap.size ≤ w1.heap.size := B1.size
    rw [HU.out]
    go_wp2_with fail
    go_ret2
    exact ⟨rfl, B1⟩
  · have k0 : decide (x < 0) = false := by simpa using hx0
    by_cases hx1 : x < 2 ^ l
    · rw [leafV_yes (by unfold isVal; simp; omega)]
      have k1 : decide ((2 : Int) ^ l ≤ x) = false := by simp; omega
      go_enter Tryz.func159, Tryz.ntmps159
      go_wp2_with fail
      refine (ref2_Is _ _).mono ?_
      rintro e w1 ⟨rfl, hb1⟩
      have B1 : Below w.heap.size w w1 := Below.then_ (by repeat (first | with_reducible exact Below.refl _ _ | with_reducible assumption | ((with_reducible refine Below.setCell ?_ ?_ _); rotate_left; · (first | omega | exact Nat.le_refl _ | (simp <;> omega))) | (with_reducible refine Below.allocW ?_ _) | (with_reducible refine Below.drew ?_) | (with_reducible refine Below.extW ?_ _))) hb1
      have s1 : w.heap.size ≤ w1.heap.size := B1.size
      rw [HU.out]
      go_wp2_with fail
      refine (HP.out _).mono ?_
      rintro e w2 ⟨rfl, hb2⟩
      have B2 : Below w.heap.size w w2 := Below.then_ (by repeat (first | with_reducible exact Below.refl _ _ | with_reducible assumption | ((with_reducible refine Below.setCell ?_ ?_ _); rotate_left; · (first | omega | exact Nat.le_refl _ | (simp <;> omega))) | (with_reducible refine Below.allocW ?_ _) | (with_reducible refine Below.drew ?_) | (with_reducible refine Below.extW ?_ _))) hb2
      have s2 : w.heap.size ≤ w2.heap.size := B2.size
      go_wp2_with fail
      refine (HP.out _).mono ?_
      rintro e w3 ⟨rfl, hb3⟩
      have B3 : Below w.heap.size w w3 := Below.then_ (by repeat (first | with_reducible exact Below.refl _ _ | with_reducible assumption | ((with_reducible refine Below.setCell ?_ ?_ _); rotate_left; · (first | omega | exact Nat.le_refl _ | (simp <;> omega))) | (with_reducible refine Below.allocW ?_ _) | (with_reducible refine Below.drew ?_) | (with_reducible refine Below.extW ?_ _))) hb3
      have s3 : w.heap.size ≤ w3.heap.size := B3.size
      go_wp2_with fail
      go_ret2
      exact ⟨rfl, B3⟩
    · rw [leafV_no (by unfold isVal; simp; omega)]
      have k1 : decide ((2 : Int) ^ l ≤ x) = true := by simp; omega
      go_enter Tryz.func159, Tryz.ntmps159
      go_wp2_with fail
      refine (ref2_Is _ _).mono ?_
      rintro e w1 ⟨rfl, hb1⟩
      have B1 : Below w.heap.size w w1 := Below.then_ (by repeat (first | with_reducible exact Below.refl _ _ | with_reducible assumption | ((with_reducible refine Below.setCell ?_ ?_ _); rotate_left; · (first | omega | exact Nat.le_refl _ | (simp <;> omega))) | (with_reducible refine Below.allocW ?_ _) | (with_reducible refine Below.drew ?_) | (with_reducible refine Below.extW ?_ _))) hb1
      have s1 : w.heap.size ≤ w1.heap.size := B1.size
      rw [HU.out]
      go_wp2_with fail
      refine (HP.out _).mono ?_
      rintro e w2 ⟨rfl, hb2⟩
      have B2 : Below w.heap.size w w2 := Below.then_ (by repeat (first | with_reducible exact Below.refl _ _ | with_reducible assumption | ((with_reducible refine Below.setCell ?_ ?_ _); rotate_left; · (first | omega | exact Nat.le_refl _ | (simp <;> omega))) | (with_reducible refine Below.allocW ?_ _) | (with_reducible refine Below.drew ?_) | (with_reducible refine Below.extW ?_ _))) hb2
      have s2 : w.heap.size ≤ w2.heap.size := B2.size
      go_wp2_with fail
      go_ret2
      exact ⟨rfl, B2⟩
end Go.Proofs.YtgjaopfjffncbaaGreat
/- What a bag's Add leaves, and tells. Plain. -/
namespace Go.Proofs.YtgjaopfjffncbaaGreat
open Go.ChangeShapes Go.WideShapes Go.ChangeAt Go.RowKit
set_option linter.unusedVariables false

/-- What Add leaves, and tells. -/
def addB (l : Nat) (m : List Nd) (x c : Int) : List Nd × Int :=
  if isVal l x = false then (m, 3) else if c < 1 then (m, 4) else if 72057594037927935 < sumR m + c then (m, 5) else (addR m x c, 0)
theorem BagL.addB {l : Nat} {m : List Nd} (h : BagL l m) (x c : Int) : BagL l (addB l m x c).1 := by
  unfold Go.Proofs.YtgjaopfjffncbaaGreat.addB
  split
  · exact h
  · rename_i hv
    split
    · exact h
    · split
      · exact h
      · have hv' : 0 ≤ x ∧ x < 2 ^ l := by simpa [isVal] using hv
        exact h.add hv'.1 hv'.2 (by omega) (by omega)
theorem addR_len (m : List Nd) (x c : Int) : (addR m x c).length ≤ m.length + 1 := by
  induction m with
  | nil => simp [addR]
  | cons z m ih => simp only [addR]; split <;> (try split) <;> simp <;> omega
theorem addB_len (l : Nat) (m : List Nd) (x c : Int) : (addB l m x c).1.length ≤ m.length + 1 := by
  unfold addB
  have := addR_len m x c
  split
  · simp
  · split
    · simp
    · split <;> simp <;> omega
end Go.Proofs.YtgjaopfjffncbaaGreat
