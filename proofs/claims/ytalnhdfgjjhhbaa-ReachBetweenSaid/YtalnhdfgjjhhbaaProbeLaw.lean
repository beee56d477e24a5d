/- A table that is looked through: what is where. No program in sight. -/
import Derived.Test.YtalnhdfgjjhhbaaTurn
namespace Go.Proofs.Ytalnhdfgjjhhbaa
set_option linter.unusedVariables false

/-- The slot at which looking begins. -/
def homeOf (b : Nat) (id : Int) : Nat := (id.toNat * 11400714819323198485 % 18446744073709551616) / 2 ^ (64 - b)
theorem homeOf_lt {b : Nat} (h : b ≤ 64) (id : Int) : homeOf b id < 2 ^ b := by
  unfold homeOf
  apply Nat.div_lt_of_lt_mul
  rw [← Nat.pow_add]
  have : 64 - b + b = 64 := by omega
  rw [this]
  exact Nat.mod_lt _ (by decide)
def full (x : Nd) : Bool := decide (x.2 ≠ 0)
/-- The slot so many steps on. -/
def step (n h d : Nat) : Nat := (h + d) % n
/-- Does looking for a number end at a slot? -/
def stopAt (S : List Nd) (id : Int) (i : Nat) : Prop := ∀ x, S[i]? = some x → x.2 = 0 ∨ x.1 = id
/-- Looking for a number ends here, d steps from home. -/
structure LookAt (S : List Nd) (b : Nat) (id : Int) (i d : Nat) : Prop where
  at_ : i = step (2 ^ b) (homeOf b id) d
  lt : d < 2 ^ b
  stop : stopAt S id i
  way : ∀ d' < d, ¬ stopAt S id (step (2 ^ b) (homeOf b id) d')
/-- The table S of 2^b slots has the nodes m, in whatever order. -/
structure PInv (b : Nat) (S m : List Nd) : Prop where
  len : S.length = 2 ^ b
  perm : (S.filter full).Perm m
  ids : (m.map (·.1)).Nodup
  pos : ∀ x ∈ m, 1 ≤ x.2
  reach : ∀ i x, S[i]? = some x → x.2 ≠ 0 → ∃ d, d < 2 ^ b ∧ i = step (2 ^ b) (homeOf b x.1) d ∧ ∀ d' < d, ∀ y, S[step (2 ^ b) (homeOf b x.1) d']? = some y → y.2 ≠ 0

theorem step_inj {n h d d' : Nat} (hd : d < n) (hd' : d' < n) (h1 : step n h d = step n h d') : d = d' := by
  unfold step at h1
  have := Nat.mod_lt (h + d) (show 0 < n by omega)
  have e1 := Nat.div_add_mod (h + d) n
  have e2 := Nat.div_add_mod (h + d') n
  rw [h1] at e1
  have h3 : n * ((h + d) / n) + d' = n * ((h + d') / n) + d := by omega
  rcases Nat.lt_trichotomy ((h + d) / n) ((h + d') / n) with hl | he | hl
  · have := Nat.mul_le_mul_left n (Nat.succ_le_of_lt hl)
    rw [Nat.mul_succ] at this
    omega
  · rw [he] at h3; omega
  · have := Nat.mul_le_mul_left n (Nat.succ_le_of_lt hl)
    rw [Nat.mul_succ] at this
    omega
theorem step_lt {n h d : Nat} (hn : 0 < n) : step n h d < n := Nat.mod_lt _ hn
/-- Each slot is so many steps from another one. -/
theorem step_onto {n h i : Nat} (hi : i < n) (hh : h < n) : ∃ d, d < n ∧ i = step n h d := by
  unfold step
  by_cases hle : h ≤ i
  · exact ⟨i - h, by omega, by rw [show h + (i - h) = i by omega, Nat.mod_eq_of_lt hi]⟩
  · exact ⟨n - h + i, by omega, by rw [show h + (n - h + i) = i + n by omega, Nat.add_mod_right, Nat.mod_eq_of_lt hi]⟩

theorem mem_getR {m : List Nd} (h : (m.map (·.1)).Nodup) {x : Nd} (hx : x ∈ m) : getR m x.1 = x.2 := by
  induction m with
  | nil => simp at hx
  | cons y m ih =>
    rw [List.map_cons, List.nodup_cons] at h
    simp only [getR]
    rcases List.mem_cons.1 hx with rfl | hx
    · rw [if_pos rfl]
    · rw [if_neg]
      · exact ih h.2 hx
      · intro he
        exact h.1 (by rw [he]; exact List.mem_map_of_mem hx)
theorem getR_mem' {m : List Nd} {id : Int} (h : getR m id ≠ 0) : (id, getR m id) ∈ m := by
  induction m with
  | nil => simp [getR] at h
  | cons y m ih =>
    simp only [getR] at h ⊢
    by_cases hy : y.1 = id
    · rw [if_pos hy]; subst hy; simp
    · rw [if_neg hy] at h ⊢
      exact List.mem_cons_of_mem _ (ih h)

section
variable {b : Nat} {S m : List Nd} {id : Int} {i d : Nat}
theorem PInv.mem (h : PInv b S m) {x : Nd} (hx : S[i]? = some x) (h0 : x.2 ≠ 0) : x ∈ m :=
  h.perm.mem_iff.1 (List.mem_filter.2 ⟨List.mem_of_getElem? hx, by simp [full, h0]⟩)
theorem PInv.find (h : PInv b S m) {x : Nd} (hx : x ∈ m) : ∃ i : Nat, S[i]? = some x := by
  have := (List.mem_filter.1 (h.perm.mem_iff.2 hx)).1
  exact List.getElem?_of_mem this
/-- Two full slots with one number are one. -/
theorem PInv.one (h : PInv b S m) {j : Nat} {x y : Nd} (hi : S[i]? = some x) (hj : S[j]? = some y) (hx : x.2 ≠ 0) (hy : y.2 ≠ 0) (he : x.1 = y.1) : i = j := by
  have hn : ((S.filter full).map (·.1)).Nodup := (h.perm.map _).nodup_iff.2 h.ids
  have key : ∀ (l : List Nd) (i j : Nat) (x y : Nd), ((l.filter full).map (·.1)).Nodup → l[i]? = some x → l[j]? = some y → x.2 ≠ 0 → y.2 ≠ 0 → x.1 = y.1 → i = j := by
    intro l
    induction l with
    | nil => intro i j x y _ hi; simp at hi
    | cons z l ih =>
      intro i j x y hn hi hj hx hy he
      have hmem : ∀ (k : Nat) (u : Nd), l[k]? = some u → u.2 ≠ 0 → u.1 ∈ (l.filter full).map (·.1) := fun k u hu h0 =>
        List.mem_map_of_mem (List.mem_filter.2 ⟨List.mem_of_getElem? hu, by simp [full, h0]⟩)
      cases i with
      | zero =>
        cases j with
        | zero => rfl
        | succ j =>
          simp at hi hj
          subst hi
          rw [List.filter_cons, if_pos (by simp [full, hx]), List.map_cons, List.nodup_cons] at hn
          exact absurd (by rw [he]; exact hmem j y hj hy) hn.1
      | succ i =>
        cases j with
        | zero =>
          simp at hi hj
          subst hj
          rw [List.filter_cons, if_pos (by simp [full, hy]), List.map_cons, List.nodup_cons] at hn
          exact absurd (by rw [← he]; exact hmem i x hi hx) hn.1
        | succ j =>
          simp at hi hj
          congr 1
          refine ih i j x y ?_ hi hj hx hy he
          rw [List.filter_cons] at hn
          split at hn
          · rw [List.map_cons, List.nodup_cons] at hn; exact hn.2
          · exact hn
  exact key S i j x y hn hi hj hx hy he
theorem PInv.count (h : PInv b S m) : (S.filter full).length = m.length := h.perm.length_eq
/-- There is a free slot. -/
theorem PInv.free (h : PInv b S m) (hm : m.length < 2 ^ b) : ∃ (i : Nat) (x : Nd), S[i]? = some x ∧ x.2 = 0 := by
  have h1 : (S.filter full).length < S.length := by rw [h.count, h.len]; exact hm
  obtain ⟨x, hx, hf⟩ := List.length_filter_lt_length_iff_exists.1 h1
  obtain ⟨i, hi⟩ := List.getElem?_of_mem hx
  exact ⟨i, x, hi, by simpa [full] using hf⟩
/-- Looking for a number ends. -/
theorem PInv.ends (h : PInv b S m) (hm : m.length < 2 ^ b) (hb : b ≤ 64) (id : Int) : ∃ d, d < 2 ^ b ∧ stopAt S id (step (2 ^ b) (homeOf b id) d) := by
  obtain ⟨i, x, hi, hx⟩ := h.free hm
  have hlt : i < 2 ^ b := by rw [← h.len]; exact (List.getElem?_eq_some_iff.1 hi).1
  obtain ⟨d, hd, he⟩ := step_onto hlt (homeOf_lt hb id)
  exact ⟨d, hd, fun y hy => by rw [← he, hi] at hy; cases hy; exact .inl hx⟩
theorem LookAt.i_lt (hl : LookAt S b id i d) : i < 2 ^ b := by rw [hl.at_]; exact step_lt (Nat.two_pow_pos b)
theorem LookAt.slot (h : PInv b S m) (hl : LookAt S b id i d) : ∃ x, S[i]? = some x := by
  have : i < S.length := by rw [h.len]; exact hl.i_lt
  exact ⟨_, List.getElem?_eq_getElem this⟩
/-- It has the number. -/
theorem LookAt.hit (h : PInv b S m) (hl : LookAt S b id i d) (h0 : getR m id ≠ 0) : S[i]? = some (id, getR m id) := by
  obtain ⟨j, hj⟩ := h.find (getR_mem' h0)
  obtain ⟨D, hD, hjD, hway⟩ := h.reach j _ hj h0
  have hstop : stopAt S id (step (2 ^ b) (homeOf b id) D) := fun y hy => by
    simp only at hjD
    rw [← hjD, hj] at hy
    cases hy
    exact .inr rfl
  rcases Nat.lt_trichotomy d D with hlt | he | hlt
  · obtain ⟨x, hx⟩ := hl.slot h
    have h1 : x.2 ≠ 0 := hway d hlt x (by rw [← hl.at_]; exact hx)
    have h2 : x.1 = id := (hl.stop x hx).resolve_left h1
    have h3 := h.one hx hj h1 h0 h2
    rw [hl.at_, hjD] at h3
    have := step_inj hl.lt hD h3
    omega
  · rw [hl.at_, he, ← hjD]; exact hj
  · exact absurd hstop (hl.way D hlt)
/-- It is free. -/
theorem LookAt.miss (h : PInv b S m) (hl : LookAt S b id i d) (h0 : getR m id = 0) : ∃ x, S[i]? = some x ∧ x.2 = 0 := by
  obtain ⟨x, hx⟩ := hl.slot h
  refine ⟨x, hx, ?_⟩
  rcases hl.stop x hx with h1 | h1
  · exact h1
  · apply Classical.byContradiction
    intro hne
    have hm := h.mem hx hne
    have := mem_getR h.ids hm
    rw [h1, h0] at this
    exact hne this.symm
theorem LookAt.get (h : PInv b S m) (hl : LookAt S b id i d) : ∃ x, S[i]? = some x ∧ x.2 = getR m id ∧ (getR m id ≠ 0 → x.1 = id) := by
  by_cases h0 : getR m id = 0
  · obtain ⟨x, hx, hz⟩ := hl.miss h h0
    exact ⟨x, hx, by rw [h0]; exact hz, fun h => absurd h0 h⟩
  · exact ⟨_, hl.hit h h0, rfl, fun _ => rfl⟩

theorem set_split {α : Type} {l : List α} {i : Nat} {y : α} (hi : l[i]? = some y) : l = l.take i ++ y :: l.drop (i + 1) := by
  obtain ⟨hlt, he⟩ := List.getElem?_eq_some_iff.1 hi
  rw [← he, ← List.drop_eq_getElem_cons hlt, List.take_append_drop]
theorem filter_set_new {y x : Nd} (hi : S[i]? = some y) (hy : y.2 = 0) (hx : x.2 ≠ 0) : ((S.set i x).filter full).Perm (x :: S.filter full) := by
  have h1 := set_split hi
  have hlt := (List.getElem?_eq_some_iff.1 hi).1
  have h2 : S.set i x = S.take i ++ x :: S.drop (i + 1) := by rw [List.set_eq_take_append_cons_drop, if_pos hlt]
  rw [h2, List.filter_append, List.filter_cons, if_pos (by simp [full, hx])]
  conv => rhs; rw [h1]
  rw [List.filter_append, List.filter_cons, if_neg (by simp [full, hy])]
  exact List.perm_middle
theorem filter_set_old {y x : Nd} (hi : S[i]? = some y) (hy : y.2 ≠ 0) (hx : x.2 ≠ 0) : ∃ t, (S.filter full).Perm (y :: t) ∧ ((S.set i x).filter full).Perm (x :: t) := by
  have h1 := set_split hi
  have hlt := (List.getElem?_eq_some_iff.1 hi).1
  have h2 : S.set i x = S.take i ++ x :: S.drop (i + 1) := by rw [List.set_eq_take_append_cons_drop, if_pos hlt]
  refine ⟨(S.take i).filter full ++ (S.drop (i + 1)).filter full, ?_, ?_⟩
  · conv => lhs; rw [h1]
    rw [List.filter_append, List.filter_cons, if_pos (by simp [full, hy])]
    exact List.perm_middle
  · rw [h2, List.filter_append, List.filter_cons, if_pos (by simp [full, hx])]
    exact List.perm_middle
theorem get_set {x y : Nd} {j : Nat} (h : (S.set i x)[j]? = some y) : (j = i ∧ y = x) ∨ (j ≠ i ∧ S[j]? = some y) := by
  rw [List.getElem?_set] at h
  by_cases hij : i = j
  · subst hij
    rw [if_pos rfl] at h
    split at h
    · cases h; exact .inl ⟨rfl, rfl⟩
    · cases h
  · rw [if_neg hij] at h
    exact .inr ⟨fun e => hij e.symm, h⟩
/-- A node more, at the free slot where looking for it ends. -/
theorem PInv.put (h : PInv b S m) (hl : LookAt S b id i d) (h0 : ∀ x ∈ m, x.1 ≠ id) {c : Int} (hc : 1 ≤ c) : PInv b (S.set i (id, c)) ((id, c) :: m) := by
  have hg : getR m id = 0 := getR_none h0
  obtain ⟨y, hy, hy0⟩ := hl.miss h hg
  refine ⟨by rw [List.length_set]; exact h.len, ?_, ?_, ?_, ?_⟩
  · exact (filter_set_new hy hy0 (by simp only; omega)).trans (h.perm.cons _)
  · rw [List.map_cons, List.nodup_cons]
    refine ⟨fun hm => ?_, h.ids⟩
    obtain ⟨x, hx, he⟩ := List.mem_map.1 hm
    exact h0 x hx he
  · intro x hx
    rcases List.mem_cons.1 hx with rfl | hx
    · exact hc
    · exact h.pos x hx
  · intro j x hj hx0
    rcases get_set hj with ⟨rfl, rfl⟩ | ⟨hne, hj⟩
    · refine ⟨d, hl.lt, hl.at_, fun d' hd' z hz => ?_⟩
      have hw := hl.way d' hd'
      rcases get_set hz with ⟨he, rfl⟩ | ⟨_, hz⟩
      · simp only; omega
      · intro hz0
        exact hw fun u hu => by simp only at hz; rw [hz] at hu; cases hu; exact .inl hz0
    · obtain ⟨D, hD, he, hw⟩ := h.reach j x hj hx0
      refine ⟨D, hD, he, fun d' hd' z hz => ?_⟩
      rcases get_set hz with ⟨_, rfl⟩ | ⟨_, hz⟩
      · simp only; omega
      · exact hw d' hd' z hz
/-- Another weight, of a node that is there. -/
theorem PInv.turn (h : PInv b S m) {v c : Int} {t : List Nd} (hi : S[i]? = some (id, v)) (hv : v ≠ 0) (hc : 1 ≤ c) (hm : m.Perm ((id, v) :: t)) : PInv b (S.set i (id, c)) ((id, c) :: t) := by
  obtain ⟨t', h1, h2⟩ := filter_set_old (x := (id, c)) hi hv (by simp only; omega)
  have ht : t'.Perm t := ((h1.symm.trans h.perm).trans hm).cons_inv
  refine ⟨by rw [List.length_set]; exact h.len, h2.trans (ht.cons _), ?_, ?_, ?_⟩
  · have := (hm.map (·.1)).nodup_iff.1 h.ids
    simpa using this
  · intro x hx
    rcases List.mem_cons.1 hx with rfl | hx
    · exact hc
    · exact h.pos x (hm.mem_iff.2 (List.mem_cons_of_mem _ hx))
  · intro j x hj hx0
    rcases get_set hj with ⟨rfl, rfl⟩ | ⟨hne, hj⟩
    · obtain ⟨D, hD, he, hw⟩ := h.reach _ _ hi hv
      refine ⟨D, hD, he, fun d' hd' z hz => ?_⟩
      rcases get_set hz with ⟨_, rfl⟩ | ⟨_, hz⟩
      · simp only; omega
      · exact hw d' hd' z hz
    · obtain ⟨D, hD, he, hw⟩ := h.reach j x hj hx0
      refine ⟨D, hD, he, fun d' hd' z hz => ?_⟩
      rcases get_set hz with ⟨_, rfl⟩ | ⟨_, hz⟩
      · simp only; omega
      · exact hw d' hd' z hz
theorem PInv.perm' (h : PInv b S m) {m' : List Nd} (hp : m.Perm m') : PInv b S m' :=
  ⟨h.len, h.perm.trans hp, (hp.map _).nodup_iff.1 h.ids, fun x hx => h.pos x (hp.mem_iff.2 hx), h.reach⟩
theorem PInv.empty (b : Nat) : PInv b (List.replicate (2 ^ b) (0, 0)) [] := by
  refine ⟨by simp, ?_, by simp, by simp, ?_⟩
  · rw [List.filter_eq_nil_iff.2]
    intro x hx
    have := List.eq_of_mem_replicate hx
    subst this
    simp [full]
  · intro i x hi h0
    have := List.eq_of_mem_replicate (List.mem_of_getElem? hi)
    subst this
    simp at h0
end

theorem Roll.ids {r : List Nd} (h : Roll r) : (r.map (·.1)).Nodup := by
  rw [List.nodup_iff_pairwise_ne, List.pairwise_map]
  exact h.1.imp fun {a b} hab => by omega
theorem addR_perm_new {r : List Nd} (hr : Roll r) {id c : Int} (h0 : getR r id = 0) : (addR r id c).Perm ((id, c) :: r) := by
  induction r with
  | nil => exact .refl _
  | cons x r ih =>
    have hx := hr.2 x (by simp)
    simp only [getR] at h0
    by_cases he : x.1 = id
    · rw [if_pos he] at h0; omega
    · rw [if_neg he] at h0
      simp only [addR]
      rw [if_neg he]
      split
      · exact .refl _
      · exact ((ih hr.tail h0).cons x).trans (.swap _ _ _)
theorem addR_perm_old {r : List Nd} (hr : Roll r) {id c : Int} (h0 : getR r id ≠ 0) : ∃ t, r.Perm ((id, getR r id) :: t) ∧ (addR r id c).Perm ((id, getR r id + c) :: t) := by
  induction r with
  | nil => simp [getR] at h0
  | cons x r ih =>
    have hx := hr.2 x (by simp)
    simp only [getR] at h0 ⊢
    by_cases he : x.1 = id
    · rw [if_pos he]
      subst he
      exact ⟨r, .refl _, by simp [addR]⟩
    · rw [if_neg he] at h0 ⊢
      obtain ⟨t, h1, h2⟩ := ih hr.tail h0
      have hlt : ¬ id < x.1 := by
        intro hlt
        apply h0
        exact getR_none fun y hy => by have := hr.head y hy; omega
      refine ⟨x :: t, (h1.cons x).trans (.swap _ _ _), ?_⟩
      simp only [addR]
      rw [if_neg he, if_neg hlt]
      exact (h2.cons x).trans (.swap _ _ _)
theorem delR_perm {r : List Nd} (hr : Roll r) {id : Int} (h0 : getR r id ≠ 0) : r.Perm ((id, getR r id) :: delR r id) := by
  induction r with
  | nil => simp [getR] at h0
  | cons x r ih =>
    simp only [getR] at h0 ⊢
    by_cases he : x.1 = id
    · rw [if_pos he]
      subst he
      simp [delR]
    · rw [if_neg he] at h0 ⊢
      simp only [delR]
      rw [if_neg he]
      exact ((ih hr.tail h0).cons x).trans (.swap _ _ _)
end Go.Proofs.Ytalnhdfgjjhhbaa
