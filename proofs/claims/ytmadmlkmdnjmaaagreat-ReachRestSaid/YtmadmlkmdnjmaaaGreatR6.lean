/-
  Texts of this proof, one behind the other: TilesLaw, Flow, ReachLaw, FlowRank, AuditLaw, TilesMore, TilesOf, Ref05Of, Ref05With, Ref05Join, TilesAll, Grown.
-/
import Derived.Test.YtmadmlkmdnjmaaaGreatP3
import Derived.Test.YtmadmlkmdnjmaaaGreatR4
/- Tiles: nodes and what they hold: plain laws. -/
set_option linter.unusedSimpArgs false namespace Go.Proofs.YtmadmlkmdnjmaaaGreat
open Go.ChangeShapes Go.WideShapes Go.ChangeAt Go.RowKit
set_option linter.unusedVariables false

/-- The first and the last value that a node holds. -/
def loN (l : Nat) (x : Int) : Int := (endsOf l x).1
def hiN (l : Nat) (x : Int) : Int := (endsOf l x).2.1
/-- Is one above another one, or the same? -/
def abv (p q : Int) : Bool := decide (1 ≤ p ∧ 1 ≤ q ∧ p.toNat.log2 ≤ q.toNat.log2 ∧ q.toNat / 2 ^ (q.toNat.log2 - p.toNat.log2) = p.toNat)
theorem node_shape {l : Nat} {id : Int} (h : isNode l id = true) : ∃ d b t : Nat, d + b = l ∧ id = ((2 ^ d + t : Nat) : Int) ∧ t < 2 ^ d ∧ (2 ^ d + t).log2 = d ∧ loN l id = (t : Int) * 2 ^ b ∧ hiN l id = (t : Int) * 2 ^ b + 2 ^ b - 1 := by
  obtain ⟨n, x, hn, rfl, hn1, hn2, hx1, hx2⟩ := isNode_nat h
  obtain rfl : n = l := by omega
  obtain ⟨d, b, t, hd, hb, hdb, hxt, htd, hprod⟩ := node_facts hn2 hx1 hx2
  have e1 : endsOf n x = ((t : Int) * 2 ^ b, (t : Int) * 2 ^ b + 2 ^ b - 1, true) := by
    simp only [endsOf, h, if_true, Int.toNat_natCast, hd, hb]
    have : (x : Int) - 2 ^ d = t := by rw [hxt]; push_cast; omega
    rw [this]
  exact ⟨d, b, t, hdb, by rw [hxt], htd, by rw [← hxt]; exact hd, by unfold loN; rw [e1], by unfold hiN; rw [e1]⟩
theorem log2_shape {d t : Nat} (h : t < 2 ^ d) : (2 ^ d + t).log2 = d := by
  rw [Nat.log2_eq_iff (by have := Nat.two_pow_pos d; omega)]
  rw [Nat.pow_succ]; omega
theorem node_of_shape {l d b t : Nat} (hl : 1 ≤ l ∧ l ≤ 48) (hdb : d + b = l) (ht : t < 2 ^ d) : isNode l ((2 ^ d + t : Nat) : Int) = true := by
  have h1 := Nat.two_pow_pos d
  have h2 : (2 : Nat) ^ d ≤ 2 ^ l := Nat.pow_le_pow_right (by decide) (by omega)
  have h3 : ((2 ^ l : Nat) : Int) = 2 ^ l := by simp
  simp only [isNode, decide_eq_true_eq, Int.toNat_natCast]
  omega
section
variable {l : Nat} {p q : Int}
/-- Two nodes: one is above the other one just if it holds what that does; and if both hold a value, one is above the other one. -/
theorem lam_core {d k c t u : Nat} : ((t : Int) * 2 ^ (k + c) < (u : Int) * 2 ^ c + 2 ^ c ↔ t * 2 ^ k ≤ u) ∧ ((u : Int) * 2 ^ c < (t : Int) * 2 ^ (k + c) + 2 ^ (k + c) ↔ u < (t + 1) * 2 ^ k) ∧ ((t : Int) * 2 ^ (k + c) ≤ (u : Int) * 2 ^ c ↔ t * 2 ^ k ≤ u) ∧ ((u : Int) * 2 ^ c + 2 ^ c ≤ (t : Int) * 2 ^ (k + c) + 2 ^ (k + c) ↔ u < (t + 1) * 2 ^ k) := by
  have hc := Nat.two_pow_pos c
  have e1 : (t : Int) * 2 ^ (k + c) = ((t * 2 ^ k * 2 ^ c : Nat) : Int) := by rw [Int.pow_add]; push_cast; rw [Int.mul_assoc]
  have e2 : (t : Int) * 2 ^ (k + c) + 2 ^ (k + c) = (((t + 1) * 2 ^ k * 2 ^ c : Nat) : Int) := by
    rw [e1]; push_cast; rw [Int.pow_add, Int.add_mul, Int.add_mul, Int.one_mul]
  have e3 : (u : Int) * 2 ^ c + 2 ^ c = (((u + 1) * 2 ^ c : Nat) : Int) := by push_cast; rw [Int.add_mul, Int.one_mul]
  have e4 : (u : Int) * 2 ^ c = ((u * 2 ^ c : Nat) : Int) := by push_cast; rfl
  rw [e2, e3, e1, e4]
  simp only [Int.ofNat_lt, Int.ofNat_le]
  refine ⟨?_, ?_, ?_, ?_⟩
  · rw [Nat.mul_lt_mul_right hc]; omega
  · rw [Nat.mul_lt_mul_right hc]
  · exact Nat.mul_le_mul_right_iff hc
  · rw [Nat.mul_le_mul_right_iff hc]; omega
theorem div_shape {d k u t : Nat} (hu : u < 2 ^ (d + k)) : (2 ^ (d + k) + u) / 2 ^ k = 2 ^ d + t ↔ t * 2 ^ k ≤ u ∧ u < (t + 1) * 2 ^ k := by
  have hk := Nat.two_pow_pos k
  rw [Nat.pow_add, Nat.mul_comm (2 ^ d), Nat.mul_add_div hk]
  rw [show (2 ^ d + u / 2 ^ k = 2 ^ d + t) ↔ u / 2 ^ k = t by omega]
  rw [Nat.div_eq_iff hk]
  have e : (t + 1) * 2 ^ k = t * 2 ^ k + 2 ^ k := by rw [Nat.add_mul, Nat.one_mul]
  rw [e, Nat.mul_comm]
  omega
/-- Where one has fewer bits. -/
theorem lam_le (hp : isNode l p = true) (hq : isNode l q = true) (hd : p.toNat.log2 ≤ q.toNat.log2) : (abv p q = true ↔ loN l p ≤ loN l q ∧ hiN l q ≤ hiN l p) ∧ (loN l p ≤ hiN l q → loN l q ≤ hiN l p → abv p q = true) := by
  obtain ⟨d, b, t, h1, rfl, h2, h3, h4, h5⟩ := node_shape hp
  obtain ⟨e, c, u, k1, rfl, k2, k3, k4, k5⟩ := node_shape hq
  rw [Int.toNat_natCast, Int.toNat_natCast, h3, k3] at hd
  obtain ⟨k, rfl⟩ : ∃ k, e = d + k := ⟨e - d, by omega⟩
  obtain rfl : b = k + c := by omega
  obtain ⟨c1, c2, c3, c4⟩ := lam_core (d := d) (k := k) (c := c) (t := t) (u := u)
  have hpd := Nat.two_pow_pos d
  have hpe := Nat.two_pow_pos (d + k)
  have ea : abv ((2 ^ d + t : Nat) : Int) ((2 ^ (d + k) + u : Nat) : Int) = true ↔ t * 2 ^ k ≤ u ∧ u < (t + 1) * 2 ^ k := by
    rw [← div_shape k2]
    simp only [abv, decide_eq_true_eq, Int.toNat_natCast, h3, k3, Nat.add_sub_cancel_left]
    omega
  rw [ea, h4, h5, k4, k5]
  constructor
  · constructor
    · rintro ⟨a1, a2⟩
      have := c3.2 a1
      have := c4.2 a2
      omega
    · rintro ⟨a1, a2⟩
      exact ⟨c3.1 a1, c4.1 (by omega)⟩
  · intro a1 a2
    exact ⟨c1.1 (by omega), c2.1 (by omega)⟩
theorem abv_log (h : abv p q = true) : p.toNat.log2 ≤ q.toNat.log2 := by
  simp only [abv, decide_eq_true_eq] at h
  exact h.2.2.1
theorem abv_iff (hp : isNode l p = true) (hq : isNode l q = true) : abv p q = true ↔ loN l p ≤ loN l q ∧ hiN l q ≤ hiN l p := by
  by_cases hd : p.toNat.log2 ≤ q.toNat.log2
  · exact (lam_le hp hq hd).1
  · constructor
    · exact fun h => absurd (abv_log h) hd
    · rintro ⟨a1, a2⟩
      exfalso
      obtain ⟨d, b, t, h1, rfl, h2, h3, h4, h5⟩ := node_shape hp
      obtain ⟨e, c, u, k1, rfl, k2, k3, k4, k5⟩ := node_shape hq
      rw [Int.toNat_natCast, Int.toNat_natCast, h3, k3] at hd
      have : (2 : Int) ^ (b + 1) ≤ 2 ^ c := pow_le' (by omega)
      rw [Int.pow_succ] at this
      have := pow_pos' b
      omega
theorem lam (hp : isNode l p = true) (hq : isNode l q = true) (h1 : loN l p ≤ hiN l q) (h2 : loN l q ≤ hiN l p) : abv p q = true ∨ abv q p = true := by
  by_cases hd : p.toNat.log2 ≤ q.toNat.log2
  · exact .inl ((lam_le hp hq hd).2 h1 h2)
  · exact .inr ((lam_le hq hp (by omega)).2 h2 h1)
theorem lo_hi (hp : isNode l p = true) : loN l p ≤ hiN l p := (ends_bounds hp).2.1
theorem lo_0 (hp : isNode l p = true) : 0 ≤ loN l p := (ends_bounds hp).1
theorem hi_top (hp : isNode l p = true) : hiN l p ≤ 2 ^ l - 1 := (ends_bounds hp).2.2
theorem isNode_l (hp : isNode l p = true) : 1 ≤ l ∧ l ≤ 48 := by
  simp only [isNode, decide_eq_true_eq] at hp; omega
/-- A node's children. -/
theorem node_kids (hp : isNode l p = true) (hb : p.toNat.log2 < l) : isNode l (2 * p) = true ∧ isNode l (2 * p + 1) = true ∧ loN l (2 * p) = loN l p ∧ hiN l (2 * p + 1) = hiN l p ∧ loN l (2 * p + 1) = hiN l (2 * p) + 1 ∧ (2 * p).toNat.log2 = p.toNat.log2 + 1 ∧ (2 * p + 1).toNat.log2 = p.toNat.log2 + 1 := by
  have hl := isNode_l hp
  obtain ⟨d, b, t, h1, rfl, h2, h3, h4, h5⟩ := node_shape hp
  rw [Int.toNat_natCast, h3] at hb
  obtain ⟨c, rfl⟩ : ∃ c, b = c + 1 := ⟨b - 1, by omega⟩
  have e1 : 2 * ((2 ^ d + t : Nat) : Int) = ((2 ^ (d + 1) + 2 * t : Nat) : Int) := by rw [Nat.pow_succ]; push_cast; omega
  have e2 : 2 * ((2 ^ d + t : Nat) : Int) + 1 = ((2 ^ (d + 1) + (2 * t + 1) : Nat) : Int) := by rw [Nat.pow_succ]; push_cast; omega
  have q1 : 2 * t < 2 ^ (d + 1) := by rw [Nat.pow_succ]; omega
  have q2 : 2 * t + 1 < 2 ^ (d + 1) := by rw [Nat.pow_succ]; omega
  have n1 := node_of_shape (b := c) hl (by omega) q1
  have n2 := node_of_shape (b := c) hl (by omega) q2
  rw [e2, e1]
  refine ⟨n1, n2, ?_⟩
  obtain ⟨d', b', t', g1, g2, g3, g4, g5, g6⟩ := node_shape n1
  obtain ⟨d'', b'', t'', f1, f2, f3, f4, f5, f6⟩ := node_shape n2
  have i1 := log2_shape q1
  have i2 := log2_shape q2
  have g2' := Int.ofNat.inj g2
  have f2' := Int.ofNat.inj f2
  rw [← g2', i1] at g4
  rw [← f2', i2] at f4
  subst g4 f4
  obtain rfl : b' = c := by omega
  obtain rfl : b'' = b' := by omega
  obtain rfl : t' = 2 * t := by omega
  obtain rfl : t'' = 2 * t + 1 := by omega
  rw [g5, g6, f5, f6, h4, h5, Int.toNat_natCast, Int.toNat_natCast, Int.toNat_natCast, h3, i1, i2, Int.pow_succ]
  push_cast
  refine ⟨?_, ?_, ?_, rfl, rfl⟩
  · rw [Int.mul_comm 2 (t : Int), Int.mul_assoc, Int.mul_comm 2]
  · rw [Int.add_mul, Int.mul_comm 2 (t : Int), Int.mul_assoc, Int.mul_comm 2]; omega
  · rw [Int.add_mul]; omega
/-- A leaf holds one value. -/
theorem leaf_one (hp : isNode l p = true) (hb : p.toNat.log2 = l) : loN l p = hiN l p := by
  obtain ⟨d, b, t, h1, rfl, h2, h3, h4, h5⟩ := node_shape hp
  rw [Int.toNat_natCast, h3] at hb
  obtain rfl : b = 0 := by omega
  rw [h4, h5]; simp
theorem log2_le (hp : isNode l p = true) : p.toNat.log2 ≤ l := by
  obtain ⟨d, b, t, h1, rfl, h2, h3, h4, h5⟩ := node_shape hp
  rw [Int.toNat_natCast, h3]; omega
/-- With the same first value the greater one has the lesser number. -/
theorem lo_same (hp : isNode l p = true) (hq : isNode l q = true) (h : loN l p = loN l q) (hpq : p ≤ q) : abv p q = true := by
  refine ((lam_le hp hq ?_).2 ?_ ?_)
  · refine Classical.byContradiction fun hd => ?_
    obtain ⟨d, b, t, h1, rfl, h2, h3, h4, h5⟩ := node_shape hp
    obtain ⟨e, c, u, k1, rfl, k2, k3, k4, k5⟩ := node_shape hq
    rw [Int.toNat_natCast, Int.toNat_natCast, h3, k3] at hd
    have : (2 : Nat) ^ (e + 1) ≤ 2 ^ d := Nat.pow_le_pow_right (by decide) (by omega)
    rw [Nat.pow_succ] at this
    omega
  · have := lo_hi hq; omega
  · have := lo_hi hp; omega
theorem abv_eq (hp : isNode l p = true) (hq : isNode l q = true) (h : abv p q = true) (k : abv q p = true) : p = q := by
  have h1 := abv_log h
  have h2 := abv_log k
  simp only [abv, decide_eq_true_eq] at h
  have e : q.toNat.log2 - p.toNat.log2 = 0 := by omega
  have h3 := h.2.2.2
  rw [e, Nat.pow_zero, Nat.div_one] at h3
  omega
end
/-- A value that one of some nodes holds. -/
def held (l : Nat) (ids : List Int) (v : Int) : Prop := ∃ t ∈ ids, loN l t ≤ v ∧ v ≤ hiN l t
/-- The other one of a pair. -/
def sibN (t : Int) : Int := if t % 2 = 0 then t + 1 else t - 1
/-- A pair's left one and right one. -/
theorem sib_pair {l : Nat} {t x : Int} (ht : isNode l t = true) (hx : isNode l x = true) (h : sibN t = x) (hlt : hiN l t < loN l x) : isNode l (x / 2) = true ∧ t = 2 * (x / 2) ∧ x = 2 * (x / 2) + 1 ∧ loN l (x / 2) = loN l t ∧ hiN l (x / 2) = hiN l x ∧ loN l x = hiN l t + 1 := by
  have h1 : 1 ≤ t := by simp only [isNode, decide_eq_true_eq] at ht; omega
  have h2 : 1 ≤ x := by simp only [isNode, decide_eq_true_eq] at hx; omega
  have hxl : x < 2 * 2 ^ l := by simp only [isNode, decide_eq_true_eq, Int.toNat_natCast] at hx; omega
  have htl : t < 2 * 2 ^ l := by simp only [isNode, decide_eq_true_eq, Int.toNat_natCast] at ht; omega
  have hl := isNode_l hx
  unfold sibN at h
  have par : ∀ y : Int, 1 ≤ y → 2 * y + 1 < 2 * 2 ^ l → isNode l y = true ∧ y.toNat.log2 < l := by
    intro y hy1 hy2
    have hn : isNode l y = true := by simp only [isNode, decide_eq_true_eq, Int.toNat_natCast]; omega
    refine ⟨hn, ?_⟩
    obtain ⟨d, b, u, g1, g2, g3, g4, _⟩ := node_shape hn
    subst g2
    rw [Int.toNat_natCast, g4]
    apply Classical.byContradiction
    intro hd
    obtain rfl : d = l := by omega
    have : ((2 ^ d : Nat) : Int) = 2 ^ d := by simp
    omega
  split at h
  · have e : t = 2 * (x / 2) := by omega
    have e2 : x = 2 * (x / 2) + 1 := by omega
    obtain ⟨hn, hlt2⟩ := par (x / 2) (by omega) (by omega)
    obtain ⟨_, _, k1, k2, k3, _⟩ := node_kids hn hlt2
    refine ⟨hn, e, e2, ?_, ?_, ?_⟩
    · rw [← k1, ← e]
    · rw [← k2, ← e2]
    · rw [← e2, ← e] at k3; exact k3
  · have e : x = 2 * (x / 2) := by omega
    have e2 : t = 2 * (x / 2) + 1 := by omega
    obtain ⟨hn, hlt2⟩ := par (x / 2) (by omega) (by omega)
    obtain ⟨_, _, k1, k2, k3, _⟩ := node_kids hn hlt2
    exfalso
    rw [← e2, ← e] at k3
    have := lo_hi hx
    have := lo_hi ht
    omega
/-- Pairs become one; the last one stands ahead. -/
def climb : List Int → Int → List Int × Int
  | [], x => ([], x)
  | t :: ts, x => if sibN t = x then climb ts (x / 2) else (t :: ts, x)
def joinStep (T : List Int) (x : Int) : List Int :=
  match T with
  | [] => [x]
  | t :: ts => if abv t x = true then t :: ts else (climb (t :: ts) x).2 :: (climb (t :: ts) x).1
def joinF (s : List Int) : List Int := s.foldl joinStep []
/-- By the first value, then by the number. -/
def leT (l : Nat) (a b : Int) : Prop := loN l a < loN l b ∨ (loN l a = loN l b ∧ a ≤ b)
structure ClimbOf (l : Nat) (T : List Int) (x : Int) (T' : List Int) (j : Int) : Prop where
  node : isNode l j = true
  suf : T' <:+ T
  left : ∀ t ∈ T', hiN l t < loN l j
  hi : hiN l j = hiN l x
  lo : loN l j = loN l x ∨ ∃ t ∈ T, loN l j = loN l t
  lole : loN l j ≤ loN l x
  all : ∀ t ∈ T, t ∈ T' ∨ abv j t = true
  in_ : ∀ v, loN l j ≤ v → v ≤ hiN l j → (loN l x ≤ v ∧ v ≤ hiN l x) ∨ ∃ t ∈ T, loN l t ≤ v ∧ v ≤ hiN l t
  stop : ∀ t ts, T' = t :: ts → sibN t ≠ j
theorem climb_of {l : Nat} : ∀ (T : List Int) (x : Int), (∀ t ∈ T, isNode l t = true) → T.Pairwise (fun a b => hiN l b < loN l a) → isNode l x = true → (∀ t ∈ T, hiN l t < loN l x) → ClimbOf l T x (climb T x).1 (climb T x).2 := by
  intro T
  induction T with
  | nil => exact fun x _ _ hx _ => ⟨hx, List.suffix_refl _, by simp [climb], rfl, .inl rfl, Int.le_refl _, by simp, fun v h1 h2 => .inl ⟨h1, h2⟩, by simp [climb]⟩
  | cons t ts ih =>
    intro x hn hp hx hlt
    unfold climb
    by_cases hs : sibN t = x
    · rw [if_pos hs]
      have ht := hn t (by simp)
      obtain ⟨p1, p2, p3, p4, p5, p6⟩ := sib_pair ht hx hs (hlt t (by simp))
      rw [List.pairwise_cons] at hp
      have C := ih (x / 2) (fun u hu => hn u (by simp [hu])) hp.2 p1 (fun u hu => by rw [p4]; exact hp.1 u hu)
      generalize climb ts (x / 2) = R at C
      obtain ⟨T', j⟩ := R
      simp only at C ⊢
      have hlx := lo_hi hx
      have hlt' := lo_hi ht
      have a1 : abv j t = true := (abv_iff C.node ht).2 ⟨by have := C.lole; omega, by have := C.hi; omega⟩
      refine ⟨C.node, C.suf.trans (List.suffix_cons _ _), C.left, by rw [C.hi, p5], ?_, by have := C.lole; omega, ?_, ?_, C.stop⟩
      · rcases C.lo with h | ⟨u, hu, h⟩
        · exact .inr ⟨t, by simp, by rw [h, p4]⟩
        · exact .inr ⟨u, by simp [hu], h⟩
      · intro u hu
        rcases List.mem_cons.1 hu with rfl | hu
        · exact .inr a1
        · exact C.all u hu
      · intro v h1 h2
        rcases C.in_ v h1 h2 with ⟨g1, g2⟩ | ⟨u, hu, g⟩
        · by_cases hv : v ≤ hiN l t
          · exact .inr ⟨t, by simp, by omega, hv⟩
          · exact .inl ⟨by omega, by omega⟩
        · exact .inr ⟨u, by simp [hu], g⟩
    · rw [if_neg hs]
      exact ⟨hx, List.suffix_refl _, hlt, rfl, .inl rfl, Int.le_refl _, fun u hu => .inl hu, fun v h1 h2 => .inl ⟨h1, h2⟩, fun u us h => by cases h; exact hs⟩
/-- What holds of the tiles behind some nodes. -/
structure JInv (l : Nat) (pre T : List Int) : Prop where
  node : ∀ t ∈ T, isNode l t = true
  sep : T.Pairwise (fun a b => hiN l b < loN l a)
  low : ∀ t ∈ T, ∃ q ∈ pre, loN l q = loN l t
  cov : ∀ q ∈ pre, ∃ t ∈ T, abv t q = true
  sub : ∀ t ∈ T, ∀ v, loN l t ≤ v → v ≤ hiN l t → held l pre v
  sib : T.Pairwise (fun a b => sibN b ≠ a)
theorem abv_trans {l : Nat} {a b c : Int} (ha : isNode l a = true) (hb : isNode l b = true) (hc : isNode l c = true) (h : abv a b = true) (k : abv b c = true) : abv a c = true := by
  have h := (abv_iff ha hb).1 h
  have k := (abv_iff hb hc).1 k
  exact (abv_iff ha hc).2 ⟨by omega, by omega⟩
theorem abv_refl {l : Nat} {a : Int} (ha : isNode l a = true) : abv a a = true := (abv_iff ha ha).2 ⟨Int.le_refl _, Int.le_refl _⟩
theorem held_mono {l : Nat} {a b : List Int} (h : ∀ x ∈ a, x ∈ b) {v : Int} (k : held l a v) : held l b v := by
  obtain ⟨t, ht, hv⟩ := k
  exact ⟨t, h t ht, hv⟩
theorem jinv_step {l : Nat} {pre T : List Int} {x : Int} (h : JInv l pre T) (hp : ∀ q ∈ pre, isNode l q = true) (hx : isNode l x = true) (hs : ∀ q ∈ pre, leT l q x) : JInv l (pre ++ [x]) (joinStep T x) := by
  have h0 : ∀ t ∈ T, abv t x = true → JInv l (pre ++ [x]) T := fun t ht ha => ⟨h.node, h.sep, fun u hu => by
      obtain ⟨q, hq, e⟩ := h.low u hu
      exact ⟨q, List.mem_append_left _ hq, e⟩, fun q hq => by
      rcases List.mem_append.1 hq with hq | hq
      · exact h.cov q hq
      · rw [List.mem_singleton.1 hq]; exact ⟨t, ht, ha⟩, fun u hu v h1 h2 => held_mono (fun y hy => List.mem_append_left _ hy) (h.sub u hu v h1 h2), h.sib⟩
  by_cases hc : ∃ t ∈ T, abv t x = true
  · obtain ⟨t, ht, ha⟩ := hc
    -- it is the last one
    cases T with
    | nil => simp at ht
    | cons u us =>
      have hu : abv u x = true := by
        rcases List.mem_cons.1 ht with rfl | ht'
        · exact ha
        · exfalso
          have h1 := (List.pairwise_cons.1 h.sep).1 t ht'
          obtain ⟨q, hq, e⟩ := h.low u (by simp)
          have h2 := (abv_iff (h.node t (by simp [ht'])) hx).1 ha
          have h3 := lo_hi hx
          rcases hs q hq with h4 | h4 <;> omega
      unfold joinStep
      simp only [if_pos hu]
      exact h0 u (by simp) hu
  · have hright : ∀ t ∈ T, hiN l t < loN l x := by
      intro t ht
      apply Classical.byContradiction
      intro hn
      obtain ⟨q, hq, e⟩ := h.low t ht
      have hqx : loN l q ≤ loN l x := by rcases hs q hq with h4 | h4 <;> omega
      have hlx := lo_hi hx
      rcases lam (h.node t ht) hx (by omega) (by omega) with h1 | h1
      · exact hc ⟨t, ht, h1⟩
      · have h2 := (abv_iff hx (h.node t ht)).1 h1
        have h3 : loN l q = loN l x := by omega
        have h4 : abv q x = true := lo_same (hp q hq) hx h3 (by rcases hs q hq with h4 | h4 <;> omega)
        obtain ⟨u, hu, h5⟩ := h.cov q hq
        exact hc ⟨u, hu, abv_trans (h.node u hu) (hp q hq) hx h5 h4⟩
    have hstep : joinStep T x = (climb T x).2 :: (climb T x).1 := by
      cases T with
      | nil => rfl
      | cons u us =>
        unfold joinStep
        simp only
        rw [if_neg (fun hu => hc ⟨u, by simp, hu⟩)]
    rw [hstep]
    have C := climb_of T x h.node h.sep hx hright
    generalize climb T x = R at C
    obtain ⟨T', j⟩ := R
    simp only at C ⊢
    have hmem : ∀ t ∈ T', t ∈ T := fun t ht => C.suf.subset ht
    refine ⟨?_, ?_, ?_, ?_, ?_, ?_⟩
    · intro t ht
      rcases List.mem_cons.1 ht with rfl | ht
      · exact C.node
      · exact h.node t (hmem t ht)
    · exact List.pairwise_cons.2 ⟨C.left, h.sep.sublist C.suf.sublist⟩
    · intro t ht
      rcases List.mem_cons.1 ht with rfl | ht
      · rcases C.lo with e | ⟨u, hu, e⟩
        · exact ⟨x, by simp, e.symm⟩
        · obtain ⟨q, hq, e2⟩ := h.low u hu
          exact ⟨q, by simp [hq], by omega⟩
      · obtain ⟨q, hq, e2⟩ := h.low t (hmem t ht)
        exact ⟨q, by simp [hq], e2⟩
    · intro q hq
      rcases List.mem_append.1 hq with hq | hq
      · obtain ⟨t, ht, ha⟩ := h.cov q hq
        rcases C.all t ht with h1 | h1
        · exact ⟨t, by simp [h1], ha⟩
        · exact ⟨j, by simp, abv_trans C.node (h.node t ht) (hp q hq) h1 ha⟩
      · rw [List.mem_singleton.1 hq]
        exact ⟨j, by simp, (abv_iff C.node hx).2 ⟨C.lole, by rw [C.hi]; exact Int.le_refl _⟩⟩
    · intro t ht v h1 h2
      rcases List.mem_cons.1 ht with rfl | ht
      · rcases C.in_ v h1 h2 with g | ⟨u, hu, g1, g2⟩
        · exact ⟨x, by simp, g⟩
        · exact held_mono (fun y hy => List.mem_append_left _ hy) (h.sub u hu v g1 g2)
      · exact held_mono (fun y hy => List.mem_append_left _ hy) (h.sub t (hmem t ht) v h1 h2)
    · refine List.pairwise_cons.2 ⟨fun t ht hsj => ?_, h.sib.sublist C.suf.sublist⟩
      cases T' with
      | nil => simp at ht
      | cons u us =>
        rcases List.mem_cons.1 ht with rfl | ht'
        · exact C.stop _ _ rfl hsj
        · have h1 := (List.pairwise_cons.1 (h.sep.sublist C.suf.sublist)).1 t ht'
          have h2 := C.left u (by simp)
          have h3 := (sib_pair (h.node t (hmem t ht)) C.node hsj (C.left t ht)).2.2.2.2.2
          have h4 := lo_hi (h.node u (hmem u (by simp)))
          omega
theorem joinF_inv {l : Nat} {s : List Int} (hn : ∀ x ∈ s, isNode l x = true) (hs : s.Pairwise (leT l)) : JInv l s (joinF s) := by
  suffices h : ∀ k, k ≤ s.length → JInv l (s.take k) ((s.take k).foldl joinStep []) by
    have := h s.length (Nat.le_refl _)
    rwa [List.take_length] at this
  intro k
  induction k with
  | zero => exact fun _ => ⟨by simp, by simp, by simp, by simp, by simp, by simp⟩
  | succ k ih =>
    intro hk
    have hlt : k < s.length := by omega
    rw [List.take_succ_eq_append_getElem hlt, List.foldl_append]
    refine jinv_step (ih (by omega)) (fun q hq => hn q (List.mem_of_mem_take hq)) (hn _ (List.getElem_mem hlt)) (fun q hq => ?_)
    obtain ⟨i, hi, rfl⟩ := List.getElem_of_mem hq
    simp only [List.length_take] at hi
    rw [List.getElem_take]
    exact List.pairwise_iff_getElem.1 hs i k (by omega) hlt (by omega)
/-- Tiles as they come: they hold just what the nodes do, and each node that they hold whole is below one of them. -/
structure Tiles (l : Nat) (C : Int → Prop) (T : List Int) : Prop where
  node : ∀ t ∈ T, isNode l t = true
  cov : ∀ v, held l T v ↔ C v
  top : ∀ x, isNode l x = true → (∀ v, loN l x ≤ v → v ≤ hiN l x → C v) → ∃ t ∈ T, abv t x = true
theorem whole_below {l : Nat} {T : List Int} (hn : ∀ t ∈ T, isNode l t = true) (hsib : ∀ a ∈ T, ∀ b ∈ T, hiN l b < loN l a → sibN b ≠ a) : ∀ (b : Nat) (x : Int), isNode l x = true → x.toNat.log2 + b = l → (∀ v, loN l x ≤ v → v ≤ hiN l x → held l T v) → ∃ t ∈ T, abv t x = true := by
  intro b
  induction b with
  | zero =>
    intro x hx hb hv
    have he := leaf_one hx (by omega)
    obtain ⟨t, ht, h1, h2⟩ := hv (loN l x) (Int.le_refl _) (by omega)
    exact ⟨t, ht, (abv_iff (hn t ht) hx).2 ⟨h1, by omega⟩⟩
  | succ b ih =>
    intro x hx hb hv
    obtain ⟨k1, k2, k3, k4, k5, k6, k7⟩ := node_kids hx (by omega)
    have w1 := lo_hi k1
    have w2 := lo_hi k2
    obtain ⟨t, ht, h1⟩ := ih (2 * x) k1 (by omega) (fun v a1 a2 => hv v (by omega) (by omega))
    obtain ⟨u, hu, h2⟩ := ih (2 * x + 1) k2 (by omega) (fun v a1 a2 => hv v (by omega) (by omega))
    have r1 := (abv_iff (hn t ht) k1).1 h1
    have r2 := (abv_iff (hn u hu) k2).1 h2
    have wt := lo_hi (hn t ht)
    have wu := lo_hi (hn u hu)
    by_cases e1 : abv t x = true
    · exact ⟨t, ht, e1⟩
    · by_cases e2 : abv u x = true
      · exact ⟨u, hu, e2⟩
      · exfalso
        have q1 : abv x t = true := by
          rcases lam (hn t ht) hx (by omega) (by omega) with h | h
          · exact absurd h e1
          · exact h
        have q2 : abv x u = true := by
          rcases lam (hn u hu) hx (by omega) (by omega) with h | h
          · exact absurd h e2
          · exact h
        have c1 : t = 2 * x := by
          refine abv_eq (hn t ht) k1 h1 ((abv_iff k1 (hn t ht)).2 ?_)
          have s1 := (abv_iff hx (hn t ht)).1 q1
          refine ⟨by omega, ?_⟩
          apply Classical.byContradiction
          intro hgt
          rcases lam (hn t ht) k2 (by omega) (by omega) with h | h
          · have := (abv_iff (hn t ht) k2).1 h
            exact e1 ((abv_iff (hn t ht) hx).2 ⟨by omega, by omega⟩)
          · have := (abv_iff k2 (hn t ht)).1 h; omega
        have c2 : u = 2 * x + 1 := by
          refine abv_eq (hn u hu) k2 h2 ((abv_iff k2 (hn u hu)).2 ?_)
          have s1 := (abv_iff hx (hn u hu)).1 q2
          refine ⟨?_, by omega⟩
          apply Classical.byContradiction
          intro hgt
          rcases lam (hn u hu) k1 (by omega) (by omega) with h | h
          · have := (abv_iff (hn u hu) k1).1 h
            exact e2 ((abv_iff (hn u hu) hx).2 ⟨by omega, by omega⟩)
          · have := (abv_iff k1 (hn u hu)).1 h; omega
        refine hsib u hu t ht (by rw [c1, c2]; omega) ?_
        unfold sibN
        rw [c1, c2, if_pos (by omega)]
theorem sibN_sep {l : Nat} {T : List Int} (hn : ∀ t ∈ T, isNode l t = true) (hsep : T.Pairwise (fun a b => hiN l b < loN l a)) (hsib : T.Pairwise (fun a b => sibN b ≠ a)) : ∀ a ∈ T, ∀ b ∈ T, hiN l b < loN l a → sibN b ≠ a := by
  intro a ha b hb hlt
  obtain ⟨i, hi, rfl⟩ := List.getElem_of_mem ha
  obtain ⟨j, hj, rfl⟩ := List.getElem_of_mem hb
  have ha' := hn _ ha
  have hb' := hn _ hb
  rcases Nat.lt_trichotomy i j with h | h | h
  · exact List.pairwise_iff_getElem.1 hsib i j hi hj h
  · subst h
    have := lo_hi ha'; omega
  · have := List.pairwise_iff_getElem.1 hsep j i hj hi h
    have := lo_hi ha'
    have := lo_hi hb'
    omega
/-- The fewest tiles of what nodes hold. -/
theorem join_tiles {l : Nat} {s : List Int} (hn : ∀ x ∈ s, isNode l x = true) (hs : s.Pairwise (leT l)) : Tiles l (held l s) (joinF s) := by
  have J := joinF_inv hn hs
  have hcov : ∀ v, held l (joinF s) v ↔ held l s v := by
    intro v
    constructor
    · rintro ⟨t, ht, h1, h2⟩
      exact J.sub t ht v h1 h2
    · rintro ⟨q, hq, h1, h2⟩
      obtain ⟨t, ht, ha⟩ := J.cov q hq
      have := (abv_iff (J.node t ht) (hn q hq)).1 ha
      exact ⟨t, ht, by omega, by omega⟩
  refine ⟨J.node, hcov, fun x hx hv => ?_⟩
  have := log2_le hx
  exact whole_below J.node (sibN_sep J.node J.sep J.sib) (l - x.toNat.log2) x hx (by omega) fun v h1 h2 => (hcov v).2 (hv v h1 h2)
/-- The fewest tiles of a run, from a node of some height down. -/
def layT (l : Nat) (a b : Int) : Nat → Int → List Int
  | 0, x => if hiN l x < a ∨ b < loN l x then [] else [x]
  | h + 1, x => if hiN l x < a ∨ b < loN l x then [] else if a ≤ loN l x ∧ hiN l x ≤ b then [x] else layT l a b h (2 * x) ++ layT l a b h (2 * x + 1)
theorem layT_of {l : Nat} (a b : Int) : ∀ (h : Nat) (x : Int), isNode l x = true → x.toNat.log2 + h = l →
    (∀ t ∈ layT l a b h x, isNode l t = true) ∧ (∀ v, held l (layT l a b h x) v ↔ (loN l x ≤ v ∧ v ≤ hiN l x) ∧ a ≤ v ∧ v ≤ b) ∧ (∀ y, isNode l y = true → abv x y = true → a ≤ loN l y → hiN l y ≤ b → ∃ t ∈ layT l a b h x, abv t y = true) := by
  intro h
  induction h with
  | zero =>
    intro x hx hb
    have he := leaf_one hx (by omega)
    unfold layT
    by_cases hc : hiN l x < a ∨ b < loN l x
    · rw [if_pos hc]
      refine ⟨by simp, fun v => ⟨by rintro ⟨t, ht, _⟩; simp at ht, by rintro ⟨h1, h2⟩; exfalso; omega⟩, fun y hy h1 h2 h3 => ?_⟩
      exfalso
      have := (abv_iff hx hy).1 h1
      have := lo_hi hy
      omega
    · rw [if_neg hc]
      refine ⟨fun t ht => by rw [List.mem_singleton.1 ht]; exact hx, fun v => ⟨by rintro ⟨t, ht, h1, h2⟩; rw [List.mem_singleton.1 ht] at h1 h2; omega, by rintro ⟨h1, h2⟩; exact ⟨x, by simp, h1⟩⟩, fun y hy h1 h2 h3 => ⟨x, by simp, h1⟩⟩
  | succ h ih =>
    intro x hx hb
    have hlx := lo_hi hx
    obtain ⟨k1, k2, k3, k4, k5, k6, k7⟩ := node_kids hx (by omega)
    have w1 := lo_hi k1
    have w2 := lo_hi k2
    unfold layT
    by_cases hc : hiN l x < a ∨ b < loN l x
    · rw [if_pos hc]
      refine ⟨by simp, fun v => ⟨by rintro ⟨t, ht, _⟩; simp at ht, by rintro ⟨h1, h2⟩; exfalso; omega⟩, fun y hy h1 h2 h3 => ?_⟩
      exfalso
      have := (abv_iff hx hy).1 h1
      have := lo_hi hy
      omega
    · rw [if_neg hc]
      by_cases hd : a ≤ loN l x ∧ hiN l x ≤ b
      · rw [if_pos hd]
        exact ⟨fun t ht => by rw [List.mem_singleton.1 ht]; exact hx, fun v => ⟨by rintro ⟨t, ht, h1, h2⟩; rw [List.mem_singleton.1 ht] at h1 h2; omega, by rintro ⟨h1, h2⟩; exact ⟨x, by simp, h1⟩⟩, fun y hy h1 h2 h3 => ⟨x, by simp, h1⟩⟩
      · rw [if_neg hd]
        obtain ⟨a1, a2, a3⟩ := ih (2 * x) k1 (by omega)
        obtain ⟨b1, b2, b3⟩ := ih (2 * x + 1) k2 (by omega)
        refine ⟨fun t ht => (List.mem_append.1 ht).elim (a1 t) (b1 t), fun v => ?_, fun y hy h1 h2 h3 => ?_⟩
        · have e : held l (layT l a b h (2 * x) ++ layT l a b h (2 * x + 1)) v ↔ held l (layT l a b h (2 * x)) v ∨ held l (layT l a b h (2 * x + 1)) v := by
            constructor
            · rintro ⟨t, ht, g⟩
              rcases List.mem_append.1 ht with ht | ht
              · exact .inl ⟨t, ht, g⟩
              · exact .inr ⟨t, ht, g⟩
            · rintro (⟨t, ht, g⟩ | ⟨t, ht, g⟩)
              · exact ⟨t, List.mem_append_left _ ht, g⟩
              · exact ⟨t, List.mem_append_right _ ht, g⟩
          rw [e, a2, b2]
          omega
        · have r := (abv_iff hx hy).1 h1
          have wy := lo_hi hy
          by_cases hy1 : hiN l y ≤ hiN l (2 * x)
          · obtain ⟨t, ht, g⟩ := a3 y hy ((abv_iff k1 hy).2 ⟨by omega, hy1⟩) h2 h3
            exact ⟨t, List.mem_append_left _ ht, g⟩
          · by_cases hy2 : loN l (2 * x + 1) ≤ loN l y
            · obtain ⟨t, ht, g⟩ := b3 y hy ((abv_iff k2 hy).2 ⟨hy2, by omega⟩) h2 h3
              exact ⟨t, List.mem_append_right _ ht, g⟩
            · exfalso
              rcases lam k1 hy (by omega) (by omega) with g | g
              · have := (abv_iff k1 hy).1 g; omega
              · have := (abv_iff hy k1).1 g
                rcases lam k2 hy (by omega) (by omega) with g2 | g2
                · have := (abv_iff k2 hy).1 g2; omega
                · have := (abv_iff hy k2).1 g2; omega
theorem isNode_root {l : Nat} (hl : 1 ≤ l ∧ l ≤ 48) : isNode l 1 = true ∧ loN l 1 = 0 ∧ hiN l 1 = 2 ^ l - 1 := by
  have hn : isNode l 1 = true := by
    have := pow_pos' l
    simp only [isNode, decide_eq_true_eq, Int.toNat_natCast]; omega
  obtain ⟨d, b, t, h1, h2, h3, h4, h5, h6⟩ := node_shape hn
  have h7 := Nat.two_pow_pos d
  obtain rfl : t = 0 := by omega
  have h8 : (2 : Nat) ^ d = 1 := by omega
  obtain rfl : d = 0 := by
    rcases Nat.eq_zero_or_pos d with h | h
    · exact h
    · have := Nat.pow_le_pow_right (n := 2) (by decide) h; omega
  obtain rfl : b = l := by omega
  exact ⟨hn, by simpa using h5, by simpa using h6⟩
def ofTiles (l : Nat) (a b : Int) : List Int := layT l a b l 1
/-- The fewest tiles of a run of values. -/
theorem of_tiles {l : Nat} (hl : 1 ≤ l ∧ l ≤ 48) {a b : Int} (ha : 0 ≤ a) (hb : b ≤ 2 ^ l - 1) : Tiles l (fun v => a ≤ v ∧ v ≤ b) (ofTiles l a b) := by
  obtain ⟨h1, h2, h3⟩ := isNode_root hl
  have hlog : (1 : Int).toNat.log2 + l = l := by
    have : (1 : Int).toNat.log2 = 0 := by decide
    omega
  obtain ⟨g1, g2, g3⟩ := layT_of a b l 1 h1 hlog
  refine ⟨g1, fun v => by unfold ofTiles; rw [g2, h2, h3]; omega, fun x hx hv => ?_⟩
  have wx := lo_hi hx
  have w0 := lo_0 hx
  have w1 := hi_top hx
  exact g3 x hx ((abv_iff h1 hx).2 ⟨by omega, by omega⟩) (hv _ (Int.le_refl _) wx).1 (hv _ wx (Int.le_refl _)).2
/-- The tiles between tiles: behind some of these. -/
def restStep (l : Nat) (o : List Int × Int) (x : Int) : List Int × Int := (if o.2 < loN l x then o.1 ++ ofTiles l o.2 (loN l x - 1) else o.1, hiN l x + 1)
def restF (l : Nat) (T : List Int) : List Int × Int := T.foldl (restStep l) ([], 0)
def restL (l : Nat) (T : List Int) : List Int := if (restF l T).2 ≤ 2 ^ l - 1 then (restF l T).1 ++ ofTiles l (restF l T).2 (2 ^ l - 1) else (restF l T).1
structure RInv (l : Nat) (pre : List Int) (o : List Int × Int) : Prop where
  from0 : 0 ≤ o.2 ∧ o.2 ≤ 2 ^ l
  last : 0 < o.2 → held l pre (o.2 - 1)
  below : ∀ t ∈ pre, hiN l t < o.2
  node : ∀ t ∈ o.1, isNode l t = true
  cov : ∀ v, held l o.1 v ↔ (0 ≤ v ∧ v < o.2) ∧ ¬ held l pre v
  top : ∀ x, isNode l x = true → hiN l x < o.2 → (∀ v, loN l x ≤ v → v ≤ hiN l x → ¬ held l pre v) → ∃ t ∈ o.1, abv t x = true
theorem held_append {l : Nat} {a b : List Int} {v : Int} : held l (a ++ b) v ↔ held l a v ∨ held l b v := by
  constructor
  · rintro ⟨t, ht, g⟩
    rcases List.mem_append.1 ht with ht | ht
    · exact .inl ⟨t, ht, g⟩
    · exact .inr ⟨t, ht, g⟩
  · rintro (⟨t, ht, g⟩ | ⟨t, ht, g⟩)
    · exact ⟨t, List.mem_append_left _ ht, g⟩
    · exact ⟨t, List.mem_append_right _ ht, g⟩
theorem held_one {l : Nat} {x v : Int} : held l [x] v ↔ loN l x ≤ v ∧ v ≤ hiN l x :=
  ⟨by rintro ⟨t, ht, g⟩; rw [List.mem_singleton.1 ht] at g; exact g, fun g => ⟨x, by simp, g⟩⟩
theorem rinv_step {l : Nat} {pre : List Int} {o : List Int × Int} {x : Int} (hl : 1 ≤ l ∧ l ≤ 48) (h : RInv l pre o) (hx : isNode l x = true) (hlt : ∀ t ∈ pre, hiN l t < loN l x) : RInv l (pre ++ [x]) (restStep l o x) := by
  have wx := lo_hi hx
  have w0 := lo_0 hx
  have w1 := hi_top hx
  have hfrom : o.2 ≤ loN l x := by
    rcases Int.lt_or_le 0 o.2 with h1 | h1
    · obtain ⟨t, ht, g1, g2⟩ := h.last h1
      have := hlt t ht
      omega
    · omega
  have hpre : ∀ v, loN l x ≤ v → ¬ held l pre v := by
    rintro v hv ⟨t, ht, g1, g2⟩
    have := hlt t ht
    omega
  have O := of_tiles hl (a := o.2) (b := loN l x - 1) h.from0.1 (by omega)
  have hnil : ¬ o.2 < loN l x → o.2 = loN l x := by omega
  have hmem : ∀ t, t ∈ (restStep l o x).1 → t ∈ o.1 ∨ t ∈ ofTiles l o.2 (loN l x - 1) := by
    intro t ht
    unfold restStep at ht
    simp only at ht
    split at ht
    · exact List.mem_append.1 ht
    · exact .inl ht
  have hcov : ∀ v, held l (restStep l o x).1 v ↔ held l o.1 v ∨ (o.2 ≤ v ∧ v ≤ loN l x - 1) := by
    intro v
    unfold restStep
    simp only
    split
    · rw [held_append, O.cov]
    · constructor
      · exact .inl
      · rintro (g | g)
        · exact g
        · exfalso; omega
  have hin : ∀ t, t ∈ o.1 → t ∈ (restStep l o x).1 := by
    intro t ht
    unfold restStep
    simp only
    split
    · exact List.mem_append_left _ ht
    · exact ht
  have hin2 : o.2 < loN l x → ∀ t, t ∈ ofTiles l o.2 (loN l x - 1) → t ∈ (restStep l o x).1 := by
    intro hc t ht
    unfold restStep
    simp only
    rw [if_pos hc]
    exact List.mem_append_right _ ht
  have e2 : (restStep l o x).2 = hiN l x + 1 := rfl
  refine ⟨⟨by omega, by omega⟩, fun _ => ?_, fun t ht => ?_, fun t ht => ?_, fun v => ?_, fun y hy h1 h2 => ?_⟩
  · rw [e2, held_append, held_one]; right; omega
  · rcases List.mem_append.1 ht with ht | ht
    · have := hlt t ht; omega
    · rw [List.mem_singleton.1 ht]; omega
  · rcases hmem t ht with ht | ht
    · exact h.node t ht
    · exact O.node t ht
  · rw [hcov, h.cov, held_append, held_one, e2]
    constructor
    · rintro (⟨g1, g2⟩ | g)
      · refine ⟨by omega, ?_⟩
        rintro (k | k)
        · exact g2 k
        · omega
      · refine ⟨by have := h.from0; omega, ?_⟩
        rintro (⟨t, ht, k1, k2⟩ | k)
        · have := h.below t ht; omega
        · omega
    · rintro ⟨g1, g2⟩
      have n1 : ¬ held l pre v := fun k => g2 (.inl k)
      have n2 : ¬ (loN l x ≤ v ∧ v ≤ hiN l x) := fun k => g2 (.inr k)
      by_cases hv : v < o.2
      · exact .inl ⟨by omega, n1⟩
      · exact .inr ⟨by omega, by omega⟩
  · rw [e2] at h1
    have wy := lo_hi hy
    have wy0 := lo_0 hy
    have d1 : ∀ v, loN l y ≤ v → v ≤ hiN l y → ¬ held l pre v := fun v a1 a2 k => h2 v a1 a2 (held_append.2 (.inl k))
    have d2 : ∀ v, loN l y ≤ v → v ≤ hiN l y → ¬ (loN l x ≤ v ∧ v ≤ hiN l x) := fun v a1 a2 k => h2 v a1 a2 (held_append.2 (.inr (held_one.2 k)))
    by_cases hc : hiN l y < o.2
    · obtain ⟨t, ht, g⟩ := h.top y hy hc d1
      exact ⟨t, hin t ht, g⟩
    · have a1 : o.2 ≤ loN l y := by
        apply Classical.byContradiction
        intro hn
        exact d1 (o.2 - 1) (by omega) (by omega) (h.last (by omega))
      have a2 : hiN l y < loN l x := by
        apply Classical.byContradiction
        intro hn
        exact d2 (hiN l y) wy (Int.le_refl _) ⟨by omega, by omega⟩
      obtain ⟨t, ht, g⟩ := O.top y hy (fun v b1 b2 => ⟨by omega, by omega⟩)
      exact ⟨t, hin2 (by omega) t ht, g⟩
theorem restF_inv {l : Nat} (hl : 1 ≤ l ∧ l ≤ 48) {T : List Int} (hn : ∀ t ∈ T, isNode l t = true) (hs : T.Pairwise fun a b => hiN l a < loN l b) : RInv l T (restF l T) := by
  suffices h : ∀ k, k ≤ T.length → RInv l (T.take k) ((T.take k).foldl (restStep l) ([], 0)) by
    have := h T.length (Nat.le_refl _)
    rwa [List.take_length] at this
  intro k
  induction k with
  | zero =>
    intro _
    have := pow_pos' l
    exact ⟨⟨Int.le_refl _, Int.le_of_lt this⟩, fun h => absurd h (by simp), by simp, by simp, fun v => ⟨by rintro ⟨t, ht, _⟩; simp at ht, by rintro ⟨h1, _⟩; have h2 : v < 0 := h1.2; omega⟩, fun x hx h1 _ => by
      have h1 : hiN l x < 0 := h1
      have := lo_0 hx
      have := lo_hi hx
      omega⟩
  | succ k ih =>
    intro hk
    have hlt : k < T.length := by omega
    rw [List.take_succ_eq_append_getElem hlt, List.foldl_append]
    refine rinv_step hl (ih (by omega)) (hn _ (List.getElem_mem hlt)) (fun q hq => ?_)
    obtain ⟨i, hi, rfl⟩ := List.getElem_of_mem hq
    simp only [List.length_take] at hi
    rw [List.getElem_take]
    exact List.pairwise_iff_getElem.1 hs i k (by omega) hlt (by omega)
/-- The fewest tiles of what tiles don't hold. -/
theorem rest_tiles {l : Nat} (hl : 1 ≤ l ∧ l ≤ 48) {T : List Int} (hn : ∀ t ∈ T, isNode l t = true) (hs : T.Pairwise fun a b => hiN l a < loN l b) : Tiles l (fun v => (0 ≤ v ∧ v ≤ 2 ^ l - 1) ∧ ¬ held l T v) (restL l T) := by
  have R := restF_inv hl hn hs
  have O := of_tiles hl (a := (restF l T).2) (b := 2 ^ l - 1) R.from0.1 (Int.le_refl _)
  have e0 : restL l T = if (restF l T).2 ≤ 2 ^ l - 1 then (restF l T).1 ++ ofTiles l (restF l T).2 (2 ^ l - 1) else (restF l T).1 := rfl
  generalize restF l T = o at R O e0
  have hlow : ∀ x, isNode l x = true → ¬ hiN l x < o.2 → (∀ v, loN l x ≤ v → v ≤ hiN l x → (0 ≤ v ∧ v ≤ 2 ^ l - 1) ∧ ¬ held l T v) → o.2 ≤ loN l x := by
    intro x hx h1 h2
    apply Classical.byContradiction
    intro hn
    have := lo_0 hx
    exact (h2 (o.2 - 1) (by omega) (by omega)).2 (R.last (by omega))
  rw [e0]
  by_cases hc : o.2 ≤ 2 ^ l - 1
  · rw [if_pos hc]
    refine ⟨fun t ht => (List.mem_append.1 ht).elim (R.node t) (O.node t), fun v => ?_, fun x hx hv => ?_⟩
    · rw [held_append, R.cov, O.cov]
      constructor
      · rintro (⟨g1, g2⟩ | g)
        · exact ⟨by omega, g2⟩
        · refine ⟨by have := R.from0; omega, ?_⟩
          rintro ⟨t, ht, k1, k2⟩
          have := R.below t ht; omega
      · rintro ⟨g1, g2⟩
        by_cases hv : v < o.2
        · exact .inl ⟨by omega, g2⟩
        · exact .inr ⟨by omega, by omega⟩
    · by_cases h1 : hiN l x < o.2
      · obtain ⟨t, ht, g⟩ := R.top x hx h1 (fun v a1 a2 => (hv v a1 a2).2)
        exact ⟨t, List.mem_append_left _ ht, g⟩
      · have h2 := hlow x hx h1 hv
        have h3 := hi_top hx
        obtain ⟨t, ht, g⟩ := O.top x hx (fun v a1 a2 => ⟨by omega, by omega⟩)
        exact ⟨t, List.mem_append_right _ ht, g⟩
  · rw [if_neg hc]
    have h4 := R.from0
    refine ⟨R.node, fun v => ?_, fun x hx hv => ?_⟩
    · rw [R.cov]
      constructor
      · rintro ⟨g1, g2⟩; exact ⟨by omega, g2⟩
      · rintro ⟨g1, g2⟩; exact ⟨by omega, g2⟩
    · have h3 := hi_top hx
      exact R.top x hx (by omega) (fun v a1 a2 => (hv v a1 a2).2)
end Go.Proofs.YtmadmlkmdnjmaaaGreat
/- What came to a digest, and where it lies: no program in sight. -/
namespace Go.Proofs.YtmadmlkmdnjmaaaGreat
open Go.ChangeShapes Go.WideShapes Go.ChangeAt Go.RowKit
set_option linter.unusedVariables false

/-- What came: a leaf, the node at which it lies, and its weight. -/
structure Tr where
  leaf : Int
  node : Int
  c : Int
def wTr (f : Tr → Bool) : List Tr → Int
  | [] => 0
  | t :: T => (if f t = true then t.c else 0) + wTr f T
/-- What those nodes weigh of whose numbers something is so. -/
def wIds (p : Int → Bool) : List Nd → Int
  | [] => 0
  | x :: r => (if p x.1 = true then x.2 else 0) + wIds p r
theorem weighR_ids (l : Int) (f : Int → Int → Bool) (r : List Nd) : weighR l f r = wIds (fun id => f (endsOf l id).1 (endsOf l id).2.1) r := by
  induction r with
  | nil => rfl
  | cons x r ih => simp only [weighR, wIds, ih]
theorem sumR_ids (r : List Nd) : sumR r = wIds (fun _ => true) r := by
  induction r with
  | nil => rfl
  | cons x r ih => simp only [sumR, wIds, ih]; simp
theorem wTr_nonneg {T : List Tr} (h : ∀ t ∈ T, 1 ≤ t.c) (f : Tr → Bool) : 0 ≤ wTr f T := by
  induction T with
  | nil => simp [wTr]
  | cons t T ih =>
    have h1 := h t (by simp)
    have h2 := ih fun u hu => h u (by simp [hu])
    simp only [wTr]
    split <;> omega
theorem wTr_le {T : List Tr} (h : ∀ t ∈ T, 1 ≤ t.c) {f g : Tr → Bool} (hfg : ∀ t ∈ T, f t = true → g t = true) : wTr f T ≤ wTr g T := by
  induction T with
  | nil => simp [wTr]
  | cons t T ih =>
    have h1 := h t (by simp)
    have h2 := ih (fun u hu => h u (by simp [hu])) fun u hu => hfg u (by simp [hu])
    have h3 := hfg t (by simp)
    simp only [wTr]
    by_cases hf : f t = true
    · rw [if_pos hf, if_pos (h3 hf)]; omega
    · rw [if_neg hf]; split <;> omega
theorem wTr_congr {T : List Tr} {f g : Tr → Bool} (hfg : ∀ t ∈ T, f t = g t) : wTr f T = wTr g T := by
  induction T with
  | nil => rfl
  | cons t T ih => simp only [wTr, hfg t (by simp), ih fun u hu => hfg u (by simp [hu])]
theorem wTr_append (f : Tr → Bool) (S T : List Tr) : wTr f (S ++ T) = wTr f S + wTr f T := by
  induction S with
  | nil => simp [wTr]
  | cons t S ih => simp only [List.cons_append, wTr, ih]; omega
theorem wTr_split (g : Tr → Bool) (k : Tr → Int) (a : Int) (T : List Tr) : wTr g T = wTr (fun t => g t && (k t == a)) T + wTr g (T.filter fun t => k t != a) := by
  induction T with
  | nil => rfl
  | cons t T ih =>
    simp only [wTr, List.filter_cons, ih]
    by_cases hk : k t = a
    · simp [hk]; omega
    · simp [hk, wTr]; omega
theorem wTr_key (p : Int → Bool) (k : Tr → Int) (a : Int) (T : List Tr) : wTr (fun t => p (k t) && (k t == a)) T = if p a = true then wTr (fun t => k t == a) T else 0 := by
  induction T with
  | nil => simp [wTr]
  | cons t T ih =>
    simp only [wTr, ih]
    by_cases hk : k t = a
    · subst hk
      by_cases hp : p (k t) = true
      · simp [hp]
      · simp [hp]
    · have : (k t == a) = false := by simpa using hk
      simp only [this, Bool.and_false, Bool.false_eq_true, if_false, Int.zero_add]
theorem wTr_none {T : List Tr} {f : Tr → Bool} (h : ∀ t ∈ T, f t = false) : wTr f T = 0 := by
  induction T with
  | nil => rfl
  | cons t T ih => simp only [wTr, h t (by simp), ih fun u hu => h u (by simp [hu])]; simp
/-- A roll weighs what came. -/
theorem wIds_tr (p : Int → Bool) (k : Tr → Int) {r : List Nd} : ∀ (T : List Tr), Roll r → (∀ t ∈ T, 1 ≤ t.c) → (∀ id, getR r id = wTr (fun t => k t == id) T) → wIds p r = wTr (fun t => p (k t)) T := by
  induction r with
  | nil =>
    intro T _ hT h
    cases T with
    | nil => rfl
    | cons t T =>
      have h1 := h (k t)
      have h2 := wTr_nonneg (fun u hu => hT u (by simp [hu])) (fun u => k u == k t) (T := T)
      have h3 := hT t (by simp)
      simp only [getR, wTr, BEq.rfl, if_true] at h1
      omega
  | cons x r ih =>
    intro T hr hT h
    have h1 := h x.1
    simp only [getR, if_true] at h1
    rw [wTr_split (fun t => p (k t)) k x.1 T, wTr_key]
    simp only [wIds]
    rw [← h1]
    congr 1
    refine ih _ hr.tail (fun t ht => hT t (List.mem_filter.1 ht).1) fun id => ?_
    by_cases hid : id = x.1
    · subst hid
      rw [getR_none (fun y hy => by have := hr.head y hy; omega), wTr_none]
      intro t ht
      have := (List.mem_filter.1 ht).2
      simpa using this
    · have h2 := h id
      simp only [getR] at h2
      rw [if_neg (fun e => hid e.symm)] at h2
      rw [h2, wTr_split (fun t => k t == id) k x.1 T, wTr_none (f := fun t => (k t == id) && (k t == x.1)) (fun t _ => by
        by_cases e : k t = id
        · simp [e, hid]
        · simp [e])]
      simp

/-- A digest's roll r, and the roll q of all that was accepted, by its leaves. -/
def Flow (l : Nat) (r q : List Nd) : Prop := ∃ T : List Tr, (∀ t ∈ T, 1 ≤ t.c) ∧
  (∀ t ∈ T, isNode l t.node = true ∧ isNode l t.leaf = true ∧ (endsOf l t.node).1 ≤ (endsOf l t.leaf).1 ∧ (endsOf l t.leaf).2.1 ≤ (endsOf l t.node).2.1) ∧
  (∀ id, getR r id = wTr (fun t => t.node == id) T) ∧ (∀ id, getR q id = wTr (fun t => t.leaf == id) T)
section
variable {l : Nat} {r q : List Nd}
theorem Flow.nil (l : Nat) : Flow l [] [] := ⟨[], by simp, by simp, fun _ => rfl, fun _ => rfl⟩
theorem Flow.add (h : Flow l r q) (hr : Roll r) (hq : Roll q) {id c : Int} (hid : isNode l id = true) (hc : 1 ≤ c) : Flow l (addR r id c) (addR q id c) := by
  obtain ⟨T, h1, h2, h3, h4⟩ := h
  refine ⟨⟨id, id, c⟩ :: T, ?_, ?_, ?_, ?_⟩
  · intro t ht
    rcases List.mem_cons.1 ht with rfl | ht
    · exact hc
    · exact h1 t ht
  · intro t ht
    rcases List.mem_cons.1 ht with rfl | ht
    · exact ⟨hid, hid, Int.le_refl _, Int.le_refl _⟩
    · exact h2 t ht
  · intro j
    rw [getR_add hr, h3, h3]
    simp only [wTr]
    by_cases e : j = id
    · subst e; simp; omega
    · have : (id == j) = false := by simpa using fun e' => e e'.symm
      rw [if_neg e, this]; simp
  · intro j
    rw [getR_add hq, h4, h4]
    simp only [wTr]
    by_cases e : j = id
    · subst e; simp; omega
    · have : (id == j) = false := by simpa using fun e' => e e'.symm
      rw [if_neg e, this]; simp
/-- Two nodes go to one that holds what they do. -/
theorem Flow.fold (h : Flow l r q) {a b p : Int} {r' : List Nd} (hp : isNode l p = true) (hab : a ≠ b) (hap : a ≠ p) (hbp : b ≠ p) (ha : (endsOf l p).1 ≤ (endsOf l a).1 ∧ (endsOf l a).2.1 ≤ (endsOf l p).2.1) (hb : (endsOf l p).1 ≤ (endsOf l b).1 ∧ (endsOf l b).2.1 ≤ (endsOf l p).2.1)
    (hr : ∀ id, getR r' id = if id = p then getR r p + getR r a + getR r b else if id = a ∨ id = b then 0 else getR r id) : Flow l r' q := by
  obtain ⟨T, h1, h2, h3, h4⟩ := h
  refine ⟨T.map fun t => if t.node = a ∨ t.node = b then { t with node := p } else t, ?_, ?_, ?_, ?_⟩
  · intro t ht
    obtain ⟨u, hu, rfl⟩ := List.mem_map.1 ht
    have := h1 u hu
    split <;> exact this
  · intro t ht
    obtain ⟨u, hu, rfl⟩ := List.mem_map.1 ht
    have := h2 u hu
    split
    · rename_i hn
      refine ⟨hp, this.2.1, ?_, ?_⟩
      · simp only
        rcases hn with hn | hn
        · rw [hn] at this; omega
        · rw [hn] at this; omega
      · simp only
        rcases hn with hn | hn
        · rw [hn] at this; omega
        · rw [hn] at this; omega
    · exact this
  · intro id
    rw [hr, h3, h3, h3, h3]
    clear h1 h2 h3 h4 hr
    induction T with
    | nil => simp [wTr]
    | cons t T ih =>
      simp only [List.map_cons, wTr]
      by_cases i1 : id = p
      · rw [if_pos i1] at ih ⊢
        subst i1
        by_cases ta : t.node = a
        · have e1 : t.node ≠ b := by omega
          have e2 : t.node ≠ id := by omega
          simp [ta, hab, hap]
          omega
        · by_cases tb : t.node = b
          · simp [tb, hbp, fun e : b = a => hab e.symm]
            omega
          · simp [ta, tb]
            by_cases tp : t.node = id
            · simp [tp]; omega
            · simp [tp]; omega
      · rw [if_neg i1] at ih ⊢
        by_cases i2 : id = a ∨ id = b
        · rw [if_pos i2] at ih ⊢
          by_cases t1 : t.node = a ∨ t.node = b
          · rw [if_pos t1]
            have : (p == id) = false := by simpa using fun e => i1 e.symm
            simp only [this]
            simp only [Bool.false_eq_true, if_false]; omega
          · rw [if_neg t1]
            have : (t.node == id) = false := by
              simp only [beq_eq_false_iff_ne, ne_eq]
              rintro rfl; exact t1 i2
            simp only [this, Bool.false_eq_true, if_false]; omega
        · rw [if_neg i2] at ih ⊢
          by_cases t1 : t.node = a ∨ t.node = b
          · rw [if_pos t1]
            have e1 : (p == id) = false := by simpa using fun e => i1 e.symm
            have e2 : (t.node == id) = false := by
              simp only [beq_eq_false_iff_ne, ne_eq]
              rintro rfl; exact i2 t1
            simp only [e1, e2, Bool.false_eq_true, if_false]; omega
          · rw [if_neg t1]; omega
  · intro id
    rw [h4]
    clear h1 h2 h3 h4 hr
    induction T with
    | nil => rfl
    | cons t T ih =>
      simp only [List.map_cons, wTr, ih]
      by_cases hc : t.node = a ∨ t.node = b
      · rw [if_pos hc]
      · rw [if_neg hc]
/-- Another roll with the same weights. -/
theorem Flow.join {r2 q2 r3 q3 : List Nd} (h : Flow l r q) (k : Flow l r2 q2) (hr : ∀ id, getR r3 id = getR r id + getR r2 id) (hq : ∀ id, getR q3 id = getR q id + getR q2 id) : Flow l r3 q3 := by
  obtain ⟨T, h1, h2, h3, h4⟩ := h
  obtain ⟨S, k1, k2, k3, k4⟩ := k
  refine ⟨T ++ S, fun t ht => ?_, fun t ht => ?_, fun id => ?_, fun id => ?_⟩
  · rcases List.mem_append.1 ht with ht | ht
    · exact h1 t ht
    · exact k1 t ht
  · rcases List.mem_append.1 ht with ht | ht
    · exact h2 t ht
    · exact k2 t ht
  · rw [hr, wTr_append, h3, k3]
  · rw [hq, wTr_append, h4, k4]
theorem Flow.sum (h : Flow l r q) (hr : Roll r) (hq : Roll q) : sumR r = sumR q := by
  obtain ⟨T, h1, h2, h3, h4⟩ := h
  rw [sumR_ids, sumR_ids, wIds_tr _ (·.node) T hr h1 h3, wIds_tr _ (·.leaf) T hq h1 h4]
/-- What is so of nodes is so of what they hold. -/
theorem Flow.le (h : Flow l r q) (hr : Roll r) (hq : Roll q) {f g : Int → Int → Bool} (hfg : ∀ lo hi a b, lo ≤ a → b ≤ hi → f lo hi = true → g a b = true) : weighR l f r ≤ weighR l g q := by
  obtain ⟨T, h1, h2, h3, h4⟩ := h
  rw [weighR_ids, weighR_ids, wIds_tr _ (·.node) T hr h1 h3, wIds_tr _ (·.leaf) T hq h1 h4]
  exact wTr_le h1 fun t ht hf => hfg _ _ _ _ (h2 t ht).2.2.1 (h2 t ht).2.2.2 hf
theorem Flow.ge (h : Flow l r q) (hr : Roll r) (hq : Roll q) {f g : Int → Int → Bool} (hfg : ∀ lo hi a b, lo ≤ a → a ≤ b → b ≤ hi → g a b = true → f lo hi = true) : weighR l g q ≤ weighR l f r := by
  obtain ⟨T, h1, h2, h3, h4⟩ := h
  rw [weighR_ids, weighR_ids, wIds_tr _ (·.node) T hr h1 h3, wIds_tr _ (·.leaf) T hq h1 h4]
  exact wTr_le h1 fun t ht hf => hfg _ _ _ _ (h2 t ht).2.2.1 (ends_bounds (h2 t ht).2.1).2.1 (h2 t ht).2.2.2 hf
end

/-- What nodes of some numbers weigh. -/
theorem wIds_path {r : List Nd} (hr : Roll r) (p : Int → Bool) (m : Int) : ∀ (path : List Int), (∀ x ∈ r, p x.1 = true → x.1 ∈ path) → (∀ a ∈ path, getR r a ≤ m) → 0 ≤ m → wIds p r ≤ path.length * m := by
  intro path h1 h2 hm
  have key : ∀ (path : List Int) (s : List Nd), Roll s → (∀ x ∈ s, p x.1 = true → x.1 ∈ path) → wIds p s ≤ (path.map (getR s)).sum := by
    intro path
    induction path with
    | nil =>
      intro s hs h
      have : wIds p s = 0 := by
        clear hs
        induction s with
        | nil => rfl
        | cons x s ih =>
          have h0 : p x.1 ≠ true := fun e => by have := h x (by simp) e; simp at this
          simp only [wIds, if_neg h0, ih fun y hy => h y (by simp [hy])]; rfl
      rw [this]; simp
    | cons a path ih =>
      intro s hs h
      have h3 := ih (delR s a) (hs.del a) fun x hx hp => by
        have h4 := h x (delR_sub hx) hp
        rcases List.mem_cons.1 h4 with h5 | h5
        · exfalso
          have h6 := getR_mem (hs.del a) hx
          rw [h5, getR_del hs, if_pos rfl] at h6
          have := ((hs.del a).2 x hx).2
          omega
        · exact h5
      have h7 : wIds p s ≤ getR s a + wIds p (delR s a) := by
        clear ih h h3
        induction s with
        | nil => simp [wIds, getR, delR]
        | cons x s ih =>
          have hx := hs.2 x (by simp)
          simp only [getR, delR]
          by_cases e : x.1 = a
          · rw [if_pos e, if_pos e]
            simp only [wIds]; split <;> omega
          · rw [if_neg e, if_neg e]
            simp only [wIds]
            have := ih hs.tail
            omega
      have h8 : (path.map (getR (delR s a))).sum ≤ (path.map (getR s)).sum := by
        clear ih h h3 h7
        induction path with
        | nil => simp
        | cons b path ih =>
          simp only [List.map_cons, List.sum_cons]
          have := getR_del hs a b
          have h9 := getR_nonneg hs b
          split at this <;> omega
      simp only [List.map_cons, List.sum_cons]
      omega
  refine Int.le_trans (key path r hr h1) ?_
  clear key h1
  induction path with
  | nil => simp
  | cons a path ih =>
    simp only [List.map_cons, List.sum_cons, List.length_cons]
    have h3 := h2 a (by simp)
    have h4 := ih fun b hb => h2 b (by simp [hb])
    push_cast
    rw [Int.add_mul, Int.one_mul]
    omega
/-- The nodes above a leaf. -/
def pathOf (l : Nat) (y : Int) : List Int := (List.range l).map fun d => (2 ^ l + y) / 2 ^ (l - d)
theorem pathOf_len (l : Nat) (y : Int) : (pathOf l y).length = l := by simp [pathOf]
/-- A node that holds a value, but not it alone, is above its leaf. -/
theorem on_path {l : Nat} {id y : Int} (h : isNode l id = true) (h1 : (endsOf l id).1 ≤ y) (h2 : y < (endsOf l id).2.1) : id ∈ pathOf l y := by
  obtain ⟨n, x, hn, rfl, hn1, hn2, hx1, hx2⟩ := isNode_nat h
  obtain rfl : n = l := by omega
  obtain ⟨d, b, t, hd, hb, hdb, hxt, htd, hprod⟩ := node_facts hn2 hx1 hx2
  have e1 : endsOf n x = ((t : Int) * 2 ^ b, (t : Int) * 2 ^ b + 2 ^ b - 1, true) := by
    simp only [endsOf, h, if_true, Int.toNat_natCast, hd, hb]
    have : (x : Int) - 2 ^ d = t := by rw [hxt]; push_cast; omega
    rw [this]
  rw [e1] at h1 h2
  simp only at h1 h2
  have hb0 : b ≠ 0 := by rintro rfl; simp at h1 h2; omega
  refine List.mem_map.2 ⟨d, List.mem_range.2 (by omega), ?_⟩
  have hbd : n - d = b := by omega
  rw [hbd]
  have hpb := pow_pos' b
  have e2 : (2 : Int) ^ n = 2 ^ d * 2 ^ b := by rw [← Int.pow_add]; congr 1; omega
  have e3 : (x : Int) = 2 ^ d + t := by rw [hxt]; push_cast; omega
  rw [e2, e3]
  rw [Int.ediv_eq_iff_of_pos hpb]
  rw [Int.add_mul]
  omega
end Go.Proofs.YtmadmlkmdnjmaaaGreat
/- What weighs on nodes: plain laws. -/
namespace Go.Proofs.YtmadmlkmdnjmaaaGreat
open Go.ChangeShapes Go.WideShapes Go.ChangeAt Go.RowKit
set_option linter.unusedVariables false

/-- Runs of values: a value of one of them. -/
def covR (L : List (Int × Int)) (v : Int) : Prop := ∃ r ∈ L, r.1 ≤ v ∧ v ≤ r.2
/-- They rise, apart and not side by side. -/
structure Apart (L : List (Int × Int)) : Prop where
  sep : L.Pairwise fun a b => a.2 + 1 < b.1
  run : ∀ r ∈ L, r.1 ≤ r.2
/-- How many values of a run lie in another one. -/
def ov (r : Int × Int) (lo hi : Int) : Int := max 0 (min r.2 hi - max r.1 lo + 1)
def cntR (lo hi : Int) : List (Int × Int) → Int
  | [] => 0
  | r :: L => ov r lo hi + cntR lo hi L
theorem cntR_append (lo hi : Int) (a b : List (Int × Int)) : cntR lo hi (a ++ b) = cntR lo hi a + cntR lo hi b := by
  induction a with
  | nil => simp [cntR]
  | cons x a ih => simp only [List.cons_append, cntR, ih]; omega
theorem cntR_cut {L : List (Int × Int)} {lo hi m : Int} (h : ∀ r ∈ L, m ≤ r.1) : cntR lo hi L = cntR (max lo m) hi L := by
  induction L with
  | nil => rfl
  | cons r L ih =>
    simp only [cntR]
    rw [ih fun s hs => h s (by simp [hs])]
    have := h r (by simp)
    unfold ov; omega
theorem cntR_none {L : List (Int × Int)} {lo hi : Int} (h : ∀ r ∈ L, hi < r.1) : cntR lo hi L = 0 := by
  induction L with
  | nil => rfl
  | cons r L ih =>
    simp only [cntR]
    rw [ih fun s hs => h s (by simp [hs])]
    have := h r (by simp)
    unfold ov; omega
theorem covR_cons {r : Int × Int} {L : List (Int × Int)} {v : Int} : covR (r :: L) v ↔ (r.1 ≤ v ∧ v ≤ r.2) ∨ covR L v := by
  constructor
  · rintro ⟨s, hs, h⟩
    rcases List.mem_cons.1 hs with rfl | hs
    · exact .inl h
    · exact .inr ⟨s, hs, h⟩
  · rintro (h | ⟨s, hs, h⟩)
    · exact ⟨r, by simp, h⟩
    · exact ⟨s, by simp [hs], h⟩
theorem ov_facts (p q lo hi : Int) : ∃ a b, (a = q ∨ a = hi) ∧ a ≤ q ∧ a ≤ hi ∧ (b = p ∨ b = lo) ∧ p ≤ b ∧ lo ≤ b ∧ 0 ≤ ov (p, q) lo hi ∧ ((ov (p, q) lo hi = 0 ∧ a - b + 1 ≤ 0) ∨ (ov (p, q) lo hi = a - b + 1 ∧ 0 ≤ a - b + 1)) := by
  refine ⟨min q hi, max p lo, ?_, Int.min_le_left _ _, Int.min_le_right _ _, ?_, Int.le_max_left _ _, Int.le_max_right _ _, Int.le_max_left _ _, ?_⟩
  · omega
  · omega
  · unfold ov
    simp only
    generalize min q hi - max p lo + 1 = z
    omega
theorem cnt_spec : ∀ (L : List (Int × Int)) (lo hi : Int), Apart L → lo ≤ hi + 1 → 0 ≤ cntR lo hi L ∧ cntR lo hi L ≤ hi - lo + 1 ∧ (cntR lo hi L = hi - lo + 1 ↔ ∀ v, lo ≤ v → v ≤ hi → covR L v) ∧ (0 < cntR lo hi L ↔ ∃ v, lo ≤ v ∧ v ≤ hi ∧ covR L v) := by
  intro L
  induction L with
  | nil =>
    intro lo hi _ h
    simp only [cntR]
    refine ⟨Int.le_refl _, by omega, ⟨fun h1 v h2 h3 => by omega, fun h1 => ?_⟩, ⟨fun h1 => by omega, ?_⟩⟩
    · apply Classical.byContradiction
      intro hn
      obtain ⟨s, hs, _⟩ := h1 lo (Int.le_refl _) (by omega)
      simp at hs
    · rintro ⟨v, _, _, s, hs, _⟩
      simp at hs
  | cons r L ih =>
    intro lo hi hA h
    obtain ⟨p, q⟩ := r
    have hrun : p ≤ q := hA.run (p, q) (by simp)
    have hsep : (∀ s ∈ L, q + 1 < s.1) ∧ L.Pairwise (fun a b => a.2 + 1 < b.1) := List.pairwise_cons.1 hA.sep
    have hA' : Apart L := ⟨hsep.2, fun s hs => hA.run s (by simp [hs])⟩
    have hrs : ∀ v, covR L v → q + 1 < v := by
      rintro v ⟨s, hs, h1, h2⟩
      have := hsep.1 s hs
      omega
    obtain ⟨a, b, u1, u2, u3, u4, u5, u6, u7, u8⟩ := ov_facts p q lo hi
    simp only [cntR]
    by_cases hm : q ≤ hi
    · have hc := cntR_cut (L := L) (lo := lo) (hi := hi) (m := q + 1) (fun s hs => by have := hsep.1 s hs; omega)
      have m1 : lo ≤ max lo (q + 1) ∧ q + 1 ≤ max lo (q + 1) ∧ (max lo (q + 1) = lo ∨ max lo (q + 1) = q + 1) := by omega
      obtain ⟨i1, i2, i3, i4⟩ := ih (max lo (q + 1)) hi hA' (by omega)
      rw [hc]
      clear hc
      generalize max lo (q + 1) = m at m1 i1 i2 i3 i4
      generalize cntR m hi L = c at i1 i2 i3 i4
      generalize ov (p, q) lo hi = o at u7 u8
      refine ⟨by (clear i3 i4; omega), by (clear i3 i4; omega), ⟨fun h1 v h2 h3 => ?_, fun h1 => ?_⟩, ⟨fun h1 => ?_, ?_⟩⟩
      · rw [covR_cons]
        by_cases hv : v ≤ q
        · left; (clear i3 i4; omega)
        · right
          exact i3.1 (by (clear i3 i4; omega)) v (by (clear i3 i4; omega)) h3
      · have a1 : c = hi - m + 1 := i3.2 fun v h2 h3 => by
          rcases covR_cons.1 (h1 v (by (clear i3 i4; omega)) h3) with h4 | h4
          · (clear i3 i4; omega)
          · exact h4
        by_cases hl : lo ≤ q
        · rcases covR_cons.1 (h1 lo (Int.le_refl _) (by (clear i3 i4; omega))) with h4 | h4
          · (clear i3 i4; omega)
          · have := hrs _ h4; (clear i3 i4; omega)
        · (clear i3 i4; omega)
      · by_cases hc0 : 0 < c
        · obtain ⟨v, h2, h3, h4⟩ := i4.1 hc0
          exact ⟨v, by (clear i3 i4; omega), h3, covR_cons.2 (.inr h4)⟩
        · exact ⟨b, by (clear i3 i4; omega), by (clear i3 i4; omega), covR_cons.2 (.inl (by (clear i3 i4; omega)))⟩
      · rintro ⟨v, h2, h3, h4⟩
        rcases covR_cons.1 h4 with h5 | h5
        · (clear i3 i4; omega)
        · have := i4.2 ⟨v, by have := hrs _ h5; (clear i3 i4; omega), h3, h5⟩
          (clear i3 i4; omega)
    · have hc : cntR lo hi L = 0 := cntR_none fun s hs => by have := hsep.1 s hs; omega
      rw [hc]
      clear hc
      generalize ov (p, q) lo hi = o at u7 u8
      refine ⟨by omega, by omega, ⟨fun h1 v h2 h3 => covR_cons.2 (.inl (by omega)), fun h1 => ?_⟩, ⟨fun h1 => ⟨b, by omega, by omega, covR_cons.2 (.inl (by omega))⟩, ?_⟩⟩
      · by_cases hl : lo ≤ hi
        · rcases covR_cons.1 (h1 lo (Int.le_refl _) hl) with h4 | h4
          · omega
          · have := hrs _ h4; omega
        · omega
      · rintro ⟨v, h2, h3, h4⟩
        rcases covR_cons.1 h4 with h5 | h5
        · omega
        · have := hrs _ h5; omega
/-- Runs with one more. -/
structure WithS where
  ahead : List (Int × Int)
  x : Int × Int
  behind : List (Int × Int)
def withStep (s : WithS) (r : Int × Int) : WithS :=
  if r.2 + 1 < s.x.1 then { s with ahead := s.ahead ++ [r] }
  else if s.x.2 + 1 < r.1 then { s with behind := s.behind ++ [r] }
  else { s with x := (if r.1 < s.x.1 then r.1 else s.x.1, if s.x.2 < r.2 then r.2 else s.x.2) }
def withF (L : List (Int × Int)) (x : Int × Int) : WithS := L.foldl withStep ⟨[], x, []⟩
def withL (L : List (Int × Int)) (x : Int × Int) : List (Int × Int) := (withF L x).ahead ++ [(withF L x).x] ++ (withF L x).behind
structure WInv (pre : List (Int × Int)) (x : Int × Int) (s : WithS) : Prop where
  run : s.x.1 ≤ s.x.2
  a : ∀ r ∈ s.ahead, r ∈ pre ∧ r.2 + 1 < s.x.1
  b : ∀ r ∈ s.behind, r ∈ pre ∧ s.x.2 + 1 < r.1
  asep : s.ahead.Pairwise fun a b => a.2 + 1 < b.1
  bsep : s.behind.Pairwise fun a b => a.2 + 1 < b.1
  cov : ∀ v, (covR s.ahead v ∨ (s.x.1 ≤ v ∧ v ≤ s.x.2) ∨ covR s.behind v) ↔ (covR pre v ∨ (x.1 ≤ v ∧ v ≤ x.2))
theorem covR_append {a b : List (Int × Int)} {v : Int} : covR (a ++ b) v ↔ covR a v ∨ covR b v := by
  constructor
  · rintro ⟨t, ht, g⟩
    rcases List.mem_append.1 ht with ht | ht
    · exact .inl ⟨t, ht, g⟩
    · exact .inr ⟨t, ht, g⟩
  · rintro (⟨t, ht, g⟩ | ⟨t, ht, g⟩)
    · exact ⟨t, List.mem_append_left _ ht, g⟩
    · exact ⟨t, List.mem_append_right _ ht, g⟩
theorem covR_one {r : Int × Int} {v : Int} : covR [r] v ↔ r.1 ≤ v ∧ v ≤ r.2 :=
  ⟨by rintro ⟨t, ht, g⟩; rw [List.mem_singleton.1 ht] at g; exact g, fun g => ⟨r, by simp, g⟩⟩
theorem winv_step {pre : List (Int × Int)} {x r : Int × Int} {s : WithS} (h : WInv pre x s) (hr : r.1 ≤ r.2) (hp : ∀ q ∈ pre, q.2 + 1 < r.1) (hpr : ∀ q ∈ pre, q.1 ≤ q.2) : WInv (pre ++ [r]) x (withStep s r) := by
  have hrun := h.run
  have hb : ∀ q ∈ s.behind, s.x.2 + 1 < r.1 := fun q hq => by
    have h1 := (h.b q hq).2
    have h2 := hp q (h.b q hq).1
    have h3 := hpr q (h.b q hq).1
    omega
  unfold withStep
  by_cases c1 : r.2 + 1 < s.x.1
  · rw [if_pos c1]
    refine ⟨h.run, fun q hq => ?_, fun q hq => ⟨List.mem_append_left _ (h.b q hq).1, (h.b q hq).2⟩, ?_, h.bsep, fun v => ?_⟩
    · rcases List.mem_append.1 hq with hq | hq
      · exact ⟨List.mem_append_left _ (h.a q hq).1, (h.a q hq).2⟩
      · rw [List.mem_singleton.1 hq]; exact ⟨by simp, c1⟩
    · refine List.pairwise_append.2 ⟨h.asep, List.pairwise_singleton _ _, fun a ha b hb => ?_⟩
      rw [List.mem_singleton.1 hb]; exact hp a (h.a a ha).1
    · have := h.cov v
      simp only [covR_append, covR_one] at this ⊢
      constructor
      · rintro ((k | k) | k | k)
        · rcases this.1 (.inl k) with k | k <;> simp [k]
        · simp [k]
        · rcases this.1 (.inr (.inl k)) with k | k <;> simp [k]
        · rcases this.1 (.inr (.inr k)) with k | k <;> simp [k]
      · rintro ((k | k) | k)
        · rcases this.2 (.inl k) with k | k | k <;> simp [k]
        · simp [k]
        · rcases this.2 (.inr k) with k | k | k <;> simp [k]
  · rw [if_neg c1]
    by_cases c2 : s.x.2 + 1 < r.1
    · rw [if_pos c2]
      refine ⟨h.run, fun q hq => ⟨List.mem_append_left _ (h.a q hq).1, (h.a q hq).2⟩, fun q hq => ?_, h.asep, ?_, fun v => ?_⟩
      · rcases List.mem_append.1 hq with hq | hq
        · exact ⟨List.mem_append_left _ (h.b q hq).1, (h.b q hq).2⟩
        · rw [List.mem_singleton.1 hq]; exact ⟨by simp, c2⟩
      · refine List.pairwise_append.2 ⟨h.bsep, List.pairwise_singleton _ _, fun a ha b hb => ?_⟩
        rw [List.mem_singleton.1 hb]; exact hp a (h.b a ha).1
      · have := h.cov v
        simp only [covR_append, covR_one] at this ⊢
        constructor
        · rintro (k | k | k | k)
          · rcases this.1 (.inl k) with k | k <;> simp [k]
          · rcases this.1 (.inr (.inl k)) with k | k <;> simp [k]
          · rcases this.1 (.inr (.inr k)) with k | k <;> simp [k]
          · simp [k]
        · rintro ((k | k) | k)
          · rcases this.2 (.inl k) with k | k | k <;> simp [k]
          · simp [k]
          · rcases this.2 (.inr k) with k | k | k <;> simp [k]
    · rw [if_neg c2]
      have hb0 : s.behind = [] := by
        cases hbs : s.behind with
        | nil => rfl
        | cons q qs => exact absurd (hb q (by rw [hbs]; simp)) c2
      have m1 : (if r.1 < s.x.1 then r.1 else s.x.1) = min r.1 s.x.1 := by split <;> omega
      have m2 : (if s.x.2 < r.2 then r.2 else s.x.2) = max r.2 s.x.2 := by split <;> omega
      rw [m1, m2]
      refine ⟨by simp only; omega, fun q hq => ⟨List.mem_append_left _ (h.a q hq).1, ?_⟩, fun q hq => ?_, h.asep, h.bsep, fun v => ?_⟩
      · have := (h.a q hq).2
        have := hp q (h.a q hq).1
        simp only; omega
      · simp only [hb0] at hq; simp at hq
      · have := h.cov v
        simp only [covR_append, covR_one, hb0] at this ⊢
        have hn : ¬ covR [] v := by rintro ⟨t, ht, _⟩; simp at ht
        constructor
        · rintro (k | k | k)
          · rcases this.1 (.inl k) with k | k <;> simp [k]
          · by_cases k2 : r.1 ≤ v ∧ v ≤ r.2
            · simp [k2]
            · rcases this.1 (.inr (.inl (by omega))) with k | k <;> simp [k]
          · exact absurd k hn
        · rintro ((k | k) | k)
          · rcases this.2 (.inl k) with k | k | k
            · simp [k]
            · exact .inr (.inl (by omega))
            · exact absurd k hn
          · exact .inr (.inl (by omega))
          · rcases this.2 (.inr k) with k | k | k
            · simp [k]
            · exact .inr (.inl (by omega))
            · exact absurd k hn
theorem withF_inv {L : List (Int × Int)} (hA : Apart L) {x : Int × Int} (hx : x.1 ≤ x.2) : WInv L x (withF L x) := by
  suffices h : ∀ k, k ≤ L.length → WInv (L.take k) x ((L.take k).foldl withStep ⟨[], x, []⟩) by
    have := h L.length (Nat.le_refl _)
    rwa [List.take_length] at this
  intro k
  induction k with
  | zero => exact fun _ => ⟨hx, by simp, by simp, by simp, by simp, fun v => by simp [covR]⟩
  | succ k ih =>
    intro hk
    have hlt : k < L.length := by omega
    rw [List.take_succ_eq_append_getElem hlt, List.foldl_append]
    refine winv_step (ih (by omega)) (hA.run _ (List.getElem_mem hlt)) (fun q hq => ?_) (fun q hq => hA.run q (List.mem_of_mem_take hq))
    obtain ⟨i, hi, rfl⟩ := List.getElem_of_mem hq
    simp only [List.length_take] at hi
    rw [List.getElem_take]
    exact List.pairwise_iff_getElem.1 hA.sep i k (by omega) hlt (by omega)
theorem withL_apart {L : List (Int × Int)} (hA : Apart L) {x : Int × Int} (hx : x.1 ≤ x.2) : Apart (withL L x) ∧ ∀ v, covR (withL L x) v ↔ covR L v ∨ (x.1 ≤ v ∧ v ≤ x.2) := by
  have W := withF_inv hA hx
  unfold withL
  generalize withF L x = s at W
  refine ⟨⟨?_, ?_⟩, fun v => ?_⟩
  · rw [List.append_assoc]
    refine List.pairwise_append.2 ⟨W.asep, List.pairwise_cons.2 ⟨fun b hb => (W.b b hb).2, W.bsep⟩, fun a ha b hb => ?_⟩
    have h1 := (W.a a ha).2
    have h2 := W.run
    rcases List.mem_cons.1 hb with rfl | hb
    · exact h1
    · have := (W.b b hb).2; omega
  · intro r hr
    rcases List.mem_append.1 hr with hr | hr
    · rcases List.mem_append.1 hr with hr | hr
      · exact hA.run r (W.a r hr).1
      · rw [List.mem_singleton.1 hr]; exact W.run
    · exact hA.run r (W.b r hr).1
  · rw [covR_append, covR_append, covR_one, ← W.cov, or_assoc]
/-- The runs that nodes hold. -/
def runsF (l : Nat) (ids : List Int) : List (Int × Int) := ids.foldl (fun o x => withL o (loN l x, hiN l x)) []
theorem runsF_snoc (l : Nat) (ids : List Int) (x : Int) : runsF l (ids ++ [x]) = withL (runsF l ids) (loN l x, hiN l x) := by
  unfold runsF; rw [List.foldl_append]; rfl
theorem runsF_apart {l : Nat} {ids : List Int} (hn : ∀ x ∈ ids, isNode l x = true) : Apart (runsF l ids) ∧ ∀ v, covR (runsF l ids) v ↔ held l ids v := by
  suffices h : ∀ k, k ≤ ids.length → Apart (runsF l (ids.take k)) ∧ ∀ v, covR (runsF l (ids.take k)) v ↔ held l (ids.take k) v by
    have := h ids.length (Nat.le_refl _)
    rwa [List.take_length] at this
  intro k
  induction k with
  | zero => exact fun _ => ⟨⟨by simp [runsF], by simp [runsF]⟩, fun v => by simp [runsF, covR, held]⟩
  | succ k ih =>
    intro hk
    have hlt : k < ids.length := by omega
    obtain ⟨i1, i2⟩ := ih (by omega)
    rw [List.take_succ_eq_append_getElem hlt, runsF_snoc]
    have := withL_apart i1 (x := (loN l ids[k], hiN l ids[k])) (lo_hi (hn _ (List.getElem_mem hlt)))
    refine ⟨this.1, fun v => ?_⟩
    rw [this.2, i2, held_append, held_one]
/-- Tiles one behind the other, from a value to another one. -/
def chainT (l : Nat) (b : Int) : Int → List Int → Prop
  | a, [] => a = b + 1
  | a, t :: L => isNode l t = true ∧ loN l t = a ∧ hiN l t ≤ b ∧ chainT l b (hiN l t + 1) L
def ends2 (l : Nat) (t : Int) : Int × Int := (loN l t, hiN l t)
theorem chain_cnt {l : Nat} {b : Int} (lo hi : Int) : ∀ (L : List Int) (a : Int), a ≤ b + 1 → chainT l b a L → cntR lo hi (L.map (ends2 l)) = ov (a, b) lo hi := by
  intro L
  induction L with
  | nil =>
    intro a ha h
    simp only [chainT] at h
    simp only [List.map_nil, cntR, ov]; omega
  | cons t L ih =>
    intro a ha h
    obtain ⟨h1, h2, h3, h4⟩ := h
    have hw := lo_hi h1
    simp only [List.map_cons, cntR]
    rw [ih _ (by omega) h4]
    unfold ov ends2
    simp only
    omega
/-- How many values of a run nodes hold. -/
def heldC (l : Nat) (ids : List Int) (x : Int) : Int := cntR (loN l x) (hiN l x) (runsF l ids)
theorem heldC_spec {l : Nat} {ids : List Int} (hn : ∀ y ∈ ids, isNode l y = true) {x : Int} (hx : isNode l x = true) : 0 ≤ heldC l ids x ∧ heldC l ids x ≤ hiN l x - loN l x + 1 ∧ (heldC l ids x = hiN l x - loN l x + 1 ↔ ∀ v, loN l x ≤ v → v ≤ hiN l x → held l ids v) ∧ (0 < heldC l ids x ↔ ∃ v, loN l x ≤ v ∧ v ≤ hiN l x ∧ held l ids v) := by
  obtain ⟨h1, h2⟩ := runsF_apart hn
  have := cnt_spec (runsF l ids) (loN l x) (hiN l x) h1 (by have := lo_hi hx; omega)
  unfold heldC
  simpa only [h2] using this
/-- Is all that a node holds held by tiles, is some of it? -/
def allT (T : List Int) (x : Int) : Bool := T.any fun t => abv t x
def someT (T : List Int) (x : Int) : Bool := T.any fun t => abv t x || abv x t
theorem tiles_all {l : Nat} {C : Int → Prop} {T : List Int} (h : Tiles l C T) {x : Int} (hx : isNode l x = true) : (allT T x = true ↔ ∀ v, loN l x ≤ v → v ≤ hiN l x → C v) ∧ (someT T x = true ↔ ∃ v, loN l x ≤ v ∧ v ≤ hiN l x ∧ C v) := by
  have hw := lo_hi hx
  constructor
  · constructor
    · intro ha v h1 h2
      obtain ⟨t, ht, g⟩ := List.any_eq_true.1 ha
      have := (abv_iff (h.node t ht) hx).1 g
      exact (h.cov v).1 ⟨t, ht, by omega, by omega⟩
    · intro hv
      obtain ⟨t, ht, g⟩ := h.top x hx hv
      exact List.any_eq_true.2 ⟨t, ht, g⟩
  · constructor
    · intro ha
      obtain ⟨t, ht, g⟩ := List.any_eq_true.1 ha
      have hwt := lo_hi (h.node t ht)
      rcases Bool.or_eq_true _ _ ▸ g with g | g
      · have := (abv_iff (h.node t ht) hx).1 g
        exact ⟨loN l x, Int.le_refl _, hw, (h.cov _).1 ⟨t, ht, by omega, by omega⟩⟩
      · have := (abv_iff hx (h.node t ht)).1 g
        exact ⟨loN l t, by omega, by omega, (h.cov _).1 ⟨t, ht, Int.le_refl _, hwt⟩⟩
    · rintro ⟨v, h1, h2, hv⟩
      obtain ⟨t, ht, g1, g2⟩ := (h.cov v).2 hv
      refine List.any_eq_true.2 ⟨t, ht, ?_⟩
      rcases lam (h.node t ht) hx (by omega) (by omega) with g | g <;> simp [g]
/-- What is on tiles. -/
def onT (T : List Int) (r : List Nd) : Int × Int := (wIds (allT T) r, wIds (someT T) r)
theorem wIds_congr {p q : Int → Bool} {r : List Nd} (h : ∀ x ∈ r, p x.1 = q x.1) : wIds p r = wIds q r := by
  induction r with
  | nil => rfl
  | cons x r ih => simp only [wIds, h x (by simp), ih fun y hy => h y (by simp [hy])]
theorem onT_congr {l : Nat} {C D : Int → Prop} {T U : List Int} {r : List Nd} (h : Tiles l C T) (k : Tiles l D U) (hn : ∀ x ∈ r, isNode l x.1 = true) (hCD : ∀ v, 0 ≤ v → v ≤ 2 ^ l - 1 → (C v ↔ D v)) : onT T r = onT U r := by
  have e : ∀ x, isNode l x = true → (∀ v, loN l x ≤ v → v ≤ hiN l x → (C v ↔ D v)) := fun x hx v h1 h2 => hCD v (by have := lo_0 hx; omega) (by have := hi_top hx; omega)
  unfold onT
  refine Prod.ext (wIds_congr fun x hx => ?_) (wIds_congr fun x hx => ?_)
  · rw [Bool.eq_iff_iff, (tiles_all h (hn x hx)).1, (tiles_all k (hn x hx)).1]
    exact ⟨fun g v h1 h2 => (e _ (hn x hx) v h1 h2).1 (g v h1 h2), fun g v h1 h2 => (e _ (hn x hx) v h1 h2).2 (g v h1 h2)⟩
  · rw [Bool.eq_iff_iff, (tiles_all h (hn x hx)).2, (tiles_all k (hn x hx)).2]
    exact ⟨fun ⟨v, h1, h2, g⟩ => ⟨v, h1, h2, (e _ (hn x hx) v h1 h2).1 g⟩, fun ⟨v, h1, h2, g⟩ => ⟨v, h1, h2, (e _ (hn x hx) v h1 h2).2 g⟩⟩
/-- The document's: node by node, by how many values are held. -/
def refOn (l : Nat) (ids : List Int) (off : Bool) (r : List Nd) : Int × Int :=
  (wIds (fun x => decide ((if off = true then hiN l x - loN l x + 1 - heldC l ids x else heldC l ids x) = hiN l x - loN l x + 1)) r, wIds (fun x => decide (0 < (if off = true then hiN l x - loN l x + 1 - heldC l ids x else heldC l ids x))) r)
theorem ref_on {l : Nat} {ids T : List Int} {r : List Nd} (hi : ∀ y ∈ ids, isNode l y = true) (h : Tiles l (held l ids) T) (hn : ∀ x ∈ r, isNode l x.1 = true) : onT T r = refOn l ids false r := by
  unfold onT refOn
  refine Prod.ext (wIds_congr fun x hx => ?_) (wIds_congr fun x hx => ?_)
  · rw [Bool.eq_iff_iff, (tiles_all h (hn x hx)).1, decide_eq_true_eq, if_neg (by simp)]
    exact (heldC_spec hi (hn x hx)).2.2.1.symm
  · rw [Bool.eq_iff_iff, (tiles_all h (hn x hx)).2, decide_eq_true_eq, if_neg (by simp)]
    exact (heldC_spec hi (hn x hx)).2.2.2.symm
theorem ref_off {l : Nat} {ids T : List Int} {r : List Nd} (hi : ∀ y ∈ ids, isNode l y = true) (h : Tiles l (fun v => (0 ≤ v ∧ v ≤ 2 ^ l - 1) ∧ ¬ held l ids v) T) (hn : ∀ x ∈ r, isNode l x.1 = true) : onT T r = refOn l ids true r := by
  unfold onT refOn
  have e : ∀ x, isNode l x = true → ∀ v, loN l x ≤ v → v ≤ hiN l x → 0 ≤ v ∧ v ≤ 2 ^ l - 1 := fun x hx v h1 h2 => ⟨by have := lo_0 hx; omega, by have := hi_top hx; omega⟩
  refine Prod.ext (wIds_congr fun x hx => ?_) (wIds_congr fun x hx => ?_)
  · rw [Bool.eq_iff_iff, (tiles_all h (hn x hx)).1, decide_eq_true_eq, if_pos rfl]
    obtain ⟨s1, s2, s3, s4⟩ := heldC_spec hi (hn x hx)
    constructor
    · intro g
      have : ¬ 0 < heldC l ids x.1 := fun hc => by
        obtain ⟨v, h1, h2, h3⟩ := s4.1 hc
        exact (g v h1 h2).2 h3
      omega
    · intro g v h1 h2
      refine ⟨e _ (hn x hx) v h1 h2, fun hv => ?_⟩
      have := s4.2 ⟨v, h1, h2, hv⟩
      omega
  · rw [Bool.eq_iff_iff, (tiles_all h (hn x hx)).2, decide_eq_true_eq, if_pos rfl]
    obtain ⟨s1, s2, s3, s4⟩ := heldC_spec hi (hn x hx)
    constructor
    · rintro ⟨v, h1, h2, _, h3⟩
      have : heldC l ids x.1 ≠ hiN l x.1 - loN l x.1 + 1 := fun hc => h3 (s3.1 hc v h1 h2)
      omega
    · intro g
      apply Classical.byContradiction
      intro hc
      have := s3.2 fun v h1 h2 => Classical.byContradiction fun hv => hc ⟨v, h1, h2, e _ (hn x hx) v h1 h2, hv⟩
      omega
/-- What is on at least, and off at most, are all. -/
theorem on_off {l : Nat} {C : Int → Prop} {T U : List Int} {r : List Nd} (h : Tiles l C T) (k : Tiles l (fun v => (0 ≤ v ∧ v ≤ 2 ^ l - 1) ∧ ¬ C v) U) (hn : ∀ x ∈ r, isNode l x.1 = true) : (onT T r).1 + (onT U r).2 = sumR r ∧ (onT T r).2 + (onT U r).1 = sumR r := by
  have e : ∀ x, isNode l x = true → ∀ v, loN l x ≤ v → v ≤ hiN l x → 0 ≤ v ∧ v ≤ 2 ^ l - 1 := fun x hx v h1 h2 => ⟨by have := lo_0 hx; omega, by have := hi_top hx; omega⟩
  have a1 : ∀ x, isNode l x = true → someT U x = !allT T x := by
    intro x hx
    rw [Bool.eq_iff_iff, (tiles_all k hx).2, Bool.not_eq_true', ← Bool.not_eq_true, (tiles_all h hx).1]
    constructor
    · rintro ⟨v, h1, h2, _, h3⟩ g
      exact h3 (g v h1 h2)
    · intro g
      apply Classical.byContradiction
      intro hc
      exact g fun v h1 h2 => Classical.byContradiction fun hv => hc ⟨v, h1, h2, e x hx v h1 h2, hv⟩
  have a2 : ∀ x, isNode l x = true → allT U x = !someT T x := by
    intro x hx
    rw [Bool.eq_iff_iff, (tiles_all k hx).1, Bool.not_eq_true', ← Bool.not_eq_true, (tiles_all h hx).2]
    constructor
    · rintro g ⟨v, h1, h2, h3⟩
      exact (g v h1 h2).2 h3
    · intro g v h1 h2
      exact ⟨e x hx v h1 h2, fun hv => g ⟨v, h1, h2, hv⟩⟩
  unfold onT
  simp only
  clear h k
  induction r with
  | nil => simp [wIds, sumR]
  | cons x r ih =>
    have := ih fun y hy => hn y (by simp [hy])
    have b1 := a1 _ (hn x (by simp))
    have b2 := a2 _ (hn x (by simp))
    simp only [wIds, sumR, b1, b2]
    cases allT T x.1 <;> cases someT T x.1 <;> simp <;> omega
/-- On the tiles of a run it is what is between its ends. -/
theorem on_run {l : Nat} {a b : Int} (hab : a ≤ b) {T : List Int} {r : List Nd} (h : Tiles l (fun v => a ≤ v ∧ v ≤ b) T) (hn : ∀ x ∈ r, isNode l x.1 = true) : onT T r = (betwLow l r a b, betwHigh l r a b) := by
  unfold onT betwLow betwHigh
  rw [weighR_ids, weighR_ids]
  refine Prod.ext (wIds_congr fun x hx => ?_) (wIds_congr fun x hx => ?_)
  · have hw := lo_hi (hn x hx)
    rw [Bool.eq_iff_iff, (tiles_all h (hn x hx)).1]
    simp only [inLow, Bool.and_eq_true, decide_eq_true_eq]
    constructor
    · intro g
      exact ⟨(g _ (Int.le_refl _) hw).1, (g _ hw (Int.le_refl _)).2⟩
    · rintro ⟨g1, g2⟩ v h1 h2
      unfold loN at h1; unfold hiN at h2
      omega
  · have hw := lo_hi (hn x hx)
    rw [Bool.eq_iff_iff, (tiles_all h (hn x hx)).2]
    simp only [inHigh, Bool.and_eq_true, decide_eq_true_eq]
    constructor
    · rintro ⟨v, h1, h2, h3, h4⟩
      unfold loN at h1; unfold hiN at h2
      omega
    · rintro ⟨g1, g2⟩
      unfold loN hiN at *
      by_cases hc : a ≤ (endsOf l x.1).1
      · exact ⟨_, Int.le_refl _, hw, hc, g1⟩
      · exact ⟨a, by omega, by omega, Int.le_refl _, by omega⟩
theorem Tiles.congr {l : Nat} {C D : Int → Prop} {T : List Int} (h : Tiles l C T) (e : ∀ v, C v ↔ D v) : Tiles l D T := ⟨h.node, fun v => (h.cov v).trans (e v), fun x hx hv => h.top x hx fun v h1 h2 => (e v).2 (hv v h1 h2)⟩
theorem Tiles.perm {l : Nat} {C : Int → Prop} {T U : List Int} (h : Tiles l C T) (e : ∀ t, t ∈ T ↔ t ∈ U) : Tiles l C U := by
  refine ⟨fun t ht => h.node t ((e t).2 ht), fun v => ?_, fun x hx hv => ?_⟩
  · rw [← h.cov]
    exact ⟨fun ⟨t, ht, g⟩ => ⟨t, (e t).2 ht, g⟩, fun ⟨t, ht, g⟩ => ⟨t, (e t).1 ht, g⟩⟩
  · obtain ⟨t, ht, g⟩ := h.top x hx hv
    exact ⟨t, (e t).1 ht, g⟩
end Go.Proofs.YtmadmlkmdnjmaaaGreat
/- What is told of what came: how far it may be off. No program in sight. -/
namespace Go.Proofs.YtmadmlkmdnjmaaaGreat
open Go.ChangeShapes Go.WideShapes Go.ChangeAt Go.RowKit
set_option linter.unusedVariables false

theorem light_inner {l : Nat} {r : List Nd} (hr : Roll r) {k : Int} (hl : lightOf l r k = true) (h0 : 0 ≤ sumR r / k) {id : Int} (h1 : 1 ≤ l ∧ l ≤ 48) (h2 : 1 ≤ id) (h3 : id < 2 ^ l) : getR r id ≤ sumR r / k := by
  by_cases hg : getR r id = 0
  · omega
  · have hm := getR_pos hr hg
    have hn : isNode l id = true := by
      have := pow_pos' l
      simp only [isNode, decide_eq_true_eq, Int.toNat_natCast]; omega
    have hk : (kidsOf l id).2.2 = true := by
      unfold kidsOf
      rw [if_pos ⟨hn, by simpa using h3⟩]
    apply Classical.byContradiction
    intro hc
    have : r.any (heavy l (sumR r / k)) = true := List.any_eq_true.2 ⟨_, hm, by simp only [heavy, hk, Bool.true_and, decide_eq_true_eq]; omega⟩
    simp only [lightOf, this] at hl
    cases hl
theorem path_node {l : Nat} {y a : Int} (h0 : 0 ≤ y) (h1 : y < 2 ^ l) (ha : a ∈ pathOf l y) : 1 ≤ a ∧ a < 2 ^ l := by
  obtain ⟨d, hd, rfl⟩ := List.mem_map.1 ha
  have hd := List.mem_range.1 hd
  have hpb := pow_pos' (l - d)
  have hpd := pow_pos' d
  have e2 : (2 : Int) ^ l = 2 ^ d * 2 ^ (l - d) := by rw [← Int.pow_add]; congr 1; omega
  constructor
  · rw [Int.le_ediv_iff_mul_le hpb, Int.one_mul]
    have := pow_le' (show l - d ≤ l by omega)
    omega
  · rw [Int.ediv_lt_iff_lt_mul hpb]
    have h2 : (2 : Int) ≤ 2 ^ (l - d) := by have := pow_le' (show 1 ≤ l - d by omega); simpa using this
    have h3 := Int.mul_le_mul_of_nonneg_left h2 (Int.le_of_lt (pow_pos' l))
    omega
/-- Those nodes that hold a value, and not it alone. -/
def around (y : Int) (lo hi : Int) : Bool := decide (lo ≤ y) && decide (y < hi)
theorem around_le {l : Nat} {r : List Nd} (hr : Roll r) (hn : ∀ x ∈ r, isNode l x.1 = true) {k : Int} (hl : lightOf l r k = true) (h0 : 0 ≤ sumR r / k) (h1 : 1 ≤ l ∧ l ≤ 48) (y : Int) : weighR l (around y) r ≤ l * (sumR r / k) := by
  have hm : 0 ≤ (l : Int) * (sumR r / k) := Int.mul_nonneg (by omega) h0
  by_cases hy : 0 ≤ y ∧ y < 2 ^ l
  · rw [weighR_ids]
    have := wIds_path hr (fun id => around y (endsOf l id).1 (endsOf l id).2.1) (sumR r / k) (pathOf l y) (fun x hx hp => by
      simp only [around, Bool.and_eq_true, decide_eq_true_eq] at hp
      exact on_path (hn x hx) hp.1 hp.2) (fun a ha => by
      have := path_node hy.1 hy.2 ha
      exact light_inner hr hl h0 h1 this.1 this.2) h0
    rwa [pathOf_len] at this
  · rw [weighR_none]
    · exact hm
    · intro x hx
      have := ends_bounds (hn x hx)
      simp only [around, Bool.and_eq_false_iff, decide_eq_false_iff_not]
      omega
theorem high_low {l : Nat} {r : List Nd} (hn : ∀ x ∈ r, isNode l x.1 = true) (y : Int) : highOf l r y - lowOf l r y = weighR l (around y) r := by
  unfold highOf lowOf
  induction r with
  | nil => rfl
  | cons x r ih =>
    have h1 := ih fun z hz => hn z (by simp [hz])
    have h2 := ends_bounds (hn x (by simp))
    simp only [weighR]
    by_cases a1 : (endsOf l x.1).1 ≤ y
    · by_cases a2 : (endsOf l x.1).2.1 ≤ y
      · have : around y (endsOf l x.1).1 (endsOf l x.1).2.1 = false := by simp only [around, Bool.and_eq_false_iff, decide_eq_false_iff_not]; omega
        simp only [this, a1, a2, decide_true, if_true, Bool.false_eq_true, if_false]; omega
      · have : around y (endsOf l x.1).1 (endsOf l x.1).2.1 = true := by simp only [around, Bool.and_eq_true, decide_eq_true_eq]; omega
        simp only [this, a1, a2, decide_true, decide_false, if_true, Bool.false_eq_true, if_false]; omega
    · have a2 : ¬ (endsOf l x.1).2.1 ≤ y := by omega
      have : around y (endsOf l x.1).1 (endsOf l x.1).2.1 = false := by simp only [around, Bool.and_eq_false_iff, decide_eq_false_iff_not]; omega
      simp only [this, a1, a2, decide_false, Bool.false_eq_true, if_false]; omega
/-- The rank of a number among all that was accepted. -/
def rankQ (l : Int) (q : List Nd) (y : Int) : Int := lowOf l q y
theorem rank_holds {l : Nat} {r q : List Nd} (h : Flow l r q) (hr : Roll r) (hq : Roll q) (y : Int) : lowOf l r y ≤ rankQ l q y ∧ rankQ l q y ≤ highOf l r y := by
  refine ⟨h.le hr hq (f := fun _ hi => decide (hi ≤ y)) (g := fun _ hi => decide (hi ≤ y)) ?_, h.ge hr hq (g := fun _ hi => decide (hi ≤ y)) (f := fun lo _ => decide (lo ≤ y)) ?_⟩
  · intro lo hi a b h1 h2 h3; simp only [decide_eq_true_eq] at *; omega
  · intro lo hi a b h1 h2 h3 h4; simp only [decide_eq_true_eq] at *; omega
end Go.Proofs.YtmadmlkmdnjmaaaGreat
/- Digests held against bags: plain laws. -/
namespace Go.Proofs.YtmadmlkmdnjmaaaGreat
open Go.ChangeShapes Go.WideShapes Go.ChangeAt Go.RowKit
set_option linter.unusedVariables false

/-- What a node has, with all below it. -/
def ownN (r : List Nd) (id : Int) : Int := wIds (fun x => abv id x) r
/-- What a bag has between two values. -/
def bagB (l : Nat) (q : List Nd) (lo hi : Int) : Int := weighR l (inLow lo hi) q
def moreN (l : Nat) (r q : List Nd) (id : Int) : Int := ownN r id - bagB l q (loN l id) (hiN l id)
/-- How much more a node has than it holds; 0: no more. -/
def culF (l : Nat) (r q : List Nd) (id : Int) : Int := max (moreN l r q id) 0
theorem wIds_le {p g : Int → Bool} {r : List Nd} (h0 : ∀ x ∈ r, 0 ≤ x.2) (h : ∀ x ∈ r, p x.1 = true → g x.1 = true) : wIds p r ≤ wIds g r := by
  induction r with
  | nil => simp [wIds]
  | cons x r ih =>
    have h1 := h0 x (by simp)
    have h2 := h x (by simp)
    have h3 := ih (fun y hy => h0 y (by simp [hy])) fun y hy => h y (by simp [hy])
    simp only [wIds]
    by_cases hp : p x.1 = true
    · rw [if_pos hp, if_pos (h2 hp)]; omega
    · rw [if_neg hp]; split <;> omega
theorem wIds_0 {p : Int → Bool} {r : List Nd} (h0 : ∀ x ∈ r, 0 ≤ x.2) : 0 ≤ wIds p r := by
  induction r with
  | nil => simp [wIds]
  | cons x r ih =>
    have h1 := h0 x (by simp)
    have h3 := ih (fun y hy => h0 y (by simp [hy]))
    simp only [wIds]
    split <;> omega
theorem wIds_none {p : Int → Bool} {r : List Nd} (h : ∀ x ∈ r, p x.1 = false) : wIds p r = 0 := by
  induction r with
  | nil => rfl
  | cons x r ih => simp only [wIds, h x (by simp), ih fun y hy => h y (by simp [hy])]; simp
theorem wIds_or {p g k : Int → Bool} {r : List Nd} (h0 : ∀ x ∈ r, 0 ≤ x.2) (h : ∀ x ∈ r, p x.1 = true → g x.1 = true ∨ k x.1 = true) : wIds p r ≤ wIds g r + wIds k r := by
  induction r with
  | nil => simp [wIds]
  | cons x r ih =>
    have h1 := h0 x (by simp)
    have h2 := h x (by simp)
    have h3 := ih (fun y hy => h0 y (by simp [hy])) fun y hy => h y (by simp [hy])
    simp only [wIds]
    by_cases hp : p x.1 = true
    · rw [if_pos hp]
      rcases h2 hp with h4 | h4
      · rw [if_pos h4]; split <;> omega
      · rw [if_pos h4]; split <;> omega
    · rw [if_neg hp]; split <;> split <;> omega
theorem wIds_and {p g k : Int → Bool} {r : List Nd} (h0 : ∀ x ∈ r, 0 ≤ x.2) (hg : ∀ x ∈ r, g x.1 = true → p x.1 = true) (hk : ∀ x ∈ r, k x.1 = true → p x.1 = true) (hn : ∀ x ∈ r, g x.1 = true → k x.1 = false) : wIds g r + wIds k r ≤ wIds p r := by
  induction r with
  | nil => simp [wIds]
  | cons x r ih =>
    have h1 := h0 x (by simp)
    have h2 := hg x (by simp)
    have h3 := hk x (by simp)
    have h4 := hn x (by simp)
    have h5 := ih (fun y hy => h0 y (by simp [hy])) (fun y hy => hg y (by simp [hy])) (fun y hy => hk y (by simp [hy])) fun y hy => hn y (by simp [hy])
    simp only [wIds]
    by_cases c1 : g x.1 = true
    · rw [if_pos c1, if_neg (by rw [h4 c1]; simp), if_pos (h2 c1)]; omega
    · rw [if_neg c1]
      by_cases c2 : k x.1 = true
      · rw [if_pos c2, if_pos (h3 c2)]; omega
      · rw [if_neg c2]; split <;> omega
theorem abv_same {p q : Int} (h : abv p q = true) (e : p.toNat.log2 = q.toNat.log2) : p = q := by
  simp only [abv, decide_eq_true_eq] at h
  have e0 : q.toNat.log2 - p.toNat.log2 = 0 := by omega
  have h3 := h.2.2.2
  rw [e0, Nat.pow_zero, Nat.div_one] at h3
  omega
/-- What is below a node, and not itself, is below one of its children. -/
theorem abv_kids {l : Nat} {x z : Int} (hx : isNode l x = true) (hz : isNode l z = true) (h : abv x z = true) (hne : z ≠ x) : abv (2 * x) z = true ∨ abv (2 * x + 1) z = true := by
  have hlog := abv_log h
  have hlt : x.toNat.log2 < z.toNat.log2 := by
    rcases Nat.lt_or_ge x.toNat.log2 z.toNat.log2 with h1 | h1
    · exact h1
    · exact absurd (abv_same h (by omega)).symm hne
  obtain ⟨k1, k2, k3, k4, k5, k6, k7⟩ := node_kids hx (by have := log2_le hz; omega)
  have r := (abv_iff hx hz).1 h
  have wz := lo_hi hz
  have w1 := lo_hi k1
  have w2 := lo_hi k2
  by_cases hc : loN l z ≤ hiN l (2 * x)
  · left
    rcases lam k1 hz (by omega) hc with g | g
    · exact g
    · have := abv_log g
      rw [abv_same g (by omega)]
      exact abv_refl k1
  · right
    rcases lam k2 hz (by omega) (by omega) with g | g
    · exact g
    · have := abv_log g
      rw [abv_same g (by omega)]
      exact abv_refl k2
/-- What nodes have that lie in a run, below a node: no more than a bag has there. -/
def inRun (l : Nat) (a b x z : Int) : Bool := abv x z && (decide (a ≤ loN l z) && decide (hiN l z ≤ b))
def inRunV (l : Nat) (a b x z : Int) : Bool := (decide (a ≤ loN l z) && decide (loN l x ≤ loN l z)) && (decide (hiN l z ≤ b) && decide (hiN l z ≤ hiN l x))
theorem inRun_iff {l : Nat} {a b x z : Int} : inRun l a b x z = true ↔ abv x z = true ∧ a ≤ loN l z ∧ hiN l z ≤ b := by simp [inRun]
theorem inRunV_iff {l : Nat} {a b x z : Int} : inRunV l a b x z = true ↔ (a ≤ loN l z ∧ loN l x ≤ loN l z) ∧ hiN l z ≤ b ∧ hiN l z ≤ hiN l x := by simp [inRunV]
theorem bagB_ids (l : Nat) (q : List Nd) (lo hi : Int) : bagB l q lo hi = wIds (fun z => decide (lo ≤ loN l z) && decide (hiN l z ≤ hi)) q := by
  unfold bagB; rw [weighR_ids]; rfl
theorem own_le {l : Nat} {r q : List Nd} (hr : ∀ x ∈ r, isNode l x.1 = true ∧ 0 ≤ x.2) (hq : ∀ x ∈ q, isNode l x.1 = true ∧ 0 ≤ x.2) (H : ∀ id, isNode l id = true → ownN r id ≤ bagB l q (loN l id) (hiN l id)) (a b : Int) :
    ∀ (h : Nat) (x : Int), isNode l x = true → x.toNat.log2 + h = l → wIds (inRun l a b x) r ≤ wIds (inRunV l a b x) q := by
  have hr0 : ∀ x ∈ r, 0 ≤ x.2 := fun x hx => (hr x hx).2
  have hq0 : ∀ x ∈ q, 0 ≤ x.2 := fun x hx => (hq x hx).2
  have out : ∀ x, isNode l x = true → (hiN l x < a ∨ b < loN l x) → wIds (inRun l a b x) r ≤ wIds (inRunV l a b x) q := by
    intro x hx hc
    rw [wIds_none]
    · exact wIds_0 hq0
    · intro z hz
      rw [← Bool.not_eq_true, inRun_iff]
      rintro ⟨h1, h2, h3⟩
      have := (abv_iff hx (hr z hz).1).1 h1
      have := lo_hi (hr z hz).1
      omega
  have ins : ∀ x, isNode l x = true → (a ≤ loN l x ∧ hiN l x ≤ b) → wIds (inRun l a b x) r ≤ wIds (inRunV l a b x) q := by
    intro x hx hc
    refine Int.le_trans (wIds_le (g := fun z => abv x z) hr0 fun z hz h => (inRun_iff.1 h).1) (Int.le_trans (H x hx) ?_)
    rw [bagB_ids]
    refine wIds_le hq0 fun z hz h => ?_
    simp only [Bool.and_eq_true, decide_eq_true_eq] at h
    rw [inRunV_iff]; omega
  intro h
  induction h with
  | zero =>
    intro x hx hb
    have := leaf_one hx (by omega)
    by_cases hc : hiN l x < a ∨ b < loN l x
    · exact out x hx hc
    · exact ins x hx (by omega)
  | succ h ih =>
    intro x hx hb
    by_cases hc : hiN l x < a ∨ b < loN l x
    · exact out x hx hc
    · by_cases hd : a ≤ loN l x ∧ hiN l x ≤ b
      · exact ins x hx hd
      · obtain ⟨k1, k2, k3, k4, k5, k6, k7⟩ := node_kids hx (by omega)
        have w1 := lo_hi k1
        have w2 := lo_hi k2
        have i1 := ih (2 * x) k1 (by omega)
        have i2 := ih (2 * x + 1) k2 (by omega)
        have a1 : wIds (inRun l a b x) r ≤ wIds (inRun l a b (2 * x)) r + wIds (inRun l a b (2 * x + 1)) r := wIds_or hr0 fun z hz h => by
          rw [inRun_iff] at h
          have hzn := (hr z hz).1
          rcases abv_kids hx hzn h.1 (by rintro e; rw [e] at h; exact hd h.2) with g | g
          · left; rw [inRun_iff]; exact ⟨g, h.2⟩
          · right; rw [inRun_iff]; exact ⟨g, h.2⟩
        have a2 : wIds (inRunV l a b (2 * x)) q + wIds (inRunV l a b (2 * x + 1)) q ≤ wIds (inRunV l a b x) q := wIds_and hq0 (fun z hz h => by rw [inRunV_iff] at h ⊢; omega) (fun z hz h => by rw [inRunV_iff] at h ⊢; omega) (fun z hz h => by
          rw [inRunV_iff] at h
          rw [← Bool.not_eq_true, inRunV_iff]
          have := lo_hi (hq z hz).1
          omega)
        omega
/-- A digest that stands for a bag: no node has more than it holds, and both weigh the same. -/
theorem stands_bounds {l : Nat} (hl : 1 ≤ l ∧ l ≤ 48) {r q : List Nd} (hr : ∀ x ∈ r, isNode l x.1 = true ∧ 0 ≤ x.2) (hq : ∀ x ∈ q, isNode l x.1 = true ∧ 0 ≤ x.2) (H : ∀ id, isNode l id = true → ownN r id ≤ bagB l q (loN l id) (hiN l id)) (hs : sumR r = sumR q) (y : Int) : lowOf l r y ≤ rankQ l q y ∧ rankQ l q y ≤ highOf l r y := by
  obtain ⟨n1, n2, n3⟩ := isNode_root hl
  have hlog : (1 : Int).toNat.log2 + l = l := by
    have : (1 : Int).toNat.log2 = 0 := by decide
    omega
  have hr0 : ∀ x ∈ r, 0 ≤ x.2 := fun x hx => (hr x hx).2
  have hq0 : ∀ x ∈ q, 0 ≤ x.2 := fun x hx => (hq x hx).2
  have root : ∀ z, isNode l z = true → abv 1 z = true := fun z hz => (abv_iff n1 hz).2 ⟨by have := lo_0 hz; omega, by have := hi_top hz; omega⟩
  have e1 : lowOf l r y = wIds (fun z => decide (hiN l z ≤ y)) r := by unfold lowOf; rw [weighR_ids]; rfl
  have e2 : highOf l r y = wIds (fun z => decide (loN l z ≤ y)) r := by unfold highOf; rw [weighR_ids]; rfl
  have e3 : rankQ l q y = wIds (fun z => decide (hiN l z ≤ y)) q := by unfold rankQ lowOf; rw [weighR_ids]; rfl
  constructor
  · have a1 := own_le hr hq H 0 y l 1 n1 hlog
    have a2 : wIds (fun z => decide (hiN l z ≤ y)) r ≤ wIds (inRun l 0 y 1) r := wIds_le hr0 fun z hz h => by
      simp only [decide_eq_true_eq] at h
      rw [inRun_iff]
      exact ⟨root _ (hr z hz).1, lo_0 (hr z hz).1, h⟩
    have a3 : wIds (inRunV l 0 y 1) q ≤ wIds (fun z => decide (hiN l z ≤ y)) q := wIds_le hq0 fun z hz h => by
      rw [inRunV_iff] at h
      simp only [decide_eq_true_eq]; omega
    omega
  · have a1 := own_le hr hq H (y + 1) (2 ^ l) l 1 n1 hlog
    have a2 : sumR r ≤ wIds (inRun l (y + 1) (2 ^ l) 1) r + wIds (fun z => decide (loN l z ≤ y)) r := by
      rw [sumR_ids]
      refine wIds_or hr0 fun z hz _ => ?_
      by_cases hc : loN l z.1 ≤ y
      · right; simpa using hc
      · left
        rw [inRun_iff]
        exact ⟨root _ (hr z hz).1, by omega, by have := hi_top (hr z hz).1; omega⟩
    have a3 : wIds (inRunV l (y + 1) (2 ^ l) 1) q + wIds (fun z => decide (hiN l z ≤ y)) q ≤ sumR q := by
      rw [sumR_ids]
      refine wIds_and hq0 (fun _ _ _ => rfl) (fun _ _ _ => rfl) fun z hz h => ?_
      rw [inRunV_iff] at h
      have := lo_hi (hq z hz).1
      simp only [decide_eq_false_iff_not]; omega
    omega
/-- All nodes above one. -/
def ancF : Nat → Int → List Int
  | 0, _ => []
  | n + 1, x => if x < 1 then [] else x :: ancF n (x / 2)
theorem toNat_half (x : Int) : (x / 2).toNat = x.toNat / 2 := by omega
theorem anc_log {x : Int} (h : 2 ≤ x) : x.toNat.log2 = (x / 2).toNat.log2 + 1 := by
  rw [Nat.log2_def, if_pos (by omega), toNat_half]
theorem abv_half {x z : Int} (hx : 1 ≤ x) : abv z x = true ↔ z = x ∨ (2 ≤ x ∧ abv z (x / 2) = true) := by
  constructor
  · intro h
    by_cases e : z.toNat.log2 = x.toNat.log2
    · exact .inl (abv_same h e)
    · right
      have h0 := h
      simp only [abv, decide_eq_true_eq] at h
      obtain ⟨h1, h2, h3, h4⟩ := h
      have hx2 : 2 ≤ x := by
        rcases Int.lt_or_le x 2 with g | g
        · exfalso
          have : x.toNat = 1 := by omega
          rw [this] at h3 e
          have : Nat.log2 1 = 0 := by decide
          omega
        · exact g
      have hl := anc_log hx2
      refine ⟨hx2, ?_⟩
      simp only [abv, decide_eq_true_eq]
      refine ⟨h1, by omega, by omega, ?_⟩
      have e2 : x.toNat.log2 - z.toNat.log2 = ((x / 2).toNat.log2 - z.toNat.log2) + 1 := by omega
      rw [e2, Nat.pow_succ, Nat.mul_comm, ← Nat.div_div_eq_div_mul, ← toNat_half] at h4
      exact h4
  · rintro (rfl | ⟨hx2, h⟩)
    · simp [abv, hx]
    · have hl := anc_log hx2
      simp only [abv, decide_eq_true_eq] at h ⊢
      obtain ⟨h1, h2, h3, h4⟩ := h
      refine ⟨h1, hx, by omega, ?_⟩
      have e2 : x.toNat.log2 - z.toNat.log2 = ((x / 2).toNat.log2 - z.toNat.log2) + 1 := by omega
      rw [e2, Nat.pow_succ, Nat.mul_comm, ← Nat.div_div_eq_div_mul, ← toNat_half]
      exact h4
theorem ancF_mem : ∀ (n : Nat) (x z : Int), x < 2 ^ n → (z ∈ ancF n x ↔ 1 ≤ x ∧ abv z x = true) := by
  intro n
  induction n with
  | zero =>
    intro x z h
    simp only [Int.pow_zero] at h
    simp only [ancF, List.not_mem_nil, false_iff]
    omega
  | succ n ih =>
    intro x z h
    unfold ancF
    by_cases hx : x < 1
    · rw [if_pos hx]
      simp only [List.not_mem_nil, false_iff]; omega
    · rw [if_neg hx, List.mem_cons, ih (x / 2) z (by rw [Int.pow_succ] at h; omega), abv_half (x := x) (z := z) (by omega)]
      constructor
      · rintro (h1 | ⟨h1, h2⟩)
        · exact ⟨by omega, Or.inl h1⟩
        · exact ⟨by omega, Or.inr ⟨by omega, h2⟩⟩
      · rintro ⟨h1, h2⟩
        rcases h2 with h2 | ⟨h2, h3⟩
        · exact Or.inl h2
        · exact Or.inr ⟨by omega, h3⟩
def ancL (x : Int) : List Int := ancF 49 x
/-- All nodes above those of a digest. -/
def allAnc (r : List Nd) : List Int := r.flatMap fun x => ancL x.1
theorem allAnc_mem {r : List Nd} (hr : ∀ x ∈ r, 1 ≤ x.1 ∧ x.1 < 562949953421312) (z : Int) : z ∈ allAnc r ↔ ∃ x ∈ r, abv z x.1 = true := by
  unfold allAnc
  rw [List.mem_flatMap]
  constructor
  · rintro ⟨x, hx, h⟩
    exact ⟨x, hx, ((ancF_mem 49 x.1 z (by have := (hr x hx).2; simpa using this)).1 h).2⟩
  · rintro ⟨x, hx, h⟩
    exact ⟨x, hx, (ancF_mem 49 x.1 z (by have := (hr x hx).2; simpa using this)).2 ⟨(hr x hx).1, h⟩⟩
/-- No culprit: no node has more than it holds. -/
theorem no_culprit {l : Nat} {r q : List Nd} (hr : ∀ x ∈ r, 1 ≤ x.1 ∧ x.1 < 562949953421312) (hq : ∀ x ∈ q, 0 ≤ x.2) {L : List Int} (hL : ∀ z, z ∈ L ↔ z ∈ allAnc r) (h : ∀ z ∈ L, culF l r q z = 0) (id : Int) : ownN r id ≤ bagB l q (loN l id) (hiN l id) := by
  by_cases hc : ∃ x ∈ r, abv id x.1 = true
  · have := h id ((hL id).2 ((allAnc_mem hr id).2 hc))
    unfold culF moreN at this
    omega
  · have : ownN r id = 0 := wIds_none fun x hx => by
      rw [← Bool.not_eq_true]
      exact fun h => hc ⟨x, hx, h⟩
    rw [this, bagB_ids]
    exact wIds_0 hq
/-- Where ranks are farthest off, and how far. -/
def offIs (f : Int → Int) (L : List Int) (r : Int × Int) : Prop := r.1 ∈ L ∧ r.2 = f r.1 ∧ ∀ x ∈ L, f x ≤ r.2 ∧ (f x = r.2 → r.1 ≤ x)
theorem offIs_unique {f : Int → Int} {L M : List Int} (hm : ∀ x, x ∈ L ↔ x ∈ M) {r s : Int × Int} (h : offIs f L r) (k : offIs f M s) : r = s := by
  obtain ⟨h1, h2, h3⟩ := h
  obtain ⟨k1, k2, k3⟩ := k
  have a := h3 s.1 ((hm _).2 k1)
  have b := k3 r.1 ((hm _).1 h1)
  have e2 : r.2 = s.2 := by omega
  have e1 : r.1 = s.1 := by
    have := a.2 (by omega)
    have := b.2 (by omega)
    omega
  exact Prod.ext e1 e2
def offStep (f : Int → Int) (a : Int × Int) (x : Int) : Int × Int := if a.2 < f x then (x, f x) else a
def offFold (f : Int → Int) (L : List Int) : Int × Int := L.foldl (offStep f) (0, 0)
theorem offFold_snoc (f : Int → Int) (L : List Int) (x : Int) : offFold f (L ++ [x]) = offStep f (offFold f L) x := by
  unfold offFold; rw [List.foldl_append]; rfl
theorem offFold_is {f : Int → Int} (h0 : ∀ x, 0 ≤ f x) {L : List Int} (hs : L.Pairwise (· ≤ ·)) (hz : (0 : Int) ∈ L) (hn : ∀ x ∈ L, 0 ≤ x) : offIs f L (offFold f L) := by
  obtain ⟨y, t, rfl⟩ : ∃ y t, L = y :: t := by
    cases L with
    | nil => simp at hz
    | cons y t => exact ⟨y, t, rfl⟩
  obtain rfl : y = 0 := by
    have h1 := hn y (by simp)
    rcases List.mem_cons.1 hz with h2 | h2
    · exact h2.symm
    · have := (List.pairwise_cons.1 hs).1 0 h2; omega
  clear hz hn
  suffices h : ∀ k, k ≤ t.length → offIs f (0 :: t.take k) (offFold f (0 :: t.take k)) by
    have := h t.length (Nat.le_refl _)
    rwa [List.take_length] at this
  intro k
  induction k with
  | zero =>
    intro _
    have := h0 0
    simp only [List.take_zero]
    unfold offFold offIs
    simp only [List.foldl_cons, List.foldl_nil, offStep]
    by_cases hc : 0 < f 0
    · rw [if_pos hc]
      refine ⟨by simp, rfl, fun x hx => ?_⟩
      rw [List.mem_singleton.1 hx]; simp
    · rw [if_neg hc]
      refine ⟨by simp, by simp only; omega, fun x hx => ?_⟩
      rw [List.mem_singleton.1 hx]; simp only; omega
  | succ k ih =>
    intro hk
    have hlt : k < t.length := by omega
    obtain ⟨i1, i2, i3⟩ := ih (by omega)
    rw [List.take_succ_eq_append_getElem hlt, ← List.cons_append, offFold_snoc]
    have hx : ∀ y ∈ 0 :: t.take k, y ≤ t[k] := by
      intro y hy
      rcases List.mem_cons.1 hy with rfl | hy
      · exact (List.pairwise_cons.1 hs).1 _ (List.getElem_mem hlt)
      · obtain ⟨i, hi, rfl⟩ := List.getElem_of_mem hy
        simp only [List.length_take] at hi
        rw [List.getElem_take]
        exact List.pairwise_iff_getElem.1 (List.pairwise_cons.1 hs).2 i k (by omega) hlt (by omega)
    generalize offFold f (0 :: t.take k) = a at i1 i2 i3
    generalize t[k] = x at hx
    unfold offStep
    by_cases hc : a.2 < f x
    · rw [if_pos hc]
      refine ⟨by simp, rfl, fun y hy => ?_⟩
      rcases List.mem_append.1 hy with hy | hy
      · have := i3 y hy; simp only; omega
      · rw [List.mem_singleton.1 hy]; simp
    · rw [if_neg hc]
      refine ⟨List.mem_append_left _ i1, i2, fun y hy => ?_⟩
      rcases List.mem_append.1 hy with hy | hy
      · exact i3 y hy
      · rw [List.mem_singleton.1 hy]
        have := hx a.1 i1
        omega
def offStepR (f : Int → Int) (a : Int × Int) (x : Int) : Int × Int := if a.2 < f x ∨ (f x = a.2 ∧ x < a.1) then (x, f x) else a
def offFoldR (f : Int → Int) (L : List Int) : Int × Int := L.foldl (offStepR f) (0, f 0)
theorem offFoldR_snoc (f : Int → Int) (L : List Int) (x : Int) : offFoldR f (L ++ [x]) = offStepR f (offFoldR f L) x := by
  unfold offFoldR; rw [List.foldl_append]; rfl
theorem offFoldR_is (f : Int → Int) (t : List Int) : offIs f (0 :: t) (offFoldR f t) := by
  suffices h : ∀ k, k ≤ t.length → offIs f (0 :: t.take k) (offFoldR f (t.take k)) by
    have := h t.length (Nat.le_refl _)
    rwa [List.take_length] at this
  intro k
  induction k with
  | zero =>
    intro _
    refine ⟨by simp [offFoldR], rfl, fun x hx => ?_⟩
    simp only [List.take_zero] at hx
    rw [List.mem_singleton.1 hx]; simp [offFoldR]
  | succ k ih =>
    intro hk
    have hlt : k < t.length := by omega
    obtain ⟨i1, i2, i3⟩ := ih (by omega)
    rw [List.take_succ_eq_append_getElem hlt, offFoldR_snoc, ← List.cons_append]
    generalize offFoldR f (t.take k) = a at i1 i2 i3
    generalize t[k] = x
    unfold offStepR
    by_cases hc : a.2 < f x ∨ (f x = a.2 ∧ x < a.1)
    · rw [if_pos hc]
      refine ⟨by simp, rfl, fun y hy => ?_⟩
      rcases List.mem_append.1 hy with hy | hy
      · have := i3 y hy; simp only; omega
      · rw [List.mem_singleton.1 hy]; simp
    · rw [if_neg hc]
      refine ⟨by rw [List.cons_append]; exact (List.mem_append_left (bs := [x]) i1 : a.1 ∈ (0 :: t.take k) ++ [x]), i2, fun y hy => ?_⟩
      rcases List.mem_append.1 hy with hy | hy
      · exact i3 y hy
      · rw [List.mem_singleton.1 hy]; omega
end Go.Proofs.YtmadmlkmdnjmaaaGreat
/- Tiles: how many there are; one behind the other; the reference's way from left to right. Plain laws. -/
namespace Go.Proofs.YtmadmlkmdnjmaaaGreat
open Go.ChangeShapes Go.WideShapes Go.ChangeAt Go.RowKit
set_option linter.unusedVariables false

theorem layT_out {l : Nat} {a b : Int} {h : Nat} {x : Int} (hc : hiN l x < a ∨ b < loN l x) : layT l a b h x = [] := by
  cases h <;> simp only [layT, if_pos hc]
theorem layT_whole {l : Nat} {a b : Int} {h : Nat} {x : Int} (hx : isNode l x = true) (h1 : a ≤ loN l x) (h2 : hiN l x ≤ b) : layT l a b h x = [x] := by
  have hw := lo_hi hx
  cases h <;> simp only [layT] <;> rw [if_neg (by omega)]
  rw [if_pos ⟨h1, h2⟩]
theorem layT_left {l : Nat} (a b : Int) : ∀ (h : Nat) (x : Int), isNode l x = true → x.toNat.log2 + h = l → a ≤ loN l x → (layT l a b h x).length ≤ h + 1 := by
  intro h
  induction h with
  | zero => intro x _ _ _; simp only [layT]; split <;> simp
  | succ h ih =>
    intro x hx hb ha
    obtain ⟨k1, k2, k3, k4, k5, k6, k7⟩ := node_kids hx (by omega)
    have w1 := lo_hi k1
    simp only [layT]
    split
    · simp
    · split
      · simp
      · rw [List.length_append]
        by_cases hc : hiN l (2 * x) ≤ b
        · rw [layT_whole k1 (by omega) hc]
          have := ih (2 * x + 1) k2 (by omega) (by omega)
          simp only [List.length_cons, List.length_nil]; omega
        · rw [layT_out (x := 2 * x + 1) (.inr (by omega))]
          have := ih (2 * x) k1 (by omega) (by omega)
          simp only [List.length_nil]; omega
theorem layT_right {l : Nat} (a b : Int) : ∀ (h : Nat) (x : Int), isNode l x = true → x.toNat.log2 + h = l → hiN l x ≤ b → (layT l a b h x).length ≤ h + 1 := by
  intro h
  induction h with
  | zero => intro x _ _ _; simp only [layT]; split <;> simp
  | succ h ih =>
    intro x hx hb ha
    obtain ⟨k1, k2, k3, k4, k5, k6, k7⟩ := node_kids hx (by omega)
    have w2 := lo_hi k2
    simp only [layT]
    split
    · simp
    · split
      · simp
      · rw [List.length_append]
        by_cases hc : a ≤ loN l (2 * x + 1)
        · rw [layT_whole k2 hc (by omega)]
          have := ih (2 * x) k1 (by omega) (by omega)
          simp only [List.length_cons, List.length_nil]; omega
        · rw [layT_out (x := 2 * x) (.inl (by omega))]
          have := ih (2 * x + 1) k2 (by omega) (by omega)
          simp only [List.length_nil]; omega
theorem layT_len {l : Nat} (a b : Int) : ∀ (h : Nat) (x : Int), isNode l x = true → x.toNat.log2 + h = l → (layT l a b h x).length ≤ 2 * h + 1 := by
  intro h
  induction h with
  | zero => intro x _ _; simp only [layT]; split <;> simp
  | succ h ih =>
    intro x hx hb
    obtain ⟨k1, k2, k3, k4, k5, k6, k7⟩ := node_kids hx (by omega)
    simp only [layT]
    split
    · simp
    · split
      · simp
      · rw [List.length_append]
        by_cases h1 : b < loN l (2 * x + 1)
        · rw [layT_out (x := 2 * x + 1) (.inr h1)]
          have := ih (2 * x) k1 (by omega)
          simp only [List.length_nil]; omega
        · by_cases h2 : hiN l (2 * x) < a
          · rw [layT_out (x := 2 * x) (.inl h2)]
            have := ih (2 * x + 1) k2 (by omega)
            simp only [List.length_nil]; omega
          · have := layT_right a b h (2 * x) k1 (by omega) (by omega)
            have := layT_left a b h (2 * x + 1) k2 (by omega) (by omega)
            omega
theorem root_log : (1 : Int).toNat.log2 = 0 := by decide
theorem ofTiles_len {l : Nat} (hl : 1 ≤ l ∧ l ≤ 48) (a b : Int) : (ofTiles l a b).length ≤ 97 := by
  have := layT_len a b l 1 (isNode_root hl).1 (by rw [root_log]; omega)
  unfold ofTiles; omega
theorem chain_append {l : Nat} {b m : Int} {M : List Int} (hM : chainT l b (m + 1) M) (hm : m ≤ b) : ∀ (L : List Int) (a : Int), chainT l m a L → chainT l b a (L ++ M) := by
  intro L
  induction L with
  | nil => intro a h; simp only [chainT] at h; subst h; exact hM
  | cons t L ih =>
    intro a h
    obtain ⟨h1, h2, h3, h4⟩ := h
    exact ⟨h1, h2, by omega, ih _ h4⟩
theorem chain_one {l : Nat} {t a b : Int} (h1 : isNode l t = true) (h2 : loN l t = a) (h3 : hiN l t = b) : chainT l b a [t] := ⟨h1, h2, by omega, by simp only [chainT]; omega⟩
theorem layT_chain {l : Nat} (a b : Int) (hab : a ≤ b) : ∀ (h : Nat) (x : Int), isNode l x = true → x.toNat.log2 + h = l → a ≤ hiN l x → loN l x ≤ b → chainT l (min b (hiN l x)) (max a (loN l x)) (layT l a b h x) := by
  intro h
  induction h with
  | zero =>
    intro x hx hb h1 h2
    have he := leaf_one hx (by omega)
    simp only [layT]
    rw [if_neg (by omega)]
    exact chain_one hx (by omega) (by omega)
  | succ h ih =>
    intro x hx hb h1 h2
    obtain ⟨k1, k2, k3, k4, k5, k6, k7⟩ := node_kids hx (by omega)
    have w1 := lo_hi k1
    have w2 := lo_hi k2
    simp only [layT]
    rw [if_neg (by omega)]
    split
    · exact chain_one hx (by omega) (by omega)
    · by_cases c1 : b < loN l (2 * x + 1)
      · rw [layT_out (x := 2 * x + 1) (.inr c1), List.append_nil]
        have := ih (2 * x) k1 (by omega) (by omega) (by omega)
        rw [show min b (hiN l x) = min b (hiN l (2 * x)) by omega, ← k3]
        exact this
      · by_cases c2 : hiN l (2 * x) < a
        · rw [layT_out (x := 2 * x) (.inl c2), List.nil_append]
          have := ih (2 * x + 1) k2 (by omega) (by omega) (by omega)
          rw [show max a (loN l x) = max a (loN l (2 * x + 1)) by omega, ← k4]
          exact this
        · have i1 := ih (2 * x) k1 (by omega) (by omega) (by omega)
          have i2 := ih (2 * x + 1) k2 (by omega) (by omega) (by omega)
          rw [show min b (hiN l (2 * x)) = hiN l (2 * x) by omega, k3] at i1
          rw [show max a (loN l (2 * x + 1)) = hiN l (2 * x) + 1 by omega, k4] at i2
          exact chain_append i2 (by omega) _ _ i1
theorem ofTiles_chain {l : Nat} (hl : 1 ≤ l ∧ l ≤ 48) {a b : Int} (ha : 0 ≤ a) (hab : a ≤ b) (hb : b ≤ 2 ^ l - 1) : chainT l b a (ofTiles l a b) := by
  obtain ⟨h1, h2, h3⟩ := isNode_root hl
  have := layT_chain a b hab l 1 h1 (by rw [root_log]; omega) (by omega) (by omega)
  rw [h2, h3, show min b (2 ^ l - 1) = b by omega, show max a 0 = a by omega] at this
  exact this
theorem chain_mem {l : Nat} {b : Int} : ∀ (L : List Int) (a : Int), chainT l b a L → ∀ t ∈ L, isNode l t = true ∧ a ≤ loN l t ∧ hiN l t ≤ b := by
  intro L
  induction L with
  | nil => intro a _ t ht; simp at ht
  | cons u L ih =>
    intro a h t ht
    obtain ⟨h1, h2, h3, h4⟩ := h
    have hw := lo_hi h1
    rcases List.mem_cons.1 ht with rfl | ht
    · exact ⟨h1, by omega, h3⟩
    · obtain ⟨g1, g2, g3⟩ := ih _ h4 t ht
      exact ⟨g1, by omega, g3⟩
theorem chain_cov {l : Nat} {b : Int} : ∀ (L : List Int) (a : Int), chainT l b a L → ∀ v, a ≤ v → v ≤ b → ∃ t ∈ L, loN l t ≤ v ∧ v ≤ hiN l t := by
  intro L
  induction L with
  | nil => intro a h v h1 h2; simp only [chainT] at h; omega
  | cons u L ih =>
    intro a h v h1 h2
    obtain ⟨g1, g2, g3, g4⟩ := h
    by_cases hv : v ≤ hiN l u
    · exact ⟨u, by simp, by omega, hv⟩
    · obtain ⟨t, ht, k⟩ := ih _ g4 v (by omega) h2
      exact ⟨t, List.mem_cons_of_mem _ ht, k⟩
/-- Two ways of tiles from a value to another one, each of greatest ones, are one. -/
theorem chain_unique {l : Nat} {b : Int} : ∀ (L M : List Int) (a : Int), chainT l b a L → chainT l b a M → (∀ x, isNode l x = true → a ≤ loN l x → hiN l x ≤ b → ∃ t ∈ L, abv t x = true) → (∀ x, isNode l x = true → a ≤ loN l x → hiN l x ≤ b → ∃ t ∈ M, abv t x = true) → L = M := by
  intro L
  induction L with
  | nil =>
    intro M a h k _ _
    cases M with
    | nil => rfl
    | cons u M =>
      simp only [chainT] at h
      obtain ⟨g1, g2, g3, g4⟩ := k
      have := lo_hi g1
      omega
  | cons t L ih =>
    intro M a h k hL hM
    obtain ⟨h1, h2, h3, h4⟩ := h
    have wt := lo_hi h1
    cases M with
    | nil => simp only [chainT] at k; omega
    | cons u M =>
      obtain ⟨g1, g2, g3, g4⟩ := k
      have wu := lo_hi g1
      have e1 : abv u t = true := by
        obtain ⟨v, hv, q⟩ := hM t h1 (by omega) h3
        rcases List.mem_cons.1 hv with rfl | hv
        · exact q
        · obtain ⟨m1, m2, m3⟩ := chain_mem M _ g4 v hv
          have := (abv_iff m1 h1).1 q
          omega
      have e2 : abv t u = true := by
        obtain ⟨v, hv, q⟩ := hL u g1 (by omega) g3
        rcases List.mem_cons.1 hv with rfl | hv
        · exact q
        · obtain ⟨m1, m2, m3⟩ := chain_mem L _ h4 v hv
          have := (abv_iff m1 g1).1 q
          omega
      obtain rfl : t = u := abv_eq h1 g1 e2 e1
      congr 1
      refine ih M _ h4 g4 (fun x hx q1 q2 => ?_) (fun x hx q1 q2 => ?_)
      · obtain ⟨v, hv, q⟩ := hL x hx (by omega) q2
        rcases List.mem_cons.1 hv with rfl | hv
        · have := (abv_iff h1 hx).1 q
          have := lo_hi hx
          omega
        · exact ⟨v, hv, q⟩
      · obtain ⟨v, hv, q⟩ := hM x hx (by omega) q2
        rcases List.mem_cons.1 hv with rfl | hv
        · have := (abv_iff h1 hx).1 q
          have := lo_hi hx
          omega
        · exact ⟨v, hv, q⟩
/-- The node above. -/
theorem node_par {l : Nat} {x : Int} (hx : isNode l x = true) (h2 : 2 ≤ x) : isNode l (x / 2) = true ∧ (x / 2).toNat.log2 < l := by
  have hxl : x < 2 * 2 ^ l := by simp only [isNode, decide_eq_true_eq, Int.toNat_natCast] at hx; omega
  have hl := isNode_l hx
  have hn : isNode l (x / 2) = true := by simp only [isNode, decide_eq_true_eq, Int.toNat_natCast]; omega
  refine ⟨hn, ?_⟩
  obtain ⟨d, b, u, g1, g2, g3, g4, _⟩ := node_shape hn
  rw [g2, Int.toNat_natCast, g4]
  apply Classical.byContradiction
  intro hd
  obtain rfl : d = l := by omega
  have : ((2 ^ d : Nat) : Int) = 2 ^ d := by simp
  omega
theorem par_even {l : Nat} {x : Int} (hx : isNode l x = true) (h : x % 2 = 0) : isNode l (x / 2) = true ∧ loN l (x / 2) = loN l x ∧ hiN l x < hiN l (x / 2) := by
  have h2 : 2 ≤ x := by simp only [isNode, decide_eq_true_eq] at hx; omega
  obtain ⟨h1, h3⟩ := node_par hx h2
  obtain ⟨k1, k2, k3, k4, k5, k6, k7⟩ := node_kids h1 h3
  have e : 2 * (x / 2) = x := by omega
  rw [e] at k2 k3 k4 k5
  have := lo_hi k2
  exact ⟨h1, k3.symm, by omega⟩
theorem par_odd {l : Nat} {x : Int} (hx : isNode l x = true) (h2 : 2 ≤ x) (h : x % 2 = 1) : isNode l (x / 2) = true ∧ loN l (x / 2) < loN l x := by
  obtain ⟨h1, h3⟩ := node_par hx h2
  obtain ⟨k1, k2, k3, k4, k5, k6, k7⟩ := node_kids h1 h3
  have e : 2 * (x / 2) + 1 = x := by omega
  rw [e] at k5
  have := lo_hi k1
  exact ⟨h1, by omega⟩
/-- A tile that can't be greater. -/
def mxT (l : Nat) (b t : Int) : Prop := t % 2 = 1 ∨ b < hiN l (t / 2)
theorem greedy_top {l : Nat} {a b c : Int} {L : List Int} (h : chainT l c a L) (hcb : c ≤ b) (hm : ∀ t ∈ L, mxT l b t) : ∀ x, isNode l x = true → a ≤ loN l x → hiN l x ≤ c → ∃ t ∈ L, abv t x = true := by
  intro x hx h1 h2
  have wx := lo_hi hx
  obtain ⟨t, ht, q1, q2⟩ := chain_cov L a h (loN l x) h1 (by omega)
  obtain ⟨nt, _, _⟩ := chain_mem L a h t ht
  have wt := lo_hi nt
  refine ⟨t, ht, ?_⟩
  rcases lam nt hx (by omega) (by omega) with g | g
  · exact g
  · have x1 : 1 ≤ t := by simp only [isNode, decide_eq_true_eq] at nt; omega
    rcases (abv_half x1).1 g with e | ⟨t2, g2⟩
    · rw [e]; exact abv_refl nt
    · exfalso
      rcases hm t ht with m | m
      · obtain ⟨p1, p2⟩ := par_odd nt t2 m
        have := (abv_iff hx p1).1 g2
        omega
      · have p1 := (node_par nt t2).1
        have := (abv_iff hx p1).1 g2
        omega
/-- The reference's way is the program's. -/
theorem greedy_eq {l : Nat} (hl : 1 ≤ l ∧ l ≤ 48) {a b c : Int} {L : List Int} (ha : 0 ≤ a) (hac : a ≤ c) (hc : c ≤ 2 ^ l - 1) (h : chainT l c a L) (hcb : c ≤ b) (hm : ∀ t ∈ L, mxT l b t) : L = ofTiles l a c := by
  refine chain_unique L _ a h (ofTiles_chain hl ha hac hc) (greedy_top h hcb hm) fun x hx h1 h2 => ?_
  exact (of_tiles hl ha hc).top x hx fun v g1 g2 => by omega
theorem greedy_len {l : Nat} (hl : 1 ≤ l ∧ l ≤ 48) {a b c : Int} {L : List Int} (ha : 0 ≤ a) (hac : a ≤ c + 1) (hc : c ≤ 2 ^ l - 1) (h : chainT l c a L) (hcb : c ≤ b) (hm : ∀ t ∈ L, mxT l b t) : L.length ≤ 97 := by
  by_cases e : a = c + 1
  · subst e
    cases L with
    | nil => simp
    | cons t L =>
      obtain ⟨h1, h2, h3, h4⟩ := h
      have := lo_hi h1
      omega
  · rw [greedy_eq hl ha (by omega) hc h hcb hm]
    exact ofTiles_len hl a c
theorem chain_snoc {l : Nat} {a c : Int} {L : List Int} (h : chainT l c a L) {t : Int} (ht : isNode l t = true) (hlo : loN l t = c + 1) : chainT l (hiN l t) a (L ++ [t]) :=
  chain_append (chain_one ht hlo rfl) (by have := lo_hi ht; omega) L a h
/-- The leaf of a value. -/
theorem leaf_node {l : Nat} (hl : 1 ≤ l ∧ l ≤ 48) {x : Int} (h0 : 0 ≤ x) (h1 : x < 2 ^ l) : isNode l (2 ^ l + x) = true ∧ loN l (2 ^ l + x) = x ∧ hiN l (2 ^ l + x) = x := by
  obtain ⟨n, rfl⟩ := Int.eq_ofNat_of_zero_le h0
  have hn : n < 2 ^ l := by
    have : ((2 ^ l : Nat) : Int) = 2 ^ l := by simp
    omega
  have e : (2 : Int) ^ l + (n : Int) = ((2 ^ l + n : Nat) : Int) := by push_cast; rfl
  rw [e]
  have hN := node_of_shape (b := 0) hl (by omega) hn
  obtain ⟨d, b, t, g1, g2, g3, g4, g5, g6⟩ := node_shape hN
  have i1 := log2_shape hn
  have g2' := Int.ofNat.inj g2
  rw [← g2', i1] at g4
  subst g4
  obtain rfl : b = 0 := by omega
  obtain rfl : t = n := by omega
  rw [g5, g6]
  exact ⟨hN, by simp, by simp⟩
/-- The tiles of runs. -/
def layR (l : Nat) (L : List (Int × Int)) : List Int := L.flatMap fun r => ofTiles l r.1 r.2
theorem layR_len {l : Nat} (hl : 1 ≤ l ∧ l ≤ 48) (L : List (Int × Int)) : (layR l L).length ≤ 97 * L.length := by
  induction L with
  | nil => simp [layR]
  | cons r L ih =>
    have := ofTiles_len hl r.1 r.2
    simp only [layR, List.flatMap_cons, List.length_append, List.length_cons] at ih ⊢
    omega
theorem layR_cnt {l : Nat} (hl : 1 ≤ l ∧ l ≤ 48) (lo hi : Int) : ∀ (L : List (Int × Int)), (∀ r ∈ L, 0 ≤ r.1 ∧ r.1 ≤ r.2 ∧ r.2 ≤ 2 ^ l - 1) → cntR lo hi ((layR l L).map (ends2 l)) = cntR lo hi L := by
  intro L
  induction L with
  | nil => intro _; rfl
  | cons r L ih =>
    intro h
    obtain ⟨h1, h2, h3⟩ := h r (by simp)
    have := ih fun q hq => h q (by simp [hq])
    simp only [layR, List.flatMap_cons, List.map_append, cntR_append] at this ⊢
    rw [this, chain_cnt lo hi _ r.1 (by omega) (ofTiles_chain hl h1 h2 h3)]
    simp only [cntR]
theorem withF_len (L : List (Int × Int)) (x : Int × Int) : (withL L x).length ≤ L.length + 1 := by
  suffices h : ∀ (L : List (Int × Int)) (s : WithS), (L.foldl withStep s).ahead.length + (L.foldl withStep s).behind.length ≤ s.ahead.length + s.behind.length + L.length by
    have := h L ⟨[], x, []⟩
    simp only [withL, withF, List.length_append, List.length_cons, List.length_nil] at this ⊢
    omega
  intro L
  induction L with
  | nil => intro s; simp
  | cons r L ih =>
    intro s
    have := ih (withStep s r)
    simp only [List.foldl_cons, List.length_cons]
    have h2 : (withStep s r).ahead.length + (withStep s r).behind.length ≤ s.ahead.length + s.behind.length + 1 := by
      unfold withStep
      split
      · simp; omega
      · split
        · simp; omega
        · simp
    omega
theorem runsF_len (l : Nat) (ids : List Int) : (runsF l ids).length ≤ ids.length := by
  suffices h : ∀ k, k ≤ ids.length → (runsF l (ids.take k)).length ≤ k by
    have := h ids.length (Nat.le_refl _)
    rwa [List.take_length] at this
  intro k
  induction k with
  | zero => intro _; simp [runsF]
  | succ k ih =>
    intro hk
    rw [List.take_succ_eq_append_getElem (by omega), runsF_snoc]
    have := withF_len (runsF l (ids.take k)) (loN l ids[k], hiN l ids[k])
    have := ih (by omega)
    omega
theorem runsF_in {l : Nat} {ids : List Int} (hn : ∀ x ∈ ids, isNode l x = true) : ∀ r ∈ runsF l ids, 0 ≤ r.1 ∧ r.1 ≤ r.2 ∧ r.2 ≤ 2 ^ l - 1 := by
  obtain ⟨h1, h2⟩ := runsF_apart hn
  intro r hr
  have hw := h1.run r hr
  obtain ⟨t, ht, g1, g2⟩ := (h2 r.1).1 ⟨r, hr, Int.le_refl _, hw⟩
  obtain ⟨u, hu, k1, k2⟩ := (h2 r.2).1 ⟨r, hr, hw, Int.le_refl _⟩
  have := lo_0 (hn t ht)
  have := hi_top (hn u hu)
  omega
/-- A pair's other one, by the last bit. -/
theorem xor_one {t : Int} (h0 : 0 ≤ t) (h1 : t < 4611686018427387904) : bits .xor .i64 t 1 = sibN t := by
  obtain ⟨n, rfl⟩ := Int.eq_ofNat_of_zero_le h0
  have hn : n < 4611686018427387904 := by omega
  have e1 : (n ^^^ 1) / 2 = n / 2 := by rw [Nat.xor_div_two]; simp
  have e2 : (n ^^^ 1) % 2 = (n + 1) % 2 := by
    have := Nat.xor_mod_two_eq_one (a := n) (b := 1)
    omega
  have e3 : ((n ^^^ 1 : Nat) : Int) = sibN n := by unfold sibN; split <;> omega
  have hx : n ^^^ 1 < 2 ^ 64 := Nat.xor_lt_two_pow (by omega) (by omega)
  have ha : n % 2 ^ 64 = n := Nat.mod_eq_of_lt (by omega)
  show IntKind.i64.wrap (((BitVec.ofInt 64 (n : Int)) ^^^ (BitVec.ofInt 64 1)).toNat : Int) = sibN n
  have h3 : (BitVec.ofInt 64 (n : Int)).toNat = n := by rw [BitVec.ofInt_natCast, BitVec.toNat_ofNat, ha]
  have h4 : (BitVec.ofInt 64 (1 : Int)).toNat = 1 := by decide
  rw [BitVec.toNat_xor, h3, h4, e3, IntKind.wrap_i64]
  unfold sibN; split <;> omega
end Go.Proofs.YtmadmlkmdnjmaaaGreat
/- Package twig: Above; package tiles: the small ones; Of. -/
namespace Go.Proofs.YtmadmlkmdnjmaaaGreat
open Go.ChangeShapes Go.WideShapes Go.ChangeAt Go.RowKit
set_option linter.unusedVariables false
set_option linter.unusedSimpArgs false
set_option maxRecDepth 100000

theorem abv_nat {x y : Nat} (h1 : 1 ≤ (x : Int)) (h2 : 1 ≤ (y : Int)) (s : Nat) (hs : y.log2 = x.log2 + s) : abv x y = decide ((y : Int) / 2 ^ s = (x : Int)) := by
  have e : ((y : Int) / 2 ^ s = (x : Int)) ↔ y / 2 ^ s = x := by
    rw [show (2 : Int) ^ s = ((2 ^ s : Nat) : Int) by simp, ← Int.natCast_ediv]
    omega
  rw [Bool.eq_iff_iff, decide_eq_true_eq, e]
  simp only [abv, decide_eq_true_eq, Int.toNat_natCast, hs, Nat.add_sub_cancel_left]
  omega
theorem twig_Above (w : World) (p q : Int) (hp : p ≤ 9223372036854775807) (hq : q ≤ 9223372036854775807) : Calls Tryz.prog 145 #[.int .i64 p, .int .i64 q] w fun e w' => e = .returned (.bool (abv p q)) ∧ Below w.heap.size w w' := by
  by_cases h1 : 1 ≤ p
  · by_cases h2 : 1 ≤ q
    · obtain ⟨x, rfl⟩ := Int.eq_ofNat_of_zero_le (show 0 ≤ p by omega)
      obtain ⟨y, rfl⟩ := Int.eq_ofNat_of_zero_le (show 0 ≤ q by omega)
      have hy : y.log2 < 64 := (Nat.log2_lt (by omega)).2 (by omega)
      have hx : x.log2 < 64 := (Nat.log2_lt (by omega)).2 (by omega)
      have HX := Lib.hid (fun W => twig_Depth W x hp)
      have HY := Lib.hid (fun W => twig_Depth W y hq)
      rw [if_pos h1, Int.toNat_natCast] at HX
      rw [if_pos h2, Int.toNat_natCast] at HY
      by_cases hd : x.log2 ≤ y.log2
      · obtain ⟨s, hs⟩ : ∃ s, y.log2 = x.log2 + s := ⟨y.log2 - x.log2, by omega⟩
        have HE := Lib.hid (abv_nat h1 h2 s hs)
        generalize x.log2 = d at HX hs hx hd
        generalize y.log2 = e at HY hs hy hd
        have hs' : (e : Int) - (d : Int) = (s : Int) := by omega
        have s1 : (s : Int) ≤ 64 := by omega
        have hde : (d : Int) ≤ (e : Int) := by omega
        have pw := pow_pos' s
        clear hs hd
        rw [HE.out]
        go_enter Tryz.func145, Tryz.ntmps145
        go_wp2_with fail
        refine (HX.out _).mono ?_
        rintro e w1 ⟨rfl, hb1⟩
        have B1 : Below w.heap.size w w1 := Below.then_ (by repeat (first | with_reducible exact Below.refl _ _ | with_reducible assumption | ((with_reducible refine Below.setCell ?_ ?_ _); rotate_left; · (first | omega | exact Nat.le_refl _ | (simp <;> omega))) | (with_reducible refine Below.allocW ?_ _) | (with_reducible refine Below.drew ?_) | (with_reducible refine Below.extW ?_ _))) hb1
        have s1 : w.heap.size ≤ w1.heap.size := B1.size
        go_wp2_with fail
        refine (HY.out _).mono ?_
        rintro e w2 ⟨rfl, hb2⟩
        have B2 : Below w.heap.size w w2 := Below.then_ (by repeat (first | with_reducible exact Below.refl _ _ | with_reducible assumption | ((with_reducible refine Below.setCell ?_ ?_ _); rotate_left; · (first | omega | exact Nat.le_refl _ | (simp <;> omega))) | (with_reducible refine Below.allocW ?_ _) | (with_reducible refine Below.drew ?_) | (with_reducible refine Below.extW ?_ _))) hb2
        have s2 : w.heap.size ≤ w2.heap.size := B2.size
        go_wp2_with fail
        go_ret
        exact ⟨ret_bool (by first | rfl | simp), (by repeat (first | with_reducible exact Below.refl _ _ | with_reducible assumption | ((with_reducible refine Below.setCell ?_ ?_ _); rotate_left; · (first | omega | exact Nat.le_refl _ | (simp <;> omega))) | (with_reducible refine Below.allocW ?_ _) | (with_reducible refine Below.drew ?_) | (with_reducible refine Below.extW ?_ _)))⟩
      · have HE : Hid (abv x y = false) := Lib.hid (by
          rw [← Bool.not_eq_true]
          intro h
          have := abv_log h
          simp only [Int.toNat_natCast] at this
          exact hd this)
        generalize x.log2 = d at HX hx hd
        generalize y.log2 = e at HY hy hd
        have hde : decide ((d : Int) ≤ (e : Int)) = false := by simp; omega
        rw [HE.out]
        go_enter Tryz.func145, Tryz.ntmps145
        go_wp2_with fail
        refine (HX.out _).mono ?_
        rintro e w1 ⟨rfl, hb1⟩
        have B1 : Below w.heap.size w w1 := Below.then_ (by repeat (first | with_reducible exact Below.refl _ _ | with_reducible assumption | ((with_reducible refine Below.setCell ?_ ?_ _); rotate_left; · (first | omega | exact Nat.le_refl _ | (simp <;> omega))) | (with_reducible refine Below.allocW ?_ _) | (with_reducible refine Below.drew ?_) | (with_reducible refine Below.extW ?_ _))) hb1
        have s1 : w.heap.size ≤ w1.heap.size := B1.size
        go_wp2_with fail
        refine (HY.out _).mono ?_
        rintro e w2 ⟨rfl, hb2⟩
        have B2 : Below w.heap.size w w2 := Below.then_ (by repeat (first | with_reducible exact Below.refl _ _ | with_reducible assumption | ((with_reducible refine Below.setCell ?_ ?_ _); rotate_left; · (first | omega | exact Nat.le_refl _ | (simp <;> omega))) | (with_reducible refine Below.allocW ?_ _) | (with_reducible refine Below.drew ?_) | (with_reducible refine Below.extW ?_ _))) hb2
        have s2 : w.heap.size ≤ w2.heap.size := B2.size
        go_wp2_with fail
        go_ret
        exact ⟨rfl, (by repeat (first | with_reducible exact Below.refl _ _ | with_reducible assumption | ((with_reducible refine Below.setCell ?_ ?_ _); rotate_left; · (first | omega | exact Nat.le_refl _ | (simp <;> omega))) | (with_reducible refine Below.allocW ?_ _) | (with_reducible refine Below.drew ?_) | (with_reducible refine Below.extW ?_ _)))⟩
    · have HE : Hid (abv p q = false) := Lib.hid (by simp [abv, h2])
      have HX := Lib.hid (fun W => twig_Depth W p hp)
      have HY := Lib.hid (fun W => twig_Depth W q hq)
      rw [if_pos h1] at HX
      rw [if_neg h2] at HY
      rw [HE.out]
      go_enter Tryz.func145, Tryz.ntmps145
      go_wp2_with fail
      refine (HX.out _).mono ?_
      rintro e w1 ⟨rfl, hb1⟩
      have B1 : Below w.heap.size w w1 := Below.then_ (by repeat (first | with_reducible exact Below.refl _ _ | with_reducible assumption | ((with_reducible refine Below.setCell ?_ ?_ _); rotate_left; · (first | omega | exact Nat.le_refl _ | (simp <;> omega))) | (with_reducible refine Below.allocW ?_ _) | (with_reducible refine Below.drew ?_) | (with_reducible refine Below.extW ?_ _))) hb1
      have s1 : w.heap.size ≤ w1.heap.size := B1.size
      go_wp2_with fail
      refine (HY.out _).mono ?_
      rintro e w2 ⟨rfl, hb2⟩
      have B2 : Below w.heap.size w w2 := Below.then_ (by repeat (first | with_reducible exact Below.refl _ _ | with_reducible assumption | ((with_reducible refine Below.setCell ?_ ?_ _); rotate_left; · (first | omega | exact Nat.le_refl _ | (simp <;> omega))) | (with_reducible refine Below.allocW ?_ _) | (with_reducible refine Below.drew ?_) | (with_reducible refine Below.extW ?_ _))) hb2
      have s2 : w.heap.size ≤ w2.heap.size := B2.size
      go_wp2_with fail
      go_ret
      exact ⟨rfl, (by repeat (first | with_reducible exact Below.refl _ _ | with_reducible assumption | ((with_reducible refine Below.setCell ?_ ?_ _); rotate_left; · (first | omega | exact Nat.le_refl _ | (simp <;> omega))) | (with_reducible refine Below.allocW ?_ _) | (with_reducible refine Below.drew ?_) | (with_reducible refine Below.extW ?_ _)))⟩
  · have HE : Hid (abv p q = false) := Lib.hid (by simp [abv, h1])
    have HX := Lib.hid (fun W => twig_Depth W p hp)
    have HY := Lib.hid (fun W => twig_Depth W q hq)
    rw [if_neg h1] at HX
    rw [HE.out]
    by_cases h2 : 1 ≤ q
    · rw [if_pos h2] at HY
      go_enter Tryz.func145, Tryz.ntmps145
      go_wp2_with fail
      refine (HX.out _).mono ?_
      rintro e w1 ⟨rfl, hb1⟩
      have B1 : Below w.heap.size w w1 := Below.then_ (by repeat (first | with_reducible exact Below.refl _ _ | with_reducible assumption | ((with_reducible refine Below.setCell ?_ ?_ _); rotate_left; · (first | omega | exact Nat.le_refl _ | (simp <;> omega))) | (with_reducible refine Below.allocW ?_ _) | (with_reducible refine Below.drew ?_) | (with_reducible refine Below.extW ?_ _))) hb1
      have s1 : w.heap.size ≤ w1.heap.size := B1.size
      go_wp2_with fail
      refine (HY.out _).mono ?_
      rintro e w2 ⟨rfl, hb2⟩
      have B2 : Below w.heap.size w w2 := Below.then_ (by repeat (first | with_reducible exact Below.refl _ _ | with_reducible assumption | ((with_reducible refine Below.setCell ?_ ?_ _); rotate_left; · (first | omega | exact Nat.le_refl _ | (simp <;> omega))) | (with_reducible refine Below.allocW ?_ _) | (with_reducible refine Below.drew ?_) | (with_reducible refine Below.extW ?_ _))) hb2
      have s2 : w.heap.size ≤ w2.heap.size := B2.size
      go_wp2_with fail
      go_ret
      exact ⟨rfl, (by repeat (first | with_reducible exact Below.refl _ _ | with_reducible assumption | ((with_reducible refine Below.setCell ?_ ?_ _); rotate_left; · (first | omega | exact Nat.le_refl _ | (simp <;> omega))) | (with_reducible refine Below.allocW ?_ _) | (with_reducible refine Below.drew ?_) | (with_reducible refine Below.extW ?_ _)))⟩
    · rw [if_neg h2] at HY
      go_enter Tryz.func145, Tryz.ntmps145
      go_wp2_with fail
      refine (HX.out _).mono ?_
      rintro e w1 ⟨rfl, hb1⟩
      have B1 : Below w.heap.size w w1 := Below.then_ (by repeat (first | with_reducible exact Below.refl _ _ | with_reducible assumption | ((with_reducible refine Below.setCell ?_ ?_ _); rotate_left; · (first | omega | exact Nat.le_refl _ | (simp <;> omega))) | (with_reducible refine Below.allocW ?_ _) | (with_reducible refine Below.drew ?_) | (with_reducible refine Below.extW ?_ _))) hb1
      have s1 : w.heap.size ≤ w1.heap.size := B1.size
      go_wp2_with fail
      refine (HY.out _).mono ?_
      rintro e w2 ⟨rfl, hb2⟩
      have B2 : Below w.heap.size w w2 := Below.then_ (by repeat (first | with_reducible exact Below.refl _ _ | with_reducible assumption | ((with_reducible refine Below.setCell ?_ ?_ _); rotate_left; · (first | omega | exact Nat.le_refl _ | (simp <;> omega))) | (with_reducible refine Below.allocW ?_ _) | (with_reducible refine Below.drew ?_) | (with_reducible refine Below.extW ?_ _))) hb2
      have s2 : w.heap.size ≤ w2.heap.size := B2.size
      go_wp2_with fail
      go_ret
      exact ⟨rfl, (by repeat (first | with_reducible exact Below.refl _ _ | with_reducible assumption | ((with_reducible refine Below.setCell ?_ ?_ _); rotate_left; · (first | omega | exact Nat.le_refl _ | (simp <;> omega))) | (with_reducible refine Below.allocW ?_ _) | (with_reducible refine Below.drew ?_) | (with_reducible refine Below.extW ?_ _)))⟩
theorem ends_node {l : Nat} {x : Int} (h : isNode l x = true) : endsV (endsOf l x) = .tuple #[.int .i64 (loN l x), .int .i64 (hiN l x), .bool true] := by
  have : (endsOf l x).2.2 = true := by unfold endsOf; rw [if_pos h]
  unfold endsV loN hiN
  rw [this]
theorem node_max {l : Nat} {x : Int} (h : isNode l x = true) : 1 ≤ x ∧ x ≤ 562949953421312 ∧ hiN l x ≤ 281474976710656 := by
  have h0 := isNode_l h
  have h1 := pow_48 (n := l) h0.2
  have h2 := hi_top h
  simp only [isNode, decide_eq_true_eq, Int.toNat_natCast] at h
  omega
/-- What lay works on. -/
structure LayAt (w : World) (z : Nat) (l : Nat) (a b : Int) (pl pa pb po pf : Nat) (v : Value) (o : List Int) : Prop where
  cl : w.heap[pl]? = some (.cells #[.int .i64 l] 3 (0, 0))
  ca : w.heap[pa]? = some (.cells #[.int .i64 a] 3 (0, 0))
  cb : w.heap[pb]? = some (.cells #[.int .i64 b] 3 (0, 0))
  co : w.heap[po]? = some (.cells #[v] 49 (0, 0))
  cf : w.heap[pf]? = some (.cells #[.func (.func 97) #[] #[.pointer (some ⟨pl, 0, none⟩), .pointer (some ⟨pa, 0, none⟩), .pointer (some ⟨pb, 0, none⟩), .pointer (some ⟨po, 0, none⟩), .pointer (some ⟨pf, 0, none⟩)]] 158 (0, 0))
  own : Own w z 3 encZ v o
  zl : pl < z
  za : pa < z
  zb : pb < z
  zo : po < z
  zf : pf < z
  zw : z ≤ w.heap.size
  two : pl ≠ po ∧ pa ≠ po ∧ pb ≠ po ∧ pf ≠ po
section
variable {w w' : World} {z l : Nat} {a b : Int} {pl pa pb po pf : Nat} {v : Value} {o : List Int}
theorem LayAt.below (h : LayAt w z l a b pl pa pb po pf v o) (hb : Below w.heap.size w w') : LayAt w' z l a b pl pa pb po pf v o :=
  ⟨blk_below h.cl hb, blk_below h.ca hb, blk_below h.cb hb, blk_below h.co hb, blk_below h.cf hb, h.own.below hb, h.zl, h.za, h.zb, h.zo, h.zf, Nat.le_trans h.zw hb.size, h.two⟩
/-- One more is laid, and stored. -/
theorem LayAt.store {v' : Value} {o' : List Int} (h : LayAt w z l a b pl pa pb po pf v o) (hg : w.grownBy w' v.ownBlock) (ho : Own w' z 3 encZ v' o') : LayAt (w'.setCell ⟨po, 0, none⟩ v') z l a b pl pa pb po pf v' o' := by
  have row : ∀ q, q < z → ∀ ob : Obj, w.heap[q]? = some ob → w'.heap[q]? = some ob := fun q hq ob hb => blk_grown_not hb hg fun e => by have := (h.own.lt q e).1; omega
  have st : ∀ q, q ≠ po → ∀ ob : Obj, w'.heap[q]? = some ob → (w'.setCell ⟨po, 0, none⟩ v').heap[q]? = some ob := fun q hq ob hb => (Below.heap_setCell _ _ _ _ hq).trans hb
  have hs := hg.size
  exact ⟨st _ h.two.1 _ (row _ h.zl _ h.cl), st _ h.two.2.1 _ (row _ h.za _ h.ca), st _ h.two.2.2.1 _ (row _ h.zb _ h.cb), heap_set_at (i := 0) (row _ h.zo _ h.co) v', st _ h.two.2.2.2 _ (row _ h.zf _ h.cf),
    ho.setCell (p := ⟨po, 0, none⟩) (fun e => by have := (ho.lt _ e).1; have := h.zo; simp only at *; omega) v', h.zl, h.za, h.zb, h.zo, h.zf, by simp [World.setCell]; exact Nat.le_trans h.zw hs, h.two⟩
end
theorem lt_or_decT (a b : Int) : a < b ∨ decide (a < b) = false := by
  by_cases h : a < b
  · exact .inl h
  · exact .inr (decide_eq_false h)
theorem tiles_lay_out (w : World) (z l : Nat) (a b : Int) (pl pa pb po pf : Nat) (v : Value) (o : List Int) (x : Int) (hx : isNode l x = true) (h : hiN l x < a ∨ b < loN l x) (hL : LayAt w z l a b pl pa pb po pf v o) :
    Calls Tryz.prog 97 #[.int .i64 x, .pointer (some ⟨pl, 0, none⟩), .pointer (some ⟨pa, 0, none⟩), .pointer (some ⟨pb, 0, none⟩), .pointer (some ⟨po, 0, none⟩), .pointer (some ⟨pf, 0, none⟩)] w fun e w' => e = .returned (.tuple #[]) ∧ Below w.heap.size w w' := by
  obtain ⟨m1, m2, m3⟩ := node_max hx
  have HE := Lib.hid (fun W => twig_Ends W l x (by omega))
  rw [ends_node hx] at HE
  have cl := blk_cell hL.cl
  have zl := lt_of_block hL.cl
  have KA := Lib.hid hL.ca
  have KB := Lib.hid hL.cb
  generalize loN l x = lo at h HE
  generalize hiN l x = hi at h HE
  clear hx hL m3
  rcases lt_or_decT hi a with k1 | k1
  all_goals rcases lt_or_decT b lo with k2 | k2
  all_goals first
    | (exfalso; simp only [decide_eq_false_iff_not] at k1 k2; omega)
    | (go_enter Tryz.func97, Tryz.ntmps97
       go_wp2_with fail
       refine (HE.out _).mono ?_
       rintro e w1 ⟨rfl, hb1⟩
       have B1 : Below w.heap.size w w1 := hb1
       have ca := blk_cell (blk_below KA.out hb1)
       have za := lt_of_block (blk_below KA.out hb1)
       have cb := blk_cell (blk_below KB.out hb1)
       have zb := lt_of_block (blk_below KB.out hb1)
       clear hb1 cl
       go_wp2_with fail
       go_end0
       exact ⟨rfl, (by repeat (first | with_reducible exact Below.refl _ _ | with_reducible assumption | ((with_reducible refine Below.setCell ?_ ?_ _); rotate_left; · (first | omega | exact Nat.le_refl _ | (simp <;> omega))) | (with_reducible refine Below.allocW ?_ _) | (with_reducible refine Below.drew ?_) | (with_reducible refine Below.extW ?_ _)))⟩)
theorem tiles_lay_one (w : World) (base z l : Nat) (a b : Int) (pl pa pb po pf : Nat) (v : Value) (o : List Int) (x : Int) (hx : isNode l x = true) (h1 : a ≤ loN l x) (h2 : hiN l x ≤ b) (hL : LayAt w z l a b pl pa pb po pf v o) (hpo : base ≤ po) (hz : base ≤ z) (hm : o.length + 1 ≤ 67108864) :
    Calls Tryz.prog 97 #[.int .i64 x, .pointer (some ⟨pl, 0, none⟩), .pointer (some ⟨pa, 0, none⟩), .pointer (some ⟨pb, 0, none⟩), .pointer (some ⟨po, 0, none⟩), .pointer (some ⟨pf, 0, none⟩)] w fun e w' => e = .returned (.tuple #[]) ∧ (∃ v', LayAt w' z l a b pl pa pb po pf v' (o ++ [x])) ∧ Below base w w' := by
  obtain ⟨m1, m2, m3⟩ := node_max hx
  have hw := lo_hi hx
  have HE := Lib.hid (fun W => twig_Ends W l x (by omega))
  rw [ends_node hx] at HE
  have cl := blk_cell hL.cl
  have zl := lt_of_block hL.cl
  have HL := Lib.hid hL
  generalize loN l x = lo at h1 hw HE
  generalize hiN l x = hi at h2 hw HE
  have k1 : decide (hi < a) = false := by simp; omega
  have k2 : decide (b < lo) = false := by simp; omega
  have hzw := hL.zw
  clear hx hL m3 hw
  go_enter Tryz.func97, Tryz.ntmps97
  go_wp2_with fail
  refine (HE.out _).mono ?_
  rintro e w1 ⟨rfl, hb1⟩
  have B1 : Below w.heap.size w w1 := hb1
  have L1 := Lib.hid (HL.out.below hb1)
  have ca := blk_cell L1.out.ca
  have za := lt_of_block L1.out.ca
  have cb := blk_cell L1.out.cb
  have zb := lt_of_block L1.out.cb
  have co := blk_cell L1.out.co
  have fo := blk_frozen L1.out.co
  have zo := lt_of_block L1.out.co
  have hzo := L1.out.zo
  have hzw1 := L1.out.zw
  obtain ⟨A, cap, rfl, _⟩ := L1.out.own.form
  clear hb1 cl zl
  go_wp2_with ((at_builtin; refine wpList_push tyZ rfl _ _ rfl encZ w1 z _ o rfl L1.out.own x (by go_simp) rfl ?c1 ?c2 ?c3 ?c4))
  case c1 => omega
  case c2 => simp only [maxLen]; omega
  case c3 => exact hzw1
  case c4 =>
    intro v' w' ho' hg' hs' _ hb' _
    obtain ⟨A', cap', rfl, _⟩ := ho'.form
    have cf' : w'.frozen? ⟨po, 0, none⟩ = false := (hb'.frozen (p := ⟨po, 0, none⟩) hzo).trans (fo 0)
    have co' := (hb'.cell (p := ⟨po, 0, none⟩) hzo).trans (co 0)
    have zo' : po < w'.heap.size := by omega
    have hLN := L1.out.store hg' ho'
    rw [show (o ++ [x]).length = o.length + 1 by simp] at hLN
    have LN := Lib.hid hLN
    clear hLN
    have BN := Lib.hid (B1.mono (Nat.le_trans hz hzw) |>.trans (hb'.mono hz))
    clear ca za cb zb co fo zo ho' hg' hb'
    go_wp2_with fail
    go_end0
    exact ⟨rfl, ⟨_, LN.out⟩, BN.out.setCell (p := ⟨po, 0, none⟩) hpo _⟩
set_option maxHeartbeats 1000000 in
theorem tiles_lay (l : Nat) (a b : Int) (pl pa pb po pf base z : Nat) (hpo : base ≤ po) (hz : base ≤ z) : ∀ (h : Nat) (w : World) (v : Value) (o : List Int) (x : Int), isNode l x = true → x.toNat.log2 + h = l → LayAt w z l a b pl pa pb po pf v o → o.length + (layT l a b h x).length ≤ 67108864 →
    Calls Tryz.prog 97 #[.int .i64 x, .pointer (some ⟨pl, 0, none⟩), .pointer (some ⟨pa, 0, none⟩), .pointer (some ⟨pb, 0, none⟩), .pointer (some ⟨po, 0, none⟩), .pointer (some ⟨pf, 0, none⟩)] w fun e w' => e = .returned (.tuple #[]) ∧ (∃ v', LayAt w' z l a b pl pa pb po pf v' (o ++ layT l a b h x)) ∧ Below base w w' := by
  intro h
  have out : ∀ (h : Nat) (w : World) (v : Value) (o : List Int) (x : Int), isNode l x = true → (hiN l x < a ∨ b < loN l x) → LayAt w z l a b pl pa pb po pf v o → 
      Calls Tryz.prog 97 #[.int .i64 x, .pointer (some ⟨pl, 0, none⟩), .pointer (some ⟨pa, 0, none⟩), .pointer (some ⟨pb, 0, none⟩), .pointer (some ⟨po, 0, none⟩), .pointer (some ⟨pf, 0, none⟩)] w fun e w' => e = .returned (.tuple #[]) ∧ (∃ v', LayAt w' z l a b pl pa pb po pf v' (o ++ layT l a b h x)) ∧ Below base w w' := by
    intro h w v o x hx hc hL
    rw [layT_out hc, List.append_nil]
    exact (tiles_lay_out w z l a b pl pa pb po pf v o x hx hc hL).mono fun _ _ ⟨he, hb⟩ => ⟨he, ⟨v, hL.below hb⟩, hb.mono (Nat.le_trans hz hL.zw)⟩
  induction h with
  | zero =>
    intro w v o x hx hl hL hm
    by_cases hc : hiN l x < a ∨ b < loN l x
    · exact out 0 w v o x hx hc hL
    · have he := leaf_one hx (by omega)
      rw [layT_whole hx (by omega) (by omega)] at hm ⊢
      exact tiles_lay_one w base z l a b pl pa pb po pf v o x hx (by omega) (by omega) hL hpo hz hm
  | succ h ih =>
    intro w v o x hx hl hL hm
    by_cases hc : hiN l x < a ∨ b < loN l x
    · exact out (h + 1) w v o x hx hc hL
    · by_cases hd : a ≤ loN l x ∧ hiN l x ≤ b
      · rw [layT_whole hx hd.1 hd.2] at hm ⊢
        exact tiles_lay_one w base z l a b pl pa pb po pf v o x hx hd.1 hd.2 hL hpo hz hm
      · have el : layT l a b (h + 1) x = layT l a b h (2 * x) ++ layT l a b h (2 * x + 1) := by
          conv => lhs; unfold layT
          rw [if_neg hc, if_neg hd]
        obtain ⟨n1, n2, _, _, _, g1, g2⟩ := node_kids hx (by omega)
        rw [el, List.length_append] at hm
        rw [el, ← List.append_assoc]
        have I1 := Lib.hid (fun W v' (h' : LayAt W z l a b pl pa pb po pf v' o) => ih W v' o (2 * x) n1 (by omega) h' (by omega))
        have I2 := Lib.hid (fun W v' (h' : LayAt W z l a b pl pa pb po pf v' (o ++ layT l a b h (2 * x))) => ih W v' (o ++ layT l a b h (2 * x)) (2 * x + 1) n2 (by omega) h' (by rw [List.length_append]; omega))
        generalize layT l a b h (2 * x) = M1 at I1 I2 ⊢
        generalize layT l a b h (2 * x + 1) = M2 at I2 ⊢
        obtain ⟨m1, m2, m3⟩ := node_max hx
        have HE := Lib.hid (fun W => twig_Ends W l x (by omega))
        rw [ends_node hx] at HE
        have cl := blk_cell hL.cl
        have zl := lt_of_block hL.cl
        have HL := Lib.hid hL
        generalize loN l x = lo at hc hd HE
        generalize hiN l x = hi at hc hd HE
        have k1 : decide (hi < a) = false := by simp; omega
        have k2 : decide (b < lo) = false := by simp; omega
        have hzw := hL.zw
        have k3 := le_or_dec a lo
        have k4 := le_or_dec hi b
        clear hx hL m3 ih out el hm n1 n2 g1 g2 hl
        rcases k3 with k3 | k3
        all_goals rcases k4 with k4 | k4
        all_goals first
          | (exfalso; omega)
          | (clear hc hd
             go_enter Tryz.func97, Tryz.ntmps97
             go_wp2_with fail
             refine (HE.out _).mono ?_
             rintro e w1 ⟨rfl, hb1⟩
             have B1 := Lib.hid (hb1.mono (Nat.le_trans hz hzw))
             have L1 := Lib.hid (HL.out.below hb1)
             have ca := blk_cell L1.out.ca
             have za := lt_of_block L1.out.ca
             have cb := blk_cell L1.out.cb
             have zb := lt_of_block L1.out.cb
             have cf := blk_cell L1.out.cf
             have zf := lt_of_block L1.out.cf
             clear hb1 cl zl
             go_wp2_with fail
             refine (I1.out _ _ L1.out).mono ?_
             rintro e w2 ⟨rfl, ⟨v2, hL2⟩, hb2⟩
             have L2 := Lib.hid hL2
             have B2 := Lib.hid (B1.out.trans hb2)
             clear ca za cb zb cf zf hb2
             have cf := blk_cell hL2.cf
             have zf := lt_of_block hL2.cf
             clear hL2
             go_wp2_with fail
             refine (I2.out _ _ L2.out).mono ?_
             rintro e w3 ⟨rfl, hL3, hb3⟩
             have B3 := Lib.hid (B2.out.trans hb3)
             have L3 := Lib.hid hL3
             clear cf zf hL3 hb3
             go_wp2_with fail
             go_end0
             exact ⟨rfl, L3.out, B3.out⟩)
end Go.Proofs.YtmadmlkmdnjmaaaGreat
/- Reference 5: Of. -/
namespace Go.Proofs.YtmadmlkmdnjmaaaGreat
open Go.ChangeShapes Go.WideShapes Go.ChangeAt Go.RowKit
set_option linter.unusedVariables false
set_option linter.unusedSimpArgs false
set_option maxRecDepth 100000

set_option maxHeartbeats 2000000 in
theorem ref5_Of (w : World) (l : Nat) (hl : 1 ≤ l ∧ l ≤ 48) (a b : Int) (ha : 0 ≤ a) (hab : a ≤ b) (hb : b < 2 ^ l) :
    Calls Tryz.prog 266 #[.int .i64 l, .int .i64 a, .int .i64 b] w fun e w' => ∃ v, e = .returned (.tuple #[v, .bool true]) ∧ Own w' w.heap.size 3 encZ v (ofTiles l a b) ∧ Below w.heap.size w w' := by
  have HI := Lib.hid (ref2_Is · l)
  rw [show decide (1 ≤ (l : Int) ∧ (l : Int) ≤ 48) = true by simp; omega] at HI
  have HP := Lib.hid (ref2_Power · l (by omega))
  have HL := Lib.hid (fun W x => ref2_Leaf W l x hl.1 hl.2)
  have HN := Lib.hid (fun x h0 h1 => leaf_node hl (x := x) h0 h1)
  have HG := Lib.hid (fun c (T : List Int) h1 h2 h3 h4 h5 => greedy_len hl (a := a) (b := b) (c := c) (L := T) ha h1 h2 h3 h4 h5)
  have HF := Lib.hid (fun (T : List Int) h3 h5 => greedy_eq hl (a := a) (b := b) (c := b) (L := T) ha hab (by omega) h3 (Int.le_refl _) h5)
  have pw := pow_48 (n := l) hl.2
  have d1 : decide (a < 0) = false := by simp; omega
  have d2 : decide (b < a) = false := by simp; omega
  have d3 : decide ((2 : Int) ^ l ≤ b) = false := by simp; omega
  clear hl
  go_enter Tryz.func266, Tryz.ntmps266
  go_wp2_with fail
  refine (HI.out _).mono ?_
  rintro e w1 ⟨rfl, hb1⟩
  go_wp2_with fail
  refine (HP.out _).mono ?_
  rintro e w2 ⟨rfl, hb2⟩
  have B2 := Lib.hid (hb1.trans (hb2.mono hb1.size))
  clear hb1 hb2
  go_wp2_with fail
  go_loopw [8, 9] (fun vt av wr => ∃ (T : List Int) (x : Int), av = .int .i64 x ∧ a ≤ x ∧ x ≤ b + 1 ∧ Own wr w2.heap.size 3 encZ vt T ∧ chainT l (x - 1) a T ∧ (∀ t ∈ T, mxT l b t) ∧ Below w2.heap.size w2 wr) (fun _ av _ => (b + 1 - intOf av).toNat)
  case atStart => exact ⟨[], a, rfl, Int.le_refl _, by omega, .inl ⟨rfl, rfl⟩, by simp only [chainT]; omega, by simp, Below.refl _ _⟩
  case round =>
    obtain ⟨T, x, rfl, hx1, hx2, hown, hch, hmx, hB⟩ := hrel
    have hTl := HG.out (x - 1) T (by omega) (by omega) hch (by omega) hmx
    have KB := Lib.hid hB
    obtain ⟨Ao, co, rfl, hco1, hco2, _⟩ := hown.form
    have KO := Lib.hid hown
    have KC := Lib.hid hch
    have KM := Lib.hid hmx
    clear hown hch hmx hB
    by_cases hlt : x ≤ b
    · obtain ⟨n1, n2, n3⟩ := HN.out x (by omega) (by omega)
      have HLf := Lib.hid (fun W => HL.out W x)
      rw [leafV_yes (by unfold isVal; simp; omega)] at HLf
      have LN := Lib.hid (And.intro n1 (And.intro n2 n3))
      clear n1 n2 n3
      go_wp2_with fail
      refine (HLf.out _).mono ?_
      rintro e w5 ⟨rfl, hb5⟩
      have O5 := Lib.hid (KO.out.below hb5)
      have B5 := Lib.hid (KB.out.trans (hb5.mono KB.out.size))
      clear hb5 KO KB
      go_wp2_with fail
      obtain ⟨w6, h6⟩ : ∃ W, W = wr := ⟨_, rfl⟩
      subst h6
      go_loopw [10, 12] (fun iv hv wx => ∃ (j hi : Int), iv = .int .i64 j ∧ hv = .int .i64 hi ∧ isNode l j = true ∧ loN l j = x ∧ hiN l j = hi ∧ hi ≤ b ∧ Below w5.heap.size w5 wx) (fun iv _ _ => (intOf iv).toNat)
      case atStart => exact ⟨_, x, rfl, rfl, LN.out.1, LN.out.2.1, LN.out.2.2, hlt, Below.refl _ _⟩
      case round =>
        obtain ⟨j, hi, rfl, rfl, hj, hj1, hj2, hj3, hB6⟩ := hrel
        have nj := node_max hj
        have nj1 := nj.1
        have nj2 := nj.2.1
        have nlo := lo_hi hj
        have N6 := Lib.hid (And.intro hj (And.intro hj1 hj2))
        have B6 := Lib.hid (B5.out.trans (hB6.mono B5.out.size))
        have O6 := Lib.hid (O5.out.below hB6)
        have C6 := Lib.hid hB6
        have CH := Lib.hid (show chainT l hi a (T ++ [j]) from hj2 ▸ chain_snoc KC.out hj (by omega))
        have hxh : x ≤ hi := by omega
        clear hj hj1 hj2 hB6 nj nlo
        by_cases he : j % 2 = 0
        · obtain ⟨p1, p2, p3⟩ := par_even N6.out.1 he
          have PN := Lib.hid (And.intro p1 (p2.trans N6.out.2.1))
          have np := node_max p1
          have HE := Lib.hid (fun W => ref2_Ends W l (j / 2) (by omega))
          rw [ends_node p1] at HE
          have hM := Lib.hid (show b < hiN l (j / 2) → mxT l b j from fun h => .inr h)
          have hk := le_or_dec (hiN l (j / 2)) b
          obtain ⟨y, hy⟩ : ∃ y, y = hiN l (j / 2) := ⟨_, rfl⟩
          rw [← hy] at HE hM hk np
          have HY := Lib.hid hy
          have ny := np.2.2
          clear p1 p2 p3 np hy
          rcases hk with hk | hk
          · have hdec : decide (b < y) = false := by simp; omega
            go_wp2_with fail
            refine (HE.out _).mono ?_
            rintro e w7 ⟨rfl, hb7⟩
            have C7 := Lib.hid (C6.out.trans (hb7.mono C6.out.size))
            clear hb7
            go_wp2_with fail
            go_roundw
            case rel => exact ⟨j / 2, y, by go_num, rfl, PN.out.1, PN.out.2, HY.out.symm, hk, C7.out⟩
            case measure => simp [intOf]; omega
          · have hyb : b < y := by simpa using hk
            have hMX := Lib.hid (hM.out hyb)
            clear hk
            go_wp2_with fail
            refine (HE.out _).mono ?_
            rintro e w7 ⟨rfl, hb7⟩
            have O7 := Lib.hid (O6.out.below hb7)
            have B7 := Lib.hid (B6.out.trans (hb7.mono B6.out.size))
            clear hb7
            go_wp2_with ((at_builtin; refine wpList_push tyZ rfl _ _ rfl encZ w7 w2.heap.size _ T rfl O7.out j (by go_simp) rfl ?c1 ?c2 ?c3 ?c4))
            case c1 => omega
            case c2 => simp only [maxLen]; omega
            case c3 => exact B7.out.size
            case c4 =>
              intro v' w' ho' hg' hs' _ hb' _
              have hB' := Lib.hid (B7.out.trans hb')
              have hO' := Lib.hid ho'
              clear ho' hg' hb'
              go_wp2_with fail
              go_roundw
              case rel =>
                refine ⟨T ++ [j], hi + 1, by go_num, by omega, by omega, hO'.out, by rw [show hi + 1 - 1 = hi by omega]; exact CH.out, fun t ht => ?_, hB'.out⟩
                rcases List.mem_append.1 ht with ht | ht
                · exact KM.out t ht
                · rw [List.mem_singleton.1 ht]; exact hMX.out
              case measure => simp [intOf]; omega
        · have hMX : Hid (mxT l b j) := Lib.hid (.inl (by omega))
          have O7 := O6
          have B7 := B6
          have hdec : (j % 2 == 0) = false := by simpa using he
          clear he
          go_wp2_with ((at_builtin; refine wpList_push tyZ rfl _ _ rfl encZ wr w2.heap.size _ T rfl O7.out j (by go_simp) rfl ?c1 ?c2 ?c3 ?c4))
          case c1 => omega
          case c2 => simp only [maxLen]; omega
          case c3 => exact B7.out.size
          case c4 =>
            intro v' w' ho' hg' hs' _ hb' _
            have hB' := Lib.hid (B7.out.trans hb')
            have hO' := Lib.hid ho'
            clear ho' hg' hb'
            go_wp2_with fail
            go_roundw
            case rel =>
              refine ⟨T ++ [j], hi + 1, by go_num, by omega, by omega, hO'.out, by rw [show hi + 1 - 1 = hi by omega]; exact CH.out, fun t ht => ?_, hB'.out⟩
              rcases List.mem_append.1 ht with ht | ht
              · exact KM.out t ht
              · rw [List.mem_singleton.1 ht]; exact hMX.out
            case measure => simp [intOf]; omega
    · obtain rfl : x = b + 1 := by omega
      have hT := HF.out T (by have := KC.out; rwa [show b + 1 - 1 = b by omega] at this) KM.out
      have HT := Lib.hid hT
      clear hT
      go_wp2_with fail
      go_ret2
      exact ⟨_, rfl, by rw [← HT.out]; exact KO.out.base_le B2.out.size, B2.out.trans (KB.out.mono B2.out.size)⟩
end Go.Proofs.YtmadmlkmdnjmaaaGreat
/- Reference 5: with. -/
namespace Go.Proofs.YtmadmlkmdnjmaaaGreat
open Go.ChangeShapes Go.WideShapes Go.ChangeAt Go.RowKit
set_option linter.unusedVariables false
set_option linter.unusedSimpArgs false
set_option maxRecDepth 100000

theorem tyR5 : SliceTy Tryz.prog 234 274 2 16 (.agg #[.int .i64 0, .int .i64 0]) := ⟨Tryz.underlying234, by kernel_rfl, rfl, by decide⟩
/-- A run's ends are values. -/
def wOK (r : Int × Int) : Prop := 0 ≤ r.1 ∧ r.1 ≤ 281474976710656 ∧ 0 ≤ r.2 ∧ r.2 ≤ 281474976710656
def withG (L : List (Int × Int)) (x : Int × Int) (q : Nat) : WithS := (L.take q).foldl withStep ⟨[], x, []⟩
theorem withG_succ {L : List (Int × Int)} {x : Int × Int} {q : Nat} (h : q < L.length) : withG L x (q + 1) = withStep (withG L x q) L[q] := by
  unfold withG
  rw [List.take_succ_eq_append_getElem h, List.foldl_append]; rfl
theorem withG_all (L : List (Int × Int)) (x : Int × Int) : (withG L x L.length).ahead ++ [(withG L x L.length).x] ++ (withG L x L.length).behind = withL L x := by
  unfold withG withL withF; rw [List.take_length]
theorem withG_len (L : List (Int × Int)) (x : Int × Int) : ∀ q, q ≤ L.length → (withG L x q).ahead.length + (withG L x q).behind.length ≤ q := by
  intro q
  induction q with
  | zero => intro _; simp [withG]
  | succ q ih =>
    intro hq
    have := ih (by omega)
    rw [withG_succ (by omega)]
    unfold withStep
    split
    · simp; omega
    · split
      · simp; omega
      · simp; omega
theorem withG_ok {L : List (Int × Int)} {x : Int × Int} (hL : ∀ r ∈ L, wOK r) (hx : wOK x) : ∀ q, q ≤ L.length → wOK (withG L x q).x := by
  intro q
  induction q with
  | zero => intro _; exact hx
  | succ q ih =>
    intro hq
    have h1 := ih (by omega)
    have h2 := hL _ (List.getElem_mem (show q < L.length by omega))
    rw [withG_succ (by omega)]
    unfold withStep
    split
    · exact h1
    · split
      · exact h1
      · unfold wOK at *
        simp only
        constructor
        · split <;> omega
        · constructor
          · split <;> omega
          · constructor <;> split <;> omega
/-- Where with stands. -/
structure WithW (w : World) (L : List (Int × Int)) (x : Int × Int) (q : Nat) (wr : World) (va vb : Value) : Prop where
  box : wr.heap[w.heap.size]? = some (.cells #[.int .i64 (withG L x q).x.1, .int .i64 (withG L x q).x.2] 274 (0, 0))
  a : Own wr (w.heap.size + 1) 274 encN va (withG L x q).ahead
  b : Own wr (w.heap.size + 1) 274 encN vb (withG L x q).behind
  sep : ∀ g, va.ownBlock = some g → vb.ownBlock ≠ some g
  blw : Below w.heap.size w wr
theorem WithW.push {w wr w' : World} {L : List (Int × Int)} {x : Int × Int} {q : Nat} {va vb v' : Value} {l : List (Int × Int)} (h : WithW w L x q wr va vb) {s : WithS} (hs : withG L x (q + 1) = s) (hx : s.x = (withG L x q).x) (hsa : s.ahead = l) (hsb : s.behind = (withG L x q).behind)
    (ho : Own w' (w.heap.size + 1) 274 encN v' l) (hg : wr.grownBy w' va.ownBlock) (hv : v'.ownBlock = va.ownBlock ∨ v'.ownBlock = some (wr.heap.size + 1)) : WithW w L x (q + 1) w' v' vb := by
  refine ⟨?_, ?_, ?_, ?_, ?_⟩
  · rw [hs, hx]
    exact blk_grown_not h.box hg fun e => by have := (h.a.lt _ e).1; omega
  · rw [hs, hsa]; exact ho
  · rw [hs, hsb]
    refine h.b.kept hg ?_
    cases hb : vb.ownBlock with
    | none => exact .inl rfl
    | some g => right; intro e; exact h.sep g e.symm hb
  · intro g hg' hb
    rcases hv with hv | hv
    · exact h.sep g (hv ▸ hg') hb
    · have := (h.b.lt g hb).2
      rw [hv] at hg'; cases hg'; omega
  · exact h.blw.grown hg h.blw.size fun k hk => by have := (h.a.lt k hk).1; omega
theorem WithW.pushb {w wr w' : World} {L : List (Int × Int)} {x : Int × Int} {q : Nat} {va vb v' : Value} {l : List (Int × Int)} (h : WithW w L x q wr va vb) {s : WithS} (hs : withG L x (q + 1) = s) (hx : s.x = (withG L x q).x) (hsa : s.ahead = (withG L x q).ahead) (hsb : s.behind = l)
    (ho : Own w' (w.heap.size + 1) 274 encN v' l) (hg : wr.grownBy w' vb.ownBlock) (hv : v'.ownBlock = vb.ownBlock ∨ v'.ownBlock = some (wr.heap.size + 1)) : WithW w L x (q + 1) w' va v' := by
  refine ⟨?_, ?_, ?_, ?_, ?_⟩
  · rw [hs, hx]
    exact blk_grown_not h.box hg fun e => by have := (h.b.lt _ e).1; omega
  · rw [hs, hsa]
    refine h.a.kept hg ?_
    cases ha : va.ownBlock with
    | none => exact .inl rfl
    | some g => right; intro e; exact h.sep g ha e.symm
  · rw [hs, hsb]; exact ho
  · intro g hg' hb
    rcases hv with hv | hv
    · exact h.sep g hg' (hv ▸ hb)
    · have := (h.a.lt g hg').2
      rw [hv] at hb; cases hb; omega
  · exact h.blw.grown hg h.blw.size fun k hk => by have := (h.b.lt k hk).1; omega
theorem WithW.ext {w wr : World} {L : List (Int × Int)} {x : Int × Int} {q : Nat} {va vb : Value} (h : WithW w L x q wr va vb) {w' : World} (hb : Below wr.heap.size wr w') : WithW w L x q w' va vb :=
  ⟨blk_below h.box hb, h.a.below hb, h.b.below hb, h.sep, h.blw.trans (hb.mono h.blw.size)⟩
/-- While a run grows: the box alone turns. -/
structure WithM (w wr : World) (lo hi : Int) (W : World) : Prop where
  box : W.heap[w.heap.size]? = some (.cells #[.int .i64 lo, .int .i64 hi] 274 (0, 0))
  blk : ∀ b, b < wr.heap.size → b ≠ w.heap.size → W.heap[b]? = wr.heap[b]?
  blw : Below w.heap.size w W
  sz : wr.heap.size ≤ W.heap.size
theorem WithM.ext {w wr W W' : World} {lo hi : Int} (h : WithM w wr lo hi W) (hb : Below W.heap.size W W') : WithM w wr lo hi W' :=
  ⟨blk_below h.box hb, fun b hlt hne => (hb.block b (Nat.lt_of_lt_of_le hlt h.sz)).trans (h.blk b hlt hne), h.blw.trans (hb.mono h.blw.size), Nat.le_trans h.sz hb.size⟩
theorem WithM.set0 {w wr W : World} {lo hi : Int} (h : WithM w wr lo hi W) (u : Int) : WithM w wr u hi (W.setCell ⟨w.heap.size, 0, none⟩ (.int .i64 u)) :=
  ⟨heap_set_at (i := 0) h.box _, fun b hlt hne => (Below.heap_setCell _ _ _ _ hne).trans (h.blk b hlt hne), h.blw.setCell (p := ⟨w.heap.size, 0, none⟩) (Nat.le_refl _) _, by simp [World.setCell]; exact h.sz⟩
theorem WithM.set1 {w wr W : World} {lo hi : Int} (h : WithM w wr lo hi W) (u : Int) : WithM w wr lo u (W.setCell ⟨w.heap.size, 1, none⟩ (.int .i64 u)) :=
  ⟨heap_set_at (i := 1) h.box _, fun b hlt hne => (Below.heap_setCell _ _ _ _ hne).trans (h.blk b hlt hne), h.blw.setCell (p := ⟨w.heap.size, 1, none⟩) (Nat.le_refl _) _, by simp [World.setCell]; exact h.sz⟩
theorem WithM.cell {w wr W : World} {lo hi : Int} (h : WithM w wr lo hi W) {g o : Nat} {v : Value} (hg : g < w.heap.size) (hlt : g < wr.heap.size) (hc : wr.cell? ⟨g, o, none⟩ = some v) : W.cell? ⟨g, o, none⟩ = some v :=
  (World.cell?_of_block (h.blk g hlt (by omega))).trans hc
theorem WithM.done {w wr W : World} {L : List (Int × Int)} {x : Int × Int} {q : Nat} {va vb : Value} (h : WithW w L x q wr va vb) {s : WithS} (m : WithM w wr s.x.1 s.x.2 W) (hs : withG L x (q + 1) = s) (hsa : s.ahead = (withG L x q).ahead) (hsb : s.behind = (withG L x q).behind) : WithW w L x (q + 1) W va vb :=
  ⟨by rw [hs]; exact m.box, by rw [hs, hsa]; exact h.a.of_block fun g hg => m.blk g (h.a.lt g hg).2 (by have := (h.a.lt g hg).1; omega), by rw [hs, hsb]; exact h.b.of_block fun g hg => m.blk g (h.b.lt g hg).2 (by have := (h.b.lt g hg).1; omega), h.sep, m.blw⟩
set_option maxHeartbeats 2000000 in
theorem ref5_with (w : World) (A : Option Addr) (cap : Nat) (L : List (Int × Int)) (x : Int × Int) (hS : Sl w w.heap.size encN A L) (hm : L.length ≤ 1000000) (hL : ∀ r ∈ L, wOK r) (hx : wOK x) :
    Calls Tryz.prog 265 #[.slice A L.length cap, .agg #[.int .i64 x.1, .int .i64 x.2]] w (OwnPost 274 encN (withL L x) w) := by
  have hb : Below w.heap.size w (w.alloc (.cells #[.int .i64 x.1, .int .i64 x.2] 274)) := (by repeat (first | with_reducible exact Below.refl _ _ | with_reducible assumption | ((with_reducible refine Below.setCell ?_ ?_ _); rotate_left; · (first | omega | exact Nat.le_refl _ | (simp <;> omega))) | (with_reducible refine Below.allocW ?_ _) | (with_reducible refine Below.drew ?_) | (with_reducible refine Below.extW ?_ _)))
  have S0 := Lib.hid hS
  have HL := Lib.hid hL
  have HG := Lib.hid (withG_len L x)
  have HOK := Lib.hid (withG_ok hL hx)
  have HALL := Lib.hid (withG_all L x)
  have W0 := Lib.hid (show WithW w L x 0 (w.alloc (.cells #[.int .i64 x.1, .int .i64 x.2] 274)) (.slice none 0 0) (.slice none 0 0) from ⟨heap_alloc_new w _, .inl ⟨rfl, rfl⟩, .inl ⟨rfl, rfl⟩, (fun g h => by cases h), hb⟩)
  clear hS hL hx hb
  go_enter Tryz.func265, Tryz.ntmps265
  go_upto_region 1 with fail
  generalize w.alloc (.cells #[.int .i64 x.1, .int .i64 x.2] 274) = wA at W0 ⊢
  go_wp2_with fail
  go_loopw [5, 6, 7] (fun va vb i wr => ∃ (q : Nat), q ≤ L.length ∧ i = .int .i64 q ∧ WithW w L x q wr va vb) (fun _ _ i _ => L.length - (intOf i).toNat)
  case atStart => exact ⟨0, Nat.zero_le _, rfl, W0.out⟩
  case round =>
    obtain ⟨q, hq, rfl, hW⟩ := hrel
    have KW := Lib.hid hW
    have hlen := HG.out q hq
    have hok := HOK.out q hq
    have hszB := hW.blw.size
    have cb := blk_cell hW.box
    have fb := blk_frozen hW.box
    have zb := lt_of_block hW.box
    obtain ⟨Aa, ca, rfl, hca1, hca2, _⟩ := hW.a.form
    obtain ⟨Ab, cbb, rfl, hcb1, hcb2, hSb, _⟩ := hW.b.form
    by_cases hlt : q < L.length
    · obtain ⟨g, off, rfl, hg, hcl⟩ := S0.out.at_ hlt
      have d0' := hcl 0 (.int .i64 L[q].1) rfl
      have d1' := hcl 1 (.int .i64 L[q].2) rfl
      simp only [Nat.add_zero] at d0'
      have d0 := (hW.blw.cell (p := ⟨g, off + q * 2, none⟩) hg).trans d0'
      have d1 := (hW.blw.cell (p := ⟨g, off + q * 2 + 1, none⟩) hg).trans d1'
      have lg : g < wr.heap.size := Nat.lt_of_lt_of_le hg hszB
      have hrk := HL.out _ (List.getElem_mem hlt)
      have ES := Lib.hid (withG_succ (x := x) hlt)
      obtain ⟨r, hr⟩ : ∃ r, r = L[q] := ⟨_, rfl⟩
      rw [← hr] at d0 d1 hrk ES
      obtain ⟨s, hs⟩ : ∃ s, s = withG L x q := ⟨_, rfl⟩
      have HSE := Lib.hid hs
      rw [← hs] at cb hok hlen hca1 hcb1 ES ⊢
      obtain ⟨r1, r2⟩ := r
      obtain ⟨sa, ⟨x1, x2⟩, sb⟩ := s
      simp only [wOK] at cb hok hlen hca1 hcb1 ES d0 d1 hrk ⊢
      obtain ⟨k1, k2, k3, k4⟩ := hok
      obtain ⟨m1, m2, m3, m4⟩ := hrk
      have KV : Hid (WithW w L x q wr (.slice Aa sa.length ca) (.slice Ab sb.length cbb)) := Lib.hid (by have h := KW.out; rw [← HSE.out] at h; exact h)
      have M0 : Hid (WithM w wr x1 x2 wr) := Lib.hid ⟨by have h := hW.box; rw [← HSE.out] at h; exact h, fun _ _ _ => rfl, hW.blw, Nat.le_refl _⟩
      have D0 := Lib.hid (And.intro d0 d1)
      have BW := hW.blw
      clear hcl d0' d1' hr hs hW hSb KW
      have LG := Lib.hid lg
      by_cases c1 : r2 + 1 < x1
      · go_wp2_with fail
        refine wp_region_ext (by kernel_rfl) (by kernel_rfl) ?_
        repeat (go_big_quiet_step (fail))
        refine wpQuiet_nil ?_
        intro w1 hb1
        have EB1 := Lib.hid (below_of_ext hb1)
        have M1 := Lib.hid (M0.out.ext EB1.out)
        clear hb1 cb fb zb d0 d1 lg
        have cb := blk_cell M1.out.box
        have fb := blk_frozen M1.out.box
        have zb := lt_of_block M1.out.box
        have d0 := M1.out.cell hg LG.out D0.out.1
        have d1 := M1.out.cell hg LG.out D0.out.2
        have lg := lt_of_cell d0
        have O1 := Lib.hid (show Own w1 (w.heap.size + 1) 274 encN (.slice Aa sa.length ca) sa from by have h := (KV.out.ext (w' := w1) (EB1.out)).a; rw [← HSE.out] at h; exact h)
        go_wp2_with ((at_builtin; refine wpList_push tyR5 rfl _ _ rfl encN w1 (w.heap.size + 1) _ sa rfl O1.out (r1, r2) (by go_simp) rfl ?c1 ?c2 ?c3 ?c4))
        case c1 => omega
        case c2 => simp only [maxLen]; omega
        case c3 => omega
        case c4 =>
          intro v' w' ho' hg' hs' hv' hb' _
          have hN := Lib.hid (WithW.push (KV.out.ext EB1.out) (s := ⟨sa ++ [(r1, r2)], (x1, x2), sb⟩) (by rw [ES.out]; simp only [withStep]; rw [if_pos c1]) (by first | rfl | rw [← HSE.out]) (by first | rfl | rw [← HSE.out]) (by first | rfl | rw [← HSE.out]) ho' hg' hv')
          clear ho' hg' hb' hv'
          go_wp2_with fail
          go_roundw
          case rel => exact ⟨q + 1, by omega, by go_num, hN.out⟩
          case measure => simp [intOf]; omega
      · have e1 : decide (r2 + 1 < x1) = false := by simpa using c1
        have C1 := Lib.hid c1
        clear c1
        by_cases c2 : x2 + 1 < r1
        · go_wp2_with fail
          refine wp_region_ext (by kernel_rfl) (by kernel_rfl) ?_
          repeat (go_big_quiet_step (fail))
          refine wpQuiet_nil ?_
          intro w1 hb1
          have EB1 := Lib.hid (below_of_ext hb1)
          have M1 := Lib.hid (M0.out.ext EB1.out)
          clear hb1 cb fb zb d0 d1 lg
          have cb := blk_cell M1.out.box
          have fb := blk_frozen M1.out.box
          have zb := lt_of_block M1.out.box
          have d0 := M1.out.cell hg LG.out D0.out.1
          have d1 := M1.out.cell hg LG.out D0.out.2
          have lg := lt_of_cell d0
          go_wp2_with fail
          refine wp_region_ext (by kernel_rfl) (by kernel_rfl) ?_
          repeat (go_big_quiet_step (fail))
          refine wpQuiet_nil ?_
          intro w2 hb2
          have EB2 := Lib.hid (EB1.out.trans ((below_of_ext hb2).mono EB1.out.size))
          have M2 := Lib.hid (M0.out.ext EB2.out)
          clear hb2 cb fb zb d0 d1 lg
          have cb := blk_cell M2.out.box
          have fb := blk_frozen M2.out.box
          have zb := lt_of_block M2.out.box
          have d0 := M2.out.cell hg LG.out D0.out.1
          have d1 := M2.out.cell hg LG.out D0.out.2
          have lg := lt_of_cell d0
          have O2 := Lib.hid (show Own w2 (w.heap.size + 1) 274 encN (.slice Ab sb.length cbb) sb from by have h := (KV.out.ext (w' := w2) (EB2.out)).b; rw [← HSE.out] at h; exact h)
          go_wp2_with ((at_builtin; refine wpList_push tyR5 rfl _ _ rfl encN w2 (w.heap.size + 1) _ sb rfl O2.out (r1, r2) (by go_simp) rfl ?c1 ?c2 ?c3 ?c4))
          case c1 => omega
          case c2 => simp only [maxLen]; omega
          case c3 => omega
          case c4 =>
            intro v' w' ho' hg' hs' hv' hb' _
            have hN := Lib.hid (WithW.pushb (KV.out.ext EB2.out) (s := ⟨sa, (x1, x2), sb ++ [(r1, r2)]⟩) (by rw [ES.out]; simp only [withStep]; rw [if_neg (show ¬ r2 + 1 < x1 by have := C1.out; omega), if_pos c2]) (by first | rfl | rw [← HSE.out]) (by first | rfl | rw [← HSE.out]) (by first | rfl | rw [← HSE.out]) ho' hg' hv')
            clear ho' hg' hb' hv'
            go_wp2_with fail
            go_roundw
            case rel => exact ⟨q + 1, by omega, by go_num, hN.out⟩
            case measure => simp [intOf]; omega
        · have e2 : decide (x2 + 1 < r1) = false := by simpa using c2
          have C2 := Lib.hid c2
          clear c2
          rcases lt_or_dec r1 x1 with c3 | c3
          all_goals rcases lt_or_dec x2 r2 with c4 | c4
          · have C3 := Lib.hid c3
            have C4 := Lib.hid c4
            go_wp2_with fail
            refine wp_region_ext (by kernel_rfl) (by kernel_rfl) ?_
            repeat (go_big_quiet_step (fail))
            refine wpQuiet_nil ?_
            intro w1 hb1
            have EB1 := Lib.hid (below_of_ext hb1)
            have M1 := Lib.hid (M0.out.ext EB1.out)
            clear hb1 cb fb zb d0 d1 lg
            have cb := blk_cell M1.out.box
            have fb := blk_frozen M1.out.box
            have zb := lt_of_block M1.out.box
            have d0 := M1.out.cell hg LG.out D0.out.1
            have d1 := M1.out.cell hg LG.out D0.out.2
            have lg := lt_of_cell d0
            go_wp2_with fail
            refine wp_region_ext (by kernel_rfl) (by kernel_rfl) ?_
            repeat (go_big_quiet_step (fail))
            refine wpQuiet_nil ?_
            intro w2 hb2
            have EB2 := Lib.hid (EB1.out.trans ((below_of_ext hb2).mono EB1.out.size))
            have M2 := Lib.hid (M0.out.ext EB2.out)
            clear hb2 cb fb zb d0 d1 lg
            have cb := blk_cell M2.out.box
            have fb := blk_frozen M2.out.box
            have zb := lt_of_block M2.out.box
            have d0 := M2.out.cell hg LG.out D0.out.1
            have d1 := M2.out.cell hg LG.out D0.out.2
            have lg := lt_of_cell d0
            go_wp2_with fail
            refine wp_region_ext (by kernel_rfl) (by kernel_rfl) ?_
            repeat (go_big_quiet_step (fail))
            refine wpQuiet_nil ?_
            intro w3 hb3
            have EB3 := Lib.hid (EB2.out.trans ((below_of_ext hb3).mono EB2.out.size))
            have M3 := Lib.hid (M0.out.ext EB3.out)
            clear hb3 cb fb zb d0 d1 lg
            have cb := blk_cell M3.out.box
            have fb := blk_frozen M3.out.box
            have zb := lt_of_block M3.out.box
            have d0 := M3.out.cell hg LG.out D0.out.1
            have d1 := M3.out.cell hg LG.out D0.out.2
            have lg := lt_of_cell d0
            have M4 := Lib.hid (M3.out.set0 r1)
            go_upto_region 11 with fail
            generalize w3.setCell ⟨w.heap.size, 0, none⟩ (.int .i64 r1) = w4 at M4 ⊢
            clear cb fb zb d0 d1 lg
            have cb := blk_cell M4.out.box
            have fb := blk_frozen M4.out.box
            have zb := lt_of_block M4.out.box
            have d0 := M4.out.cell hg LG.out D0.out.1
            have d1 := M4.out.cell hg LG.out D0.out.2
            have lg := lt_of_cell d0
            refine wp_region_ext (by kernel_rfl) (by kernel_rfl) ?_
            repeat (go_big_quiet_step (fail))
            refine wpQuiet_nil ?_
            intro w5 hb5
            have M5 := Lib.hid (M4.out.ext (below_of_ext hb5))
            clear hb5 cb fb zb d0 d1 lg
            have cb := blk_cell M5.out.box
            have fb := blk_frozen M5.out.box
            have zb := lt_of_block M5.out.box
            have d0 := M5.out.cell hg LG.out D0.out.1
            have d1 := M5.out.cell hg LG.out D0.out.2
            have lg := lt_of_cell d0
            have M6 := Lib.hid (M5.out.set1 r2)
            have hN := Lib.hid (WithM.done KV.out (s := ⟨sa, (r1, r2), sb⟩) M6.out (by rw [ES.out]; simp only [withStep]; rw [if_neg (show ¬ r2 + 1 < x1 by have := C1.out; omega), if_neg (show ¬ x2 + 1 < r1 by have := C2.out; omega)]; rw [if_pos C3.out]; rw [if_pos C4.out]) (by first | rfl | rw [← HSE.out]) (by first | rfl | rw [← HSE.out]))
            go_wp2_with fail
            go_roundw
            case rel => exact ⟨q + 1, by omega, by go_num, hN.out⟩
            case measure => simp [intOf]; omega
          · have C3 := Lib.hid c3
            have C4 := Lib.hid c4
            go_wp2_with fail
            refine wp_region_ext (by kernel_rfl) (by kernel_rfl) ?_
            repeat (go_big_quiet_step (fail))
            refine wpQuiet_nil ?_
            intro w1 hb1
            have EB1 := Lib.hid (below_of_ext hb1)
            have M1 := Lib.hid (M0.out.ext EB1.out)
            clear hb1 cb fb zb d0 d1 lg
            have cb := blk_cell M1.out.box
            have fb := blk_frozen M1.out.box
            have zb := lt_of_block M1.out.box
            have d0 := M1.out.cell hg LG.out D0.out.1
            have d1 := M1.out.cell hg LG.out D0.out.2
            have lg := lt_of_cell d0
            go_wp2_with fail
            refine wp_region_ext (by kernel_rfl) (by kernel_rfl) ?_
            repeat (go_big_quiet_step (fail))
            refine wpQuiet_nil ?_
            intro w2 hb2
            have EB2 := Lib.hid (EB1.out.trans ((below_of_ext hb2).mono EB1.out.size))
            have M2 := Lib.hid (M0.out.ext EB2.out)
            clear hb2 cb fb zb d0 d1 lg
            have cb := blk_cell M2.out.box
            have fb := blk_frozen M2.out.box
            have zb := lt_of_block M2.out.box
            have d0 := M2.out.cell hg LG.out D0.out.1
            have d1 := M2.out.cell hg LG.out D0.out.2
            have lg := lt_of_cell d0
            go_wp2_with fail
            refine wp_region_ext (by kernel_rfl) (by kernel_rfl) ?_
            repeat (go_big_quiet_step (fail))
            refine wpQuiet_nil ?_
            intro w3 hb3
            have EB3 := Lib.hid (EB2.out.trans ((below_of_ext hb3).mono EB2.out.size))
            have M3 := Lib.hid (M0.out.ext EB3.out)
            clear hb3 cb fb zb d0 d1 lg
            have cb := blk_cell M3.out.box
            have fb := blk_frozen M3.out.box
            have zb := lt_of_block M3.out.box
            have d0 := M3.out.cell hg LG.out D0.out.1
            have d1 := M3.out.cell hg LG.out D0.out.2
            have lg := lt_of_cell d0
            have M4 := Lib.hid (M3.out.set0 r1)
            go_upto_region 11 with fail
            generalize w3.setCell ⟨w.heap.size, 0, none⟩ (.int .i64 r1) = w4 at M4 ⊢
            clear cb fb zb d0 d1 lg
            have cb := blk_cell M4.out.box
            have fb := blk_frozen M4.out.box
            have zb := lt_of_block M4.out.box
            have d0 := M4.out.cell hg LG.out D0.out.1
            have d1 := M4.out.cell hg LG.out D0.out.2
            have lg := lt_of_cell d0
            refine wp_region_ext (by kernel_rfl) (by kernel_rfl) ?_
            repeat (go_big_quiet_step (fail))
            refine wpQuiet_nil ?_
            intro w5 hb5
            have M5 := Lib.hid (M4.out.ext (below_of_ext hb5))
            clear hb5 cb fb zb d0 d1 lg
            have cb := blk_cell M5.out.box
            have fb := blk_frozen M5.out.box
            have zb := lt_of_block M5.out.box
            have d0 := M5.out.cell hg LG.out D0.out.1
            have d1 := M5.out.cell hg LG.out D0.out.2
            have lg := lt_of_cell d0
            have M6 := M5
            have hN := Lib.hid (WithM.done KV.out (s := ⟨sa, (r1, x2), sb⟩) M6.out (by rw [ES.out]; simp only [withStep]; rw [if_neg (show ¬ r2 + 1 < x1 by have := C1.out; omega), if_neg (show ¬ x2 + 1 < r1 by have := C2.out; omega)]; rw [if_pos C3.out]; rw [if_neg (show ¬ x2 < r2 by have := C4.out; simp at this; omega)]) (by first | rfl | rw [← HSE.out]) (by first | rfl | rw [← HSE.out]))
            go_wp2_with fail
            go_roundw
            case rel => exact ⟨q + 1, by omega, by go_num, hN.out⟩
            case measure => simp [intOf]; omega
          · have C3 := Lib.hid c3
            have C4 := Lib.hid c4
            go_wp2_with fail
            refine wp_region_ext (by kernel_rfl) (by kernel_rfl) ?_
            repeat (go_big_quiet_step (fail))
            refine wpQuiet_nil ?_
            intro w1 hb1
            have EB1 := Lib.hid (below_of_ext hb1)
            have M1 := Lib.hid (M0.out.ext EB1.out)
            clear hb1 cb fb zb d0 d1 lg
            have cb := blk_cell M1.out.box
            have fb := blk_frozen M1.out.box
            have zb := lt_of_block M1.out.box
            have d0 := M1.out.cell hg LG.out D0.out.1
            have d1 := M1.out.cell hg LG.out D0.out.2
            have lg := lt_of_cell d0
            go_wp2_with fail
            refine wp_region_ext (by kernel_rfl) (by kernel_rfl) ?_
            repeat (go_big_quiet_step (fail))
            refine wpQuiet_nil ?_
            intro w2 hb2
            have EB2 := Lib.hid (EB1.out.trans ((below_of_ext hb2).mono EB1.out.size))
            have M2 := Lib.hid (M0.out.ext EB2.out)
            clear hb2 cb fb zb d0 d1 lg
            have cb := blk_cell M2.out.box
            have fb := blk_frozen M2.out.box
            have zb := lt_of_block M2.out.box
            have d0 := M2.out.cell hg LG.out D0.out.1
            have d1 := M2.out.cell hg LG.out D0.out.2
            have lg := lt_of_cell d0
            go_wp2_with fail
            refine wp_region_ext (by kernel_rfl) (by kernel_rfl) ?_
            repeat (go_big_quiet_step (fail))
            refine wpQuiet_nil ?_
            intro w3 hb3
            have EB3 := Lib.hid (EB2.out.trans ((below_of_ext hb3).mono EB2.out.size))
            have M3 := Lib.hid (M0.out.ext EB3.out)
            clear hb3 cb fb zb d0 d1 lg
            have cb := blk_cell M3.out.box
            have fb := blk_frozen M3.out.box
            have zb := lt_of_block M3.out.box
            have d0 := M3.out.cell hg LG.out D0.out.1
            have d1 := M3.out.cell hg LG.out D0.out.2
            have lg := lt_of_cell d0
            have M4 := M3
            go_upto_region 11 with fail
            refine wp_region_ext (by kernel_rfl) (by kernel_rfl) ?_
            repeat (go_big_quiet_step (fail))
            refine wpQuiet_nil ?_
            intro w5 hb5
            have M5 := Lib.hid (M4.out.ext (below_of_ext hb5))
            clear hb5 cb fb zb d0 d1 lg
            have cb := blk_cell M5.out.box
            have fb := blk_frozen M5.out.box
            have zb := lt_of_block M5.out.box
            have d0 := M5.out.cell hg LG.out D0.out.1
            have d1 := M5.out.cell hg LG.out D0.out.2
            have lg := lt_of_cell d0
            have M6 := Lib.hid (M5.out.set1 r2)
            have hN := Lib.hid (WithM.done KV.out (s := ⟨sa, (x1, r2), sb⟩) M6.out (by rw [ES.out]; simp only [withStep]; rw [if_neg (show ¬ r2 + 1 < x1 by have := C1.out; omega), if_neg (show ¬ x2 + 1 < r1 by have := C2.out; omega)]; rw [if_neg (show ¬ r1 < x1 by have := C3.out; simp at this; omega)]; rw [if_pos C4.out]) (by first | rfl | rw [← HSE.out]) (by first | rfl | rw [← HSE.out]))
            go_wp2_with fail
            go_roundw
            case rel => exact ⟨q + 1, by omega, by go_num, hN.out⟩
            case measure => simp [intOf]; omega
          · have C3 := Lib.hid c3
            have C4 := Lib.hid c4
            go_wp2_with fail
            refine wp_region_ext (by kernel_rfl) (by kernel_rfl) ?_
            repeat (go_big_quiet_step (fail))
            refine wpQuiet_nil ?_
            intro w1 hb1
            have EB1 := Lib.hid (below_of_ext hb1)
            have M1 := Lib.hid (M0.out.ext EB1.out)
            clear hb1 cb fb zb d0 d1 lg
            have cb := blk_cell M1.out.box
            have fb := blk_frozen M1.out.box
            have zb := lt_of_block M1.out.box
            have d0 := M1.out.cell hg LG.out D0.out.1
            have d1 := M1.out.cell hg LG.out D0.out.2
            have lg := lt_of_cell d0
            go_wp2_with fail
            refine wp_region_ext (by kernel_rfl) (by kernel_rfl) ?_
            repeat (go_big_quiet_step (fail))
            refine wpQuiet_nil ?_
            intro w2 hb2
            have EB2 := Lib.hid (EB1.out.trans ((below_of_ext hb2).mono EB1.out.size))
            have M2 := Lib.hid (M0.out.ext EB2.out)
            clear hb2 cb fb zb d0 d1 lg
            have cb := blk_cell M2.out.box
            have fb := blk_frozen M2.out.box
            have zb := lt_of_block M2.out.box
            have d0 := M2.out.cell hg LG.out D0.out.1
            have d1 := M2.out.cell hg LG.out D0.out.2
            have lg := lt_of_cell d0
            go_wp2_with fail
            refine wp_region_ext (by kernel_rfl) (by kernel_rfl) ?_
            repeat (go_big_quiet_step (fail))
            refine wpQuiet_nil ?_
            intro w3 hb3
            have EB3 := Lib.hid (EB2.out.trans ((below_of_ext hb3).mono EB2.out.size))
            have M3 := Lib.hid (M0.out.ext EB3.out)
            clear hb3 cb fb zb d0 d1 lg
            have cb := blk_cell M3.out.box
            have fb := blk_frozen M3.out.box
            have zb := lt_of_block M3.out.box
            have d0 := M3.out.cell hg LG.out D0.out.1
            have d1 := M3.out.cell hg LG.out D0.out.2
            have lg := lt_of_cell d0
            have M4 := M3
            go_upto_region 11 with fail
            refine wp_region_ext (by kernel_rfl) (by kernel_rfl) ?_
            repeat (go_big_quiet_step (fail))
            refine wpQuiet_nil ?_
            intro w5 hb5
            have M5 := Lib.hid (M4.out.ext (below_of_ext hb5))
            clear hb5 cb fb zb d0 d1 lg
            have cb := blk_cell M5.out.box
            have fb := blk_frozen M5.out.box
            have zb := lt_of_block M5.out.box
            have d0 := M5.out.cell hg LG.out D0.out.1
            have d1 := M5.out.cell hg LG.out D0.out.2
            have lg := lt_of_cell d0
            have M6 := M5
            have hN := Lib.hid (WithM.done KV.out (s := ⟨sa, (x1, x2), sb⟩) M6.out (by rw [ES.out]; simp only [withStep]; rw [if_neg (show ¬ r2 + 1 < x1 by have := C1.out; omega), if_neg (show ¬ x2 + 1 < r1 by have := C2.out; omega)]; rw [if_neg (show ¬ r1 < x1 by have := C3.out; simp at this; omega)]; rw [if_neg (show ¬ x2 < r2 by have := C4.out; simp at this; omega)]) (by first | rfl | rw [← HSE.out]) (by first | rfl | rw [← HSE.out]))
            go_wp2_with fail
            go_roundw
            case rel => exact ⟨q + 1, by omega, by go_num, hN.out⟩
            case measure => simp [intOf]; omega
    · obtain rfl : q = L.length := by omega
      obtain ⟨s, hs⟩ : ∃ s, s = withG L x L.length := ⟨_, rfl⟩
      have HSE := Lib.hid hs
      have OA := Lib.hid hW.a
      have SB := Lib.hid hSb
      have HAL := Lib.hid HALL.out
      have hSep := Lib.hid hW.sep
      have OB := Lib.hid hW.b
      have BW := hW.blw
      rw [← hs] at cb hok hlen hca1 hcb1 OA SB HAL hSep OB ⊢
      obtain ⟨sa, ⟨x1, x2⟩, sb⟩ := s
      simp only [wOK] at cb hok hlen hca1 hcb1 OA SB HAL hSep OB ⊢
      clear hs hW hSb KW W0
      go_wp2_with ((at_builtin; refine wpList_push tyR5 rfl _ _ rfl encN wr (w.heap.size + 1) _ sa rfl OA.out (x1, x2) (by go_simp) rfl ?c1 ?c2 ?c3 ?c4))
      case c1 => omega
      case c2 => simp only [maxLen]; omega
      case c3 => omega
      case c4 =>
        intro v' w' ho' hg' hs' hv' hb' _
        obtain ⟨A5, c5, rfl, _⟩ := ho'.form
        have OB' := OB.out.kept hg' (by
          cases hb : (Value.slice Ab sb.length cbb).ownBlock with
          | none => exact .inl rfl
          | some g => right; intro e; exact hSep.out g e.symm hb)
        have S5 := Lib.hid OB'.sl
        have O5 := Lib.hid ho'
        have B5 := Lib.hid (BW.grown hg' BW.size fun k hk => by have := (OA.out.lt k hk).1; omega)
        have hl5 : (sa ++ [(x1, x2)]).length = sa.length + 1 := by simp
        rw [hl5] at O5 ⊢
        clear ho' hg' hb' hv' OB' hl5
        go_wp2_with ((at_builtin; refine wpList_app tyR5 rfl _ _ rfl encN (w.heap.size + 1) (.slice A5 (sa.length + 1) c5) (sa ++ [(x1, x2)]) rfl O5.out Ab cbb sb w'.heap.size rfl S5.out ?c1 ?c2 ?c3 ?c4))
        case c1 => simp only [List.length_append, List.length_cons, List.length_nil]; omega
        case c2 => simp only [maxLen, List.length_append, List.length_cons, List.length_nil]; omega
        case c3 => have := B5.out.size; omega
        case c4 =>
          intro v6 w6 ho6 _ _ hb6 _
          have O6 := Lib.hid (show Own w6 (w.heap.size + 1) 274 encN v6 (withL L x) by rw [← HAL.out]; simpa using ho6)
          have B6 := Lib.hid (B5.out.trans (hb6.mono (Nat.le_succ _)))
          clear ho6 hb6
          go_wp2_with fail
          go_ret
          exact ⟨_, rfl, O6.out.base_le (Nat.le_succ _), B6.out⟩
end Go.Proofs.YtmadmlkmdnjmaaaGreat
/- Reference 5: runs, lay, Join. -/
namespace Go.Proofs.YtmadmlkmdnjmaaaGreat
open Go.ChangeShapes Go.WideShapes Go.ChangeAt Go.RowKit
set_option linter.unusedVariables false
set_option linter.unusedSimpArgs false
set_option maxRecDepth 100000

theorem runs_ok {l : Nat} {ids : List Int} (hl : l ≤ 48) (hn : ∀ x ∈ ids, isNode l x = true) : ∀ r ∈ runsF l ids, wOK r := by
  intro r hr
  have := runsF_in hn r hr
  have := pow_48 hl
  unfold wOK; omega
theorem ref5_runs (w : World) (l : Nat) (hl : 1 ≤ l ∧ l ≤ 48) (A : Option Addr) (cap : Nat) (ids : List Int) (hS : Sl w w.heap.size encZ A ids) (hm : ids.length ≤ 65536) (hn : ∀ x ∈ ids, isNode l x = true) :
    Calls Tryz.prog 213 #[.int .i64 l, .slice A ids.length cap] w fun e w' => ∃ v, e = .returned (.tuple #[v, .bool true]) ∧ Own w' w.heap.size 274 encN v (runsF l ids) ∧ Below w.heap.size w w' := by
  have HS := Lib.hid hS
  have HN := Lib.hid hn
  have HI := Lib.hid (ref2_Is · l)
  rw [show decide (1 ≤ (l : Int) ∧ (l : Int) ≤ 48) = true by simp; omega] at HI
  have HO := Lib.hid (fun q => runs_ok (ids := ids.take q) hl.2 fun x hx => hn x (List.mem_of_mem_take hx))
  have HLn := Lib.hid (fun q => runsF_len l (ids.take q))
  clear hS hn
  have l2 := hl.2
  clear hl
  go_enter Tryz.func213, Tryz.ntmps213
  go_wp2_with fail
  go_loopw [6, 7] (fun vo i wr => ∃ q : Nat, q ≤ ids.length ∧ i = .int .i64 q ∧ Own wr w.heap.size 274 encN vo (runsF l (ids.take q)) ∧ Below w.heap.size w wr) (fun _ i _ => ids.length - (intOf i).toNat)
  case atStart => exact ⟨0, Nat.zero_le _, rfl, .inl ⟨rfl, rfl⟩, Below.refl _ _⟩
  case round =>
    obtain ⟨q, hq, rfl, hown, hB⟩ := hrel
    have hsz := hB.size
    have KB := Lib.hid hB
    obtain ⟨Ao, co, rfl, hco1, hco2, hSo, _⟩ := hown.form
    have KO := Lib.hid hown
    have KS := Lib.hid hSo
    clear hown hSo
    by_cases hlt : q < ids.length
    · obtain ⟨b1, o1, rfl, hb1, hc1⟩ := HS.out.at_ hlt
      have d1 := hc1 0 (.int .i64 ids[q]) rfl
      simp only [Nat.mul_one, Nat.add_zero] at d1
      have e1 := (hB.cell (p := ⟨b1, o1 + q, none⟩) hb1).trans d1
      have lb1 : b1 < wr.heap.size := Nat.lt_of_lt_of_le hb1 hsz
      have hx := HN.out _ (List.getElem_mem hlt)
      have nx := (node_max hx).2.1
      have HE := Lib.hid (fun W => ref2_Ends W l ids[q] (by omega))
      rw [ends_node hx] at HE
      have hw : wOK (loN l ids[q], hiN l ids[q]) := by
        have h1 := lo_0 hx
        have h2 := hi_top hx
        have h3 := lo_hi hx
        have h4 := pow_48 (n := l) l2
        unfold wOK; simp only; omega
      have hle := HLn.out q
      rw [List.length_take] at hle
      have hle2 : (runsF l (ids.take q)).length ≤ 1000000 := by omega
      have HW := Lib.hid (fun W (h : Sl W W.heap.size encN Ao (runsF l (ids.take q))) => ref5_with W Ao co (runsF l (ids.take q)) (loN l ids[q], hiN l ids[q]) h hle2 (HO.out q) hw)
      have ES := Lib.hid (show runsF l (ids.take (q + 1)) = withL (runsF l (ids.take q)) (loN l ids[q], hiN l ids[q]) by rw [List.take_succ_eq_append_getElem hlt, runsF_snoc])
      simp only at HW
      generalize runsF l (ids.take q) = L at *
      generalize loN l ids[q] = lo at *
      generalize hiN l ids[q] = hi at *
      generalize ids[q] = x at *
      clear hc1 d1 hx hw hle hB
      go_wp2_with fail
      refine (HE.out _).mono ?_
      rintro e w3 ⟨rfl, hb3⟩
      have B3 := Lib.hid (KB.out.trans (hb3.mono hsz))
      have S3 := Lib.hid (KS.out.keep (B' := w3.heap.size) hb3.size fun p hp => hb3.cell hp)
      clear hb3
      go_wp2_with fail
      refine (HW.out _ S3.out).mono ?_
      rintro e w4 ⟨v4, rfl, ho4, hb4⟩
      have B4 := Lib.hid (B3.out.trans (hb4.mono B3.out.size))
      have O4 := Lib.hid (ho4.base_le B3.out.size)
      clear hb4 ho4
      go_wp2_with fail
      go_roundw
      case rel => exact ⟨q + 1, by omega, by go_num, by rw [ES.out]; exact O4.out, B4.out⟩
      case measure => simp [intOf]; omega
    · obtain rfl : q = ids.length := by omega
      rw [List.take_length] at KO hco1 ⊢
      go_wp2_with fail
      refine (HI.out _).mono ?_
      rintro e w3 ⟨rfl, hb3⟩
      have O3 := Lib.hid (KO.out.below hb3)
      have B3 := Lib.hid (KB.out.trans (hb3.mono hsz))
      clear hb3
      go_wp2_with fail
      go_ret2
      exact ⟨_, rfl, O3.out, B3.out⟩
theorem layR_snoc (l : Nat) {L : List (Int × Int)} {q : Nat} (h : q < L.length) : layR l (L.take (q + 1)) = layR l (L.take q) ++ ofTiles l L[q].1 L[q].2 := by
  unfold layR
  rw [List.take_succ_eq_append_getElem h, List.flatMap_append]; simp
set_option maxHeartbeats 8000000 in
theorem ref5_lay (w : World) (l : Nat) (hl : 1 ≤ l ∧ l ≤ 48) (A : Option Addr) (cap : Nat) (L : List (Int × Int)) (hS : Sl w w.heap.size encN A L) (hm : L.length ≤ 65536) (hL : ∀ r ∈ L, 0 ≤ r.1 ∧ r.1 ≤ r.2 ∧ r.2 ≤ 2 ^ l - 1) :
    Calls Tryz.prog 214 #[.int .i64 l, .slice A L.length cap] w (OwnPost 3 encZ (layR l L) w) := by
  have HS := Lib.hid hS
  have HL := Lib.hid hL
  have HO := Lib.hid (fun W a b h1 h2 h3 => ref5_Of W l hl a b h1 h2 h3)
  have HLn := Lib.hid (fun q => layR_len hl (L.take q))
  have HOl := Lib.hid (fun a b => ofTiles_len hl a b)
  clear hS hL hl
  go_enter Tryz.func214, Tryz.ntmps214
  go_wp2_with fail
  go_loopw [5, 6] (fun vo i wr => ∃ q : Nat, q ≤ L.length ∧ i = .int .i64 q ∧ Own wr w.heap.size 3 encZ vo (layR l (L.take q)) ∧ Below w.heap.size w wr) (fun _ i _ => L.length - (intOf i).toNat)
  case atStart => exact ⟨0, Nat.zero_le _, rfl, .inl ⟨rfl, rfl⟩, Below.refl _ _⟩
  case round =>
    obtain ⟨q, hq, rfl, hown, hB⟩ := hrel
    have hsz := hB.size
    have KB := Lib.hid hB
    obtain ⟨Ao, co, rfl, hco1, hco2, _⟩ := hown.form
    have KO := Lib.hid hown
    clear hown
    have hle := HLn.out q
    rw [List.length_take] at hle
    by_cases hlt : q < L.length
    · obtain ⟨b1, o1, rfl, hb1, hc1⟩ := HS.out.at_ hlt
      have d0 := hc1 0 (.int .i64 L[q].1) rfl
      have d1 := hc1 1 (.int .i64 L[q].2) rfl
      simp only [Nat.add_zero] at d0
      have e0 := (hB.cell (p := ⟨b1, o1 + q * 2, none⟩) hb1).trans d0
      have e1 := (hB.cell (p := ⟨b1, o1 + q * 2 + 1, none⟩) hb1).trans d1
      have lb1 : b1 < wr.heap.size := Nat.lt_of_lt_of_le hb1 hsz
      have hr := HL.out _ (List.getElem_mem hlt)
      have HE := Lib.hid (fun W => HO.out W L[q].1 L[q].2 hr.1 hr.2.1 (by omega))
      have ES := Lib.hid (layR_snoc l hlt)
      have hOl := HOl.out L[q].1 L[q].2
      generalize layR l (L.take q) = M at *
      generalize ofTiles l L[q].1 L[q].2 = N at *
      generalize L[q] = r at *
      obtain ⟨r1, r2⟩ := r
      simp only at e0 e1 HE
      clear hc1 d0 d1 hr hB
      go_wp2_with fail
      refine wp_region_noPanic ?_
      refine wp_region_N (fun W => Below wr.heap.size wr W) [] (by kernel_rfl) (Below.drew (Below.refl _ _)) (fun hHeld => ?_)
      refine wpAnyN_pure (i := 0) (v := .int .i64 l) rfl (by kernel_rfl) (by kernel_rfl) (by kernel_rfl) (fun _ _ _ h => h) (Or.inl ⟨by rfl, fun W _ => by go_simp⟩) ?_
      try simp only [Act.put, List.setIfInBounds_toArray, List.set_cons_zero, List.set_cons_succ]
      refine wpAnyN_pure (i := 1) (v := .slice (some ⟨b1, o1, none⟩) L.length cap) rfl (by kernel_rfl) (by kernel_rfl) (by kernel_rfl) (fun _ _ _ h => h) (Or.inl ⟨by rfl, fun W _ => by go_simp⟩) ?_
      try simp only [Act.put, List.setIfInBounds_toArray, List.set_cons_zero, List.set_cons_succ]
      refine wpAnyN_pure (i := 2) (v := .int .i64 q) rfl (by kernel_rfl) (by kernel_rfl) (by kernel_rfl) (fun _ _ _ h => h) (Or.inl ⟨by rfl, fun W _ => by go_simp⟩) ?_
      try simp only [Act.put, List.setIfInBounds_toArray, List.set_cons_zero, List.set_cons_succ]
      refine wpAnyN_pure (i := 3) (v := .pointer (some ⟨b1, o1 + q * 2, none⟩)) rfl (by kernel_rfl) (by kernel_rfl) (by kernel_rfl) (fun _ _ _ h => h) (Or.inl ⟨by rfl, fun W _ => by go_simp⟩) ?_
      try simp only [Act.put, List.setIfInBounds_toArray, List.set_cons_zero, List.set_cons_succ]
      refine wpAnyN_pure (i := 4) (v := .pointer (some ⟨b1, o1 + q * 2, none⟩)) rfl (by kernel_rfl) (by kernel_rfl) (by kernel_rfl) (fun _ _ _ h => h) (Or.inl ⟨by rfl, fun W _ => by go_simp⟩) ?_
      try simp only [Act.put, List.setIfInBounds_toArray, List.set_cons_zero, List.set_cons_succ]
      refine wpAnyN_take (i := 5) (v := .int .i64 r1) rfl (by kernel_rfl) (by kernel_rfl) (by kernel_rfl) (by kernel_rfl) (fun _ _ _ h => h) (Or.inl ⟨by rfl, fun W hW => by have q0 := (hW.cell (p := ⟨b1, o1 + q * 2, none⟩) lb1).trans e0; have q1 := (hW.cell (p := ⟨b1, o1 + q * 2 + 1, none⟩) lb1).trans e1; have q2 := Nat.lt_of_lt_of_le lb1 hW.size; go_simp⟩) hHeld ?_
      try simp only [Act.put, List.setIfInBounds_toArray, List.set_cons_zero, List.set_cons_succ]
      refine wpAnyN_pure (i := 6) (v := .slice (some ⟨b1, o1, none⟩) L.length cap) rfl (by kernel_rfl) (by kernel_rfl) (by kernel_rfl) (fun _ _ _ h => h) (Or.inl ⟨by rfl, fun W _ => by go_simp⟩) ?_
      try simp only [Act.put, List.setIfInBounds_toArray, List.set_cons_zero, List.set_cons_succ]
      refine wpAnyN_pure (i := 7) (v := .int .i64 q) rfl (by kernel_rfl) (by kernel_rfl) (by kernel_rfl) (fun _ _ _ h => h) (Or.inl ⟨by rfl, fun W _ => by go_simp⟩) ?_
      try simp only [Act.put, List.setIfInBounds_toArray, List.set_cons_zero, List.set_cons_succ]
      refine wpAnyN_pure (i := 8) (v := .pointer (some ⟨b1, o1 + q * 2, none⟩)) rfl (by kernel_rfl) (by kernel_rfl) (by kernel_rfl) (fun _ _ _ h => h) (Or.inl ⟨by rfl, fun W _ => by go_simp⟩) ?_
      try simp only [Act.put, List.setIfInBounds_toArray, List.set_cons_zero, List.set_cons_succ]
      refine wpAnyN_pure (i := 9) (v := .pointer (some ⟨b1, o1 + q * 2 + 1, none⟩)) rfl (by kernel_rfl) (by kernel_rfl) (by kernel_rfl) (fun _ _ _ h => h) (Or.inl ⟨by rfl, fun W _ => by go_simp⟩) ?_
      try simp only [Act.put, List.setIfInBounds_toArray, List.set_cons_zero, List.set_cons_succ]
      refine wpAnyN_take (i := 10) (v := .int .i64 r2) rfl (by kernel_rfl) (by kernel_rfl) (by kernel_rfl) (by kernel_rfl) (fun _ _ _ h => h) (Or.inl ⟨by rfl, fun W hW => by have q0 := (hW.cell (p := ⟨b1, o1 + q * 2, none⟩) lb1).trans e0; have q1 := (hW.cell (p := ⟨b1, o1 + q * 2 + 1, none⟩) lb1).trans e1; have q2 := Nat.lt_of_lt_of_le lb1 hW.size; go_simp⟩) hHeld ?_
      try simp only [Act.put, List.setIfInBounds_toArray, List.set_cons_zero, List.set_cons_succ]
      have BW0 := hHeld
      clear hHeld e0 e1 lb1
      generalize wr.drew = V0 at BW0 ⊢
      refine wpAnyN_one (i := 11) (by kernel_rfl) rfl (fun K hK => ?_)
      go_simp
      refine (HE.out _).mono ?_
      rintro e V1 ⟨v, rfl, hov, hb⟩
      have BW1 := BW0.trans (hb.mono BW0.size)
      have ON := Lib.hid hov
      obtain ⟨A6, c6, rfl, _⟩ := hov.form
      refine hK.out _ _ (fun _ _ => BW1) ?_
      clear hK K hb hov
      try simp only [Act.put, List.setIfInBounds_toArray, List.set_cons_zero, List.set_cons_succ]
      refine wpAnyN_pure (i := 12) (v := .tuple #[.slice A6 N.length c6, .bool true]) rfl (by kernel_rfl) (by kernel_rfl) (by kernel_rfl) (fun _ _ _ h => h) (Or.inl ⟨by rfl, fun W _ => by go_simp⟩) ?_
      try simp only [Act.put, List.setIfInBounds_toArray, List.set_cons_zero, List.set_cons_succ]
      refine wpAnyN_pure (i := 13) (v := .slice A6 N.length c6) rfl (by kernel_rfl) (by kernel_rfl) (by kernel_rfl) (fun _ _ _ h => h) (Or.inl ⟨by rfl, fun W _ => by go_simp⟩) ?_
      try simp only [Act.put, List.setIfInBounds_toArray, List.set_cons_zero, List.set_cons_succ]
      refine wpAnyN_pure (i := 14) (v := .bool true) rfl (by kernel_rfl) (by kernel_rfl) (by kernel_rfl) (fun _ _ _ h => h) (Or.inl ⟨by rfl, fun W _ => by go_simp⟩) ?_
      try simp only [Act.put, List.setIfInBounds_toArray, List.set_cons_zero, List.set_cons_succ]
      refine wpAnyN_pure (i := 15) (v := .slice A6 N.length c6) rfl (by kernel_rfl) (by kernel_rfl) (by kernel_rfl) (fun _ _ _ h => h) (Or.inl ⟨by rfl, fun W _ => by go_simp⟩) ?_
      try simp only [Act.put, List.setIfInBounds_toArray, List.set_cons_zero, List.set_cons_succ]
      refine wpAnyN_one (i := 16) (by kernel_rfl) rfl (fun K hK => ?_)
      go_simp
      refine hK.out _ _ (fun _ h => h) ?_
      clear hK K
      try simp only [Act.put, List.setIfInBounds_toArray, List.set_cons_zero, List.set_cons_succ]
      refine wpAnyN_done (by kernel_rfl) ?_ _
      refine NoPanic.normal ?_
      have O2 := Lib.hid (KO.out.below BW1)
      have B2 := Lib.hid (KB.out.trans (BW1.mono hsz))
      have SN := Lib.hid ON.out.sl
      clear BW1 BW0 ON
      go_wp2_with ((at_builtin; refine wpList_app tyZ rfl _ _ rfl encZ w.heap.size (.slice Ao M.length co) M rfl O2.out A6 c6 N V1.heap.size rfl SN.out ?c1 ?c2 ?c3 ?c4))
      case c1 => omega
      case c2 => simp only [maxLen]; omega
      case c3 => exact B2.out.size
      case c4 =>
        intro v' w' ho' _ _ hb' _
        have O7 := Lib.hid ho'
        have B7 := Lib.hid (B2.out.trans hb')
        clear ho' hb'
        go_wp2_with fail
        go_roundw
        case rel => exact ⟨q + 1, by omega, by go_num, by rw [ES.out]; exact O7.out, B7.out⟩
        case measure => simp [intOf]; omega
    · obtain rfl : q = L.length := by omega
      rw [List.take_length] at KO ⊢
      go_wp2_with fail
      go_ret
      exact ⟨_, rfl, KO.out, KB.out⟩
theorem ref5_Join (w : World) (l : Nat) (hl : 1 ≤ l ∧ l ≤ 48) (A : Option Addr) (cap : Nat) (ids : List Int) (hS : Sl w w.heap.size encZ A ids) (hm : ids.length ≤ 65536) (hn : ∀ x ∈ ids, isNode l x = true) :
    Calls Tryz.prog 152 #[.int .i64 l, .slice A ids.length cap] w fun e w' => ∃ v, e = .returned (.tuple #[v, .bool true]) ∧ Own w' w.heap.size 3 encZ v (layR l (runsF l ids)) ∧ Below w.heap.size w w' := by
  have HS := Lib.hid hS
  have HR := Lib.hid (fun W h => ref5_runs W l hl A cap ids h hm hn)
  have hrl := runsF_len l ids
  have hrm : (runsF l ids).length ≤ 65536 := by omega
  have HL := Lib.hid (fun W A2 c2 h => ref5_lay W l hl A2 c2 (runsF l ids) h hrm (runsF_in hn))
  clear hS hn hl
  go_enter Tryz.func152, Tryz.ntmps152
  go_wp2_with fail
  refine (HR.out _ HS.out).mono ?_
  rintro e w1 ⟨v, rfl, ho, hb1⟩
  obtain ⟨A1, c1, rfl, _, _, hS1, _⟩ := ho.form
  have S1 := Lib.hid hS1
  have B1 := Lib.hid hb1
  clear ho hS1 hb1
  go_wp2_with fail
  refine (HL.out _ A1 c1 S1.out).mono ?_
  rintro e w2 ⟨v2, rfl, ho2, hb2⟩
  obtain ⟨A2, c2, rfl, _⟩ := ho2.form
  have O2 := Lib.hid (ho2.base_le B1.out.size)
  have B2 := Lib.hid (B1.out.trans (hb2.mono B1.out.size))
  clear ho2 hb2
  go_wp2_with fail
  go_ret2
  exact ⟨_, rfl, O2.out, B2.out⟩
end Go.Proofs.YtmadmlkmdnjmaaaGreat
/- Package tiles: all, Of whole. -/
namespace Go.Proofs.YtmadmlkmdnjmaaaGreat
open Go.ChangeShapes Go.WideShapes Go.ChangeAt Go.RowKit
set_option linter.unusedVariables false
set_option linter.unusedSimpArgs false
set_option maxRecDepth 100000

@[local go_sem] theorem run_store_func' (P : Program) (w : World) (a : Addr) (m : Mode) (f : Fn) (ts : Array Value) (cs : Array Value) : (store a (.func f ts cs) m).run P w = stored P w a (.func f ts cs) m := run_store P w a _ m rfl
theorem tiles_universe (w : World) (l : Nat) (hl : 1 ≤ l ∧ l ≤ 48) : Calls Tryz.prog 159 #[.int .i64 l] w fun e w' => e = .returned (.bool true) ∧ Below w.heap.size w w' := by
  have HR := Lib.hid (isNode_root hl).1
  clear hl
  go_enter Tryz.func159, Tryz.ntmps159
  go_wp2_with fail
  refine (twig_Right _ l 1).mono ?_
  rintro e w1 ⟨rfl, hb1⟩
  have B1 : Below w.heap.size w w1 := Below.then_ (by repeat (first | with_reducible exact Below.refl _ _ | with_reducible assumption | ((with_reducible refine Below.setCell ?_ ?_ _); rotate_left; · (first | omega | exact Nat.le_refl _ | (simp <;> omega))) | (with_reducible refine Below.allocW ?_ _) | (with_reducible refine Below.drew ?_) | (with_reducible refine Below.extW ?_ _))) hb1
  have s1 : w.heap.size ≤ w1.heap.size := B1.size
  rw [HR.out]
  go_wp2_with fail
  go_ret
  exact ⟨rfl, (by repeat (first | with_reducible exact Below.refl _ _ | with_reducible assumption | ((with_reducible refine Below.setCell ?_ ?_ _); rotate_left; · (first | omega | exact Nat.le_refl _ | (simp <;> omega))) | (with_reducible refine Below.allocW ?_ _) | (with_reducible refine Below.drew ?_) | (with_reducible refine Below.extW ?_ _)))⟩
theorem all_take {p : Int → Bool} {L : List Int} {q : Nat} (h : q < L.length) (h1 : (L.take q).all p = true) (h2 : p L[q] = true) : (L.take (q + 1)).all p = true := by
  rw [List.take_succ_eq_append_getElem h, List.all_append, h1]; simp [h2]
theorem tilesAll (w : World) (l : Nat) (hl : 1 ≤ l ∧ l ≤ 48) (A : Option Addr) (cap : Nat) (ids : List Int) (hS : Sl w w.heap.size encZ A ids) (hm : ids.length ≤ 67108864) :
    Calls Tryz.prog 89 #[.int .i64 l, .slice A ids.length cap] w fun e w' => e = .returned (.bool (ids.all (isNode l))) ∧ Below w.heap.size w w' := by
  have HS := Lib.hid hS
  have HU := Lib.hid (fun W => tiles_universe W l hl)
  clear hS hl
  go_enter Tryz.func89, Tryz.ntmps89
  go_wp2_with fail
  go_loopw [9] (fun i wr => ∃ q : Nat, q ≤ ids.length ∧ i = .int .i64 q ∧ (ids.take q).all (isNode l) = true ∧ Below w.heap.size w wr) (fun i _ => ids.length - (intOf i).toNat)
  case atStart => exact ⟨0, Nat.zero_le _, rfl, by simp, Below.refl _ _⟩
  case round =>
    obtain ⟨q, hq, rfl, hall, hB⟩ := hrel
    have hsz := hB.size
    have HA := Lib.hid hall
    clear hall
    by_cases hlt : q < ids.length
    · obtain ⟨b1, o1, rfl, hb1, hc1⟩ := HS.out.at_ hlt
      have d1 := hc1 0 (.int .i64 ids[q]) rfl
      simp only [Nat.mul_one, Nat.add_zero] at d1
      have e1 := (hB.cell (p := ⟨b1, o1 + q, none⟩) hb1).trans d1
      have lb1 : b1 < wr.heap.size := Nat.lt_of_lt_of_le hb1 hsz
      have HN := Lib.hid (fun (h : isNode l ids[q] = true) => all_take hlt HA.out h)
      have HF := Lib.hid (fun (h : isNode l ids[q] = false) => show ids.all (isNode l) = false by
        rw [← Bool.not_eq_true, List.all_eq_true]
        intro h'
        have := h' _ (List.getElem_mem hlt)
        rw [h] at this; cases this)
      have HR := Lib.hid (fun W => twig_Right W l ids[q])
      generalize ids[q] = x at e1 HN HF HR
      clear hc1 d1
      cases hN : isNode l x
      · have E := Lib.hid (HF.out hN)
        go_wp2_with fail
        refine (HR.out _).mono ?_
        rintro e w3 ⟨rfl, hb3⟩
        rw [hN]
        go_wp2_with fail
        go_ret
        exact ⟨by rw [E.out]; rfl, hB.trans (hb3.mono hsz)⟩
      · have E := Lib.hid (HN.out hN)
        go_wp2_with fail
        refine (HR.out _).mono ?_
        rintro e w3 ⟨rfl, hb3⟩
        rw [hN]
        have B3 := hB.trans (hb3.mono hsz)
        go_wp2_with fail
        go_roundw
        case rel => exact ⟨q + 1, by omega, by go_num, E.out, B3⟩
        case measure => simp [intOf]; omega
    · obtain rfl : q = ids.length := by omega
      rw [List.take_length] at HA
      go_wp2_with fail
      refine (HU.out _).mono ?_
      rintro e w3 ⟨rfl, hb3⟩
      go_wp2_with fail
      go_ret
      exact ⟨by rw [HA.out]; rfl, hB.trans (hb3.mono hsz)⟩
/-- The boxes of Of. -/
theorem layAt_new (w w1 : World) (l : Nat) (a b : Int) (cl : w1.heap[w.heap.size]? = some (.cells #[.int .i64 l] 3 (0, 0))) (ca : w1.heap[w.heap.size + 1]? = some (.cells #[.int .i64 a] 3 (0, 0))) (cb : w1.heap[w.heap.size + 1 + 1]? = some (.cells #[.int .i64 b] 3 (0, 0))) :
    LayAt ((w1.alloc (.cells #[.slice none 0 0] 49)).alloc (.cells #[.func (.func 97) #[] #[.pointer (some ⟨w.heap.size, 0, none⟩), .pointer (some ⟨w.heap.size + 1, 0, none⟩), .pointer (some ⟨w.heap.size + 1 + 1, 0, none⟩), .pointer (some ⟨w1.heap.size, 0, none⟩), .pointer (some ⟨w1.heap.size + 1, 0, none⟩)]] 158))
      (w1.heap.size + 1 + 1) l a b w.heap.size (w.heap.size + 1) (w.heap.size + 1 + 1) w1.heap.size (w1.heap.size + 1) (.slice none 0 0) [] := by
  have z1 := lt_of_block cl
  have z2 := lt_of_block ca
  have z3 := lt_of_block cb
  have f : ∀ q ob, q < w1.heap.size → w1.heap[q]? = some ob → ∀ u, ((w1.alloc (.cells #[.slice none 0 0] 49)).alloc (.cells #[u] 158)).heap[q]? = some ob := fun q ob hq h u =>
    (heap_new_lt _ _ _ (by simp; omega)).trans ((heap_new_lt _ _ _ hq).trans h)
  refine ⟨f _ _ z1 cl _, f _ _ z2 ca _, f _ _ z3 cb _, ?_, ?_, .inl ⟨rfl, rfl⟩, by omega, by omega, by omega, by omega, by omega, by simp, by omega⟩
  · exact (heap_new_lt _ _ _ (by simp)).trans (heap_alloc_new w1 _)
  · exact heap_new_at (w1.alloc (.cells #[.slice none 0 0] 49)) (.cells #[_] 158) _ (by simp)
theorem tiles_Of (w : World) (l : Nat) (hl : 1 ≤ l ∧ l ≤ 48) (a b : Int) (ha : 0 ≤ a) (hab : a ≤ b) (hb : b < 2 ^ l) :
    Calls Tryz.prog 35 #[.int .i64 l, .int .i64 a, .int .i64 b] w fun e w' => ∃ v, e = .returned (.tuple #[v, .bool true]) ∧ Own w' w.heap.size 3 encZ v (ofTiles l a b) ∧ Below w.heap.size w w' := by
  have HA := Lib.hid (fun W => twig_Leaf W l a hl.1 hl.2)
  have HB := Lib.hid (fun W => twig_Leaf W l b hl.1 hl.2)
  rw [leafV_yes (by unfold isVal; simp; omega)] at HA HB
  have HLen := ofTiles_len hl a b
  have HLay := Lib.hid (fun (W : World) (B : Nat) v (hB : w.heap.size ≤ B) (h : LayAt W (B + 1 + 1) l a b w.heap.size (w.heap.size + 1) (w.heap.size + 1 + 1) B (B + 1) v []) => tiles_lay l a b w.heap.size (w.heap.size + 1) (w.heap.size + 1 + 1) B (B + 1) w.heap.size (B + 1 + 1) hB (by omega) l W v [] 1 (isNode_root hl).1 (by rw [root_log]; omega) h (by simp only [List.length_nil, Nat.zero_add]; unfold ofTiles at HLen; omega))
  have hdec : decide (b < a) = false := by simp; omega
  have K0 := Lib.hid (show (((w.alloc (.cells #[.int .i64 l] 3)).alloc (.cells #[.int .i64 a] 3)).alloc (.cells #[.int .i64 b] 3)).heap[w.heap.size]? = some (.cells #[.int .i64 l] 3 (0, 0)) from (heap_new_lt _ _ _ (by simp; omega)).trans ((heap_new_lt _ _ _ (by simp)).trans (heap_alloc_new w _)))
  have K1 := Lib.hid (show (((w.alloc (.cells #[.int .i64 l] 3)).alloc (.cells #[.int .i64 a] 3)).alloc (.cells #[.int .i64 b] 3)).heap[w.heap.size + 1]? = some (.cells #[.int .i64 a] 3 (0, 0)) from (heap_new_lt _ _ _ (by simp)).trans (heap_new_at (w.alloc _) _ _ (by simp)))
  have K2 := Lib.hid (show (((w.alloc (.cells #[.int .i64 l] 3)).alloc (.cells #[.int .i64 a] 3)).alloc (.cells #[.int .i64 b] 3)).heap[w.heap.size + 1 + 1]? = some (.cells #[.int .i64 b] 3 (0, 0)) from heap_new_at ((w.alloc _).alloc _) _ _ (by simp))
  have BW : Hid (Below w.heap.size w (((w.alloc (.cells #[.int .i64 l] 3)).alloc (.cells #[.int .i64 a] 3)).alloc (.cells #[.int .i64 b] 3))) := Lib.hid (by repeat (first | with_reducible exact Below.refl _ _ | with_reducible assumption | ((with_reducible refine Below.setCell ?_ ?_ _); rotate_left; · (first | omega | exact Nat.le_refl _ | (simp <;> omega))) | (with_reducible refine Below.allocW ?_ _) | (with_reducible refine Below.drew ?_) | (with_reducible refine Below.extW ?_ _)))
  clear hl ha hab hb HLen
  go_enter Tryz.func35, Tryz.ntmps35
  go_upto_region 1 with fail
  generalize ((w.alloc (.cells #[.int .i64 l] 3)).alloc (.cells #[.int .i64 a] 3)).alloc (.cells #[.int .i64 b] 3) = W0 at K0 K1 K2 BW ⊢
  have c0 := blk_cell K0.out
  have z0 := lt_of_block K0.out
  have c1 := blk_cell K1.out
  have z1 := lt_of_block K1.out
  go_wp2_with fail
  refine (HA.out _).mono ?_
  rintro e w1 ⟨rfl, hb1⟩
  have L0 := Lib.hid (blk_below K0.out hb1)
  have L1 := Lib.hid (blk_below K1.out hb1)
  have L2 := Lib.hid (blk_below K2.out hb1)
  have B1 := Lib.hid (BW.out.trans (hb1.mono BW.out.size))
  clear hb1 c0 z0 c1 z1 K0 K1 K2 BW
  have c0 := blk_cell L0.out
  have z0 := lt_of_block L0.out
  have c2 := blk_cell L2.out
  have z2 := lt_of_block L2.out
  go_wp2_with fail
  refine (HB.out _).mono ?_
  rintro e w2 ⟨rfl, hb2⟩
  have M0 := Lib.hid (blk_below L0.out hb2)
  have M1 := Lib.hid (blk_below L1.out hb2)
  have M2 := Lib.hid (blk_below L2.out hb2)
  have B2 := Lib.hid (B1.out.trans (hb2.mono B1.out.size))
  clear hb2 c0 z0 c2 z2 L0 L1 L2 B1
  have c1 := blk_cell M1.out
  have z1 := lt_of_block M1.out
  have c2 := blk_cell M2.out
  have z2 := lt_of_block M2.out
  go_upto_region 8 with fail
  have hB2 := B2.out.size
  have LN := Lib.hid (layAt_new w w2 l a b M0.out M1.out M2.out)
  have BN : Hid (Below w.heap.size w ((w2.alloc (.cells #[.slice none 0 0] 49)).alloc (.cells #[.func (.func 97) #[] #[.pointer (some ⟨w.heap.size, 0, none⟩), .pointer (some ⟨w.heap.size + 1, 0, none⟩), .pointer (some ⟨w.heap.size + 1 + 1, 0, none⟩), .pointer (some ⟨w2.heap.size, 0, none⟩), .pointer (some ⟨w2.heap.size + 1, 0, none⟩)]] 158))) := Lib.hid (Below.allocW (Below.allocW B2.out _) _)
  clear c1 z1 c2 z2 M0 M1 M2 B2
  generalize hB : w2.heap.size = B at LN BN hB2 ⊢
  generalize (w2.alloc (.cells #[.slice none 0 0] 49)).alloc (.cells #[.func (.func 97) #[] #[.pointer (some ⟨w.heap.size, 0, none⟩), .pointer (some ⟨w.heap.size + 1, 0, none⟩), .pointer (some ⟨w.heap.size + 1 + 1, 0, none⟩), .pointer (some ⟨B, 0, none⟩), .pointer (some ⟨B + 1, 0, none⟩)]] 158) = W3 at LN BN ⊢
  clear hB
  have cf := blk_cell LN.out.cf
  have zf := lt_of_block LN.out.cf
  go_wp2_with fail
  refine (HLay.out W3 B _ hB2 LN.out).mono ?_
  rintro e w4 ⟨rfl, ⟨v4, hL4⟩, hb4⟩
  have B4 := Lib.hid (BN.out.trans hb4)
  have O4 := Lib.hid hL4.own
  have co := blk_cell hL4.co
  have zo := lt_of_block hL4.co
  obtain ⟨A4, cap4, rfl, _⟩ := O4.out.form
  rw [List.nil_append] at O4
  clear cf zf hb4 hL4
  go_wp2_with fail
  go_ret2
  exact ⟨_, rfl, O4.out.base_le (by omega), B4.out⟩
theorem tiles_Of_no (w : World) (l : Nat) (hl : 1 ≤ l ∧ l ≤ 48) (a b : Int) (h : ¬ (0 ≤ a ∧ a ≤ b ∧ b < 2 ^ l)) :
    Calls Tryz.prog 35 #[.int .i64 l, .int .i64 a, .int .i64 b] w fun e w' => e = .returned (.tuple #[.slice none 0 0, .bool false]) ∧ Below w.heap.size w w' := by
  have HA := Lib.hid (fun W => twig_Leaf W l a hl.1 hl.2)
  have HB := Lib.hid (fun W => twig_Leaf W l b hl.1 hl.2)
  have hcase : isVal l a = false ∨ (isVal l a = true ∧ isVal l b = false) ∨ (isVal l a = true ∧ isVal l b = true ∧ b < a) := by
    unfold isVal
    by_cases c1 : 0 ≤ a ∧ a < 2 ^ l
    · by_cases c2 : 0 ≤ b ∧ b < 2 ^ l
      · exact .inr (.inr ⟨by simp; omega, by simp; omega, by omega⟩)
      · exact .inr (.inl ⟨by simp; omega, by simp; omega⟩)
    · exact .inl (by simp; omega)
  clear h hl
  have main : ∀ (xa xb : Int) (pa pb : Bool), leafV l a = .tuple #[.int .i64 xa, .bool pa] → leafV l b = .tuple #[.int .i64 xb, .bool pb] → (pa = false ∨ (pa = true ∧ pb = false) ∨ (pa = true ∧ pb = true ∧ b < a)) →
      Calls Tryz.prog 35 #[.int .i64 l, .int .i64 a, .int .i64 b] w fun e w' => e = .returned (.tuple #[.slice none 0 0, .bool false]) ∧ Below w.heap.size w w' := by
    intro xa xb pa pb ea eb hc
    rw [ea] at HA
    rw [eb] at HB
    clear hcase ea eb
    rcases hc with rfl | ⟨rfl, rfl⟩ | ⟨rfl, rfl, hab⟩
    all_goals (
      go_enter Tryz.func35, Tryz.ntmps35
      go_wp2_with fail
      refine (HA.out _).mono ?_
      rintro e w1 ⟨rfl, hb1⟩
      have B1 : Below w.heap.size w w1 := Below.then_ (by repeat (first | with_reducible exact Below.refl _ _ | with_reducible assumption | ((with_reducible refine Below.setCell ?_ ?_ _); rotate_left; · (first | omega | exact Nat.le_refl _ | (simp <;> omega))) | (with_reducible refine Below.allocW ?_ _) | (with_reducible refine Below.drew ?_) | (with_reducible refine Below.extW ?_ _))) hb1
      have s1 : w.heap.size ≤ w1.heap.size := B1.size
      have z1_0 : w.heap.size < w1.heap.size := by have := hb1.size; (try simp at this); omega
      have y1_0 : w.heap.size ≤ w1.heap.size := Nat.le_of_lt z1_0
      have c1_0 := fun o => hb1.cell (p := ⟨w.heap.size, o, none⟩) (by first | omega | (simp <;> omega))
      have f1_0 := fun o => hb1.frozen (p := ⟨w.heap.size, o, none⟩) (by first | omega | (simp <;> omega))
      have z1_1 : w.heap.size + 1 < w1.heap.size := by have := hb1.size; (try simp at this); omega
      have y1_1 : w.heap.size + 1 ≤ w1.heap.size := Nat.le_of_lt z1_1
      have c1_1 := fun o => hb1.cell (p := ⟨w.heap.size + 1, o, none⟩) (by first | omega | (simp <;> omega))
      have f1_1 := fun o => hb1.frozen (p := ⟨w.heap.size + 1, o, none⟩) (by first | omega | (simp <;> omega))
      have z1_2 : w.heap.size + 1 + 1 < w1.heap.size := by have := hb1.size; (try simp at this); omega
      have y1_2 : w.heap.size + 1 + 1 ≤ w1.heap.size := Nat.le_of_lt z1_2
      have c1_2 := fun o => hb1.cell (p := ⟨w.heap.size + 1 + 1, o, none⟩) (by first | omega | (simp <;> omega))
      have f1_2 := fun o => hb1.frozen (p := ⟨w.heap.size + 1 + 1, o, none⟩) (by first | omega | (simp <;> omega))
      go_wp2_with fail
      refine (HB.out _).mono ?_
      rintro e w2 ⟨rfl, hb2⟩
      have B2 : Below w.heap.size w w2 := Below.then_ (by repeat (first | with_reducible exact Below.refl _ _ | with_reducible assumption | ((with_reducible refine Below.setCell ?_ ?_ _); rotate_left; · (first | omega | exact Nat.le_refl _ | (simp <;> omega))) | (with_reducible refine Below.allocW ?_ _) | (with_reducible refine Below.drew ?_) | (with_reducible refine Below.extW ?_ _))) hb2
      have s2 : w.heap.size ≤ w2.heap.size := B2.size
      have z2_0 : w.heap.size < w2.heap.size := by have := hb2.size; (try simp at this); omega
      have y2_0 : w.heap.size ≤ w2.heap.size := Nat.le_of_lt z2_0
      have c2_0 := fun o => hb2.cell (p := ⟨w.heap.size, o, none⟩) (by first | omega | (simp <;> omega))
      have f2_0 := fun o => hb2.frozen (p := ⟨w.heap.size, o, none⟩) (by first | omega | (simp <;> omega))
      have z2_1 : w.heap.size + 1 < w2.heap.size := by have := hb2.size; (try simp at this); omega
      have y2_1 : w.heap.size + 1 ≤ w2.heap.size := Nat.le_of_lt z2_1
      have c2_1 := fun o => hb2.cell (p := ⟨w.heap.size + 1, o, none⟩) (by first | omega | (simp <;> omega))
      have f2_1 := fun o => hb2.frozen (p := ⟨w.heap.size + 1, o, none⟩) (by first | omega | (simp <;> omega))
      have z2_2 : w.heap.size + 1 + 1 < w2.heap.size := by have := hb2.size; (try simp at this); omega
      have y2_2 : w.heap.size + 1 + 1 ≤ w2.heap.size := Nat.le_of_lt z2_2
      have c2_2 := fun o => hb2.cell (p := ⟨w.heap.size + 1 + 1, o, none⟩) (by first | omega | (simp <;> omega))
      have f2_2 := fun o => hb2.frozen (p := ⟨w.heap.size + 1 + 1, o, none⟩) (by first | omega | (simp <;> omega))
      go_wp2_with fail
      go_ret2
      exact ⟨rfl, B2⟩)
  refine main _ _ _ _ rfl rfl ?_
  exact hcase
end Go.Proofs.YtmadmlkmdnjmaaaGreat
/- A call that draws, and lays blocks, and does nothing else: what the library's sort asks of its comparator. Package tiles: the comparator. -/
namespace Go.Proofs.YtmadmlkmdnjmaaaGreat
open Go.ChangeShapes Go.WideShapes Go.ChangeAt Go.RowKit
set_option linter.unusedVariables false
set_option linter.unusedSimpArgs false
set_option maxRecDepth 100000

/-- So many draws, and new blocks. -/
structure GrX where
  q : Nat
  os : Array Obj
instance : Inhabited GrX := ⟨⟨0, #[]⟩⟩
def grW (w : World) (x : GrX) : World := Go.Sort.grow (w.drewN x.q) x.os
def Gr (w w' : World) : Prop := ∃ x, w' = grW w x
theorem Gr.refl (w : World) : Gr w w := ⟨⟨0, #[]⟩, by unfold grW; rw [Go.Sort.grow_empty]; rfl⟩
theorem Gr.trans {w w1 w2 : World} (h : Gr w w1) (k : Gr w1 w2) : Gr w w2 := by
  obtain ⟨⟨q, os⟩, rfl⟩ := h
  obtain ⟨⟨q', os'⟩, rfl⟩ := k
  refine ⟨⟨q + q', os ++ os'⟩, ?_⟩
  simp [grW, Go.Sort.grow, World.drewN, Nat.add_assoc]
theorem Gr.alloc {w w1 : World} (h : Gr w w1) (o : Obj) : Gr w (w1.alloc o) := by
  obtain ⟨⟨q, os⟩, rfl⟩ := h
  exact ⟨⟨q, os.push o⟩, by simp [grW, Go.Sort.grow, World.drewN, World.alloc]⟩
theorem Gr.drew {w w1 : World} (h : Gr w w1) : Gr w w1.drew := by
  obtain ⟨⟨q, os⟩, rfl⟩ := h
  exact ⟨⟨q + 1, os⟩, by simp [grW, Go.Sort.grow, World.drewN, World.drew, Nat.add_assoc]⟩
theorem Gr.below {w w1 : World} (h : Gr w w1) : Below w.heap.size w w1 := by
  obtain ⟨⟨q, os⟩, rfl⟩ := h
  refine ⟨rfl, rfl, rfl, by simp [grW, Go.Sort.grow, World.drewN], fun k hk => ?_⟩
  simp [grW, Go.Sort.grow, World.drewN, Array.getElem?_append, hk]
@[go_sem] theorem grW_size (W : World) (x : GrX) : (grW W x).heap.size = W.heap.size + x.os.size := by simp [grW, Go.Sort.grow, World.drewN]
@[go_sem] theorem grW_cell (W : World) (x : GrX) (b o : Nat) (s : Option Nat) (h : b < W.heap.size) : (grW W x).cell? ⟨b, o, s⟩ = W.cell? ⟨b, o, s⟩ :=
  (Gr.below ⟨x, rfl⟩).cell (p := ⟨b, o, s⟩) h
@[go_sem] theorem grW_frozen (W : World) (x : GrX) (b o : Nat) (s : Option Nat) (h : b < W.heap.size) : (grW W x).frozen? ⟨b, o, s⟩ = W.frozen? ⟨b, o, s⟩ :=
  (Gr.below ⟨x, rfl⟩).frozen (p := ⟨b, o, s⟩) h
theorem wp_region_gr {P : Program} {id : Nat} {Q : Exit → Act → World → Prop} {a : Act} {w : World} {l : List Oper} (hm : P.follows .mixedOrders = true) (hB : Region.lexB .any l.toArray = true)
    (h : wpQuiet P l.toArray (fun w' => ∃ x, w' = grW w x) (fun a' => ∀ w', (∃ x, w' = grW w x) → Q .normal a' w') l a) : (Code.region id l.toArray true).wp P Q a w :=
  wp_region_quiet (C := fun w' => ∃ x, w' = grW w x) hm hB (Gr.refl w).drew (by simpa using h)
theorem quiet_gr {P : Program} {f : FuncId} {args : Array Value} {w : World} {x : GrX} {v : Value} (h : Calls P f args (grW w x) fun e w' => e = .returned v ∧ Gr (grW w x) w') : Calls P f args (grW w x) fun e w'' => e = .returned v ∧ ∃ y, w'' = grW w y :=
  h.mono fun _ _ ⟨he, hb⟩ => ⟨he, Gr.trans ⟨x, rfl⟩ hb⟩
theorem universe_G (w : World) (l : Int) : Calls Tryz.prog 164 #[.int .i64 l] w fun e w' => e = .returned (.bool (decide (1 ≤ l ∧ l ≤ 48))) ∧ Gr w w' := by
  by_cases h1 : 1 ≤ l
  · go_enter Tryz.func164, Tryz.ntmps164
    go_wp2_with fail
    go_ret
    exact ⟨ret_bool (by simp [h1]), (by repeat (first | with_reducible exact Gr.refl _ | with_reducible assumption | with_reducible refine Gr.drew ?_ | with_reducible refine Gr.alloc ?_ _))⟩
  · go_enter Tryz.func164, Tryz.ntmps164
    go_wp2_with fail
    go_ret
    exact ⟨ret_bool (by simp; omega), (by repeat (first | with_reducible exact Gr.refl _ | with_reducible assumption | with_reducible refine Gr.drew ?_ | with_reducible refine Gr.alloc ?_ _))⟩
theorem right_G (w : World) (l : Nat) (id : Int) (h : isNode l id = true) : Calls Tryz.prog 155 #[.int .i64 l, .int .i64 id] w fun e w' => e = .returned (.bool true) ∧ Gr w w' := by
  have hl := isNode_l h
  have hp := pow_48 (n := l) (by omega)
  have hq := pow_pos' l
  have h1 : 1 ≤ id := by simp only [isNode, decide_eq_true_eq] at h; omega
  have h2 : id < 2 * 2 ^ l := by simp only [isNode, decide_eq_true_eq, Int.toNat_natCast] at h; omega
  have E1 := Lib.hid (show decide (1 ≤ (l : Int) ∧ (l : Int) ≤ 48) = true by simp; omega)
  have l1 : (1 : Int) ≤ (l : Int) := by omega
  have l2 : (l : Int) ≤ 48 := by omega
  clear h hl
  go_enter Tryz.func155, Tryz.ntmps155
  go_wp2_with fail
  refine (universe_G _ _).mono ?_
  rintro e w1 ⟨rfl, hg1⟩
  have G1 : Gr w w1 := Gr.trans (by repeat (first | with_reducible exact Gr.refl _ | with_reducible assumption | with_reducible refine Gr.drew ?_ | with_reducible refine Gr.alloc ?_ _)) hg1
  rw [E1.out]
  go_wp2_with fail
  go_ret
  exact ⟨ret_bool (by simp <;> omega), (by repeat (first | with_reducible exact Gr.refl _ | with_reducible assumption | with_reducible refine Gr.drew ?_ | with_reducible refine Gr.alloc ?_ _))⟩
theorem log_G (w : World) (n : Int) (h1 : 1 ≤ n) (hn : n ≤ 9223372036854775807) : Calls Tryz.prog 216 #[.int .i64 n] w fun e w' => e = .returned (.tuple #[.int .i64 n.toNat.log2, .bool true]) ∧ Gr w w' := by
  have hl : (Lib.bitLen n.toNat : Int) = n.toNat.log2 + 1 := by
    have := bitLen_log n.toNat (by omega) (by omega)
    omega
  have hb : n.toNat.log2 < 64 := (Nat.log2_lt (by omega)).2 (by omega)
  have HL := Lib.hid hl
  clear hl
  have h2 : 0 ≤ n := by omega
  go_enter Tryz.func216, Tryz.ntmps216
  go_wp2_with fail
  refine (Tryz.bits_Len64 _ _ (by omega) (by omega)).mono ?_
  rintro e w1 ⟨rfl, rfl⟩
  rw [HL.out]
  go_wp2_with fail
  go_ret2
  exact ⟨by simp, (by repeat (first | with_reducible exact Gr.refl _ | with_reducible assumption | with_reducible refine Gr.drew ?_ | with_reducible refine Gr.alloc ?_ _))⟩
theorem depth_G (w : World) (n : Int) (h1 : 1 ≤ n) (hn : n ≤ 9223372036854775807) : Calls Tryz.prog 156 #[.int .i64 n] w fun e w' => e = .returned (.tuple #[.int .i64 n.toNat.log2, .bool true]) ∧ Gr w w' := by
  go_enter Tryz.func156, Tryz.ntmps156
  go_wp2_with fail
  refine (log_G _ n h1 hn).mono ?_
  rintro e w1 ⟨rfl, hg1⟩
  have G1 : Gr w w1 := Gr.trans (by repeat (first | with_reducible exact Gr.refl _ | with_reducible assumption | with_reducible refine Gr.drew ?_ | with_reducible refine Gr.alloc ?_ _)) hg1
  go_wp2_with fail
  go_ret2
  exact ⟨rfl, (by repeat (first | with_reducible exact Gr.refl _ | with_reducible assumption | with_reducible refine Gr.drew ?_ | with_reducible refine Gr.alloc ?_ _))⟩
theorem ends_G (w : World) (n : Nat) (id : Int) (hN : isNode n id = true) : Calls Tryz.prog 85 #[.int .i64 n, .int .i64 id] w fun e w' => e = .returned (.tuple #[.int .i64 (loN n id), .int .i64 (hiN n id), .bool true]) ∧ Gr w w' := by
  have HR := Lib.hid (fun W => right_G W n id hN)
  obtain ⟨n', x, e0, rfl, hn1, hn2, hx1, hx2⟩ := isNode_nat hN
  obtain rfl : n' = n := by omega
  obtain ⟨d, b, t, hd, hb, hdb, hxt, htd, hprod⟩ := node_facts hn2 hx1 hx2
  have e1 : endsOf n' x = ((t : Int) * 2 ^ b, (t : Int) * 2 ^ b + 2 ^ b - 1, true) := by
    simp only [endsOf, hN, if_true, Int.toNat_natCast, hd, hb]
    have : (x : Int) - 2 ^ d = t := by rw [hxt]; push_cast; omega
    rw [this]
  have e2 : loN n' x = (t : Int) * 2 ^ b := by unfold loN; rw [e1]
  have e3 : hiN n' x = (t : Int) * 2 ^ b + 2 ^ b - 1 := by unfold hiN; rw [e1]
  rw [e2, e3]
  have E2 := Lib.hid hd
  have q1 : (n' : Int) - (d : Int) = (b : Int) := by omega
  have q2 : (x : Int) - 2 ^ d = (t : Int) := by rw [hxt]; push_cast; omega
  have q3 := pow_pos' b
  have q4 := pow_48 (n := b) (by omega)
  have q5 := pow_48 (n := n') hn2
  have q6 := pow_48 (n := d) (by omega)
  have q7 := pow_pos' d
  have q8 : (t : Int) * 2 ^ b + 2 ^ b ≤ 2 ^ n' := by
    have h : (((t + 1) * 2 ^ b : Nat) : Int) ≤ ((2 ^ n' : Nat) : Int) := by exact_mod_cast hprod
    push_cast at h
    rw [Int.add_mul, Int.one_mul] at h
    exact h
  have q9 : 0 ≤ (t : Int) * 2 ^ b := Int.mul_nonneg (by omega) (by omega)
  have q10 : (x : Int) ≤ 562949953421312 := by omega
  have Q := Lib.hid (And.intro hxt (And.intro htd hprod))
  clear e1 e2 e3 hN hd hb hxt htd hprod hx2 e0
  go_enter Tryz.func85, Tryz.ntmps85
  go_wp2_with fail
  refine (HR.out _).mono ?_
  rintro e w1 ⟨rfl, hg1⟩
  have G1 : Gr w w1 := Gr.trans (by repeat (first | with_reducible exact Gr.refl _ | with_reducible assumption | with_reducible refine Gr.drew ?_ | with_reducible refine Gr.alloc ?_ _)) hg1
  go_wp2_with fail
  refine (depth_G _ x (by omega) (by omega)).mono ?_
  rintro e w2 ⟨rfl, hg2⟩
  have G2 : Gr w w2 := Gr.trans (by repeat (first | with_reducible exact Gr.refl _ | with_reducible assumption | with_reducible refine Gr.drew ?_ | with_reducible refine Gr.alloc ?_ _)) hg2
  simp only [Int.toNat_natCast, E2.out]
  go_wp2_with fail
  refine wp_region_gr (by kernel_rfl) (by kernel_rfl) ?_
  repeat (go_big_quiet_step (fail))
  refine wpQuiet_nil ?_
  intro w3 hg3
  have G3 : Gr w w3 := Gr.trans (by repeat (first | with_reducible exact Gr.refl _ | with_reducible assumption | with_reducible refine Gr.drew ?_ | with_reducible refine Gr.alloc ?_ _)) hg3
  go_wp2_with fail
  go_ret3
  exact ⟨rfl, (by repeat (first | with_reducible exact Gr.refl _ | with_reducible assumption | with_reducible refine Gr.drew ?_ | with_reducible refine Gr.alloc ?_ _))⟩
theorem first_G (w : World) (l : Nat) (id : Int) (hN : isNode l id = true) : Calls Tryz.prog 144 #[.int .i64 l, .int .i64 id] w fun e w' => e = .returned (.int .i64 (loN l id)) ∧ Gr w w' := by
  have HE := Lib.hid (fun W => ends_G W l id hN)
  go_enter Tryz.func144, Tryz.ntmps144
  go_wp2_with fail
  refine (HE.out _).mono ?_
  rintro e w1 ⟨rfl, hg1⟩
  have G1 : Gr w w1 := Gr.trans (by repeat (first | with_reducible exact Gr.refl _ | with_reducible assumption | with_reducible refine Gr.drew ?_ | with_reducible refine Gr.alloc ?_ _)) hg1
  go_wp2_with fail
  go_ret
  exact ⟨rfl, (by repeat (first | with_reducible exact Gr.refl _ | with_reducible assumption | with_reducible refine Gr.drew ?_ | with_reducible refine Gr.alloc ?_ _))⟩
/-- By the first value, then by the number. -/
def cmpT (l : Nat) (a b : Int) : Int := if loN l a ≠ loN l b then loN l a - loN l b else a - b
theorem tiles_cmp (w : World) (l : Nat) (a b : Int) (p : Nat) (ha : isNode l a = true) (hb : isNode l b = true) (hc : w.cell? ⟨p, 0, none⟩ = some (.int .i64 l)) : Calls Tryz.prog 143 #[.int .i64 a, .int .i64 b, .pointer (some ⟨p, 0, none⟩)] w fun e w' => e = .returned (.int .i64 (cmpT l a b)) ∧ Gr w w' := by
  have HA := Lib.hid (fun W => first_G W l a ha)
  have HB := Lib.hid (fun W => first_G W l b hb)
  have i0 := lo_0 ha
  have i1 := hi_top ha
  have i2 := lo_hi ha
  have j0 := lo_0 hb
  have j1 := hi_top hb
  have j2 := lo_hi hb
  have hp := pow_48 (n := l) (isNode_l ha).2
  have a1 : 1 ≤ a := by simp only [isNode, decide_eq_true_eq] at ha; omega
  have a2 : a < 2 * 2 ^ l := by simp only [isNode, decide_eq_true_eq, Int.toNat_natCast] at ha; omega
  have b1 : 1 ≤ b := by simp only [isNode, decide_eq_true_eq] at hb; omega
  have b2 : b < 2 * 2 ^ l := by simp only [isNode, decide_eq_true_eq, Int.toNat_natCast] at hb; omega
  have HE : Hid (cmpT l a b = if loN l a ≠ loN l b then loN l a - loN l b else a - b) := Lib.hid rfl
  generalize loN l a = x at HA HE i0 i2
  generalize loN l b = y at HB HE j0 j2
  have zp := lt_of_cell hc
  have x1 : x ≤ 562949953421312 := by omega
  have y1 : y ≤ 562949953421312 := by omega
  have a3 : a ≤ 562949953421312 := by omega
  have b3 : b ≤ 562949953421312 := by omega
  clear ha hb i1 i2 j1 j2 hp a2 b2
  by_cases hxy : x = y
  · have E := Lib.hid (show cmpT l a b = a - b by rw [HE.out, if_neg (by simpa using hxy)])
    subst hxy
    go_enter Tryz.func143, Tryz.ntmps143
    go_upto_region 1 with fail
    refine wp_region_gr (by kernel_rfl) (by kernel_rfl) ?_
    repeat (go_big_quiet_step (first | (go_at_call_of 144 (Value.int .i64 a); exact quiet_gr (HA.out _)) | (go_at_call_of 144 (Value.int .i64 b); exact quiet_gr (HB.out _))))
    refine wpQuiet_nil ?_
    intro w3 hg3
    have G3 : Gr w w3 := hg3
    go_wp2_with fail
    go_ret
    exact ⟨ret_int E.out.symm, (by repeat (first | with_reducible exact Gr.refl _ | with_reducible assumption | with_reducible refine Gr.drew ?_ | with_reducible refine Gr.alloc ?_ _))⟩
  · have E := Lib.hid (show cmpT l a b = x - y by rw [HE.out, if_pos hxy])
    go_enter Tryz.func143, Tryz.ntmps143
    go_upto_region 1 with fail
    refine wp_region_gr (by kernel_rfl) (by kernel_rfl) ?_
    repeat (go_big_quiet_step (first | (go_at_call_of 144 (Value.int .i64 a); exact quiet_gr (HA.out _)) | (go_at_call_of 144 (Value.int .i64 b); exact quiet_gr (HB.out _))))
    refine wpQuiet_nil ?_
    intro w3 hg3
    have G3 : Gr w w3 := hg3
    go_wp2_with fail
    go_ret
    exact ⟨ret_int E.out.symm, (by repeat (first | with_reducible exact Gr.refl _ | with_reducible assumption | with_reducible refine Gr.drew ?_ | with_reducible refine Gr.alloc ?_ _))⟩
end Go.Proofs.YtmadmlkmdnjmaaaGreat
