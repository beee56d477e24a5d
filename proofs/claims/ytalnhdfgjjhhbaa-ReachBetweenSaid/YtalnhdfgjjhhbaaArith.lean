/- Packages reckon and twig: what their calls answer. -/
import Derived.Test.YtalnhdfgjjhhbaaBase
import Derived.Test.YtalnhdfgjjhhbaaShelf
import Derived.Lib.ItoaNum
namespace Go.Proofs.Ytalnhdfgjjhhbaa
open Go.ChangeShapes Go.WideShapes Go.ChangeAt Go.RowKit
set_option linter.unusedVariables false

/-- A node of a universe. -/
def isNode (l id : Int) : Bool := decide ((1 ≤ l ∧ l ≤ 48) ∧ 1 ≤ id ∧ id < 2 * 2 ^ l.toNat)
theorem pow_pos' (n : Nat) : (0 : Int) < 2 ^ n := by
  have := Nat.two_pow_pos n
  have h : ((2 ^ n : Nat) : Int) = 2 ^ n := by simp
  omega
theorem pow_le' {n m : Nat} (h : n ≤ m) : (2 : Int) ^ n ≤ 2 ^ m := by
  have := Nat.pow_le_pow_right (n := 2) (by decide) h
  have h1 : ((2 ^ n : Nat) : Int) = 2 ^ n := by simp
  have h2 : ((2 ^ m : Nat) : Int) = 2 ^ m := by simp
  omega
theorem pow_48 {n : Nat} (h : n ≤ 48) : (2 : Int) ^ n ≤ 281474976710656 := by
  have := pow_le' h
  simpa using this

theorem universe_ (w : World) (l : Int) : Calls Try.prog 85 #[.int .i64 l] w fun e w' => e = .returned (.bool (decide (1 ≤ l ∧ l ≤ 48))) ∧ Below w.heap.size w w' := by
  by_cases h1 : 1 ≤ l
  · go_enter Try.func85, Try.ntmps85
    go_wp2_with fail
    go_ret
    exact ⟨ret_bool (by simp [h1]), (by repeat (first | with_reducible exact Below.refl _ _ | with_reducible assumption | ((with_reducible refine Below.setCell ?_ ?_ _); rotate_left; · (first | omega | exact Nat.le_refl _ | (simp <;> omega))) | (with_reducible refine Below.allocW ?_ _) | (with_reducible refine Below.drew ?_) | (with_reducible refine Below.extW ?_ _)))⟩
  · go_enter Try.func85, Try.ntmps85
    go_wp2_with fail
    go_ret
    exact ⟨ret_bool (by simp; omega), (by repeat (first | with_reducible exact Below.refl _ _ | with_reducible assumption | ((with_reducible refine Below.setCell ?_ ?_ _); rotate_left; · (first | omega | exact Nat.le_refl _ | (simp <;> omega))) | (with_reducible refine Below.allocW ?_ _) | (with_reducible refine Below.drew ?_) | (with_reducible refine Below.extW ?_ _)))⟩

theorem twig_Right (w : World) (l id : Int) : Calls Try.prog 61 #[.int .i64 l, .int .i64 id] w fun e w' => e = .returned (.bool (isNode l id)) ∧ Below w.heap.size w w' := by
  by_cases h1 : 1 ≤ l ∧ l ≤ 48
  · by_cases h2 : 1 ≤ id
    · obtain ⟨n, rfl⟩ := Int.eq_ofNat_of_zero_le (show 0 ≤ l by omega)
      have hp := pow_48 (n := n) (by omega)
      have hq := pow_pos' n
      have e0 : isNode n id = decide (id < 2 * 2 ^ n) := by simp [isNode, h1, h2]
      have E0 := Lib.hid e0
      have e1 : decide (1 ≤ (n : Int) ∧ (n : Int) ≤ 48) = true := by simpa using h1
      have E1 := Lib.hid e1
      clear e0 e1
      go_enter Try.func61, Try.ntmps61
      go_wp2_with fail
      refine (universe_ _ _).mono ?_
      rintro e w1 ⟨rfl, hb1⟩
      have B1 : Below w.heap.size w w1 := Below.then_ (by repeat (first | with_reducible exact Below.refl _ _ | with_reducible assumption | ((with_reducible refine Below.setCell ?_ ?_ _); rotate_left; · (first | omega | exact Nat.le_refl _ | (simp <;> omega))) | (with_reducible refine Below.allocW ?_ _) | (with_reducible refine Below.drew ?_) | (with_reducible refine Below.extW ?_ _))) hb1
      have s1 : w.heap.size ≤ w1.heap.size := B1.size
      rw [E1.out]
      go_wp2_with fail
      go_ret
      exact ⟨ret_bool E0.out.symm, (by repeat (first | with_reducible exact Below.refl _ _ | with_reducible assumption | ((with_reducible refine Below.setCell ?_ ?_ _); rotate_left; · (first | omega | exact Nat.le_refl _ | (simp <;> omega))) | (with_reducible refine Below.allocW ?_ _) | (with_reducible refine Below.drew ?_) | (with_reducible refine Below.extW ?_ _)))⟩
    · have e0 : isNode l id = false := by simp [isNode, h2]
      have E0 := Lib.hid e0
      have e1 : decide (1 ≤ l ∧ l ≤ 48) = true := by simpa using h1
      have E1 := Lib.hid e1
      clear e0 e1
      go_enter Try.func61, Try.ntmps61
      go_wp2_with fail
      refine (universe_ _ _).mono ?_
      rintro e w1 ⟨rfl, hb1⟩
      have B1 : Below w.heap.size w w1 := Below.then_ (by repeat (first | with_reducible exact Below.refl _ _ | with_reducible assumption | ((with_reducible refine Below.setCell ?_ ?_ _); rotate_left; · (first | omega | exact Nat.le_refl _ | (simp <;> omega))) | (with_reducible refine Below.allocW ?_ _) | (with_reducible refine Below.drew ?_) | (with_reducible refine Below.extW ?_ _))) hb1
      have s1 : w.heap.size ≤ w1.heap.size := B1.size
      rw [E1.out]
      go_wp2_with fail
      go_ret
      exact ⟨ret_bool E0.out.symm, (by repeat (first | with_reducible exact Below.refl _ _ | with_reducible assumption | ((with_reducible refine Below.setCell ?_ ?_ _); rotate_left; · (first | omega | exact Nat.le_refl _ | (simp <;> omega))) | (with_reducible refine Below.allocW ?_ _) | (with_reducible refine Below.drew ?_) | (with_reducible refine Below.extW ?_ _)))⟩
  · have e0 : isNode l id = false := by simp [isNode, h1]
    have E0 := Lib.hid e0
    have e1 : decide (1 ≤ l ∧ l ≤ 48) = false := by simpa using h1
    have E1 := Lib.hid e1
    clear e0 e1
    go_enter Try.func61, Try.ntmps61
    go_wp2_with fail
    refine (universe_ _ _).mono ?_
    rintro e w1 ⟨rfl, hb1⟩
    have B1 : Below w.heap.size w w1 := Below.then_ (by repeat (first | with_reducible exact Below.refl _ _ | with_reducible assumption | ((with_reducible refine Below.setCell ?_ ?_ _); rotate_left; · (first | omega | exact Nat.le_refl _ | (simp <;> omega))) | (with_reducible refine Below.allocW ?_ _) | (with_reducible refine Below.drew ?_) | (with_reducible refine Below.extW ?_ _))) hb1
    have s1 : w.heap.size ≤ w1.heap.size := B1.size
    rw [E1.out]
    go_wp2_with fail
    go_ret
    exact ⟨ret_bool E0.out.symm, (by repeat (first | with_reducible exact Below.refl _ _ | with_reducible assumption | ((with_reducible refine Below.setCell ?_ ?_ _); rotate_left; · (first | omega | exact Nat.le_refl _ | (simp <;> omega))) | (with_reducible refine Below.allocW ?_ _) | (with_reducible refine Below.drew ?_) | (with_reducible refine Below.extW ?_ _)))⟩

/-- Lib.bitLen and the power of two below a number. -/
theorem bitLen_log (n : Nat) (h0 : n ≠ 0) (h : n < 2 ^ 64) : Lib.bitLen n = n.log2 + 1 := by
  have := Lib.bitLenAux_bounds 64 n h h0
  have h1 : 2 ^ (Lib.bitLen n - 1) ≤ n := this.2.1
  have h2 : n < 2 ^ Lib.bitLen n := this.2.2
  have h3 : 1 ≤ Lib.bitLen n := this.1
  have h4 := Nat.log2_self_le h0
  have h5 : n < 2 ^ (n.log2 + 1) := Nat.lt_log2_self
  have h6 : n.log2 < Lib.bitLen n := (Nat.pow_lt_pow_iff_right (by decide : 1 < 2)).1 (Nat.lt_of_le_of_lt h4 h2)
  have h7 : Lib.bitLen n - 1 < n.log2 + 1 := (Nat.pow_lt_pow_iff_right (by decide : 1 < 2)).1 (Nat.lt_of_le_of_lt h1 h5)
  omega

theorem reckon_Log (w : World) (n : Int) (hn : n ≤ 9223372036854775807) : Calls Try.prog 86 #[.int .i64 n] w fun e w' =>
    e = .returned (if 1 ≤ n then .tuple #[.int .i64 n.toNat.log2, .bool true] else .tuple #[.int .i64 0, .bool false]) ∧ Below w.heap.size w w' := by
  by_cases h1 : 1 ≤ n
  · rw [if_pos h1]
    have hl : (Lib.bitLen n.toNat : Int) = n.toNat.log2 + 1 := by
      have := bitLen_log n.toNat (by omega) (by omega)
      omega
    have hb : n.toNat.log2 < 64 := (Nat.log2_lt (by omega)).2 (by omega)
    have HL := Lib.hid hl
    clear hl
    have h2 : 0 ≤ n := by omega
    go_enter Try.func86, Try.ntmps86
    go_wp2_with fail
    refine (Try.bits_Len64 _ _ (by omega) (by omega)).mono ?_
    rintro e w1 ⟨rfl, rfl⟩
    rw [HL.out]
    go_wp2_with fail
    go_ret2
    exact ⟨by simp, (by repeat (first | with_reducible exact Below.refl _ _ | with_reducible assumption | ((with_reducible refine Below.setCell ?_ ?_ _); rotate_left; · (first | omega | exact Nat.le_refl _ | (simp <;> omega))) | (with_reducible refine Below.allocW ?_ _) | (with_reducible refine Below.drew ?_) | (with_reducible refine Below.extW ?_ _)))⟩
  · rw [if_neg h1]
    go_enter Try.func86, Try.ntmps86
    go_wp2_with fail
    go_ret2
    exact ⟨rfl, (by repeat (first | with_reducible exact Below.refl _ _ | with_reducible assumption | ((with_reducible refine Below.setCell ?_ ?_ _); rotate_left; · (first | omega | exact Nat.le_refl _ | (simp <;> omega))) | (with_reducible refine Below.allocW ?_ _) | (with_reducible refine Below.drew ?_) | (with_reducible refine Below.extW ?_ _)))⟩

theorem twig_Depth (w : World) (n : Int) (hn : n ≤ 9223372036854775807) : Calls Try.prog 62 #[.int .i64 n] w fun e w' =>
    e = .returned (if 1 ≤ n then .tuple #[.int .i64 n.toNat.log2, .bool true] else .tuple #[.int .i64 0, .bool false]) ∧ Below w.heap.size w w' := by
  by_cases h1 : 1 ≤ n
  · rw [if_pos h1]
    go_enter Try.func62, Try.ntmps62
    go_wp2_with fail
    refine (reckon_Log _ n hn).mono ?_
    rintro e w1 ⟨rfl, hb1⟩
    have B1 : Below w.heap.size w w1 := Below.then_ (by repeat (first | with_reducible exact Below.refl _ _ | with_reducible assumption | ((with_reducible refine Below.setCell ?_ ?_ _); rotate_left; · (first | omega | exact Nat.le_refl _ | (simp <;> omega))) | (with_reducible refine Below.allocW ?_ _) | (with_reducible refine Below.drew ?_) | (with_reducible refine Below.extW ?_ _))) hb1
    have s1 : w.heap.size ≤ w1.heap.size := B1.size
    rw [if_pos h1]
    go_wp2_with fail
    go_ret2
    exact ⟨rfl, (by repeat (first | with_reducible exact Below.refl _ _ | with_reducible assumption | ((with_reducible refine Below.setCell ?_ ?_ _); rotate_left; · (first | omega | exact Nat.le_refl _ | (simp <;> omega))) | (with_reducible refine Below.allocW ?_ _) | (with_reducible refine Below.drew ?_) | (with_reducible refine Below.extW ?_ _)))⟩
  · rw [if_neg h1]
    go_enter Try.func62, Try.ntmps62
    go_wp2_with fail
    refine (reckon_Log _ n hn).mono ?_
    rintro e w1 ⟨rfl, hb1⟩
    have B1 : Below w.heap.size w w1 := Below.then_ (by repeat (first | with_reducible exact Below.refl _ _ | with_reducible assumption | ((with_reducible refine Below.setCell ?_ ?_ _); rotate_left; · (first | omega | exact Nat.le_refl _ | (simp <;> omega))) | (with_reducible refine Below.allocW ?_ _) | (with_reducible refine Below.drew ?_) | (with_reducible refine Below.extW ?_ _))) hb1
    have s1 : w.heap.size ≤ w1.heap.size := B1.size
    rw [if_neg (by omega)]
    go_wp2_with fail
    go_ret2
    exact ⟨rfl, (by repeat (first | with_reducible exact Below.refl _ _ | with_reducible assumption | ((with_reducible refine Below.setCell ?_ ?_ _); rotate_left; · (first | omega | exact Nat.le_refl _ | (simp <;> omega))) | (with_reducible refine Below.allocW ?_ _) | (with_reducible refine Below.drew ?_) | (with_reducible refine Below.extW ?_ _)))⟩

/-- The depth of a node, and what the ends are made of. -/
theorem node_facts {n x : Nat} (hn : n ≤ 48) (h1 : 1 ≤ x) (h2 : (x : Int) < 2 * 2 ^ n) : ∃ d b t : Nat, x.log2 = d ∧ n - d = b ∧ d + b = n ∧ x = 2 ^ d + t ∧ t < 2 ^ d ∧ (t + 1) * 2 ^ b ≤ 2 ^ n := by
  have hx : x < 2 ^ (n + 1) := by
    have : ((2 ^ (n + 1) : Nat) : Int) = 2 * 2 ^ n := by rw [Nat.pow_succ]; simp; omega
    omega
  have hd : x.log2 < n + 1 := (Nat.log2_lt (by omega)).2 hx
  have h3 := Nat.log2_self_le (show x ≠ 0 by omega)
  have h4 : x < 2 ^ (x.log2 + 1) := Nat.lt_log2_self
  rw [Nat.pow_succ] at h4
  refine ⟨x.log2, n - x.log2, x - 2 ^ x.log2, rfl, rfl, by omega, by omega, by omega, ?_⟩
  have h5 : (x - 2 ^ x.log2 + 1) ≤ 2 ^ x.log2 := by omega
  calc (x - 2 ^ x.log2 + 1) * 2 ^ (n - x.log2) ≤ 2 ^ x.log2 * 2 ^ (n - x.log2) := Nat.mul_le_mul_right _ h5
    _ = 2 ^ n := by rw [← Nat.pow_add]; congr 1; omega

/-- The ends of a node. -/
def endsOf (l id : Int) : Int × Int × Bool :=
  if isNode l id = true then ((id - 2 ^ id.toNat.log2) * 2 ^ (l.toNat - id.toNat.log2), (id - 2 ^ id.toNat.log2) * 2 ^ (l.toNat - id.toNat.log2) + 2 ^ (l.toNat - id.toNat.log2) - 1, true) else (0, 0, false)
def endsV (r : Int × Int × Bool) : Value := .tuple #[.int .i64 r.1, .int .i64 r.2.1, .bool r.2.2]
theorem isNode_nat {l id : Int} (h : isNode l id = true) : ∃ n x : Nat, l = n ∧ id = x ∧ 1 ≤ n ∧ n ≤ 48 ∧ 1 ≤ x ∧ (x : Int) < 2 * 2 ^ n := by
  simp only [isNode, decide_eq_true_eq] at h
  obtain ⟨⟨h1, h2⟩, h3, h4⟩ := h
  obtain ⟨n, rfl⟩ := Int.eq_ofNat_of_zero_le (show 0 ≤ l by omega)
  obtain ⟨x, rfl⟩ := Int.eq_ofNat_of_zero_le (show 0 ≤ id by omega)
  exact ⟨n, x, rfl, rfl, by omega, by omega, by omega, by simpa using h4⟩

set_option maxRecDepth 100000 in
theorem twig_Ends (w : World) (l id : Int) (hid : id ≤ 9223372036854775807) : Calls Try.prog 33 #[.int .i64 l, .int .i64 id] w fun e w' => e = .returned (endsV (endsOf l id)) ∧ Below w.heap.size w w' := by
  cases hN : isNode l id
  · have e1 : endsOf l id = (0, 0, false) := by simp [endsOf, hN]
    rw [e1]
    have E1 := Lib.hid hN
    clear e1 hN
    go_enter Try.func33, Try.ntmps33
    go_wp2_with fail
    refine (twig_Right _ l id).mono ?_
    rintro e w1 ⟨rfl, hb1⟩
    have B1 : Below w.heap.size w w1 := Below.then_ (by repeat (first | with_reducible exact Below.refl _ _ | with_reducible assumption | ((with_reducible refine Below.setCell ?_ ?_ _); rotate_left; · (first | omega | exact Nat.le_refl _ | (simp <;> omega))) | (with_reducible refine Below.allocW ?_ _) | (with_reducible refine Below.drew ?_) | (with_reducible refine Below.extW ?_ _))) hb1
    have s1 : w.heap.size ≤ w1.heap.size := B1.size
    rw [E1.out]
    go_wp2_with fail
    go_ret3
    exact ⟨rfl, (by repeat (first | with_reducible exact Below.refl _ _ | with_reducible assumption | ((with_reducible refine Below.setCell ?_ ?_ _); rotate_left; · (first | omega | exact Nat.le_refl _ | (simp <;> omega))) | (with_reducible refine Below.allocW ?_ _) | (with_reducible refine Below.drew ?_) | (with_reducible refine Below.extW ?_ _)))⟩
  · obtain ⟨n, x, rfl, rfl, hn1, hn2, hx1, hx2⟩ := isNode_nat hN
    obtain ⟨d, b, t, hd, hb, hdb, hxt, htd, hprod⟩ := node_facts hn2 hx1 hx2
    have e1 : endsOf n x = ((t : Int) * 2 ^ b, (t : Int) * 2 ^ b + 2 ^ b - 1, true) := by
      simp only [endsOf, hN, if_true, Int.toNat_natCast, hd, hb]
      have : (x : Int) - 2 ^ d = t := by rw [hxt]; push_cast; omega
      rw [this]
    rw [e1]
    have E1 := Lib.hid hN
    have E2 := Lib.hid hd
    have q1 : (n : Int) - (d : Int) = (b : Int) := by omega
    have q2 : (x : Int) - 2 ^ d = (t : Int) := by rw [hxt]; push_cast; omega
    have q3 := pow_pos' b
    have q4 := pow_48 (n := b) (by omega)
    have q5 := pow_48 (n := n) hn2
    have q6 := pow_48 (n := d) (by omega)
    have q7 := pow_pos' d
    have q8 : (t : Int) * 2 ^ b + 2 ^ b ≤ 2 ^ n := by
      have h : (((t + 1) * 2 ^ b : Nat) : Int) ≤ ((2 ^ n : Nat) : Int) := by exact_mod_cast hprod
      push_cast at h
      rw [Int.add_mul, Int.one_mul] at h
      exact h
    have q9 : 0 ≤ (t : Int) * 2 ^ b := Int.mul_nonneg (by omega) (by omega)
    have q10 : (x : Int) ≤ 562949953421312 := by omega
    have Q := Lib.hid (And.intro hxt (And.intro htd hprod))
    clear e1 hN hd hb hxt htd hprod hx2
    go_enter Try.func33, Try.ntmps33
    go_wp2_with fail
    refine (twig_Right _ n x).mono ?_
    rintro e w1 ⟨rfl, hb1⟩
    have B1 : Below w.heap.size w w1 := Below.then_ (by repeat (first | with_reducible exact Below.refl _ _ | with_reducible assumption | ((with_reducible refine Below.setCell ?_ ?_ _); rotate_left; · (first | omega | exact Nat.le_refl _ | (simp <;> omega))) | (with_reducible refine Below.allocW ?_ _) | (with_reducible refine Below.drew ?_) | (with_reducible refine Below.extW ?_ _))) hb1
    have s1 : w.heap.size ≤ w1.heap.size := B1.size
    rw [E1.out]
    go_wp2_with fail
    refine (twig_Depth _ x (by omega)).mono ?_
    rintro e w2 ⟨rfl, hb2⟩
    have B2 : Below w.heap.size w w2 := Below.then_ (by repeat (first | with_reducible exact Below.refl _ _ | with_reducible assumption | ((with_reducible refine Below.setCell ?_ ?_ _); rotate_left; · (first | omega | exact Nat.le_refl _ | (simp <;> omega))) | (with_reducible refine Below.allocW ?_ _) | (with_reducible refine Below.drew ?_) | (with_reducible refine Below.extW ?_ _))) hb2
    have s2 : w.heap.size ≤ w2.heap.size := B2.size
    rw [if_pos (by omega)]
    simp only [Int.toNat_natCast, E2.out]
    go_wp2_with fail
    refine wp_region_ext (by kernel_rfl) (by kernel_rfl) ?_
    repeat (go_big_quiet_step (fail))
    refine wpQuiet_nil ?_
    intro w3 hb3
    replace hb3 := below_of_ext hb3
    have B3 : Below w.heap.size w w3 := Below.then_ (by repeat (first | with_reducible exact Below.refl _ _ | with_reducible assumption | ((with_reducible refine Below.setCell ?_ ?_ _); rotate_left; · (first | omega | exact Nat.le_refl _ | (simp <;> omega))) | (with_reducible refine Below.allocW ?_ _) | (with_reducible refine Below.drew ?_) | (with_reducible refine Below.extW ?_ _))) hb3
    have s3 : w.heap.size ≤ w3.heap.size := B3.size
    go_wp2_with fail
    go_ret3
    exact ⟨rfl, (by repeat (first | with_reducible exact Below.refl _ _ | with_reducible assumption | ((with_reducible refine Below.setCell ?_ ?_ _); rotate_left; · (first | omega | exact Nat.le_refl _ | (simp <;> omega))) | (with_reducible refine Below.allocW ?_ _) | (with_reducible refine Below.drew ?_) | (with_reducible refine Below.extW ?_ _)))⟩

/-- The children of a node. -/
def kidsOf (l id : Int) : Int × Int × Bool := if isNode l id = true ∧ id < 2 ^ l.toNat then (2 * id, 2 * id + 1, true) else (0, 0, false)
set_option maxRecDepth 100000 in
theorem twig_Kids (w : World) (l id : Int) : Calls Try.prog 74 #[.int .i64 l, .int .i64 id] w fun e w' => e = .returned (endsV (kidsOf l id)) ∧ Below w.heap.size w w' := by
  cases hN : isNode l id
  · have e1 : kidsOf l id = (0, 0, false) := by simp [kidsOf, hN]
    rw [e1]
    have E1 := Lib.hid hN
    clear e1 hN
    go_enter Try.func74, Try.ntmps74
    go_wp2_with fail
    refine (twig_Right _ l id).mono ?_
    rintro e w1 ⟨rfl, hb1⟩
    have B1 : Below w.heap.size w w1 := Below.then_ (by repeat (first | with_reducible exact Below.refl _ _ | with_reducible assumption | ((with_reducible refine Below.setCell ?_ ?_ _); rotate_left; · (first | omega | exact Nat.le_refl _ | (simp <;> omega))) | (with_reducible refine Below.allocW ?_ _) | (with_reducible refine Below.drew ?_) | (with_reducible refine Below.extW ?_ _))) hb1
    have s1 : w.heap.size ≤ w1.heap.size := B1.size
    rw [E1.out]
    go_wp2_with fail
    go_ret3
    exact ⟨rfl, (by repeat (first | with_reducible exact Below.refl _ _ | with_reducible assumption | ((with_reducible refine Below.setCell ?_ ?_ _); rotate_left; · (first | omega | exact Nat.le_refl _ | (simp <;> omega))) | (with_reducible refine Below.allocW ?_ _) | (with_reducible refine Below.drew ?_) | (with_reducible refine Below.extW ?_ _)))⟩
  · obtain ⟨n, x, rfl, rfl, hn1, hn2, hx1, hx2⟩ := isNode_nat hN
    have q5 := pow_48 (n := n) hn2
    have q6 := pow_pos' n
    have E1 := Lib.hid hN
    have q7 : (x : Int) ≤ 562949953421312 := by omega
    by_cases hk : (x : Int) < 2 ^ n
    · have e1 : kidsOf n x = (2 * (x : Int), 2 * (x : Int) + 1, true) := by simp [kidsOf, hN, hk]
      rw [e1]
      clear e1 hN hx2
      go_enter Try.func74, Try.ntmps74
      go_wp2_with fail
      refine (twig_Right _ n x).mono ?_
      rintro e w1 ⟨rfl, hb1⟩
      have B1 : Below w.heap.size w w1 := Below.then_ (by repeat (first | with_reducible exact Below.refl _ _ | with_reducible assumption | ((with_reducible refine Below.setCell ?_ ?_ _); rotate_left; · (first | omega | exact Nat.le_refl _ | (simp <;> omega))) | (with_reducible refine Below.allocW ?_ _) | (with_reducible refine Below.drew ?_) | (with_reducible refine Below.extW ?_ _))) hb1
      have s1 : w.heap.size ≤ w1.heap.size := B1.size
      rw [E1.out]

      go_wp2_with fail
      go_ret3
      exact ⟨rfl, (by repeat (first | with_reducible exact Below.refl _ _ | with_reducible assumption | ((with_reducible refine Below.setCell ?_ ?_ _); rotate_left; · (first | omega | exact Nat.le_refl _ | (simp <;> omega))) | (with_reducible refine Below.allocW ?_ _) | (with_reducible refine Below.drew ?_) | (with_reducible refine Below.extW ?_ _)))⟩
    · have e1 : kidsOf n x = (0, 0, false) := by
        simp only [kidsOf]
        rw [if_neg]
        intro h
        exact hk (by simpa using h.2)
      rw [e1]
      clear e1 hN hx2
      go_enter Try.func74, Try.ntmps74
      go_wp2_with fail
      refine (twig_Right _ n x).mono ?_
      rintro e w1 ⟨rfl, hb1⟩
      have B1 : Below w.heap.size w w1 := Below.then_ (by repeat (first | with_reducible exact Below.refl _ _ | with_reducible assumption | ((with_reducible refine Below.setCell ?_ ?_ _); rotate_left; · (first | omega | exact Nat.le_refl _ | (simp <;> omega))) | (with_reducible refine Below.allocW ?_ _) | (with_reducible refine Below.drew ?_) | (with_reducible refine Below.extW ?_ _))) hb1
      have s1 : w.heap.size ≤ w1.heap.size := B1.size
      rw [E1.out]
      go_wp2_with fail
      go_ret3
      exact ⟨rfl, (by repeat (first | with_reducible exact Below.refl _ _ | with_reducible assumption | ((with_reducible refine Below.setCell ?_ ?_ _); rotate_left; · (first | omega | exact Nat.le_refl _ | (simp <;> omega))) | (with_reducible refine Below.allocW ?_ _) | (with_reducible refine Below.drew ?_) | (with_reducible refine Below.extW ?_ _)))⟩

theorem reckon_counts (w : World) (a b : Int) : Calls Try.prog 52 #[.int .i64 a, .int .i64 b] w fun e w' => e = .returned (.bool (decide (0 ≤ a ∧ 0 ≤ b))) ∧ Below w.heap.size w w' := by
  by_cases h1 : 0 ≤ a
  · go_enter Try.func52, Try.ntmps52
    go_wp2_with fail
    go_ret
    exact ⟨ret_bool (by simp [h1]), (by repeat (first | with_reducible exact Below.refl _ _ | with_reducible assumption | ((with_reducible refine Below.setCell ?_ ?_ _); rotate_left; · (first | omega | exact Nat.le_refl _ | (simp <;> omega))) | (with_reducible refine Below.allocW ?_ _) | (with_reducible refine Below.drew ?_) | (with_reducible refine Below.extW ?_ _)))⟩
  · go_enter Try.func52, Try.ntmps52
    go_wp2_with fail
    go_ret
    exact ⟨ret_bool (by simp; omega), (by repeat (first | with_reducible exact Below.refl _ _ | with_reducible assumption | ((with_reducible refine Below.setCell ?_ ?_ _); rotate_left; · (first | omega | exact Nat.le_refl _ | (simp <;> omega))) | (with_reducible refine Below.allocW ?_ _) | (with_reducible refine Below.drew ?_) | (with_reducible refine Below.extW ?_ _)))⟩
/-- A sum that is checked. -/
def addOf (a b : Int) : Int × Bool := if 0 ≤ a ∧ 0 ≤ b ∧ a + b ≤ 9223372036854775807 then (a + b, true) else (0, false)
def okV (r : Int × Bool) : Value := .tuple #[.int .i64 r.1, .bool r.2]
theorem reckon_Add (w : World) (a b : Int) (ha : a ≤ 9223372036854775807) (hb : b ≤ 9223372036854775807) : Calls Try.prog 93 #[.int .i64 a, .int .i64 b] w fun e w' => e = .returned (okV (addOf a b)) ∧ Below w.heap.size w w' := by
  by_cases h1 : 0 ≤ a ∧ 0 ≤ b
  · have E1 := Lib.hid (show decide (0 ≤ a ∧ 0 ≤ b) = true by simpa using h1)
    obtain ⟨h1, h2⟩ := h1
    by_cases h3 : 9223372036854775807 - b < a
    · have e1 : addOf a b = (0, false) := by simp only [addOf]; rw [if_neg (by omega)]
      rw [e1]
      clear e1
      go_enter Try.func93, Try.ntmps93
      go_wp2_with fail
      refine (reckon_counts _ a b).mono ?_
      rintro e w1 ⟨rfl, hb1⟩
      have B1 : Below w.heap.size w w1 := Below.then_ (by repeat (first | with_reducible exact Below.refl _ _ | with_reducible assumption | ((with_reducible refine Below.setCell ?_ ?_ _); rotate_left; · (first | omega | exact Nat.le_refl _ | (simp <;> omega))) | (with_reducible refine Below.allocW ?_ _) | (with_reducible refine Below.drew ?_) | (with_reducible refine Below.extW ?_ _))) hb1
      have s1 : w.heap.size ≤ w1.heap.size := B1.size
      rw [E1.out]
      go_wp2_with fail
      go_ret2
      exact ⟨rfl, (by repeat (first | with_reducible exact Below.refl _ _ | with_reducible assumption | ((with_reducible refine Below.setCell ?_ ?_ _); rotate_left; · (first | omega | exact Nat.le_refl _ | (simp <;> omega))) | (with_reducible refine Below.allocW ?_ _) | (with_reducible refine Below.drew ?_) | (with_reducible refine Below.extW ?_ _)))⟩
    · have e1 : addOf a b = (a + b, true) := by simp only [addOf]; rw [if_pos (by omega)]
      rw [e1]
      clear e1
      go_enter Try.func93, Try.ntmps93
      go_wp2_with fail
      refine (reckon_counts _ a b).mono ?_
      rintro e w1 ⟨rfl, hb1⟩
      have B1 : Below w.heap.size w w1 := Below.then_ (by repeat (first | with_reducible exact Below.refl _ _ | with_reducible assumption | ((with_reducible refine Below.setCell ?_ ?_ _); rotate_left; · (first | omega | exact Nat.le_refl _ | (simp <;> omega))) | (with_reducible refine Below.allocW ?_ _) | (with_reducible refine Below.drew ?_) | (with_reducible refine Below.extW ?_ _))) hb1
      have s1 : w.heap.size ≤ w1.heap.size := B1.size
      rw [E1.out]
      go_wp2_with fail
      go_ret2
      exact ⟨rfl, (by repeat (first | with_reducible exact Below.refl _ _ | with_reducible assumption | ((with_reducible refine Below.setCell ?_ ?_ _); rotate_left; · (first | omega | exact Nat.le_refl _ | (simp <;> omega))) | (with_reducible refine Below.allocW ?_ _) | (with_reducible refine Below.drew ?_) | (with_reducible refine Below.extW ?_ _)))⟩
  · have E1 := Lib.hid (show decide (0 ≤ a ∧ 0 ≤ b) = false by simpa using h1)
    have e1 : addOf a b = (0, false) := by simp only [addOf]; rw [if_neg (by omega)]
    rw [e1]
    clear e1 h1
    go_enter Try.func93, Try.ntmps93
    go_wp2_with fail
    refine (reckon_counts _ a b).mono ?_
    rintro e w1 ⟨rfl, hb1⟩
    have B1 : Below w.heap.size w w1 := Below.then_ (by repeat (first | with_reducible exact Below.refl _ _ | with_reducible assumption | ((with_reducible refine Below.setCell ?_ ?_ _); rotate_left; · (first | omega | exact Nat.le_refl _ | (simp <;> omega))) | (with_reducible refine Below.allocW ?_ _) | (with_reducible refine Below.drew ?_) | (with_reducible refine Below.extW ?_ _))) hb1
    have s1 : w.heap.size ≤ w1.heap.size := B1.size
    rw [E1.out]
    go_wp2_with fail
    go_ret2
    exact ⟨rfl, (by repeat (first | with_reducible exact Below.refl _ _ | with_reducible assumption | ((with_reducible refine Below.setCell ?_ ?_ _); rotate_left; · (first | omega | exact Nat.le_refl _ | (simp <;> omega))) | (with_reducible refine Below.allocW ?_ _) | (with_reducible refine Below.drew ?_) | (with_reducible refine Below.extW ?_ _)))⟩
/-- How often b goes into a. -/
def divOf (a b : Int) : Int × Bool := if a < 0 ∨ b < 1 then (0, false) else (a / b, true)
theorem reckon_Div (w : World) (a b : Int) (ha : a ≤ 9223372036854775807) (hb : b ≤ 9223372036854775807) : Calls Try.prog 84 #[.int .i64 a, .int .i64 b] w fun e w' => e = .returned (okV (divOf a b)) ∧ Below w.heap.size w w' := by
  by_cases h1 : a < 0
  · have e1 : divOf a b = (0, false) := by simp only [divOf]; rw [if_pos (by omega)]
    rw [e1]
    clear e1
    go_enter Try.func84, Try.ntmps84
    go_wp2_with fail
    go_ret2
    exact ⟨rfl, (by repeat (first | with_reducible exact Below.refl _ _ | with_reducible assumption | ((with_reducible refine Below.setCell ?_ ?_ _); rotate_left; · (first | omega | exact Nat.le_refl _ | (simp <;> omega))) | (with_reducible refine Below.allocW ?_ _) | (with_reducible refine Below.drew ?_) | (with_reducible refine Below.extW ?_ _)))⟩
  · by_cases h2 : b < 1
    · have e1 : divOf a b = (0, false) := by simp only [divOf]; rw [if_pos (by omega)]
      rw [e1]
      clear e1
      go_enter Try.func84, Try.ntmps84
      go_wp2_with fail
      go_ret2
      exact ⟨rfl, (by repeat (first | with_reducible exact Below.refl _ _ | with_reducible assumption | ((with_reducible refine Below.setCell ?_ ?_ _); rotate_left; · (first | omega | exact Nat.le_refl _ | (simp <;> omega))) | (with_reducible refine Below.allocW ?_ _) | (with_reducible refine Below.drew ?_) | (with_reducible refine Below.extW ?_ _)))⟩
    · have e1 : divOf a b = (a / b, true) := by simp only [divOf]; rw [if_neg (by omega)]
      rw [e1]
      clear e1
      have q1 : 0 ≤ a / b := Int.ediv_nonneg (by omega) (by omega)
      have q2 : a / b ≤ a := Int.ediv_le_self _ (by omega)
      go_enter Try.func84, Try.ntmps84
      go_wp2_with fail
      unfold okV
      go_ret2
      exact ⟨rfl, (by repeat (first | with_reducible exact Below.refl _ _ | with_reducible assumption | ((with_reducible refine Below.setCell ?_ ?_ _); rotate_left; · (first | omega | exact Nat.le_refl _ | (simp <;> omega))) | (with_reducible refine Below.allocW ?_ _) | (with_reducible refine Below.drew ?_) | (with_reducible refine Below.extW ?_ _)))⟩
end Go.Proofs.Ytalnhdfgjjhhbaa
