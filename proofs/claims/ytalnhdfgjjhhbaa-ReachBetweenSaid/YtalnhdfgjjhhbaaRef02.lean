/- The reference of layer 2 (twig). -/
import Derived.Test.YtalnhdfgjjhhbaaArith
namespace Go.Proofs.Ytalnhdfgjjhhbaa
open Go.ChangeShapes Go.WideShapes Go.ChangeAt Go.RowKit
set_option linter.unusedVariables false

theorem ref2_Is (w : World) (l : Int) : Calls Try.prog 78 #[.int .i64 l] w fun e w' => e = .returned (.bool (decide (1 ≤ l ∧ l ≤ 48))) ∧ Below w.heap.size w w' := by
  by_cases h1 : 1 ≤ l
  · go_enter Try.func78, Try.ntmps78
    go_wp2_with fail
    go_ret
    exact ⟨ret_bool (by simp [h1]), (by repeat (first | with_reducible exact Below.refl _ _ | with_reducible assumption | ((with_reducible refine Below.setCell ?_ ?_ _); rotate_left; · (first | omega | exact Nat.le_refl _ | (simp <;> omega))) | (with_reducible refine Below.allocW ?_ _) | (with_reducible refine Below.drew ?_) | (with_reducible refine Below.extW ?_ _)))⟩
  · go_enter Try.func78, Try.ntmps78
    go_wp2_with fail
    go_ret
    exact ⟨ret_bool (by simp; omega), (by repeat (first | with_reducible exact Below.refl _ _ | with_reducible assumption | ((with_reducible refine Below.setCell ?_ ?_ _); rotate_left; · (first | omega | exact Nat.le_refl _ | (simp <;> omega))) | (with_reducible refine Below.allocW ?_ _) | (with_reducible refine Below.drew ?_) | (with_reducible refine Below.extW ?_ _)))⟩
theorem log2_half {x : Nat} (h : 2 ≤ x) : x.log2 = (x / 2).log2 + 1 := by
  conv => lhs; rw [Nat.log2_def]
  rw [if_pos h]
theorem depth_V (x : Nat) (hx : 1 ≤ x) : (if 1 ≤ (x : Int) then Value.tuple #[.int .i64 (x : Int).toNat.log2, .bool true] else Value.tuple #[.int .i64 0, .bool false]) = .tuple #[.int .i64 x.log2, .bool true] := by
  rw [if_pos (by omega), Int.toNat_natCast]
theorem ref2_Depth (w : World) (n : Int) (hn : n ≤ 9223372036854775807) : Calls Try.prog 59 #[.int .i64 n] w fun e w' =>
    e = .returned (if 1 ≤ n then .tuple #[.int .i64 n.toNat.log2, .bool true] else .tuple #[.int .i64 0, .bool false]) ∧ Below w.heap.size w w' := by
  by_cases h1 : 1 ≤ n
  · obtain ⟨x, rfl⟩ := Int.eq_ofNat_of_zero_le (show 0 ≤ n by omega)
    rw [depth_V x (by omega)]
    have hl : x.log2 < 64 := (Nat.log2_lt (by omega)).2 (by omega)
    go_enter Try.func59, Try.ntmps59
    go_wp2_with fail
    go_loop [0, 4] (fun a d => ∃ y j : Nat, 1 ≤ y ∧ y ≤ x ∧ a = .int .i64 y ∧ d = .int .i64 j ∧ j + y.log2 = x.log2) (fun a _ => (intOf a).toNat)
    case atStart => exact ⟨x, 0, by omega, Nat.le_refl _, rfl, rfl, by omega⟩
    case round =>
      obtain ⟨y, j, hy, hyx, rfl, rfl, hj⟩ := hrel
      by_cases h2 : 2 ≤ y
      · have HL := Lib.hid (log2_half h2)
        have h3 : (1 : Int) < (y : Int) := by omega
        have hj2 : j < 64 := by omega
        go_wp2_with fail
        go_round
        case rel => exact ⟨y / 2, j + 1, by omega, by omega, by go_num, by go_num, by have := HL.out; omega⟩
        case measure => simp [intOf]; omega
      · obtain rfl : y = 1 := by omega
        have e0 : (1 : Nat).log2 = 0 := by decide
        obtain rfl : j = x.log2 := by omega
        clear e0 hj
        go_wp2_with fail
        go_ret2
        exact ⟨rfl, (by repeat (first | with_reducible exact Below.refl _ _ | with_reducible assumption | ((with_reducible refine Below.setCell ?_ ?_ _); rotate_left; · (first | omega | exact Nat.le_refl _ | (simp <;> omega))) | (with_reducible refine Below.allocW ?_ _) | (with_reducible refine Below.drew ?_) | (with_reducible refine Below.extW ?_ _)))⟩
  · rw [if_neg h1]
    go_enter Try.func59, Try.ntmps59
    go_wp2_with fail
    go_ret2
    exact ⟨rfl, (by repeat (first | with_reducible exact Below.refl _ _ | with_reducible assumption | ((with_reducible refine Below.setCell ?_ ?_ _); rotate_left; · (first | omega | exact Nat.le_refl _ | (simp <;> omega))) | (with_reducible refine Below.allocW ?_ _) | (with_reducible refine Below.drew ?_) | (with_reducible refine Below.extW ?_ _)))⟩
theorem isNode_log {l : Int} {x : Nat} (hx : 1 ≤ x) : isNode l x = (decide (1 ≤ l ∧ l ≤ 48) && decide ((x.log2 : Int) ≤ l)) := by
  simp only [isNode]
  rw [Bool.eq_iff_iff]
  simp only [decide_eq_true_eq, Bool.and_eq_true]
  constructor
  · rintro ⟨h1, h2, h3⟩
    refine ⟨h1, ?_⟩
    obtain ⟨n, rfl⟩ := Int.eq_ofNat_of_zero_le (show 0 ≤ l by omega)
    have h4 : x < 2 ^ (n + 1) := by
      have : ((2 ^ (n + 1) : Nat) : Int) = 2 * 2 ^ n := by rw [Nat.pow_succ]; simp; omega
      simp only [Int.toNat_natCast] at h3
      omega
    have := (Nat.log2_lt (by omega)).2 h4
    omega
  · rintro ⟨h1, h2⟩
    obtain ⟨n, rfl⟩ := Int.eq_ofNat_of_zero_le (show 0 ≤ l by omega)
    have h4 : x < 2 ^ (n + 1) := (Nat.log2_lt (by omega)).1 (by omega)
    have : ((2 ^ (n + 1) : Nat) : Int) = 2 * 2 ^ n := by rw [Nat.pow_succ]; simp; omega
    refine ⟨h1, by omega, ?_⟩
    simp only [Int.toNat_natCast]
    omega
theorem ref2_Right (w : World) (l id : Int) (hid : id ≤ 9223372036854775807) : Calls Try.prog 58 #[.int .i64 l, .int .i64 id] w fun e w' => e = .returned (.bool (isNode l id)) ∧ Below w.heap.size w w' := by
  by_cases h1 : 1 ≤ id
  · obtain ⟨x, rfl⟩ := Int.eq_ofNat_of_zero_le (show 0 ≤ id by omega)
    have HN := Lib.hid (isNode_log (l := l) (x := x) (by omega))
    cases h2 : decide (1 ≤ l ∧ l ≤ 48)
    · rw [h2] at HN
      have H2 := Lib.hid h2
      clear h2
      go_enter Try.func58, Try.ntmps58
      go_wp2_with fail
      refine (ref2_Depth _ x hid).mono ?_
      rintro e w1 ⟨rfl, hb1⟩
      have B1 : Below w.heap.size w w1 := Below.then_ (by repeat (first | with_reducible exact Below.refl _ _ | with_reducible assumption | ((with_reducible refine Below.setCell ?_ ?_ _); rotate_left; · (first | omega | exact Nat.le_refl _ | (simp <;> omega))) | (with_reducible refine Below.allocW ?_ _) | (with_reducible refine Below.drew ?_) | (with_reducible refine Below.extW ?_ _))) hb1
      have s1 : w.heap.size ≤ w1.heap.size := B1.size
      rw [depth_V x (by omega)]
      go_wp2_with fail
      refine (ref2_Is _ l).mono ?_
      rintro e w2 ⟨rfl, hb2⟩
      have B2 : Below w.heap.size w w2 := Below.then_ (by repeat (first | with_reducible exact Below.refl _ _ | with_reducible assumption | ((with_reducible refine Below.setCell ?_ ?_ _); rotate_left; · (first | omega | exact Nat.le_refl _ | (simp <;> omega))) | (with_reducible refine Below.allocW ?_ _) | (with_reducible refine Below.drew ?_) | (with_reducible refine Below.extW ?_ _))) hb2
      have s2 : w.heap.size ≤ w2.heap.size := B2.size
      rw [H2.out]
      go_wp2_with fail
      go_ret
      exact ⟨ret_bool (by rw [HN.out]; rfl), (by repeat (first | with_reducible exact Below.refl _ _ | with_reducible assumption | ((with_reducible refine Below.setCell ?_ ?_ _); rotate_left; · (first | omega | exact Nat.le_refl _ | (simp <;> omega))) | (with_reducible refine Below.allocW ?_ _) | (with_reducible refine Below.drew ?_) | (with_reducible refine Below.extW ?_ _)))⟩
    · rw [h2] at HN
      have H2 := Lib.hid h2
      clear h2
      go_enter Try.func58, Try.ntmps58
      go_wp2_with fail
      refine (ref2_Depth _ x hid).mono ?_
      rintro e w1 ⟨rfl, hb1⟩
      have B1 : Below w.heap.size w w1 := Below.then_ (by repeat (first | with_reducible exact Below.refl _ _ | with_reducible assumption | ((with_reducible refine Below.setCell ?_ ?_ _); rotate_left; · (first | omega | exact Nat.le_refl _ | (simp <;> omega))) | (with_reducible refine Below.allocW ?_ _) | (with_reducible refine Below.drew ?_) | (with_reducible refine Below.extW ?_ _))) hb1
      have s1 : w.heap.size ≤ w1.heap.size := B1.size
      rw [depth_V x (by omega)]
      go_wp2_with fail
      refine (ref2_Is _ l).mono ?_
      rintro e w2 ⟨rfl, hb2⟩
      have B2 : Below w.heap.size w w2 := Below.then_ (by repeat (first | with_reducible exact Below.refl _ _ | with_reducible assumption | ((with_reducible refine Below.setCell ?_ ?_ _); rotate_left; · (first | omega | exact Nat.le_refl _ | (simp <;> omega))) | (with_reducible refine Below.allocW ?_ _) | (with_reducible refine Below.drew ?_) | (with_reducible refine Below.extW ?_ _))) hb2
      have s2 : w.heap.size ≤ w2.heap.size := B2.size
      rw [H2.out]
      go_wp2_with fail
      go_ret
      exact ⟨ret_bool (by rw [HN.out]; rfl), (by repeat (first | with_reducible exact Below.refl _ _ | with_reducible assumption | ((with_reducible refine Below.setCell ?_ ?_ _); rotate_left; · (first | omega | exact Nat.le_refl _ | (simp <;> omega))) | (with_reducible refine Below.allocW ?_ _) | (with_reducible refine Below.drew ?_) | (with_reducible refine Below.extW ?_ _)))⟩
  · have e0 : isNode l id = false := by simp [isNode, h1]
    rw [e0]
    have e1 : (if 1 ≤ id then Value.tuple #[.int .i64 id.toNat.log2, .bool true] else Value.tuple #[.int .i64 0, .bool false]) = .tuple #[.int .i64 0, .bool false] := if_neg h1
    have E1 := Lib.hid e1
    clear e0 e1
    cases h2 : decide (1 ≤ l ∧ l ≤ 48)
    all_goals
      have H2 := Lib.hid h2
      clear h2
      go_enter Try.func58, Try.ntmps58
      go_wp2_with fail
      refine (ref2_Depth _ id hid).mono ?_
      rintro e w1 ⟨rfl, hb1⟩
      have B1 : Below w.heap.size w w1 := Below.then_ (by repeat (first | with_reducible exact Below.refl _ _ | with_reducible assumption | ((with_reducible refine Below.setCell ?_ ?_ _); rotate_left; · (first | omega | exact Nat.le_refl _ | (simp <;> omega))) | (with_reducible refine Below.allocW ?_ _) | (with_reducible refine Below.drew ?_) | (with_reducible refine Below.extW ?_ _))) hb1
      have s1 : w.heap.size ≤ w1.heap.size := B1.size
      rw [E1.out]
      go_wp2_with fail
      refine (ref2_Is _ l).mono ?_
      rintro e w2 ⟨rfl, hb2⟩
      have B2 : Below w.heap.size w w2 := Below.then_ (by repeat (first | with_reducible exact Below.refl _ _ | with_reducible assumption | ((with_reducible refine Below.setCell ?_ ?_ _); rotate_left; · (first | omega | exact Nat.le_refl _ | (simp <;> omega))) | (with_reducible refine Below.allocW ?_ _) | (with_reducible refine Below.drew ?_) | (with_reducible refine Below.extW ?_ _))) hb2
      have s2 : w.heap.size ≤ w2.heap.size := B2.size
      rw [H2.out]
      go_wp2_with fail
      go_ret
      exact ⟨rfl, (by repeat (first | with_reducible exact Below.refl _ _ | with_reducible assumption | ((with_reducible refine Below.setCell ?_ ?_ _); rotate_left; · (first | omega | exact Nat.le_refl _ | (simp <;> omega))) | (with_reducible refine Below.allocW ?_ _) | (with_reducible refine Below.drew ?_) | (with_reducible refine Below.extW ?_ _)))⟩
theorem kidsOf_log {l x : Nat} (hN : isNode l x = true) : kidsOf l x = if x.log2 = l then (0, 0, false) else (2 * (x : Int), 2 * (x : Int) + 1, true) := by
  have h1 := hN
  rw [isNode_log (by simp only [isNode, decide_eq_true_eq] at hN; omega)] at h1
  simp only [Bool.and_eq_true, decide_eq_true_eq] at h1
  have hx : 1 ≤ x := by simp only [isNode, decide_eq_true_eq] at hN; omega
  simp only [kidsOf, hN, true_and, Int.toNat_natCast]
  by_cases h2 : x.log2 = l
  · rw [if_pos h2, if_neg]
    have := Nat.log2_self_le (show x ≠ 0 by omega)
    rw [h2] at this
    intro h3
    have h4 : ((2 ^ l : Nat) : Int) = 2 ^ l := by simp
    omega
  · rw [if_neg h2, if_pos]
    have := (Nat.log2_lt (n := x) (k := l) (by omega)).1 (by omega)
    have h4 : ((2 ^ l : Nat) : Int) = 2 ^ l := by simp
    omega
theorem ref2_Kids (w : World) (l id : Int) (hid : id ≤ 9223372036854775807) : Calls Try.prog 79 #[.int .i64 l, .int .i64 id] w fun e w' => e = .returned (endsV (kidsOf l id)) ∧ Below w.heap.size w w' := by
  cases hN : isNode l id
  · have e1 : kidsOf l id = (0, 0, false) := by simp [kidsOf, hN]
    rw [e1]
    have HN := Lib.hid hN
    clear hN e1
    by_cases h1 : 1 ≤ id
    · obtain ⟨x, rfl⟩ := Int.eq_ofNat_of_zero_le (show 0 ≤ id by omega)
      go_enter Try.func79, Try.ntmps79
      go_wp2_with fail
      refine (ref2_Depth _ x hid).mono ?_
      rintro e w1 ⟨rfl, hb1⟩
      have B1 : Below w.heap.size w w1 := Below.then_ (by repeat (first | with_reducible exact Below.refl _ _ | with_reducible assumption | ((with_reducible refine Below.setCell ?_ ?_ _); rotate_left; · (first | omega | exact Nat.le_refl _ | (simp <;> omega))) | (with_reducible refine Below.allocW ?_ _) | (with_reducible refine Below.drew ?_) | (with_reducible refine Below.extW ?_ _))) hb1
      have s1 : w.heap.size ≤ w1.heap.size := B1.size
      rw [depth_V x (by omega)]
      go_wp2_with fail
      refine (ref2_Right _ l x hid).mono ?_
      rintro e w2 ⟨rfl, hb2⟩
      have B2 : Below w.heap.size w w2 := Below.then_ (by repeat (first | with_reducible exact Below.refl _ _ | with_reducible assumption | ((with_reducible refine Below.setCell ?_ ?_ _); rotate_left; · (first | omega | exact Nat.le_refl _ | (simp <;> omega))) | (with_reducible refine Below.allocW ?_ _) | (with_reducible refine Below.drew ?_) | (with_reducible refine Below.extW ?_ _))) hb2
      have s2 : w.heap.size ≤ w2.heap.size := B2.size
      rw [HN.out]
      go_wp2_with fail
      go_ret3
      exact ⟨rfl, (by repeat (first | with_reducible exact Below.refl _ _ | with_reducible assumption | ((with_reducible refine Below.setCell ?_ ?_ _); rotate_left; · (first | omega | exact Nat.le_refl _ | (simp <;> omega))) | (with_reducible refine Below.allocW ?_ _) | (with_reducible refine Below.drew ?_) | (with_reducible refine Below.extW ?_ _)))⟩
    · have E1 := Lib.hid (show (if 1 ≤ id then Value.tuple #[.int .i64 id.toNat.log2, .bool true] else Value.tuple #[.int .i64 0, .bool false]) = .tuple #[.int .i64 0, .bool false] from if_neg h1)
      go_enter Try.func79, Try.ntmps79
      go_wp2_with fail
      refine (ref2_Depth _ id hid).mono ?_
      rintro e w1 ⟨rfl, hb1⟩
      have B1 : Below w.heap.size w w1 := Below.then_ (by repeat (first | with_reducible exact Below.refl _ _ | with_reducible assumption | ((with_reducible refine Below.setCell ?_ ?_ _); rotate_left; · (first | omega | exact Nat.le_refl _ | (simp <;> omega))) | (with_reducible refine Below.allocW ?_ _) | (with_reducible refine Below.drew ?_) | (with_reducible refine Below.extW ?_ _))) hb1
      have s1 : w.heap.size ≤ w1.heap.size := B1.size
      rw [E1.out]
      go_wp2_with fail
      refine (ref2_Right _ l id hid).mono ?_
      rintro e w2 ⟨rfl, hb2⟩
      have B2 : Below w.heap.size w w2 := Below.then_ (by repeat (first | with_reducible exact Below.refl _ _ | with_reducible assumption | ((with_reducible refine Below.setCell ?_ ?_ _); rotate_left; · (first | omega | exact Nat.le_refl _ | (simp <;> omega))) | (with_reducible refine Below.allocW ?_ _) | (with_reducible refine Below.drew ?_) | (with_reducible refine Below.extW ?_ _))) hb2
      have s2 : w.heap.size ≤ w2.heap.size := B2.size
      rw [HN.out]
      go_wp2_with fail
      go_ret3
      exact ⟨rfl, (by repeat (first | with_reducible exact Below.refl _ _ | with_reducible assumption | ((with_reducible refine Below.setCell ?_ ?_ _); rotate_left; · (first | omega | exact Nat.le_refl _ | (simp <;> omega))) | (with_reducible refine Below.allocW ?_ _) | (with_reducible refine Below.drew ?_) | (with_reducible refine Below.extW ?_ _)))⟩
  · obtain ⟨n, x, rfl, rfl, hn1, hn2, hx1, hx2⟩ := isNode_nat hN
    have HK := Lib.hid (kidsOf_log hN)
    have HN := Lib.hid hN
    have q5 := pow_48 (n := n) hn2
    have q7 : (x : Int) ≤ 562949953421312 := by omega
    clear hN hx2
    by_cases h2 : x.log2 = n
    · have h3 : ((x.log2 : Int) == (n : Int)) = true := by simp [h2]
      have HK2 := Lib.hid (show kidsOf n x = (0, 0, false) by rw [HK.out, if_pos h2])
      clear h2
      go_enter Try.func79, Try.ntmps79
      go_wp2_with fail
      refine (ref2_Depth _ x hid).mono ?_
      rintro e w1 ⟨rfl, hb1⟩
      have B1 : Below w.heap.size w w1 := Below.then_ (by repeat (first | with_reducible exact Below.refl _ _ | with_reducible assumption | ((with_reducible refine Below.setCell ?_ ?_ _); rotate_left; · (first | omega | exact Nat.le_refl _ | (simp <;> omega))) | (with_reducible refine Below.allocW ?_ _) | (with_reducible refine Below.drew ?_) | (with_reducible refine Below.extW ?_ _))) hb1
      have s1 : w.heap.size ≤ w1.heap.size := B1.size
      rw [depth_V x (by omega)]
      go_wp2_with fail
      refine (ref2_Right _ n x hid).mono ?_
      rintro e w2 ⟨rfl, hb2⟩
      have B2 : Below w.heap.size w w2 := Below.then_ (by repeat (first | with_reducible exact Below.refl _ _ | with_reducible assumption | ((with_reducible refine Below.setCell ?_ ?_ _); rotate_left; · (first | omega | exact Nat.le_refl _ | (simp <;> omega))) | (with_reducible refine Below.allocW ?_ _) | (with_reducible refine Below.drew ?_) | (with_reducible refine Below.extW ?_ _))) hb2
      have s2 : w.heap.size ≤ w2.heap.size := B2.size
      rw [HN.out]
      go_wp2_with fail
      go_ret3
      exact ⟨by rw [HK2.out]; rfl, (by repeat (first | with_reducible exact Below.refl _ _ | with_reducible assumption | ((with_reducible refine Below.setCell ?_ ?_ _); rotate_left; · (first | omega | exact Nat.le_refl _ | (simp <;> omega))) | (with_reducible refine Below.allocW ?_ _) | (with_reducible refine Below.drew ?_) | (with_reducible refine Below.extW ?_ _)))⟩
    · have h3 : ((x.log2 : Int) == (n : Int)) = false := by simp; omega
      have HK2 := Lib.hid (show kidsOf n x = (2 * (x : Int), 2 * (x : Int) + 1, true) by rw [HK.out, if_neg h2])
      clear h2
      go_enter Try.func79, Try.ntmps79
      go_wp2_with fail
      refine (ref2_Depth _ x hid).mono ?_
      rintro e w1 ⟨rfl, hb1⟩
      have B1 : Below w.heap.size w w1 := Below.then_ (by repeat (first | with_reducible exact Below.refl _ _ | with_reducible assumption | ((with_reducible refine Below.setCell ?_ ?_ _); rotate_left; · (first | omega | exact Nat.le_refl _ | (simp <;> omega))) | (with_reducible refine Below.allocW ?_ _) | (with_reducible refine Below.drew ?_) | (with_reducible refine Below.extW ?_ _))) hb1
      have s1 : w.heap.size ≤ w1.heap.size := B1.size
      rw [depth_V x (by omega)]
      go_wp2_with fail
      refine (ref2_Right _ n x hid).mono ?_
      rintro e w2 ⟨rfl, hb2⟩
      have B2 : Below w.heap.size w w2 := Below.then_ (by repeat (first | with_reducible exact Below.refl _ _ | with_reducible assumption | ((with_reducible refine Below.setCell ?_ ?_ _); rotate_left; · (first | omega | exact Nat.le_refl _ | (simp <;> omega))) | (with_reducible refine Below.allocW ?_ _) | (with_reducible refine Below.drew ?_) | (with_reducible refine Below.extW ?_ _))) hb2
      have s2 : w.heap.size ≤ w2.heap.size := B2.size
      rw [HN.out]
      go_wp2_with fail
      go_ret3
      exact ⟨by rw [HK2.out]; rfl, (by repeat (first | with_reducible exact Below.refl _ _ | with_reducible assumption | ((with_reducible refine Below.setCell ?_ ?_ _); rotate_left; · (first | omega | exact Nat.le_refl _ | (simp <;> omega))) | (with_reducible refine Below.allocW ?_ _) | (with_reducible refine Below.drew ?_) | (with_reducible refine Below.extW ?_ _)))⟩
theorem ref2_Power (w : World) (n : Nat) (hn : n ≤ 62) : Calls Try.prog 60 #[.int .i64 n] w fun e w' => e = .returned (.int .i64 (2 ^ n)) ∧ Below w.heap.size w w' := by
  go_enter Try.func60, Try.ntmps60
  go_wp2_with fail
  go_loop [3, 4] (fun p i => ∃ j q : Nat, j ≤ n ∧ i = .int .i64 j ∧ p = .int .i64 q ∧ q = 2 ^ j) (fun _ i => n - (intOf i).toNat)
  case atStart => exact ⟨0, 1, by omega, rfl, rfl, rfl⟩
  case round =>
    obtain ⟨j, q, hj, rfl, rfl, hq⟩ := hrel
    by_cases hlt : j < n
    · have h1 : 2 ^ j ≤ 2 ^ 61 := Nat.pow_le_pow_right (by decide) (by omega)
      have h2 : q ≤ 2305843009213693952 := by rw [hq]; simpa using h1
      have HQ := Lib.hid hq
      clear hq h1
      go_wp2_with fail
      go_round
      case rel => exact ⟨j + 1, 2 * q, by omega, by go_num, by go_num, by rw [HQ.out, Nat.pow_succ, Nat.mul_comm]⟩
      case measure => simp [intOf]; omega
    · obtain rfl : j = n := by omega
      have HQ := Lib.hid hq
      clear hq
      go_wp2_with fail
      go_ret
      exact ⟨ret_int (by rw [HQ.out]; simp), (by repeat (first | with_reducible exact Below.refl _ _ | with_reducible assumption | ((with_reducible refine Below.setCell ?_ ?_ _); rotate_left; · (first | omega | exact Nat.le_refl _ | (simp <;> omega))) | (with_reducible refine Below.allocW ?_ _) | (with_reducible refine Below.drew ?_) | (with_reducible refine Below.extW ?_ _)))⟩

/-- The end of the way down. -/
theorem ends_way {n x d b t j lo hi : Nat} (hn : n ≤ 48) (hdb : d + b = n) (hxt : x = 2 ^ d + t) (htd : t < 2 ^ d) (hj : d + j ≤ n) (hlo : lo = x * 2 ^ j) (hhi : hi + 1 = (x + 1) * 2 ^ j) : hi + 1 ≤ 562949953421312 ∧ lo ≤ hi := by
  have h1 : (x + 1) ≤ 2 * 2 ^ d := by omega
  have h2 : (x + 1) * 2 ^ j ≤ 2 * 2 ^ d * 2 ^ j := Nat.mul_le_mul_right _ h1
  have h3 : 2 ^ d * 2 ^ j = 2 ^ (d + j) := (Nat.pow_add 2 d j).symm
  have h4 : 2 ^ (d + j) ≤ 2 ^ 48 := Nat.pow_le_pow_right (by decide) (by omega)
  rw [Nat.mul_assoc, h3] at h2
  have h5 : x * 2 ^ j + 1 ≤ (x + 1) * 2 ^ j := by rw [Nat.add_mul]; have := Nat.two_pow_pos j; omega
  omega
theorem ends_fin {n x d b t j lo hi : Nat} (hdb : d + b = n) (hxt : x = 2 ^ d + t) (hj : d + j = n) (hlo : lo = x * 2 ^ j) (hhi : hi + 1 = (x + 1) * 2 ^ j) :
    (lo : Int) - 2 ^ n = (t : Int) * 2 ^ b ∧ (hi : Int) - 2 ^ n = (t : Int) * 2 ^ b + 2 ^ b - 1 := by
  obtain rfl : j = b := by omega
  have h3 : 2 ^ d * 2 ^ j = 2 ^ n := by rw [← Nat.pow_add, hdb]
  have e1 : lo = 2 ^ n + t * 2 ^ j := by rw [hlo, hxt, Nat.add_mul, h3]
  have e2 : hi + 1 = 2 ^ n + t * 2 ^ j + 2 ^ j := by rw [hhi, hxt, Nat.add_mul, Nat.add_mul, h3]; omega
  have p1 : ((2 ^ n : Nat) : Int) = 2 ^ n := by simp
  have p2 : ((2 ^ j : Nat) : Int) = 2 ^ j := by simp
  have p3 : ((t * 2 ^ j : Nat) : Int) = (t : Int) * 2 ^ j := by simp
  omega
theorem ret_ends {a b c d : Int} {t : Bool} (h1 : a = c) (h2 : b = d) : Ending.returned (.tuple #[.int .i64 a, .int .i64 b, .bool t]) = .returned (endsV (c, d, t)) := by rw [h1, h2]; rfl
set_option maxRecDepth 100000 in
theorem ref2_Ends (w : World) (l id : Int) (hid : id ≤ 9223372036854775807) : Calls Try.prog 29 #[.int .i64 l, .int .i64 id] w fun e w' => e = .returned (endsV (endsOf l id)) ∧ Below w.heap.size w w' := by
  cases hN : isNode l id
  · have e1 : endsOf l id = (0, 0, false) := by simp [endsOf, hN]
    rw [e1]
    have HN := Lib.hid hN
    clear hN e1
    go_enter Try.func29, Try.ntmps29
    go_wp2_with fail
    refine (ref2_Right _ l id hid).mono ?_
    rintro e w1 ⟨rfl, hb1⟩
    have B1 : Below w.heap.size w w1 := Below.then_ (by repeat (first | with_reducible exact Below.refl _ _ | with_reducible assumption | ((with_reducible refine Below.setCell ?_ ?_ _); rotate_left; · (first | omega | exact Nat.le_refl _ | (simp <;> omega))) | (with_reducible refine Below.allocW ?_ _) | (with_reducible refine Below.drew ?_) | (with_reducible refine Below.extW ?_ _))) hb1
    have s1 : w.heap.size ≤ w1.heap.size := B1.size
    rw [HN.out]
    go_wp2_with fail
    go_ret3
    exact ⟨rfl, (by repeat (first | with_reducible exact Below.refl _ _ | with_reducible assumption | ((with_reducible refine Below.setCell ?_ ?_ _); rotate_left; · (first | omega | exact Nat.le_refl _ | (simp <;> omega))) | (with_reducible refine Below.allocW ?_ _) | (with_reducible refine Below.drew ?_) | (with_reducible refine Below.extW ?_ _)))⟩
  · obtain ⟨n, x, rfl, rfl, hn1, hn2, hx1, hx2⟩ := isNode_nat hN
    obtain ⟨d, b, t, hd, hb, hdb, hxt, htd, hprod⟩ := node_facts hn2 hx1 hx2
    have e1 : endsOf n x = ((t : Int) * 2 ^ b, (t : Int) * 2 ^ b + 2 ^ b - 1, true) := by
      simp only [endsOf, hN, if_true, Int.toNat_natCast, hd, hb]
      have : (x : Int) - 2 ^ d = t := by rw [hxt]; push_cast; omega
      rw [this]
    rw [e1]
    have HN := Lib.hid hN
    have HD := Lib.hid hd
    have HW := Lib.hid (And.intro hdb (And.intro hxt htd))
    have hdn : d ≤ n := by omega
    have q5 := pow_48 (n := n) hn2
    have q6 := pow_pos' n
    clear e1 hN hd hb hdb hxt htd hprod hx2
    go_enter Try.func29, Try.ntmps29
    go_wp2_with fail
    refine (ref2_Right _ n x hid).mono ?_
    rintro e w1 ⟨rfl, hb1⟩
    have B1 : Below w.heap.size w w1 := Below.then_ (by repeat (first | with_reducible exact Below.refl _ _ | with_reducible assumption | ((with_reducible refine Below.setCell ?_ ?_ _); rotate_left; · (first | omega | exact Nat.le_refl _ | (simp <;> omega))) | (with_reducible refine Below.allocW ?_ _) | (with_reducible refine Below.drew ?_) | (with_reducible refine Below.extW ?_ _))) hb1
    have s1 : w.heap.size ≤ w1.heap.size := B1.size
    rw [HN.out]
    go_wp2_with fail
    refine (ref2_Depth _ x hid).mono ?_
    rintro e w2 ⟨rfl, hb2⟩
    have B2 : Below w.heap.size w w2 := Below.then_ (by repeat (first | with_reducible exact Below.refl _ _ | with_reducible assumption | ((with_reducible refine Below.setCell ?_ ?_ _); rotate_left; · (first | omega | exact Nat.le_refl _ | (simp <;> omega))) | (with_reducible refine Below.allocW ?_ _) | (with_reducible refine Below.drew ?_) | (with_reducible refine Below.extW ?_ _))) hb2
    have s2 : w.heap.size ≤ w2.heap.size := B2.size
    rw [depth_V x hx1, HD.out]
    go_wp2_with fail
    go_loop [7, 8, 9] (fun p q e => ∃ j lo hi : Nat, d + j ≤ n ∧ e = .int .i64 (d + j : Nat) ∧ p = .int .i64 lo ∧ q = .int .i64 hi ∧ lo = x * 2 ^ j ∧ hi + 1 = (x + 1) * 2 ^ j) (fun _ _ e => n - (intOf e).toNat)
    case atStart => exact ⟨0, x, x, by omega, rfl, rfl, rfl, by simp, by simp⟩
    case round =>
      obtain ⟨j, lo, hi, hj, rfl, rfl, rfl, hlo, hhi⟩ := hrel
      have hb := ends_way hn2 HW.out.1 HW.out.2.1 HW.out.2.2 hj hlo hhi
      have HLo := Lib.hid hlo
      have HHi := Lib.hid hhi
      have hb1 := hb.1
      have hb2 := hb.2
      clear hlo hhi hb
      obtain ⟨e, he⟩ : ∃ e, e = d + j := ⟨_, rfl⟩
      rw [← he] at hj ⊢
      have HE := Lib.hid he
      clear he
      by_cases hlt : e < n
      · go_wp2_with fail
        go_round
        case rel => exact ⟨j + 1, 2 * lo, 2 * hi + 1, by have := HE.out; omega, by rw [HE.out]; go_num, by go_num, by go_num, by rw [HLo.out, Nat.pow_succ, Nat.mul_comm 2, Nat.mul_assoc], by have := HHi.out; rw [Nat.pow_succ, ← Nat.mul_assoc, ← this]; omega⟩
        case measure => simp [intOf]; omega
      · obtain rfl : e = n := by omega
        have HF := Lib.hid (ends_fin (t := t) HW.out.1 HW.out.2.1 HE.out.symm HLo.out HHi.out)
        go_wp2_with fail
        refine (ref2_Power _ e (by omega)).mono ?_
        rintro e w3 ⟨rfl, hb3⟩
        have B3 : Below w.heap.size w w3 := Below.then_ (by repeat (first | with_reducible exact Below.refl _ _ | with_reducible assumption | ((with_reducible refine Below.setCell ?_ ?_ _); rotate_left; · (first | omega | exact Nat.le_refl _ | (simp <;> omega))) | (with_reducible refine Below.allocW ?_ _) | (with_reducible refine Below.drew ?_) | (with_reducible refine Below.extW ?_ _))) hb3
        have s3 : w.heap.size ≤ w3.heap.size := B3.size
        go_wp2_with fail
        refine (ref2_Power _ e (by omega)).mono ?_
        rintro e w4 ⟨rfl, hb4⟩
        have B4 : Below w.heap.size w w4 := Below.then_ (by repeat (first | with_reducible exact Below.refl _ _ | with_reducible assumption | ((with_reducible refine Below.setCell ?_ ?_ _); rotate_left; · (first | omega | exact Nat.le_refl _ | (simp <;> omega))) | (with_reducible refine Below.allocW ?_ _) | (with_reducible refine Below.drew ?_) | (with_reducible refine Below.extW ?_ _))) hb4
        have s4 : w.heap.size ≤ w4.heap.size := B4.size
        go_wp2_with fail
        go_ret3
        exact ⟨ret_ends HF.out.1 HF.out.2, (by repeat (first | with_reducible exact Below.refl _ _ | with_reducible assumption | ((with_reducible refine Below.setCell ?_ ?_ _); rotate_left; · (first | omega | exact Nat.le_refl _ | (simp <;> omega))) | (with_reducible refine Below.allocW ?_ _) | (with_reducible refine Below.drew ?_) | (with_reducible refine Below.extW ?_ _)))⟩
end Go.Proofs.Ytalnhdfgjjhhbaa
