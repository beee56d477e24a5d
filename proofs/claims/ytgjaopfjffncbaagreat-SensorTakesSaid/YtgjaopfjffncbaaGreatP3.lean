/-
  Texts of this proof, one behind the other: Ref02, RefLoad, Open, Load16, RankPlain, TilesLaw, FitsP, Flow, TellsA, Digits, Times, Quot, DivLaw, Div64, Part, Reach, ReachLaw, FlowRank, GapLaw, AuditLaw, TilesMore.
-/
import Derived.Deep.CutBlock
import Derived.Deep.DeepCutAuto
import Derived.Test.YtgjaopfjffncbaaGreatP1
import Derived.Test.YtgjaopfjffncbaaGreatP2
/- The reference of layer 2 (twig). -/
set_option linter.unusedSimpArgs false namespace Go.Proofs.YtgjaopfjffncbaaGreat
open Go.ChangeShapes Go.WideShapes Go.ChangeAt Go.RowKit
set_option linter.unusedVariables false

theorem ref2_Is (w : World) (l : Int) : Calls Tryz.prog 114 #[.int .i64 l] w fun e w' => e = .returned (.bool (decide (1 ≤ l ∧ l ≤ 48))) ∧ Below w.heap.size w w' := by
  by_cases h1 : 1 ≤ l
  · go_enter Tryz.func114, Tryz.ntmps114
    go_wp2_with fail
    go_ret
    exact ⟨ret_bool (by simp [h1]), (by repeat (first | with_reducible exact Below.refl _ _ | with_reducible assumption | ((with_reducible refine Below.setCell ?_ ?_ _); rotate_left; · (first | omega | exact Nat.le_refl _ | (simp <;> omega))) | (with_reducible refine Below.allocW ?_ _) | (with_reducible refine Below.drew ?_) | (with_reducible refine Below.extW ?_ _)))⟩
  · go_enter Tryz.func114, Tryz.ntmps114
    go_wp2_with fail
    go_ret
    exact ⟨ret_bool (by simp; omega), (by repeat (first | with_reducible exact Below.refl _ _ | with_reducible assumption | ((with_reducible refine Below.setCell ?_ ?_ _); rotate_left; · (first | omega | exact Nat.le_refl _ | (simp <;> omega))) | (with_reducible refine Below.allocW ?_ _) | (with_reducible refine Below.drew ?_) | (with_reducible refine Below.extW ?_ _)))⟩
theorem log2_half {x : Nat} (h : 2 ≤ x) : x.log2 = (x / 2).log2 + 1 := by
  conv => lhs; rw [Nat.log2_def]
  rw [if_pos h]
theorem depth_V (x : Nat) (hx : 1 ≤ x) : (if 1 ≤ (x : Int) then Value.tuple #[.int .i64 (x : Int).toNat.log2, .bool true] else Value.tuple #[.int .i64 0, .bool false]) = .tuple #[.int .i64 x.log2, .bool true] := by
  rw [if_pos (by omega), Int.toNat_natCast]
theorem ref2_Depth (w : World) (n : Int) (hn : n ≤ 9223372036854775807) : Calls Tryz.prog 163 #[.int .i64 n] w fun e w' =>
    e = .returned (if 1 ≤ n then .tuple #[.int .i64 n.toNat.log2, .bool true] else .tuple #[.int .i64 0, .bool false]) ∧ Below w.heap.size w w' := by
  by_cases h1 : 1 ≤ n
  · obtain ⟨x, rfl⟩ := Int.eq_ofNat_of_zero_le (show 0 ≤ n by omega)
    rw [depth_V x (by omega)]
    have hl : x.log2 < 64 := (Nat.log2_lt (by omega)).2 (by omega)
    go_enter Tryz.func163, Tryz.ntmps163
    go_wp2_with fail
    go_loop [0, 4] (fun a d => ∃ y j : Nat, 1 ≤ y ∧ y ≤ x ∧ a = .int .i64 y ∧ d = .int .i64 j ∧ j + y.log2 = x.log2) (fun a _ => (intOf a).toNat)
    case atStart => exact ⟨x, 0, by omega, Nat.le_refl _, rfl, rfl, by omega⟩
    case round =>
      obtain ⟨y, j, hy, hyx, rfl, rfl, hj⟩ := hrel
      by_cases h2 : 2 ≤ y
      · have HL := Lib.hid (log2_half h2)
        have h3 : (1 : Int) < (y : Int) := by omega
        have hj2 : j < 64 := by omega
        go_wp2_with fail
        go_round
        case rel => exact ⟨y / 2, j + 1, by omega, by omega, by go_num, by go_num, by have := HL.out; omega⟩
        case measure => simp [intOf]; omega
      · obtain rfl : y = 1 := by omega
        have e0 : (1 : Nat).log2 = 0 := by decide
        obtain rfl : j = x.log2 := by omega
        clear e0 hj
        go_wp2_with fail
        go_ret2
        exact ⟨rfl, (by repeat (first | with_reducible exact Below.refl _ _ | with_reducible assumption | ((with_reducible refine Below.setCell ?_ ?_ _); rotate_left; · (first | omega | exact Nat.le_refl _ | (simp <;> omega))) | (with_reducible refine Below.allocW ?_ _) | (with_reducible refine Below.drew ?_) | (with_reducible refine Below.extW ?_ _)))⟩
  · rw [if_neg h1]
    go_enter Tryz.func163, Tryz.ntmps163
    go_wp2_with fail
    go_ret2
    exact ⟨rfl, (by repeat (first | with_reducible exact Below.refl _ _ | with_reducible assumption | ((with_reducible refine Below.setCell ?_ ?_ _); rotate_left; · (first | omega | exact Nat.le_refl _ | (simp <;> omega))) | (with_reducible refine Below.allocW ?_ _) | (with_reducible refine Below.drew ?_) | (with_reducible refine Below.extW ?_ _)))⟩
theorem isNode_log {l : Int} {x : Nat} (hx : 1 ≤ x) : isNode l x = (decide (1 ≤ l ∧ l ≤ 48) && decide ((x.log2 : Int) ≤ l)) := by
  simp only [isNode]
  rw [Bool.eq_iff_iff]
  simp only [decide_eq_true_eq, Bool.and_eq_true]
  constructor
  · rintro ⟨h1, h2, h3⟩
    refine ⟨h1, ?_⟩
    obtain ⟨n, rfl⟩ := Int.eq_ofNat_of_zero_le (show 0 ≤ l by omega)
    have h4 : x < 2 ^ (n + 1) := by
      have : ((2 ^ (n + 1) : Nat) : Int) = 2 * 2 ^ n := by rw [Nat.pow_succ]; simp; omega
      simp only [Int.toNat_natCast] at h3
      omega
    have := (Nat.log2_lt (by omega)).2 h4
    omega
  · rintro ⟨h1, h2⟩
    obtain ⟨n, rfl⟩ := Int.eq_ofNat_of_zero_le (show 0 ≤ l by omega)
    have h4 : x < 2 ^ (n + 1) := (Nat.log2_lt (by omega)).1 (by omega)
    have : ((2 ^ (n + 1) : Nat) : Int) = 2 * 2 ^ n := by rw [Nat.pow_succ]; simp; omega
    refine ⟨h1, by omega, ?_⟩
    simp only [Int.toNat_natCast]
    omega
theorem ref2_Right (w : World) (l id : Int) (hid : id ≤ 9223372036854775807) : Calls Tryz.prog 116 #[.int .i64 l, .int .i64 id] w fun e w' => e = .returned (.bool (isNode l id)) ∧ Below w.heap.size w w' := by
  by_cases h1 : 1 ≤ id
  · obtain ⟨x, rfl⟩ := Int.eq_ofNat_of_zero_le (show 0 ≤ id by omega)
    have HN := Lib.hid (isNode_log (l := l) (x := x) (by omega))
    cases h2 : decide (1 ≤ l ∧ l ≤ 48)
    · rw [h2] at HN
      have H2 := Lib.hid h2
      clear h2
      go_enter Tryz.func116, Tryz.ntmps116
      go_wp2_with fail
      refine (ref2_Depth _ x hid).mono ?_
      rintro e w1 ⟨rfl, hb1⟩
      have B1 : Below w.heap.size w w1 := Below.then_ (by repeat (first | with_reducible exact Below.refl _ _ | with_reducible assumption | ((with_reducible refine Below.setCell ?_ ?_ _); rotate_left; · (first | omega | exact Nat.le_refl _ | (simp <;> omega))) | (with_reducible refine Below.allocW ?_ _) | (with_reducible refine Below.drew ?_) | (with_reducible refine Below.extW ?_ _))) hb1
      have s1 : w.heap.size ≤ w1.heap.size := B1.size
      rw [depth_V x (by omega)]
      go_wp2_with fail
      refine (ref2_Is _ l).mono ?_
      rintro e w2 ⟨rfl, hb2⟩
      have B2 : Below w.heap.size w w2 := Below.then_ (by repeat (first | with_reducible exact Below.refl _ _ | with_reducible assumption | ((with_reducible refine Below.setCell ?_ ?_ _); rotate_left; · (first | omega | exact Nat.le_refl _ | (simp <;> omega))) | (with_reducible refine Below.allocW ?_ _) | (with_reducible refine Below.drew ?_) | (with_reducible refine Below.extW ?_ _))) hb2
      have s2 : w.heap.size ≤ w2.heap.size := B2.size
      rw [H2.out]
      go_wp2_with fail
      go_ret
      exact ⟨ret_bool (by rw [HN.out]; rfl), (by repeat (first | with_reducible exact Below.refl _ _ | with_reducible assumption | ((with_reducible refine Below.setCell ?_ ?_ _); rotate_left; · (first | omega | exact Nat.le_refl _ | (simp <;> omega))) | (with_reducible refine Below.allocW ?_ _) | (with_reducible refine Below.drew ?_) | (with_reducible refine Below.extW ?_ _)))⟩
    · rw [h2] at HN
      have H2 := Lib.hid h2
      clear h2
      go_enter Tryz.func116, Tryz.ntmps116
      go_wp2_with fail
      refine (ref2_Depth _ x hid).mono ?_
      rintro e w1 ⟨rfl, hb1⟩
      have B1 : Below w.heap.size w w1 := Below.then_ (by repeat (first | with_reducible exact Below.refl _ _ | with_reducible assumption | ((with_reducible refine Below.setCell ?_ ?_ _); rotate_left; · (first | omega | exact Nat.le_refl _ | (simp <;> omega))) | (with_reducible refine Below.allocW ?_ _) | (with_reducible refine Below.drew ?_) | (with_reducible refine Below.extW ?_ _))) hb1
      have s1 : w.heap.size ≤ w1.heap.size := B1.size
      rw [depth_V x (by omega)]
      go_wp2_with fail
      refine (ref2_Is _ l).mono ?_
      rintro e w2 ⟨rfl, hb2⟩
      have B2 : Below w.heap.size w w2 := Below.then_ (by repeat (first | with_reducible exact Below.refl _ _ | with_reducible assumption | ((with_reducible refine Below.setCell ?_ ?_ _); rotate_left; · (first | omega | exact Nat.le_refl _ | (simp <;> omega))) | (with_reducible refine Below.allocW ?_ _) | (with_reducible refine Below.drew ?_) | (with_reducible refine Below.extW ?_ _))) hb2
      have s2 : w.heap.size ≤ w2.heap.size := B2.size
      rw [H2.out]
      go_wp2_with fail
      go_ret
      exact ⟨ret_bool (by rw [HN.out]; rfl), (by repeat (first | with_reducible exact Below.refl _ _ | with_reducible assumption | ((with_reducible refine Below.setCell ?_ ?_ _); rotate_left; · (first | omega | exact Nat.le_refl _ | (simp <;> omega))) | (with_reducible refine Below.allocW ?_ _) | (with_reducible refine Below.drew ?_) | (with_reducible refine Below.extW ?_ _)))⟩
  · have e0 : isNode l id = false := by simp [isNode, h1]
    rw [e0]
    have e1 : (if 1 ≤ id then Value.tuple #[.int .i64 id.toNat.log2, .bool true] else Value.tuple #[.int .i64 0, .bool false]) = .tuple #[.int .i64 0, .bool false] := if_neg h1
    have E1 := Lib.hid e1
    clear e0 e1
    cases h2 : decide (1 ≤ l ∧ l ≤ 48)
    all_goals
      have H2 := Lib.hid h2
      clear h2
      go_enter Tryz.func116, Tryz.ntmps116
      go_wp2_with fail
      refine (ref2_Depth _ id hid).mono ?_
      rintro e w1 ⟨rfl, hb1⟩
      have B1 : Below w.heap.size w w1 := Below.then_ (by repeat (first | with_reducible exact Below.refl _ _ | with_reducible assumption | ((with_reducible refine Below.setCell ?_ ?_ _); rotate_left; · (first | omega | exact Nat.le_refl _ | (simp <;> omega))) | (with_reducible refine Below.allocW ?_ _) | (with_reducible refine Below.drew ?_) | (with_reducible refine Below.extW ?_ _))) hb1
      have s1 : w.heap.size ≤ w1.heap.size := B1.size
      rw [E1.out]
      go_wp2_with fail
      refine (ref2_Is _ l).mono ?_
      rintro e w2 ⟨rfl, hb2⟩
      have B2 : Below w.heap.size w w2 := Below.then_ (by repeat (first | with_reducible exact Below.refl _ _ | with_reducible assumption | ((with_reducible refine Below.setCell ?_ ?_ _); rotate_left; · (first | omega | exact Nat.le_refl _ | (simp <;> omega))) | (with_reducible refine Below.allocW ?_ _) | (with_reducible refine Below.drew ?_) | (with_reducible refine Below.extW ?_ _))) hb2
      have s2 : w.heap.size ≤ w2.heap.size := B2.size
      rw [H2.out]
      go_wp2_with fail
      go_ret
      exact ⟨rfl, (by repeat (first | with_reducible exact Below.refl _ _ | with_reducible assumption | ((with_reducible refine Below.setCell ?_ ?_ _); rotate_left; · (first | omega | exact Nat.le_refl _ | (simp <;> omega))) | (with_reducible refine Below.allocW ?_ _) | (with_reducible refine Below.drew ?_) | (with_reducible refine Below.extW ?_ _)))⟩
theorem kidsOf_log {l x : Nat} (hN : isNode l x = true) : kidsOf l x = if x.log2 = l then (0, 0, false) else (2 * (x : Int), 2 * (x : Int) + 1, true) := by
  have h1 := hN
  rw [isNode_log (by simp only [isNode, decide_eq_true_eq] at hN; omega)] at h1
  simp only [Bool.and_eq_true, decide_eq_true_eq] at h1
  have hx : 1 ≤ x := by simp only [isNode, decide_eq_true_eq] at hN; omega
  simp only [kidsOf, hN, true_and, Int.toNat_natCast]
  by_cases h2 : x.log2 = l
  · rw [if_pos h2, if_neg]
    have := Nat.log2_self_le (show x ≠ 0 by omega)
    rw [h2] at this
    intro h3
    have h4 : ((2 ^ l : Nat) : Int) = 2 ^ l := by simp
    omega
  · rw [if_neg h2, if_pos]
    have := (Nat.log2_lt (n := x) (k := l) (by omega)).1 (by omega)
    have h4 : ((2 ^ l : Nat) : Int) = 2 ^ l := by simp
    omega
theorem ref2_Kids (w : World) (l id : Int) (hid : id ≤ 9223372036854775807) : Calls Tryz.prog 164 #[.int .i64 l, .int .i64 id] w fun e w' => e = .returned (endsV (kidsOf l id)) ∧ Below w.heap.size w w' := by
  cases hN : isNode l id
  · have e1 : kidsOf l id = (0, 0, false) := by simp [kidsOf, hN]
    rw [e1]
    have HN := Lib.hid hN
    clear hN e1
    by_cases h1 : 1 ≤ id
    · obtain ⟨x, rfl⟩ := Int.eq_ofNat_of_zero_le (show 0 ≤ id by omega)
      go_enter Tryz.func164, Tryz.ntmps164
      go_wp2_with fail
      refine (ref2_Depth _ x hid).mono ?_
      rintro e w1 ⟨rfl, hb1⟩
      have B1 : Below w.heap.size w w1 := Below.then_ (by repeat (first | with_reducible exact Below.refl _ _ | with_reducible assumption | ((with_reducible refine Below.setCell ?_ ?_ _); rotate_left; · (first | omega | exact Nat.le_refl _ | (simp <;> omega))) | (with_reducible refine Below.allocW ?_ _) | (with_reducible refine Below.drew ?_) | (with_reducible refine Below.extW ?_ _))) hb1
      have s1 : w.heap.size ≤ w1.heap.size := B1.size
      rw [depth_V x (by omega)]
      go_wp2_with fail
      refine (ref2_Right _ l x hid).mono ?_
      rintro e w2 ⟨rfl, hb2⟩
      have B2 : Below w.heap.size w w2 := Below.then_ (by repeat (first | with_reducible exact Below.refl _ _ | with_reducible assumption | ((with_reducible refine Below.setCell ?_ ?_ _); rotate_left; · (first | omega | exact Nat.le_refl _ | (simp <;> omega))) | (with_reducible refine Below.allocW ?_ _) | (with_reducible refine Below.drew ?_) | (with_reducible refine Below.extW ?_ _))) hb2
      have s2 : w.heap.size ≤ w2.heap.size := B2.size
      rw [HN.out]
      go_wp2_with fail
      go_ret3
      exact ⟨rfl, (by repeat (first | with_reducible exact Below.refl _ _ | with_reducible assumption | ((with_reducible refine Below.setCell ?_ ?_ _); rotate_left; · (first | omega | exact Nat.le_refl _ | (simp <;> omega))) | (with_reducible refine Below.allocW ?_ _) | (with_reducible refine Below.drew ?_) | (with_reducible refine Below.extW ?_ _)))⟩
    · have E1 := Lib.hid (show (if 1 ≤ id then Value.tuple #[.int .i64 id.toNat.log2, .bool true] else Value.tuple #[.int .i64 0, .bool false]) = .tuple #[.int .i64 0, .bool false] from if_neg h1)
      go_enter Tryz.func164, Tryz.ntmps164
      go_wp2_with fail
      refine (ref2_Depth _ id hid).mono ?_
      rintro e w1 ⟨rfl, hb1⟩
      have B1 : Below w.heap.size w w1 := Below.then_ (by repeat (first | with_reducible exact Below.refl _ _ | with_reducible assumption | ((with_reducible refine Below.setCell ?_ ?_ _); rotate_left; · (first | omega | exact Nat.le_refl _ | (simp <;> omega))) | (with_reducible refine Below.allocW ?_ _) | (with_reducible refine Below.drew ?_) | (with_reducible refine Below.extW ?_ _))) hb1
      have s1 : w.heap.size ≤ w1.heap.size := B1.size
      rw [E1.out]
      go_wp2_with fail
      refine (ref2_Right _ l id hid).mono ?_
      rintro e w2 ⟨rfl, hb2⟩
      have B2 : Below w.heap.size w w2 := Below.then_ (by repeat (first | with_reducible exact Below.refl _ _ | with_reducible assumption | ((with_reducible refine Below.setCell ?_ ?_ _); rotate_left; · (first | omega | exact Nat.le_refl _ | (simp <;> omega))) | (with_reducible refine Below.allocW ?_ _) | (with_reducible refine Below.drew ?_) | (with_reducible refine Below.extW ?_ _))) hb2
      have s2 : w.heap.size ≤ w2.heap.size := B2.size
      rw [HN.out]
      go_wp2_with fail
      go_ret3
      exact ⟨rfl, (by repeat (first | with_reducible exact Below.refl _ _ | with_reducible assumption | ((with_reducible refine Below.setCell ?_ ?_ _); rotate_left; · (first | omega | exact Nat.le_refl _ | (simp <;> omega))) | (with_reducible refine Below.allocW ?_ _) | (with_reducible refine Below.drew ?_) | (with_reducible refine Below.extW ?_ _)))⟩
  · obtain ⟨n, x, rfl, rfl, hn1, hn2, hx1, hx2⟩ := isNode_nat hN
    have HK := Lib.hid (kidsOf_log hN)
    have HN := Lib.hid hN
    have q5 := pow_48 (n := n) hn2
    have q7 : (x : Int) ≤ 562949953421312 := by omega
    clear hN hx2
    by_cases h2 : x.log2 = n
    · have h3 : ((x.log2 : Int) == (n : Int)) = true := by simp [h2]
      have HK2 := Lib.hid (show kidsOf n x = (0, 0, false) by rw [HK.out, if_pos h2])
      clear h2
      go_enter Tryz.func164, Tryz.ntmps164
      go_wp2_with fail
      refine (ref2_Depth _ x hid).mono ?_
      rintro e w1 ⟨rfl, hb1⟩
      have B1 : Below w.heap.size w w1 := Below.then_ (by repeat (first | with_reducible exact Below.refl _ _ | with_reducible assumption | ((with_reducible refine Below.setCell ?_ ?_ _); rotate_left; · (first | omega | exact Nat.le_refl _ | (simp <;> omega))) | (with_reducible refine Below.allocW ?_ _) | (with_reducible refine Below.drew ?_) | (with_reducible refine Below.extW ?_ _))) hb1
      have s1 : w.heap.size ≤ w1.heap.size := B1.size
      rw [depth_V x (by omega)]
      go_wp2_with fail
      refine (ref2_Right _ n x hid).mono ?_
      rintro e w2 ⟨rfl, hb2⟩
      have B2 : Below w.heap.size w w2 := Below.then_ (by repeat (first | with_reducible exact Below.refl _ _ | with_reducible assumption | ((with_reducible refine Below.setCell ?_ ?_ _); rotate_left; · (first | omega | exact Nat.le_refl _ | (simp <;> omega))) | (with_reducible refine Below.allocW ?_ _) | (with_reducible refine Below.drew ?_) | (with_reducible refine Below.extW ?_ _))) hb2
      have s2 : w.heap.size ≤ w2.heap.size := B2.size
      rw [HN.out]
      go_wp2_with fail
      go_ret3
      exact ⟨by rw [HK2.out]; rfl, (by repeat (first | with_reducible exact Below.refl _ _ | with_reducible assumption | ((with_reducible refine Below.setCell ?_ ?_ _); rotate_left; · (first | omega | exact Nat.le_refl _ | (simp <;> omega))) | (with_reducible refine Below.allocW ?_ _) | (with_reducible refine Below.drew ?_) | (with_reducible refine Below.extW ?_ _)))⟩
    · have h3 : ((x.log2 : Int) == (n : Int)) = false := by simp; omega
      have HK2 := Lib.hid (show kidsOf n x = (2 * (x : Int), 2 * (x : Int) + 1, true) by rw [HK.out, if_neg h2])
      clear h2
      go_enter Tryz.func164, Tryz.ntmps164
      go_wp2_with fail
      refine (ref2_Depth _ x hid).mono ?_
      rintro e w1 ⟨rfl, hb1⟩
      have B1 : Below w.heap.size w w1 := Below.then_ (by repeat (first | with_reducible exact Below.refl _ _ | with_reducible assumption | ((with_reducible refine Below.setCell ?_ ?_ _); rotate_left; · (first | omega | exact Nat.le_refl _ | (simp <;> omega))) | (with_reducible refine Below.allocW ?_ _) | (with_reducible refine Below.drew ?_) | (with_reducible refine Below.extW ?_ _))) hb1
      have s1 : w.heap.size ≤ w1.heap.size := B1.size
      rw [depth_V x (by omega)]
      go_wp2_with fail
      refine (ref2_Right _ n x hid).mono ?_
      rintro e w2 ⟨rfl, hb2⟩
      have B2 : Below w.heap.size w w2 := Below.then_ (by repeat (first | with_reducible exact Below.refl _ _ | with_reducible assumption | ((with_reducible refine Below.setCell ?_ ?_ _); rotate_left; · (first | omega | exact Nat.le_refl _ | (simp <;> omega))) | (with_reducible refine Below.allocW ?_ _) | (with_reducible refine Below.drew ?_) | (with_reducible refine Below.extW ?_ _))) hb2
      have s2 : w.heap.size ≤ w2.heap.size := B2.size
      rw [HN.out]
      go_wp2_with fail
      go_ret3
      exact ⟨by rw [HK2.out]; rfl, (by repeat (first | with_reducible exact Below.refl _ _ | with_reducible assumption | ((with_reducible refine Below.setCell ?_ ?_ _); rotate_left; · (first | omega | exact Nat.le_refl _ | (simp <;> omega))) | (with_reducible refine Below.allocW ?_ _) | (with_reducible refine Below.drew ?_) | (with_reducible refine Below.extW ?_ _)))⟩
theorem ref2_Power (w : World) (n : Nat) (hn : n ≤ 62) : Calls Tryz.prog 75 #[.int .i64 n] w fun e w' => e = .returned (.int .i64 (2 ^ n)) ∧ Below w.heap.size w w' := by
  go_enter Tryz.func75, Tryz.ntmps75
  go_wp2_with fail
  go_loop [3, 4] (fun p i => ∃ j q : Nat, j ≤ n ∧ i = .int .i64 j ∧ p = .int .i64 q ∧ q = 2 ^ j) (fun _ i => n - (intOf i).toNat)
  case atStart => exact ⟨0, 1, by omega, rfl, rfl, rfl⟩
  case round =>
    obtain ⟨j, q, hj, rfl, rfl, hq⟩ := hrel
    by_cases hlt : j < n
    · have h1 : 2 ^ j ≤ 2 ^ 61 := Nat.pow_le_pow_right (by decide) (by omega)
      have h2 : q ≤ 2305843009213693952 := by rw [hq]; simpa using h1
      have HQ := Lib.hid hq
      clear hq h1
      go_wp2_with fail
      go_round
      case rel => exact ⟨j + 1, 2 * q, by omega, by go_num, by go_num, by rw [HQ.out, Nat.pow_succ, Nat.mul_comm]⟩
      case measure => simp [intOf]; omega
    · obtain rfl : j = n := by omega
      have HQ := Lib.hid hq
      clear hq
      go_wp2_with fail
      go_ret
      exact ⟨ret_int (by rw [HQ.out]; simp), (by repeat (first | with_reducible exact Below.refl _ _ | with_reducible assumption | ((with_reducible refine Below.setCell ?_ ?_ _); rotate_left; · (first | omega | exact Nat.le_refl _ | (simp <;> omega))) | (with_reducible refine Below.allocW ?_ _) | (with_reducible refine Below.drew ?_) | (with_reducible refine Below.extW ?_ _)))⟩

/-- The end of the way down. -/
theorem ends_way {n x d b t j lo hi : Nat} (hn : n ≤ 48) (hdb : d + b = n) (hxt : x = 2 ^ d + t) (htd : t < 2 ^ d) (hj : d + j ≤ n) (hlo : lo = x * 2 ^ j) (hhi : hi + 1 = (x + 1) * 2 ^ j) : hi + 1 ≤ 562949953421312 ∧ lo ≤ hi := by
  have h1 : (x + 1) ≤ 2 * 2 ^ d := by omega
  have h2 : (x + 1) * 2 ^ j ≤ 2 * 2 ^ d * 2 ^ j := Nat.mul_le_mul_right _ h1
  have h3 : 2 ^ d * 2 ^ j = 2 ^ (d + j) := (Nat.pow_add 2 d j).symm
  have h4 : 2 ^ (d + j) ≤ 2 ^ 48 := Nat.pow_le_pow_right (by decide) (by omega)
  rw [Nat.mul_assoc, h3] at h2
  have h5 : x * 2 ^ j + 1 ≤ (x + 1) * 2 ^ j := by rw [Nat.add_mul]; have := Nat.two_pow_pos j; omega
  omega
theorem ends_fin {n x d b t j lo hi : Nat} (hdb : d + b = n) (hxt : x = 2 ^ d + t) (hj : d + j = n) (hlo : lo = x * 2 ^ j) (hhi : hi + 1 = (x + 1) * 2 ^ j) :
    (lo : Int) - 2 ^ n = (t : Int) * 2 ^ b ∧ (hi : Int) - 2 ^ n = (t : Int) * 2 ^ b + 2 ^ b - 1 := by
  obtain rfl : j = b := by omega
  have h3 : 2 ^ d * 2 ^ j = 2 ^ n := by rw [← Nat.pow_add, hdb]
  have e1 : lo = 2 ^ n + t * 2 ^ j := by rw [hlo, hxt, Nat.add_mul, h3]
  have e2 : hi + 1 = 2 ^ n + t * 2 ^ j + 2 ^ j := by rw [hhi, hxt, Nat.add_mul, Nat.add_mul, h3]; omega
  have p1 : ((2 ^ n : Nat) : Int) = 2 ^ n := by simp
  have p2 : ((2 ^ j : Nat) : Int) = 2 ^ j := by simp
  have p3 : ((t * 2 ^ j : Nat) : Int) = (t : Int) * 2 ^ j := by simp
  omega
theorem ret_ends {a b c d : Int} {t : Bool} (h1 : a = c) (h2 : b = d) : Ending.returned (.tuple #[.int .i64 a, .int .i64 b, .bool t]) = .returned (endsV (c, d, t)) := by rw [h1, h2]; rfl
end Go.Proofs.YtgjaopfjffncbaaGreat
/- The references of layers 6, 7, 9, 11, 12 and 13, as far as Load goes. -/
namespace Go.Proofs.YtgjaopfjffncbaaGreat
open Go.ChangeShapes Go.WideShapes Go.ChangeAt Go.RowKit
set_option linter.unusedVariables false

theorem totalFrom_bad {m : Int} {x : Nd} {l : List Nd} (hm : 0 ≤ m) (h : x.2 < 0 ∨ most - m < x.2) : totalFrom m (x :: l) = (0, false) := by
  simp only [totalFrom]
  rw [if_neg]
  rintro ⟨h1, h2⟩
  unfold addOf at h1 h2
  unfold most at *
  split at h1
  · rename_i hc
    rw [if_pos hc] at h2
    simp only at h2
    omega
  · cases h1
theorem totalFrom_good {m : Int} {x : Nd} {l : List Nd} (hm : 0 ≤ m) (h1 : 0 ≤ x.2) (h2 : x.2 ≤ most - m) : totalFrom m (x :: l) = totalFrom (m + x.2) l := by
  simp only [totalFrom]
  unfold most at h2
  have e : addOf m x.2 = (m + x.2, true) := by unfold addOf; rw [if_pos (by omega)]
  rw [e, if_pos ⟨rfl, by unfold most; simp only; omega⟩]
theorem ref6_Total (w : World) (A : Option Addr) (cap : Nat) (l : List Nd) (hS : Sl w w.heap.size encN A l) (hI : ints l) (hm : l.length ≤ maxLen) :
    Calls Tryz.prog 166 #[.slice A l.length cap] w fun e w' => e = .returned (okV (totalOf l)) ∧ Below w.heap.size w w' := by
  have HS := Lib.hid hS
  have HI := Lib.hid hI
  unfold maxLen at hm
  clear hS hI
  go_enter Tryz.func166, Tryz.ntmps166
  go_wp2_with fail
  go_loop [4, 5] (fun n i => ∃ (k : Nat) (m : Int), k ≤ l.length ∧ i = .int .i64 k ∧ n = .int .i64 m ∧ 0 ≤ m ∧ m ≤ 72057594037927935 ∧ totalOf l = totalFrom m (l.drop k)) (fun _ i => l.length - (intOf i).toNat)
  case atStart => exact ⟨0, 0, by omega, rfl, rfl, by omega, by omega, rfl⟩
  case round =>
    obtain ⟨k, m, hk, rfl, rfl, hm0, hm1, hT⟩ := hrel
    have HT := Lib.hid hT
    clear hT
    by_cases hlt : k < l.length
    · obtain ⟨b, off, rfl, hb, hc⟩ := HS.out.at_ hlt
      have d0 := hc 0 (.int .i64 l[k].1) rfl
      have d1 := hc 1 (.int .i64 l[k].2) rfl
      simp only [Nat.add_zero] at d0
      have hx := (HI.out _ (List.getElem_mem hlt)).2
      have hN := HT.out
      rw [drop_cons hlt] at hN
      obtain ⟨x, hxe⟩ : ∃ x, x = l[k] := ⟨_, rfl⟩
      rw [← hxe] at d0 d1 hx hN
      unfold i64 at hx
      have hx1 := hx.1
      have hx2 := hx.2
      have HN := Lib.hid hN
      clear hc hN hxe hx
      by_cases h1 : x.2 < 0
      · have HF := Lib.hid (HN.out.trans (totalFrom_bad hm0 (.inl h1)))
        go_wp2_with fail
        go_ret2
        exact ⟨by rw [HF.out]; rfl, (by repeat (first | with_reducible exact Below.refl _ _ | with_reducible assumption | ((with_reducible refine Below.setCell ?_ ?_ _); rotate_left; · (first | omega | exact Nat.le_refl _ | (simp <;> omega))) | (with_reducible refine Below.allocW ?_ _) | (with_reducible refine Below.drew ?_) | (with_reducible refine Below.extW ?_ _)))⟩
      · by_cases h2 : 72057594037927935 - m < x.2
        · have HF := Lib.hid (HN.out.trans (totalFrom_bad hm0 (.inr h2)))
          go_wp2_with fail
          go_ret2
          exact ⟨by rw [HF.out]; rfl, (by repeat (first | with_reducible exact Below.refl _ _ | with_reducible assumption | ((with_reducible refine Below.setCell ?_ ?_ _); rotate_left; · (first | omega | exact Nat.le_refl _ | (simp <;> omega))) | (with_reducible refine Below.allocW ?_ _) | (with_reducible refine Below.drew ?_) | (with_reducible refine Below.extW ?_ _)))⟩
        · have HF := Lib.hid (HN.out.trans (totalFrom_good hm0 (by omega) (by unfold most; omega)))
          go_wp2_with fail
          go_round
          case rel => exact ⟨k + 1, m + x.2, by omega, by go_num, rfl, by omega, by omega, HF.out⟩
          case measure => simp [intOf]; omega
    · obtain rfl : k = l.length := by omega
      have HE := Lib.hid (show totalOf l = (m, true) by rw [HT.out, List.drop_length]; rfl)
      go_wp2_with fail
      go_ret2
      exact ⟨by rw [HE.out]; rfl, (by repeat (first | with_reducible exact Below.refl _ _ | with_reducible assumption | ((with_reducible refine Below.setCell ?_ ?_ _); rotate_left; · (first | omega | exact Nat.le_refl _ | (simp <;> omega))) | (with_reducible refine Below.allocW ?_ _) | (with_reducible refine Below.drew ?_) | (with_reducible refine Below.extW ?_ _)))⟩
/-- The number ahead of place k. -/
def lastR (l : List Nd) (k : Nat) : Int := if k = 0 then 0 else (l[k - 1]?.getD (0, 0)).1
theorem rises_step {u : Int} {l : List Nd} {k : Nat} (hk : k < l.length) (hN : isNode u l[k].1 = true) (h1 : 1 ≤ l[k].2) (hl : lastR l k < l[k].1) (hR : risesFrom u 0 l = risesFrom u (lastR l k) (l.drop k)) :
    risesFrom u 0 l = risesFrom u (lastR l (k + 1)) (l.drop (k + 1)) := by
  rw [hR, drop_cons hk]
  simp only [risesFrom, hN, hl, h1, decide_true, Bool.true_and]
  congr 1
  simp [lastR, hk]
theorem rises_bad {u : Int} {l : List Nd} {k : Nat} (hk : k < l.length) (hR : risesFrom u 0 l = risesFrom u (lastR l k) (l.drop k)) (h : isNode u l[k].1 = false ∨ l[k].2 < 1 ∨ l[k].1 ≤ lastR l k) : rightOf u l = false := by
  unfold rightOf
  rw [hR, drop_cons hk]
  simp only [risesFrom]
  rcases h with h | h | h
  · rw [h]; simp
  · have : decide (1 ≤ l[k].2) = false := by simpa using h
    rw [this]; simp
  · have : decide (lastR l k < l[k].1) = false := by simpa using h
    rw [this]; simp
theorem ref7_Total (w : World) (u : Int) (A : Option Addr) (cap : Nat) (l : List Nd) (hS : Sl w w.heap.size encN A l) (hI : ints l) (hm : l.length ≤ maxLen) :
    Calls Tryz.prog 119 #[.agg #[.int .i64 u, .slice A l.length cap]] w fun e w' => e = .returned (.int .i64 (totalOf l).1) ∧ Below w.heap.size w w' := by
  have HC := Lib.hid (ref6_Total · A cap l · hI hm)
  have HS := Lib.hid hS
  clear hS hI hm
  go_enter Tryz.func119, Tryz.ntmps119
  go_wp2_with fail
  refine (HC.out _ (HS.out.keep (by simp) fun p hp => ((Below.refl w.heap.size w).alloc (Nat.le_refl _) _).cell hp)).mono ?_
  rintro e w1 ⟨rfl, hb1⟩
  have B1 : Below w.heap.size w w1 := Below.then_ (by repeat (first | with_reducible exact Below.refl _ _ | with_reducible assumption | ((with_reducible refine Below.setCell ?_ ?_ _); rotate_left; · (first | omega | exact Nat.le_refl _ | (simp <;> omega))) | (with_reducible refine Below.allocW ?_ _) | (with_reducible refine Below.drew ?_) | (with_reducible refine Below.extW ?_ _))) hb1
  have s1 : w.heap.size ≤ w1.heap.size := B1.size
  have z1_0 : w.heap.size < w1.heap.size := by have := hb1.size; (try simp at this); omega
  have y1_0 : w.heap.size ≤ w1.heap.size := Nat.le_of_lt z1_0
  have c1_0 := fun o => hb1.cell (p := ⟨w.heap.size, o, none⟩) (by first | omega | (simp <;> omega))
  have f1_0 := fun o => hb1.frozen (p := ⟨w.heap.size, o, none⟩) (by first | omega | (simp <;> omega))
  unfold okV
  go_wp2_with fail
  go_ret
  exact ⟨rfl, (by repeat (first | with_reducible exact Below.refl _ _ | with_reducible assumption | ((with_reducible refine Below.setCell ?_ ?_ _); rotate_left; · (first | omega | exact Nat.le_refl _ | (simp <;> omega))) | (with_reducible refine Below.allocW ?_ _) | (with_reducible refine Below.drew ?_) | (with_reducible refine Below.extW ?_ _)))⟩
theorem ref9_Is (w : World) (K l : Int) : Calls Tryz.prog 96 #[.int .i64 K, .int .i64 l] w fun e w' => e = .returned (.bool (isPool K l)) ∧ Below w.heap.size w w' := by
  by_cases h1 : K = 1
  · subst h1
    by_cases h2 : 1 ≤ l
    · by_cases h3 : l ≤ 16
      · go_enter Tryz.func96, Tryz.ntmps96
        go_wp2_with fail
        go_ret
        exact ⟨ret_bool (by simp [isPool, h2, h3]), (by repeat (first | with_reducible exact Below.refl _ _ | with_reducible assumption | ((with_reducible refine Below.setCell ?_ ?_ _); rotate_left; · (first | omega | exact Nat.le_refl _ | (simp <;> omega))) | (with_reducible refine Below.allocW ?_ _) | (with_reducible refine Below.drew ?_) | (with_reducible refine Below.extW ?_ _)))⟩
      · have h3' : 16 < l := by omega
        go_enter Tryz.func96, Tryz.ntmps96
        go_wp2_with fail
        go_ret
        exact ⟨ret_bool (by simp [isPool]; omega), (by repeat (first | with_reducible exact Below.refl _ _ | with_reducible assumption | ((with_reducible refine Below.setCell ?_ ?_ _); rotate_left; · (first | omega | exact Nat.le_refl _ | (simp <;> omega))) | (with_reducible refine Below.allocW ?_ _) | (with_reducible refine Below.drew ?_) | (with_reducible refine Below.extW ?_ _)))⟩
    · go_enter Tryz.func96, Tryz.ntmps96
      go_wp2_with fail
      go_ret
      exact ⟨ret_bool (by simp [isPool]; omega), (by repeat (first | with_reducible exact Below.refl _ _ | with_reducible assumption | ((with_reducible refine Below.setCell ?_ ?_ _); rotate_left; · (first | omega | exact Nat.le_refl _ | (simp <;> omega))) | (with_reducible refine Below.allocW ?_ _) | (with_reducible refine Below.drew ?_) | (with_reducible refine Below.extW ?_ _)))⟩
  · have e1 : (K == 1) = false := by simpa using h1
    by_cases h2 : K = 2
    · subst h2
      by_cases h3 : 1 ≤ l
      · go_enter Tryz.func96, Tryz.ntmps96
        go_wp2_with fail
        go_ret
        exact ⟨ret_bool (by simp [isPool, h3]), (by repeat (first | with_reducible exact Below.refl _ _ | with_reducible assumption | ((with_reducible refine Below.setCell ?_ ?_ _); rotate_left; · (first | omega | exact Nat.le_refl _ | (simp <;> omega))) | (with_reducible refine Below.allocW ?_ _) | (with_reducible refine Below.drew ?_) | (with_reducible refine Below.extW ?_ _)))⟩
      · go_enter Tryz.func96, Tryz.ntmps96
        go_wp2_with fail
        go_ret
        exact ⟨ret_bool (by simp [isPool]; omega), (by repeat (first | with_reducible exact Below.refl _ _ | with_reducible assumption | ((with_reducible refine Below.setCell ?_ ?_ _); rotate_left; · (first | omega | exact Nat.le_refl _ | (simp <;> omega))) | (with_reducible refine Below.allocW ?_ _) | (with_reducible refine Below.drew ?_) | (with_reducible refine Below.extW ?_ _)))⟩
    · have e2 : (K == 2) = false := by simpa using h2
      go_enter Tryz.func96, Tryz.ntmps96
      go_wp2_with fail
      go_ret
      exact ⟨ret_bool (by simp [isPool, h1, h2]), (by repeat (first | with_reducible exact Below.refl _ _ | with_reducible assumption | ((with_reducible refine Below.setCell ?_ ?_ _); rotate_left; · (first | omega | exact Nat.le_refl _ | (simp <;> omega))) | (with_reducible refine Below.allocW ?_ _) | (with_reducible refine Below.drew ?_) | (with_reducible refine Below.extW ?_ _)))⟩
theorem ref11_Cap (w : World) (n k : Int) (hn0 : 0 ≤ n) (hn : n ≤ 9223372036854775807) (hk : 1 ≤ k) (hk2 : k ≤ 9223372036854775807) : Calls Tryz.prog 196 #[.int .i64 n, .int .i64 k] w fun e w' => e = .returned (.int .i64 (n / k)) ∧ Below w.heap.size w w' := by
  have q1 : 0 ≤ n / k := Int.ediv_nonneg (by omega) (by omega)
  have q2 : n / k ≤ n := Int.ediv_le_self _ (by omega)
  go_enter Tryz.func196, Tryz.ntmps196
  go_wp2_with fail
  go_ret
  exact ⟨rfl, (by repeat (first | with_reducible exact Below.refl _ _ | with_reducible assumption | ((with_reducible refine Below.setCell ?_ ?_ _); rotate_left; · (first | omega | exact Nat.le_refl _ | (simp <;> omega))) | (with_reducible refine Below.allocW ?_ _) | (with_reducible refine Below.drew ?_) | (with_reducible refine Below.extW ?_ _)))⟩
theorem ref12_Is (w : World) (k : Int) : Calls Tryz.prog 95 #[.int .i64 k] w fun e w' => e = .returned (.bool (decide (1 ≤ k ∧ k ≤ 1048576))) ∧ Below w.heap.size w w' := by
  by_cases h1 : 1 ≤ k
  · go_enter Tryz.func95, Tryz.ntmps95
    go_wp2_with fail
    go_ret
    exact ⟨ret_bool (by simp [h1]), (by repeat (first | with_reducible exact Below.refl _ _ | with_reducible assumption | ((with_reducible refine Below.setCell ?_ ?_ _); rotate_left; · (first | omega | exact Nat.le_refl _ | (simp <;> omega))) | (with_reducible refine Below.allocW ?_ _) | (with_reducible refine Below.drew ?_) | (with_reducible refine Below.extW ?_ _)))⟩
  · go_enter Tryz.func95, Tryz.ntmps95
    go_wp2_with fail
    go_ret
    exact ⟨ret_bool (by simp; omega), (by repeat (first | with_reducible exact Below.refl _ _ | with_reducible assumption | ((with_reducible refine Below.setCell ?_ ?_ _); rotate_left; · (first | omega | exact Nat.le_refl _ | (simp <;> omega))) | (with_reducible refine Below.allocW ?_ _) | (with_reducible refine Below.drew ?_) | (with_reducible refine Below.extW ?_ _)))⟩
theorem ref12_Cap (w : World) (u k : Int) (A : Option Addr) (cap : Nat) (l : List Nd) (hS : Sl w w.heap.size encN A l) (hI : ints l) (hm : l.length ≤ maxLen) (h0 : 0 ≤ (totalOf l).1) (h1 : (totalOf l).1 ≤ 72057594037927935) (hk : 1 ≤ k) (hk2 : k ≤ 1048576) :
    Calls Tryz.prog 165 #[.agg #[.int .i64 u, .slice A l.length cap], .int .i64 k] w fun e w' => e = .returned (.int .i64 ((totalOf l).1 / k)) ∧ Below w.heap.size w w' := by
  have HC := Lib.hid (ref7_Total · u A cap l · hI hm)
  have HS := Lib.hid hS
  clear hS hI hm
  generalize (totalOf l).1 = t at HC h0 h1 ⊢
  go_enter Tryz.func165, Tryz.ntmps165
  go_wp2_with fail
  refine (HC.out _ (HS.out.keep (by simp) fun p hp => ((Below.refl w.heap.size w).alloc (Nat.le_refl _) _).cell hp)).mono ?_
  rintro e w1 ⟨rfl, hb1⟩
  have B1 : Below w.heap.size w w1 := Below.then_ (by repeat (first | with_reducible exact Below.refl _ _ | with_reducible assumption | ((with_reducible refine Below.setCell ?_ ?_ _); rotate_left; · (first | omega | exact Nat.le_refl _ | (simp <;> omega))) | (with_reducible refine Below.allocW ?_ _) | (with_reducible refine Below.drew ?_) | (with_reducible refine Below.extW ?_ _))) hb1
  have s1 : w.heap.size ≤ w1.heap.size := B1.size
  have z1_0 : w.heap.size < w1.heap.size := by have := hb1.size; (try simp at this); omega
  have y1_0 : w.heap.size ≤ w1.heap.size := Nat.le_of_lt z1_0
  have c1_0 := fun o => hb1.cell (p := ⟨w.heap.size, o, none⟩) (by first | omega | (simp <;> omega))
  have f1_0 := fun o => hb1.frozen (p := ⟨w.heap.size, o, none⟩) (by first | omega | (simp <;> omega))
  go_wp2_with fail
  refine (ref11_Cap _ t k h0 (by omega) hk (by omega)).mono ?_
  rintro e w2 ⟨rfl, hb2⟩
  have B2 : Below w.heap.size w w2 := Below.then_ (by repeat (first | with_reducible exact Below.refl _ _ | with_reducible assumption | ((with_reducible refine Below.setCell ?_ ?_ _); rotate_left; · (first | omega | exact Nat.le_refl _ | (simp <;> omega))) | (with_reducible refine Below.allocW ?_ _) | (with_reducible refine Below.drew ?_) | (with_reducible refine Below.extW ?_ _))) hb2
  have s2 : w.heap.size ≤ w2.heap.size := B2.size
  go_wp2_with fail
  go_ret
  exact ⟨rfl, (by repeat (first | with_reducible exact Below.refl _ _ | with_reducible assumption | ((with_reducible refine Below.setCell ?_ ?_ _); rotate_left; · (first | omega | exact Nat.le_refl _ | (simp <;> omega))) | (with_reducible refine Below.allocW ?_ _) | (with_reducible refine Below.drew ?_) | (with_reducible refine Below.extW ?_ _)))⟩
theorem light_step {u m : Int} {l : List Nd} {k : Nat} (hk : k < l.length) (h : (l.take k).any (heavy u m) = false) (hx : heavy u m l[k] = false) : (l.take (k + 1)).any (heavy u m) = false := by
  rw [List.take_succ_eq_append_getElem hk, List.any_append, h]; simp [hx]
theorem light_bad {u m : Int} {l : List Nd} {k : Nat} (hk : k < l.length) (hx : heavy u m l[k] = true) : l.any (heavy u m) = true := List.any_eq_true.2 ⟨_, List.getElem_mem hk, hx⟩
set_option maxRecDepth 100000 in
theorem ref12_Light (w : World) (u k : Int) (A : Option Addr) (cap : Nat) (l : List Nd) (hS : Sl w w.heap.size encN A l) (hI : ints l) (hm : l.length ≤ maxLen) (ht : (totalOf l).1 = sumR l) (h0 : 0 ≤ sumR l) (h1 : sumR l ≤ 72057594037927935) (hk : 1 ≤ k) (hk2 : k ≤ 1048576) :
    Calls Tryz.prog 118 #[.agg #[.int .i64 u, .slice A l.length cap], .int .i64 k] w fun e w' => e = .returned (.bool (lightOf u l k)) ∧ Below w.heap.size w w' := by
  have HC : Hid (∀ W, Sl W W.heap.size encN A l → Calls Tryz.prog 165 #[.agg #[.int .i64 u, .slice A l.length cap], .int .i64 k] W fun e w' => e = .returned (.int .i64 (sumR l / k)) ∧ Below W.heap.size W w') := Lib.hid fun W hW => by
    have := ref12_Cap W u k A cap l hW hI hm (by omega) (by omega) hk hk2
    rwa [ht] at this
  have HS := Lib.hid (hS.keep (B' := w.heap.size) (Nat.le_refl _) fun p hp => ((Below.refl w.heap.size w).alloc (Nat.le_refl _) (.cells #[.int .i64 u, .slice A l.length cap] 39)).cell hp)
  have HI := Lib.hid hI
  have HM : Hid (lightOf u l k = !l.any (heavy u (sumR l / k))) := Lib.hid rfl
  unfold maxLen at hm
  clear hS hI ht
  generalize sumR l / k = m at HC HM
  go_enter Tryz.func118, Tryz.ntmps118
  go_wp2_with fail
  go_loopw [5] (fun i wr => ∃ q : Nat, q ≤ l.length ∧ i = .int .i64 q ∧ (l.take q).any (heavy u m) = false ∧ Below w.heap.size w wr ∧ Below (w.heap.size + 1) (w.alloc (.cells #[.int .i64 u, .slice A l.length cap] 39)) wr) (fun i _ => l.length - (intOf i).toNat)
  case atStart => exact ⟨0, by omega, rfl, rfl, (by repeat (first | with_reducible exact Below.refl _ _ | with_reducible assumption | ((with_reducible refine Below.setCell ?_ ?_ _); rotate_left; · (first | omega | exact Nat.le_refl _ | (simp <;> omega))) | (with_reducible refine Below.allocW ?_ _) | (with_reducible refine Below.drew ?_) | (with_reducible refine Below.extW ?_ _))), Below.refl _ _⟩
  case round =>
    obtain ⟨q, hq, rfl, hR, hBw, hB⟩ := hrel
    have HR := Lib.hid hR
    clear hR
    have hs := hB.size
    simp only [World.size_alloc] at hs
    have cb := blk_cell ((hB.block w.heap.size (by omega)).trans (heap_alloc_new w _))
    have zb : w.heap.size < wr.heap.size := by omega
    by_cases hlt : q < l.length
    · obtain ⟨b, off, rfl, hb, hc⟩ := (HS.out.below (hB.mono (by omega))).at_ hlt
      have HSr := Lib.hid ((HS.out.below (hB.mono (by omega))).keep (B' := wr.heap.size) (by omega) fun p hp => rfl)
      have d0 := hc 0 (.int .i64 l[q].1) rfl
      have d1 := hc 1 (.int .i64 l[q].2) rfl
      simp only [Nat.add_zero] at d0
      have hx := (HI.out _ (List.getElem_mem hlt)).1
      have HStep := Lib.hid (light_step hlt HR.out)
      have HBad := Lib.hid (light_bad (u := u) (m := m) hlt)
      have hzb : b < wr.heap.size := by omega
      have i1 : (q : Int) < (l.length : Int) := by omega
      obtain ⟨x, hxe⟩ : ∃ x, x = l[q] := ⟨_, rfl⟩
      rw [← hxe] at d0 d1 hx HStep HBad
      have HK := Lib.hid (ref2_Kids · u x.1 hx.2)
      have HH : Hid (heavy u m x = ((kidsOf u x.1).2.2 && decide (m < x.2))) := Lib.hid rfl
      generalize kidsOf u x.1 = t at HK HH
      obtain ⟨t1, t2, t3⟩ := t
      unfold endsV at HK
      clear hc hxe hx
      cases t3
      · have HF := Lib.hid (HStep.out (by rw [HH.out]; rfl))
        go_wp2_with fail
        refine wp_region_ext (by kernel_rfl) (by kernel_rfl) ?_
        repeat (go_big_quiet_step ((go_at_call 164; exact quiet_ext (HK.out _))))
        refine wpQuiet_nil ?_
        intro w1 hb1
        replace hb1 := below_of_ext hb1
        have B1 : Below w.heap.size w w1 := Below.then_ (by repeat (first | with_reducible exact Below.refl _ _ | with_reducible assumption | ((with_reducible refine Below.setCell ?_ ?_ _); rotate_left; · (first | omega | exact Nat.le_refl _ | (simp <;> omega))) | (with_reducible refine Below.allocW ?_ _) | (with_reducible refine Below.drew ?_) | (with_reducible refine Below.extW ?_ _))) hb1
        have s1 : w.heap.size ≤ w1.heap.size := B1.size
        have z1_0 : w.heap.size < w1.heap.size := by have := hb1.size; (try simp at this); omega
        have y1_0 : w.heap.size ≤ w1.heap.size := Nat.le_of_lt z1_0
        have c1_0 := fun o => hb1.cell (p := ⟨w.heap.size, o, none⟩) (by first | omega | (simp <;> omega))
        have f1_0 := fun o => hb1.frozen (p := ⟨w.heap.size, o, none⟩) (by first | omega | (simp <;> omega))
        have z1_1 : b < w1.heap.size := by have := hb1.size; (try simp at this); omega
        have y1_1 : b ≤ w1.heap.size := Nat.le_of_lt z1_1
        have c1_1 := fun o => hb1.cell (p := ⟨b, o, none⟩) (by first | omega | (simp <;> omega))
        have f1_1 := fun o => hb1.frozen (p := ⟨b, o, none⟩) (by first | omega | (simp <;> omega))
        go_wp2_with fail
        refine wp_region_ext (by kernel_rfl) (by kernel_rfl) ?_
        repeat (go_big_quiet_step (fail))
        refine wpQuiet_nil ?_
        intro w2 hb2
        replace hb2 := below_of_ext hb2
        have B2 : Below w.heap.size w w2 := Below.then_ (by repeat (first | with_reducible exact Below.refl _ _ | with_reducible assumption | ((with_reducible refine Below.setCell ?_ ?_ _); rotate_left; · (first | omega | exact Nat.le_refl _ | (simp <;> omega))) | (with_reducible refine Below.allocW ?_ _) | (with_reducible refine Below.drew ?_) | (with_reducible refine Below.extW ?_ _))) hb2
        have s2 : w.heap.size ≤ w2.heap.size := B2.size
        have z2_0 : w.heap.size < w2.heap.size := by have := hb2.size; (try simp at this); omega
        have y2_0 : w.heap.size ≤ w2.heap.size := Nat.le_of_lt z2_0
        have c2_0 := fun o => hb2.cell (p := ⟨w.heap.size, o, none⟩) (by first | omega | (simp <;> omega))
        have f2_0 := fun o => hb2.frozen (p := ⟨w.heap.size, o, none⟩) (by first | omega | (simp <;> omega))
        have z2_1 : b < w2.heap.size := by have := hb2.size; (try simp at this); omega
        have y2_1 : b ≤ w2.heap.size := Nat.le_of_lt z2_1
        have c2_1 := fun o => hb2.cell (p := ⟨b, o, none⟩) (by first | omega | (simp <;> omega))
        have f2_1 := fun o => hb2.frozen (p := ⟨b, o, none⟩) (by first | omega | (simp <;> omega))
        have hB2 : Below (w.heap.size + 1) (w.alloc (.cells #[.int .i64 u, .slice (some ⟨b, off, none⟩) l.length cap] 39)) w2 := hB.trans ((hb1.mono (by omega)).trans (hb2.mono (by omega)))
        go_wp2_with fail
        go_roundw
        case rel => exact ⟨q + 1, by omega, by go_num, HF.out, B2, hB2⟩
        case measure => simp [intOf]; omega
      · by_cases hmx : m < x.2
        · have HF := Lib.hid (HBad.out (by rw [HH.out]; simpa using hmx))
          go_wp2_with fail
          refine wp_region_ext (by kernel_rfl) (by kernel_rfl) ?_
          repeat (go_big_quiet_step ((go_at_call 164; exact quiet_ext (HK.out _))))
          refine wpQuiet_nil ?_
          intro w1 hb1
          replace hb1 := below_of_ext hb1
          have B1 : Below w.heap.size w w1 := Below.then_ (by repeat (first | with_reducible exact Below.refl _ _ | with_reducible assumption | ((with_reducible refine Below.setCell ?_ ?_ _); rotate_left; · (first | omega | exact Nat.le_refl _ | (simp <;> omega))) | (with_reducible refine Below.allocW ?_ _) | (with_reducible refine Below.drew ?_) | (with_reducible refine Below.extW ?_ _))) hb1
          have s1 : w.heap.size ≤ w1.heap.size := B1.size
          have z1_0 : w.heap.size < w1.heap.size := by have := hb1.size; (try simp at this); omega
          have y1_0 : w.heap.size ≤ w1.heap.size := Nat.le_of_lt z1_0
          have c1_0 := fun o => hb1.cell (p := ⟨w.heap.size, o, none⟩) (by first | omega | (simp <;> omega))
          have f1_0 := fun o => hb1.frozen (p := ⟨w.heap.size, o, none⟩) (by first | omega | (simp <;> omega))
          have z1_1 : b < w1.heap.size := by have := hb1.size; (try simp at this); omega
          have y1_1 : b ≤ w1.heap.size := Nat.le_of_lt z1_1
          have c1_1 := fun o => hb1.cell (p := ⟨b, o, none⟩) (by first | omega | (simp <;> omega))
          have f1_1 := fun o => hb1.frozen (p := ⟨b, o, none⟩) (by first | omega | (simp <;> omega))
          have HS1 := Lib.hid (HSr.out.keep hb1.size fun p hp => hb1.cell hp)
          go_wp2_with fail
          refine wp_region_ext (by kernel_rfl) (by kernel_rfl) ?_
          repeat (go_big_quiet_step ((go_at_call 165; exact quiet_ext (HC.out _ (HS1.out.keep (ext_below _ _).size fun p hp => (ext_below _ _).cell hp)))))
          refine wpQuiet_nil ?_
          intro w2 hb2
          replace hb2 := below_of_ext hb2
          have B2 : Below w.heap.size w w2 := Below.then_ (by repeat (first | with_reducible exact Below.refl _ _ | with_reducible assumption | ((with_reducible refine Below.setCell ?_ ?_ _); rotate_left; · (first | omega | exact Nat.le_refl _ | (simp <;> omega))) | (with_reducible refine Below.allocW ?_ _) | (with_reducible refine Below.drew ?_) | (with_reducible refine Below.extW ?_ _))) hb2
          have s2 : w.heap.size ≤ w2.heap.size := B2.size
          have z2_0 : w.heap.size < w2.heap.size := by have := hb2.size; (try simp at this); omega
          have y2_0 : w.heap.size ≤ w2.heap.size := Nat.le_of_lt z2_0
          have c2_0 := fun o => hb2.cell (p := ⟨w.heap.size, o, none⟩) (by first | omega | (simp <;> omega))
          have f2_0 := fun o => hb2.frozen (p := ⟨w.heap.size, o, none⟩) (by first | omega | (simp <;> omega))
          have z2_1 : b < w2.heap.size := by have := hb2.size; (try simp at this); omega
          have y2_1 : b ≤ w2.heap.size := Nat.le_of_lt z2_1
          have c2_1 := fun o => hb2.cell (p := ⟨b, o, none⟩) (by first | omega | (simp <;> omega))
          have f2_1 := fun o => hb2.frozen (p := ⟨b, o, none⟩) (by first | omega | (simp <;> omega))
          go_wp2_with fail
          go_ret
          exact ⟨ret_bool (by rw [HM.out, HF.out]; rfl), (by repeat (first | with_reducible exact Below.refl _ _ | with_reducible assumption | ((with_reducible refine Below.setCell ?_ ?_ _); rotate_left; · (first | omega | exact Nat.le_refl _ | (simp <;> omega))) | (with_reducible refine Below.allocW ?_ _) | (with_reducible refine Below.drew ?_) | (with_reducible refine Below.extW ?_ _)))⟩
        · have hmx' : decide (m < x.2) = false := by simpa using hmx
          have HF := Lib.hid (HStep.out (by rw [HH.out, hmx']; rfl))
          go_wp2_with fail
          refine wp_region_ext (by kernel_rfl) (by kernel_rfl) ?_
          repeat (go_big_quiet_step ((go_at_call 164; exact quiet_ext (HK.out _))))
          refine wpQuiet_nil ?_
          intro w1 hb1
          replace hb1 := below_of_ext hb1
          have B1 : Below w.heap.size w w1 := Below.then_ (by repeat (first | with_reducible exact Below.refl _ _ | with_reducible assumption | ((with_reducible refine Below.setCell ?_ ?_ _); rotate_left; · (first | omega | exact Nat.le_refl _ | (simp <;> omega))) | (with_reducible refine Below.allocW ?_ _) | (with_reducible refine Below.drew ?_) | (with_reducible refine Below.extW ?_ _))) hb1
          have s1 : w.heap.size ≤ w1.heap.size := B1.size
          have z1_0 : w.heap.size < w1.heap.size := by have := hb1.size; (try simp at this); omega
          have y1_0 : w.heap.size ≤ w1.heap.size := Nat.le_of_lt z1_0
          have c1_0 := fun o => hb1.cell (p := ⟨w.heap.size, o, none⟩) (by first | omega | (simp <;> omega))
          have f1_0 := fun o => hb1.frozen (p := ⟨w.heap.size, o, none⟩) (by first | omega | (simp <;> omega))
          have z1_1 : b < w1.heap.size := by have := hb1.size; (try simp at this); omega
          have y1_1 : b ≤ w1.heap.size := Nat.le_of_lt z1_1
          have c1_1 := fun o => hb1.cell (p := ⟨b, o, none⟩) (by first | omega | (simp <;> omega))
          have f1_1 := fun o => hb1.frozen (p := ⟨b, o, none⟩) (by first | omega | (simp <;> omega))
          have HS1 := Lib.hid (HSr.out.keep hb1.size fun p hp => hb1.cell hp)
          go_wp2_with fail
          refine wp_region_ext (by kernel_rfl) (by kernel_rfl) ?_
          repeat (go_big_quiet_step ((go_at_call 165; exact quiet_ext (HC.out _ (HS1.out.keep (ext_below _ _).size fun p hp => (ext_below _ _).cell hp)))))
          refine wpQuiet_nil ?_
          intro w2 hb2
          replace hb2 := below_of_ext hb2
          have B2 : Below w.heap.size w w2 := Below.then_ (by repeat (first | with_reducible exact Below.refl _ _ | with_reducible assumption | ((with_reducible refine Below.setCell ?_ ?_ _); rotate_left; · (first | omega | exact Nat.le_refl _ | (simp <;> omega))) | (with_reducible refine Below.allocW ?_ _) | (with_reducible refine Below.drew ?_) | (with_reducible refine Below.extW ?_ _))) hb2
          have s2 : w.heap.size ≤ w2.heap.size := B2.size
          have z2_0 : w.heap.size < w2.heap.size := by have := hb2.size; (try simp at this); omega
          have y2_0 : w.heap.size ≤ w2.heap.size := Nat.le_of_lt z2_0
          have c2_0 := fun o => hb2.cell (p := ⟨w.heap.size, o, none⟩) (by first | omega | (simp <;> omega))
          have f2_0 := fun o => hb2.frozen (p := ⟨w.heap.size, o, none⟩) (by first | omega | (simp <;> omega))
          have z2_1 : b < w2.heap.size := by have := hb2.size; (try simp at this); omega
          have y2_1 : b ≤ w2.heap.size := Nat.le_of_lt z2_1
          have c2_1 := fun o => hb2.cell (p := ⟨b, o, none⟩) (by first | omega | (simp <;> omega))
          have f2_1 := fun o => hb2.frozen (p := ⟨b, o, none⟩) (by first | omega | (simp <;> omega))
          have hB2 : Below (w.heap.size + 1) (w.alloc (.cells #[.int .i64 u, .slice (some ⟨b, off, none⟩) l.length cap] 39)) w2 := hB.trans ((hb1.mono (by omega)).trans (hb2.mono (by omega)))
          go_wp2_with fail
          go_roundw
          case rel => exact ⟨q + 1, by omega, by go_num, HF.out, B2, hB2⟩
          case measure => simp [intOf]; omega
    · obtain rfl : q = l.length := by omega
      rw [List.take_length] at HR
      have hkk : decide (1 ≤ k ∧ k ≤ 1048576) = true := by simp [hk, hk2]
      have HK2 := Lib.hid hkk
      clear hkk
      go_wp2_with fail
      refine (ref12_Is _ k).mono ?_
      rintro e w1 ⟨rfl, hb1⟩
      have B1 : Below w.heap.size w w1 := Below.then_ (by repeat (first | with_reducible exact Below.refl _ _ | with_reducible assumption | ((with_reducible refine Below.setCell ?_ ?_ _); rotate_left; · (first | omega | exact Nat.le_refl _ | (simp <;> omega))) | (with_reducible refine Below.allocW ?_ _) | (with_reducible refine Below.drew ?_) | (with_reducible refine Below.extW ?_ _))) hb1
      have s1 : w.heap.size ≤ w1.heap.size := B1.size
      rw [HK2.out]
      go_wp2_with fail
      go_ret
      exact ⟨ret_bool (by rw [HM.out, HR.out]; rfl), (by repeat (first | with_reducible exact Below.refl _ _ | with_reducible assumption | ((with_reducible refine Below.setCell ?_ ?_ _); rotate_left; · (first | omega | exact Nat.le_refl _ | (simp <;> omega))) | (with_reducible refine Below.allocW ?_ _) | (with_reducible refine Below.drew ?_) | (with_reducible refine Below.extW ?_ _)))⟩

theorem ref13_Is (w : World) (l k K : Int) : Calls Tryz.prog 44 #[.agg #[.int .i64 l, .int .i64 k, .int .i64 K]] w fun e w' => e = .returned (.bool (isDig l k K)) ∧ Below w.heap.size w w' := by
  have HE : Hid (isDig l k K = (isPool K l && decide (1 ≤ k ∧ k ≤ 1048576))) := Lib.hid rfl
  have HC := Lib.hid (ref12_Is · k)
  cases hk : decide (1 ≤ k ∧ k ≤ 1048576)
  · rw [hk] at HE HC
    clear hk
    go_enter Tryz.func44, Tryz.ntmps44
    go_wp2_with fail
    refine (HC.out _).mono ?_
    rintro e w1 ⟨rfl, hb1⟩
    have B1 : Below w.heap.size w w1 := Below.then_ (by repeat (first | with_reducible exact Below.refl _ _ | with_reducible assumption | ((with_reducible refine Below.setCell ?_ ?_ _); rotate_left; · (first | omega | exact Nat.le_refl _ | (simp <;> omega))) | (with_reducible refine Below.allocW ?_ _) | (with_reducible refine Below.drew ?_) | (with_reducible refine Below.extW ?_ _))) hb1
    have s1 : w.heap.size ≤ w1.heap.size := B1.size
    have z1_0 : w.heap.size < w1.heap.size := by have := hb1.size; (try simp at this); omega
    have y1_0 : w.heap.size ≤ w1.heap.size := Nat.le_of_lt z1_0
    have c1_0 := fun o => hb1.cell (p := ⟨w.heap.size, o, none⟩) (by first | omega | (simp <;> omega))
    have f1_0 := fun o => hb1.frozen (p := ⟨w.heap.size, o, none⟩) (by first | omega | (simp <;> omega))
    go_wp2_with fail
    go_ret
    exact ⟨ret_bool (by rw [HE.out]; simp), (by repeat (first | with_reducible exact Below.refl _ _ | with_reducible assumption | ((with_reducible refine Below.setCell ?_ ?_ _); rotate_left; · (first | omega | exact Nat.le_refl _ | (simp <;> omega))) | (with_reducible refine Below.allocW ?_ _) | (with_reducible refine Below.drew ?_) | (with_reducible refine Below.extW ?_ _)))⟩
  · rw [hk] at HE HC
    clear hk
    go_enter Tryz.func44, Tryz.ntmps44
    go_wp2_with fail
    refine (HC.out _).mono ?_
    rintro e w1 ⟨rfl, hb1⟩
    have B1 : Below w.heap.size w w1 := Below.then_ (by repeat (first | with_reducible exact Below.refl _ _ | with_reducible assumption | ((with_reducible refine Below.setCell ?_ ?_ _); rotate_left; · (first | omega | exact Nat.le_refl _ | (simp <;> omega))) | (with_reducible refine Below.allocW ?_ _) | (with_reducible refine Below.drew ?_) | (with_reducible refine Below.extW ?_ _))) hb1
    have s1 : w.heap.size ≤ w1.heap.size := B1.size
    have z1_0 : w.heap.size < w1.heap.size := by have := hb1.size; (try simp at this); omega
    have y1_0 : w.heap.size ≤ w1.heap.size := Nat.le_of_lt z1_0
    have c1_0 := fun o => hb1.cell (p := ⟨w.heap.size, o, none⟩) (by first | omega | (simp <;> omega))
    have f1_0 := fun o => hb1.frozen (p := ⟨w.heap.size, o, none⟩) (by first | omega | (simp <;> omega))
    go_wp2_with fail
    refine (ref9_Is _ K l).mono ?_
    rintro e w2 ⟨rfl, hb2⟩
    have B2 : Below w.heap.size w w2 := Below.then_ (by repeat (first | with_reducible exact Below.refl _ _ | with_reducible assumption | ((with_reducible refine Below.setCell ?_ ?_ _); rotate_left; · (first | omega | exact Nat.le_refl _ | (simp <;> omega))) | (with_reducible refine Below.allocW ?_ _) | (with_reducible refine Below.drew ?_) | (with_reducible refine Below.extW ?_ _))) hb2
    have s2 : w.heap.size ≤ w2.heap.size := B2.size
    have z2_0 : w.heap.size < w2.heap.size := by have := hb2.size; (try simp at this); omega
    have y2_0 : w.heap.size ≤ w2.heap.size := Nat.le_of_lt z2_0
    have c2_0 := fun o => hb2.cell (p := ⟨w.heap.size, o, none⟩) (by first | omega | (simp <;> omega))
    have f2_0 := fun o => hb2.frozen (p := ⟨w.heap.size, o, none⟩) (by first | omega | (simp <;> omega))
    go_wp2_with fail
    go_ret
    exact ⟨ret_bool (by rw [HE.out]; simp), (by repeat (first | with_reducible exact Below.refl _ _ | with_reducible assumption | ((with_reducible refine Below.setCell ?_ ?_ _); rotate_left; · (first | omega | exact Nat.le_refl _ | (simp <;> omega))) | (with_reducible refine Below.allocW ?_ _) | (with_reducible refine Below.drew ?_) | (with_reducible refine Below.extW ?_ _)))⟩
theorem ref13_New (w : World) (l k K : Int) : Calls Tryz.prog 54 #[.agg #[.int .i64 l, .int .i64 k, .int .i64 K]] w fun e w' => e = .returned (.agg #[.int .i64 k, .int .i64 l, .slice none 0 0]) ∧ Below w.heap.size w w' := by
  go_enter Tryz.func54, Tryz.ntmps54
  go_wp2_with fail
  exact bodyPost_ret (v := .agg #[.int .i64 k, .int .i64 l, .slice none 0 0]) (by simp only [results, Tryz.results54]; go_simp) rfl ⟨rfl, (by repeat (first | with_reducible exact Below.refl _ _ | with_reducible assumption | ((with_reducible refine Below.setCell ?_ ?_ _); rotate_left; · (first | omega | exact Nat.le_refl _ | (simp <;> omega))) | (with_reducible refine Below.allocW ?_ _) | (with_reducible refine Below.drew ?_) | (with_reducible refine Below.extW ?_ _)))⟩
/-- The document's digest. -/
def refDig (k l : Int) (A : Option Addr) (n cap : Nat) : Value := .agg #[.int .i64 k, .int .i64 l, .slice A n cap]
def refLoadV (l k K : Int) (A : Option Addr) (r : List Nd) (cap : Nat) : Value := if loadErr l k K r = 0 then .tuple #[refDig k l A r.length cap, .int .i64 0] else .tuple #[refDig 0 0 none 0 0, .int .i64 (loadErr l k K r)]

end Go.Proofs.YtgjaopfjffncbaaGreat
/- What the laws are given: a conf, a list of nodes, and both. -/
namespace Go.Proofs.YtgjaopfjffncbaaGreat
open Go.ChangeShapes Go.WideShapes Go.ChangeAt Go.RowKit
set_option linter.unusedVariables false
set_option maxRecDepth 100000

/-- A list of elements that comes in. -/
theorem slice_of_trod {α : Type} [Inhabited α] {size : Nat} (E : Enc α size) (ok : α → Prop) {t e : TypeId} (ht : (Tryz.prog).underlying t = some (.slice e)) (hC : (Tryz.prog).cellsOf e = size) (hs : 0 < size)
    {H : Type} {enc : TypeId × Value → H} {w : World} {base : Nat} {spare : Nat → Bool} {held : Bool} {fuel : Nat} {cs : List Value} {x : DataW H × List MemPlace}
    (el : ∀ (fuel : Nat) (cs : List Value) (x : DataW H × List MemPlace), DataW.trod enc Tryz.prog w base spare held fuel e cs = some x → ∃ o : α, cs = E.enc o ∧ ok o) (h : DataW.trod enc Tryz.prog w base spare held fuel t cs = some x) :
    ∃ (l : List α) (A : Option Addr) (cap : Nat), cs = [.slice A l.length cap] ∧ Sl w w.heap.size E A l ∧ (∀ o ∈ l, ok o) ∧ l.length ≤ maxLen := by
  rcases Deep.open_slice ht h with ⟨hcs, _⟩ | ⟨a, len, cap, m, n, D, Pl, hcs, _, hl, hm, hmm, _, hx⟩
  · exact ⟨[], none, 0, hcs, .nil, by simp, by simp⟩
  · subst hcs
    have hle : len ≤ m := by rw [hmm]; split <;> omega
    have each : ∀ i, i < len → ∃ o : α, ok o ∧ ∀ j u, (E.enc o)[j]? = some u → w.cell? (a.add (i * size + j)) = some u := by
      intro i hi
      obtain ⟨cs', hc, ht'⟩ := hx i (by omega)
      rw [hC] at hc
      obtain ⟨o, rfl, hk⟩ := el _ _ _ ht'
      obtain ⟨_, hcl, hat⟩ := World.cells?_some hc
      refine ⟨o, hk, fun j u hj => ?_⟩
      have hj6 : j < size := by have := (List.getElem?_eq_some_iff.1 hj).1; rwa [E.len] at this
      rw [← Go.Deep.add_add, hat j hj6, hj]
    obtain ⟨f, hF⟩ := Deep.choose_lt each
    refine ⟨(List.range len).map f, some a, cap, by simp, ?_, ?_, by simp; omega⟩
    · by_cases h0 : len = 0
      · subst h0; exact .inl rfl
      · obtain ⟨b, off, spot⟩ := a
        obtain ⟨u0, hu0⟩ : ∃ u, (E.enc (f 0))[0]? = some u := ⟨_, List.getElem?_eq_getElem (by rw [E.len]; exact hs)⟩
        have hc0 := (hF 0 (by omega)).2 0 _ hu0
        have hspot : spot = none := by simpa [Addr.add] using World.cell?_spot hc0
        subst hspot
        have hb : b < w.heap.size := by
          simp only [add_plain, Nat.zero_mul, Nat.add_zero] at hc0
          exact lt_of_cell hc0
        refine .inr ⟨b, off, rfl, hb, fun i x hi j u hj => ?_⟩
        have hlt : i < len := by
          have := (List.getElem?_eq_some_iff.1 hi).1
          simpa using this
        simp [hlt] at hi
        subst hi
        have := (hF i hlt).2 j u hj
        rw [add_plain, ← Nat.add_assoc] at this
        exact this
    · intro o ho
      obtain ⟨i, hi, rfl⟩ := List.mem_map.1 ho
      exact (hF i (List.mem_range.1 hi)).1
theorem i64_of_wf {n : Int} (h : (Lit.int .i64 n).wf = true) : i64 n := by
  simp only [Lit.wf, Bool.and_eq_true, decide_eq_true_eq] at h
  have hmn : IntKind.i64.min = -9223372036854775808 := by decide
  have hmx : IntKind.i64.max = 9223372036854775807 := by decide
  rw [hmn, hmx] at h
  exact h
section
variable {H : Type} {enc : TypeId × Value → H} {w : World} {base : Nat} {spare : Nat → Bool} {held : Bool} {fuel : Nat} {cs : List Value} {x : DataW H × List MemPlace}
theorem node_of_trod (h : DataW.trod enc Tryz.prog w base spare held fuel 115 cs = some x) : ∃ o : Nd, cs = encN.enc o ∧ i64 o.1 ∧ i64 o.2 := by
  obtain ⟨xs, n, _, _, hlen, hxl, hf⟩ := DataW.trod_struct Tryz.underlying115 h
  have hC : (Tryz.prog).cellsOf 115 = 2 := by kernel_rfl
  have hCi : (Tryz.prog).cellsOf 3 = 1 := by kernel_rfl
  rw [hC] at hlen
  match cs, hlen with
  | [c0, c1], _ =>
    match xs, hxl with
    | [y0, y1], _ =>
      have g0 : DataW.trod enc Tryz.prog w base spare held n 3 (([c0, c1].drop 0).take ((Tryz.prog).cellsOf 3)) = some y0 := hf 0 _ rfl
      have g1 : DataW.trod enc Tryz.prog w base spare held n 3 (([c0, c1].drop 1).take ((Tryz.prog).cellsOf 3)) = some y1 := hf 1 _ rfl
      simp only [hCi] at g0 g1
      obtain ⟨k, e0, _, k0⟩ := DataW.trod_int Tryz.underlying3 g0
      obtain ⟨i, e1, _, k1⟩ := DataW.trod_int Tryz.underlying3 g1
      simp at e0 e1
      subst e0 e1
      exact ⟨(k, i), rfl, i64_of_wf k0, i64_of_wf k1⟩
theorem conf_of_trod (h : DataW.trod enc Tryz.prog w base spare held fuel 23 cs = some x) : ∃ l k K : Int, cs = [.int .i64 l, .int .i64 k, .int .i64 K] ∧ i64 l ∧ i64 k ∧ i64 K := by
  obtain ⟨xs, n, _, _, hlen, hxl, hf⟩ := DataW.trod_struct Tryz.underlying23 h
  have hC : (Tryz.prog).cellsOf 23 = 3 := by kernel_rfl
  have hCi : (Tryz.prog).cellsOf 3 = 1 := by kernel_rfl
  rw [hC] at hlen
  match cs, hlen with
  | [c0, c1, c2], _ =>
    match xs, hxl with
    | [y0, y1, y2], _ =>
      have g0 : DataW.trod enc Tryz.prog w base spare held n 3 (([c0, c1, c2].drop 0).take ((Tryz.prog).cellsOf 3)) = some y0 := hf 0 _ rfl
      have g1 : DataW.trod enc Tryz.prog w base spare held n 3 (([c0, c1, c2].drop 1).take ((Tryz.prog).cellsOf 3)) = some y1 := hf 1 _ rfl
      have g2 : DataW.trod enc Tryz.prog w base spare held n 3 (([c0, c1, c2].drop 2).take ((Tryz.prog).cellsOf 3)) = some y2 := hf 2 _ rfl
      simp only [hCi] at g0 g1 g2
      obtain ⟨k, e0, _, k0⟩ := DataW.trod_int Tryz.underlying3 g0
      obtain ⟨i, e1, _, k1⟩ := DataW.trod_int Tryz.underlying3 g1
      obtain ⟨j, e2, _, k2⟩ := DataW.trod_int Tryz.underlying3 g2
      simp at e0 e1 e2
      subst e0 e1 e2
      exact ⟨k, i, j, rfl, i64_of_wf k0, i64_of_wf k1, i64_of_wf k2⟩
theorem nodes_of_trod (h : DataW.trod enc Tryz.prog w base spare held fuel 37 cs = some x) : ∃ (l : List Nd) (A : Option Addr) (cap : Nat), cs = [.slice A l.length cap] ∧ Sl w w.heap.size encN A l ∧ ints l ∧ l.length ≤ maxLen := by
  obtain ⟨l, A, cap, h1, h2, h3, h4⟩ := slice_of_trod encN (fun o => i64 o.1 ∧ i64 o.2) Tryz.underlying37 (by kernel_rfl) (by decide) (fun _ _ _ h => node_of_trod h) h
  exact ⟨l, A, cap, h1, h2, h3, h4⟩
end
/-- A conf and nodes, by value. -/
def loadedV (l k K : Int) (A : Option Addr) (n cap : Nat) : Value := .agg #[.int .i64 l, .int .i64 k, .int .i64 K, .slice A n cap]
end Go.Proofs.YtgjaopfjffncbaaGreat
/- Chapter 16: a digest out of a conf and nodes; the chapter's example. -/
namespace Go.Proofs.YtgjaopfjffncbaaGreat
open Go.ChangeShapes Go.WideShapes Go.ChangeAt Go.RowKit
set_option linter.unusedVariables false
set_option maxRecDepth 100000

theorem DigAt.set {w : World} {g K l : Nat} {k : Int} {r : List Nd} {F : Nat → Prop} {q o : Nat} {u : Value} (h : DigAt w g K l k r F) (hp : ∀ b, F b → b ≠ q) : DigAt (w.setCell ⟨q, o, none⟩ u) g K l k r F := h.keep fun b hb => Below.heap_setCell _ _ _ _ (hp b hb)
theorem DigAt.alloc {w : World} {g K l : Nat} {k : Int} {r : List Nd} {F : Nat → Prop} (h : DigAt w g K l k r F) (o : Obj) : DigAt (w.alloc o) g K l k r F := h.below ((Below.refl _ _).alloc (Nat.le_refl _) o)
theorem DigAt.drew {w : World} {g K l : Nat} {k : Int} {r : List Nd} {F : Nat → Prop} (h : DigAt w g K l k r F) : DigAt w.drew g K l k r F := h.keep fun b hb => rfl
/-- There is such a digest, and it isn't too big. -/
def goodL (l k K : Int) (r : List Nd) : Prop := r.length ≤ 150 ∧ ¬ (K = 1 ∧ 10 < l) ∧ loadErr l k K r = 0
theorem goodL_dig {l k K : Int} {r : List Nd} (h : loadErr l k K r = 0) : isDig l k K = true := by
  cases hd : isDig l k K
  · simp only [loadErr] at h; rw [if_pos hd] at h; cases h
  · rfl
theorem goodL_nat {l k K : Int} {r : List Nd} (h : loadErr l k K r = 0) : ∃ n m : Nat, l = n ∧ K = m := by
  have hd := goodL_dig h
  simp only [isDig, isPool, Bool.and_eq_true, decide_eq_true_eq] at hd
  obtain ⟨n, rfl⟩ := Int.eq_ofNat_of_zero_le (show 0 ≤ l by omega)
  obtain ⟨m, rfl⟩ := Int.eq_ofNat_of_zero_le (show 0 ≤ K by omega)
  exact ⟨n, m, rfl, rfl⟩
theorem goodL_parts {l k K : Int} {r : List Nd} (h : loadErr l k K r = 0) : rightOf l r = true ∧ ¬ 8 * k < r.length ∧ lightOf l r k = true := by
  have hd := goodL_dig h
  have hr : rightOf l r = true := by
    cases hr : rightOf l r
    · simp only [loadErr] at h; rw [if_neg (by simp [hd]), if_pos hr] at h; cases h
    · rfl
  have h8 : ¬ 8 * k < r.length := by
    intro h8
    simp only [loadErr] at h
    rw [if_neg (by simp [hd]), if_neg (by simp [hr]), if_pos h8] at h
    cases h
  refine ⟨hr, h8, ?_⟩
  cases hl : lightOf l r k
  · simp only [loadErr] at h; rw [if_neg (by simp [hd]), if_neg (by simp [hr]), if_neg h8, if_pos hl] at h; cases h
  · rfl
/-- What Load hands back. -/
def LPost (K l : Nat) (k : Int) (r : List Nd) (d : Value) (w : World) (e : Ending) (w' : World) : Prop := ∃ g F, e = .returned (.tuple #[.pointer (some ⟨g, 0, none⟩), d]) ∧ DigAt w' g K l k r F ∧ (∀ b, F b → w.heap.size ≤ b) ∧ Below w.heap.size w w'
/-- The chapter's digest. -/
def nodes16 : List Nd := [(1, 1), (4, 2), (7, 3)]
theorem nodes16_ints : ints nodes16 := by
  intro x hx
  simp only [nodes16, List.mem_cons, List.not_mem_nil, or_false] at hx
  rcases hx with rfl | rfl | rfl <;> (unfold i64; simp)
theorem load16 : loadErr 2 4 2 nodes16 = 0 := by decide +kernel
theorem low16_0 : lowOf ((2 : Nat) : Int) nodes16 0 = 2 := by decide +kernel
theorem high16_0 : highOf ((2 : Nat) : Int) nodes16 0 = 3 := by decide +kernel
theorem low16_2 : lowOf ((2 : Nat) : Int) nodes16 2 = 2 := by decide +kernel
theorem low16_3 : lowOf ((2 : Nat) : Int) nodes16 3 = 6 := by decide +kernel
end Go.Proofs.YtgjaopfjffncbaaGreat
/- Chapter 16: plain laws of what weighs up to a number. -/
namespace Go.Proofs.YtgjaopfjffncbaaGreat
open Go.ChangeShapes Go.WideShapes Go.ChangeAt Go.RowKit
set_option linter.unusedVariables false
set_option maxRecDepth 100000

theorem weighR_mono {l : Int} {f g : Int → Int → Bool} {r : List Nd} (h : Roll r) (hfg : ∀ x ∈ r, f (endsOf l x.1).1 (endsOf l x.1).2.1 = true → g (endsOf l x.1).1 (endsOf l x.1).2.1 = true) : weighR l f r ≤ weighR l g r := by
  induction r with
  | nil => simp [weighR]
  | cons x r ih =>
    have hx := h.2 x (by simp)
    have h1 := hfg x (by simp)
    have h2 := ih h.tail fun y hy => hfg y (by simp [hy])
    simp only [weighR]
    by_cases hf : f (endsOf l x.1).1 (endsOf l x.1).2.1 = true
    · rw [if_pos hf, if_pos (h1 hf)]; omega
    · rw [if_neg hf]; split <;> omega
theorem weighR_all {l : Int} {f : Int → Int → Bool} {r : List Nd} (h : ∀ x ∈ r, f (endsOf l x.1).1 (endsOf l x.1).2.1 = true) : weighR l f r = sumR r := by
  induction r with
  | nil => rfl
  | cons x r ih =>
    simp only [weighR, sumR]
    rw [if_pos (h x (by simp)), ih fun y hy => h y (by simp [hy])]
theorem weighR_none {l : Int} {f : Int → Int → Bool} {r : List Nd} (h : ∀ x ∈ r, f (endsOf l x.1).1 (endsOf l x.1).2.1 = false) : weighR l f r = 0 := by
  induction r with
  | nil => rfl
  | cons x r ih =>
    simp only [weighR]
    rw [if_neg (by rw [h x (by simp)]; simp), ih fun y hy => h y (by simp [hy])]; rfl
/-- The ends of a node are values of the universe, the first one is not above the last one. -/
theorem ends_bounds {l : Nat} {id : Int} (h : isNode l id = true) : 0 ≤ (endsOf l id).1 ∧ (endsOf l id).1 ≤ (endsOf l id).2.1 ∧ (endsOf l id).2.1 ≤ 2 ^ l - 1 := by
  obtain ⟨n, x, hn, rfl, hn1, hn2, hx1, hx2⟩ := isNode_nat h
  obtain rfl : n = l := by omega
  obtain ⟨d, b, t, hd, hb, hdb, hxt, htd, hprod⟩ := node_facts hn2 hx1 hx2
  have e1 : endsOf n x = ((t : Int) * 2 ^ b, (t : Int) * 2 ^ b + 2 ^ b - 1, true) := by
    simp only [endsOf, h, if_true, Int.toNat_natCast, hd, hb]
    have : (x : Int) - 2 ^ d = t := by rw [hxt]; push_cast; omega
    rw [this]
  rw [e1]
  have q3 := pow_pos' b
  have q8 : (t : Int) * 2 ^ b + 2 ^ b ≤ 2 ^ n := by
    have h : (((t + 1) * 2 ^ b : Nat) : Int) ≤ ((2 ^ n : Nat) : Int) := by exact_mod_cast hprod
    push_cast at h
    rw [Int.add_mul, Int.one_mul] at h
    exact h
  have q9 : 0 ≤ (t : Int) * 2 ^ b := Int.mul_nonneg (by omega) (by omega)
  simp only
  omega
theorem right_node {l : Int} {r : List Nd} (h : rightOf l r = true) : ∀ x ∈ r, isNode l x.1 = true := by
  simp only [rightOf, Bool.and_eq_true] at h
  intro x hx
  exact ((rises_roll h.1.1).1 x hx).2.1
theorem low_le {l : Int} {r : List Nd} (h : Roll r) {a b : Int} (hab : a ≤ b) : lowOf l r a ≤ lowOf l r b := weighR_mono h fun x _ hx => by simp at hx ⊢; omega
theorem high_le {l : Int} {r : List Nd} (h : Roll r) {a b : Int} (hab : a ≤ b) : highOf l r a ≤ highOf l r b := weighR_mono h fun x _ hx => by simp at hx ⊢; omega
theorem low_high {l : Nat} {r : List Nd} (h : Roll r) (hr : rightOf l r = true) (a : Int) : lowOf l r a ≤ highOf l r a := weighR_mono h fun x hx h1 => by
  have := ends_bounds (right_node hr x hx)
  simp at h1 ⊢; omega
theorem low_top {l : Nat} {r : List Nd} (hr : rightOf l r = true) {a : Int} (ha : 2 ^ l - 1 ≤ a) : lowOf l r a = sumR r := weighR_all fun x hx => by
  have := ends_bounds (right_node hr x hx)
  simp; omega
theorem high_top {l : Nat} {r : List Nd} (hr : rightOf l r = true) {a : Int} (ha : 2 ^ l - 1 ≤ a) : highOf l r a = sumR r := weighR_all fun x hx => by
  have := ends_bounds (right_node hr x hx)
  simp; omega
theorem low_zero {l : Nat} {r : List Nd} (hr : rightOf l r = true) {a : Int} (ha : a < 0) : lowOf l r a = 0 := weighR_none fun x hx => by
  have := ends_bounds (right_node hr x hx)
  simp; omega
theorem high_zero {l : Nat} {r : List Nd} (hr : rightOf l r = true) {a : Int} (ha : a < 0) : highOf l r a = 0 := weighR_none fun x hx => by
  have := ends_bounds (right_node hr x hx)
  simp; omega

end Go.Proofs.YtgjaopfjffncbaaGreat
/- Tiles: nodes and what they hold: plain laws. -/
namespace Go.Proofs.YtgjaopfjffncbaaGreat
open Go.ChangeShapes Go.WideShapes Go.ChangeAt Go.RowKit
set_option linter.unusedVariables false

/-- The first and the last value that a node holds. -/
def loN (l : Nat) (x : Int) : Int := (endsOf l x).1
def hiN (l : Nat) (x : Int) : Int := (endsOf l x).2.1
/-- Is one above another one, or the same? -/
def abv (p q : Int) : Bool := decide (1 ≤ p ∧ 1 ≤ q ∧ p.toNat.log2 ≤ q.toNat.log2 ∧ q.toNat / 2 ^ (q.toNat.log2 - p.toNat.log2) = p.toNat)
theorem node_shape {l : Nat} {id : Int} (h : isNode l id = true) : ∃ d b t : Nat, d + b = l ∧ id = ((2 ^ d + t : Nat) : Int) ∧ t < 2 ^ d ∧ (2 ^ d + t).log2 = d ∧ loN l id = (t : Int) * 2 ^ b ∧ hiN l id = (t : Int) * 2 ^ b + 2 ^ b - 1 := by
  obtain ⟨n, x, hn, rfl, hn1, hn2, hx1, hx2⟩ := isNode_nat h
  obtain rfl : n = l := by omega
  obtain ⟨d, b, t, hd, hb, hdb, hxt, htd, hprod⟩ := node_facts hn2 hx1 hx2
  have e1 : endsOf n x = ((t : Int) * 2 ^ b, (t : Int) * 2 ^ b + 2 ^ b - 1, true) := by
    simp only [endsOf, h, if_true, Int.toNat_natCast, hd, hb]
    have : (x : Int) - 2 ^ d = t := by rw [hxt]; push_cast; omega
    rw [this]
  exact ⟨d, b, t, hdb, by rw [hxt], htd, by rw [← hxt]; exact hd, by unfold loN; rw [e1], by unfold hiN; rw [e1]⟩
theorem log2_shape {d t : Nat} (h : t < 2 ^ d) : (2 ^ d + t).log2 = d := by
  rw [Nat.log2_eq_iff (by have := Nat.two_pow_pos d; omega)]
  rw [Nat.pow_succ]; omega
theorem node_of_shape {l d b t : Nat} (hl : 1 ≤ l ∧ l ≤ 48) (hdb : d + b = l) (ht : t < 2 ^ d) : isNode l ((2 ^ d + t : Nat) : Int) = true := by
  have h1 := Nat.two_pow_pos d
  have h2 : (2 : Nat) ^ d ≤ 2 ^ l := Nat.pow_le_pow_right (by decide) (by omega)
  have h3 : ((2 ^ l : Nat) : Int) = 2 ^ l := by simp
  simp only [isNode, decide_eq_true_eq, Int.toNat_natCast]
  omega
section
variable {l : Nat} {p q : Int}
/-- Two nodes: one is above the other one just if it holds what that does; and if both hold a value, one is above the other one. -/
theorem lam_core {d k c t u : Nat} : ((t : Int) * 2 ^ (k + c) < (u : Int) * 2 ^ c + 2 ^ c ↔ t * 2 ^ k ≤ u) ∧ ((u : Int) * 2 ^ c < (t : Int) * 2 ^ (k + c) + 2 ^ (k + c) ↔ u < (t + 1) * 2 ^ k) ∧ ((t : Int) * 2 ^ (k + c) ≤ (u : Int) * 2 ^ c ↔ t * 2 ^ k ≤ u) ∧ ((u : Int) * 2 ^ c + 2 ^ c ≤ (t : Int) * 2 ^ (k + c) + 2 ^ (k + c) ↔ u < (t + 1) * 2 ^ k) := by
  have hc := Nat.two_pow_pos c
  have e1 : (t : Int) * 2 ^ (k + c) = ((t * 2 ^ k * 2 ^ c : Nat) : Int) := by rw [Int.pow_add]; push_cast; rw [Int.mul_assoc]
  have e2 : (t : Int) * 2 ^ (k + c) + 2 ^ (k + c) = (((t + 1) * 2 ^ k * 2 ^ c : Nat) : Int) := by
    rw [e1]; push_cast; rw [Int.pow_add, Int.add_mul, Int.add_mul, Int.one_mul]
  have e3 : (u : Int) * 2 ^ c + 2 ^ c = (((u + 1) * 2 ^ c : Nat) : Int) := by push_cast; rw [Int.add_mul, Int.one_mul]
  have e4 : (u : Int) * 2 ^ c = ((u * 2 ^ c : Nat) : Int) := by push_cast; rfl
  rw [e2, e3, e1, e4]
  simp only [Int.ofNat_lt, Int.ofNat_le]
  refine ⟨?_, ?_, ?_, ?_⟩
  · rw [Nat.mul_lt_mul_right hc]; omega
  · rw [Nat.mul_lt_mul_right hc]
  · exact Nat.mul_le_mul_right_iff hc
  · rw [Nat.mul_le_mul_right_iff hc]; omega
theorem div_shape {d k u t : Nat} (hu : u < 2 ^ (d + k)) : (2 ^ (d + k) + u) / 2 ^ k = 2 ^ d + t ↔ t * 2 ^ k ≤ u ∧ u < (t + 1) * 2 ^ k := by
  have hk := Nat.two_pow_pos k
  rw [Nat.pow_add, Nat.mul_comm (2 ^ d), Nat.mul_add_div hk]
  rw [show (2 ^ d + u / 2 ^ k = 2 ^ d + t) ↔ u / 2 ^ k = t by omega]
  rw [Nat.div_eq_iff hk]
  have e : (t + 1) * 2 ^ k = t * 2 ^ k + 2 ^ k := by rw [Nat.add_mul, Nat.one_mul]
  rw [e, Nat.mul_comm]
  omega
/-- Where one has fewer bits. -/
theorem lam_le (hp : isNode l p = true) (hq : isNode l q = true) (hd : p.toNat.log2 ≤ q.toNat.log2) : (abv p q = true ↔ loN l p ≤ loN l q ∧ hiN l q ≤ hiN l p) ∧ (loN l p ≤ hiN l q → loN l q ≤ hiN l p → abv p q = true) := by
  obtain ⟨d, b, t, h1, rfl, h2, h3, h4, h5⟩ := node_shape hp
  obtain ⟨e, c, u, k1, rfl, k2, k3, k4, k5⟩ := node_shape hq
  rw [Int.toNat_natCast, Int.toNat_natCast, h3, k3] at hd
  obtain ⟨k, rfl⟩ : ∃ k, e = d + k := ⟨e - d, by omega⟩
  obtain rfl : b = k + c := by omega
  obtain ⟨c1, c2, c3, c4⟩ := lam_core (d := d) (k := k) (c := c) (t := t) (u := u)
  have hpd := Nat.two_pow_pos d
  have hpe := Nat.two_pow_pos (d + k)
  have ea : abv ((2 ^ d + t : Nat) : Int) ((2 ^ (d + k) + u : Nat) : Int) = true ↔ t * 2 ^ k ≤ u ∧ u < (t + 1) * 2 ^ k := by
    rw [← div_shape k2]
    simp only [abv, decide_eq_true_eq, Int.toNat_natCast, h3, k3, Nat.add_sub_cancel_left]
    omega
  rw [ea, h4, h5, k4, k5]
  constructor
  · constructor
    · rintro ⟨a1, a2⟩
      have := c3.2 a1
      have := c4.2 a2
      omega
    · rintro ⟨a1, a2⟩
      exact ⟨c3.1 a1, c4.1 (by omega)⟩
  · intro a1 a2
    exact ⟨c1.1 (by omega), c2.1 (by omega)⟩
theorem abv_log (h : abv p q = true) : p.toNat.log2 ≤ q.toNat.log2 := by
  simp only [abv, decide_eq_true_eq] at h
  exact h.2.2.1
theorem abv_iff (hp : isNode l p = true) (hq : isNode l q = true) : abv p q = true ↔ loN l p ≤ loN l q ∧ hiN l q ≤ hiN l p := by
  by_cases hd : p.toNat.log2 ≤ q.toNat.log2
  · exact (lam_le hp hq hd).1
  · constructor
    · exact fun h => absurd (abv_log h) hd
    · rintro ⟨a1, a2⟩
      exfalso
      obtain ⟨d, b, t, h1, rfl, h2, h3, h4, h5⟩ := node_shape hp
      obtain ⟨e, c, u, k1, rfl, k2, k3, k4, k5⟩ := node_shape hq
      rw [Int.toNat_natCast, Int.toNat_natCast, h3, k3] at hd
      have : (2 : Int) ^ (b + 1) ≤ 2 ^ c := pow_le' (by omega)
      rw [Int.pow_succ] at this
      have := pow_pos' b
      omega
theorem lam (hp : isNode l p = true) (hq : isNode l q = true) (h1 : loN l p ≤ hiN l q) (h2 : loN l q ≤ hiN l p) : abv p q = true ∨ abv q p = true := by
  by_cases hd : p.toNat.log2 ≤ q.toNat.log2
  · exact .inl ((lam_le hp hq hd).2 h1 h2)
  · exact .inr ((lam_le hq hp (by omega)).2 h2 h1)
theorem lo_hi (hp : isNode l p = true) : loN l p ≤ hiN l p := (ends_bounds hp).2.1
theorem lo_0 (hp : isNode l p = true) : 0 ≤ loN l p := (ends_bounds hp).1
theorem hi_top (hp : isNode l p = true) : hiN l p ≤ 2 ^ l - 1 := (ends_bounds hp).2.2
theorem isNode_l (hp : isNode l p = true) : 1 ≤ l ∧ l ≤ 48 := by
  simp only [isNode, decide_eq_true_eq] at hp; omega
/-- A node's children. -/
theorem node_kids (hp : isNode l p = true) (hb : p.toNat.log2 < l) : isNode l (2 * p) = true ∧ isNode l (2 * p + 1) = true ∧ loN l (2 * p) = loN l p ∧ hiN l (2 * p + 1) = hiN l p ∧ loN l (2 * p + 1) = hiN l (2 * p) + 1 ∧ (2 * p).toNat.log2 = p.toNat.log2 + 1 ∧ (2 * p + 1).toNat.log2 = p.toNat.log2 + 1 := by
  have hl := isNode_l hp
  obtain ⟨d, b, t, h1, rfl, h2, h3, h4, h5⟩ := node_shape hp
  rw [Int.toNat_natCast, h3] at hb
  obtain ⟨c, rfl⟩ : ∃ c, b = c + 1 := ⟨b - 1, by omega⟩
  have e1 : 2 * ((2 ^ d + t : Nat) : Int) = ((2 ^ (d + 1) + 2 * t : Nat) : Int) := by rw [Nat.pow_succ]; push_cast; omega
  have e2 : 2 * ((2 ^ d + t : Nat) : Int) + 1 = ((2 ^ (d + 1) + (2 * t + 1) : Nat) : Int) := by rw [Nat.pow_succ]; push_cast; omega
  have q1 : 2 * t < 2 ^ (d + 1) := by rw [Nat.pow_succ]; omega
  have q2 : 2 * t + 1 < 2 ^ (d + 1) := by rw [Nat.pow_succ]; omega
  have n1 := node_of_shape (b := c) hl (by omega) q1
  have n2 := node_of_shape (b := c) hl (by omega) q2
  rw [e2, e1]
  refine ⟨n1, n2, ?_⟩
  obtain ⟨d', b', t', g1, g2, g3, g4, g5, g6⟩ := node_shape n1
  obtain ⟨d'', b'', t'', f1, f2, f3, f4, f5, f6⟩ := node_shape n2
  have i1 := log2_shape q1
  have i2 := log2_shape q2
  have g2' := Int.ofNat.inj g2
  have f2' := Int.ofNat.inj f2
  rw [← g2', i1] at g4
  rw [← f2', i2] at f4
  subst g4 f4
  obtain rfl : b' = c := by omega
  obtain rfl : b'' = b' := by omega
  obtain rfl : t' = 2 * t := by omega
  obtain rfl : t'' = 2 * t + 1 := by omega
  rw [g5, g6, f5, f6, h4, h5, Int.toNat_natCast, Int.toNat_natCast, Int.toNat_natCast, h3, i1, i2, Int.pow_succ]
  push_cast
  refine ⟨?_, ?_, ?_, rfl, rfl⟩
  · rw [Int.mul_comm 2 (t : Int), Int.mul_assoc, Int.mul_comm 2]
  · rw [Int.add_mul, Int.mul_comm 2 (t : Int), Int.mul_assoc, Int.mul_comm 2]; omega
  · rw [Int.add_mul]; omega
/-- A leaf holds one value. -/
theorem leaf_one (hp : isNode l p = true) (hb : p.toNat.log2 = l) : loN l p = hiN l p := by
  obtain ⟨d, b, t, h1, rfl, h2, h3, h4, h5⟩ := node_shape hp
  rw [Int.toNat_natCast, h3] at hb
  obtain rfl : b = 0 := by omega
  rw [h4, h5]; simp
theorem log2_le (hp : isNode l p = true) : p.toNat.log2 ≤ l := by
  obtain ⟨d, b, t, h1, rfl, h2, h3, h4, h5⟩ := node_shape hp
  rw [Int.toNat_natCast, h3]; omega
/-- With the same first value the greater one has the lesser number. -/
theorem lo_same (hp : isNode l p = true) (hq : isNode l q = true) (h : loN l p = loN l q) (hpq : p ≤ q) : abv p q = true := by
  refine ((lam_le hp hq ?_).2 ?_ ?_)
  · refine Classical.byContradiction fun hd => ?_
    obtain ⟨d, b, t, h1, rfl, h2, h3, h4, h5⟩ := node_shape hp
    obtain ⟨e, c, u, k1, rfl, k2, k3, k4, k5⟩ := node_shape hq
    rw [Int.toNat_natCast, Int.toNat_natCast, h3, k3] at hd
    have : (2 : Nat) ^ (e + 1) ≤ 2 ^ d := Nat.pow_le_pow_right (by decide) (by omega)
    rw [Nat.pow_succ] at this
    omega
  · have := lo_hi hq; omega
  · have := lo_hi hp; omega
theorem abv_eq (hp : isNode l p = true) (hq : isNode l q = true) (h : abv p q = true) (k : abv q p = true) : p = q := by
  have h1 := abv_log h
  have h2 := abv_log k
  simp only [abv, decide_eq_true_eq] at h
  have e : q.toNat.log2 - p.toNat.log2 = 0 := by omega
  have h3 := h.2.2.2
  rw [e, Nat.pow_zero, Nat.div_one] at h3
  omega
end
/-- A value that one of some nodes holds. -/
def held (l : Nat) (ids : List Int) (v : Int) : Prop := ∃ t ∈ ids, loN l t ≤ v ∧ v ≤ hiN l t
/-- The other one of a pair. -/
def sibN (t : Int) : Int := if t % 2 = 0 then t + 1 else t - 1
/-- A pair's left one and right one. -/
theorem sib_pair {l : Nat} {t x : Int} (ht : isNode l t = true) (hx : isNode l x = true) (h : sibN t = x) (hlt : hiN l t < loN l x) : isNode l (x / 2) = true ∧ t = 2 * (x / 2) ∧ x = 2 * (x / 2) + 1 ∧ loN l (x / 2) = loN l t ∧ hiN l (x / 2) = hiN l x ∧ loN l x = hiN l t + 1 := by
  have h1 : 1 ≤ t := by simp only [isNode, decide_eq_true_eq] at ht; omega
  have h2 : 1 ≤ x := by simp only [isNode, decide_eq_true_eq] at hx; omega
  have hxl : x < 2 * 2 ^ l := by simp only [isNode, decide_eq_true_eq, Int.toNat_natCast] at hx; omega
  have htl : t < 2 * 2 ^ l := by simp only [isNode, decide_eq_true_eq, Int.toNat_natCast] at ht; omega
  have hl := isNode_l hx
  unfold sibN at h
  have par : ∀ y : Int, 1 ≤ y → 2 * y + 1 < 2 * 2 ^ l → isNode l y = true ∧ y.toNat.log2 < l := by
    intro y hy1 hy2
    have hn : isNode l y = true := by simp only [isNode, decide_eq_true_eq, Int.toNat_natCast]; omega
    refine ⟨hn, ?_⟩
    obtain ⟨d, b, u, g1, g2, g3, g4, _⟩ := node_shape hn
    subst g2
    rw [Int.toNat_natCast, g4]
    apply Classical.byContradiction
    intro hd
    obtain rfl : d = l := by omega
    have : ((2 ^ d : Nat) : Int) = 2 ^ d := by simp
    omega
  split at h
  · have e : t = 2 * (x / 2) := by omega
    have e2 : x = 2 * (x / 2) + 1 := by omega
    obtain ⟨hn, hlt2⟩ := par (x / 2) (by omega) (by omega)
    obtain ⟨_, _, k1, k2, k3, _⟩ := node_kids hn hlt2
    refine ⟨hn, e, e2, ?_, ?_, ?_⟩
    · rw [← k1, ← e]
    · rw [← k2, ← e2]
    · rw [← e2, ← e] at k3; exact k3
  · have e : x = 2 * (x / 2) := by omega
    have e2 : t = 2 * (x / 2) + 1 := by omega
    obtain ⟨hn, hlt2⟩ := par (x / 2) (by omega) (by omega)
    obtain ⟨_, _, k1, k2, k3, _⟩ := node_kids hn hlt2
    exfalso
    rw [← e2, ← e] at k3
    have := lo_hi hx
    have := lo_hi ht
    omega
/-- Pairs become one; the last one stands ahead. -/
def climb : List Int → Int → List Int × Int
  | [], x => ([], x)
  | t :: ts, x => if sibN t = x then climb ts (x / 2) else (t :: ts, x)
def joinStep (T : List Int) (x : Int) : List Int :=
  match T with
  | [] => [x]
  | t :: ts => if abv t x = true then t :: ts else (climb (t :: ts) x).2 :: (climb (t :: ts) x).1
def joinF (s : List Int) : List Int := s.foldl joinStep []
/-- By the first value, then by the number. -/
def leT (l : Nat) (a b : Int) : Prop := loN l a < loN l b ∨ (loN l a = loN l b ∧ a ≤ b)
structure ClimbOf (l : Nat) (T : List Int) (x : Int) (T' : List Int) (j : Int) : Prop where
  node : isNode l j = true
  suf : T' <:+ T
  left : ∀ t ∈ T', hiN l t < loN l j
  hi : hiN l j = hiN l x
  lo : loN l j = loN l x ∨ ∃ t ∈ T, loN l j = loN l t
  lole : loN l j ≤ loN l x
  all : ∀ t ∈ T, t ∈ T' ∨ abv j t = true
  in_ : ∀ v, loN l j ≤ v → v ≤ hiN l j → (loN l x ≤ v ∧ v ≤ hiN l x) ∨ ∃ t ∈ T, loN l t ≤ v ∧ v ≤ hiN l t
  stop : ∀ t ts, T' = t :: ts → sibN t ≠ j
theorem climb_of {l : Nat} : ∀ (T : List Int) (x : Int), (∀ t ∈ T, isNode l t = true) → T.Pairwise (fun a b => hiN l b < loN l a) → isNode l x = true → (∀ t ∈ T, hiN l t < loN l x) → ClimbOf l T x (climb T x).1 (climb T x).2 := by
  intro T
  induction T with
  | nil => exact fun x _ _ hx _ => ⟨hx, List.suffix_refl _, by simp [climb], rfl, .inl rfl, Int.le_refl _, by simp, fun v h1 h2 => .inl ⟨h1, h2⟩, by simp [climb]⟩
  | cons t ts ih =>
    intro x hn hp hx hlt
    unfold climb
    by_cases hs : sibN t = x
    · rw [if_pos hs]
      have ht := hn t (by simp)
      obtain ⟨p1, p2, p3, p4, p5, p6⟩ := sib_pair ht hx hs (hlt t (by simp))
      rw [List.pairwise_cons] at hp
      have C := ih (x / 2) (fun u hu => hn u (by simp [hu])) hp.2 p1 (fun u hu => by rw [p4]; exact hp.1 u hu)
      generalize climb ts (x / 2) = R at C
      obtain ⟨T', j⟩ := R
      simp only at C ⊢
      have hlx := lo_hi hx
      have hlt' := lo_hi ht
      have a1 : abv j t = true := (abv_iff C.node ht).2 ⟨by have := C.lole; omega, by have := C.hi; omega⟩
      refine ⟨C.node, C.suf.trans (List.suffix_cons _ _), C.left, by rw [C.hi, p5], ?_, by have := C.lole; omega, ?_, ?_, C.stop⟩
      · rcases C.lo with h | ⟨u, hu, h⟩
        · exact .inr ⟨t, by simp, by rw [h, p4]⟩
        · exact .inr ⟨u, by simp [hu], h⟩
      · intro u hu
        rcases List.mem_cons.1 hu with rfl | hu
        · exact .inr a1
        · exact C.all u hu
      · intro v h1 h2
        rcases C.in_ v h1 h2 with ⟨g1, g2⟩ | ⟨u, hu, g⟩
        · by_cases hv : v ≤ hiN l t
          · exact .inr ⟨t, by simp, by omega, hv⟩
          · exact .inl ⟨by omega, by omega⟩
        · exact .inr ⟨u, by simp [hu], g⟩
    · rw [if_neg hs]
      exact ⟨hx, List.suffix_refl _, hlt, rfl, .inl rfl, Int.le_refl _, fun u hu => .inl hu, fun v h1 h2 => .inl ⟨h1, h2⟩, fun u us h => by cases h; exact hs⟩
/-- What holds of the tiles behind some nodes. -/
structure JInv (l : Nat) (pre T : List Int) : Prop where
  node : ∀ t ∈ T, isNode l t = true
  sep : T.Pairwise (fun a b => hiN l b < loN l a)
  low : ∀ t ∈ T, ∃ q ∈ pre, loN l q = loN l t
  cov : ∀ q ∈ pre, ∃ t ∈ T, abv t q = true
  sub : ∀ t ∈ T, ∀ v, loN l t ≤ v → v ≤ hiN l t → held l pre v
  sib : T.Pairwise (fun a b => sibN b ≠ a)
theorem abv_trans {l : Nat} {a b c : Int} (ha : isNode l a = true) (hb : isNode l b = true) (hc : isNode l c = true) (h : abv a b = true) (k : abv b c = true) : abv a c = true := by
  have h := (abv_iff ha hb).1 h
  have k := (abv_iff hb hc).1 k
  exact (abv_iff ha hc).2 ⟨by omega, by omega⟩
theorem abv_refl {l : Nat} {a : Int} (ha : isNode l a = true) : abv a a = true := (abv_iff ha ha).2 ⟨Int.le_refl _, Int.le_refl _⟩
theorem held_mono {l : Nat} {a b : List Int} (h : ∀ x ∈ a, x ∈ b) {v : Int} (k : held l a v) : held l b v := by
  obtain ⟨t, ht, hv⟩ := k
  exact ⟨t, h t ht, hv⟩
theorem jinv_step {l : Nat} {pre T : List Int} {x : Int} (h : JInv l pre T) (hp : ∀ q ∈ pre, isNode l q = true) (hx : isNode l x = true) (hs : ∀ q ∈ pre, leT l q x) : JInv l (pre ++ [x]) (joinStep T x) := by
  have h0 : ∀ t ∈ T, abv t x = true → JInv l (pre ++ [x]) T := fun t ht ha => ⟨h.node, h.sep, fun u hu => by
      obtain ⟨q, hq, e⟩ := h.low u hu
      exact ⟨q, List.mem_append_left _ hq, e⟩, fun q hq => by
      rcases List.mem_append.1 hq with hq | hq
      · exact h.cov q hq
      · rw [List.mem_singleton.1 hq]; exact ⟨t, ht, ha⟩, fun u hu v h1 h2 => held_mono (fun y hy => List.mem_append_left _ hy) (h.sub u hu v h1 h2), h.sib⟩
  by_cases hc : ∃ t ∈ T, abv t x = true
  · obtain ⟨t, ht, ha⟩ := hc
    -- it is the last one
    cases T with
    | nil => simp at ht
    | cons u us =>
      have hu : abv u x = true := by
        rcases List.mem_cons.1 ht with rfl | ht'
        · exact ha
        · exfalso
          have h1 := (List.pairwise_cons.1 h.sep).1 t ht'
          obtain ⟨q, hq, e⟩ := h.low u (by simp)
          have h2 := (abv_iff (h.node t (by simp [ht'])) hx).1 ha
          have h3 := lo_hi hx
          rcases hs q hq with h4 | h4 <;> omega
      unfold joinStep
      simp only [if_pos hu]
      exact h0 u (by simp) hu
  · have hright : ∀ t ∈ T, hiN l t < loN l x := by
      intro t ht
      apply Classical.byContradiction
      intro hn
      obtain ⟨q, hq, e⟩ := h.low t ht
      have hqx : loN l q ≤ loN l x := by rcases hs q hq with h4 | h4 <;> omega
      have hlx := lo_hi hx
      rcases lam (h.node t ht) hx (by omega) (by omega) with h1 | h1
      · exact hc ⟨t, ht, h1⟩
      · have h2 := (abv_iff hx (h.node t ht)).1 h1
        have h3 : loN l q = loN l x := by omega
        have h4 : abv q x = true := lo_same (hp q hq) hx h3 (by rcases hs q hq with h4 | h4 <;> omega)
        obtain ⟨u, hu, h5⟩ := h.cov q hq
        exact hc ⟨u, hu, abv_trans (h.node u hu) (hp q hq) hx h5 h4⟩
    have hstep : joinStep T x = (climb T x).2 :: (climb T x).1 := by
      cases T with
      | nil => rfl
      | cons u us =>
        unfold joinStep
        simp only
        rw [if_neg (fun hu => hc ⟨u, by simp, hu⟩)]
    rw [hstep]
    have C := climb_of T x h.node h.sep hx hright
    generalize climb T x = R at C
    obtain ⟨T', j⟩ := R
    simp only at C ⊢
    have hmem : ∀ t ∈ T', t ∈ T := fun t ht => C.suf.subset ht
    refine ⟨?_, ?_, ?_, ?_, ?_, ?_⟩
    · intro t ht
      rcases List.mem_cons.1 ht with rfl | ht
      · exact C.node
      · exact h.node t (hmem t ht)
    · exact List.pairwise_cons.2 ⟨C.left, h.sep.sublist C.suf.sublist⟩
    · intro t ht
      rcases List.mem_cons.1 ht with rfl | ht
      · rcases C.lo with e | ⟨u, hu, e⟩
        · exact ⟨x, by simp, e.symm⟩
        · obtain ⟨q, hq, e2⟩ := h.low u hu
          exact ⟨q, by simp [hq], by omega⟩
      · obtain ⟨q, hq, e2⟩ := h.low t (hmem t ht)
        exact ⟨q, by simp [hq], e2⟩
    · intro q hq
      rcases List.mem_append.1 hq with hq | hq
      · obtain ⟨t, ht, ha⟩ := h.cov q hq
        rcases C.all t ht with h1 | h1
        · exact ⟨t, by simp [h1], ha⟩
        · exact ⟨j, by simp, abv_trans C.node (h.node t ht) (hp q hq) h1 ha⟩
      · rw [List.mem_singleton.1 hq]
        exact ⟨j, by simp, (abv_iff C.node hx).2 ⟨C.lole, by rw [C.hi]; exact Int.le_refl _⟩⟩
    · intro t ht v h1 h2
      rcases List.mem_cons.1 ht with rfl | ht
      · rcases C.in_ v h1 h2 with g | ⟨u, hu, g1, g2⟩
        · exact ⟨x, by simp, g⟩
        · exact held_mono (fun y hy => List.mem_append_left _ hy) (h.sub u hu v g1 g2)
      · exact held_mono (fun y hy => List.mem_append_left _ hy) (h.sub t (hmem t ht) v h1 h2)
    · refine List.pairwise_cons.2 ⟨fun t ht hsj => ?_, h.sib.sublist C.suf.sublist⟩
      cases T' with
      | nil => simp at ht
      | cons u us =>
        rcases List.mem_cons.1 ht with rfl | ht'
        · exact C.stop _ _ rfl hsj
        · have h1 := (List.pairwise_cons.1 (h.sep.sublist C.suf.sublist)).1 t ht'
          have h2 := C.left u (by simp)
          have h3 := (sib_pair (h.node t (hmem t ht)) C.node hsj (C.left t ht)).2.2.2.2.2
          have h4 := lo_hi (h.node u (hmem u (by simp)))
          omega
theorem joinF_inv {l : Nat} {s : List Int} (hn : ∀ x ∈ s, isNode l x = true) (hs : s.Pairwise (leT l)) : JInv l s (joinF s) := by
  suffices h : ∀ k, k ≤ s.length → JInv l (s.take k) ((s.take k).foldl joinStep []) by
    have := h s.length (Nat.le_refl _)
    rwa [List.take_length] at this
  intro k
  induction k with
  | zero => exact fun _ => ⟨by simp, by simp, by simp, by simp, by simp, by simp⟩
  | succ k ih =>
    intro hk
    have hlt : k < s.length := by omega
    rw [List.take_succ_eq_append_getElem hlt, List.foldl_append]
    refine jinv_step (ih (by omega)) (fun q hq => hn q (List.mem_of_mem_take hq)) (hn _ (List.getElem_mem hlt)) (fun q hq => ?_)
    obtain ⟨i, hi, rfl⟩ := List.getElem_of_mem hq
    simp only [List.length_take] at hi
    rw [List.getElem_take]
    exact List.pairwise_iff_getElem.1 hs i k (by omega) hlt (by omega)
/-- Tiles as they come: they hold just what the nodes do, and each node that they hold whole is below one of them. -/
structure Tiles (l : Nat) (C : Int → Prop) (T : List Int) : Prop where
  node : ∀ t ∈ T, isNode l t = true
  cov : ∀ v, held l T v ↔ C v
  top : ∀ x, isNode l x = true → (∀ v, loN l x ≤ v → v ≤ hiN l x → C v) → ∃ t ∈ T, abv t x = true
theorem whole_below {l : Nat} {T : List Int} (hn : ∀ t ∈ T, isNode l t = true) (hsib : ∀ a ∈ T, ∀ b ∈ T, hiN l b < loN l a → sibN b ≠ a) : ∀ (b : Nat) (x : Int), isNode l x = true → x.toNat.log2 + b = l → (∀ v, loN l x ≤ v → v ≤ hiN l x → held l T v) → ∃ t ∈ T, abv t x = true := by
  intro b
  induction b with
  | zero =>
    intro x hx hb hv
    have he := leaf_one hx (by omega)
    obtain ⟨t, ht, h1, h2⟩ := hv (loN l x) (Int.le_refl _) (by omega)
    exact ⟨t, ht, (abv_iff (hn t ht) hx).2 ⟨h1, by omega⟩⟩
  | succ b ih =>
    intro x hx hb hv
    obtain ⟨k1, k2, k3, k4, k5, k6, k7⟩ := node_kids hx (by omega)
    have w1 := lo_hi k1
    have w2 := lo_hi k2
    obtain ⟨t, ht, h1⟩ := ih (2 * x) k1 (by omega) (fun v a1 a2 => hv v (by omega) (by omega))
    obtain ⟨u, hu, h2⟩ := ih (2 * x + 1) k2 (by omega) (fun v a1 a2 => hv v (by omega) (by omega))
    have r1 := (abv_iff (hn t ht) k1).1 h1
    have r2 := (abv_iff (hn u hu) k2).1 h2
    have wt := lo_hi (hn t ht)
    have wu := lo_hi (hn u hu)
    by_cases e1 : abv t x = true
    · exact ⟨t, ht, e1⟩
    · by_cases e2 : abv u x = true
      · exact ⟨u, hu, e2⟩
      · exfalso
        have q1 : abv x t = true := by
          rcases lam (hn t ht) hx (by omega) (by omega) with h | h
          · exact absurd h e1
          · exact h
        have q2 : abv x u = true := by
          rcases lam (hn u hu) hx (by omega) (by omega) with h | h
          · exact absurd h e2
          · exact h
        have c1 : t = 2 * x := by
          refine abv_eq (hn t ht) k1 h1 ((abv_iff k1 (hn t ht)).2 ?_)
          have s1 := (abv_iff hx (hn t ht)).1 q1
          refine ⟨by omega, ?_⟩
          apply Classical.byContradiction
          intro hgt
          rcases lam (hn t ht) k2 (by omega) (by omega) with h | h
          · have := (abv_iff (hn t ht) k2).1 h
            exact e1 ((abv_iff (hn t ht) hx).2 ⟨by omega, by omega⟩)
          · have := (abv_iff k2 (hn t ht)).1 h; omega
        have c2 : u = 2 * x + 1 := by
          refine abv_eq (hn u hu) k2 h2 ((abv_iff k2 (hn u hu)).2 ?_)
          have s1 := (abv_iff hx (hn u hu)).1 q2
          refine ⟨?_, by omega⟩
          apply Classical.byContradiction
          intro hgt
          rcases lam (hn u hu) k1 (by omega) (by omega) with h | h
          · have := (abv_iff (hn u hu) k1).1 h
            exact e2 ((abv_iff (hn u hu) hx).2 ⟨by omega, by omega⟩)
          · have := (abv_iff k1 (hn u hu)).1 h; omega
        refine hsib u hu t ht (by rw [c1, c2]; omega) ?_
        unfold sibN
        rw [c1, c2, if_pos (by omega)]
theorem sibN_sep {l : Nat} {T : List Int} (hn : ∀ t ∈ T, isNode l t = true) (hsep : T.Pairwise (fun a b => hiN l b < loN l a)) (hsib : T.Pairwise (fun a b => sibN b ≠ a)) : ∀ a ∈ T, ∀ b ∈ T, hiN l b < loN l a → sibN b ≠ a := by
  intro a ha b hb hlt
  obtain ⟨i, hi, rfl⟩ := List.getElem_of_mem ha
  obtain ⟨j, hj, rfl⟩ := List.getElem_of_mem hb
  have ha' := hn _ ha
  have hb' := hn _ hb
  rcases Nat.lt_trichotomy i j with h | h | h
  · exact List.pairwise_iff_getElem.1 hsib i j hi hj h
  · subst h
    have := lo_hi ha'; omega
  · have := List.pairwise_iff_getElem.1 hsep j i hj hi h
    have := lo_hi ha'
    have := lo_hi hb'
    omega
/-- The fewest tiles of what nodes hold. -/
theorem join_tiles {l : Nat} {s : List Int} (hn : ∀ x ∈ s, isNode l x = true) (hs : s.Pairwise (leT l)) : Tiles l (held l s) (joinF s) := by
  have J := joinF_inv hn hs
  have hcov : ∀ v, held l (joinF s) v ↔ held l s v := by
    intro v
    constructor
    · rintro ⟨t, ht, h1, h2⟩
      exact J.sub t ht v h1 h2
    · rintro ⟨q, hq, h1, h2⟩
      obtain ⟨t, ht, ha⟩ := J.cov q hq
      have := (abv_iff (J.node t ht) (hn q hq)).1 ha
      exact ⟨t, ht, by omega, by omega⟩
  refine ⟨J.node, hcov, fun x hx hv => ?_⟩
  have := log2_le hx
  exact whole_below J.node (sibN_sep J.node J.sep J.sib) (l - x.toNat.log2) x hx (by omega) fun v h1 h2 => (hcov v).2 (hv v h1 h2)
/-- The fewest tiles of a run, from a node of some height down. -/
def layT (l : Nat) (a b : Int) : Nat → Int → List Int
  | 0, x => if hiN l x < a ∨ b < loN l x then [] else [x]
  | h + 1, x => if hiN l x < a ∨ b < loN l x then [] else if a ≤ loN l x ∧ hiN l x ≤ b then [x] else layT l a b h (2 * x) ++ layT l a b h (2 * x + 1)
theorem layT_of {l : Nat} (a b : Int) : ∀ (h : Nat) (x : Int), isNode l x = true → x.toNat.log2 + h = l →
    (∀ t ∈ layT l a b h x, isNode l t = true) ∧ (∀ v, held l (layT l a b h x) v ↔ (loN l x ≤ v ∧ v ≤ hiN l x) ∧ a ≤ v ∧ v ≤ b) ∧ (∀ y, isNode l y = true → abv x y = true → a ≤ loN l y → hiN l y ≤ b → ∃ t ∈ layT l a b h x, abv t y = true) := by
  intro h
  induction h with
  | zero =>
    intro x hx hb
    have he := leaf_one hx (by omega)
    unfold layT
    by_cases hc : hiN l x < a ∨ b < loN l x
    · rw [if_pos hc]
      refine ⟨by simp, fun v => ⟨by rintro ⟨t, ht, _⟩; simp at ht, by rintro ⟨h1, h2⟩; exfalso; omega⟩, fun y hy h1 h2 h3 => ?_⟩
      exfalso
      have := (abv_iff hx hy).1 h1
      have := lo_hi hy
      omega
    · rw [if_neg hc]
      refine ⟨fun t ht => by rw [List.mem_singleton.1 ht]; exact hx, fun v => ⟨by rintro ⟨t, ht, h1, h2⟩; rw [List.mem_singleton.1 ht] at h1 h2; omega, by rintro ⟨h1, h2⟩; exact ⟨x, by simp, h1⟩⟩, fun y hy h1 h2 h3 => ⟨x, by simp, h1⟩⟩
  | succ h ih =>
    intro x hx hb
    have hlx := lo_hi hx
    obtain ⟨k1, k2, k3, k4, k5, k6, k7⟩ := node_kids hx (by omega)
    have w1 := lo_hi k1
    have w2 := lo_hi k2
    unfold layT
    by_cases hc : hiN l x < a ∨ b < loN l x
    · rw [if_pos hc]
      refine ⟨by simp, fun v => ⟨by rintro ⟨t, ht, _⟩; simp at ht, by rintro ⟨h1, h2⟩; exfalso; omega⟩, fun y hy h1 h2 h3 => ?_⟩
      exfalso
      have := (abv_iff hx hy).1 h1
      have := lo_hi hy
      omega
    · rw [if_neg hc]
      by_cases hd : a ≤ loN l x ∧ hiN l x ≤ b
      · rw [if_pos hd]
        exact ⟨fun t ht => by rw [List.mem_singleton.1 ht]; exact hx, fun v => ⟨by rintro ⟨t, ht, h1, h2⟩; rw [List.mem_singleton.1 ht] at h1 h2; omega, by rintro ⟨h1, h2⟩; exact ⟨x, by simp, h1⟩⟩, fun y hy h1 h2 h3 => ⟨x, by simp, h1⟩⟩
      · rw [if_neg hd]
        obtain ⟨a1, a2, a3⟩ := ih (2 * x) k1 (by omega)
        obtain ⟨b1, b2, b3⟩ := ih (2 * x + 1) k2 (by omega)
        refine ⟨fun t ht => (List.mem_append.1 ht).elim (a1 t) (b1 t), fun v => ?_, fun y hy h1 h2 h3 => ?_⟩
        · have e : held l (layT l a b h (2 * x) ++ layT l a b h (2 * x + 1)) v ↔ held l (layT l a b h (2 * x)) v ∨ held l (layT l a b h (2 * x + 1)) v := by
            constructor
            · rintro ⟨t, ht, g⟩
              rcases List.mem_append.1 ht with ht | ht
              · exact .inl ⟨t, ht, g⟩
              · exact .inr ⟨t, ht, g⟩
            · rintro (⟨t, ht, g⟩ | ⟨t, ht, g⟩)
              · exact ⟨t, List.mem_append_left _ ht, g⟩
              · exact ⟨t, List.mem_append_right _ ht, g⟩
          rw [e, a2, b2]
          omega
        · have r := (abv_iff hx hy).1 h1
          have wy := lo_hi hy
          by_cases hy1 : hiN l y ≤ hiN l (2 * x)
          · obtain ⟨t, ht, g⟩ := a3 y hy ((abv_iff k1 hy).2 ⟨by omega, hy1⟩) h2 h3
            exact ⟨t, List.mem_append_left _ ht, g⟩
          · by_cases hy2 : loN l (2 * x + 1) ≤ loN l y
            · obtain ⟨t, ht, g⟩ := b3 y hy ((abv_iff k2 hy).2 ⟨hy2, by omega⟩) h2 h3
              exact ⟨t, List.mem_append_right _ ht, g⟩
            · exfalso
              rcases lam k1 hy (by omega) (by omega) with g | g
              · have := (abv_iff k1 hy).1 g; omega
              · have := (abv_iff hy k1).1 g
                rcases lam k2 hy (by omega) (by omega) with g2 | g2
                · have := (abv_iff k2 hy).1 g2; omega
                · have := (abv_iff hy k2).1 g2; omega
theorem isNode_root {l : Nat} (hl : 1 ≤ l ∧ l ≤ 48) : isNode l 1 = true ∧ loN l 1 = 0 ∧ hiN l 1 = 2 ^ l - 1 := by
  have hn : isNode l 1 = true := by
    have := pow_pos' l
    simp only [isNode, decide_eq_true_eq, Int.toNat_natCast]; omega
  obtain ⟨d, b, t, h1, h2, h3, h4, h5, h6⟩ := node_shape hn
  have h7 := Nat.two_pow_pos d
  obtain rfl : t = 0 := by omega
  have h8 : (2 : Nat) ^ d = 1 := by omega
  obtain rfl : d = 0 := by
    rcases Nat.eq_zero_or_pos d with h | h
    · exact h
    · have := Nat.pow_le_pow_right (n := 2) (by decide) h; omega
  obtain rfl : b = l := by omega
  exact ⟨hn, by simpa using h5, by simpa using h6⟩
def ofTiles (l : Nat) (a b : Int) : List Int := layT l a b l 1
/-- The fewest tiles of a run of values. -/
theorem of_tiles {l : Nat} (hl : 1 ≤ l ∧ l ≤ 48) {a b : Int} (ha : 0 ≤ a) (hb : b ≤ 2 ^ l - 1) : Tiles l (fun v => a ≤ v ∧ v ≤ b) (ofTiles l a b) := by
  obtain ⟨h1, h2, h3⟩ := isNode_root hl
  have hlog : (1 : Int).toNat.log2 + l = l := by
    have : (1 : Int).toNat.log2 = 0 := by decide
    omega
  obtain ⟨g1, g2, g3⟩ := layT_of a b l 1 h1 hlog
  refine ⟨g1, fun v => by unfold ofTiles; rw [g2, h2, h3]; omega, fun x hx hv => ?_⟩
  have wx := lo_hi hx
  have w0 := lo_0 hx
  have w1 := hi_top hx
  exact g3 x hx ((abv_iff h1 hx).2 ⟨by omega, by omega⟩) (hv _ (Int.le_refl _) wx).1 (hv _ wx (Int.le_refl _)).2
/-- The tiles between tiles: behind some of these. -/
def restStep (l : Nat) (o : List Int × Int) (x : Int) : List Int × Int := (if o.2 < loN l x then o.1 ++ ofTiles l o.2 (loN l x - 1) else o.1, hiN l x + 1)
def restF (l : Nat) (T : List Int) : List Int × Int := T.foldl (restStep l) ([], 0)
def restL (l : Nat) (T : List Int) : List Int := if (restF l T).2 ≤ 2 ^ l - 1 then (restF l T).1 ++ ofTiles l (restF l T).2 (2 ^ l - 1) else (restF l T).1
structure RInv (l : Nat) (pre : List Int) (o : List Int × Int) : Prop where
  from0 : 0 ≤ o.2 ∧ o.2 ≤ 2 ^ l
  last : 0 < o.2 → held l pre (o.2 - 1)
  below : ∀ t ∈ pre, hiN l t < o.2
  node : ∀ t ∈ o.1, isNode l t = true
  cov : ∀ v, held l o.1 v ↔ (0 ≤ v ∧ v < o.2) ∧ ¬ held l pre v
  top : ∀ x, isNode l x = true → hiN l x < o.2 → (∀ v, loN l x ≤ v → v ≤ hiN l x → ¬ held l pre v) → ∃ t ∈ o.1, abv t x = true
theorem held_append {l : Nat} {a b : List Int} {v : Int} : held l (a ++ b) v ↔ held l a v ∨ held l b v := by
  constructor
  · rintro ⟨t, ht, g⟩
    rcases List.mem_append.1 ht with ht | ht
    · exact .inl ⟨t, ht, g⟩
    · exact .inr ⟨t, ht, g⟩
  · rintro (⟨t, ht, g⟩ | ⟨t, ht, g⟩)
    · exact ⟨t, List.mem_append_left _ ht, g⟩
    · exact ⟨t, List.mem_append_right _ ht, g⟩
theorem held_one {l : Nat} {x v : Int} : held l [x] v ↔ loN l x ≤ v ∧ v ≤ hiN l x :=
  ⟨by rintro ⟨t, ht, g⟩; rw [List.mem_singleton.1 ht] at g; exact g, fun g => ⟨x, by simp, g⟩⟩
theorem rinv_step {l : Nat} {pre : List Int} {o : List Int × Int} {x : Int} (hl : 1 ≤ l ∧ l ≤ 48) (h : RInv l pre o) (hx : isNode l x = true) (hlt : ∀ t ∈ pre, hiN l t < loN l x) : RInv l (pre ++ [x]) (restStep l o x) := by
  have wx := lo_hi hx
  have w0 := lo_0 hx
  have w1 := hi_top hx
  have hfrom : o.2 ≤ loN l x := by
    rcases Int.lt_or_le 0 o.2 with h1 | h1
    · obtain ⟨t, ht, g1, g2⟩ := h.last h1
      have := hlt t ht
      omega
    · omega
  have hpre : ∀ v, loN l x ≤ v → ¬ held l pre v := by
    rintro v hv ⟨t, ht, g1, g2⟩
    have := hlt t ht
    omega
  have O := of_tiles hl (a := o.2) (b := loN l x - 1) h.from0.1 (by omega)
  have hnil : ¬ o.2 < loN l x → o.2 = loN l x := by omega
  have hmem : ∀ t, t ∈ (restStep l o x).1 → t ∈ o.1 ∨ t ∈ ofTiles l o.2 (loN l x - 1) := by
    intro t ht
    unfold restStep at ht
    simp only at ht
    split at ht
    · exact List.mem_append.1 ht
    · exact .inl ht
  have hcov : ∀ v, held l (restStep l o x).1 v ↔ held l o.1 v ∨ (o.2 ≤ v ∧ v ≤ loN l x - 1) := by
    intro v
    unfold restStep
    simp only
    split
    · rw [held_append, O.cov]
    · constructor
      · exact .inl
      · rintro (g | g)
        · exact g
        · exfalso; omega
  have hin : ∀ t, t ∈ o.1 → t ∈ (restStep l o x).1 := by
    intro t ht
    unfold restStep
    simp only
    split
    · exact List.mem_append_left _ ht
    · exact ht
  have hin2 : o.2 < loN l x → ∀ t, t ∈ ofTiles l o.2 (loN l x - 1) → t ∈ (restStep l o x).1 := by
    intro hc t ht
    unfold restStep
    simp only
    rw [if_pos hc]
    exact List.mem_append_right _ ht
  have e2 : (restStep l o x).2 = hiN l x + 1 := rfl
  refine ⟨⟨by omega, by omega⟩, fun _ => ?_, fun t ht => ?_, fun t ht => ?_, fun v => ?_, fun y hy h1 h2 => ?_⟩
  · rw [e2, held_append, held_one]; right; omega
  · rcases List.mem_append.1 ht with ht | ht
    · have := hlt t ht; omega
    · rw [List.mem_singleton.1 ht]; omega
  · rcases hmem t ht with ht | ht
    · exact h.node t ht
    · exact O.node t ht
  · rw [hcov, h.cov, held_append, held_one, e2]
    constructor
    · rintro (⟨g1, g2⟩ | g)
      · refine ⟨by omega, ?_⟩
        rintro (k | k)
        · exact g2 k
        · omega
      · refine ⟨by have := h.from0; omega, ?_⟩
        rintro (⟨t, ht, k1, k2⟩ | k)
        · have := h.below t ht; omega
        · omega
    · rintro ⟨g1, g2⟩
      have n1 : ¬ held l pre v := fun k => g2 (.inl k)
      have n2 : ¬ (loN l x ≤ v ∧ v ≤ hiN l x) := fun k => g2 (.inr k)
      by_cases hv : v < o.2
      · exact .inl ⟨by omega, n1⟩
      · exact .inr ⟨by omega, by omega⟩
  · rw [e2] at h1
    have wy := lo_hi hy
    have wy0 := lo_0 hy
    have d1 : ∀ v, loN l y ≤ v → v ≤ hiN l y → ¬ held l pre v := fun v a1 a2 k => h2 v a1 a2 (held_append.2 (.inl k))
    have d2 : ∀ v, loN l y ≤ v → v ≤ hiN l y → ¬ (loN l x ≤ v ∧ v ≤ hiN l x) := fun v a1 a2 k => h2 v a1 a2 (held_append.2 (.inr (held_one.2 k)))
    by_cases hc : hiN l y < o.2
    · obtain ⟨t, ht, g⟩ := h.top y hy hc d1
      exact ⟨t, hin t ht, g⟩
    · have a1 : o.2 ≤ loN l y := by
        apply Classical.byContradiction
        intro hn
        exact d1 (o.2 - 1) (by omega) (by omega) (h.last (by omega))
      have a2 : hiN l y < loN l x := by
        apply Classical.byContradiction
        intro hn
        exact d2 (hiN l y) wy (Int.le_refl _) ⟨by omega, by omega⟩
      obtain ⟨t, ht, g⟩ := O.top y hy (fun v b1 b2 => ⟨by omega, by omega⟩)
      exact ⟨t, hin2 (by omega) t ht, g⟩
theorem restF_inv {l : Nat} (hl : 1 ≤ l ∧ l ≤ 48) {T : List Int} (hn : ∀ t ∈ T, isNode l t = true) (hs : T.Pairwise fun a b => hiN l a < loN l b) : RInv l T (restF l T) := by
  suffices h : ∀ k, k ≤ T.length → RInv l (T.take k) ((T.take k).foldl (restStep l) ([], 0)) by
    have := h T.length (Nat.le_refl _)
    rwa [List.take_length] at this
  intro k
  induction k with
  | zero =>
    intro _
    have := pow_pos' l
    exact ⟨⟨Int.le_refl _, Int.le_of_lt this⟩, fun h => absurd h (by simp), by simp, by simp, fun v => ⟨by rintro ⟨t, ht, _⟩; simp at ht, by rintro ⟨h1, _⟩; have h2 : v < 0 := h1.2; omega⟩, fun x hx h1 _ => by
      have h1 : hiN l x < 0 := h1
      have := lo_0 hx
      have := lo_hi hx
      omega⟩
  | succ k ih =>
    intro hk
    have hlt : k < T.length := by omega
    rw [List.take_succ_eq_append_getElem hlt, List.foldl_append]
    refine rinv_step hl (ih (by omega)) (hn _ (List.getElem_mem hlt)) (fun q hq => ?_)
    obtain ⟨i, hi, rfl⟩ := List.getElem_of_mem hq
    simp only [List.length_take] at hi
    rw [List.getElem_take]
    exact List.pairwise_iff_getElem.1 hs i k (by omega) hlt (by omega)
/-- The fewest tiles of what tiles don't hold. -/
theorem rest_tiles {l : Nat} (hl : 1 ≤ l ∧ l ≤ 48) {T : List Int} (hn : ∀ t ∈ T, isNode l t = true) (hs : T.Pairwise fun a b => hiN l a < loN l b) : Tiles l (fun v => (0 ≤ v ∧ v ≤ 2 ^ l - 1) ∧ ¬ held l T v) (restL l T) := by
  have R := restF_inv hl hn hs
  have O := of_tiles hl (a := (restF l T).2) (b := 2 ^ l - 1) R.from0.1 (Int.le_refl _)
  have e0 : restL l T = if (restF l T).2 ≤ 2 ^ l - 1 then (restF l T).1 ++ ofTiles l (restF l T).2 (2 ^ l - 1) else (restF l T).1 := rfl
  generalize restF l T = o at R O e0
  have hlow : ∀ x, isNode l x = true → ¬ hiN l x < o.2 → (∀ v, loN l x ≤ v → v ≤ hiN l x → (0 ≤ v ∧ v ≤ 2 ^ l - 1) ∧ ¬ held l T v) → o.2 ≤ loN l x := by
    intro x hx h1 h2
    apply Classical.byContradiction
    intro hn
    have := lo_0 hx
    exact (h2 (o.2 - 1) (by omega) (by omega)).2 (R.last (by omega))
  rw [e0]
  by_cases hc : o.2 ≤ 2 ^ l - 1
  · rw [if_pos hc]
    refine ⟨fun t ht => (List.mem_append.1 ht).elim (R.node t) (O.node t), fun v => ?_, fun x hx hv => ?_⟩
    · rw [held_append, R.cov, O.cov]
      constructor
      · rintro (⟨g1, g2⟩ | g)
        · exact ⟨by omega, g2⟩
        · refine ⟨by have := R.from0; omega, ?_⟩
          rintro ⟨t, ht, k1, k2⟩
          have := R.below t ht; omega
      · rintro ⟨g1, g2⟩
        by_cases hv : v < o.2
        · exact .inl ⟨by omega, g2⟩
        · exact .inr ⟨by omega, by omega⟩
    · by_cases h1 : hiN l x < o.2
      · obtain ⟨t, ht, g⟩ := R.top x hx h1 (fun v a1 a2 => (hv v a1 a2).2)
        exact ⟨t, List.mem_append_left _ ht, g⟩
      · have h2 := hlow x hx h1 hv
        have h3 := hi_top hx
        obtain ⟨t, ht, g⟩ := O.top x hx (fun v a1 a2 => ⟨by omega, by omega⟩)
        exact ⟨t, List.mem_append_right _ ht, g⟩
  · rw [if_neg hc]
    have h4 := R.from0
    refine ⟨R.node, fun v => ?_, fun x hx hv => ?_⟩
    · rw [R.cov]
      constructor
      · rintro ⟨g1, g2⟩; exact ⟨by omega, g2⟩
      · rintro ⟨g1, g2⟩; exact ⟨by omega, g2⟩
    · have h3 := hi_top hx
      exact R.top x hx (by omega) (fun v a1 a2 => (hv v a1 a2).2)
end Go.Proofs.YtgjaopfjffncbaaGreat
/- The ends of the nodes of a roll that fits. -/
namespace Go.Proofs.YtgjaopfjffncbaaGreat
open Go.ChangeShapes Go.WideShapes Go.ChangeAt Go.RowKit
set_option linter.unusedVariables false

theorem ends_48 {l : Nat} (hl : l ≤ 48) {id : Int} (h : isNode l id = true) : 0 ≤ (endsOf l id).1 ∧ (endsOf l id).1 ≤ (endsOf l id).2.1 ∧ (endsOf l id).2.1 ≤ 281474976710655 := by
  have h1 := ends_bounds h
  have h2 := pow_48 (n := l) hl
  omega
theorem Fits.nodes {l : Nat} {r : List Nd} (hf : Fits l r) (hl : 1 ≤ l ∧ l ≤ 48) : ∀ x ∈ r, isNode l x.1 = true := by
  intro x hx
  have h1 := (hf.roll.2 x hx).1
  have h2 := hf.lt x hx
  simp only [isNode, decide_eq_true_eq, Int.toNat_natCast]
  omega
end Go.Proofs.YtgjaopfjffncbaaGreat
/- What came to a digest, and where it lies: no program in sight. -/
namespace Go.Proofs.YtgjaopfjffncbaaGreat
open Go.ChangeShapes Go.WideShapes Go.ChangeAt Go.RowKit
set_option linter.unusedVariables false

/-- What came: a leaf, the node at which it lies, and its weight. -/
structure Tr where
  leaf : Int
  node : Int
  c : Int
def wTr (f : Tr → Bool) : List Tr → Int
  | [] => 0
  | t :: T => (if f t = true then t.c else 0) + wTr f T
/-- What those nodes weigh of whose numbers something is so. -/
def wIds (p : Int → Bool) : List Nd → Int
  | [] => 0
  | x :: r => (if p x.1 = true then x.2 else 0) + wIds p r
theorem weighR_ids (l : Int) (f : Int → Int → Bool) (r : List Nd) : weighR l f r = wIds (fun id => f (endsOf l id).1 (endsOf l id).2.1) r := by
  induction r with
  | nil => rfl
  | cons x r ih => simp only [weighR, wIds, ih]
theorem sumR_ids (r : List Nd) : sumR r = wIds (fun _ => true) r := by
  induction r with
  | nil => rfl
  | cons x r ih => simp only [sumR, wIds, ih]; simp
theorem wTr_nonneg {T : List Tr} (h : ∀ t ∈ T, 1 ≤ t.c) (f : Tr → Bool) : 0 ≤ wTr f T := by
  induction T with
  | nil => simp [wTr]
  | cons t T ih =>
    have h1 := h t (by simp)
    have h2 := ih fun u hu => h u (by simp [hu])
    simp only [wTr]
    split <;> omega
theorem wTr_le {T : List Tr} (h : ∀ t ∈ T, 1 ≤ t.c) {f g : Tr → Bool} (hfg : ∀ t ∈ T, f t = true → g t = true) : wTr f T ≤ wTr g T := by
  induction T with
  | nil => simp [wTr]
  | cons t T ih =>
    have h1 := h t (by simp)
    have h2 := ih (fun u hu => h u (by simp [hu])) fun u hu => hfg u (by simp [hu])
    have h3 := hfg t (by simp)
    simp only [wTr]
    by_cases hf : f t = true
    · rw [if_pos hf, if_pos (h3 hf)]; omega
    · rw [if_neg hf]; split <;> omega
theorem wTr_congr {T : List Tr} {f g : Tr → Bool} (hfg : ∀ t ∈ T, f t = g t) : wTr f T = wTr g T := by
  induction T with
  | nil => rfl
  | cons t T ih => simp only [wTr, hfg t (by simp), ih fun u hu => hfg u (by simp [hu])]
theorem wTr_append (f : Tr → Bool) (S T : List Tr) : wTr f (S ++ T) = wTr f S + wTr f T := by
  induction S with
  | nil => simp [wTr]
  | cons t S ih => simp only [List.cons_append, wTr, ih]; omega
theorem wTr_split (g : Tr → Bool) (k : Tr → Int) (a : Int) (T : List Tr) : wTr g T = wTr (fun t => g t && (k t == a)) T + wTr g (T.filter fun t => k t != a) := by
  induction T with
  | nil => rfl
  | cons t T ih =>
    simp only [wTr, List.filter_cons, ih]
    by_cases hk : k t = a
    · simp [hk]; omega
    · simp [hk, wTr]; omega
theorem wTr_key (p : Int → Bool) (k : Tr → Int) (a : Int) (T : List Tr) : wTr (fun t => p (k t) && (k t == a)) T = if p a = true then wTr (fun t => k t == a) T else 0 := by
  induction T with
  | nil => simp [wTr]
  | cons t T ih =>
    simp only [wTr, ih]
    by_cases hk : k t = a
    · subst hk
      by_cases hp : p (k t) = true
      · simp [hp]
      · simp [hp]
    · have : (k t == a) = false := by simpa using hk
      simp only [this, Bool.and_false, Bool.false_eq_true, if_false, Int.zero_add]
theorem wTr_none {T : List Tr} {f : Tr → Bool} (h : ∀ t ∈ T, f t = false) : wTr f T = 0 := by
  induction T with
  | nil => rfl
  | cons t T ih => simp only [wTr, h t (by simp), ih fun u hu => h u (by simp [hu])]; simp
/-- A roll weighs what came. -/
theorem wIds_tr (p : Int → Bool) (k : Tr → Int) {r : List Nd} : ∀ (T : List Tr), Roll r → (∀ t ∈ T, 1 ≤ t.c) → (∀ id, getR r id = wTr (fun t => k t == id) T) → wIds p r = wTr (fun t => p (k t)) T := by
  induction r with
  | nil =>
    intro T _ hT h
    cases T with
    | nil => rfl
    | cons t T =>
      have h1 := h (k t)
      have h2 := wTr_nonneg (fun u hu => hT u (by simp [hu])) (fun u => k u == k t) (T := T)
      have h3 := hT t (by simp)
      simp only [getR, wTr, BEq.rfl, if_true] at h1
      omega
  | cons x r ih =>
    intro T hr hT h
    have h1 := h x.1
    simp only [getR, if_true] at h1
    rw [wTr_split (fun t => p (k t)) k x.1 T, wTr_key]
    simp only [wIds]
    rw [← h1]
    congr 1
    refine ih _ hr.tail (fun t ht => hT t (List.mem_filter.1 ht).1) fun id => ?_
    by_cases hid : id = x.1
    · subst hid
      rw [getR_none (fun y hy => by have := hr.head y hy; omega), wTr_none]
      intro t ht
      have := (List.mem_filter.1 ht).2
      simpa using this
    · have h2 := h id
      simp only [getR] at h2
      rw [if_neg (fun e => hid e.symm)] at h2
      rw [h2, wTr_split (fun t => k t == id) k x.1 T, wTr_none (f := fun t => (k t == id) && (k t == x.1)) (fun t _ => by
        by_cases e : k t = id
        · simp [e, hid]
        · simp [e])]
      simp

/-- A digest's roll r, and the roll q of all that was accepted, by its leaves. -/
def Flow (l : Nat) (r q : List Nd) : Prop := ∃ T : List Tr, (∀ t ∈ T, 1 ≤ t.c) ∧
  (∀ t ∈ T, isNode l t.node = true ∧ isNode l t.leaf = true ∧ (endsOf l t.node).1 ≤ (endsOf l t.leaf).1 ∧ (endsOf l t.leaf).2.1 ≤ (endsOf l t.node).2.1) ∧
  (∀ id, getR r id = wTr (fun t => t.node == id) T) ∧ (∀ id, getR q id = wTr (fun t => t.leaf == id) T)
section
variable {l : Nat} {r q : List Nd}
theorem Flow.nil (l : Nat) : Flow l [] [] := ⟨[], by simp, by simp, fun _ => rfl, fun _ => rfl⟩
theorem Flow.add (h : Flow l r q) (hr : Roll r) (hq : Roll q) {id c : Int} (hid : isNode l id = true) (hc : 1 ≤ c) : Flow l (addR r id c) (addR q id c) := by
  obtain ⟨T, h1, h2, h3, h4⟩ := h
  refine ⟨⟨id, id, c⟩ :: T, ?_, ?_, ?_, ?_⟩
  · intro t ht
    rcases List.mem_cons.1 ht with rfl | ht
    · exact hc
    · exact h1 t ht
  · intro t ht
    rcases List.mem_cons.1 ht with rfl | ht
    · exact ⟨hid, hid, Int.le_refl _, Int.le_refl _⟩
    · exact h2 t ht
  · intro j
    rw [getR_add hr, h3, h3]
    simp only [wTr]
    by_cases e : j = id
    · subst e; simp; omega
    · have : (id == j) = false := by simpa using fun e' => e e'.symm
      rw [if_neg e, this]; simp
  · intro j
    rw [getR_add hq, h4, h4]
    simp only [wTr]
    by_cases e : j = id
    · subst e; simp; omega
    · have : (id == j) = false := by simpa using fun e' => e e'.symm
      rw [if_neg e, this]; simp
/-- Two nodes go to one that holds what they do. -/
theorem Flow.fold (h : Flow l r q) {a b p : Int} {r' : List Nd} (hp : isNode l p = true) (hab : a ≠ b) (hap : a ≠ p) (hbp : b ≠ p) (ha : (endsOf l p).1 ≤ (endsOf l a).1 ∧ (endsOf l a).2.1 ≤ (endsOf l p).2.1) (hb : (endsOf l p).1 ≤ (endsOf l b).1 ∧ (endsOf l b).2.1 ≤ (endsOf l p).2.1)
    (hr : ∀ id, getR r' id = if id = p then getR r p + getR r a + getR r b else if id = a ∨ id = b then 0 else getR r id) : Flow l r' q := by
  obtain ⟨T, h1, h2, h3, h4⟩ := h
  refine ⟨T.map fun t => if t.node = a ∨ t.node = b then { t with node := p } else t, ?_, ?_, ?_, ?_⟩
  · intro t ht
    obtain ⟨u, hu, rfl⟩ := List.mem_map.1 ht
    have := h1 u hu
    split <;> exact this
  · intro t ht
    obtain ⟨u, hu, rfl⟩ := List.mem_map.1 ht
    have := h2 u hu
    split
    · rename_i hn
      refine ⟨hp, this.2.1, ?_, ?_⟩
      · simp only
        rcases hn with hn | hn
        · rw [hn] at this; omega
        · rw [hn] at this; omega
      · simp only
        rcases hn with hn | hn
        · rw [hn] at this; omega
        · rw [hn] at this; omega
    · exact this
  · intro id
    rw [hr, h3, h3, h3, h3]
    clear h1 h2 h3 h4 hr
    induction T with
    | nil => simp [wTr]
    | cons t T ih =>
      simp only [List.map_cons, wTr]
      by_cases i1 : id = p
      · rw [if_pos i1] at ih ⊢
        subst i1
        by_cases ta : t.node = a
        · have e1 : t.node ≠ b := by omega
          have e2 : t.node ≠ id := by omega
          simp [ta, hab, hap]
          omega
        · by_cases tb : t.node = b
          · simp [tb, hbp, fun e : b = a => hab e.symm]
            omega
          · simp [ta, tb]
            by_cases tp : t.node = id
            · simp [tp]; omega
            · simp [tp]; omega
      · rw [if_neg i1] at ih ⊢
        by_cases i2 : id = a ∨ id = b
        · rw [if_pos i2] at ih ⊢
          by_cases t1 : t.node = a ∨ t.node = b
          · rw [if_pos t1]
            have : (p == id) = false := by simpa using fun e => i1 e.symm
            simp only [this]
            simp only [Bool.false_eq_true, if_false]; omega
          · rw [if_neg t1]
            have : (t.node == id) = false := by
              simp only [beq_eq_false_iff_ne, ne_eq]
              rintro rfl; exact t1 i2
            simp only [this, Bool.false_eq_true, if_false]; omega
        · rw [if_neg i2] at ih ⊢
          by_cases t1 : t.node = a ∨ t.node = b
          · rw [if_pos t1]
            have e1 : (p == id) = false := by simpa using fun e => i1 e.symm
            have e2 : (t.node == id) = false := by
              simp only [beq_eq_false_iff_ne, ne_eq]
              rintro rfl; exact i2 t1
            simp only [e1, e2, Bool.false_eq_true, if_false]; omega
          · rw [if_neg t1]; omega
  · intro id
    rw [h4]
    clear h1 h2 h3 h4 hr
    induction T with
    | nil => rfl
    | cons t T ih =>
      simp only [List.map_cons, wTr, ih]
      by_cases hc : t.node = a ∨ t.node = b
      · rw [if_pos hc]
      · rw [if_neg hc]
/-- Another roll with the same weights. -/
theorem Flow.join {r2 q2 r3 q3 : List Nd} (h : Flow l r q) (k : Flow l r2 q2) (hr : ∀ id, getR r3 id = getR r id + getR r2 id) (hq : ∀ id, getR q3 id = getR q id + getR q2 id) : Flow l r3 q3 := by
  obtain ⟨T, h1, h2, h3, h4⟩ := h
  obtain ⟨S, k1, k2, k3, k4⟩ := k
  refine ⟨T ++ S, fun t ht => ?_, fun t ht => ?_, fun id => ?_, fun id => ?_⟩
  · rcases List.mem_append.1 ht with ht | ht
    · exact h1 t ht
    · exact k1 t ht
  · rcases List.mem_append.1 ht with ht | ht
    · exact h2 t ht
    · exact k2 t ht
  · rw [hr, wTr_append, h3, k3]
  · rw [hq, wTr_append, h4, k4]
theorem Flow.sum (h : Flow l r q) (hr : Roll r) (hq : Roll q) : sumR r = sumR q := by
  obtain ⟨T, h1, h2, h3, h4⟩ := h
  rw [sumR_ids, sumR_ids, wIds_tr _ (·.node) T hr h1 h3, wIds_tr _ (·.leaf) T hq h1 h4]
/-- What is so of nodes is so of what they hold. -/
theorem Flow.le (h : Flow l r q) (hr : Roll r) (hq : Roll q) {f g : Int → Int → Bool} (hfg : ∀ lo hi a b, lo ≤ a → b ≤ hi → f lo hi = true → g a b = true) : weighR l f r ≤ weighR l g q := by
  obtain ⟨T, h1, h2, h3, h4⟩ := h
  rw [weighR_ids, weighR_ids, wIds_tr _ (·.node) T hr h1 h3, wIds_tr _ (·.leaf) T hq h1 h4]
  exact wTr_le h1 fun t ht hf => hfg _ _ _ _ (h2 t ht).2.2.1 (h2 t ht).2.2.2 hf
theorem Flow.ge (h : Flow l r q) (hr : Roll r) (hq : Roll q) {f g : Int → Int → Bool} (hfg : ∀ lo hi a b, lo ≤ a → a ≤ b → b ≤ hi → g a b = true → f lo hi = true) : weighR l g q ≤ weighR l f r := by
  obtain ⟨T, h1, h2, h3, h4⟩ := h
  rw [weighR_ids, weighR_ids, wIds_tr _ (·.node) T hr h1 h3, wIds_tr _ (·.leaf) T hq h1 h4]
  exact wTr_le h1 fun t ht hf => hfg _ _ _ _ (h2 t ht).2.2.1 (ends_bounds (h2 t ht).2.1).2.1 (h2 t ht).2.2.2 hf
end

/-- What nodes of some numbers weigh. -/
theorem wIds_path {r : List Nd} (hr : Roll r) (p : Int → Bool) (m : Int) : ∀ (path : List Int), (∀ x ∈ r, p x.1 = true → x.1 ∈ path) → (∀ a ∈ path, getR r a ≤ m) → 0 ≤ m → wIds p r ≤ path.length * m := by
  intro path h1 h2 hm
  have key : ∀ (path : List Int) (s : List Nd), Roll s → (∀ x ∈ s, p x.1 = true → x.1 ∈ path) → wIds p s ≤ (path.map (getR s)).sum := by
    intro path
    induction path with
    | nil =>
      intro s hs h
      have : wIds p s = 0 := by
        clear hs
        induction s with
        | nil => rfl
        | cons x s ih =>
          have h0 : p x.1 ≠ true := fun e => by have := h x (by simp) e; simp at this
          simp only [wIds, if_neg h0, ih fun y hy => h y (by simp [hy])]; rfl
      rw [this]; simp
    | cons a path ih =>
      intro s hs h
      have h3 := ih (delR s a) (hs.del a) fun x hx hp => by
        have h4 := h x (delR_sub hx) hp
        rcases List.mem_cons.1 h4 with h5 | h5
        · exfalso
          have h6 := getR_mem (hs.del a) hx
          rw [h5, getR_del hs, if_pos rfl] at h6
          have := ((hs.del a).2 x hx).2
          omega
        · exact h5
      have h7 : wIds p s ≤ getR s a + wIds p (delR s a) := by
        clear ih h h3
        induction s with
        | nil => simp [wIds, getR, delR]
        | cons x s ih =>
          have hx := hs.2 x (by simp)
          simp only [getR, delR]
          by_cases e : x.1 = a
          · rw [if_pos e, if_pos e]
            simp only [wIds]; split <;> omega
          · rw [if_neg e, if_neg e]
            simp only [wIds]
            have := ih hs.tail
            omega
      have h8 : (path.map (getR (delR s a))).sum ≤ (path.map (getR s)).sum := by
        clear ih h h3 h7
        induction path with
        | nil => simp
        | cons b path ih =>
          simp only [List.map_cons, List.sum_cons]
          have := getR_del hs a b
          have h9 := getR_nonneg hs b
          split at this <;> omega
      simp only [List.map_cons, List.sum_cons]
      omega
  refine Int.le_trans (key path r hr h1) ?_
  clear key h1
  induction path with
  | nil => simp
  | cons a path ih =>
    simp only [List.map_cons, List.sum_cons, List.length_cons]
    have h3 := h2 a (by simp)
    have h4 := ih fun b hb => h2 b (by simp [hb])
    push_cast
    rw [Int.add_mul, Int.one_mul]
    omega
/-- The nodes above a leaf. -/
def pathOf (l : Nat) (y : Int) : List Int := (List.range l).map fun d => (2 ^ l + y) / 2 ^ (l - d)
theorem pathOf_len (l : Nat) (y : Int) : (pathOf l y).length = l := by simp [pathOf]
/-- A node that holds a value, but not it alone, is above its leaf. -/
theorem on_path {l : Nat} {id y : Int} (h : isNode l id = true) (h1 : (endsOf l id).1 ≤ y) (h2 : y < (endsOf l id).2.1) : id ∈ pathOf l y := by
  obtain ⟨n, x, hn, rfl, hn1, hn2, hx1, hx2⟩ := isNode_nat h
  obtain rfl : n = l := by omega
  obtain ⟨d, b, t, hd, hb, hdb, hxt, htd, hprod⟩ := node_facts hn2 hx1 hx2
  have e1 : endsOf n x = ((t : Int) * 2 ^ b, (t : Int) * 2 ^ b + 2 ^ b - 1, true) := by
    simp only [endsOf, h, if_true, Int.toNat_natCast, hd, hb]
    have : (x : Int) - 2 ^ d = t := by rw [hxt]; push_cast; omega
    rw [this]
  rw [e1] at h1 h2
  simp only at h1 h2
  have hb0 : b ≠ 0 := by rintro rfl; simp at h1 h2; omega
  refine List.mem_map.2 ⟨d, List.mem_range.2 (by omega), ?_⟩
  have hbd : n - d = b := by omega
  rw [hbd]
  have hpb := pow_pos' b
  have e2 : (2 : Int) ^ n = 2 ^ d * 2 ^ b := by rw [← Int.pow_add]; congr 1; omega
  have e3 : (x : Int) = 2 ^ d + t := by rw [hxt]; push_cast; omega
  rw [e2, e3]
  rw [Int.ediv_eq_iff_of_pos hpb]
  rw [Int.add_mul]
  omega
end Go.Proofs.YtgjaopfjffncbaaGreat
/- What a digest that is nil tells; the reference's ranks. -/
namespace Go.Proofs.YtgjaopfjffncbaaGreat
open Go.ChangeShapes Go.WideShapes Go.ChangeAt Go.RowKit
set_option linter.unusedVariables false
set_option maxRecDepth 100000

theorem digest_Conf_nil (w : World) : Calls Tryz.prog 52 #[.pointer none] w fun e w' => e = .returned (.agg #[.int .i64 0, .int .i64 0, .int .i64 0]) ∧ Below w.heap.size w w' := by
  go_enter Tryz.func52, Tryz.ntmps52
  go_wp2_with fail
  exact bodyPost_ret (v := .agg #[.int .i64 0, .int .i64 0, .int .i64 0]) (by simp only [results, Tryz.results52]; go_simp) rfl ⟨rfl, (by repeat (first | with_reducible exact Below.refl _ _ | with_reducible assumption | ((with_reducible refine Below.setCell ?_ ?_ _); rotate_left; · (first | omega | exact Nat.le_refl _ | (simp <;> omega))) | (with_reducible refine Below.allocW ?_ _) | (with_reducible refine Below.drew ?_) | (with_reducible refine Below.extW ?_ _)))⟩
theorem digest_Nodes_nil (w : World) : Calls Tryz.prog 18 #[.pointer none] w fun e w' => e = .returned (.slice none 0 0) ∧ Below w.heap.size w w' := by
  go_enter Tryz.func18, Tryz.ntmps18
  go_wp2_with fail
  go_ret
  exact ⟨rfl, (by repeat (first | with_reducible exact Below.refl _ _ | with_reducible assumption | ((with_reducible refine Below.setCell ?_ ?_ _); rotate_left; · (first | omega | exact Nat.le_refl _ | (simp <;> omega))) | (with_reducible refine Below.allocW ?_ _) | (with_reducible refine Below.drew ?_) | (with_reducible refine Below.extW ?_ _)))⟩
theorem weigh_nil (w : World) (fv : Value) : Calls Tryz.prog 85 #[.pointer none, fv] w fun e w' => e = .returned (.int .i64 0) ∧ Below w.heap.size w w' := by
  go_enter Tryz.func85, Tryz.ntmps85
  go_wp2_with fail
  refine (digest_Conf_nil _).mono ?_
  rintro e w1 ⟨rfl, hb1⟩
  have B1 : Below w.heap.size w w1 := Below.then_ (by repeat (first | with_reducible exact Below.refl _ _ | with_reducible assumption | ((with_reducible refine Below.setCell ?_ ?_ _); rotate_left; · (first | omega | exact Nat.le_refl _ | (simp <;> omega))) | (with_reducible refine Below.allocW ?_ _) | (with_reducible refine Below.drew ?_) | (with_reducible refine Below.extW ?_ _))) hb1
  have s1 : w.heap.size ≤ w1.heap.size := B1.size
  go_wp2_with fail
  refine (digest_Nodes_nil _).mono ?_
  rintro e w2 ⟨rfl, hb2⟩
  have B2 : Below w.heap.size w w2 := Below.then_ (by repeat (first | with_reducible exact Below.refl _ _ | with_reducible assumption | ((with_reducible refine Below.setCell ?_ ?_ _); rotate_left; · (first | omega | exact Nat.le_refl _ | (simp <;> omega))) | (with_reducible refine Below.allocW ?_ _) | (with_reducible refine Below.drew ?_) | (with_reducible refine Below.extW ?_ _))) hb2
  have s2 : w.heap.size ≤ w2.heap.size := B2.size
  go_wp2_with fail
  go_loop [5, 18] (fun n i => n = .int .i64 0 ∧ i = .int .i64 0) (fun _ _ => 0)
  case atStart => exact ⟨rfl, rfl⟩
  case round =>
    obtain ⟨rfl, rfl⟩ := hrel
    go_wp2_with fail
    go_ret
    exact ⟨rfl, B2⟩
theorem ref13_Weight (w : World) (k u : Int) (A : Option Addr) (cap : Nat) (l : List Nd) (hS : Sl w w.heap.size encN A l) (hI : ints l) (hm : l.length ≤ maxLen) :
    Calls Tryz.prog 66 #[.agg #[.int .i64 k, .int .i64 u, .slice A l.length cap]] w fun e w' => e = .returned (.int .i64 (totalOf l).1) ∧ Below w.heap.size w w' := by
  have HC := Lib.hid (ref7_Total · u A cap l · hI hm)
  have HS := Lib.hid hS
  clear hS hI hm
  go_enter Tryz.func66, Tryz.ntmps66
  go_wp2_with fail
  refine (HC.out _ (HS.out.keep (by simp) fun p hp => Go.RowKit.Below.cell (B := w.heap.size) (w := w) (by repeat (first | with_reducible exact Below.refl _ _ | with_reducible assumption | ((with_reducible refine Below.setCell ?_ ?_ _); rotate_left; · (first | omega | exact Nat.le_refl _ | (simp <;> omega))) | (with_reducible refine Below.allocW ?_ _) | (with_reducible refine Below.drew ?_) | (with_reducible refine Below.extW ?_ _))) hp)).mono ?_
  rintro e w1 ⟨rfl, hb1⟩
  have B1 : Below w.heap.size w w1 := Below.then_ (by repeat (first | with_reducible exact Below.refl _ _ | with_reducible assumption | ((with_reducible refine Below.setCell ?_ ?_ _); rotate_left; · (first | omega | exact Nat.le_refl _ | (simp <;> omega))) | (with_reducible refine Below.allocW ?_ _) | (with_reducible refine Below.drew ?_) | (with_reducible refine Below.extW ?_ _))) hb1
  have s1 : w.heap.size ≤ w1.heap.size := B1.size
  go_wp2_with fail
  go_ret
  exact ⟨rfl, (by repeat (first | with_reducible exact Below.refl _ _ | with_reducible assumption | ((with_reducible refine Below.setCell ?_ ?_ _); rotate_left; · (first | omega | exact Nat.le_refl _ | (simp <;> omega))) | (with_reducible refine Below.allocW ?_ _) | (with_reducible refine Below.drew ?_) | (with_reducible refine Below.extW ?_ _)))⟩
theorem rank_Low_nil (w : World) (y : Int) : Calls Tryz.prog 36 #[.pointer none, .int .i64 y] w fun e w' => e = .returned (.int .i64 0) ∧ Below w.heap.size w w' := by
  go_enter Tryz.func36, Tryz.ntmps36
  go_wp2_with fail
  refine (weigh_nil _ _).mono ?_
  rintro e w1 ⟨rfl, hb1⟩
  have B1 : Below w.heap.size w w1 := Below.then_ (by repeat (first | with_reducible exact Below.refl _ _ | with_reducible assumption | ((with_reducible refine Below.setCell ?_ ?_ _); rotate_left; · (first | omega | exact Nat.le_refl _ | (simp <;> omega))) | (with_reducible refine Below.allocW ?_ _) | (with_reducible refine Below.drew ?_) | (with_reducible refine Below.extW ?_ _))) hb1
  have s1 : w.heap.size ≤ w1.heap.size := B1.size
  go_wp2_with fail
  go_ret
  exact ⟨rfl, (by repeat (first | with_reducible exact Below.refl _ _ | with_reducible assumption | ((with_reducible refine Below.setCell ?_ ?_ _); rotate_left; · (first | omega | exact Nat.le_refl _ | (simp <;> omega))) | (with_reducible refine Below.allocW ?_ _) | (with_reducible refine Below.drew ?_) | (with_reducible refine Below.extW ?_ _)))⟩
theorem rank_High_nil (w : World) (y : Int) : Calls Tryz.prog 37 #[.pointer none, .int .i64 y] w fun e w' => e = .returned (.int .i64 0) ∧ Below w.heap.size w w' := by
  go_enter Tryz.func37, Tryz.ntmps37
  go_wp2_with fail
  refine (weigh_nil _ _).mono ?_
  rintro e w1 ⟨rfl, hb1⟩
  have B1 : Below w.heap.size w w1 := Below.then_ (by repeat (first | with_reducible exact Below.refl _ _ | with_reducible assumption | ((with_reducible refine Below.setCell ?_ ?_ _); rotate_left; · (first | omega | exact Nat.le_refl _ | (simp <;> omega))) | (with_reducible refine Below.allocW ?_ _) | (with_reducible refine Below.drew ?_) | (with_reducible refine Below.extW ?_ _))) hb1
  have s1 : w.heap.size ≤ w1.heap.size := B1.size
  go_wp2_with fail
  go_ret
  exact ⟨rfl, (by repeat (first | with_reducible exact Below.refl _ _ | with_reducible assumption | ((with_reducible refine Below.setCell ?_ ?_ _); rotate_left; · (first | omega | exact Nat.le_refl _ | (simp <;> omega))) | (with_reducible refine Below.allocW ?_ _) | (with_reducible refine Below.drew ?_) | (with_reducible refine Below.extW ?_ _)))⟩
end Go.Proofs.YtgjaopfjffncbaaGreat
/- The reference of layer 1 (reckon): numbers as digits to the base 1000. -/
namespace Go.Proofs.YtgjaopfjffncbaaGreat
open Go.ChangeShapes Go.WideShapes Go.ChangeAt Go.RowKit
set_option linter.unusedVariables false

def encD : Enc Nat 1 := ⟨fun x => [.int .i64 x], fun _ => rfl, by intro x u hu; simp at hu; subst hu; rfl⟩
def dg (l : List Nat) (i : Nat) : Nat := l.getD i 0
def valD : List Nat → Nat
  | [] => 0
  | x :: l => x + 1000 * valD l
def okD (l : List Nat) : Prop := ∀ x ∈ l, x ≤ 999
theorem valD_snoc (l : List Nat) (x : Nat) : valD (l ++ [x]) = valD l + x * 1000 ^ l.length := by
  induction l with
  | nil => simp [valD]
  | cons y l ih =>
    simp only [List.cons_append, valD, ih, List.length_cons, Nat.pow_succ]
    rw [Nat.mul_add, show x * (1000 ^ l.length * 1000) = 1000 * (x * 1000 ^ l.length) by rw [← Nat.mul_assoc, Nat.mul_comm]]
    omega
theorem dg_le {l : List Nat} (h : okD l) (i : Nat) : dg l i ≤ 999 := by
  unfold dg
  rw [List.getD_eq_getElem?_getD]
  rcases hx : l[i]? with _ | x
  · simp
  · simp only [Option.getD_some]
    exact h x (List.mem_of_getElem? hx)
theorem dg_at {l : List Nat} {i : Nat} (h : i < l.length) : dg l i = l[i] := by
  unfold dg
  rw [List.getD_eq_getElem?_getD, List.getElem?_eq_getElem h]; rfl
theorem dg_out {l : List Nat} {i : Nat} (h : l.length ≤ i) : dg l i = 0 := by
  unfold dg
  rw [List.getD_eq_getElem?_getD, List.getElem?_eq_none h]; rfl
theorem valD_take_succ (l : List Nat) (i : Nat) : valD (l.take (i + 1)) = valD (l.take i) + dg l i * 1000 ^ i := by
  by_cases h : i < l.length
  · rw [List.take_succ_eq_append_getElem h, valD_snoc, List.length_take, Nat.min_eq_left (by omega), dg_at h]
  · rw [dg_out (by omega), List.take_of_length_le (by omega), List.take_of_length_le (by omega)]; simp
theorem okD.take {l : List Nat} (h : okD l) (i : Nat) : okD (l.take i) := fun x hx => h x (List.mem_of_mem_take hx)
theorem okD.snoc {l : List Nat} (h : okD l) {x : Nat} (hx : x ≤ 999) : okD (l ++ [x]) := by
  intro y hy
  rcases List.mem_append.1 hy with hy | hy
  · exact h y hy
  · simp at hy; omega
theorem okD.nil : okD [] := fun x hx => by simp at hx
theorem valD_take_lt {l : List Nat} (h : okD l) (i : Nat) : valD (l.take i) < 1000 ^ i := by
  induction i with
  | zero => simp [valD]
  | succ i ih =>
    rw [valD_take_succ, Nat.pow_succ]
    have h1 := dg_le h i
    have h2 : dg l i * 1000 ^ i ≤ 999 * 1000 ^ i := Nat.mul_le_mul_right _ h1
    omega
theorem valD_zeros (k : Nat) : valD (List.replicate k 0) = 0 := by
  induction k with
  | zero => rfl
  | succ k ih => rw [List.replicate_succ]; simp [valD, ih]
theorem okD.zeros (k : Nat) : okD (List.replicate k 0) := fun x hx => by have := (List.mem_replicate.1 hx).2; omega
theorem zeros_snoc (k : Nat) : List.replicate k 0 ++ [0] = List.replicate (k + 1) 0 := by rw [List.replicate_succ']

/-- One digit of a number n = m * 1000^e more. -/
theorem digit_step {V m e n : Nat} (h : V + m * 1000 ^ e = n) : V + m % 1000 * 1000 ^ e + m / 1000 * 1000 ^ (e + 1) = n := by
  have h1 : m / 1000 * 1000 ^ (e + 1) = 1000 * (m / 1000) * 1000 ^ e := by rw [Nat.pow_succ, Nat.mul_comm (1000 ^ e), ← Nat.mul_assoc, Nat.mul_comm (m / 1000)]
  have h2 : m % 1000 * 1000 ^ e + 1000 * (m / 1000) * 1000 ^ e = m * 1000 ^ e := by rw [← Nat.add_mul, Nat.mod_add_div]
  omega
theorem digits_few {V m e n : Nat} (h : V + m * 1000 ^ e = n) (hm : 1 ≤ m) (hn : n < 9223372036854775808) : e < 7 := by
  have h1 : 1000 ^ e ≤ m * 1000 ^ e := Nat.le_mul_of_pos_left _ hm
  refine (Nat.pow_lt_pow_iff_right (a := 1000) (by decide)).1 ?_
  have : (1000 : Nat) ^ 7 = 1000000000000000000000 := by decide
  omega

end Go.Proofs.YtgjaopfjffncbaaGreat
/- The reference of layer 1 (reckon): digits multiplied, compared, divided. -/
namespace Go.Proofs.YtgjaopfjffncbaaGreat
open Go.ChangeShapes Go.WideShapes Go.ChangeAt Go.RowKit
set_option linter.unusedVariables false

theorem times_step {V m x y p q j : Nat} (a : List Nat) (hx : x = dg a q) (hp : p = x * y) (h : V + m * 1000 ^ (j + q) = valD (a.take q) * (y * 1000 ^ j)) :
    V + (m + p) * 1000 ^ (j + q) = valD (a.take (q + 1)) * (y * 1000 ^ j) := by
  rw [valD_take_succ, ← hx, Nat.add_mul, Nat.add_mul, ← h, hp]
  have e : x * 1000 ^ q * (y * 1000 ^ j) = x * y * 1000 ^ (j + q) := by
    rw [Nat.pow_add, Nat.mul_comm (1000 ^ j), Nat.mul_mul_mul_comm]
  rw [e, Nat.add_assoc]
theorem times_row {T V y j : Nat} (A : Nat) (b : List Nat) (hy : y = dg b j) (hT : T = A * valD (b.take j)) (hV : V = A * (y * 1000 ^ j)) : T + V = A * valD (b.take (j + 1)) := by
  rw [valD_take_succ, ← hy, Nat.mul_add, hT, hV]

/-- Which of two numbers is the lesser. -/
def cmpV (x y : Nat) : Int := if x < y then -1 else if y < x then 1 else 0
theorem cmpV_le (x y : Nat) : (cmpV x y ≤ 0) ↔ x ≤ y := by unfold cmpV; split <;> (try split) <;> omega
theorem cmpV_lt (x y : Nat) : (cmpV x y < 0) ↔ x < y := by unfold cmpV; split <;> (try split) <;> omega
theorem cmpV_range (x y : Nat) : -1 ≤ cmpV x y ∧ cmpV x y ≤ 1 := by unfold cmpV; split <;> (try split) <;> omega
theorem cmpV_eq {x y : Nat} (h : x = y) : cmpV x y = 0 := by unfold cmpV; rw [if_neg (by omega), if_neg (by omega)]
theorem cmpV_less {x y : Nat} (h : x < y) : cmpV x y = -1 := if_pos h
theorem cmpV_more {x y : Nat} (h : y < x) : cmpV x y = 1 := by unfold cmpV; rw [if_neg (by omega), if_pos h]
theorem less_digit {X Y : Nat} {a b : List Nat} (ka : okD a) {p : Nat} (h : X + valD (b.take (p + 1)) = Y + valD (a.take (p + 1))) (hx : dg a p < dg b p) : X < Y := by
  rw [valD_take_succ, valD_take_succ] at h
  have h1 := valD_take_lt ka p
  have h2 : (dg a p + 1) * 1000 ^ p ≤ dg b p * 1000 ^ p := Nat.mul_le_mul_right _ hx
  rw [Nat.add_mul] at h2
  omega
end Go.Proofs.YtgjaopfjffncbaaGreat
/- The reference of layer 1 (reckon): a part of a number. -/
namespace Go.Proofs.YtgjaopfjffncbaaGreat
open Go.ChangeShapes Go.WideShapes Go.ChangeAt Go.RowKit
set_option linter.unusedVariables false

theorem quot_end {n b V : Nat} (h1 : n * b ≤ V) (h2 : V < (n + 1) * b) : n = V / b ∧ (n * b < V ↔ V % b ≠ 0) := by
  have hb : 0 < b := by rcases Nat.eq_zero_or_pos b with rfl | h <;> simp_all
  have e : n = V / b := by
    refine Nat.le_antisymm ((Nat.le_div_iff_mul_le hb).2 h1) ?_
    have := (Nat.div_lt_iff_lt_mul hb).2 h2
    omega
  refine ⟨e, ?_⟩
  have := Nat.div_add_mod V b
  rw [← e, Nat.mul_comm] at this
  omega
end Go.Proofs.YtgjaopfjffncbaaGreat
/- Long division by two digits: the plain law. No program in sight. -/
namespace Go.Proofs.YtgjaopfjffncbaaGreat
set_option linter.unusedVariables false
set_option maxRecDepth 100000

section
variable {a c u d q rh : Nat}
/-- A guess that is too great shows itself. -/
theorem guess_high (hd : d < 4294967296) (hu : u < a * 4294967296 + c) (h : q * a + rh = u) (ht : 4294967296 ≤ q ∨ 4294967296 * rh + d < q * c) : (u * 4294967296 + d) / (a * 4294967296 + c) < q := by
  rw [Nat.div_lt_iff_lt_mul (by omega)]
  rcases ht with ht | ht
  · have h1 : (a * 4294967296 + c) * 4294967296 ≤ q * (a * 4294967296 + c) := by rw [Nat.mul_comm q]; exact Nat.mul_le_mul_left _ ht
    omega
  · have h1 : q * (a * 4294967296 + c) = (q * a) * 4294967296 + q * c := by rw [Nat.mul_add, Nat.mul_assoc]
    rw [h1]
    omega
/-- One that doesn't is not too great. -/
theorem guess_low (h : q * a + rh = u) (hc : 0 < a * 4294967296 + c) (ht : q * c ≤ 4294967296 * rh + d) : q ≤ (u * 4294967296 + d) / (a * 4294967296 + c) := by
  rw [Nat.le_div_iff_mul_le hc]
  have h1 : q * (a * 4294967296 + c) = (q * a) * 4294967296 + q * c := by rw [Nat.mul_add, Nat.mul_assoc]
  rw [h1]
  omega
theorem guess_break (hc : c < 4294967296) (hu : u < a * 4294967296 + c) (h : q * a + rh = u) (hr : 4294967296 ≤ rh) : q ≤ (u * 4294967296 + d) / (a * 4294967296 + c) := by
  refine guess_low h (by omega) ?_
  have h1 : q * a < 4294967296 * a := by omega
  have h2 : q < 4294967296 := Nat.lt_of_mul_lt_mul_right h1
  have h3 : q * c ≤ q * 4294967296 := Nat.mul_le_mul_left _ (by omega)
  omega
/-- The quotient is one digit. -/
theorem quot_digit (hd : d < 4294967296) (hu : u < a * 4294967296 + c) : (u * 4294967296 + d) / (a * 4294967296 + c) < 4294967296 := by
  rw [Nat.div_lt_iff_lt_mul (by omega)]
  omega
end
/-- Both digits, one behind the other. -/
theorem two_digits (B Y u x1 x0 : Nat) (hY : 0 < Y) :
    (u * (B * B) + (x1 * B + x0)) / Y = (u * B + x1) / Y * B + ((u * B + x1) % Y * B + x0) / Y ∧
    (u * (B * B) + (x1 * B + x0)) % Y = ((u * B + x1) % Y * B + x0) % Y := by
  have h1 := Nat.div_add_mod (u * B + x1) Y
  obtain ⟨q1, hq⟩ : ∃ q, q = (u * B + x1) / Y := ⟨_, rfl⟩
  obtain ⟨r1, hr⟩ : ∃ q, q = (u * B + x1) % Y := ⟨_, rfl⟩
  rw [← hq, ← hr] at h1 ⊢
  have e : u * (B * B) + (x1 * B + x0) = Y * (q1 * B) + (r1 * B + x0) := by
    have : (Y * q1 + r1) * B = (u * B + x1) * B := by rw [h1]
    rw [Nat.add_mul, Nat.add_mul, Nat.mul_assoc, Nat.mul_assoc] at this
    omega
  rw [e, Nat.mul_add_div hY, Nat.mul_add_mod]
  exact ⟨rfl, rfl⟩
/-- The number, moved up. -/
theorem moved_up {B hi lo s t : Nat} (hB : 2 ^ s * 2 ^ t = B) :
    (hi * 2 ^ s + lo / 2 ^ t) * B + lo * 2 ^ s % B = (hi * B + lo) * 2 ^ s := by
  have h1 : lo * 2 ^ s / B = lo / 2 ^ t := by
    rw [← hB, Nat.mul_comm lo, Nat.mul_div_mul_left _ _ (Nat.two_pow_pos s)]
  have h2 := Nat.div_add_mod (lo * 2 ^ s) B
  rw [h1, Nat.mul_comm B] at h2
  have h3 : (hi * B + lo) * 2 ^ s = hi * 2 ^ s * B + lo * 2 ^ s := by
    rw [Nat.add_mul, Nat.mul_assoc, Nat.mul_comm B, ← Nat.mul_assoc]
  rw [h3, Nat.add_mul]
  omega
theorem moved_quot {N y s : Nat} : N * 2 ^ s / (y * 2 ^ s) = N / y ∧ N * 2 ^ s % (y * 2 ^ s) / 2 ^ s = N % y := by
  have hp := Nat.two_pow_pos s
  refine ⟨Nat.mul_div_mul_right _ _ hp, ?_⟩
  rw [Nat.mul_mod_mul_right, Nat.mul_div_cancel _ hp]
end Go.Proofs.YtgjaopfjffncbaaGreat
/- math/bits: Div64. -/
namespace Go.Proofs.YtgjaopfjffncbaaGreat
open Go.ChangeShapes Go.WideShapes Go.ChangeAt Go.RowKit
set_option linter.unusedVariables false
set_option maxRecDepth 100000

theorem wraps_u64 (n : Int) (h₀ : 0 ≤ n) (h₁ : n < 2 ^ 64) : IntKind.u64.wrap n = n := by rw [IntKind.wrap_u64]; omega
theorem u64_mask (n : Nat) (hn : n < 18446744073709551616) : bits .and .u64 (n : Int) 4294967295 = ((n % 4294967296 : Nat) : Int) := by
  have := bits_mask .u64 64 (by decide) wraps_u64 32 (by omega) (n : Int) (by omega) (by omega)
  have e : (2 : Int) ^ 32 - 1 = 4294967295 := by decide
  rw [e] at this
  rw [this]
  omega
/-- How a divisor is moved up. -/
theorem moved_div {y : Nat} (h0 : y ≠ 0) (h : y < 18446744073709551616) : ∃ s Y : Nat, (64 : Int) - (Lib.bitLen y : Int) = s ∧ s ≤ 63 ∧ y * 2 ^ s = Y ∧ 9223372036854775808 ≤ Y ∧ Y < 18446744073709551616 := by
  have hb := Lib.bitLenAux_bounds 64 y (by simpa using h) h0
  have h1 : 2 ^ (Lib.bitLen y - 1) ≤ y := hb.2.1
  have h2 : y < 2 ^ Lib.bitLen y := hb.2.2
  have h3 : 1 ≤ Lib.bitLen y := hb.1
  have h4 : Lib.bitLen y ≤ 64 := by
    apply Classical.byContradiction
    intro hn
    have := Nat.pow_le_pow_right (n := 2) (by decide) (show 64 ≤ Lib.bitLen y - 1 by omega)
    omega
  obtain ⟨n, hn⟩ : ∃ n, n = Lib.bitLen y := ⟨_, rfl⟩
  rw [← hn] at h1 h2 h3 h4 ⊢
  refine ⟨64 - n, _, by omega, by omega, rfl, ?_, ?_⟩
  · have e : 2 ^ (n - 1) * 2 ^ (64 - n) = 9223372036854775808 := by rw [← Nat.pow_add, show n - 1 + (64 - n) = 63 by omega]
    rw [← e]; exact Nat.mul_le_mul_right _ h1
  · have e : 2 ^ n * 2 ^ (64 - n) = 18446744073709551616 := by rw [← Nat.pow_add, show n + (64 - n) = 64 by omega]
    rw [← e]; exact Nat.mul_lt_mul_of_pos_right h2 (Nat.two_pow_pos _)
/-- What the letters of a division are: the divisor moved up is a*2^32 + c, the number moved up is (u, x1, x0). -/
structure DivFacts (hi lo y s a c u x1 x0 : Nat) : Prop where
  s63 : s ≤ 63
  eY : y * 2 ^ s = a * 4294967296 + c
  a1 : 2147483648 ≤ a
  a2 : a < 4294967296
  lc : c < 4294967296
  eu : u = hi * 2 ^ s + lo / 2 ^ (64 - s)
  uY : u < a * 4294967296 + c
  et : lo * 2 ^ s % 18446744073709551616 = x1 * 4294967296 + x0
  l1 : x1 < 4294967296
  l0 : x0 < 4294967296
theorem div_facts {hi lo y s Y : Nat} (hs : s ≤ 63) (hY : y * 2 ^ s = Y) (hY1 : 9223372036854775808 ≤ Y) (hY2 : Y < 18446744073709551616) (hhi : hi < y) (hlo : lo < 18446744073709551616) :
    ∃ a c u x1 x0, DivFacts hi lo y s a c u x1 x0 := by
  have h64 : 2 ^ s * 2 ^ (64 - s) = 18446744073709551616 := by rw [← Nat.pow_add, show s + (64 - s) = 64 by omega]
  have hu : hi * 2 ^ s + lo / 2 ^ (64 - s) < Y := by
    have h1 : lo / 2 ^ (64 - s) < 2 ^ s := by
      apply Nat.div_lt_of_lt_mul
      rw [Nat.mul_comm, h64]; exact hlo
    have h2 : (hi + 1) * 2 ^ s ≤ y * 2 ^ s := Nat.mul_le_mul_right _ hhi
    rw [Nat.add_mul, Nat.one_mul] at h2
    omega
  have ht := Nat.mod_lt (lo * 2 ^ s) (show 0 < 18446744073709551616 by decide)
  obtain ⟨t, htt⟩ : ∃ t, t = lo * 2 ^ s % 18446744073709551616 := ⟨_, rfl⟩
  rw [← htt] at ht
  exact ⟨Y / 4294967296, Y % 4294967296, _, t / 4294967296, t % 4294967296, hs, by omega, by omega, by omega, by omega, rfl, by omega, by rw [← htt]; omega, by omega, by omega⟩
theorem div_end {hi lo y s a c u x1 x0 : Nat} (h : DivFacts hi lo y s a c u x1 x0) :
    (hi * 18446744073709551616 + lo) / y = (u * 4294967296 + x1) / (a * 4294967296 + c) * 4294967296 + ((u * 4294967296 + x1) % (a * 4294967296 + c) * 4294967296 + x0) / (a * 4294967296 + c) ∧
    (hi * 18446744073709551616 + lo) % y = ((u * 4294967296 + x1) % (a * 4294967296 + c) * 4294967296 + x0) % (a * 4294967296 + c) / 2 ^ s := by
  have hs := h.s63
  have h64 : 2 ^ s * 2 ^ (64 - s) = 18446744073709551616 := by rw [← Nat.pow_add, show s + (64 - s) = 64 by omega]
  have h1 := moved_up (hi := hi) (lo := lo) h64
  rw [h.et, ← h.eu] at h1
  have ha := h.a1
  have h2 := two_digits 4294967296 (a * 4294967296 + c) u x1 x0 (by omega)
  simp only [Nat.reduceMul] at h2
  rw [h1] at h2
  have h3 := moved_quot (N := hi * 18446744073709551616 + lo) (y := y) (s := s)
  rw [h.eY] at h3
  rw [← h3.1, ← h3.2, h2.1, h2.2]
  exact ⟨rfl, rfl⟩
/-- One round of guessing: the invariant. -/
structure Guess (a c u d q rh : Nat) : Prop where
  eq : q * a + rh = u
  ge : (u * 4294967296 + d) / (a * 4294967296 + c) ≤ q
  rh : rh < 4294967296
section
variable {a c u d q rh : Nat}
theorem Guess.start (ha1 : 2147483648 ≤ a) (ha2 : a < 4294967296) (hc : c < 4294967296) (hd : d < 4294967296) (hu : u < a * 4294967296 + c) : Guess a c u d (u / a) (u % a) := by
  have h1 := Nat.div_add_mod u a
  have h2 := Nat.mod_lt u (show 0 < a by omega)
  rw [Nat.mul_comm] at h1
  obtain ⟨q, hq⟩ : ∃ q, q = u / a := ⟨_, rfl⟩
  obtain ⟨r, hr⟩ : ∃ r, r = u % a := ⟨_, rfl⟩
  rw [← hq, ← hr] at h1 ⊢
  rw [← hr] at h2
  refine ⟨h1, ?_, by omega⟩
  apply Nat.le_of_lt_succ
  rw [Nat.div_lt_iff_lt_mul (by omega)]
  have h4 : u < q.succ * a := by rw [Nat.succ_mul]; omega
  have h5 : q.succ * (a * 4294967296 + c) = q.succ * a * 4294967296 + q.succ * c := by rw [Nat.mul_add, Nat.mul_assoc]
  rw [h5]
  omega
theorem Guess.q_le (h : Guess a c u d q rh) (ha1 : 2147483648 ≤ a) (hc : c < 4294967296) (hu : u < a * 4294967296 + c) : q ≤ 4294967298 := by
  have h1 := h.eq
  apply Classical.byContradiction
  intro hn
  have h2 : 4294967299 * a ≤ q * a := Nat.mul_le_mul_right _ (by omega)
  omega
/-- It was too great: one less. -/
theorem Guess.down (h : Guess a c u d q rh) (hd : d < 4294967296) (hu : u < a * 4294967296 + c) (ht : 4294967296 ≤ q ∨ 4294967296 * rh + d < q * c) : 1 ≤ q ∧ (u * 4294967296 + d) / (a * 4294967296 + c) ≤ q - 1 ∧ (q - 1) * a + (rh + a) = u := by
  have h1 := guess_high hd hu h.eq ht
  have h2 := h.eq
  obtain ⟨T, hT⟩ : ∃ T, T = (u * 4294967296 + d) / (a * 4294967296 + c) := ⟨_, rfl⟩
  rw [← hT] at h1 ⊢
  refine ⟨by omega, by omega, ?_⟩
  have h3 : q * a = (q - 1) * a + a := by
    have : q = (q - 1) + 1 := by omega
    conv => lhs; rw [this, Nat.add_mul, Nat.one_mul]
  omega
theorem Guess.fin (h : Guess a c u d q rh) (ha : 0 < a) (ht : q * c ≤ 4294967296 * rh + d) : q = (u * 4294967296 + d) / (a * 4294967296 + c) :=
  Nat.le_antisymm (guess_low h.eq (by omega) ht) h.ge
end
/-- What is left: in words that wrap. -/
theorem left_over {u d a c q r : Nat} (hY : 0 < a * 4294967296 + c) (hY2 : a * 4294967296 + c < 18446744073709551616) (hq : q = (u * 4294967296 + d) / (a * 4294967296 + c)) (hr : r = (u * 4294967296 + d) % (a * 4294967296 + c)) :
    IntKind.u64.wrap (IntKind.u64.wrap (IntKind.u64.wrap ((u : Int) * 4294967296) + (d : Int)) - IntKind.u64.wrap ((q : Int) * ((a : Int) * 4294967296 + (c : Int)))) = (r : Int) := by
  obtain ⟨Y, hYe⟩ : ∃ Y, Y = a * 4294967296 + c := ⟨_, rfl⟩
  rw [show (a : Int) * 4294967296 + (c : Int) = (Y : Int) by omega]
  rw [← hYe] at hY hY2 hq hr
  have h1 := Nat.div_add_mod (u * 4294967296 + d) Y
  have h2 := Nat.mod_lt (u * 4294967296 + d) hY
  rw [← hq] at h1
  rw [← hr] at h1 h2
  obtain ⟨p, hp⟩ : ∃ p, p = Y * q := ⟨_, rfl⟩
  have e : (q : Int) * (Y : Int) = (p : Int) := by rw [hp, Nat.mul_comm]; push_cast; rfl
  rw [← hp] at h1
  rw [e]
  simp only [IntKind.wrap_u64]
  omega
theorem sub_of_add {m r u : Nat} (h : m + r = u) : (u : Int) - (m : Int) = (r : Int) := by omega
end Go.Proofs.YtgjaopfjffncbaaGreat
/- A part of a number: package reckon, and the reference of layer 1. -/
namespace Go.Proofs.YtgjaopfjffncbaaGreat
open Go.ChangeShapes Go.WideShapes Go.ChangeAt Go.RowKit
set_option linter.unusedVariables false
set_option maxRecDepth 100000

/-- a * b / c, made greater to a whole number. -/
def upV (a b c : Nat) : Nat := a * b / c + if a * b % c = 0 then 0 else 1
theorem part_le {a b c : Nat} (hac : a ≤ c) (hc : 1 ≤ c) : a * b / c ≤ b := by
  have h1 : a * b ≤ b * c := by rw [Nat.mul_comm b]; exact Nat.mul_le_mul_right _ hac
  exact (Nat.div_le_iff_le_mul_add_pred (by omega)).2 (by rw [Nat.mul_comm c]; omega)
theorem part_lt {a b c : Nat} (hac : a ≤ c) (hc : 1 ≤ c) (h : a * b % c ≠ 0) : a * b / c < b := by
  refine Nat.lt_of_le_of_ne (part_le hac hc) fun e => h ?_
  have h1 : a * b ≤ c * b := Nat.mul_le_mul_right _ hac
  have h2 := Nat.div_mul_le_self (a * b) c
  rw [e, Nat.mul_comm b] at h2
  rw [Nat.le_antisymm h1 h2]
  exact Nat.mul_mod_right _ _
theorem up_le {a b c : Nat} (hac : a ≤ c) (hc : 1 ≤ c) : upV a b c ≤ b := by
  unfold upV
  split
  · exact part_le hac hc
  · rename_i h; exact part_lt hac hc h

end Go.Proofs.YtgjaopfjffncbaaGreat
/- Package reach: Between. -/
namespace Go.Proofs.YtgjaopfjffncbaaGreat
open Go.ChangeShapes Go.WideShapes Go.ChangeAt Go.RowKit
set_option linter.unusedVariables false
set_option maxRecDepth 100000

/-- What those nodes weigh that lie in a range, and what those weigh that meet it. -/
def inLow (a b lo hi : Int) : Bool := decide (a ≤ lo) && decide (hi ≤ b)
def inHigh (a b lo hi : Int) : Bool := decide (lo ≤ b) && decide (a ≤ hi)
def betwLow (l : Int) (r : List Nd) (a b : Int) : Int := weighR l (inLow a b) r
def betwHigh (l : Int) (r : List Nd) (a b : Int) : Int := weighR l (inHigh a b) r
theorem weighR_one (l : Int) (f : Int → Int → Bool) (x : Nd) : weighR l f [x] = if f (endsOf l x.1).1 (endsOf l x.1).2.1 = true then x.2 else 0 := by simp only [weighR]; simp
theorem weighR_take {l : Int} {f : Int → Int → Bool} {r : List Nd} {q : Nat} (h : q < r.length) : weighR l f (r.take (q + 1)) = weighR l f (r.take q) + if f (endsOf l r[q].1).1 (endsOf l r[q].1).2.1 = true then r[q].2 else 0 := by
  rw [List.take_succ_eq_append_getElem h, weighR_append, weighR_one]

theorem le_or_dec (a b : Int) : a ≤ b ∨ decide (a ≤ b) = false := by
  by_cases h : a ≤ b
  · exact .inl h
  · exact .inr (decide_eq_false h)
end Go.Proofs.YtgjaopfjffncbaaGreat
/- What weighs on nodes: plain laws. -/
namespace Go.Proofs.YtgjaopfjffncbaaGreat
open Go.ChangeShapes Go.WideShapes Go.ChangeAt Go.RowKit
set_option linter.unusedVariables false

/-- Runs of values: a value of one of them. -/
def covR (L : List (Int × Int)) (v : Int) : Prop := ∃ r ∈ L, r.1 ≤ v ∧ v ≤ r.2
/-- They rise, apart and not side by side. -/
structure Apart (L : List (Int × Int)) : Prop where
  sep : L.Pairwise fun a b => a.2 + 1 < b.1
  run : ∀ r ∈ L, r.1 ≤ r.2
/-- How many values of a run lie in another one. -/
def ov (r : Int × Int) (lo hi : Int) : Int := max 0 (min r.2 hi - max r.1 lo + 1)
def cntR (lo hi : Int) : List (Int × Int) → Int
  | [] => 0
  | r :: L => ov r lo hi + cntR lo hi L
theorem cntR_append (lo hi : Int) (a b : List (Int × Int)) : cntR lo hi (a ++ b) = cntR lo hi a + cntR lo hi b := by
  induction a with
  | nil => simp [cntR]
  | cons x a ih => simp only [List.cons_append, cntR, ih]; omega
theorem cntR_cut {L : List (Int × Int)} {lo hi m : Int} (h : ∀ r ∈ L, m ≤ r.1) : cntR lo hi L = cntR (max lo m) hi L := by
  induction L with
  | nil => rfl
  | cons r L ih =>
    simp only [cntR]
    rw [ih fun s hs => h s (by simp [hs])]
    have := h r (by simp)
    unfold ov; omega
theorem cntR_none {L : List (Int × Int)} {lo hi : Int} (h : ∀ r ∈ L, hi < r.1) : cntR lo hi L = 0 := by
  induction L with
  | nil => rfl
  | cons r L ih =>
    simp only [cntR]
    rw [ih fun s hs => h s (by simp [hs])]
    have := h r (by simp)
    unfold ov; omega
theorem covR_cons {r : Int × Int} {L : List (Int × Int)} {v : Int} : covR (r :: L) v ↔ (r.1 ≤ v ∧ v ≤ r.2) ∨ covR L v := by
  constructor
  · rintro ⟨s, hs, h⟩
    rcases List.mem_cons.1 hs with rfl | hs
    · exact .inl h
    · exact .inr ⟨s, hs, h⟩
  · rintro (h | ⟨s, hs, h⟩)
    · exact ⟨r, by simp, h⟩
    · exact ⟨s, by simp [hs], h⟩
theorem ov_facts (p q lo hi : Int) : ∃ a b, (a = q ∨ a = hi) ∧ a ≤ q ∧ a ≤ hi ∧ (b = p ∨ b = lo) ∧ p ≤ b ∧ lo ≤ b ∧ 0 ≤ ov (p, q) lo hi ∧ ((ov (p, q) lo hi = 0 ∧ a - b + 1 ≤ 0) ∨ (ov (p, q) lo hi = a - b + 1 ∧ 0 ≤ a - b + 1)) := by
  refine ⟨min q hi, max p lo, ?_, Int.min_le_left _ _, Int.min_le_right _ _, ?_, Int.le_max_left _ _, Int.le_max_right _ _, Int.le_max_left _ _, ?_⟩
  · omega
  · omega
  · unfold ov
    simp only
    generalize min q hi - max p lo + 1 = z
    omega
theorem cnt_spec : ∀ (L : List (Int × Int)) (lo hi : Int), Apart L → lo ≤ hi + 1 → 0 ≤ cntR lo hi L ∧ cntR lo hi L ≤ hi - lo + 1 ∧ (cntR lo hi L = hi - lo + 1 ↔ ∀ v, lo ≤ v → v ≤ hi → covR L v) ∧ (0 < cntR lo hi L ↔ ∃ v, lo ≤ v ∧ v ≤ hi ∧ covR L v) := by
  intro L
  induction L with
  | nil =>
    intro lo hi _ h
    simp only [cntR]
    refine ⟨Int.le_refl _, by omega, ⟨fun h1 v h2 h3 => by omega, fun h1 => ?_⟩, ⟨fun h1 => by omega, ?_⟩⟩
    · apply Classical.byContradiction
      intro hn
      obtain ⟨s, hs, _⟩ := h1 lo (Int.le_refl _) (by omega)
      simp at hs
    · rintro ⟨v, _, _, s, hs, _⟩
      simp at hs
  | cons r L ih =>
    intro lo hi hA h
    obtain ⟨p, q⟩ := r
    have hrun : p ≤ q := hA.run (p, q) (by simp)
    have hsep : (∀ s ∈ L, q + 1 < s.1) ∧ L.Pairwise (fun a b => a.2 + 1 < b.1) := List.pairwise_cons.1 hA.sep
    have hA' : Apart L := ⟨hsep.2, fun s hs => hA.run s (by simp [hs])⟩
    have hrs : ∀ v, covR L v → q + 1 < v := by
      rintro v ⟨s, hs, h1, h2⟩
      have := hsep.1 s hs
      omega
    obtain ⟨a, b, u1, u2, u3, u4, u5, u6, u7, u8⟩ := ov_facts p q lo hi
    simp only [cntR]
    by_cases hm : q ≤ hi
    · have hc := cntR_cut (L := L) (lo := lo) (hi := hi) (m := q + 1) (fun s hs => by have := hsep.1 s hs; omega)
      have m1 : lo ≤ max lo (q + 1) ∧ q + 1 ≤ max lo (q + 1) ∧ (max lo (q + 1) = lo ∨ max lo (q + 1) = q + 1) := by omega
      obtain ⟨i1, i2, i3, i4⟩ := ih (max lo (q + 1)) hi hA' (by omega)
      rw [hc]
      clear hc
      generalize max lo (q + 1) = m at m1 i1 i2 i3 i4
      generalize cntR m hi L = c at i1 i2 i3 i4
      generalize ov (p, q) lo hi = o at u7 u8
      refine ⟨by (clear i3 i4; omega), by (clear i3 i4; omega), ⟨fun h1 v h2 h3 => ?_, fun h1 => ?_⟩, ⟨fun h1 => ?_, ?_⟩⟩
      · rw [covR_cons]
        by_cases hv : v ≤ q
        · left; (clear i3 i4; omega)
        · right
          exact i3.1 (by (clear i3 i4; omega)) v (by (clear i3 i4; omega)) h3
      · have a1 : c = hi - m + 1 := i3.2 fun v h2 h3 => by
          rcases covR_cons.1 (h1 v (by (clear i3 i4; omega)) h3) with h4 | h4
          · (clear i3 i4; omega)
          · exact h4
        by_cases hl : lo ≤ q
        · rcases covR_cons.1 (h1 lo (Int.le_refl _) (by (clear i3 i4; omega))) with h4 | h4
          · (clear i3 i4; omega)
          · have := hrs _ h4; (clear i3 i4; omega)
        · (clear i3 i4; omega)
      · by_cases hc0 : 0 < c
        · obtain ⟨v, h2, h3, h4⟩ := i4.1 hc0
          exact ⟨v, by (clear i3 i4; omega), h3, covR_cons.2 (.inr h4)⟩
        · exact ⟨b, by (clear i3 i4; omega), by (clear i3 i4; omega), covR_cons.2 (.inl (by (clear i3 i4; omega)))⟩
      · rintro ⟨v, h2, h3, h4⟩
        rcases covR_cons.1 h4 with h5 | h5
        · (clear i3 i4; omega)
        · have := i4.2 ⟨v, by have := hrs _ h5; (clear i3 i4; omega), h3, h5⟩
          (clear i3 i4; omega)
    · have hc : cntR lo hi L = 0 := cntR_none fun s hs => by have := hsep.1 s hs; omega
      rw [hc]
      clear hc
      generalize ov (p, q) lo hi = o at u7 u8
      refine ⟨by omega, by omega, ⟨fun h1 v h2 h3 => covR_cons.2 (.inl (by omega)), fun h1 => ?_⟩, ⟨fun h1 => ⟨b, by omega, by omega, covR_cons.2 (.inl (by omega))⟩, ?_⟩⟩
      · by_cases hl : lo ≤ hi
        · rcases covR_cons.1 (h1 lo (Int.le_refl _) hl) with h4 | h4
          · omega
          · have := hrs _ h4; omega
        · omega
      · rintro ⟨v, h2, h3, h4⟩
        rcases covR_cons.1 h4 with h5 | h5
        · omega
        · have := hrs _ h5; omega
/-- Runs with one more. -/
structure WithS where
  ahead : List (Int × Int)
  x : Int × Int
  behind : List (Int × Int)
def withStep (s : WithS) (r : Int × Int) : WithS :=
  if r.2 + 1 < s.x.1 then { s with ahead := s.ahead ++ [r] }
  else if s.x.2 + 1 < r.1 then { s with behind := s.behind ++ [r] }
  else { s with x := (if r.1 < s.x.1 then r.1 else s.x.1, if s.x.2 < r.2 then r.2 else s.x.2) }
def withF (L : List (Int × Int)) (x : Int × Int) : WithS := L.foldl withStep ⟨[], x, []⟩
def withL (L : List (Int × Int)) (x : Int × Int) : List (Int × Int) := (withF L x).ahead ++ [(withF L x).x] ++ (withF L x).behind
structure WInv (pre : List (Int × Int)) (x : Int × Int) (s : WithS) : Prop where
  run : s.x.1 ≤ s.x.2
  a : ∀ r ∈ s.ahead, r ∈ pre ∧ r.2 + 1 < s.x.1
  b : ∀ r ∈ s.behind, r ∈ pre ∧ s.x.2 + 1 < r.1
  asep : s.ahead.Pairwise fun a b => a.2 + 1 < b.1
  bsep : s.behind.Pairwise fun a b => a.2 + 1 < b.1
  cov : ∀ v, (covR s.ahead v ∨ (s.x.1 ≤ v ∧ v ≤ s.x.2) ∨ covR s.behind v) ↔ (covR pre v ∨ (x.1 ≤ v ∧ v ≤ x.2))
theorem covR_append {a b : List (Int × Int)} {v : Int} : covR (a ++ b) v ↔ covR a v ∨ covR b v := by
  constructor
  · rintro ⟨t, ht, g⟩
    rcases List.mem_append.1 ht with ht | ht
    · exact .inl ⟨t, ht, g⟩
    · exact .inr ⟨t, ht, g⟩
  · rintro (⟨t, ht, g⟩ | ⟨t, ht, g⟩)
    · exact ⟨t, List.mem_append_left _ ht, g⟩
    · exact ⟨t, List.mem_append_right _ ht, g⟩
theorem covR_one {r : Int × Int} {v : Int} : covR [r] v ↔ r.1 ≤ v ∧ v ≤ r.2 :=
  ⟨by rintro ⟨t, ht, g⟩; rw [List.mem_singleton.1 ht] at g; exact g, fun g => ⟨r, by simp, g⟩⟩
theorem winv_step {pre : List (Int × Int)} {x r : Int × Int} {s : WithS} (h : WInv pre x s) (hr : r.1 ≤ r.2) (hp : ∀ q ∈ pre, q.2 + 1 < r.1) (hpr : ∀ q ∈ pre, q.1 ≤ q.2) : WInv (pre ++ [r]) x (withStep s r) := by
  have hrun := h.run
  have hb : ∀ q ∈ s.behind, s.x.2 + 1 < r.1 := fun q hq => by
    have h1 := (h.b q hq).2
    have h2 := hp q (h.b q hq).1
    have h3 := hpr q (h.b q hq).1
    omega
  unfold withStep
  by_cases c1 : r.2 + 1 < s.x.1
  · rw [if_pos c1]
    refine ⟨h.run, fun q hq => ?_, fun q hq => ⟨List.mem_append_left _ (h.b q hq).1, (h.b q hq).2⟩, ?_, h.bsep, fun v => ?_⟩
    · rcases List.mem_append.1 hq with hq | hq
      · exact ⟨List.mem_append_left _ (h.a q hq).1, (h.a q hq).2⟩
      · rw [List.mem_singleton.1 hq]; exact ⟨by simp, c1⟩
    · refine List.pairwise_append.2 ⟨h.asep, List.pairwise_singleton _ _, fun a ha b hb => ?_⟩
      rw [List.mem_singleton.1 hb]; exact hp a (h.a a ha).1
    · have := h.cov v
      simp only [covR_append, covR_one] at this ⊢
      constructor
      · rintro ((k | k) | k | k)
        · rcases this.1 (.inl k) with k | k <;> simp [k]
        · simp [k]
        · rcases this.1 (.inr (.inl k)) with k | k <;> simp [k]
        · rcases this.1 (.inr (.inr k)) with k | k <;> simp [k]
      · rintro ((k | k) | k)
        · rcases this.2 (.inl k) with k | k | k <;> simp [k]
        · simp [k]
        · rcases this.2 (.inr k) with k | k | k <;> simp [k]
  · rw [if_neg c1]
    by_cases c2 : s.x.2 + 1 < r.1
    · rw [if_pos c2]
      refine ⟨h.run, fun q hq => ⟨List.mem_append_left _ (h.a q hq).1, (h.a q hq).2⟩, fun q hq => ?_, h.asep, ?_, fun v => ?_⟩
      · rcases List.mem_append.1 hq with hq | hq
        · exact ⟨List.mem_append_left _ (h.b q hq).1, (h.b q hq).2⟩
        · rw [List.mem_singleton.1 hq]; exact ⟨by simp, c2⟩
      · refine List.pairwise_append.2 ⟨h.bsep, List.pairwise_singleton _ _, fun a ha b hb => ?_⟩
        rw [List.mem_singleton.1 hb]; exact hp a (h.b a ha).1
      · have := h.cov v
        simp only [covR_append, covR_one] at this ⊢
        constructor
        · rintro (k | k | k | k)
          · rcases this.1 (.inl k) with k | k <;> simp [k]
          · rcases this.1 (.inr (.inl k)) with k | k <;> simp [k]
          · rcases this.1 (.inr (.inr k)) with k | k <;> simp [k]
          · simp [k]
        · rintro ((k | k) | k)
          · rcases this.2 (.inl k) with k | k | k <;> simp [k]
          · simp [k]
          · rcases this.2 (.inr k) with k | k | k <;> simp [k]
    · rw [if_neg c2]
      have hb0 : s.behind = [] := by
        cases hbs : s.behind with
        | nil => rfl
        | cons q qs => exact absurd (hb q (by rw [hbs]; simp)) c2
      have m1 : (if r.1 < s.x.1 then r.1 else s.x.1) = min r.1 s.x.1 := by split <;> omega
      have m2 : (if s.x.2 < r.2 then r.2 else s.x.2) = max r.2 s.x.2 := by split <;> omega
      rw [m1, m2]
      refine ⟨by simp only; omega, fun q hq => ⟨List.mem_append_left _ (h.a q hq).1, ?_⟩, fun q hq => ?_, h.asep, h.bsep, fun v => ?_⟩
      · have := (h.a q hq).2
        have := hp q (h.a q hq).1
        simp only; omega
      · simp only [hb0] at hq; simp at hq
      · have := h.cov v
        simp only [covR_append, covR_one, hb0] at this ⊢
        have hn : ¬ covR [] v := by rintro ⟨t, ht, _⟩; simp at ht
        constructor
        · rintro (k | k | k)
          · rcases this.1 (.inl k) with k | k <;> simp [k]
          · by_cases k2 : r.1 ≤ v ∧ v ≤ r.2
            · simp [k2]
            · rcases this.1 (.inr (.inl (by omega))) with k | k <;> simp [k]
          · exact absurd k hn
        · rintro ((k | k) | k)
          · rcases this.2 (.inl k) with k | k | k
            · simp [k]
            · exact .inr (.inl (by omega))
            · exact absurd k hn
          · exact .inr (.inl (by omega))
          · rcases this.2 (.inr k) with k | k | k
            · simp [k]
            · exact .inr (.inl (by omega))
            · exact absurd k hn
theorem withF_inv {L : List (Int × Int)} (hA : Apart L) {x : Int × Int} (hx : x.1 ≤ x.2) : WInv L x (withF L x) := by
  suffices h : ∀ k, k ≤ L.length → WInv (L.take k) x ((L.take k).foldl withStep ⟨[], x, []⟩) by
    have := h L.length (Nat.le_refl _)
    rwa [List.take_length] at this
  intro k
  induction k with
  | zero => exact fun _ => ⟨hx, by simp, by simp, by simp, by simp, fun v => by simp [covR]⟩
  | succ k ih =>
    intro hk
    have hlt : k < L.length := by omega
    rw [List.take_succ_eq_append_getElem hlt, List.foldl_append]
    refine winv_step (ih (by omega)) (hA.run _ (List.getElem_mem hlt)) (fun q hq => ?_) (fun q hq => hA.run q (List.mem_of_mem_take hq))
    obtain ⟨i, hi, rfl⟩ := List.getElem_of_mem hq
    simp only [List.length_take] at hi
    rw [List.getElem_take]
    exact List.pairwise_iff_getElem.1 hA.sep i k (by omega) hlt (by omega)
theorem withL_apart {L : List (Int × Int)} (hA : Apart L) {x : Int × Int} (hx : x.1 ≤ x.2) : Apart (withL L x) ∧ ∀ v, covR (withL L x) v ↔ covR L v ∨ (x.1 ≤ v ∧ v ≤ x.2) := by
  have W := withF_inv hA hx
  unfold withL
  generalize withF L x = s at W
  refine ⟨⟨?_, ?_⟩, fun v => ?_⟩
  · rw [List.append_assoc]
    refine List.pairwise_append.2 ⟨W.asep, List.pairwise_cons.2 ⟨fun b hb => (W.b b hb).2, W.bsep⟩, fun a ha b hb => ?_⟩
    have h1 := (W.a a ha).2
    have h2 := W.run
    rcases List.mem_cons.1 hb with rfl | hb
    · exact h1
    · have := (W.b b hb).2; omega
  · intro r hr
    rcases List.mem_append.1 hr with hr | hr
    · rcases List.mem_append.1 hr with hr | hr
      · exact hA.run r (W.a r hr).1
      · rw [List.mem_singleton.1 hr]; exact W.run
    · exact hA.run r (W.b r hr).1
  · rw [covR_append, covR_append, covR_one, ← W.cov, or_assoc]
/-- The runs that nodes hold. -/
def runsF (l : Nat) (ids : List Int) : List (Int × Int) := ids.foldl (fun o x => withL o (loN l x, hiN l x)) []
theorem runsF_snoc (l : Nat) (ids : List Int) (x : Int) : runsF l (ids ++ [x]) = withL (runsF l ids) (loN l x, hiN l x) := by
  unfold runsF; rw [List.foldl_append]; rfl
theorem runsF_apart {l : Nat} {ids : List Int} (hn : ∀ x ∈ ids, isNode l x = true) : Apart (runsF l ids) ∧ ∀ v, covR (runsF l ids) v ↔ held l ids v := by
  suffices h : ∀ k, k ≤ ids.length → Apart (runsF l (ids.take k)) ∧ ∀ v, covR (runsF l (ids.take k)) v ↔ held l (ids.take k) v by
    have := h ids.length (Nat.le_refl _)
    rwa [List.take_length] at this
  intro k
  induction k with
  | zero => exact fun _ => ⟨⟨by simp [runsF], by simp [runsF]⟩, fun v => by simp [runsF, covR, held]⟩
  | succ k ih =>
    intro hk
    have hlt : k < ids.length := by omega
    obtain ⟨i1, i2⟩ := ih (by omega)
    rw [List.take_succ_eq_append_getElem hlt, runsF_snoc]
    have := withL_apart i1 (x := (loN l ids[k], hiN l ids[k])) (lo_hi (hn _ (List.getElem_mem hlt)))
    refine ⟨this.1, fun v => ?_⟩
    rw [this.2, i2, held_append, held_one]
/-- Tiles one behind the other, from a value to another one. -/
def chainT (l : Nat) (b : Int) : Int → List Int → Prop
  | a, [] => a = b + 1
  | a, t :: L => isNode l t = true ∧ loN l t = a ∧ hiN l t ≤ b ∧ chainT l b (hiN l t + 1) L
def ends2 (l : Nat) (t : Int) : Int × Int := (loN l t, hiN l t)
theorem chain_cnt {l : Nat} {b : Int} (lo hi : Int) : ∀ (L : List Int) (a : Int), a ≤ b + 1 → chainT l b a L → cntR lo hi (L.map (ends2 l)) = ov (a, b) lo hi := by
  intro L
  induction L with
  | nil =>
    intro a ha h
    simp only [chainT] at h
    simp only [List.map_nil, cntR, ov]; omega
  | cons t L ih =>
    intro a ha h
    obtain ⟨h1, h2, h3, h4⟩ := h
    have hw := lo_hi h1
    simp only [List.map_cons, cntR]
    rw [ih _ (by omega) h4]
    unfold ov ends2
    simp only
    omega
/-- How many values of a run nodes hold. -/
def heldC (l : Nat) (ids : List Int) (x : Int) : Int := cntR (loN l x) (hiN l x) (runsF l ids)
theorem heldC_spec {l : Nat} {ids : List Int} (hn : ∀ y ∈ ids, isNode l y = true) {x : Int} (hx : isNode l x = true) : 0 ≤ heldC l ids x ∧ heldC l ids x ≤ hiN l x - loN l x + 1 ∧ (heldC l ids x = hiN l x - loN l x + 1 ↔ ∀ v, loN l x ≤ v → v ≤ hiN l x → held l ids v) ∧ (0 < heldC l ids x ↔ ∃ v, loN l x ≤ v ∧ v ≤ hiN l x ∧ held l ids v) := by
  obtain ⟨h1, h2⟩ := runsF_apart hn
  have := cnt_spec (runsF l ids) (loN l x) (hiN l x) h1 (by have := lo_hi hx; omega)
  unfold heldC
  simpa only [h2] using this
/-- Is all that a node holds held by tiles, is some of it? -/
def allT (T : List Int) (x : Int) : Bool := T.any fun t => abv t x
def someT (T : List Int) (x : Int) : Bool := T.any fun t => abv t x || abv x t
theorem tiles_all {l : Nat} {C : Int → Prop} {T : List Int} (h : Tiles l C T) {x : Int} (hx : isNode l x = true) : (allT T x = true ↔ ∀ v, loN l x ≤ v → v ≤ hiN l x → C v) ∧ (someT T x = true ↔ ∃ v, loN l x ≤ v ∧ v ≤ hiN l x ∧ C v) := by
  have hw := lo_hi hx
  constructor
  · constructor
    · intro ha v h1 h2
      obtain ⟨t, ht, g⟩ := List.any_eq_true.1 ha
      have := (abv_iff (h.node t ht) hx).1 g
      exact (h.cov v).1 ⟨t, ht, by omega, by omega⟩
    · intro hv
      obtain ⟨t, ht, g⟩ := h.top x hx hv
      exact List.any_eq_true.2 ⟨t, ht, g⟩
  · constructor
    · intro ha
      obtain ⟨t, ht, g⟩ := List.any_eq_true.1 ha
      have hwt := lo_hi (h.node t ht)
      rcases Bool.or_eq_true _ _ ▸ g with g | g
      · have := (abv_iff (h.node t ht) hx).1 g
        exact ⟨loN l x, Int.le_refl _, hw, (h.cov _).1 ⟨t, ht, by omega, by omega⟩⟩
      · have := (abv_iff hx (h.node t ht)).1 g
        exact ⟨loN l t, by omega, by omega, (h.cov _).1 ⟨t, ht, Int.le_refl _, hwt⟩⟩
    · rintro ⟨v, h1, h2, hv⟩
      obtain ⟨t, ht, g1, g2⟩ := (h.cov v).2 hv
      refine List.any_eq_true.2 ⟨t, ht, ?_⟩
      rcases lam (h.node t ht) hx (by omega) (by omega) with g | g <;> simp [g]
/-- What is on tiles. -/
def onT (T : List Int) (r : List Nd) : Int × Int := (wIds (allT T) r, wIds (someT T) r)
theorem wIds_congr {p q : Int → Bool} {r : List Nd} (h : ∀ x ∈ r, p x.1 = q x.1) : wIds p r = wIds q r := by
  induction r with
  | nil => rfl
  | cons x r ih => simp only [wIds, h x (by simp), ih fun y hy => h y (by simp [hy])]
theorem onT_congr {l : Nat} {C D : Int → Prop} {T U : List Int} {r : List Nd} (h : Tiles l C T) (k : Tiles l D U) (hn : ∀ x ∈ r, isNode l x.1 = true) (hCD : ∀ v, 0 ≤ v → v ≤ 2 ^ l - 1 → (C v ↔ D v)) : onT T r = onT U r := by
  have e : ∀ x, isNode l x = true → (∀ v, loN l x ≤ v → v ≤ hiN l x → (C v ↔ D v)) := fun x hx v h1 h2 => hCD v (by have := lo_0 hx; omega) (by have := hi_top hx; omega)
  unfold onT
  refine Prod.ext (wIds_congr fun x hx => ?_) (wIds_congr fun x hx => ?_)
  · rw [Bool.eq_iff_iff, (tiles_all h (hn x hx)).1, (tiles_all k (hn x hx)).1]
    exact ⟨fun g v h1 h2 => (e _ (hn x hx) v h1 h2).1 (g v h1 h2), fun g v h1 h2 => (e _ (hn x hx) v h1 h2).2 (g v h1 h2)⟩
  · rw [Bool.eq_iff_iff, (tiles_all h (hn x hx)).2, (tiles_all k (hn x hx)).2]
    exact ⟨fun ⟨v, h1, h2, g⟩ => ⟨v, h1, h2, (e _ (hn x hx) v h1 h2).1 g⟩, fun ⟨v, h1, h2, g⟩ => ⟨v, h1, h2, (e _ (hn x hx) v h1 h2).2 g⟩⟩
/-- The document's: node by node, by how many values are held. -/
def refOn (l : Nat) (ids : List Int) (off : Bool) (r : List Nd) : Int × Int :=
  (wIds (fun x => decide ((if off = true then hiN l x - loN l x + 1 - heldC l ids x else heldC l ids x) = hiN l x - loN l x + 1)) r, wIds (fun x => decide (0 < (if off = true then hiN l x - loN l x + 1 - heldC l ids x else heldC l ids x))) r)
theorem ref_on {l : Nat} {ids T : List Int} {r : List Nd} (hi : ∀ y ∈ ids, isNode l y = true) (h : Tiles l (held l ids) T) (hn : ∀ x ∈ r, isNode l x.1 = true) : onT T r = refOn l ids false r := by
  unfold onT refOn
  refine Prod.ext (wIds_congr fun x hx => ?_) (wIds_congr fun x hx => ?_)
  · rw [Bool.eq_iff_iff, (tiles_all h (hn x hx)).1, decide_eq_true_eq, if_neg (by simp)]
    exact (heldC_spec hi (hn x hx)).2.2.1.symm
  · rw [Bool.eq_iff_iff, (tiles_all h (hn x hx)).2, decide_eq_true_eq, if_neg (by simp)]
    exact (heldC_spec hi (hn x hx)).2.2.2.symm
theorem ref_off {l : Nat} {ids T : List Int} {r : List Nd} (hi : ∀ y ∈ ids, isNode l y = true) (h : Tiles l (fun v => (0 ≤ v ∧ v ≤ 2 ^ l - 1) ∧ ¬ held l ids v) T) (hn : ∀ x ∈ r, isNode l x.1 = true) : onT T r = refOn l ids true r := by
  unfold onT refOn
  have e : ∀ x, isNode l x = true → ∀ v, loN l x ≤ v → v ≤ hiN l x → 0 ≤ v ∧ v ≤ 2 ^ l - 1 := fun x hx v h1 h2 => ⟨by have := lo_0 hx; omega, by have := hi_top hx; omega⟩
  refine Prod.ext (wIds_congr fun x hx => ?_) (wIds_congr fun x hx => ?_)
  · rw [Bool.eq_iff_iff, (tiles_all h (hn x hx)).1, decide_eq_true_eq, if_pos rfl]
    obtain ⟨s1, s2, s3, s4⟩ := heldC_spec hi (hn x hx)
    constructor
    · intro g
      have : ¬ 0 < heldC l ids x.1 := fun hc => by
        obtain ⟨v, h1, h2, h3⟩ := s4.1 hc
        exact (g v h1 h2).2 h3
      omega
    · intro g v h1 h2
      refine ⟨e _ (hn x hx) v h1 h2, fun hv => ?_⟩
      have := s4.2 ⟨v, h1, h2, hv⟩
      omega
  · rw [Bool.eq_iff_iff, (tiles_all h (hn x hx)).2, decide_eq_true_eq, if_pos rfl]
    obtain ⟨s1, s2, s3, s4⟩ := heldC_spec hi (hn x hx)
    constructor
    · rintro ⟨v, h1, h2, _, h3⟩
      have : heldC l ids x.1 ≠ hiN l x.1 - loN l x.1 + 1 := fun hc => h3 (s3.1 hc v h1 h2)
      omega
    · intro g
      apply Classical.byContradiction
      intro hc
      have := s3.2 fun v h1 h2 => Classical.byContradiction fun hv => hc ⟨v, h1, h2, e _ (hn x hx) v h1 h2, hv⟩
      omega
/-- What is on at least, and off at most, are all. -/
theorem on_off {l : Nat} {C : Int → Prop} {T U : List Int} {r : List Nd} (h : Tiles l C T) (k : Tiles l (fun v => (0 ≤ v ∧ v ≤ 2 ^ l - 1) ∧ ¬ C v) U) (hn : ∀ x ∈ r, isNode l x.1 = true) : (onT T r).1 + (onT U r).2 = sumR r ∧ (onT T r).2 + (onT U r).1 = sumR r := by
  have e : ∀ x, isNode l x = true → ∀ v, loN l x ≤ v → v ≤ hiN l x → 0 ≤ v ∧ v ≤ 2 ^ l - 1 := fun x hx v h1 h2 => ⟨by have := lo_0 hx; omega, by have := hi_top hx; omega⟩
  have a1 : ∀ x, isNode l x = true → someT U x = !allT T x := by
    intro x hx
    rw [Bool.eq_iff_iff, (tiles_all k hx).2, Bool.not_eq_true', ← Bool.not_eq_true, (tiles_all h hx).1]
    constructor
    · rintro ⟨v, h1, h2, _, h3⟩ g
      exact h3 (g v h1 h2)
    · intro g
      apply Classical.byContradiction
      intro hc
      exact g fun v h1 h2 => Classical.byContradiction fun hv => hc ⟨v, h1, h2, e x hx v h1 h2, hv⟩
  have a2 : ∀ x, isNode l x = true → allT U x = !someT T x := by
    intro x hx
    rw [Bool.eq_iff_iff, (tiles_all k hx).1, Bool.not_eq_true', ← Bool.not_eq_true, (tiles_all h hx).2]
    constructor
    · rintro g ⟨v, h1, h2, h3⟩
      exact (g v h1 h2).2 h3
    · intro g v h1 h2
      exact ⟨e x hx v h1 h2, fun hv => g ⟨v, h1, h2, hv⟩⟩
  unfold onT
  simp only
  clear h k
  induction r with
  | nil => simp [wIds, sumR]
  | cons x r ih =>
    have := ih fun y hy => hn y (by simp [hy])
    have b1 := a1 _ (hn x (by simp))
    have b2 := a2 _ (hn x (by simp))
    simp only [wIds, sumR, b1, b2]
    cases allT T x.1 <;> cases someT T x.1 <;> simp <;> omega
/-- On the tiles of a run it is what is between its ends. -/
theorem on_run {l : Nat} {a b : Int} (hab : a ≤ b) {T : List Int} {r : List Nd} (h : Tiles l (fun v => a ≤ v ∧ v ≤ b) T) (hn : ∀ x ∈ r, isNode l x.1 = true) : onT T r = (betwLow l r a b, betwHigh l r a b) := by
  unfold onT betwLow betwHigh
  rw [weighR_ids, weighR_ids]
  refine Prod.ext (wIds_congr fun x hx => ?_) (wIds_congr fun x hx => ?_)
  · have hw := lo_hi (hn x hx)
    rw [Bool.eq_iff_iff, (tiles_all h (hn x hx)).1]
    simp only [inLow, Bool.and_eq_true, decide_eq_true_eq]
    constructor
    · intro g
      exact ⟨(g _ (Int.le_refl _) hw).1, (g _ hw (Int.le_refl _)).2⟩
    · rintro ⟨g1, g2⟩ v h1 h2
      unfold loN at h1; unfold hiN at h2
      omega
  · have hw := lo_hi (hn x hx)
    rw [Bool.eq_iff_iff, (tiles_all h (hn x hx)).2]
    simp only [inHigh, Bool.and_eq_true, decide_eq_true_eq]
    constructor
    · rintro ⟨v, h1, h2, h3, h4⟩
      unfold loN at h1; unfold hiN at h2
      omega
    · rintro ⟨g1, g2⟩
      unfold loN hiN at *
      by_cases hc : a ≤ (endsOf l x.1).1
      · exact ⟨_, Int.le_refl _, hw, hc, g1⟩
      · exact ⟨a, by omega, by omega, Int.le_refl _, by omega⟩
theorem Tiles.congr {l : Nat} {C D : Int → Prop} {T : List Int} (h : Tiles l C T) (e : ∀ v, C v ↔ D v) : Tiles l D T := ⟨h.node, fun v => (h.cov v).trans (e v), fun x hx hv => h.top x hx fun v h1 h2 => (e v).2 (hv v h1 h2)⟩
theorem Tiles.perm {l : Nat} {C : Int → Prop} {T U : List Int} (h : Tiles l C T) (e : ∀ t, t ∈ T ↔ t ∈ U) : Tiles l C U := by
  refine ⟨fun t ht => h.node t ((e t).2 ht), fun v => ?_, fun x hx hv => ?_⟩
  · rw [← h.cov]
    exact ⟨fun ⟨t, ht, g⟩ => ⟨t, (e t).2 ht, g⟩, fun ⟨t, ht, g⟩ => ⟨t, (e t).1 ht, g⟩⟩
  · obtain ⟨t, ht, g⟩ := h.top x hx hv
    exact ⟨t, (e t).1 ht, g⟩
end Go.Proofs.YtgjaopfjffncbaaGreat
/- What is told of what came: how far it may be off. No program in sight. -/
namespace Go.Proofs.YtgjaopfjffncbaaGreat
open Go.ChangeShapes Go.WideShapes Go.ChangeAt Go.RowKit
set_option linter.unusedVariables false

theorem light_inner {l : Nat} {r : List Nd} (hr : Roll r) {k : Int} (hl : lightOf l r k = true) (h0 : 0 ≤ sumR r / k) {id : Int} (h1 : 1 ≤ l ∧ l ≤ 48) (h2 : 1 ≤ id) (h3 : id < 2 ^ l) : getR r id ≤ sumR r / k := by
  by_cases hg : getR r id = 0
  · omega
  · have hm := getR_pos hr hg
    have hn : isNode l id = true := by
      have := pow_pos' l
      simp only [isNode, decide_eq_true_eq, Int.toNat_natCast]; omega
    have hk : (kidsOf l id).2.2 = true := by
      unfold kidsOf
      rw [if_pos ⟨hn, by simpa using h3⟩]
    apply Classical.byContradiction
    intro hc
    have : r.any (heavy l (sumR r / k)) = true := List.any_eq_true.2 ⟨_, hm, by simp only [heavy, hk, Bool.true_and, decide_eq_true_eq]; omega⟩
    simp only [lightOf, this] at hl
    cases hl
theorem path_node {l : Nat} {y a : Int} (h0 : 0 ≤ y) (h1 : y < 2 ^ l) (ha : a ∈ pathOf l y) : 1 ≤ a ∧ a < 2 ^ l := by
  obtain ⟨d, hd, rfl⟩ := List.mem_map.1 ha
  have hd := List.mem_range.1 hd
  have hpb := pow_pos' (l - d)
  have hpd := pow_pos' d
  have e2 : (2 : Int) ^ l = 2 ^ d * 2 ^ (l - d) := by rw [← Int.pow_add]; congr 1; omega
  constructor
  · rw [Int.le_ediv_iff_mul_le hpb, Int.one_mul]
    have := pow_le' (show l - d ≤ l by omega)
    omega
  · rw [Int.ediv_lt_iff_lt_mul hpb]
    have h2 : (2 : Int) ≤ 2 ^ (l - d) := by have := pow_le' (show 1 ≤ l - d by omega); simpa using this
    have h3 := Int.mul_le_mul_of_nonneg_left h2 (Int.le_of_lt (pow_pos' l))
    omega
/-- Those nodes that hold a value, and not it alone. -/
def around (y : Int) (lo hi : Int) : Bool := decide (lo ≤ y) && decide (y < hi)
theorem around_le {l : Nat} {r : List Nd} (hr : Roll r) (hn : ∀ x ∈ r, isNode l x.1 = true) {k : Int} (hl : lightOf l r k = true) (h0 : 0 ≤ sumR r / k) (h1 : 1 ≤ l ∧ l ≤ 48) (y : Int) : weighR l (around y) r ≤ l * (sumR r / k) := by
  have hm : 0 ≤ (l : Int) * (sumR r / k) := Int.mul_nonneg (by omega) h0
  by_cases hy : 0 ≤ y ∧ y < 2 ^ l
  · rw [weighR_ids]
    have := wIds_path hr (fun id => around y (endsOf l id).1 (endsOf l id).2.1) (sumR r / k) (pathOf l y) (fun x hx hp => by
      simp only [around, Bool.and_eq_true, decide_eq_true_eq] at hp
      exact on_path (hn x hx) hp.1 hp.2) (fun a ha => by
      have := path_node hy.1 hy.2 ha
      exact light_inner hr hl h0 h1 this.1 this.2) h0
    rwa [pathOf_len] at this
  · rw [weighR_none]
    · exact hm
    · intro x hx
      have := ends_bounds (hn x hx)
      simp only [around, Bool.and_eq_false_iff, decide_eq_false_iff_not]
      omega
theorem high_low {l : Nat} {r : List Nd} (hn : ∀ x ∈ r, isNode l x.1 = true) (y : Int) : highOf l r y - lowOf l r y = weighR l (around y) r := by
  unfold highOf lowOf
  induction r with
  | nil => rfl
  | cons x r ih =>
    have h1 := ih fun z hz => hn z (by simp [hz])
    have h2 := ends_bounds (hn x (by simp))
    simp only [weighR]
    by_cases a1 : (endsOf l x.1).1 ≤ y
    · by_cases a2 : (endsOf l x.1).2.1 ≤ y
      · have : around y (endsOf l x.1).1 (endsOf l x.1).2.1 = false := by simp only [around, Bool.and_eq_false_iff, decide_eq_false_iff_not]; omega
        simp only [this, a1, a2, decide_true, if_true, Bool.false_eq_true, if_false]; omega
      · have : around y (endsOf l x.1).1 (endsOf l x.1).2.1 = true := by simp only [around, Bool.and_eq_true, decide_eq_true_eq]; omega
        simp only [this, a1, a2, decide_true, decide_false, if_true, Bool.false_eq_true, if_false]; omega
    · have a2 : ¬ (endsOf l x.1).2.1 ≤ y := by omega
      have : around y (endsOf l x.1).1 (endsOf l x.1).2.1 = false := by simp only [around, Bool.and_eq_false_iff, decide_eq_false_iff_not]; omega
      simp only [this, a1, a2, decide_false, Bool.false_eq_true, if_false]; omega
/-- The rank of a number among all that was accepted. -/
def rankQ (l : Int) (q : List Nd) (y : Int) : Int := lowOf l q y
theorem rank_holds {l : Nat} {r q : List Nd} (h : Flow l r q) (hr : Roll r) (hq : Roll q) (y : Int) : lowOf l r y ≤ rankQ l q y ∧ rankQ l q y ≤ highOf l r y := by
  refine ⟨h.le hr hq (f := fun _ hi => decide (hi ≤ y)) (g := fun _ hi => decide (hi ≤ y)) ?_, h.ge hr hq (g := fun _ hi => decide (hi ≤ y)) (f := fun lo _ => decide (lo ≤ y)) ?_⟩
  · intro lo hi a b h1 h2 h3; simp only [decide_eq_true_eq] at *; omega
  · intro lo hi a b h1 h2 h3 h4; simp only [decide_eq_true_eq] at *; omega
end Go.Proofs.YtgjaopfjffncbaaGreat
/- Chapter 21: how far two digests are apart: plain laws. -/
namespace Go.Proofs.YtgjaopfjffncbaaGreat
open Go.ChangeShapes Go.WideShapes Go.ChangeAt Go.RowKit
set_option linter.unusedVariables false

/-- Which of two shares is surely greater: of what is told at a number, and of what all weigh. -/
def sideV (n m : Int) (pl ph ql qh : Int) : Int := if qh * n < pl * m then 1 else if ph * m < ql * n then -1 else 0
def sideOf (l : Int) (a b : List Nd) (x : Int) : Int := sideV (sumR a) (sumR b) (lowOf l a x) (highOf l a x) (lowOf l b x) (highOf l b x)
/-- The first value at which one has, in a list in any order. -/
def apStep (f : Int → Int) (a : Int × Int) (x : Int) : Int × Int := if f x ≠ 0 ∧ (a.2 = 0 ∨ x < a.1) then (x, f x) else a
def apFold (f : Int → Int) (l : List Int) : Int × Int := l.foldl (apStep f) (0, 0)
/-- What it is. -/
def apIs (f : Int → Int) (l : List Int) (r : Int × Int) : Prop := ((∀ x ∈ l, f x = 0) ∧ r = (0, 0)) ∨ (r.1 ∈ l ∧ r.2 = f r.1 ∧ r.2 ≠ 0 ∧ ∀ x ∈ l, f x ≠ 0 → r.1 ≤ x)
theorem apFold_succ {f : Int → Int} {l : List Int} {q : Nat} (h : q < l.length) : apFold f (l.take (q + 1)) = apStep f (apFold f (l.take q)) l[q] := by
  unfold apFold
  rw [List.take_succ_eq_append_getElem h, List.foldl_append]; rfl
theorem apFold_snoc (f : Int → Int) (l : List Int) (x : Int) : apFold f (l ++ [x]) = apStep f (apFold f l) x := by
  unfold apFold
  rw [List.foldl_append]; rfl
theorem apFold_is (f : Int → Int) (l : List Int) : apIs f l (apFold f l) := by
  suffices h : ∀ q, q ≤ l.length → apIs f (l.take q) (apFold f (l.take q)) by
    have := h l.length (Nat.le_refl _)
    rwa [List.take_length] at this
  intro q
  induction q with
  | zero => intro _; left; exact ⟨by simp, rfl⟩
  | succ q ih =>
    intro hq
    have hlt : q < l.length := by omega
    rw [apFold_succ hlt]
    have hts := List.take_succ_eq_append_getElem hlt
    rw [hts]
    have hi := ih (by omega)
    generalize apFold f (l.take q) = r at hi
    unfold apStep
    by_cases h0 : f l[q] = 0
    · rw [if_neg (by simp [h0])]
      rcases hi with ⟨h1, h2⟩ | ⟨h1, h2, h3, h4⟩
      · left
        refine ⟨fun x hx => ?_, h2⟩
        rcases List.mem_append.1 hx with hx | hx
        · exact h1 x hx
        · rw [List.mem_singleton.1 hx]; exact h0
      · right
        refine ⟨List.mem_append_left _ h1, h2, h3, fun x hx hf => ?_⟩
        rcases List.mem_append.1 hx with hx | hx
        · exact h4 x hx hf
        · rw [List.mem_singleton.1 hx] at hf; exact absurd h0 hf
    · rcases hi with ⟨h1, h2⟩ | ⟨h1, h2, h3, h4⟩
      · rw [if_pos ⟨h0, .inl (by rw [h2])⟩]
        right
        refine ⟨List.mem_append_right _ (List.mem_singleton.2 rfl), rfl, h0, fun x hx hf => ?_⟩
        rcases List.mem_append.1 hx with hx | hx
        · exact absurd (h1 x hx) hf
        · rw [List.mem_singleton.1 hx]; exact Int.le_refl _
      · right
        by_cases hlt2 : l[q] < r.1
        · rw [if_pos ⟨h0, .inr hlt2⟩]
          refine ⟨List.mem_append_right _ (List.mem_singleton.2 rfl), rfl, h0, fun x hx hf => ?_⟩
          rcases List.mem_append.1 hx with hx | hx
          · have := h4 x hx hf; simp only; omega
          · rw [List.mem_singleton.1 hx]; exact Int.le_refl _
        · rw [if_neg (fun h => h.2.elim h3 hlt2)]
          refine ⟨List.mem_append_left _ h1, h2, h3, fun x hx hf => ?_⟩
          rcases List.mem_append.1 hx with hx | hx
          · exact h4 x hx hf
          · rw [List.mem_singleton.1 hx]; omega
theorem apIs_unique {f : Int → Int} {l m : List Int} {r s : Int × Int} (hm : ∀ x, x ∈ l ↔ x ∈ m) (h : apIs f l r) (k : apIs f m s) : r = s := by
  rcases h with ⟨h1, h2⟩ | ⟨h1, h2, h3, h4⟩
  · rcases k with ⟨k1, k2⟩ | ⟨k1, k2, k3, k4⟩
    · rw [h2, k2]
    · exact absurd (k2.trans (h1 _ ((hm _).2 k1))) k3
  · rcases k with ⟨k1, k2⟩ | ⟨k1, k2, k3, k4⟩
    · exact absurd (h2.trans (k1 _ ((hm _).1 h1))) h3
    · have e1 := h4 s.1 ((hm _).2 k1) (k2 ▸ k3)
      have e2 := k4 r.1 ((hm _).1 h1) (h2 ▸ h3)
      have e : r.1 = s.1 := by omega
      exact Prod.ext e (by rw [h2, k2, e])
/-- In a rising list it is the first one. -/
theorem apIs_first {f : Int → Int} {pre : List Int} {x : Int} {suf : List Int} (hs : (pre ++ x :: suf).Pairwise (· ≤ ·)) (h0 : ∀ y ∈ pre, f y = 0) (hx : f x ≠ 0) : apIs f (pre ++ x :: suf) (x, f x) := by
  right
  refine ⟨by simp, rfl, hx, fun y hy hf => ?_⟩
  rcases List.mem_append.1 hy with hy | hy
  · exact absurd (h0 y hy) hf
  · rcases List.mem_cons.1 hy with rfl | hy
    · exact Int.le_refl _
    · exact (List.pairwise_cons.1 (List.pairwise_append.1 hs).2.1).1 y hy
theorem apIs_none {f : Int → Int} {l : List Int} (h : ∀ x ∈ l, f x = 0) : apIs f l (0, 0) := .inl ⟨h, rfl⟩

/-- Shares in parts, rounded down and up. -/
def downV (n d x : Int) : Int := (x.toNat * d.toNat / n.toNat : Nat)
def upP (n d x : Int) : Int := (upV x.toNat d.toNat n.toNat : Nat)
/-- How far shares are apart at a value: at least, and at most. -/
def gapStep (l d : Int) (a b : List Nd) (o : Int × Int) (x : Int) : Int × Int :=
  (max (max o.1 (downV (sumR a) d (lowOf l a x) - upP (sumR b) d (highOf l b x))) (downV (sumR b) d (lowOf l b x) - upP (sumR a) d (highOf l a x)),
   max (max o.2 (upP (sumR a) d (highOf l a x) - downV (sumR b) d (lowOf l b x))) (upP (sumR b) d (highOf l b x) - downV (sumR a) d (lowOf l a x)))
def gapFold (l d : Int) (a b : List Nd) (e : List Int) : Int × Int := e.foldl (gapStep l d a b) (0, 0)
theorem gapFold_snoc (l d : Int) (a b : List Nd) (e : List Int) (x : Int) : gapFold l d a b (e ++ [x]) = gapStep l d a b (gapFold l d a b e) x := by
  unfold gapFold
  rw [List.foldl_append]; rfl
theorem gapFold_succ {l d : Int} {a b : List Nd} {e : List Int} {q : Nat} (h : q < e.length) : gapFold l d a b (e.take (q + 1)) = gapStep l d a b (gapFold l d a b (e.take q)) e[q] := by
  rw [List.take_succ_eq_append_getElem h, gapFold_snoc]
theorem gapFold_le (l d : Int) (a b : List Nd) (e : List Int) (z y : Int) : ((gapFold l d a b e).1 ≤ z ↔ 0 ≤ z ∧ ∀ x ∈ e, (gapStep l d a b (0, 0) x).1 ≤ z) ∧ ((gapFold l d a b e).2 ≤ y ↔ 0 ≤ y ∧ ∀ x ∈ e, (gapStep l d a b (0, 0) x).2 ≤ y) := by
  suffices h : ∀ (e : List Int) (o : Int × Int), 0 ≤ o.1 → 0 ≤ o.2 → (((e.foldl (gapStep l d a b) o).1 ≤ z ↔ o.1 ≤ z ∧ ∀ x ∈ e, (gapStep l d a b (0, 0) x).1 ≤ z) ∧ ((e.foldl (gapStep l d a b) o).2 ≤ y ↔ o.2 ≤ y ∧ ∀ x ∈ e, (gapStep l d a b (0, 0) x).2 ≤ y)) from h e (0, 0) (Int.le_refl _) (Int.le_refl _)
  intro e
  induction e with
  | nil => intro o h1 h2; simp
  | cons x e ih =>
    intro o h1 h2
    rw [List.foldl_cons]
    obtain ⟨i1, i2⟩ := ih (gapStep l d a b o x) (by simp only [gapStep]; omega) (by simp only [gapStep]; omega)
    constructor
    · rw [i1]
      simp only [List.mem_cons, forall_eq_or_imp]
      have : ((gapStep l d a b o x).1 ≤ z) ↔ o.1 ≤ z ∧ (gapStep l d a b (0, 0) x).1 ≤ z := by simp only [gapStep]; omega
      rw [this, and_assoc]
    · rw [i2]
      simp only [List.mem_cons, forall_eq_or_imp]
      have : ((gapStep l d a b o x).2 ≤ y) ↔ o.2 ≤ y ∧ (gapStep l d a b (0, 0) x).2 ≤ y := by simp only [gapStep]; omega
      rw [this, and_assoc]
theorem gapFold_set {l d : Int} {a b : List Nd} {e f : List Int} (h : ∀ x, x ∈ e ↔ x ∈ f) : gapFold l d a b e = gapFold l d a b f := by
  have h1 := gapFold_le l d a b e
  have h2 := gapFold_le l d a b f
  have k : ∀ p : Int → Prop, (∀ x ∈ e, p x) ↔ (∀ x ∈ f, p x) := fun p => ⟨fun q x hx => q x ((h x).2 hx), fun q x hx => q x ((h x).1 hx)⟩
  have e1 : ∀ z, (gapFold l d a b e).1 ≤ z ↔ (gapFold l d a b f).1 ≤ z := fun z => by rw [(h1 z 0).1, (h2 z 0).1, k]
  have e2 : ∀ z, (gapFold l d a b e).2 ≤ z ↔ (gapFold l d a b f).2 ≤ z := fun z => by rw [(h1 0 z).2, (h2 0 z).2, k]
  refine Prod.ext ?_ ?_
  · have := (e1 _).1 (Int.le_refl _); have := (e1 _).2 (Int.le_refl _); omega
  · have := (e2 _).1 (Int.le_refl _); have := (e2 _).2 (Int.le_refl _); omega
end Go.Proofs.YtgjaopfjffncbaaGreat
/- Digests held against bags: plain laws. -/
namespace Go.Proofs.YtgjaopfjffncbaaGreat
open Go.ChangeShapes Go.WideShapes Go.ChangeAt Go.RowKit
set_option linter.unusedVariables false

/-- What a node has, with all below it. -/
def ownN (r : List Nd) (id : Int) : Int := wIds (fun x => abv id x) r
/-- What a bag has between two values. -/
def bagB (l : Nat) (q : List Nd) (lo hi : Int) : Int := weighR l (inLow lo hi) q
def moreN (l : Nat) (r q : List Nd) (id : Int) : Int := ownN r id - bagB l q (loN l id) (hiN l id)
/-- How much more a node has than it holds; 0: no more. -/
def culF (l : Nat) (r q : List Nd) (id : Int) : Int := max (moreN l r q id) 0
theorem wIds_le {p g : Int → Bool} {r : List Nd} (h0 : ∀ x ∈ r, 0 ≤ x.2) (h : ∀ x ∈ r, p x.1 = true → g x.1 = true) : wIds p r ≤ wIds g r := by
  induction r with
  | nil => simp [wIds]
  | cons x r ih =>
    have h1 := h0 x (by simp)
    have h2 := h x (by simp)
    have h3 := ih (fun y hy => h0 y (by simp [hy])) fun y hy => h y (by simp [hy])
    simp only [wIds]
    by_cases hp : p x.1 = true
    · rw [if_pos hp, if_pos (h2 hp)]; omega
    · rw [if_neg hp]; split <;> omega
theorem wIds_0 {p : Int → Bool} {r : List Nd} (h0 : ∀ x ∈ r, 0 ≤ x.2) : 0 ≤ wIds p r := by
  induction r with
  | nil => simp [wIds]
  | cons x r ih =>
    have h1 := h0 x (by simp)
    have h3 := ih (fun y hy => h0 y (by simp [hy]))
    simp only [wIds]
    split <;> omega
theorem wIds_none {p : Int → Bool} {r : List Nd} (h : ∀ x ∈ r, p x.1 = false) : wIds p r = 0 := by
  induction r with
  | nil => rfl
  | cons x r ih => simp only [wIds, h x (by simp), ih fun y hy => h y (by simp [hy])]; simp
theorem wIds_or {p g k : Int → Bool} {r : List Nd} (h0 : ∀ x ∈ r, 0 ≤ x.2) (h : ∀ x ∈ r, p x.1 = true → g x.1 = true ∨ k x.1 = true) : wIds p r ≤ wIds g r + wIds k r := by
  induction r with
  | nil => simp [wIds]
  | cons x r ih =>
    have h1 := h0 x (by simp)
    have h2 := h x (by simp)
    have h3 := ih (fun y hy => h0 y (by simp [hy])) fun y hy => h y (by simp [hy])
    simp only [wIds]
    by_cases hp : p x.1 = true
    · rw [if_pos hp]
      rcases h2 hp with h4 | h4
      · rw [if_pos h4]; split <;> omega
      · rw [if_pos h4]; split <;> omega
    · rw [if_neg hp]; split <;> split <;> omega
theorem wIds_and {p g k : Int → Bool} {r : List Nd} (h0 : ∀ x ∈ r, 0 ≤ x.2) (hg : ∀ x ∈ r, g x.1 = true → p x.1 = true) (hk : ∀ x ∈ r, k x.1 = true → p x.1 = true) (hn : ∀ x ∈ r, g x.1 = true → k x.1 = false) : wIds g r + wIds k r ≤ wIds p r := by
  induction r with
  | nil => simp [wIds]
  | cons x r ih =>
    have h1 := h0 x (by simp)
    have h2 := hg x (by simp)
    have h3 := hk x (by simp)
    have h4 := hn x (by simp)
    have h5 := ih (fun y hy => h0 y (by simp [hy])) (fun y hy => hg y (by simp [hy])) (fun y hy => hk y (by simp [hy])) fun y hy => hn y (by simp [hy])
    simp only [wIds]
    by_cases c1 : g x.1 = true
    · rw [if_pos c1, if_neg (by rw [h4 c1]; simp), if_pos (h2 c1)]; omega
    · rw [if_neg c1]
      by_cases c2 : k x.1 = true
      · rw [if_pos c2, if_pos (h3 c2)]; omega
      · rw [if_neg c2]; split <;> omega
theorem abv_same {p q : Int} (h : abv p q = true) (e : p.toNat.log2 = q.toNat.log2) : p = q := by
  simp only [abv, decide_eq_true_eq] at h
  have e0 : q.toNat.log2 - p.toNat.log2 = 0 := by omega
  have h3 := h.2.2.2
  rw [e0, Nat.pow_zero, Nat.div_one] at h3
  omega
/-- What is below a node, and not itself, is below one of its children. -/
theorem abv_kids {l : Nat} {x z : Int} (hx : isNode l x = true) (hz : isNode l z = true) (h : abv x z = true) (hne : z ≠ x) : abv (2 * x) z = true ∨ abv (2 * x + 1) z = true := by
  have hlog := abv_log h
  have hlt : x.toNat.log2 < z.toNat.log2 := by
    rcases Nat.lt_or_ge x.toNat.log2 z.toNat.log2 with h1 | h1
    · exact h1
    · exact absurd (abv_same h (by omega)).symm hne
  obtain ⟨k1, k2, k3, k4, k5, k6, k7⟩ := node_kids hx (by have := log2_le hz; omega)
  have r := (abv_iff hx hz).1 h
  have wz := lo_hi hz
  have w1 := lo_hi k1
  have w2 := lo_hi k2
  by_cases hc : loN l z ≤ hiN l (2 * x)
  · left
    rcases lam k1 hz (by omega) hc with g | g
    · exact g
    · have := abv_log g
      rw [abv_same g (by omega)]
      exact abv_refl k1
  · right
    rcases lam k2 hz (by omega) (by omega) with g | g
    · exact g
    · have := abv_log g
      rw [abv_same g (by omega)]
      exact abv_refl k2
/-- What nodes have that lie in a run, below a node: no more than a bag has there. -/
def inRun (l : Nat) (a b x z : Int) : Bool := abv x z && (decide (a ≤ loN l z) && decide (hiN l z ≤ b))
def inRunV (l : Nat) (a b x z : Int) : Bool := (decide (a ≤ loN l z) && decide (loN l x ≤ loN l z)) && (decide (hiN l z ≤ b) && decide (hiN l z ≤ hiN l x))
theorem inRun_iff {l : Nat} {a b x z : Int} : inRun l a b x z = true ↔ abv x z = true ∧ a ≤ loN l z ∧ hiN l z ≤ b := by simp [inRun]
theorem inRunV_iff {l : Nat} {a b x z : Int} : inRunV l a b x z = true ↔ (a ≤ loN l z ∧ loN l x ≤ loN l z) ∧ hiN l z ≤ b ∧ hiN l z ≤ hiN l x := by simp [inRunV]
theorem bagB_ids (l : Nat) (q : List Nd) (lo hi : Int) : bagB l q lo hi = wIds (fun z => decide (lo ≤ loN l z) && decide (hiN l z ≤ hi)) q := by
  unfold bagB; rw [weighR_ids]; rfl
theorem own_le {l : Nat} {r q : List Nd} (hr : ∀ x ∈ r, isNode l x.1 = true ∧ 0 ≤ x.2) (hq : ∀ x ∈ q, isNode l x.1 = true ∧ 0 ≤ x.2) (H : ∀ id, isNode l id = true → ownN r id ≤ bagB l q (loN l id) (hiN l id)) (a b : Int) :
    ∀ (h : Nat) (x : Int), isNode l x = true → x.toNat.log2 + h = l → wIds (inRun l a b x) r ≤ wIds (inRunV l a b x) q := by
  have hr0 : ∀ x ∈ r, 0 ≤ x.2 := fun x hx => (hr x hx).2
  have hq0 : ∀ x ∈ q, 0 ≤ x.2 := fun x hx => (hq x hx).2
  have out : ∀ x, isNode l x = true → (hiN l x < a ∨ b < loN l x) → wIds (inRun l a b x) r ≤ wIds (inRunV l a b x) q := by
    intro x hx hc
    rw [wIds_none]
    · exact wIds_0 hq0
    · intro z hz
      rw [← Bool.not_eq_true, inRun_iff]
      rintro ⟨h1, h2, h3⟩
      have := (abv_iff hx (hr z hz).1).1 h1
      have := lo_hi (hr z hz).1
      omega
  have ins : ∀ x, isNode l x = true → (a ≤ loN l x ∧ hiN l x ≤ b) → wIds (inRun l a b x) r ≤ wIds (inRunV l a b x) q := by
    intro x hx hc
    refine Int.le_trans (wIds_le (g := fun z => abv x z) hr0 fun z hz h => (inRun_iff.1 h).1) (Int.le_trans (H x hx) ?_)
    rw [bagB_ids]
    refine wIds_le hq0 fun z hz h => ?_
    simp only [Bool.and_eq_true, decide_eq_true_eq] at h
    rw [inRunV_iff]; omega
  intro h
  induction h with
  | zero =>
    intro x hx hb
    have := leaf_one hx (by omega)
    by_cases hc : hiN l x < a ∨ b < loN l x
    · exact out x hx hc
    · exact ins x hx (by omega)
  | succ h ih =>
    intro x hx hb
    by_cases hc : hiN l x < a ∨ b < loN l x
    · exact out x hx hc
    · by_cases hd : a ≤ loN l x ∧ hiN l x ≤ b
      · exact ins x hx hd
      · obtain ⟨k1, k2, k3, k4, k5, k6, k7⟩ := node_kids hx (by omega)
        have w1 := lo_hi k1
        have w2 := lo_hi k2
        have i1 := ih (2 * x) k1 (by omega)
        have i2 := ih (2 * x + 1) k2 (by omega)
        have a1 : wIds (inRun l a b x) r ≤ wIds (inRun l a b (2 * x)) r + wIds (inRun l a b (2 * x + 1)) r := wIds_or hr0 fun z hz h => by
          rw [inRun_iff] at h
          have hzn := (hr z hz).1
          rcases abv_kids hx hzn h.1 (by rintro e; rw [e] at h; exact hd h.2) with g | g
          · left; rw [inRun_iff]; exact ⟨g, h.2⟩
          · right; rw [inRun_iff]; exact ⟨g, h.2⟩
        have a2 : wIds (inRunV l a b (2 * x)) q + wIds (inRunV l a b (2 * x + 1)) q ≤ wIds (inRunV l a b x) q := wIds_and hq0 (fun z hz h => by rw [inRunV_iff] at h ⊢; omega) (fun z hz h => by rw [inRunV_iff] at h ⊢; omega) (fun z hz h => by
          rw [inRunV_iff] at h
          rw [← Bool.not_eq_true, inRunV_iff]
          have := lo_hi (hq z hz).1
          omega)
        omega
/-- A digest that stands for a bag: no node has more than it holds, and both weigh the same. -/
theorem stands_bounds {l : Nat} (hl : 1 ≤ l ∧ l ≤ 48) {r q : List Nd} (hr : ∀ x ∈ r, isNode l x.1 = true ∧ 0 ≤ x.2) (hq : ∀ x ∈ q, isNode l x.1 = true ∧ 0 ≤ x.2) (H : ∀ id, isNode l id = true → ownN r id ≤ bagB l q (loN l id) (hiN l id)) (hs : sumR r = sumR q) (y : Int) : lowOf l r y ≤ rankQ l q y ∧ rankQ l q y ≤ highOf l r y := by
  obtain ⟨n1, n2, n3⟩ := isNode_root hl
  have hlog : (1 : Int).toNat.log2 + l = l := by
    have : (1 : Int).toNat.log2 = 0 := by decide
    omega
  have hr0 : ∀ x ∈ r, 0 ≤ x.2 := fun x hx => (hr x hx).2
  have hq0 : ∀ x ∈ q, 0 ≤ x.2 := fun x hx => (hq x hx).2
  have root : ∀ z, isNode l z = true → abv 1 z = true := fun z hz => (abv_iff n1 hz).2 ⟨by have := lo_0 hz; omega, by have := hi_top hz; omega⟩
  have e1 : lowOf l r y = wIds (fun z => decide (hiN l z ≤ y)) r := by unfold lowOf; rw [weighR_ids]; rfl
  have e2 : highOf l r y = wIds (fun z => decide (loN l z ≤ y)) r := by unfold highOf; rw [weighR_ids]; rfl
  have e3 : rankQ l q y = wIds (fun z => decide (hiN l z ≤ y)) q := by unfold rankQ lowOf; rw [weighR_ids]; rfl
  constructor
  · have a1 := own_le hr hq H 0 y l 1 n1 hlog
    have a2 : wIds (fun z => decide (hiN l z ≤ y)) r ≤ wIds (inRun l 0 y 1) r := wIds_le hr0 fun z hz h => by
      simp only [decide_eq_true_eq] at h
      rw [inRun_iff]
      exact ⟨root _ (hr z hz).1, lo_0 (hr z hz).1, h⟩
    have a3 : wIds (inRunV l 0 y 1) q ≤ wIds (fun z => decide (hiN l z ≤ y)) q := wIds_le hq0 fun z hz h => by
      rw [inRunV_iff] at h
      simp only [decide_eq_true_eq]; omega
    omega
  · have a1 := own_le hr hq H (y + 1) (2 ^ l) l 1 n1 hlog
    have a2 : sumR r ≤ wIds (inRun l (y + 1) (2 ^ l) 1) r + wIds (fun z => decide (loN l z ≤ y)) r := by
      rw [sumR_ids]
      refine wIds_or hr0 fun z hz _ => ?_
      by_cases hc : loN l z.1 ≤ y
      · right; simpa using hc
      · left
        rw [inRun_iff]
        exact ⟨root _ (hr z hz).1, by omega, by have := hi_top (hr z hz).1; omega⟩
    have a3 : wIds (inRunV l (y + 1) (2 ^ l) 1) q + wIds (fun z => decide (hiN l z ≤ y)) q ≤ sumR q := by
      rw [sumR_ids]
      refine wIds_and hq0 (fun _ _ _ => rfl) (fun _ _ _ => rfl) fun z hz h => ?_
      rw [inRunV_iff] at h
      have := lo_hi (hq z hz).1
      simp only [decide_eq_false_iff_not]; omega
    omega
/-- All nodes above one. -/
def ancF : Nat → Int → List Int
  | 0, _ => []
  | n + 1, x => if x < 1 then [] else x :: ancF n (x / 2)
theorem toNat_half (x : Int) : (x / 2).toNat = x.toNat / 2 := by omega
theorem anc_log {x : Int} (h : 2 ≤ x) : x.toNat.log2 = (x / 2).toNat.log2 + 1 := by
  rw [Nat.log2_def, if_pos (by omega), toNat_half]
theorem abv_half {x z : Int} (hx : 1 ≤ x) : abv z x = true ↔ z = x ∨ (2 ≤ x ∧ abv z (x / 2) = true) := by
  constructor
  · intro h
    by_cases e : z.toNat.log2 = x.toNat.log2
    · exact .inl (abv_same h e)
    · right
      have h0 := h
      simp only [abv, decide_eq_true_eq] at h
      obtain ⟨h1, h2, h3, h4⟩ := h
      have hx2 : 2 ≤ x := by
        rcases Int.lt_or_le x 2 with g | g
        · exfalso
          have : x.toNat = 1 := by omega
          rw [this] at h3 e
          have : Nat.log2 1 = 0 := by decide
          omega
        · exact g
      have hl := anc_log hx2
      refine ⟨hx2, ?_⟩
      simp only [abv, decide_eq_true_eq]
      refine ⟨h1, by omega, by omega, ?_⟩
      have e2 : x.toNat.log2 - z.toNat.log2 = ((x / 2).toNat.log2 - z.toNat.log2) + 1 := by omega
      rw [e2, Nat.pow_succ, Nat.mul_comm, ← Nat.div_div_eq_div_mul, ← toNat_half] at h4
      exact h4
  · rintro (rfl | ⟨hx2, h⟩)
    · simp [abv, hx]
    · have hl := anc_log hx2
      simp only [abv, decide_eq_true_eq] at h ⊢
      obtain ⟨h1, h2, h3, h4⟩ := h
      refine ⟨h1, hx, by omega, ?_⟩
      have e2 : x.toNat.log2 - z.toNat.log2 = ((x / 2).toNat.log2 - z.toNat.log2) + 1 := by omega
      rw [e2, Nat.pow_succ, Nat.mul_comm, ← Nat.div_div_eq_div_mul, ← toNat_half]
      exact h4
theorem ancF_mem : ∀ (n : Nat) (x z : Int), x < 2 ^ n → (z ∈ ancF n x ↔ 1 ≤ x ∧ abv z x = true) := by
  intro n
  induction n with
  | zero =>
    intro x z h
    simp only [Int.pow_zero] at h
    simp only [ancF, List.not_mem_nil, false_iff]
    omega
  | succ n ih =>
    intro x z h
    unfold ancF
    by_cases hx : x < 1
    · rw [if_pos hx]
      simp only [List.not_mem_nil, false_iff]; omega
    · rw [if_neg hx, List.mem_cons, ih (x / 2) z (by rw [Int.pow_succ] at h; omega), abv_half (x := x) (z := z) (by omega)]
      constructor
      · rintro (h1 | ⟨h1, h2⟩)
        · exact ⟨by omega, Or.inl h1⟩
        · exact ⟨by omega, Or.inr ⟨by omega, h2⟩⟩
      · rintro ⟨h1, h2⟩
        rcases h2 with h2 | ⟨h2, h3⟩
        · exact Or.inl h2
        · exact Or.inr ⟨by omega, h3⟩
def ancL (x : Int) : List Int := ancF 49 x
/-- All nodes above those of a digest. -/
def allAnc (r : List Nd) : List Int := r.flatMap fun x => ancL x.1
theorem allAnc_mem {r : List Nd} (hr : ∀ x ∈ r, 1 ≤ x.1 ∧ x.1 < 562949953421312) (z : Int) : z ∈ allAnc r ↔ ∃ x ∈ r, abv z x.1 = true := by
  unfold allAnc
  rw [List.mem_flatMap]
  constructor
  · rintro ⟨x, hx, h⟩
    exact ⟨x, hx, ((ancF_mem 49 x.1 z (by have := (hr x hx).2; simpa using this)).1 h).2⟩
  · rintro ⟨x, hx, h⟩
    exact ⟨x, hx, (ancF_mem 49 x.1 z (by have := (hr x hx).2; simpa using this)).2 ⟨(hr x hx).1, h⟩⟩
/-- No culprit: no node has more than it holds. -/
theorem no_culprit {l : Nat} {r q : List Nd} (hr : ∀ x ∈ r, 1 ≤ x.1 ∧ x.1 < 562949953421312) (hq : ∀ x ∈ q, 0 ≤ x.2) {L : List Int} (hL : ∀ z, z ∈ L ↔ z ∈ allAnc r) (h : ∀ z ∈ L, culF l r q z = 0) (id : Int) : ownN r id ≤ bagB l q (loN l id) (hiN l id) := by
  by_cases hc : ∃ x ∈ r, abv id x.1 = true
  · have := h id ((hL id).2 ((allAnc_mem hr id).2 hc))
    unfold culF moreN at this
    omega
  · have : ownN r id = 0 := wIds_none fun x hx => by
      rw [← Bool.not_eq_true]
      exact fun h => hc ⟨x, hx, h⟩
    rw [this, bagB_ids]
    exact wIds_0 hq
/-- Where ranks are farthest off, and how far. -/
def offIs (f : Int → Int) (L : List Int) (r : Int × Int) : Prop := r.1 ∈ L ∧ r.2 = f r.1 ∧ ∀ x ∈ L, f x ≤ r.2 ∧ (f x = r.2 → r.1 ≤ x)
theorem offIs_unique {f : Int → Int} {L M : List Int} (hm : ∀ x, x ∈ L ↔ x ∈ M) {r s : Int × Int} (h : offIs f L r) (k : offIs f M s) : r = s := by
  obtain ⟨h1, h2, h3⟩ := h
  obtain ⟨k1, k2, k3⟩ := k
  have a := h3 s.1 ((hm _).2 k1)
  have b := k3 r.1 ((hm _).1 h1)
  have e2 : r.2 = s.2 := by omega
  have e1 : r.1 = s.1 := by
    have := a.2 (by omega)
    have := b.2 (by omega)
    omega
  exact Prod.ext e1 e2
def offStep (f : Int → Int) (a : Int × Int) (x : Int) : Int × Int := if a.2 < f x then (x, f x) else a
def offFold (f : Int → Int) (L : List Int) : Int × Int := L.foldl (offStep f) (0, 0)
theorem offFold_snoc (f : Int → Int) (L : List Int) (x : Int) : offFold f (L ++ [x]) = offStep f (offFold f L) x := by
  unfold offFold; rw [List.foldl_append]; rfl
theorem offFold_is {f : Int → Int} (h0 : ∀ x, 0 ≤ f x) {L : List Int} (hs : L.Pairwise (· ≤ ·)) (hz : (0 : Int) ∈ L) (hn : ∀ x ∈ L, 0 ≤ x) : offIs f L (offFold f L) := by
  obtain ⟨y, t, rfl⟩ : ∃ y t, L = y :: t := by
    cases L with
    | nil => simp at hz
    | cons y t => exact ⟨y, t, rfl⟩
  obtain rfl : y = 0 := by
    have h1 := hn y (by simp)
    rcases List.mem_cons.1 hz with h2 | h2
    · exact h2.symm
    · have := (List.pairwise_cons.1 hs).1 0 h2; omega
  clear hz hn
  suffices h : ∀ k, k ≤ t.length → offIs f (0 :: t.take k) (offFold f (0 :: t.take k)) by
    have := h t.length (Nat.le_refl _)
    rwa [List.take_length] at this
  intro k
  induction k with
  | zero =>
    intro _
    have := h0 0
    simp only [List.take_zero]
    unfold offFold offIs
    simp only [List.foldl_cons, List.foldl_nil, offStep]
    by_cases hc : 0 < f 0
    · rw [if_pos hc]
      refine ⟨by simp, rfl, fun x hx => ?_⟩
      rw [List.mem_singleton.1 hx]; simp
    · rw [if_neg hc]
      refine ⟨by simp, by simp only; omega, fun x hx => ?_⟩
      rw [List.mem_singleton.1 hx]; simp only; omega
  | succ k ih =>
    intro hk
    have hlt : k < t.length := by omega
    obtain ⟨i1, i2, i3⟩ := ih (by omega)
    rw [List.take_succ_eq_append_getElem hlt, ← List.cons_append, offFold_snoc]
    have hx : ∀ y ∈ 0 :: t.take k, y ≤ t[k] := by
      intro y hy
      rcases List.mem_cons.1 hy with rfl | hy
      · exact (List.pairwise_cons.1 hs).1 _ (List.getElem_mem hlt)
      · obtain ⟨i, hi, rfl⟩ := List.getElem_of_mem hy
        simp only [List.length_take] at hi
        rw [List.getElem_take]
        exact List.pairwise_iff_getElem.1 (List.pairwise_cons.1 hs).2 i k (by omega) hlt (by omega)
    generalize offFold f (0 :: t.take k) = a at i1 i2 i3
    generalize t[k] = x at hx
    unfold offStep
    by_cases hc : a.2 < f x
    · rw [if_pos hc]
      refine ⟨by simp, rfl, fun y hy => ?_⟩
      rcases List.mem_append.1 hy with hy | hy
      · have := i3 y hy; simp only; omega
      · rw [List.mem_singleton.1 hy]; simp
    · rw [if_neg hc]
      refine ⟨List.mem_append_left _ i1, i2, fun y hy => ?_⟩
      rcases List.mem_append.1 hy with hy | hy
      · exact i3 y hy
      · rw [List.mem_singleton.1 hy]
        have := hx a.1 i1
        omega
def offStepR (f : Int → Int) (a : Int × Int) (x : Int) : Int × Int := if a.2 < f x ∨ (f x = a.2 ∧ x < a.1) then (x, f x) else a
def offFoldR (f : Int → Int) (L : List Int) : Int × Int := L.foldl (offStepR f) (0, f 0)
theorem offFoldR_snoc (f : Int → Int) (L : List Int) (x : Int) : offFoldR f (L ++ [x]) = offStepR f (offFoldR f L) x := by
  unfold offFoldR; rw [List.foldl_append]; rfl
theorem offFoldR_is (f : Int → Int) (t : List Int) : offIs f (0 :: t) (offFoldR f t) := by
  suffices h : ∀ k, k ≤ t.length → offIs f (0 :: t.take k) (offFoldR f (t.take k)) by
    have := h t.length (Nat.le_refl _)
    rwa [List.take_length] at this
  intro k
  induction k with
  | zero =>
    intro _
    refine ⟨by simp [offFoldR], rfl, fun x hx => ?_⟩
    simp only [List.take_zero] at hx
    rw [List.mem_singleton.1 hx]; simp [offFoldR]
  | succ k ih =>
    intro hk
    have hlt : k < t.length := by omega
    obtain ⟨i1, i2, i3⟩ := ih (by omega)
    rw [List.take_succ_eq_append_getElem hlt, offFoldR_snoc, ← List.cons_append]
    generalize offFoldR f (t.take k) = a at i1 i2 i3
    generalize t[k] = x
    unfold offStepR
    by_cases hc : a.2 < f x ∨ (f x = a.2 ∧ x < a.1)
    · rw [if_pos hc]
      refine ⟨by simp, rfl, fun y hy => ?_⟩
      rcases List.mem_append.1 hy with hy | hy
      · have := i3 y hy; simp only; omega
      · rw [List.mem_singleton.1 hy]; simp
    · rw [if_neg hc]
      refine ⟨by rw [List.cons_append]; exact (List.mem_append_left (bs := [x]) i1 : a.1 ∈ (0 :: t.take k) ++ [x]), i2, fun y hy => ?_⟩
      rcases List.mem_append.1 hy with hy | hy
      · exact i3 y hy
      · rw [List.mem_singleton.1 hy]; omega
end Go.Proofs.YtgjaopfjffncbaaGreat
/- Tiles: how many there are; one behind the other; the reference's way from left to right. Plain laws. -/
namespace Go.Proofs.YtgjaopfjffncbaaGreat
open Go.ChangeShapes Go.WideShapes Go.ChangeAt Go.RowKit
set_option linter.unusedVariables false

theorem layT_out {l : Nat} {a b : Int} {h : Nat} {x : Int} (hc : hiN l x < a ∨ b < loN l x) : layT l a b h x = [] := by
  cases h <;> simp only [layT, if_pos hc]
theorem layT_whole {l : Nat} {a b : Int} {h : Nat} {x : Int} (hx : isNode l x = true) (h1 : a ≤ loN l x) (h2 : hiN l x ≤ b) : layT l a b h x = [x] := by
  have hw := lo_hi hx
  cases h <;> simp only [layT] <;> rw [if_neg (by omega)]
  rw [if_pos ⟨h1, h2⟩]
theorem layT_left {l : Nat} (a b : Int) : ∀ (h : Nat) (x : Int), isNode l x = true → x.toNat.log2 + h = l → a ≤ loN l x → (layT l a b h x).length ≤ h + 1 := by
  intro h
  induction h with
  | zero => intro x _ _ _; simp only [layT]; split <;> simp
  | succ h ih =>
    intro x hx hb ha
    obtain ⟨k1, k2, k3, k4, k5, k6, k7⟩ := node_kids hx (by omega)
    have w1 := lo_hi k1
    simp only [layT]
    split
    · simp
    · split
      · simp
      · rw [List.length_append]
        by_cases hc : hiN l (2 * x) ≤ b
        · rw [layT_whole k1 (by omega) hc]
          have := ih (2 * x + 1) k2 (by omega) (by omega)
          simp only [List.length_cons, List.length_nil]; omega
        · rw [layT_out (x := 2 * x + 1) (.inr (by omega))]
          have := ih (2 * x) k1 (by omega) (by omega)
          simp only [List.length_nil]; omega
theorem layT_right {l : Nat} (a b : Int) : ∀ (h : Nat) (x : Int), isNode l x = true → x.toNat.log2 + h = l → hiN l x ≤ b → (layT l a b h x).length ≤ h + 1 := by
  intro h
  induction h with
  | zero => intro x _ _ _; simp only [layT]; split <;> simp
  | succ h ih =>
    intro x hx hb ha
    obtain ⟨k1, k2, k3, k4, k5, k6, k7⟩ := node_kids hx (by omega)
    have w2 := lo_hi k2
    simp only [layT]
    split
    · simp
    · split
      · simp
      · rw [List.length_append]
        by_cases hc : a ≤ loN l (2 * x + 1)
        · rw [layT_whole k2 hc (by omega)]
          have := ih (2 * x) k1 (by omega) (by omega)
          simp only [List.length_cons, List.length_nil]; omega
        · rw [layT_out (x := 2 * x) (.inl (by omega))]
          have := ih (2 * x + 1) k2 (by omega) (by omega)
          simp only [List.length_nil]; omega
theorem layT_len {l : Nat} (a b : Int) : ∀ (h : Nat) (x : Int), isNode l x = true → x.toNat.log2 + h = l → (layT l a b h x).length ≤ 2 * h + 1 := by
  intro h
  induction h with
  | zero => intro x _ _; simp only [layT]; split <;> simp
  | succ h ih =>
    intro x hx hb
    obtain ⟨k1, k2, k3, k4, k5, k6, k7⟩ := node_kids hx (by omega)
    simp only [layT]
    split
    · simp
    · split
      · simp
      · rw [List.length_append]
        by_cases h1 : b < loN l (2 * x + 1)
        · rw [layT_out (x := 2 * x + 1) (.inr h1)]
          have := ih (2 * x) k1 (by omega)
          simp only [List.length_nil]; omega
        · by_cases h2 : hiN l (2 * x) < a
          · rw [layT_out (x := 2 * x) (.inl h2)]
            have := ih (2 * x + 1) k2 (by omega)
            simp only [List.length_nil]; omega
          · have := layT_right a b h (2 * x) k1 (by omega) (by omega)
            have := layT_left a b h (2 * x + 1) k2 (by omega) (by omega)
            omega
theorem root_log : (1 : Int).toNat.log2 = 0 := by decide
theorem ofTiles_len {l : Nat} (hl : 1 ≤ l ∧ l ≤ 48) (a b : Int) : (ofTiles l a b).length ≤ 97 := by
  have := layT_len a b l 1 (isNode_root hl).1 (by rw [root_log]; omega)
  unfold ofTiles; omega
theorem chain_append {l : Nat} {b m : Int} {M : List Int} (hM : chainT l b (m + 1) M) (hm : m ≤ b) : ∀ (L : List Int) (a : Int), chainT l m a L → chainT l b a (L ++ M) := by
  intro L
  induction L with
  | nil => intro a h; simp only [chainT] at h; subst h; exact hM
  | cons t L ih =>
    intro a h
    obtain ⟨h1, h2, h3, h4⟩ := h
    exact ⟨h1, h2, by omega, ih _ h4⟩
theorem chain_one {l : Nat} {t a b : Int} (h1 : isNode l t = true) (h2 : loN l t = a) (h3 : hiN l t = b) : chainT l b a [t] := ⟨h1, h2, by omega, by simp only [chainT]; omega⟩
theorem layT_chain {l : Nat} (a b : Int) (hab : a ≤ b) : ∀ (h : Nat) (x : Int), isNode l x = true → x.toNat.log2 + h = l → a ≤ hiN l x → loN l x ≤ b → chainT l (min b (hiN l x)) (max a (loN l x)) (layT l a b h x) := by
  intro h
  induction h with
  | zero =>
    intro x hx hb h1 h2
    have he := leaf_one hx (by omega)
    simp only [layT]
    rw [if_neg (by omega)]
    exact chain_one hx (by omega) (by omega)
  | succ h ih =>
    intro x hx hb h1 h2
    obtain ⟨k1, k2, k3, k4, k5, k6, k7⟩ := node_kids hx (by omega)
    have w1 := lo_hi k1
    have w2 := lo_hi k2
    simp only [layT]
    rw [if_neg (by omega)]
    split
    · exact chain_one hx (by omega) (by omega)
    · by_cases c1 : b < loN l (2 * x + 1)
      · rw [layT_out (x := 2 * x + 1) (.inr c1), List.append_nil]
        have := ih (2 * x) k1 (by omega) (by omega) (by omega)
        rw [show min b (hiN l x) = min b (hiN l (2 * x)) by omega, ← k3]
        exact this
      · by_cases c2 : hiN l (2 * x) < a
        · rw [layT_out (x := 2 * x) (.inl c2), List.nil_append]
          have := ih (2 * x + 1) k2 (by omega) (by omega) (by omega)
          rw [show max a (loN l x) = max a (loN l (2 * x + 1)) by omega, ← k4]
          exact this
        · have i1 := ih (2 * x) k1 (by omega) (by omega) (by omega)
          have i2 := ih (2 * x + 1) k2 (by omega) (by omega) (by omega)
          rw [show min b (hiN l (2 * x)) = hiN l (2 * x) by omega, k3] at i1
          rw [show max a (loN l (2 * x + 1)) = hiN l (2 * x) + 1 by omega, k4] at i2
          exact chain_append i2 (by omega) _ _ i1
theorem ofTiles_chain {l : Nat} (hl : 1 ≤ l ∧ l ≤ 48) {a b : Int} (ha : 0 ≤ a) (hab : a ≤ b) (hb : b ≤ 2 ^ l - 1) : chainT l b a (ofTiles l a b) := by
  obtain ⟨h1, h2, h3⟩ := isNode_root hl
  have := layT_chain a b hab l 1 h1 (by rw [root_log]; omega) (by omega) (by omega)
  rw [h2, h3, show min b (2 ^ l - 1) = b by omega, show max a 0 = a by omega] at this
  exact this
theorem chain_mem {l : Nat} {b : Int} : ∀ (L : List Int) (a : Int), chainT l b a L → ∀ t ∈ L, isNode l t = true ∧ a ≤ loN l t ∧ hiN l t ≤ b := by
  intro L
  induction L with
  | nil => intro a _ t ht; simp at ht
  | cons u L ih =>
    intro a h t ht
    obtain ⟨h1, h2, h3, h4⟩ := h
    have hw := lo_hi h1
    rcases List.mem_cons.1 ht with rfl | ht
    · exact ⟨h1, by omega, h3⟩
    · obtain ⟨g1, g2, g3⟩ := ih _ h4 t ht
      exact ⟨g1, by omega, g3⟩
theorem chain_cov {l : Nat} {b : Int} : ∀ (L : List Int) (a : Int), chainT l b a L → ∀ v, a ≤ v → v ≤ b → ∃ t ∈ L, loN l t ≤ v ∧ v ≤ hiN l t := by
  intro L
  induction L with
  | nil => intro a h v h1 h2; simp only [chainT] at h; omega
  | cons u L ih =>
    intro a h v h1 h2
    obtain ⟨g1, g2, g3, g4⟩ := h
    by_cases hv : v ≤ hiN l u
    · exact ⟨u, by simp, by omega, hv⟩
    · obtain ⟨t, ht, k⟩ := ih _ g4 v (by omega) h2
      exact ⟨t, List.mem_cons_of_mem _ ht, k⟩
/-- Two ways of tiles from a value to another one, each of greatest ones, are one. -/
theorem chain_unique {l : Nat} {b : Int} : ∀ (L M : List Int) (a : Int), chainT l b a L → chainT l b a M → (∀ x, isNode l x = true → a ≤ loN l x → hiN l x ≤ b → ∃ t ∈ L, abv t x = true) → (∀ x, isNode l x = true → a ≤ loN l x → hiN l x ≤ b → ∃ t ∈ M, abv t x = true) → L = M := by
  intro L
  induction L with
  | nil =>
    intro M a h k _ _
    cases M with
    | nil => rfl
    | cons u M =>
      simp only [chainT] at h
      obtain ⟨g1, g2, g3, g4⟩ := k
      have := lo_hi g1
      omega
  | cons t L ih =>
    intro M a h k hL hM
    obtain ⟨h1, h2, h3, h4⟩ := h
    have wt := lo_hi h1
    cases M with
    | nil => simp only [chainT] at k; omega
    | cons u M =>
      obtain ⟨g1, g2, g3, g4⟩ := k
      have wu := lo_hi g1
      have e1 : abv u t = true := by
        obtain ⟨v, hv, q⟩ := hM t h1 (by omega) h3
        rcases List.mem_cons.1 hv with rfl | hv
        · exact q
        · obtain ⟨m1, m2, m3⟩ := chain_mem M _ g4 v hv
          have := (abv_iff m1 h1).1 q
          omega
      have e2 : abv t u = true := by
        obtain ⟨v, hv, q⟩ := hL u g1 (by omega) g3
        rcases List.mem_cons.1 hv with rfl | hv
        · exact q
        · obtain ⟨m1, m2, m3⟩ := chain_mem L _ h4 v hv
          have := (abv_iff m1 g1).1 q
          omega
      obtain rfl : t = u := abv_eq h1 g1 e2 e1
      congr 1
      refine ih M _ h4 g4 (fun x hx q1 q2 => ?_) (fun x hx q1 q2 => ?_)
      · obtain ⟨v, hv, q⟩ := hL x hx (by omega) q2
        rcases List.mem_cons.1 hv with rfl | hv
        · have := (abv_iff h1 hx).1 q
          have := lo_hi hx
          omega
        · exact ⟨v, hv, q⟩
      · obtain ⟨v, hv, q⟩ := hM x hx (by omega) q2
        rcases List.mem_cons.1 hv with rfl | hv
        · have := (abv_iff h1 hx).1 q
          have := lo_hi hx
          omega
        · exact ⟨v, hv, q⟩
/-- The node above. -/
theorem node_par {l : Nat} {x : Int} (hx : isNode l x = true) (h2 : 2 ≤ x) : isNode l (x / 2) = true ∧ (x / 2).toNat.log2 < l := by
  have hxl : x < 2 * 2 ^ l := by simp only [isNode, decide_eq_true_eq, Int.toNat_natCast] at hx; omega
  have hl := isNode_l hx
  have hn : isNode l (x / 2) = true := by simp only [isNode, decide_eq_true_eq, Int.toNat_natCast]; omega
  refine ⟨hn, ?_⟩
  obtain ⟨d, b, u, g1, g2, g3, g4, _⟩ := node_shape hn
  rw [g2, Int.toNat_natCast, g4]
  apply Classical.byContradiction
  intro hd
  obtain rfl : d = l := by omega
  have : ((2 ^ d : Nat) : Int) = 2 ^ d := by simp
  omega
theorem par_even {l : Nat} {x : Int} (hx : isNode l x = true) (h : x % 2 = 0) : isNode l (x / 2) = true ∧ loN l (x / 2) = loN l x ∧ hiN l x < hiN l (x / 2) := by
  have h2 : 2 ≤ x := by simp only [isNode, decide_eq_true_eq] at hx; omega
  obtain ⟨h1, h3⟩ := node_par hx h2
  obtain ⟨k1, k2, k3, k4, k5, k6, k7⟩ := node_kids h1 h3
  have e : 2 * (x / 2) = x := by omega
  rw [e] at k2 k3 k4 k5
  have := lo_hi k2
  exact ⟨h1, k3.symm, by omega⟩
theorem par_odd {l : Nat} {x : Int} (hx : isNode l x = true) (h2 : 2 ≤ x) (h : x % 2 = 1) : isNode l (x / 2) = true ∧ loN l (x / 2) < loN l x := by
  obtain ⟨h1, h3⟩ := node_par hx h2
  obtain ⟨k1, k2, k3, k4, k5, k6, k7⟩ := node_kids h1 h3
  have e : 2 * (x / 2) + 1 = x := by omega
  rw [e] at k5
  have := lo_hi k1
  exact ⟨h1, by omega⟩
/-- A tile that can't be greater. -/
def mxT (l : Nat) (b t : Int) : Prop := t % 2 = 1 ∨ b < hiN l (t / 2)
theorem greedy_top {l : Nat} {a b c : Int} {L : List Int} (h : chainT l c a L) (hcb : c ≤ b) (hm : ∀ t ∈ L, mxT l b t) : ∀ x, isNode l x = true → a ≤ loN l x → hiN l x ≤ c → ∃ t ∈ L, abv t x = true := by
  intro x hx h1 h2
  have wx := lo_hi hx
  obtain ⟨t, ht, q1, q2⟩ := chain_cov L a h (loN l x) h1 (by omega)
  obtain ⟨nt, _, _⟩ := chain_mem L a h t ht
  have wt := lo_hi nt
  refine ⟨t, ht, ?_⟩
  rcases lam nt hx (by omega) (by omega) with g | g
  · exact g
  · have x1 : 1 ≤ t := by simp only [isNode, decide_eq_true_eq] at nt; omega
    rcases (abv_half x1).1 g with e | ⟨t2, g2⟩
    · rw [e]; exact abv_refl nt
    · exfalso
      rcases hm t ht with m | m
      · obtain ⟨p1, p2⟩ := par_odd nt t2 m
        have := (abv_iff hx p1).1 g2
        omega
      · have p1 := (node_par nt t2).1
        have := (abv_iff hx p1).1 g2
        omega
/-- The reference's way is the program's. -/
theorem greedy_eq {l : Nat} (hl : 1 ≤ l ∧ l ≤ 48) {a b c : Int} {L : List Int} (ha : 0 ≤ a) (hac : a ≤ c) (hc : c ≤ 2 ^ l - 1) (h : chainT l c a L) (hcb : c ≤ b) (hm : ∀ t ∈ L, mxT l b t) : L = ofTiles l a c := by
  refine chain_unique L _ a h (ofTiles_chain hl ha hac hc) (greedy_top h hcb hm) fun x hx h1 h2 => ?_
  exact (of_tiles hl ha hc).top x hx fun v g1 g2 => by omega
theorem greedy_len {l : Nat} (hl : 1 ≤ l ∧ l ≤ 48) {a b c : Int} {L : List Int} (ha : 0 ≤ a) (hac : a ≤ c + 1) (hc : c ≤ 2 ^ l - 1) (h : chainT l c a L) (hcb : c ≤ b) (hm : ∀ t ∈ L, mxT l b t) : L.length ≤ 97 := by
  by_cases e : a = c + 1
  · subst e
    cases L with
    | nil => simp
    | cons t L =>
      obtain ⟨h1, h2, h3, h4⟩ := h
      have := lo_hi h1
      omega
  · rw [greedy_eq hl ha (by omega) hc h hcb hm]
    exact ofTiles_len hl a c
theorem chain_snoc {l : Nat} {a c : Int} {L : List Int} (h : chainT l c a L) {t : Int} (ht : isNode l t = true) (hlo : loN l t = c + 1) : chainT l (hiN l t) a (L ++ [t]) :=
  chain_append (chain_one ht hlo rfl) (by have := lo_hi ht; omega) L a h
/-- The leaf of a value. -/
theorem leaf_node {l : Nat} (hl : 1 ≤ l ∧ l ≤ 48) {x : Int} (h0 : 0 ≤ x) (h1 : x < 2 ^ l) : isNode l (2 ^ l + x) = true ∧ loN l (2 ^ l + x) = x ∧ hiN l (2 ^ l + x) = x := by
  obtain ⟨n, rfl⟩ := Int.eq_ofNat_of_zero_le h0
  have hn : n < 2 ^ l := by
    have : ((2 ^ l : Nat) : Int) = 2 ^ l := by simp
    omega
  have e : (2 : Int) ^ l + (n : Int) = ((2 ^ l + n : Nat) : Int) := by push_cast; rfl
  rw [e]
  have hN := node_of_shape (b := 0) hl (by omega) hn
  obtain ⟨d, b, t, g1, g2, g3, g4, g5, g6⟩ := node_shape hN
  have i1 := log2_shape hn
  have g2' := Int.ofNat.inj g2
  rw [← g2', i1] at g4
  subst g4
  obtain rfl : b = 0 := by omega
  obtain rfl : t = n := by omega
  rw [g5, g6]
  exact ⟨hN, by simp, by simp⟩
/-- The tiles of runs. -/
def layR (l : Nat) (L : List (Int × Int)) : List Int := L.flatMap fun r => ofTiles l r.1 r.2
theorem layR_len {l : Nat} (hl : 1 ≤ l ∧ l ≤ 48) (L : List (Int × Int)) : (layR l L).length ≤ 97 * L.length := by
  induction L with
  | nil => simp [layR]
  | cons r L ih =>
    have := ofTiles_len hl r.1 r.2
    simp only [layR, List.flatMap_cons, List.length_append, List.length_cons] at ih ⊢
    omega
theorem layR_cnt {l : Nat} (hl : 1 ≤ l ∧ l ≤ 48) (lo hi : Int) : ∀ (L : List (Int × Int)), (∀ r ∈ L, 0 ≤ r.1 ∧ r.1 ≤ r.2 ∧ r.2 ≤ 2 ^ l - 1) → cntR lo hi ((layR l L).map (ends2 l)) = cntR lo hi L := by
  intro L
  induction L with
  | nil => intro _; rfl
  | cons r L ih =>
    intro h
    obtain ⟨h1, h2, h3⟩ := h r (by simp)
    have := ih fun q hq => h q (by simp [hq])
    simp only [layR, List.flatMap_cons, List.map_append, cntR_append] at this ⊢
    rw [this, chain_cnt lo hi _ r.1 (by omega) (ofTiles_chain hl h1 h2 h3)]
    simp only [cntR]
theorem withF_len (L : List (Int × Int)) (x : Int × Int) : (withL L x).length ≤ L.length + 1 := by
  suffices h : ∀ (L : List (Int × Int)) (s : WithS), (L.foldl withStep s).ahead.length + (L.foldl withStep s).behind.length ≤ s.ahead.length + s.behind.length + L.length by
    have := h L ⟨[], x, []⟩
    simp only [withL, withF, List.length_append, List.length_cons, List.length_nil] at this ⊢
    omega
  intro L
  induction L with
  | nil => intro s; simp
  | cons r L ih =>
    intro s
    have := ih (withStep s r)
    simp only [List.foldl_cons, List.length_cons]
    have h2 : (withStep s r).ahead.length + (withStep s r).behind.length ≤ s.ahead.length + s.behind.length + 1 := by
      unfold withStep
      split
      · simp; omega
      · split
        · simp; omega
        · simp
    omega
theorem runsF_len (l : Nat) (ids : List Int) : (runsF l ids).length ≤ ids.length := by
  suffices h : ∀ k, k ≤ ids.length → (runsF l (ids.take k)).length ≤ k by
    have := h ids.length (Nat.le_refl _)
    rwa [List.take_length] at this
  intro k
  induction k with
  | zero => intro _; simp [runsF]
  | succ k ih =>
    intro hk
    rw [List.take_succ_eq_append_getElem (by omega), runsF_snoc]
    have := withF_len (runsF l (ids.take k)) (loN l ids[k], hiN l ids[k])
    have := ih (by omega)
    omega
theorem runsF_in {l : Nat} {ids : List Int} (hn : ∀ x ∈ ids, isNode l x = true) : ∀ r ∈ runsF l ids, 0 ≤ r.1 ∧ r.1 ≤ r.2 ∧ r.2 ≤ 2 ^ l - 1 := by
  obtain ⟨h1, h2⟩ := runsF_apart hn
  intro r hr
  have hw := h1.run r hr
  obtain ⟨t, ht, g1, g2⟩ := (h2 r.1).1 ⟨r, hr, Int.le_refl _, hw⟩
  obtain ⟨u, hu, k1, k2⟩ := (h2 r.2).1 ⟨r, hr, hw, Int.le_refl _⟩
  have := lo_0 (hn t ht)
  have := hi_top (hn u hu)
  omega
/-- A pair's other one, by the last bit. -/
theorem xor_one {t : Int} (h0 : 0 ≤ t) (h1 : t < 4611686018427387904) : bits .xor .i64 t 1 = sibN t := by
  obtain ⟨n, rfl⟩ := Int.eq_ofNat_of_zero_le h0
  have hn : n < 4611686018427387904 := by omega
  have e1 : (n ^^^ 1) / 2 = n / 2 := by rw [Nat.xor_div_two]; simp
  have e2 : (n ^^^ 1) % 2 = (n + 1) % 2 := by
    have := Nat.xor_mod_two_eq_one (a := n) (b := 1)
    omega
  have e3 : ((n ^^^ 1 : Nat) : Int) = sibN n := by unfold sibN; split <;> omega
  have hx : n ^^^ 1 < 2 ^ 64 := Nat.xor_lt_two_pow (by omega) (by omega)
  have ha : n % 2 ^ 64 = n := Nat.mod_eq_of_lt (by omega)
  show IntKind.i64.wrap (((BitVec.ofInt 64 (n : Int)) ^^^ (BitVec.ofInt 64 1)).toNat : Int) = sibN n
  have h3 : (BitVec.ofInt 64 (n : Int)).toNat = n := by rw [BitVec.ofInt_natCast, BitVec.toNat_ofNat, ha]
  have h4 : (BitVec.ofInt 64 (1 : Int)).toNat = 1 := by decide
  rw [BitVec.toNat_xor, h3, h4, e3, IntKind.wrap_i64]
  unfold sibN; split <;> omega
end Go.Proofs.YtgjaopfjffncbaaGreat
