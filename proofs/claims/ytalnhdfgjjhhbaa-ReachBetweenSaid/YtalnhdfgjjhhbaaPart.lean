/- A part of a number: package reckon, and the reference of layer 1. -/
import Derived.Test.YtalnhdfgjjhhbaaQuot
import Derived.Test.YtalnhdfgjjhhbaaDiv64
namespace Go.Proofs.Ytalnhdfgjjhhbaa
open Go.ChangeShapes Go.WideShapes Go.ChangeAt Go.RowKit
set_option linter.unusedVariables false
set_option maxRecDepth 100000

/-- a * b / c, made greater to a whole number. -/
def upV (a b c : Nat) : Nat := a * b / c + if a * b % c = 0 then 0 else 1
theorem part_le {a b c : Nat} (hac : a ≤ c) (hc : 1 ≤ c) : a * b / c ≤ b := by
  have h1 : a * b ≤ b * c := by rw [Nat.mul_comm b]; exact Nat.mul_le_mul_right _ hac
  exact (Nat.div_le_iff_le_mul_add_pred (by omega)).2 (by rw [Nat.mul_comm c]; omega)
theorem part_lt {a b c : Nat} (hac : a ≤ c) (hc : 1 ≤ c) (h : a * b % c ≠ 0) : a * b / c < b := by
  refine Nat.lt_of_le_of_ne (part_le hac hc) fun e => h ?_
  have h1 : a * b ≤ c * b := Nat.mul_le_mul_right _ hac
  have h2 := Nat.div_mul_le_self (a * b) c
  rw [e, Nat.mul_comm b] at h2
  rw [Nat.le_antisymm h1 h2]
  exact Nat.mul_mod_right _ _
theorem up_le {a b c : Nat} (hac : a ≤ c) (hc : 1 ≤ c) : upV a b c ≤ b := by
  unfold upV
  split
  · exact part_le hac hc
  · rename_i h; exact part_lt hac hc h

theorem ref1_Quot_part (w : World) (A : Option Addr) (cap : Nat) (p : List Nat) (a b c : Nat) (hA : Sl w w.heap.size encD A p) (kp : okD p) (lp : p.length ≤ 100) (hV : valD p = a * b) (hb : b ≤ 9223372036854775807) (hc : 1 ≤ c) (hc2 : c ≤ 9223372036854775807) (hac : a ≤ c) :
    Calls Try.prog 66 #[.slice A p.length cap, .int .i64 c] w fun e w' => e = .returned (.tuple #[.int .i64 (a * b / c : Nat), .bool (decide (a * b % c ≠ 0)), .bool true]) ∧ Below w.heap.size w w' := by
  refine ref1_Quot w A cap p c (a * b) hA kp lp hV hc (by omega) ?_
  have h1 : a * b ≤ c * 9223372036854775807 := Nat.mul_le_mul hac hb
  omega
theorem ref1_Part (w : World) (a b c : Nat) (hb : b ≤ 9223372036854775807) (hc : 1 ≤ c) (hc2 : c ≤ 9223372036854775807) (hac : a ≤ c) :
    Calls Try.prog 37 #[.int .i64 a, .int .i64 b, .int .i64 c] w fun e w' => e = .returned (.tuple #[.int .i64 (a * b / c : Nat), .bool true]) ∧ Below w.heap.size w w' := by
  have ha : a ≤ 9223372036854775807 := by omega
  have HQ := Lib.hid (fun w A cap p h1 h2 h3 h4 => ref1_Quot_part w A cap p a b c h1 h2 h3 h4 hb hc hc2 hac)
  have i1 : decide ((0 : Int) ≤ (a : Int)) = true := by simp
  have i2 : decide ((0 : Int) ≤ (b : Int)) = true := by simp
  have hql := part_le (b := b) hac hc
  generalize hq : a * b / c = q at HQ hql ⊢
  generalize hr : decide (a * b % c ≠ 0) = r at HQ
  clear hq hr
  go_enter Try.func37, Try.ntmps37
  go_wp2_with fail
  refine (ref1_Is _ a).mono ?_
  rintro e w1 ⟨rfl, hb1⟩
  have B1 : Below w.heap.size w w1 := Below.then_ (by repeat (first | with_reducible exact Below.refl _ _ | with_reducible assumption | ((with_reducible refine Below.setCell ?_ ?_ _); rotate_left; · (first | omega | exact Nat.le_refl _ | (simp <;> omega))) | (with_reducible refine Below.allocW ?_ _) | (with_reducible refine Below.drew ?_) | (with_reducible refine Below.extW ?_ _))) hb1
  have s1 : w.heap.size ≤ w1.heap.size := B1.size
  rw [i1]
  go_wp2_with fail
  refine (ref1_Is _ b).mono ?_
  rintro e w2 ⟨rfl, hb2⟩
  have B2 : Below w.heap.size w w2 := Below.then_ (by repeat (first | with_reducible exact Below.refl _ _ | with_reducible assumption | ((with_reducible refine Below.setCell ?_ ?_ _); rotate_left; · (first | omega | exact Nat.le_refl _ | (simp <;> omega))) | (with_reducible refine Below.allocW ?_ _) | (with_reducible refine Below.drew ?_) | (with_reducible refine Below.extW ?_ _))) hb2
  have s2 : w.heap.size ≤ w2.heap.size := B2.size
  rw [i2]
  go_wp2_with fail
  refine (ref1_Digits _ a (by omega)).mono ?_
  rintro e w3 ⟨v3, L3, rfl, o3, k3, e3, l3, hb3⟩
  obtain ⟨A3, p3, rfl, _, _, S3, _⟩ := o3.form
  have B3 : Below w.heap.size w w3 := Below.then_ (by repeat (first | with_reducible exact Below.refl _ _ | with_reducible assumption | ((with_reducible refine Below.setCell ?_ ?_ _); rotate_left; · (first | omega | exact Nat.le_refl _ | (simp <;> omega))) | (with_reducible refine Below.allocW ?_ _) | (with_reducible refine Below.drew ?_) | (with_reducible refine Below.extW ?_ _))) hb3
  have s3 : w.heap.size ≤ w3.heap.size := B3.size
  have HS3 := Lib.hid S3
  have K3 := Lib.hid k3
  have E3 := Lib.hid e3
  clear o3 S3 k3 e3
  go_wp2_with fail
  refine (ref1_Digits _ b (by omega)).mono ?_
  rintro e w4 ⟨v4, L4, rfl, o4, k4, e4, l4, hb4⟩
  obtain ⟨A4, p4, rfl, _, _, S4, _⟩ := o4.form
  have B4 : Below w.heap.size w w4 := Below.then_ (by repeat (first | with_reducible exact Below.refl _ _ | with_reducible assumption | ((with_reducible refine Below.setCell ?_ ?_ _); rotate_left; · (first | omega | exact Nat.le_refl _ | (simp <;> omega))) | (with_reducible refine Below.allocW ?_ _) | (with_reducible refine Below.drew ?_) | (with_reducible refine Below.extW ?_ _))) hb4
  have s4 : w.heap.size ≤ w4.heap.size := B4.size
  have HS3' := Lib.hid (HS3.out.keep hb4.size fun p hp => hb4.cell hp)
  have HS4 := Lib.hid S4
  have K4 := Lib.hid k4
  have E4 := Lib.hid e4
  clear o4 S4 k4 e4
  go_wp2_with fail
  refine (ref1_Times _ A3 A4 p3 p4 L3 L4 HS3'.out HS4.out K3.out K4.out (by omega) (by omega)).mono ?_
  rintro e w5 ⟨v5, rfl, L5, o5, k5, e5, l5, hb5⟩
  obtain ⟨A5, p5, rfl, _, _, S5, _⟩ := o5.form
  have B5 : Below w.heap.size w w5 := Below.then_ (by repeat (first | with_reducible exact Below.refl _ _ | with_reducible assumption | ((with_reducible refine Below.setCell ?_ ?_ _); rotate_left; · (first | omega | exact Nat.le_refl _ | (simp <;> omega))) | (with_reducible refine Below.allocW ?_ _) | (with_reducible refine Below.drew ?_) | (with_reducible refine Below.extW ?_ _))) hb5
  have s5 : w.heap.size ≤ w5.heap.size := B5.size
  have HS5 := Lib.hid S5
  have K5 := Lib.hid k5
  have E5 := Lib.hid (show valD L5 = a * b by rw [e5, E3.out, E4.out])
  have l5' : L5.length ≤ 50 := by omega
  clear o5 S5 k5 e5 l5
  go_wp2_with fail
  refine (HQ.out _ A5 p5 L5 HS5.out K5.out (by omega) E5.out).mono ?_
  rintro e w6 ⟨rfl, hb6⟩
  have B6 : Below w.heap.size w w6 := Below.then_ (by repeat (first | with_reducible exact Below.refl _ _ | with_reducible assumption | ((with_reducible refine Below.setCell ?_ ?_ _); rotate_left; · (first | omega | exact Nat.le_refl _ | (simp <;> omega))) | (with_reducible refine Below.allocW ?_ _) | (with_reducible refine Below.drew ?_) | (with_reducible refine Below.extW ?_ _))) hb6
  have s6 : w.heap.size ≤ w6.heap.size := B6.size
  go_wp2_with fail
  go_ret2
  exact ⟨rfl, B6⟩
theorem ref1_PartUp (w : World) (a b c : Nat) (hb : b ≤ 9223372036854775807) (hc : 1 ≤ c) (hc2 : c ≤ 9223372036854775807) (hac : a ≤ c) :
    Calls Try.prog 38 #[.int .i64 a, .int .i64 b, .int .i64 c] w fun e w' => e = .returned (.tuple #[.int .i64 (upV a b c : Nat), .bool true]) ∧ Below w.heap.size w w' := by
  have ha : a ≤ 9223372036854775807 := by omega
  have HQ := Lib.hid (fun w A cap p h1 h2 h3 h4 => ref1_Quot_part w A cap p a b c h1 h2 h3 h4 hb hc hc2 hac)
  have i1 : decide ((0 : Int) ≤ (a : Int)) = true := by simp
  have i2 : decide ((0 : Int) ≤ (b : Int)) = true := by simp
  have hql := part_le (b := b) hac hc
  have hqr : decide (a * b % c ≠ 0) = true → a * b / c < b := fun h => part_lt hac hc (by simpa using h)
  have hup : upV a b c = a * b / c + if decide (a * b % c ≠ 0) = true then 1 else 0 := by unfold upV; by_cases h : a * b % c = 0 <;> simp [h]
  rw [hup]
  clear hup
  generalize hq : a * b / c = q at HQ hql hqr ⊢
  generalize hr : decide (a * b % c ≠ 0) = r at HQ hqr ⊢
  clear hq hr
  cases r
  all_goals (
    simp only [reduceIte, Bool.false_eq_true, Nat.add_zero, false_implies, true_implies] at hqr ⊢
    go_enter Try.func38, Try.ntmps38
    go_wp2_with fail
    refine (ref1_Is _ a).mono ?_
    rintro e w1 ⟨rfl, hb1⟩
    have B1 : Below w.heap.size w w1 := Below.then_ (by repeat (first | with_reducible exact Below.refl _ _ | with_reducible assumption | ((with_reducible refine Below.setCell ?_ ?_ _); rotate_left; · (first | omega | exact Nat.le_refl _ | (simp <;> omega))) | (with_reducible refine Below.allocW ?_ _) | (with_reducible refine Below.drew ?_) | (with_reducible refine Below.extW ?_ _))) hb1
    have s1 : w.heap.size ≤ w1.heap.size := B1.size
    rw [i1]
    go_wp2_with fail
    refine (ref1_Is _ b).mono ?_
    rintro e w2 ⟨rfl, hb2⟩
    have B2 : Below w.heap.size w w2 := Below.then_ (by repeat (first | with_reducible exact Below.refl _ _ | with_reducible assumption | ((with_reducible refine Below.setCell ?_ ?_ _); rotate_left; · (first | omega | exact Nat.le_refl _ | (simp <;> omega))) | (with_reducible refine Below.allocW ?_ _) | (with_reducible refine Below.drew ?_) | (with_reducible refine Below.extW ?_ _))) hb2
    have s2 : w.heap.size ≤ w2.heap.size := B2.size
    rw [i2]
    go_wp2_with fail
    refine (ref1_Digits _ a (by omega)).mono ?_
    rintro e w3 ⟨v3, L3, rfl, o3, k3, e3, l3, hb3⟩
    obtain ⟨A3, p3, rfl, _, _, S3, _⟩ := o3.form
    have B3 : Below w.heap.size w w3 := Below.then_ (by repeat (first | with_reducible exact Below.refl _ _ | with_reducible assumption | ((with_reducible refine Below.setCell ?_ ?_ _); rotate_left; · (first | omega | exact Nat.le_refl _ | (simp <;> omega))) | (with_reducible refine Below.allocW ?_ _) | (with_reducible refine Below.drew ?_) | (with_reducible refine Below.extW ?_ _))) hb3
    have s3 : w.heap.size ≤ w3.heap.size := B3.size
    have HS3 := Lib.hid S3
    have K3 := Lib.hid k3
    have E3 := Lib.hid e3
    clear o3 S3 k3 e3
    go_wp2_with fail
    refine (ref1_Digits _ b (by omega)).mono ?_
    rintro e w4 ⟨v4, L4, rfl, o4, k4, e4, l4, hb4⟩
    obtain ⟨A4, p4, rfl, _, _, S4, _⟩ := o4.form
    have B4 : Below w.heap.size w w4 := Below.then_ (by repeat (first | with_reducible exact Below.refl _ _ | with_reducible assumption | ((with_reducible refine Below.setCell ?_ ?_ _); rotate_left; · (first | omega | exact Nat.le_refl _ | (simp <;> omega))) | (with_reducible refine Below.allocW ?_ _) | (with_reducible refine Below.drew ?_) | (with_reducible refine Below.extW ?_ _))) hb4
    have s4 : w.heap.size ≤ w4.heap.size := B4.size
    have HS3' := Lib.hid (HS3.out.keep hb4.size fun p hp => hb4.cell hp)
    have HS4 := Lib.hid S4
    have K4 := Lib.hid k4
    have E4 := Lib.hid e4
    clear o4 S4 k4 e4
    go_wp2_with fail
    refine (ref1_Times _ A3 A4 p3 p4 L3 L4 HS3'.out HS4.out K3.out K4.out (by omega) (by omega)).mono ?_
    rintro e w5 ⟨v5, rfl, L5, o5, k5, e5, l5, hb5⟩
    obtain ⟨A5, p5, rfl, _, _, S5, _⟩ := o5.form
    have B5 : Below w.heap.size w w5 := Below.then_ (by repeat (first | with_reducible exact Below.refl _ _ | with_reducible assumption | ((with_reducible refine Below.setCell ?_ ?_ _); rotate_left; · (first | omega | exact Nat.le_refl _ | (simp <;> omega))) | (with_reducible refine Below.allocW ?_ _) | (with_reducible refine Below.drew ?_) | (with_reducible refine Below.extW ?_ _))) hb5
    have s5 : w.heap.size ≤ w5.heap.size := B5.size
    have HS5 := Lib.hid S5
    have K5 := Lib.hid k5
    have E5 := Lib.hid (show valD L5 = a * b by rw [e5, E3.out, E4.out])
    have l5' : L5.length ≤ 50 := by omega
    clear o5 S5 k5 e5 l5
    go_wp2_with fail
    refine (HQ.out _ A5 p5 L5 HS5.out K5.out (by omega) E5.out).mono ?_
    rintro e w6 ⟨rfl, hb6⟩
    have B6 : Below w.heap.size w w6 := Below.then_ (by repeat (first | with_reducible exact Below.refl _ _ | with_reducible assumption | ((with_reducible refine Below.setCell ?_ ?_ _); rotate_left; · (first | omega | exact Nat.le_refl _ | (simp <;> omega))) | (with_reducible refine Below.allocW ?_ _) | (with_reducible refine Below.drew ?_) | (with_reducible refine Below.extW ?_ _))) hb6
    have s6 : w.heap.size ≤ w6.heap.size := B6.size
    go_wp2_with fail
    go_ret2
    exact ⟨by first | rfl | simp, B6⟩)

theorem reckon_share (w : World) (a b c : Nat) (hb : b ≤ 9223372036854775807) (hc : 1 ≤ c) (hc2 : c ≤ 9223372036854775807) (hac : a ≤ c) :
    Calls Try.prog 63 #[.int .i64 a, .int .i64 b, .int .i64 c] w fun e w' => e = .returned (.tuple #[.int .u64 (a * b / c : Nat), .int .u64 (a * b % c : Nat), .bool true]) ∧ Below w.heap.size w w' := by
  have ha : a ≤ 9223372036854775807 := by omega
  have HC := Lib.hid (show decide (0 ≤ (a : Int) ∧ 0 ≤ (b : Int)) = true by simp)
  have HM : Hid (∀ W, Calls Try.prog 53 #[.int .u64 a, .int .u64 b] W fun e w' => e = .returned (.tuple #[.int .u64 (a * b / 18446744073709551616 : Nat), .int .u64 (a * b % 18446744073709551616 : Nat)]) ∧ w' = W) := Lib.hid fun W => Try.bits_Mul64 a b (by omega) (by omega) W
  have h1 : a * b ≤ c * 9223372036854775807 := Nat.mul_le_mul hac hb
  have hhi : a * b / 18446744073709551616 < c := by omega
  have hlo : a * b % 18446744073709551616 ≤ 18446744073709551615 := by omega
  have hD := Lib.hid (fun w => bits_Div64 w (a * b / 18446744073709551616) (a * b % 18446744073709551616) c (by omega) hhi (by omega))
  rw [Nat.div_add_mod'] at hD
  have hr0 : a * b % c ≤ c := by have := Nat.mod_lt (a * b) (show c > 0 by omega); omega
  have hql := part_le (b := b) hac hc
  clear h1
  generalize a * b / 18446744073709551616 = hi at HM hhi hD
  generalize a * b % 18446744073709551616 = lo at HM hlo hD
  generalize a * b / c = q at hD hql ⊢
  generalize a * b % c = r at hD hr0 ⊢
  have hhi' : decide ((c : Int) ≤ (hi : Int)) = false := by simp; omega
  go_enter Try.func63, Try.ntmps63
  go_wp2_with fail
  refine (reckon_counts _ a b).mono ?_
  rintro e w1 ⟨rfl, hb1⟩
  have B1 : Below w.heap.size w w1 := Below.then_ (by repeat (first | with_reducible exact Below.refl _ _ | with_reducible assumption | ((with_reducible refine Below.setCell ?_ ?_ _); rotate_left; · (first | omega | exact Nat.le_refl _ | (simp <;> omega))) | (with_reducible refine Below.allocW ?_ _) | (with_reducible refine Below.drew ?_) | (with_reducible refine Below.extW ?_ _))) hb1
  have s1 : w.heap.size ≤ w1.heap.size := B1.size
  rw [HC.out]
  go_wp2_with fail
  refine (HM.out _).mono ?_
  rintro e w2 ⟨rfl, rfl⟩
  go_wp2_with fail
  refine (hD.out _).mono ?_
  rintro e w3 ⟨rfl, hb3⟩
  have B3 : Below w.heap.size w w3 := Below.then_ (by repeat (first | with_reducible exact Below.refl _ _ | with_reducible assumption | ((with_reducible refine Below.setCell ?_ ?_ _); rotate_left; · (first | omega | exact Nat.le_refl _ | (simp <;> omega))) | (with_reducible refine Below.allocW ?_ _) | (with_reducible refine Below.drew ?_) | (with_reducible refine Below.extW ?_ _))) hb3
  have s3 : w.heap.size ≤ w3.heap.size := B3.size
  go_wp2_with fail
  go_ret3
  exact ⟨rfl, (by repeat (first | with_reducible exact Below.refl _ _ | with_reducible assumption | ((with_reducible refine Below.setCell ?_ ?_ _); rotate_left; · (first | omega | exact Nat.le_refl _ | (simp <;> omega))) | (with_reducible refine Below.allocW ?_ _) | (with_reducible refine Below.drew ?_) | (with_reducible refine Below.extW ?_ _)))⟩
theorem reckon_Part (w : World) (a b c : Nat) (hb : b ≤ 9223372036854775807) (hc : 1 ≤ c) (hc2 : c ≤ 9223372036854775807) (hac : a ≤ c) :
    Calls Try.prog 34 #[.int .i64 a, .int .i64 b, .int .i64 c] w fun e w' => e = .returned (.tuple #[.int .i64 (a * b / c : Nat), .bool true]) ∧ Below w.heap.size w w' := by
  have HS := Lib.hid (reckon_share · a b c hb hc hc2 hac)
  have hql := part_le (b := b) hac hc
  generalize a * b / c = q at HS hql ⊢
  generalize a * b % c = r at HS
  go_enter Try.func34, Try.ntmps34
  go_wp2_with fail
  refine (HS.out _).mono ?_
  rintro e w1 ⟨rfl, hb1⟩
  have B1 : Below w.heap.size w w1 := Below.then_ (by repeat (first | with_reducible exact Below.refl _ _ | with_reducible assumption | ((with_reducible refine Below.setCell ?_ ?_ _); rotate_left; · (first | omega | exact Nat.le_refl _ | (simp <;> omega))) | (with_reducible refine Below.allocW ?_ _) | (with_reducible refine Below.drew ?_) | (with_reducible refine Below.extW ?_ _))) hb1
  have s1 : w.heap.size ≤ w1.heap.size := B1.size
  go_wp2_with fail
  refine (reckon_count _ q (by omega)).mono ?_
  rintro e w2 ⟨rfl, hb2⟩
  have B2 : Below w.heap.size w w2 := Below.then_ (by repeat (first | with_reducible exact Below.refl _ _ | with_reducible assumption | ((with_reducible refine Below.setCell ?_ ?_ _); rotate_left; · (first | omega | exact Nat.le_refl _ | (simp <;> omega))) | (with_reducible refine Below.allocW ?_ _) | (with_reducible refine Below.drew ?_) | (with_reducible refine Below.extW ?_ _))) hb2
  have s2 : w.heap.size ≤ w2.heap.size := B2.size
  go_wp2_with fail
  go_ret2
  exact ⟨rfl, B2⟩
theorem reckon_PartUp (w : World) (a b c : Nat) (hb : b ≤ 9223372036854775807) (hc : 1 ≤ c) (hc2 : c ≤ 9223372036854775807) (hac : a ≤ c) :
    Calls Try.prog 35 #[.int .i64 a, .int .i64 b, .int .i64 c] w fun e w' => e = .returned (.tuple #[.int .i64 (upV a b c : Nat), .bool true]) ∧ Below w.heap.size w w' := by
  have HS := Lib.hid (reckon_share · a b c hb hc hc2 hac)
  have hql := part_le (b := b) hac hc
  have hqr : a * b % c ≠ 0 → a * b / c < b := fun h => part_lt hac hc h
  have hr0 : a * b % c ≤ c := by have := Nat.mod_lt (a * b) (show c > 0 by omega); omega
  unfold upV
  generalize a * b / c = q at HS hql hqr ⊢
  generalize a * b % c = r at HS hqr hr0 ⊢
  by_cases h : r = 0
  · subst h
    rw [if_pos rfl]
    go_enter Try.func35, Try.ntmps35
    go_wp2_with fail
    refine (HS.out _).mono ?_
    rintro e w1 ⟨rfl, hb1⟩
    have B1 : Below w.heap.size w w1 := Below.then_ (by repeat (first | with_reducible exact Below.refl _ _ | with_reducible assumption | ((with_reducible refine Below.setCell ?_ ?_ _); rotate_left; · (first | omega | exact Nat.le_refl _ | (simp <;> omega))) | (with_reducible refine Below.allocW ?_ _) | (with_reducible refine Below.drew ?_) | (with_reducible refine Below.extW ?_ _))) hb1
    have s1 : w.heap.size ≤ w1.heap.size := B1.size
    go_wp2_with fail
    refine (reckon_count _ q (by omega)).mono ?_
    rintro e w2 ⟨rfl, hb2⟩
    have B2 : Below w.heap.size w w2 := Below.then_ (by repeat (first | with_reducible exact Below.refl _ _ | with_reducible assumption | ((with_reducible refine Below.setCell ?_ ?_ _); rotate_left; · (first | omega | exact Nat.le_refl _ | (simp <;> omega))) | (with_reducible refine Below.allocW ?_ _) | (with_reducible refine Below.drew ?_) | (with_reducible refine Below.extW ?_ _))) hb2
    have s2 : w.heap.size ≤ w2.heap.size := B2.size
    go_wp2_with fail
    go_ret2
    exact ⟨rfl, B2⟩
  · rw [if_neg h]
    have hq2 := hqr h
    have h0 : (0 : Int) < (r : Int) := by omega
    clear hqr h
    have HK := Lib.hid (reckon_count · (q + 1) (by omega))
    push_cast at HK ⊢
    go_enter Try.func35, Try.ntmps35
    go_wp2_with fail
    refine (HS.out _).mono ?_
    rintro e w1 ⟨rfl, hb1⟩
    have B1 : Below w.heap.size w w1 := Below.then_ (by repeat (first | with_reducible exact Below.refl _ _ | with_reducible assumption | ((with_reducible refine Below.setCell ?_ ?_ _); rotate_left; · (first | omega | exact Nat.le_refl _ | (simp <;> omega))) | (with_reducible refine Below.allocW ?_ _) | (with_reducible refine Below.drew ?_) | (with_reducible refine Below.extW ?_ _))) hb1
    have s1 : w.heap.size ≤ w1.heap.size := B1.size
    go_wp2_with fail
    refine (HK.out _).mono ?_
    rintro e w2 ⟨rfl, hb2⟩
    have B2 : Below w.heap.size w w2 := Below.then_ (by repeat (first | with_reducible exact Below.refl _ _ | with_reducible assumption | ((with_reducible refine Below.setCell ?_ ?_ _); rotate_left; · (first | omega | exact Nat.le_refl _ | (simp <;> omega))) | (with_reducible refine Below.allocW ?_ _) | (with_reducible refine Below.drew ?_) | (with_reducible refine Below.extW ?_ _))) hb2
    have s2 : w.heap.size ≤ w2.heap.size := B2.size
    go_wp2_with fail
    go_ret2
    exact ⟨rfl, B2⟩
end Go.Proofs.Ytalnhdfgjjhhbaa
