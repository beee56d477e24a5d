/-
  Texts of this proof, one behind the other: Part, Reach, Reach2, Table, TabOf, RankPlain, FitsP, Of, Plus, EachOf, Bound, Bound2, BoundRef, BoundPlain, Mean, Spread, Worst, Worst2, Spread2, Alive20, BoundNobodyW.
-/
import Derived.Deep.RegionWith
import Derived.Deep.DeepCutAuto
import Derived.Shelf.SlSorted.Search
import Derived.Laws.Externs
import Derived.Test.YtalnhdfgjjhhbaaGreatP2
import Derived.Test.YtalnhdfgjjhhbaaGreatP3
/- A part of a number: package reckon, and the reference of layer 1. -/
set_option linter.unusedSimpArgs false namespace Go.Proofs.YtalnhdfgjjhhbaaGreat
open Go.ChangeShapes Go.WideShapes Go.ChangeAt Go.RowKit
set_option linter.unusedVariables false
set_option maxRecDepth 100000

/-- a * b / c, made greater to a whole number. -/
def upV (a b c : Nat) : Nat := a * b / c + if a * b % c = 0 then 0 else 1
theorem part_le {a b c : Nat} (hac : a ≤ c) (hc : 1 ≤ c) : a * b / c ≤ b := by
  have h1 : a * b ≤ b * c := by rw [Nat.mul_comm b]; exact Nat.mul_le_mul_right _ hac
  exact (Nat.div_le_iff_le_mul_add_pred (by omega)).2 (by rw [Nat.mul_comm c]; omega)
theorem part_lt {a b c : Nat} (hac : a ≤ c) (hc : 1 ≤ c) (h : a * b % c ≠ 0) : a * b / c < b := by
  refine Nat.lt_of_le_of_ne (part_le hac hc) fun e => h ?_
  have h1 : a * b ≤ c * b := Nat.mul_le_mul_right _ hac
  have h2 := Nat.div_mul_le_self (a * b) c
  rw [e, Nat.mul_comm b] at h2
  rw [Nat.le_antisymm h1 h2]
  exact Nat.mul_mod_right _ _
theorem up_le {a b c : Nat} (hac : a ≤ c) (hc : 1 ≤ c) : upV a b c ≤ b := by
  unfold upV
  split
  · exact part_le hac hc
  · rename_i h; exact part_lt hac hc h

theorem ref1_Quot_part (w : World) (A : Option Addr) (cap : Nat) (p : List Nat) (a b c : Nat) (hA : Sl w w.heap.size encD A p) (kp : okD p) (lp : p.length ≤ 100) (hV : valD p = a * b) (hb : b ≤ 9223372036854775807) (hc : 1 ≤ c) (hc2 : c ≤ 9223372036854775807) (hac : a ≤ c) :
    Calls Tryz.prog 100 #[.slice A p.length cap, .int .i64 c] w fun e w' => e = .returned (.tuple #[.int .i64 (a * b / c : Nat), .bool (decide (a * b % c ≠ 0)), .bool true]) ∧ Below w.heap.size w w' := by
  refine ref1_Quot w A cap p c (a * b) hA kp lp hV hc (by omega) ?_
  have h1 : a * b ≤ c * 9223372036854775807 := Nat.mul_le_mul hac hb
  omega
theorem ref1_PartUp (w : World) (a b c : Nat) (hb : b ≤ 9223372036854775807) (hc : 1 ≤ c) (hc2 : c ≤ 9223372036854775807) (hac : a ≤ c) :
    Calls Tryz.prog 79 #[.int .i64 a, .int .i64 b, .int .i64 c] w fun e w' => e = .returned (.tuple #[.int .i64 (upV a b c : Nat), .bool true]) ∧ Below w.heap.size w w' := by
  have ha : a ≤ 9223372036854775807 := by omega
  have HQ := Lib.hid (fun w A cap p h1 h2 h3 h4 => ref1_Quot_part w A cap p a b c h1 h2 h3 h4 hb hc hc2 hac)
  have i1 : decide ((0 : Int) ≤ (a : Int)) = true := by simp
  have i2 : decide ((0 : Int) ≤ (b : Int)) = true := by simp
  have hql := part_le (b := b) hac hc
  have hqr : decide (a * b % c ≠ 0) = true → a * b / c < b := fun h => part_lt hac hc (by simpa using h)
  have hup : upV a b c = a * b / c + if decide (a * b % c ≠ 0) = true then 1 else 0 := by unfold upV; by_cases h : a * b % c = 0 <;> simp [h]
  rw [hup]
  clear hup
  generalize hq : a * b / c = q at HQ hql hqr ⊢
  generalize hr : decide (a * b % c ≠ 0) = r at HQ hqr ⊢
  clear hq hr
  cases r
  all_goals (
    simp only [reduceIte, Bool.false_eq_true, Nat.add_zero, false_implies, true_implies] at hqr ⊢
    go_enter Tryz.func79, Tryz.ntmps79
    go_wp2_with fail
    refine (ref1_Is _ a).mono ?_
    rintro e w1 ⟨rfl, hb1⟩
    have B1 : Below w.heap.size w w1 := Below.then_ (by repeat (first | with_reducible exact Below.refl _ _ | with_reducible assumption | ((with_reducible refine Below.setCell ?_ ?_ _); rotate_left; · (first | omega | exact Nat.le_refl _ | (simp <;> omega))) | (with_reducible refine Below.allocW ?_ _) | (with_reducible refine Below.drew ?_) | (with_reducible refine Below.extW ?_ _))) hb1
    have s1 : w.heap.size ≤ w1.heap.size := B1.size
    rw [i1]
    go_wp2_with fail
    refine (ref1_Is _ b).mono ?_
    rintro e w2 ⟨rfl, hb2⟩
    have B2 : Below w.heap.size w w2 := Below.then_ (by repeat (first | with_reducible exact Below.refl _ _ | with_reducible assumption | ((with_reducible refine Below.setCell ?_ ?_ _); rotate_left; · (first | omega | exact Nat.le_refl _ | (simp <;> omega))) | (with_reducible refine Below.allocW ?_ _) | (with_reducible refine Below.drew ?_) | (with_reducible refine Below.extW ?_ _))) hb2
    have s2 : w.heap.size ≤ w2.heap.size := B2.size
    rw [i2]
    go_wp2_with fail
    refine (ref1_Digits _ a (by omega)).mono ?_
    rintro e w3 ⟨v3, L3, rfl, o3, k3, e3, l3, hb3⟩
    obtain ⟨A3, p3, rfl, _, _, S3, _⟩ := o3.form
    have B3 : Below w.heap.size w w3 := Below.then_ (by repeat (first | with_reducible exact Below.refl _ _ | with_reducible assumption | ((with_reducible refine Below.setCell ?_ ?_ _); rotate_left; · (first | omega | exact Nat.le_refl _ | (simp <;> omega))) | (with_reducible refine Below.allocW ?_ _) | (with_reducible refine Below.drew ?_) | (with_reducible refine Below.extW ?_ _))) hb3
    have s3 : w.heap.size ≤ w3.heap.size := B3.size
    have HS3 := Lib.hid S3
    have K3 := Lib.hid k3
    have E3 := Lib.hid e3
    clear o3 S3 k3 e3
    go_wp2_with fail
    refine (ref1_Digits _ b (by omega)).mono ?_
    rintro e w4 ⟨v4, L4, rfl, o4, k4, e4, l4, hb4⟩
    obtain ⟨A4, p4, rfl, _, _, S4, _⟩ := o4.form
    have B4 : Below w.heap.size w w4 := Below.then_ (by repeat (first | with_reducible exact Below.refl _ _ | with_reducible assumption | ((with_reducible refine Below.setCell ?_ ?_ _); rotate_left; · (first | omega | exact Nat.le_refl _ | (simp <;> omega))) | (with_reducible refine Below.allocW ?_ _) | (with_reducible refine Below.drew ?_) | (with_reducible refine Below.extW ?_ _))) hb4
    have s4 : w.heap.size ≤ w4.heap.size := B4.size
    have HS3' := Lib.hid (HS3.out.keep hb4.size fun p hp => hb4.cell hp)
    have HS4 := Lib.hid S4
    have K4 := Lib.hid k4
    have E4 := Lib.hid e4
    clear o4 S4 k4 e4
    go_wp2_with fail
    refine (ref1_Times _ A3 A4 p3 p4 L3 L4 HS3'.out HS4.out K3.out K4.out (by omega) (by omega)).mono ?_
    rintro e w5 ⟨v5, rfl, L5, o5, k5, e5, l5, hb5⟩
    obtain ⟨A5, p5, rfl, _, _, S5, _⟩ := o5.form
    have B5 : Below w.heap.size w w5 := Below.then_ (by repeat (first | with_reducible exact Below.refl _ _ | with_reducible assumption | ((with_reducible refine Below.setCell ?_ ?_ _); rotate_left; · (first | omega | exact Nat.le_refl _ | (simp <;> omega))) | (with_reducible refine Below.allocW ?_ _) | (with_reducible refine Below.drew ?_) | (with_reducible refine Below.extW ?_ _))) hb5
    have s5 : w.heap.size ≤ w5.heap.size := B5.size
    have HS5 := Lib.hid S5
    have K5 := Lib.hid k5
    have E5 := Lib.hid (show valD L5 = a * b by rw [e5, E3.out, E4.out])
    have l5' : L5.length ≤ 50 := by omega
    clear o5 S5 k5 e5 l5
    go_wp2_with fail
    refine (HQ.out _ A5 p5 L5 HS5.out K5.out (by omega) E5.out).mono ?_
    rintro e w6 ⟨rfl, hb6⟩
    have B6 : Below w.heap.size w w6 := Below.then_ (by repeat (first | with_reducible exact Below.refl _ _ | with_reducible assumption | ((with_reducible refine Below.setCell ?_ ?_ _); rotate_left; · (first | omega | exact Nat.le_refl _ | (simp <;> omega))) | (with_reducible refine Below.allocW ?_ _) | (with_reducible refine Below.drew ?_) | (with_reducible refine Below.extW ?_ _))) hb6
    have s6 : w.heap.size ≤ w6.heap.size := B6.size
    go_wp2_with fail
    go_ret2
    exact ⟨by first | rfl | simp, B6⟩)

theorem reckon_share (w : World) (a b c : Nat) (hb : b ≤ 9223372036854775807) (hc : 1 ≤ c) (hc2 : c ≤ 9223372036854775807) (hac : a ≤ c) :
    Calls Tryz.prog 138 #[.int .i64 a, .int .i64 b, .int .i64 c] w fun e w' => e = .returned (.tuple #[.int .u64 (a * b / c : Nat), .int .u64 (a * b % c : Nat), .bool true]) ∧ Below w.heap.size w w' := by
  have ha : a ≤ 9223372036854775807 := by omega
  have HC := Lib.hid (show decide (0 ≤ (a : Int) ∧ 0 ≤ (b : Int)) = true by simp)
  have HM : Hid (∀ W, Calls Tryz.prog 150 #[.int .u64 a, .int .u64 b] W fun e w' => e = .returned (.tuple #[.int .u64 (a * b / 18446744073709551616 : Nat), .int .u64 (a * b % 18446744073709551616 : Nat)]) ∧ w' = W) := Lib.hid fun W => Tryz.bits_Mul64 a b (by omega) (by omega) W
  have h1 : a * b ≤ c * 9223372036854775807 := Nat.mul_le_mul hac hb
  have hhi : a * b / 18446744073709551616 < c := by omega
  have hlo : a * b % 18446744073709551616 ≤ 18446744073709551615 := by omega
  have hD := Lib.hid (fun w => bits_Div64 w (a * b / 18446744073709551616) (a * b % 18446744073709551616) c (by omega) hhi (by omega))
  rw [Nat.div_add_mod'] at hD
  have hr0 : a * b % c ≤ c := by have := Nat.mod_lt (a * b) (show c > 0 by omega); omega
  have hql := part_le (b := b) hac hc
  clear h1
  generalize a * b / 18446744073709551616 = hi at HM hhi hD
  generalize a * b % 18446744073709551616 = lo at HM hlo hD
  generalize a * b / c = q at hD hql ⊢
  generalize a * b % c = r at hD hr0 ⊢
  have hhi' : decide ((c : Int) ≤ (hi : Int)) = false := by simp; omega
  go_enter Tryz.func138, Tryz.ntmps138
  go_wp2_with fail
  refine (reckon_counts _ a b).mono ?_
  rintro e w1 ⟨rfl, hb1⟩
  have B1 : Below w.heap.size w w1 := Below.then_ (by repeat (first | with_reducible exact Below.refl _ _ | with_reducible assumption | ((with_reducible refine Below.setCell ?_ ?_ _); rotate_left; · (first | omega | exact Nat.le_refl _ | (simp <;> omega))) | (with_reducible refine Below.allocW ?_ _) | (with_reducible refine Below.drew ?_) | (with_reducible refine Below.extW ?_ _))) hb1
  have s1 : w.heap.size ≤ w1.heap.size := B1.size
  rw [HC.out]
  go_wp2_with fail
  refine (HM.out _).mono ?_
  rintro e w2 ⟨rfl, rfl⟩
  go_wp2_with fail
  refine (hD.out _).mono ?_
  rintro e w3 ⟨rfl, hb3⟩
  have B3 : Below w.heap.size w w3 := Below.then_ (by repeat (first | with_reducible exact Below.refl _ _ | with_reducible assumption | ((with_reducible refine Below.setCell ?_ ?_ _); rotate_left; · (first | omega | exact Nat.le_refl _ | (simp <;> omega))) | (with_reducible refine Below.allocW ?_ _) | (with_reducible refine Below.drew ?_) | (with_reducible refine Below.extW ?_ _))) hb3
  have s3 : w.heap.size ≤ w3.heap.size := B3.size
  go_wp2_with fail
  go_ret3
  exact ⟨rfl, (by repeat (first | with_reducible exact Below.refl _ _ | with_reducible assumption | ((with_reducible refine Below.setCell ?_ ?_ _); rotate_left; · (first | omega | exact Nat.le_refl _ | (simp <;> omega))) | (with_reducible refine Below.allocW ?_ _) | (with_reducible refine Below.drew ?_) | (with_reducible refine Below.extW ?_ _)))⟩
theorem reckon_Part (w : World) (a b c : Nat) (hb : b ≤ 9223372036854775807) (hc : 1 ≤ c) (hc2 : c ≤ 9223372036854775807) (hac : a ≤ c) :
    Calls Tryz.prog 148 #[.int .i64 a, .int .i64 b, .int .i64 c] w fun e w' => e = .returned (.tuple #[.int .i64 (a * b / c : Nat), .bool true]) ∧ Below w.heap.size w w' := by
  have HS := Lib.hid (reckon_share · a b c hb hc hc2 hac)
  have hql := part_le (b := b) hac hc
  generalize a * b / c = q at HS hql ⊢
  generalize a * b % c = r at HS
  go_enter Tryz.func148, Tryz.ntmps148
  go_wp2_with fail
  refine (HS.out _).mono ?_
  rintro e w1 ⟨rfl, hb1⟩
  have B1 : Below w.heap.size w w1 := Below.then_ (by repeat (first | with_reducible exact Below.refl _ _ | with_reducible assumption | ((with_reducible refine Below.setCell ?_ ?_ _); rotate_left; · (first | omega | exact Nat.le_refl _ | (simp <;> omega))) | (with_reducible refine Below.allocW ?_ _) | (with_reducible refine Below.drew ?_) | (with_reducible refine Below.extW ?_ _))) hb1
  have s1 : w.heap.size ≤ w1.heap.size := B1.size
  go_wp2_with fail
  refine (reckon_count _ q (by omega)).mono ?_
  rintro e w2 ⟨rfl, hb2⟩
  have B2 : Below w.heap.size w w2 := Below.then_ (by repeat (first | with_reducible exact Below.refl _ _ | with_reducible assumption | ((with_reducible refine Below.setCell ?_ ?_ _); rotate_left; · (first | omega | exact Nat.le_refl _ | (simp <;> omega))) | (with_reducible refine Below.allocW ?_ _) | (with_reducible refine Below.drew ?_) | (with_reducible refine Below.extW ?_ _))) hb2
  have s2 : w.heap.size ≤ w2.heap.size := B2.size
  go_wp2_with fail
  go_ret2
  exact ⟨rfl, B2⟩
theorem reckon_PartUp (w : World) (a b c : Nat) (hb : b ≤ 9223372036854775807) (hc : 1 ≤ c) (hc2 : c ≤ 9223372036854775807) (hac : a ≤ c) :
    Calls Tryz.prog 77 #[.int .i64 a, .int .i64 b, .int .i64 c] w fun e w' => e = .returned (.tuple #[.int .i64 (upV a b c : Nat), .bool true]) ∧ Below w.heap.size w w' := by
  have HS := Lib.hid (reckon_share · a b c hb hc hc2 hac)
  have hql := part_le (b := b) hac hc
  have hqr : a * b % c ≠ 0 → a * b / c < b := fun h => part_lt hac hc h
  have hr0 : a * b % c ≤ c := by have := Nat.mod_lt (a * b) (show c > 0 by omega); omega
  unfold upV
  generalize a * b / c = q at HS hql hqr ⊢
  generalize a * b % c = r at HS hqr hr0 ⊢
  by_cases h : r = 0
  · subst h
    rw [if_pos rfl]
    go_enter Tryz.func77, Tryz.ntmps77
    go_wp2_with fail
    refine (HS.out _).mono ?_
    rintro e w1 ⟨rfl, hb1⟩
    have B1 : Below w.heap.size w w1 := Below.then_ (by repeat (first | with_reducible exact Below.refl _ _ | with_reducible assumption | ((with_reducible refine Below.setCell ?_ ?_ _); rotate_left; · (first | omega | exact Nat.le_refl _ | (simp <;> omega))) | (with_reducible refine Below.allocW ?_ _) | (with_reducible refine Below.drew ?_) | (with_reducible refine Below.extW ?_ _))) hb1
    have s1 : w.heap.size ≤ w1.heap.size := B1.size
    go_wp2_with fail
    refine (reckon_count _ q (by omega)).mono ?_
    rintro e w2 ⟨rfl, hb2⟩
    have B2 : Below w.heap.size w w2 := Below.then_ (by repeat (first | with_reducible exact Below.refl _ _ | with_reducible assumption | ((with_reducible refine Below.setCell ?_ ?_ _); rotate_left; · (first | omega | exact Nat.le_refl _ | (simp <;> omega))) | (with_reducible refine Below.allocW ?_ _) | (with_reducible refine Below.drew ?_) | (with_reducible refine Below.extW ?_ _))) hb2
    have s2 : w.heap.size ≤ w2.heap.size := B2.size
    go_wp2_with fail
    go_ret2
    exact ⟨rfl, B2⟩
  · rw [if_neg h]
    have hq2 := hqr h
    have h0 : (0 : Int) < (r : Int) := by omega
    clear hqr h
    have HK := Lib.hid (reckon_count · (q + 1) (by omega))
    push_cast at HK ⊢
    go_enter Tryz.func77, Tryz.ntmps77
    go_wp2_with fail
    refine (HS.out _).mono ?_
    rintro e w1 ⟨rfl, hb1⟩
    have B1 : Below w.heap.size w w1 := Below.then_ (by repeat (first | with_reducible exact Below.refl _ _ | with_reducible assumption | ((with_reducible refine Below.setCell ?_ ?_ _); rotate_left; · (first | omega | exact Nat.le_refl _ | (simp <;> omega))) | (with_reducible refine Below.allocW ?_ _) | (with_reducible refine Below.drew ?_) | (with_reducible refine Below.extW ?_ _))) hb1
    have s1 : w.heap.size ≤ w1.heap.size := B1.size
    go_wp2_with fail
    refine (HK.out _).mono ?_
    rintro e w2 ⟨rfl, hb2⟩
    have B2 : Below w.heap.size w w2 := Below.then_ (by repeat (first | with_reducible exact Below.refl _ _ | with_reducible assumption | ((with_reducible refine Below.setCell ?_ ?_ _); rotate_left; · (first | omega | exact Nat.le_refl _ | (simp <;> omega))) | (with_reducible refine Below.allocW ?_ _) | (with_reducible refine Below.drew ?_) | (with_reducible refine Below.extW ?_ _))) hb2
    have s2 : w.heap.size ≤ w2.heap.size := B2.size
    go_wp2_with fail
    go_ret2
    exact ⟨rfl, B2⟩
end Go.Proofs.YtalnhdfgjjhhbaaGreat
/- Package reach: Between. -/
namespace Go.Proofs.YtalnhdfgjjhhbaaGreat
open Go.ChangeShapes Go.WideShapes Go.ChangeAt Go.RowKit
set_option linter.unusedVariables false
set_option maxRecDepth 100000

/-- What those nodes weigh that lie in a range, and what those weigh that meet it. -/
def inLow (a b lo hi : Int) : Bool := decide (a ≤ lo) && decide (hi ≤ b)
def inHigh (a b lo hi : Int) : Bool := decide (lo ≤ b) && decide (a ≤ hi)
def betwLow (l : Int) (r : List Nd) (a b : Int) : Int := weighR l (inLow a b) r
def betwHigh (l : Int) (r : List Nd) (a b : Int) : Int := weighR l (inHigh a b) r
theorem weighR_one (l : Int) (f : Int → Int → Bool) (x : Nd) : weighR l f [x] = if f (endsOf l x.1).1 (endsOf l x.1).2.1 = true then x.2 else 0 := by simp only [weighR]; simp
theorem weighR_take {l : Int} {f : Int → Int → Bool} {r : List Nd} {q : Nat} (h : q < r.length) : weighR l f (r.take (q + 1)) = weighR l f (r.take q) + if f (endsOf l r[q].1).1 (endsOf l r[q].1).2.1 = true then r[q].2 else 0 := by
  rw [List.take_succ_eq_append_getElem h, weighR_append, weighR_one]

theorem le_or_dec (a b : Int) : a ≤ b ∨ decide (a ≤ b) = false := by
  by_cases h : a ≤ b
  · exact .inl h
  · exact .inr (decide_eq_false h)
theorem reach_Between1 (w : World) (id l a b : Int) (p q s : Nat) (hid : id ≤ 9223372036854775807) (h1 : w.cell? ⟨p, 0, none⟩ = some (.int .i64 l)) (h2 : w.cell? ⟨q, 0, none⟩ = some (.int .i64 a)) (h3 : w.cell? ⟨s, 0, none⟩ = some (.int .i64 b)) :
    Calls Tryz.prog 65 #[.int .i64 id, .pointer (some ⟨p, 0, none⟩), .pointer (some ⟨q, 0, none⟩), .pointer (some ⟨s, 0, none⟩)] w fun e w' => e = .returned (.tuple #[.bool (inLow a b (endsOf l id).1 (endsOf l id).2.1), .bool (inHigh a b (endsOf l id).1 (endsOf l id).2.1)]) ∧ Below w.heap.size w w' := by
  have HE := Lib.hid (twig_Ends · l id hid)
  have zq := lt_of_cell h2
  have zs := lt_of_cell h3
  generalize endsOf l id = t at HE ⊢
  obtain ⟨lo, hi, ok⟩ := t
  unfold endsV at HE
  simp only [inLow, inHigh]
  have H2 := Lib.hid h2
  have H3 := Lib.hid h3
  clear h2 h3
  rcases le_or_dec a lo with k1 | k1
  all_goals rcases le_or_dec lo b with k2 | k2
  all_goals (
    go_enter Tryz.func65, Tryz.ntmps65
    go_wp2_with fail
    refine (HE.out _).mono ?_
    rintro e w1 ⟨rfl, hb1⟩
    have B1 : Below w.heap.size w w1 := Below.then_ (by repeat (first | with_reducible exact Below.refl _ _ | with_reducible assumption | ((with_reducible refine Below.setCell ?_ ?_ _); rotate_left; · (first | omega | exact Nat.le_refl _ | (simp <;> omega))) | (with_reducible refine Below.allocW ?_ _) | (with_reducible refine Below.drew ?_) | (with_reducible refine Below.extW ?_ _))) hb1
    have s1 : w.heap.size ≤ w1.heap.size := B1.size
    have c2 := (hb1.cell (p := ⟨q, 0, none⟩) zq).trans H2.out
    have c3 := (hb1.cell (p := ⟨s, 0, none⟩) zs).trans H3.out
    have z2 := Nat.lt_of_lt_of_le zq s1
    have z3 := Nat.lt_of_lt_of_le zs s1
    go_wp2_with fail
    refine wp_region_ext (by kernel_rfl) (by kernel_rfl) ?_
    repeat (go_big_quiet_step (fail))
    refine wpQuiet_nil ?_
    intro w2 hb2
    replace hb2 := below_of_ext hb2
    have B2 : Below w.heap.size w w2 := Below.then_ (by repeat (first | with_reducible exact Below.refl _ _ | with_reducible assumption | ((with_reducible refine Below.setCell ?_ ?_ _); rotate_left; · (first | omega | exact Nat.le_refl _ | (simp <;> omega))) | (with_reducible refine Below.allocW ?_ _) | (with_reducible refine Below.drew ?_) | (with_reducible refine Below.extW ?_ _))) hb2
    have s2 : w.heap.size ≤ w2.heap.size := B2.size
    go_wp2_with fail
    go_ret2
    exact ⟨by simp [k1, k2], B2⟩)

/-- The cell of a Both. -/
def bothAt (w : World) (b : Nat) (lo hi : Int) : Prop := w.heap[b]? = some (.cells #[.int .i64 lo, .int .i64 hi] 29 (0, 0))
theorem bothAt.below {w w' : World} {b : Nat} {lo hi : Int} (h : bothAt w b lo hi) (hb : Below w.heap.size w w') : bothAt w' b lo hi := blk_below h hb
theorem bothAt.alloc {w : World} {b : Nat} {lo hi : Int} (h : bothAt w b lo hi) (o : Obj) : bothAt (w.alloc o) b lo hi := h.below ((Below.refl _ _).alloc (Nat.le_refl _) o)
theorem bothAt.drew {w : World} {b : Nat} {lo hi : Int} (h : bothAt w b lo hi) : bothAt w.drew b lo hi := h
theorem bothAt.set0 {w : World} {b : Nat} {lo hi : Int} (h : bothAt w b lo hi) (x : Int) : bothAt (w.setCell ⟨b, 0, none⟩ (.int .i64 x)) b x hi := heap_set_at (i := 0) h _
theorem bothAt.set1 {w : World} {b : Nat} {lo hi : Int} (h : bothAt w b lo hi) (x : Int) : bothAt (w.setCell ⟨b, 1, none⟩ (.int .i64 x)) b lo x := heap_set_at (i := 1) h _
theorem bothAt.set {w : World} {b q o : Nat} {lo hi : Int} (h : bothAt w b lo hi) (hne : b ≠ q) (u : Value) : bothAt (w.setCell ⟨q, o, none⟩ u) b lo hi := (Below.heap_setCell _ _ _ _ hne).trans h
theorem bothAt.new (w : World) (lo hi : Int) : bothAt (w.alloc (.cells #[.int .i64 lo, .int .i64 hi] 29)) w.heap.size lo hi := heap_alloc_new _ _

set_option maxHeartbeats 2000000 in
theorem sum_Between (w : World) (g K l : Nat) (k : Int) (r : List Nd) (F : Nat → Prop) (a b : Int) (p q s : Nat) (h : DigAt w g K l k r F) (hn : r.length ≤ 67108864) (h1 : w.cell? ⟨p, 0, none⟩ = some (.int .i64 l)) (h2 : w.cell? ⟨q, 0, none⟩ = some (.int .i64 a)) (h3 : w.cell? ⟨s, 0, none⟩ = some (.int .i64 b)) :
    Calls Tryz.prog 64 #[.pointer (some ⟨g, 0, none⟩), .func (.func 65) #[] #[.pointer (some ⟨p, 0, none⟩), .pointer (some ⟨q, 0, none⟩), .pointer (some ⟨s, 0, none⟩)]] w fun e w' => e = .returned (.agg #[.int .i64 (betwLow l r a b), .int .i64 (betwHigh l r a b)]) ∧ Below w.heap.size w w' := by
  have hf := h.fits
  have hll := h.l_le
  have HD := Lib.hid h
  have z1 := lt_of_cell h1
  have z2 := lt_of_cell h2
  have z3 := lt_of_cell h3
  have H1 := Lib.hid h1
  have H2 := Lib.hid h2
  have H3 := Lib.hid h3
  clear h h1 h2 h3
  go_enter Tryz.func64, Tryz.ntmps64
  go_wp2_with fail
  have B0 : Below w.heap.size w ((w.alloc (.cells #[.int .i64 0, .int .i64 0] 29)).alloc (.cells #[.int .i64 0, .int .i64 0] 29)) := (by repeat (first | with_reducible exact Below.refl _ _ | with_reducible assumption | ((with_reducible refine Below.setCell ?_ ?_ _); rotate_left; · (first | omega | exact Nat.le_refl _ | (simp <;> omega))) | (with_reducible refine Below.allocW ?_ _) | (with_reducible refine Below.drew ?_) | (with_reducible refine Below.extW ?_ _)))
  have K0 := Lib.hid ((bothAt.new w 0 0).alloc (.cells #[.int .i64 0, .int .i64 0] 29))
  have K1 := Lib.hid (bothAt.new (w.alloc (.cells #[.int .i64 0, .int .i64 0] 29)) 0 0)
  simp only [World.size_alloc] at K1
  refine (digest_Nodes _ g K l k r F (HD.out.below B0) hn).mono ?_
  rintro e w2 ⟨v, rfl, ho, hb2⟩
  have B2 : Below w.heap.size w w2 := Below.then_ (by repeat (first | with_reducible exact Below.refl _ _ | with_reducible assumption | ((with_reducible refine Below.setCell ?_ ?_ _); rotate_left; · (first | omega | exact Nat.le_refl _ | (simp <;> omega))) | (with_reducible refine Below.allocW ?_ _) | (with_reducible refine Below.drew ?_) | (with_reducible refine Below.extW ?_ _))) hb2
  have s2 : w.heap.size ≤ w2.heap.size := B2.size
  have HO := Lib.hid ho
  simp only [World.size_alloc] at HO
  have M0 := Lib.hid (K0.out.below hb2)
  have M1 := Lib.hid (K1.out.below hb2)
  have z0 : w.heap.size + 2 ≤ w2.heap.size := by have := hb2.size; simp at this; omega
  obtain ⟨A, cap, rfl, _⟩ := ho.form
  clear ho K0 K1 hb2 B0
  go_wp2_with fail
  go_loopw [13] (fun i wr => ∃ q : Nat, q ≤ r.length ∧ i = .int .i64 q ∧ bothAt wr w.heap.size 0 0 ∧ bothAt wr (w.heap.size + 1) (betwLow l (r.take q) a b) (betwHigh l (r.take q) a b) ∧ Own wr (w.heap.size + 1 + 1) 99 encN (.slice A r.length cap) r ∧ Below w.heap.size w wr) (fun i _ => r.length - (intOf i).toNat)
  case atStart => exact ⟨0, Nat.zero_le _, rfl, M0.out, M1.out, HO.out, B2⟩
  case round =>
    obtain ⟨j, hj, rfl, hm0, hm1, hown, hB⟩ := hrel
    have KO := Lib.hid hown
    have N0 := Lib.hid hm0
    have N1 := Lib.hid hm1
    have hs := hB.size
    have zn1 := lt_of_block hm1
    clear hown hm0
    by_cases hlt : j < r.length
    · obtain ⟨c, off, rfl, hc, hcl⟩ := KO.out.sl.at_ hlt
      have d0 := hcl 0 (.int .i64 r[j].1) rfl
      have d1 := hcl 1 (.int .i64 r[j].2) rfl
      simp only [Nat.add_zero] at d0
      have hx := hf.roll.2 _ (List.getElem_mem hlt)
      have hxl := hf.lt _ (List.getElem_mem hlt)
      have e1 := sumR_take_succ hlt
      have e2 := sumR_take_le hf.roll (j + 1)
      have e3 := hf.sum
      have e5 := weighR_le (l := l) (f := inLow a b) (hf.roll.take j)
      have e6 := weighR_le (l := l) (f := inHigh a b) (hf.roll.take j)
      have E7 : betwLow l (r.take (j + 1)) a b = _ := weighR_take hlt
      have E8 : betwHigh l (r.take (j + 1)) a b = _ := weighR_take hlt
      have hp := pow_48 (n := l) hll.2
      unfold betwLow at hm1 N1 E7 ⊢
      unfold betwHigh at hm1 N1 E8 ⊢
      obtain ⟨x, hxe⟩ : ∃ x, x = r[j] := ⟨_, rfl⟩
      rw [← hxe] at d0 d1 hx hxl e1 E7 E8
      have n2 : weighR l (inLow a b) (r.take j) + x.2 ≤ 72057594037927935 := by omega
      have n3 : weighR l (inHigh a b) (r.take j) + x.2 ≤ 72057594037927935 := by omega
      have n0 := e5.1
      have n1 := e6.1
      have hx1 : x.1 ≤ 562949953421312 := by omega
      have hx2 := hx.2
      have HC := Lib.hid (fun W => reach_Between1 W x.1 l a b p q s (by omega))
      generalize weighR l (inLow a b) (r.take j) = m at n0 n2 E7 hm1 N1
      generalize weighR l (inHigh a b) (r.take j) = n at n1 n3 E8 hm1 N1
      generalize inLow a b (endsOf l x.1).1 (endsOf l x.1).2.1 = bl at E7 HC
      generalize inHigh a b (endsOf l x.1).1 (endsOf l x.1).2.1 = bh at E8 HC
      have E7 := Lib.hid E7
      have E8 := Lib.hid E8
      clear hcl e1 e2 e3 e5 e6 hxe hxl hp hx hm1
      go_wp2_with fail
      have W3 : Below w.heap.size w (wr.alloc (.cells #[.int .i64 x.1, .int .i64 x.2] 99)) := hB.alloc hs _
      refine (HC.out _ ((W3.cell (p := ⟨p, 0, none⟩) z1).trans H1.out) ((W3.cell (p := ⟨q, 0, none⟩) z2).trans H2.out) ((W3.cell (p := ⟨s, 0, none⟩) z3).trans H3.out)).mono ?_
      rintro e w4 ⟨rfl, hb4⟩
      have B4 : Below w.heap.size w w4 := Below.then_ (by repeat (first | with_reducible exact Below.refl _ _ | with_reducible assumption | ((with_reducible refine Below.setCell ?_ ?_ _); rotate_left; · (first | omega | exact Nat.le_refl _ | (simp <;> omega))) | (with_reducible refine Below.allocW ?_ _) | (with_reducible refine Below.drew ?_) | (with_reducible refine Below.extW ?_ _))) hb4
      have s4 : w.heap.size ≤ w4.heap.size := B4.size
      have z4_0 : wr.heap.size < w4.heap.size := by have := hb4.size; (try simp at this); omega
      have y4_0 : wr.heap.size ≤ w4.heap.size := Nat.le_of_lt z4_0
      have c4_0 := fun o => hb4.cell (p := ⟨wr.heap.size, o, none⟩) (by first | omega | (simp <;> omega))
      have f4_0 := fun o => hb4.frozen (p := ⟨wr.heap.size, o, none⟩) (by first | omega | (simp <;> omega))
      have L0 := Lib.hid ((N0.out.alloc _).below hb4)
      have l1 := (N1.out.alloc _).below hb4
      have L1 := Lib.hid l1
      have LO := Lib.hid ((KO.out.alloc _).below hb4)
      have cc := blk_cell l1
      have cf := blk_frozen l1
      have zz := lt_of_block l1
      have hne : w.heap.size ≠ w.heap.size + 1 := by omega
      clear l1 hb4
      cases bl
      all_goals cases bh
      all_goals (
        go_wp2_with fail
        go_roundw
        case rel =>
          have F7 := E7.out
          have F8 := E8.out
          simp only [Bool.false_eq_true, if_false, if_true, Int.add_zero, reduceIte] at F7 F8
          refine ⟨j + 1, by omega, by go_num, ?_, ?_, ?_, (by repeat (first | with_reducible exact Below.refl _ _ | with_reducible assumption | ((with_reducible refine Below.setCell ?_ ?_ _); rotate_left; · (first | omega | exact Nat.le_refl _ | (simp <;> omega))) | (with_reducible refine Below.allocW ?_ _) | (with_reducible refine Below.drew ?_) | (with_reducible refine Below.extW ?_ _)))⟩
          · first
              | exact L0.out
              | exact L0.out.set hne _
              | exact (L0.out.set hne _).set hne _
          · rw [F7, F8]
            first
              | exact L1.out
              | exact L1.out.set0 _
              | exact L1.out.set1 _
              | exact (L1.out.set0 _).set1 _
          · first
              | exact LO.out
              | exact LO.out.setCellB (by simp only; omega)
              | exact (LO.out.setCellB (by simp only; omega)).setCellB (by simp only; omega)
        case measure => simp [intOf]; omega)
    · obtain rfl : j = r.length := by omega
      rw [List.take_length] at N1 hm1
      have cc := blk_cell hm1
      have cf0 := blk_frozen N0.out
      have cc0 := blk_cell N0.out
      have zn0 := lt_of_block N0.out
      clear hm1
      go_wp2_with fail
      exact bodyPost_ret (v := .agg #[.int .i64 (betwLow l r a b), .int .i64 (betwHigh l r a b)]) (by simp only [results, Tryz.results64]; go_simp) rfl ⟨rfl, (by repeat (first | with_reducible exact Below.refl _ _ | with_reducible assumption | ((with_reducible refine Below.setCell ?_ ?_ _); rotate_left; · (first | omega | exact Nat.le_refl _ | (simp <;> omega))) | (with_reducible refine Below.allocW ?_ _) | (with_reducible refine Below.drew ?_) | (with_reducible refine Below.extW ?_ _)))⟩
end Go.Proofs.YtalnhdfgjjhhbaaGreat
/- Package reach: Between and Share. -/
namespace Go.Proofs.YtalnhdfgjjhhbaaGreat
open Go.ChangeShapes Go.WideShapes Go.ChangeAt Go.RowKit
set_option linter.unusedVariables false
set_option maxRecDepth 100000

/-- What Between tells: the two weights, and the error. -/
def betw (l : Int) (r : List Nd) (a b : Int) : Int × Int × Int := if b < a then (0, 0, 2) else (betwLow l r a b, betwHigh l r a b, 0)
/-- What Share tells. -/
def share (l : Int) (r : List Nd) (a b d : Int) : Int × Int × Int :=
  if sumR r = 0 then (0, 0, 7) else if d < 1 ∨ b < a then (0, 0, 2) else (((betwLow l r a b).toNat * d.toNat / (sumR r).toNat : Nat), (upV (betwHigh l r a b).toNat d.toNat (sumR r).toNat : Nat), 0)
def bothV (t : Int × Int × Int) : Value := .tuple #[.agg #[.int .i64 t.1, .int .i64 t.2.1], .int .i64 t.2.2]
theorem betw_no {l a b : Int} {r : List Nd} (h : b < a) : bothV (betw l r a b) = .tuple #[.agg #[.int .i64 0, .int .i64 0], .int .i64 2] := by unfold betw; rw [if_pos h]; rfl
theorem betw_yes {l a b : Int} {r : List Nd} (h : ¬ b < a) : bothV (betw l r a b) = .tuple #[.agg #[.int .i64 (betwLow l r a b), .int .i64 (betwHigh l r a b)], .int .i64 0] := by unfold betw; rw [if_neg h]; rfl

theorem reach_Between (w : World) (g K l : Nat) (k : Int) (r : List Nd) (F : Nat → Prop) (a b : Int) (h : DigAt w g K l k r F) (hn : r.length ≤ 67108864) :
    Calls Tryz.prog 19 #[.pointer (some ⟨g, 0, none⟩), .int .i64 a, .int .i64 b] w fun e w' => e = .returned (bothV (betw l r a b)) ∧ Below w.heap.size w w' := by
  have HD := Lib.hid h
  clear h
  by_cases hab : b < a
  · rw [betw_no hab]
    go_enter Tryz.func19, Tryz.ntmps19
    go_wp2_with fail
    exact bodyPost_ret (v := .tuple #[.agg #[.int .i64 0, .int .i64 0], .int .i64 2]) (by simp only [results, Tryz.results19]; go_simp) rfl ⟨rfl, (by repeat (first | with_reducible exact Below.refl _ _ | with_reducible assumption | ((with_reducible refine Below.setCell ?_ ?_ _); rotate_left; · (first | omega | exact Nat.le_refl _ | (simp <;> omega))) | (with_reducible refine Below.allocW ?_ _) | (with_reducible refine Below.drew ?_) | (with_reducible refine Below.extW ?_ _)))⟩
  · rw [betw_yes hab]
    have h1 : decide (b < a) = false := by simpa using hab
    have hba : a ≤ b := by omega
    clear hab
    go_enter Tryz.func19, Tryz.ntmps19
    go_wp2_with fail
    have B0 : Below w.heap.size w (((w.alloc (.cells #[.int .i64 a] 3)).alloc (.cells #[.int .i64 b] 3)).alloc (.cells #[.int .i64 0, .int .i64 0] 29)) := (by repeat (first | with_reducible exact Below.refl _ _ | with_reducible assumption | ((with_reducible refine Below.setCell ?_ ?_ _); rotate_left; · (first | omega | exact Nat.le_refl _ | (simp <;> omega))) | (with_reducible refine Below.allocW ?_ _) | (with_reducible refine Below.drew ?_) | (with_reducible refine Below.extW ?_ _)))
    have ca : (((w.alloc (.cells #[.int .i64 a] 3)).alloc (.cells #[.int .i64 b] 3)).alloc (.cells #[.int .i64 0, .int .i64 0] 29)).cell? ⟨w.heap.size, 0, none⟩ = some (.int .i64 a) := by go_simp
    have cb : (((w.alloc (.cells #[.int .i64 a] 3)).alloc (.cells #[.int .i64 b] 3)).alloc (.cells #[.int .i64 0, .int .i64 0] 29)).cell? ⟨w.heap.size + 1, 0, none⟩ = some (.int .i64 b) := by go_simp
    have HA := Lib.hid ca
    have HB := Lib.hid cb
    clear ca cb
    refine (digest_Conf _ g K l k r F (HD.out.below B0)).mono ?_
    rintro e w1 ⟨rfl, hb1⟩
    have B1 : Below w.heap.size w w1 := Below.then_ (by repeat (first | with_reducible exact Below.refl _ _ | with_reducible assumption | ((with_reducible refine Below.setCell ?_ ?_ _); rotate_left; · (first | omega | exact Nat.le_refl _ | (simp <;> omega))) | (with_reducible refine Below.allocW ?_ _) | (with_reducible refine Below.drew ?_) | (with_reducible refine Below.extW ?_ _))) hb1
    have s1 : w.heap.size ≤ w1.heap.size := B1.size
    have z1_0 : w.heap.size < w1.heap.size := by have := hb1.size; (try simp at this); omega
    have y1_0 : w.heap.size ≤ w1.heap.size := Nat.le_of_lt z1_0
    have c1_0 := fun o => hb1.cell (p := ⟨w.heap.size, o, none⟩) (by first | omega | (simp <;> omega))
    have f1_0 := fun o => hb1.frozen (p := ⟨w.heap.size, o, none⟩) (by first | omega | (simp <;> omega))
    have z1_1 : w.heap.size + 1 < w1.heap.size := by have := hb1.size; (try simp at this); omega
    have y1_1 : w.heap.size + 1 ≤ w1.heap.size := Nat.le_of_lt z1_1
    have c1_1 := fun o => hb1.cell (p := ⟨w.heap.size + 1, o, none⟩) (by first | omega | (simp <;> omega))
    have f1_1 := fun o => hb1.frozen (p := ⟨w.heap.size + 1, o, none⟩) (by first | omega | (simp <;> omega))
    have z1_2 : w.heap.size + 1 + 1 < w1.heap.size := by have := hb1.size; (try simp at this); omega
    have y1_2 : w.heap.size + 1 + 1 ≤ w1.heap.size := Nat.le_of_lt z1_2
    have c1_2 := fun o => hb1.cell (p := ⟨w.heap.size + 1 + 1, o, none⟩) (by first | omega | (simp <;> omega))
    have f1_2 := fun o => hb1.frozen (p := ⟨w.heap.size + 1 + 1, o, none⟩) (by first | omega | (simp <;> omega))
    have KD := Lib.hid ((HD.out.below B1).below ((Below.refl w1.heap.size w1).alloc (Nat.le_refl _) (.cells #[.int .i64 l] 3)))
    have WA := (Below.refl w1.heap.size w1).alloc (Nat.le_refl _) (.cells #[.int .i64 l] 3)
    have ca := (WA.cell (p := ⟨w.heap.size, 0, none⟩) z1_0).trans ((c1_0 0).trans HA.out)
    have cb := (WA.cell (p := ⟨w.heap.size + 1, 0, none⟩) z1_1).trans ((c1_1 0).trans HB.out)
    have HA1 := Lib.hid ca
    have HB1 := Lib.hid cb
    clear ca cb WA hb1
    go_wp2_with fail
    refine (sum_Between _ g K l k r F a b w1.heap.size w.heap.size (w.heap.size + 1) KD.out hn (by go_simp) HA1.out HB1.out).mono ?_
    rintro e w2 ⟨rfl, hb2⟩
    have B2 : Below w.heap.size w w2 := Below.then_ (by repeat (first | with_reducible exact Below.refl _ _ | with_reducible assumption | ((with_reducible refine Below.setCell ?_ ?_ _); rotate_left; · (first | omega | exact Nat.le_refl _ | (simp <;> omega))) | (with_reducible refine Below.allocW ?_ _) | (with_reducible refine Below.drew ?_) | (with_reducible refine Below.extW ?_ _))) hb2
    have s2 : w.heap.size ≤ w2.heap.size := B2.size
    have z2_0 : w.heap.size + 1 + 1 < w2.heap.size := by have := hb2.size; (try simp at this); omega
    have y2_0 : w.heap.size + 1 + 1 ≤ w2.heap.size := Nat.le_of_lt z2_0
    have c2_0 := fun o => hb2.cell (p := ⟨w.heap.size + 1 + 1, o, none⟩) (by first | omega | (simp <;> omega))
    have f2_0 := fun o => hb2.frozen (p := ⟨w.heap.size + 1 + 1, o, none⟩) (by first | omega | (simp <;> omega))
    go_wp2_with fail
    exact bodyPost_ret (v := .tuple #[.agg #[.int .i64 (betwLow l r a b), .int .i64 (betwHigh l r a b)], .int .i64 0]) (by simp only [results, Tryz.results19]; go_simp) rfl ⟨rfl, (by repeat (first | with_reducible exact Below.refl _ _ | with_reducible assumption | ((with_reducible refine Below.setCell ?_ ?_ _); rotate_left; · (first | omega | exact Nat.le_refl _ | (simp <;> omega))) | (with_reducible refine Below.allocW ?_ _) | (with_reducible refine Below.drew ?_) | (with_reducible refine Below.extW ?_ _)))⟩
theorem reach_Between_nil (w : World) (a b : Int) :
    Calls Tryz.prog 19 #[.pointer none, .int .i64 a, .int .i64 b] w fun e w' => e = .returned (bothV (0, 0, 1)) ∧ Below w.heap.size w w' := by
  unfold bothV
  go_enter Tryz.func19, Tryz.ntmps19
  go_wp2_with fail
  exact bodyPost_ret (v := .tuple #[.agg #[.int .i64 0, .int .i64 0], .int .i64 1]) (by simp only [results, Tryz.results19]; go_simp) rfl ⟨rfl, (by repeat (first | with_reducible exact Below.refl _ _ | with_reducible assumption | ((with_reducible refine Below.setCell ?_ ?_ _); rotate_left; · (first | omega | exact Nat.le_refl _ | (simp <;> omega))) | (with_reducible refine Below.allocW ?_ _) | (with_reducible refine Below.drew ?_) | (with_reducible refine Below.extW ?_ _)))⟩
end Go.Proofs.YtalnhdfgjjhhbaaGreat
/- Package rank: tables. -/
namespace Go.Proofs.YtalnhdfgjjhhbaaGreat
open Go.ChangeShapes Go.WideShapes Go.ChangeAt Go.RowKit
set_option linter.unusedVariables false
set_option maxRecDepth 100000

/-- What a table says of a number. -/
def upT (t : List Nd) (x : Int) : Int := if atMost t x = 0 then 0 else (t.getD (atMost t x - 1) (0, 0)).2
theorem Tab.upT {l t : List Nd} (h : Tab l t) (x : Int) : upT t x = wUp l x := by
  unfold Go.Proofs.YtalnhdfgjjhhbaaGreat.upT
  by_cases h0 : atMost t x = 0
  · rw [if_pos h0, h.none h0]
  · have hi : atMost t x - 1 < t.length := by have := atMost_le t x; omega
    rw [if_neg h0, getD_at hi, h.some h0 hi]
theorem upTo_closure (W : World) (b2 b3 i n c2 blk off : Nat) (v2 : Value) (x y : Int) (hi : i < n) (hn : n ≤ 67108864) (h2 : W.cell? ⟨b2, 0, none⟩ = some (.slice (some ⟨blk, off, none⟩) n c2)) (h3 : W.cell? ⟨b3, 0, none⟩ = some (.int .i64 x)) (h4 : W.cell? ⟨blk, off + i, none⟩ = some (.int .i64 y)) :
    Calls Tryz.prog 179 (#[.int .i64 i] ++ #[.pointer (some ⟨b2, 0, none⟩), .pointer (some ⟨b3, 0, none⟩)]) W fun e w' => e = .returned (.bool (decide (x < y))) ∧ ∃ q os, w' = Go.Sort.grow (W.drewN q) os := by
  have hi1 : (i : Int) < (n : Int) := by omega
  go_enter Tryz.func179, Tryz.ntmps179
  go_wp2_with fail
  go_region
  all_goals go_wp2_with fail
  all_goals go_ret
  all_goals exact ⟨rfl, 1, #[], by rw [Go.Sort.grow_empty]; rfl⟩
theorem enters_upTo : ∀ args W, (callFunc 179 args).run Tryz.prog W = .ok (.enter 179 args) W := enters_of Tryz.func179 (by kernel_rfl) rfl
theorem rise_mono {t : List Nd} (hr : t.Pairwise fun a b => a.1 < b.1) (x : Int) (a b : Nat) (hab : a ≤ b) (hb : b < t.length) (h : decide (x < (t.getD a (0, 0)).1) = true) : decide (x < (t.getD b (0, 0)).1) = true := by
  rw [getD_at (by omega)] at h
  rw [getD_at hb]
  simp only [decide_eq_true_eq] at h ⊢
  rcases Nat.lt_or_ge a b with hlt | hge
  · have := List.pairwise_iff_getElem.1 hr a b (by omega) hb hlt; omega
  · obtain rfl : a = b := by omega
    exact h
theorem sums_upTo (w : World) (A1 A2 : Option Addr) (c1 c2 : Nat) (t : List Nd) (x : Int) (h1 : Sl w w.heap.size encZ A1 (t.map (·.1))) (h2 : Sl w w.heap.size encZ A2 (t.map (·.2))) (hm : t.length ≤ 67108864) (hr : t.Pairwise fun a b => a.1 < b.1) :
    Calls Tryz.prog 146 #[.agg #[.slice A1 t.length c1, .slice A2 t.length c2], .int .i64 x] w fun e w' => e = .returned (.int .i64 (upT t x)) ∧ Below w.heap.size w w' := by
  obtain ⟨W0, hW0⟩ : ∃ W0, W0 = (w.alloc (.cells #[.slice A1 t.length c1, .slice A2 t.length c2] 131)).alloc (.cells #[.int .i64 x] 3) := ⟨_, rfl⟩
  have hsz : W0.heap.size = w.heap.size + 1 + 1 := by rw [hW0]; simp
  have B0 : Below w.heap.size w W0 := by rw [hW0]; exact (by repeat (first | with_reducible exact Below.refl _ _ | with_reducible assumption | ((with_reducible refine Below.setCell ?_ ?_ _); rotate_left; · (first | omega | exact Nat.le_refl _ | (simp <;> omega))) | (with_reducible refine Below.allocW ?_ _) | (with_reducible refine Below.drew ?_) | (with_reducible refine Below.extW ?_ _)))
  have k0 : W0.cell? ⟨w.heap.size, 0, none⟩ = some (.slice A1 t.length c1) := by rw [hW0]; go_simp
  have k1 : W0.cell? ⟨w.heap.size, 1, none⟩ = some (.slice A2 t.length c2) := by rw [hW0]; go_simp
  have k2 : W0.cell? ⟨w.heap.size + 1, 0, none⟩ = some (.int .i64 x) := by rw [hW0]; go_simp
  have hS := Go.Proofs.Any.sort_Search Tryz.search 179 #[.pointer (some ⟨w.heap.size, 0, none⟩), .pointer (some ⟨w.heap.size + 1, 0, none⟩)] t.length (fun i => decide (x < (t.getD i (0, 0)).1)) W0 enters_upTo (by omega)
    (fun m os i hi => by
      rw [getD_at hi]
      rcases h1 with h1 | ⟨blk, off, rfl, hb, hc⟩
      · have : t.length = 0 := by have := congrArg List.length h1; simpa using this
        omega
      · have hc' := hc i t[i].1 (by simp [hi]) 0 (.int .i64 t[i].1) rfl
        simp only [Nat.add_zero, Nat.mul_one] at hc'
        refine upTo_closure _ w.heap.size (w.heap.size + 1) i t.length c1 blk off undef x t[i].1 hi hm (Go.cell_grown (by simp only [hsz]; omega) k0 m os) (Go.cell_grown (by simp only [hsz]; omega) k2 m os) (Go.cell_grown (by simp only [hsz]; omega) ((B0.cell (p := ⟨blk, off + i, none⟩) hb).trans hc') m os))
    (rise_mono hr x)
  have HS : Hid (Calls Tryz.prog 178 #[.int .i64 t.length, .func (.func 179) #[] #[.pointer (some ⟨w.heap.size, 0, none⟩), .pointer (some ⟨w.heap.size + 1, 0, none⟩)]] W0 fun e w' => e = .returned (.int .i64 (atMost t x)) ∧ ∃ q os, w' = Go.Sort.grow (W0.drewN q) os) := Lib.hid hS
  have hle := atMost_le t x
  have H2 := Lib.hid h2
  have HW := Lib.hid hW0
  have K1 := Lib.hid k1
  have HB0 := Lib.hid B0
  have HZ := Lib.hid hsz
  clear hS h1 h2 hr k0 k1 k2 B0 hsz hW0
  unfold upT
  generalize hk : atMost t x = k at HS hle ⊢
  clear hk
  by_cases hk0 : k = 0
  · subst hk0
    rw [if_pos rfl]
    go_enter Tryz.func146, Tryz.ntmps146
    go_wp2_with fail
    rw [← HW.out]
    refine HS.out.mono ?_
    rintro e w1 ⟨rfl, q, os, rfl⟩
    go_wp2_with fail
    go_ret
    exact ⟨rfl, HB0.out.trans (Go.Proofs.below_grown_sl w.heap.size W0 q os (by have := HZ.out; omega))⟩
  · rw [if_neg hk0]
    obtain ⟨m, rfl⟩ : ∃ m, k = m + 1 := ⟨k - 1, by omega⟩
    simp only [Nat.add_sub_cancel]
    have hm1 : m < t.length := by omega
    rw [getD_at hm1]
    have g0 : ((m + 1 : Nat) == 0) = false := by simp
    have g2 : (m : Int) < (t.length : Int) := by omega
    obtain ⟨blk, off, rfl, hb, hc⟩ := H2.out.at_ (k := m) (by simpa using hm1)
    have hc' := hc 0 (.int .i64 t[m].2) (by simp [encZ])
    simp only [Nat.add_zero, Nat.mul_one] at hc'
    generalize t[m].2 = z at hc' ⊢
    clear hc
    go_enter Tryz.func146, Tryz.ntmps146
    go_wp2_with fail
    rw [← HW.out]
    refine HS.out.mono ?_
    rintro e w1 ⟨rfl, q, os, hw1⟩
    have hB1 : Below w.heap.size w w1 := by rw [hw1]; exact HB0.out.trans (Go.Proofs.below_grown_sl w.heap.size W0 q os (by have := HZ.out; omega))
    have c1' : w1.cell? ⟨w.heap.size, 1, none⟩ = some (.slice (some ⟨blk, off, none⟩) t.length c2) := by rw [hw1]; exact Go.cell_grown (by have := HZ.out; simp only; omega) K1.out q os
    have c2' := (hB1.cell (p := ⟨blk, off + m, none⟩) hb).trans hc'
    clear hw1 hc'
    go_wp2_with fail
    go_ret
    exact ⟨rfl, hB1⟩
end Go.Proofs.YtalnhdfgjjhhbaaGreat
/- Package rank: Low, High, Both, Steps of a table; Of. -/
namespace Go.Proofs.YtalnhdfgjjhhbaaGreat
open Go.ChangeShapes Go.WideShapes Go.ChangeAt Go.RowKit
set_option linter.unusedVariables false
set_option maxRecDepth 100000

/-- A table in block g: n, and two tables; all of it in blocks from L on and below B. -/
def TabAt (w : World) (L B g : Nat) (n : Int) (lt ft : List Nd) : Prop :=
  L ≤ g ∧ g < B ∧ ∃ A1 c1 A2 c2 A3 c3 A4 c4, w.heap[g]? = some (.cells #[.int .i64 n, .slice A1 lt.length c1, .slice A2 lt.length c2, .slice A3 ft.length c3, .slice A4 ft.length c4] 134 (0, 0)) ∧
    (Own w L 3 encZ (.slice A1 lt.length c1) (lt.map (·.1)) ∧ Own w L 3 encZ (.slice A2 lt.length c2) (lt.map (·.2)) ∧ Own w L 3 encZ (.slice A3 ft.length c3) (ft.map (·.1)) ∧ Own w L 3 encZ (.slice A4 ft.length c4) (ft.map (·.2))) ∧
    ∀ A n c, (A, n, c) ∈ [(A1, lt.length, c1), (A2, lt.length, c2), (A3, ft.length, c3), (A4, ft.length, c4)] → ∀ k, (Value.slice A n c).ownBlock = some k → k < B
section
variable {w w' : World} {L B g : Nat} {n : Int} {lt ft : List Nd}
theorem TabAt.keep (h : TabAt w L B g n lt ft) (hk : ∀ b, L ≤ b → b < B → w'.heap[b]? = w.heap[b]?) : TabAt w' L B g n lt ft := by
  obtain ⟨h0, h0', A1, c1, A2, c2, A3, c3, A4, c4, h1, ⟨h2, h3, h4, h5⟩, h6⟩ := h
  refine ⟨h0, h0', A1, c1, A2, c2, A3, c3, A4, c4, (hk g h0 h0').trans h1, ⟨?_, ?_, ?_, ?_⟩, h6⟩
  · exact h2.of_block fun b hb => hk b (h2.lt b hb).1 (h6 _ _ _ (by simp) b hb)
  · exact h3.of_block fun b hb => hk b (h3.lt b hb).1 (h6 _ _ _ (by simp) b hb)
  · exact h4.of_block fun b hb => hk b (h4.lt b hb).1 (h6 _ _ _ (by simp) b hb)
  · exact h5.of_block fun b hb => hk b (h5.lt b hb).1 (h6 _ _ _ (by simp) b hb)
theorem TabAt.below (h : TabAt w L B g n lt ft) (hb : Below B w w') : TabAt w' L B g n lt ft := h.keep fun b _ hlt => hb.block b hlt
theorem TabAt.set (h : TabAt w L B g n lt ft) {p : Addr} (hp : p.block < L) (u : Value) : TabAt (w.setCell p u) L B g n lt ft := h.keep fun b hb _ => Below.heap_setCell _ _ _ _ (by omega)
theorem table_Low (x : Int) (h : TabAt w L B g n lt ft) (hm : lt.length ≤ 67108864) (hr : lt.Pairwise fun a b => a.1 < b.1) :
    Calls Tryz.prog 85 #[.pointer (some ⟨g, 0, none⟩), .int .i64 x] w fun e w' => e = .returned (.int .i64 (upT lt x)) ∧ Below w.heap.size w w' := by
  obtain ⟨h0, h0', A1, c1, A2, c2, A3, c3, A4, c4, h1, ⟨o2, o3, o4, o5⟩, h6⟩ := h
  have h2 := o2.sl
  have h3 := o3.sl
  have h4 := o4.sl
  have h5 := o5.sl
  have c := blk_cell h1
  have H2 := Lib.hid h2
  have H3 := Lib.hid h3
  have HR := Lib.hid hr
  clear h1 h2 h3 h4 h5 hr o2 o3 o4 o5 h6
  go_enter Tryz.func85, Tryz.ntmps85
  go_wp2_with fail
  refine (sums_upTo _ A1 A2 c1 c2 lt x H2.out H3.out hm HR.out).mono ?_
  rintro e w1 ⟨rfl, hb1⟩
  have B1 : Below w.heap.size w w1 := Below.then_ (by repeat (first | with_reducible exact Below.refl _ _ | with_reducible assumption | ((with_reducible refine Below.setCell ?_ ?_ _); rotate_left; · (first | omega | exact Nat.le_refl _ | (simp <;> omega))) | (with_reducible refine Below.allocW ?_ _) | (with_reducible refine Below.drew ?_) | (with_reducible refine Below.extW ?_ _))) hb1
  have s1 : w.heap.size ≤ w1.heap.size := B1.size
  go_wp2_with fail
  go_ret
  exact ⟨rfl, (by repeat (first | with_reducible exact Below.refl _ _ | with_reducible assumption | ((with_reducible refine Below.setCell ?_ ?_ _); rotate_left; · (first | omega | exact Nat.le_refl _ | (simp <;> omega))) | (with_reducible refine Below.allocW ?_ _) | (with_reducible refine Below.drew ?_) | (with_reducible refine Below.extW ?_ _)))⟩
theorem table_High (x : Int) (h : TabAt w L B g n lt ft) (hm : ft.length ≤ 67108864) (hr : ft.Pairwise fun a b => a.1 < b.1) :
    Calls Tryz.prog 153 #[.pointer (some ⟨g, 0, none⟩), .int .i64 x] w fun e w' => e = .returned (.int .i64 (upT ft x)) ∧ Below w.heap.size w w' := by
  obtain ⟨h0, h0', A1, c1, A2, c2, A3, c3, A4, c4, h1, ⟨o2, o3, o4, o5⟩, h6⟩ := h
  have h2 := o2.sl
  have h3 := o3.sl
  have h4 := o4.sl
  have h5 := o5.sl
  have c := blk_cell h1
  have H2 := Lib.hid h4
  have H3 := Lib.hid h5
  have HR := Lib.hid hr
  clear h1 h2 h3 h4 h5 hr o2 o3 o4 o5 h6
  go_enter Tryz.func153, Tryz.ntmps153
  go_wp2_with fail
  refine (sums_upTo _ A3 A4 c3 c4 ft x H2.out H3.out hm HR.out).mono ?_
  rintro e w1 ⟨rfl, hb1⟩
  have B1 : Below w.heap.size w w1 := Below.then_ (by repeat (first | with_reducible exact Below.refl _ _ | with_reducible assumption | ((with_reducible refine Below.setCell ?_ ?_ _); rotate_left; · (first | omega | exact Nat.le_refl _ | (simp <;> omega))) | (with_reducible refine Below.allocW ?_ _) | (with_reducible refine Below.drew ?_) | (with_reducible refine Below.extW ?_ _))) hb1
  have s1 : w.heap.size ≤ w1.heap.size := B1.size
  go_wp2_with fail
  go_ret
  exact ⟨rfl, (by repeat (first | with_reducible exact Below.refl _ _ | with_reducible assumption | ((with_reducible refine Below.setCell ?_ ?_ _); rotate_left; · (first | omega | exact Nat.le_refl _ | (simp <;> omega))) | (with_reducible refine Below.allocW ?_ _) | (with_reducible refine Below.drew ?_) | (with_reducible refine Below.extW ?_ _)))⟩
theorem table_Both (x : Int) (h : TabAt w L B g n lt ft) (hBw : B ≤ w.heap.size) (hm : lt.length ≤ 67108864) (hr : lt.Pairwise fun a b => a.1 < b.1) (hm2 : ft.length ≤ 67108864) (hr2 : ft.Pairwise fun a b => a.1 < b.1) :
    Calls Tryz.prog 104 #[.pointer (some ⟨g, 0, none⟩), .int .i64 x] w fun e w' => e = .returned (.agg #[.int .i64 (upT lt x), .int .i64 (upT ft x)]) ∧ Below w.heap.size w w' := by
  have HA := Lib.hid (h.below ((Below.refl B w).alloc hBw (.cells #[.int .i64 0, .int .i64 0] 29)))
  have HR := Lib.hid hr
  have HR2 := Lib.hid hr2
  clear h hr hr2
  go_enter Tryz.func104, Tryz.ntmps104
  go_wp2_with fail
  refine (table_Low x HA.out hm HR.out).mono ?_
  rintro e w1 ⟨rfl, hb1⟩
  have B1 : Below w.heap.size w w1 := Below.then_ (by repeat (first | with_reducible exact Below.refl _ _ | with_reducible assumption | ((with_reducible refine Below.setCell ?_ ?_ _); rotate_left; · (first | omega | exact Nat.le_refl _ | (simp <;> omega))) | (with_reducible refine Below.allocW ?_ _) | (with_reducible refine Below.drew ?_) | (with_reducible refine Below.extW ?_ _))) hb1
  have s1 : w.heap.size ≤ w1.heap.size := B1.size
  have z1_0 : w.heap.size < w1.heap.size := by have := hb1.size; (try simp at this); omega
  have y1_0 : w.heap.size ≤ w1.heap.size := Nat.le_of_lt z1_0
  have c1_0 := fun o => hb1.cell (p := ⟨w.heap.size, o, none⟩) (by first | omega | (simp <;> omega))
  have f1_0 := fun o => hb1.frozen (p := ⟨w.heap.size, o, none⟩) (by first | omega | (simp <;> omega))
  have HA1 := Lib.hid (HA.out.below (hb1.mono (by simp; omega)))
  have K := Lib.hid ((bothAt.new w 0 0).below hb1)
  go_wp2_with fail
  refine (table_High x HA1.out hm2 HR2.out).mono ?_
  rintro e w2 ⟨rfl, hb2⟩
  have B2 : Below w.heap.size w w2 := Below.then_ (by repeat (first | with_reducible exact Below.refl _ _ | with_reducible assumption | ((with_reducible refine Below.setCell ?_ ?_ _); rotate_left; · (first | omega | exact Nat.le_refl _ | (simp <;> omega))) | (with_reducible refine Below.allocW ?_ _) | (with_reducible refine Below.drew ?_) | (with_reducible refine Below.extW ?_ _))) hb2
  have s2 : w.heap.size ≤ w2.heap.size := B2.size
  have k := K.out.below hb2
  have cc := blk_cell k
  have cf := blk_frozen k
  have zz := lt_of_block k
  clear k
  go_wp2_with fail
  exact bodyPost_ret (v := .agg #[.int .i64 (upT lt x), .int .i64 (upT ft x)]) (by simp only [results, Tryz.results104]; go_simp) rfl ⟨rfl, (by repeat (first | with_reducible exact Below.refl _ _ | with_reducible assumption | ((with_reducible refine Below.setCell ?_ ?_ _); rotate_left; · (first | omega | exact Nat.le_refl _ | (simp <;> omega))) | (with_reducible refine Below.allocW ?_ _) | (with_reducible refine Below.drew ?_) | (with_reducible refine Below.extW ?_ _)))⟩
end
@[go_sem] theorem run_eqZ_nil (w : World) (A : Option Addr) (n c : Nat) : (binOp .eql 27 (.slice A n c) (.slice none 0 0)).run Tryz.prog w = .ok (.bool A.isNone) w := Lib.run_eql_slice_nil w _ _ A n c 0 0 Tryz.underlying27
theorem clone_Z (w : World) (A : Option Addr) (cap : Nat) (l : List Int) (hS : Sl w w.heap.size encZ A l) (hn : l.length ≤ 67108864) :
    Calls Tryz.prog 82 #[.slice A l.length cap] w (OwnPost 3 encZ l w) := by
  rcases A with _ | a
  · have h0 : l = [] := by
      rcases hS with h | ⟨b, off, hA, _⟩
      · exact h
      · cases hA
    subst h0
    go_enter Tryz.func82, Tryz.ntmps82
    go_wp2_with fail
    go_ret
    exact ⟨_, rfl, Own.nil _ _ _ _, (by repeat (first | with_reducible exact Below.refl _ _ | with_reducible assumption | ((with_reducible refine Below.setCell ?_ ?_ _); rotate_left; · (first | omega | exact Nat.le_refl _ | (simp <;> omega))) | (with_reducible refine Below.allocW ?_ _) | (with_reducible refine Below.drew ?_) | (with_reducible refine Below.extW ?_ _)))⟩
  · have HS := Lib.hid hS
    clear hS
    go_enter Tryz.func82, Tryz.ntmps82
    go_wp2_with ((at_builtin; refine wpList_app tyZ rfl _ _ rfl encZ w.heap.size (.slice (some ⟨w.heap.size, 0, none⟩) 0 0) [] rfl ?ho (some a) cap l w.heap.size rfl ?hs ?c1 ?c2 ?c3 ?c4))
    case ho => exact .inr ⟨w.heap.size, 0, 0, #[], rfl, Nat.le_refl _, heap_alloc_new w _, Nat.le_refl _, by simp, by simp, fun j u hj => by simp at hj⟩
    case hs => exact HS.out.keep (Nat.le_refl _) fun p hp => ((Below.refl w.heap.size w).alloc (Nat.le_refl _) _).cell hp
    case c1 => simp; omega
    case c2 => simp [maxLen]; omega
    case c3 => simp
    case c4 =>
      intro v' w1 ho1 _ _ hb1 _
      have B1 : Below w.heap.size w w1 := ((Below.refl w.heap.size w).alloc (Nat.le_refl _) _).trans hb1
      have HO1 := Lib.hid (show Own w1 w.heap.size 3 encZ v' l by simpa using ho1)
      clear ho1
      go_wp2_with fail
      go_ret
      exact ⟨_, rfl, HO1.out, B1⟩
theorem table_Steps {w : World} {L B g : Nat} {n : Int} {lt ft : List Nd} (h : TabAt w L B g n lt ft) (hm : lt.length ≤ 67108864) :
    Calls Tryz.prog 33 #[.pointer (some ⟨g, 0, none⟩)] w (OwnPost 3 encZ (lt.map (·.1)) w) := by
  obtain ⟨h0, h0', A1, c1, A2, c2, A3, c3, A4, c4, h1, ⟨o2, o3, o4, o5⟩, h6⟩ := h
  have h2 := o2.sl
  have h3 := o3.sl
  have h4 := o4.sl
  have h5 := o5.sl
  have c := blk_cell h1
  have HC := Lib.hid (clone_Z w A1 c1 (lt.map (·.1)) h2 (by simpa using hm))
  rw [List.length_map] at HC
  clear h1 h2 h3 h4 h5 o2 o3 o4 o5 h6
  go_enter Tryz.func33, Tryz.ntmps33
  go_wp2_with fail
  refine HC.out.mono ?_
  rintro e w1 ⟨v, rfl, ho, hb⟩
  have HO := Lib.hid ho
  clear ho
  go_wp2_with fail
  go_ret
  exact ⟨_, rfl, HO.out, hb⟩
end Go.Proofs.YtalnhdfgjjhhbaaGreat
/- Chapter 16: plain laws of what weighs up to a number. -/
namespace Go.Proofs.YtalnhdfgjjhhbaaGreat
open Go.ChangeShapes Go.WideShapes Go.ChangeAt Go.RowKit
set_option linter.unusedVariables false
set_option maxRecDepth 100000

theorem weighR_mono {l : Int} {f g : Int → Int → Bool} {r : List Nd} (h : Roll r) (hfg : ∀ x ∈ r, f (endsOf l x.1).1 (endsOf l x.1).2.1 = true → g (endsOf l x.1).1 (endsOf l x.1).2.1 = true) : weighR l f r ≤ weighR l g r := by
  induction r with
  | nil => simp [weighR]
  | cons x r ih =>
    have hx := h.2 x (by simp)
    have h1 := hfg x (by simp)
    have h2 := ih h.tail fun y hy => hfg y (by simp [hy])
    simp only [weighR]
    by_cases hf : f (endsOf l x.1).1 (endsOf l x.1).2.1 = true
    · rw [if_pos hf, if_pos (h1 hf)]; omega
    · rw [if_neg hf]; split <;> omega
theorem weighR_all {l : Int} {f : Int → Int → Bool} {r : List Nd} (h : ∀ x ∈ r, f (endsOf l x.1).1 (endsOf l x.1).2.1 = true) : weighR l f r = sumR r := by
  induction r with
  | nil => rfl
  | cons x r ih =>
    simp only [weighR, sumR]
    rw [if_pos (h x (by simp)), ih fun y hy => h y (by simp [hy])]
theorem weighR_none {l : Int} {f : Int → Int → Bool} {r : List Nd} (h : ∀ x ∈ r, f (endsOf l x.1).1 (endsOf l x.1).2.1 = false) : weighR l f r = 0 := by
  induction r with
  | nil => rfl
  | cons x r ih =>
    simp only [weighR]
    rw [if_neg (by rw [h x (by simp)]; simp), ih fun y hy => h y (by simp [hy])]; rfl
/-- The ends of a node are values of the universe, the first one is not above the last one. -/
theorem ends_bounds {l : Nat} {id : Int} (h : isNode l id = true) : 0 ≤ (endsOf l id).1 ∧ (endsOf l id).1 ≤ (endsOf l id).2.1 ∧ (endsOf l id).2.1 ≤ 2 ^ l - 1 := by
  obtain ⟨n, x, hn, rfl, hn1, hn2, hx1, hx2⟩ := isNode_nat h
  obtain rfl : n = l := by omega
  obtain ⟨d, b, t, hd, hb, hdb, hxt, htd, hprod⟩ := node_facts hn2 hx1 hx2
  have e1 : endsOf n x = ((t : Int) * 2 ^ b, (t : Int) * 2 ^ b + 2 ^ b - 1, true) := by
    simp only [endsOf, h, if_true, Int.toNat_natCast, hd, hb]
    have : (x : Int) - 2 ^ d = t := by rw [hxt]; push_cast; omega
    rw [this]
  rw [e1]
  have q3 := pow_pos' b
  have q8 : (t : Int) * 2 ^ b + 2 ^ b ≤ 2 ^ n := by
    have h : (((t + 1) * 2 ^ b : Nat) : Int) ≤ ((2 ^ n : Nat) : Int) := by exact_mod_cast hprod
    push_cast at h
    rw [Int.add_mul, Int.one_mul] at h
    exact h
  have q9 : 0 ≤ (t : Int) * 2 ^ b := Int.mul_nonneg (by omega) (by omega)
  simp only
  omega
theorem right_node {l : Int} {r : List Nd} (h : rightOf l r = true) : ∀ x ∈ r, isNode l x.1 = true := by
  simp only [rightOf, Bool.and_eq_true] at h
  intro x hx
  exact ((rises_roll h.1.1).1 x hx).2.1
theorem low_le {l : Int} {r : List Nd} (h : Roll r) {a b : Int} (hab : a ≤ b) : lowOf l r a ≤ lowOf l r b := weighR_mono h fun x _ hx => by simp at hx ⊢; omega
theorem high_le {l : Int} {r : List Nd} (h : Roll r) {a b : Int} (hab : a ≤ b) : highOf l r a ≤ highOf l r b := weighR_mono h fun x _ hx => by simp at hx ⊢; omega
theorem low_high {l : Nat} {r : List Nd} (h : Roll r) (hr : rightOf l r = true) (a : Int) : lowOf l r a ≤ highOf l r a := weighR_mono h fun x hx h1 => by
  have := ends_bounds (right_node hr x hx)
  simp at h1 ⊢; omega
theorem low_top {l : Nat} {r : List Nd} (hr : rightOf l r = true) {a : Int} (ha : 2 ^ l - 1 ≤ a) : lowOf l r a = sumR r := weighR_all fun x hx => by
  have := ends_bounds (right_node hr x hx)
  simp; omega
theorem high_top {l : Nat} {r : List Nd} (hr : rightOf l r = true) {a : Int} (ha : 2 ^ l - 1 ≤ a) : highOf l r a = sumR r := weighR_all fun x hx => by
  have := ends_bounds (right_node hr x hx)
  simp; omega
theorem low_zero {l : Nat} {r : List Nd} (hr : rightOf l r = true) {a : Int} (ha : a < 0) : lowOf l r a = 0 := weighR_none fun x hx => by
  have := ends_bounds (right_node hr x hx)
  simp; omega
theorem high_zero {l : Nat} {r : List Nd} (hr : rightOf l r = true) {a : Int} (ha : a < 0) : highOf l r a = 0 := weighR_none fun x hx => by
  have := ends_bounds (right_node hr x hx)
  simp; omega

end Go.Proofs.YtalnhdfgjjhhbaaGreat
/- The ends of the nodes of a roll that fits. -/
namespace Go.Proofs.YtalnhdfgjjhhbaaGreat
open Go.ChangeShapes Go.WideShapes Go.ChangeAt Go.RowKit
set_option linter.unusedVariables false

theorem ends_48 {l : Nat} (hl : l ≤ 48) {id : Int} (h : isNode l id = true) : 0 ≤ (endsOf l id).1 ∧ (endsOf l id).1 ≤ (endsOf l id).2.1 ∧ (endsOf l id).2.1 ≤ 281474976710655 := by
  have h1 := ends_bounds h
  have h2 := pow_48 (n := l) hl
  omega
theorem Fits.nodes {l : Nat} {r : List Nd} (hf : Fits l r) (hl : 1 ≤ l ∧ l ≤ 48) : ∀ x ∈ r, isNode l x.1 = true := by
  intro x hx
  have h1 := (hf.roll.2 x hx).1
  have h2 := hf.lt x hx
  simp only [isNode, decide_eq_true_eq, Int.toNat_natCast]
  omega
end Go.Proofs.YtalnhdfgjjhhbaaGreat
/- Package rank: Of: a digest's table. -/
namespace Go.Proofs.YtalnhdfgjjhhbaaGreat
open Go.ChangeShapes Go.WideShapes Go.ChangeAt Go.RowKit
set_option linter.unusedVariables false
set_option maxRecDepth 100000

/-- Where nodes end, and begin, and what they weigh. -/
def lastL (l : Int) (r : List Nd) : List Nd := r.map fun x => ((endsOf l x.1).2.1, x.2)
def firstL (l : Int) (r : List Nd) : List Nd := r.map fun x => ((endsOf l x.1).1, x.2)
theorem low_up (l : Int) (r : List Nd) (y : Int) : wUp (lastL l r) y = lowOf l r y := by
  induction r with
  | nil => rfl
  | cons x r ih =>
    simp only [lastL, List.map_cons, wUp, lowOf, weighR, decide_eq_true_eq] at ih ⊢
    rw [ih]
theorem high_up (l : Int) (r : List Nd) (y : Int) : wUp (firstL l r) y = highOf l r y := by
  induction r with
  | nil => rfl
  | cons x r ih =>
    simp only [firstL, List.map_cons, wUp, highOf, weighR, decide_eq_true_eq] at ih ⊢
    rw [ih]
theorem sum_last (l : Int) (r : List Nd) : sumR (lastL l r) = sumR r := by
  induction r with
  | nil => rfl
  | cons x r ih => simp only [lastL, List.map_cons, sumR] at ih ⊢; rw [ih]
theorem sum_first (l : Int) (r : List Nd) : sumR (firstL l r) = sumR r := by
  induction r with
  | nil => rfl
  | cons x r ih => simp only [firstL, List.map_cons, sumR] at ih ⊢; rw [ih]
theorem tyRd : SliceTy Tryz.prog 126 129 2 16 (.agg #[.int .i64 0, .int .i64 0]) := ⟨Tryz.underlying126, by kernel_rfl, rfl, by decide⟩
/-- A digest's table. -/
def OfPost (l : Int) (r : List Nd) (w : World) (e : Ending) (w' : World) : Prop :=
  ∃ g lt ft, e = .returned (.pointer (some ⟨g, 0, none⟩)) ∧ TabAt w' w.heap.size w'.heap.size g (sumR r) lt ft ∧ Tab (lastL l r) lt ∧ Tab (firstL l r) ft ∧ lt.length ≤ r.length ∧ ft.length ≤ r.length ∧ Below w.heap.size w w'
/-- Two lists of readings that grow. -/
structure TwoR (W : World) (B : Nat) (U1 : Value) (L1 : List Nd) (U2 : Value) (L2 : List Nd) : Prop where
  own1 : Own W B 129 encN U1 L1
  own2 : Own W B 129 encN U2 L2
  sep : Sep U1 U2
section
variable {W W' : World} {B : Nat} {U1 U1' : Value} {L1 L1' : List Nd} {U2 U2' : Value} {L2 L2' : List Nd}
theorem TwoR.below (h : TwoR W B U1 L1 U2 L2) (hb : Below W.heap.size W W') : TwoR W' B U1 L1 U2 L2 := ⟨h.own1.below hb, h.own2.below hb, h.sep⟩
theorem TwoR.app1 (h : TwoR W B U1 L1 U2 L2) {k : Nat} (hg : W.grownBy W' U1.ownBlock) (ho : Own W' B 129 encN U1' L1') (hl : U1'.ownBlock = U1.ownBlock ∨ U1'.ownBlock = some (W.heap.size + k)) : TwoR W' B U1' L1' U2 L2 :=
  ⟨ho, h.own2.kept hg (by
    cases e : U2.ownBlock with
    | none => exact .inl rfl
    | some g => exact .inr fun he => h.sep g (by rw [← he]) e), fun g h1 h2 => by
      rcases hl with hl | hl
      · exact h.sep g (hl ▸ h1) h2
      · rw [hl] at h1; cases h1; have := (h.own2.lt _ h2).2; omega⟩
theorem TwoR.app2 (h : TwoR W B U1 L1 U2 L2) {k : Nat} (hg : W.grownBy W' U2.ownBlock) (ho : Own W' B 129 encN U2' L2') (hl : U2'.ownBlock = U2.ownBlock ∨ U2'.ownBlock = some (W.heap.size + k)) : TwoR W' B U1 L1 U2' L2' :=
  ⟨h.own1.kept hg (by
    cases e : U1.ownBlock with
    | none => exact .inl rfl
    | some g => exact .inr fun he => h.sep g e (by rw [← he])), ho, fun g h1 h2 => by
      rcases hl with hl | hl
      · exact h.sep g h1 (hl ▸ h2)
      · rw [hl] at h2; cases h2; have := (h.own1.lt _ h1).2; omega⟩
end
theorem take_last {l : Int} {r : List Nd} {q : Nat} (h : q < r.length) : lastL l (r.take (q + 1)) = lastL l (r.take q) ++ [((endsOf l r[q].1).2.1, r[q].2)] := by
  unfold lastL; rw [List.take_succ_eq_append_getElem h, List.map_append]; rfl
theorem take_first {l : Int} {r : List Nd} {q : Nat} (h : q < r.length) : firstL l (r.take (q + 1)) = firstL l (r.take q) ++ [((endsOf l r[q].1).1, r[q].2)] := by
  unfold firstL; rw [List.take_succ_eq_append_getElem h, List.map_append]; rfl
theorem rank_Of_nil (w : World) : Calls Tryz.prog 32 #[.pointer none] w fun e w' => e = .returned (.pointer none) ∧ Below w.heap.size w w' := by
  go_enter Tryz.func32, Tryz.ntmps32
  go_wp2_with fail
  go_ret
  exact ⟨rfl, (by repeat (first | with_reducible exact Below.refl _ _ | with_reducible assumption | ((with_reducible refine Below.setCell ?_ ?_ _); rotate_left; · (first | omega | exact Nat.le_refl _ | (simp <;> omega))) | (with_reducible refine Below.allocW ?_ _) | (with_reducible refine Below.drew ?_) | (with_reducible refine Below.extW ?_ _)))⟩
set_option maxHeartbeats 2000000 in
theorem rank_Of (w : World) (g K l : Nat) (k : Int) (r : List Nd) (F : Nat → Prop) (h : DigAt w g K l k r F) (hn : r.length ≤ 67108864) :
    Calls Tryz.prog 32 #[.pointer (some ⟨g, 0, none⟩)] w (OfPost l r w) := by
  have hf := h.fits
  have hll := h.l_le
  have HD := Lib.hid h
  have hnd := hf.nodes hll
  have hlast : ∀ x ∈ lastL l r, 0 ≤ x.1 ∧ x.1 ≤ 281474976710655 := fun x hx => by
    obtain ⟨y, hy, rfl⟩ := List.mem_map.1 hx
    have := ends_48 hll.2 (hnd y hy); simp only; omega
  have hfirst : ∀ x ∈ firstL l r, 0 ≤ x.1 ∧ x.1 ≤ 281474976710655 := fun x hx => by
    obtain ⟨y, hy, rfl⟩ := List.mem_map.1 hx
    have := ends_48 hll.2 (hnd y hy); simp only; omega
  have hlast1 : ∀ x ∈ lastL l r, 1 ≤ x.2 := fun x hx => by obtain ⟨y, hy, rfl⟩ := List.mem_map.1 hx; exact (hf.roll.2 y hy).2
  have hfirst1 : ∀ x ∈ firstL l r, 1 ≤ x.2 := fun x hx => by obtain ⟨y, hy, rfl⟩ := List.mem_map.1 hx; exact (hf.roll.2 y hy).2
  have ML := Lib.hid (fun W base v (ho : Own W base 129 encN v (lastL l r)) => rank_made W base v (lastL l r) ho hlast hlast1 (by rw [sum_last]; exact hf.sum) (by simpa [lastL] using hn))
  have MF := Lib.hid (fun W base v (ho : Own W base 129 encN v (firstL l r)) => rank_made W base v (firstL l r) ho hfirst hfirst1 (by rw [sum_first]; exact hf.sum) (by simpa [firstL] using hn))
  clear h hlast hfirst hlast1 hfirst1 hnd
  go_enter Tryz.func32, Tryz.ntmps32
  go_wp2_with fail
  refine (digest_Conf _ g K l k r F HD.out).mono ?_
  rintro e w1 ⟨rfl, hb1⟩
  have B1 : Below w.heap.size w w1 := Below.then_ (by repeat (first | with_reducible exact Below.refl _ _ | with_reducible assumption | ((with_reducible refine Below.setCell ?_ ?_ _); rotate_left; · (first | omega | exact Nat.le_refl _ | (simp <;> omega))) | (with_reducible refine Below.allocW ?_ _) | (with_reducible refine Below.drew ?_) | (with_reducible refine Below.extW ?_ _))) hb1
  have s1 : w.heap.size ≤ w1.heap.size := B1.size
  have HD1 := Lib.hid (HD.out.below B1)
  go_wp2_with fail
  refine (digest_Nodes _ g K l k r F HD1.out hn).mono ?_
  rintro e w2 ⟨v, rfl, ho, hb2⟩
  have B2 : Below w.heap.size w w2 := Below.then_ (by repeat (first | with_reducible exact Below.refl _ _ | with_reducible assumption | ((with_reducible refine Below.setCell ?_ ?_ _); rotate_left; · (first | omega | exact Nat.le_refl _ | (simp <;> omega))) | (with_reducible refine Below.allocW ?_ _) | (with_reducible refine Below.drew ?_) | (with_reducible refine Below.extW ?_ _))) hb2
  have s2 : w.heap.size ≤ w2.heap.size := B2.size
  have HO := Lib.hid ho
  have HB2 := Lib.hid B2
  obtain ⟨A, cap, rfl, _⟩ := ho.form
  clear ho hb1 hb2 B1 B2
  go_wp2_with fail
  go_loopw [3, 4, 19] (fun f t i wr => ∃ (q : Nat) (v1 v2 : Value), q ≤ r.length ∧ i = .int .i64 q ∧ f = v1 ∧ t = v2 ∧ TwoR wr w2.heap.size v1 (firstL l (r.take q)) v2 (lastL l (r.take q)) ∧ Own wr w1.heap.size 99 encN (.slice A r.length cap) r ∧ Below w.heap.size w wr ∧ w2.heap.size ≤ wr.heap.size) (fun _ _ i _ => r.length - (intOf i).toNat)
  case atStart => exact ⟨0, .slice none 0 0, .slice none 0 0, Nat.zero_le _, rfl, rfl, rfl, ⟨Own.nil _ _ _ _, Own.nil _ _ _ _, (fun g h => by cases h)⟩, HO.out, HB2.out, Nat.le_refl _⟩
  case round =>
    obtain ⟨q, v1, v2, hq, rfl, rfl, rfl, htwo, hown, hB, hs⟩ := hrel
    have KT := Lib.hid htwo
    have KO := Lib.hid hown
    have KB := Lib.hid hB
    clear htwo hown
    by_cases hlt : q < r.length
    · obtain ⟨c, off, rfl, hc, hcl⟩ := KO.out.sl.at_ hlt
      have d0 := hcl 0 (.int .i64 r[q].1) rfl
      have d1 := hcl 1 (.int .i64 r[q].2) rfl
      simp only [Nat.add_zero] at d0
      have hxl := hf.lt _ (List.getElem_mem hlt)
      have hp := pow_48 (n := l) hll.2
      have TL := Lib.hid (take_last (l := l) hlt)
      have TF := Lib.hid (take_first (l := l) hlt)
      obtain ⟨x, hxe⟩ : ∃ x, x = r[q] := ⟨_, rfl⟩
      rw [← hxe] at d0 d1 hxl TL TF
      have hx1 : x.1 ≤ 562949953421312 := by omega
      have HE := Lib.hid (twig_Ends · l x.1 (by omega))
      have lf : (firstL l (r.take q)).length = q := by simp [firstL]; omega
      have ll : (lastL l (r.take q)).length = q := by simp [lastL]; omega
      have LF := Lib.hid lf
      have LL := Lib.hid ll
      generalize endsOf l x.1 = t at HE TL TF
      obtain ⟨t1, t2, t3⟩ := t
      simp only at TL TF
      unfold endsV at HE
      clear hcl hxe hxl hp lf ll
      go_wp2_with fail
      refine (HE.out _).mono ?_
      rintro e w3 ⟨rfl, hb3⟩
      have c3 := fun o => hb3.cell (p := ⟨wr.heap.size, o, none⟩) (by simp)
      have z3 : wr.heap.size < w3.heap.size := by have := hb3.size; simp at this; omega
      have BW : Below wr.heap.size wr w3 := ((Below.refl wr.heap.size wr).alloc (Nat.le_refl _) _).trans (hb3.mono (by simp))
      have T3 := Lib.hid (KT.out.below BW)
      have O3 := Lib.hid (KO.out.below BW)
      have B3 := Lib.hid (KB.out.trans (BW.mono KB.out.size))
      clear BW hb3
      go_wp2_with ((at_builtin; refine wpList_push tyRd rfl _ _ rfl encN w3 w2.heap.size u3 _ rfl T3.out.own1 (t1, x.2) (by go_simp) rfl ?c1 ?c2 ?c3 ?c4))
      case c1 => have := LF.out; omega
      case c2 => have := LF.out; simp only [maxLen]; omega
      case c3 => omega
      case c4 =>
        intro v1' w4 ho4 hg4 hz4 hl4 hb4 _
        have T4 := Lib.hid (T3.out.app1 hg4 ho4 hl4)
        have O4 := Lib.hid (O3.out.kept hg4 (own_ne O3.out T3.out.own1 (by decide)))
        have s2w : w.heap.size ≤ w2.heap.size := HB2.out.size
        have B4 := Lib.hid (B3.out.trans (hb4.mono s2w))
        have ow1 : ∀ g, (u3 : Value).ownBlock = some g → g < wr.heap.size := fun g hg => (KT.out.own1.lt g hg).2
        have c4 := fun o => (grown_cell hg4 wr.heap.size z3 (fun h => by have := ow1 _ h; omega) o).trans (c3 o)
        have z4 : wr.heap.size < w4.heap.size := by omega
        clear ho4 hg4 hl4 hb4 ow1 c3
        go_wp2_with ((at_builtin; refine wpList_push tyRd rfl _ _ rfl encN w4 w2.heap.size u4 _ rfl T4.out.own2 (t2, x.2) (by go_simp) rfl ?c1 ?c2 ?c3 ?c4))
        case c1 => have := LL.out; omega
        case c2 => have := LL.out; simp only [maxLen]; omega
        case c3 => omega
        case c4 =>
          intro v2' w5 ho5 hg5 hz5 hl5 hb5 _
          have T5 := Lib.hid (T4.out.app2 hg5 ho5 hl5)
          have O5 := Lib.hid (O4.out.kept hg5 (own_ne O4.out T4.out.own2 (by decide)))
          have B5 := Lib.hid (B4.out.trans (hb5.mono s2w))
          have z5 : w2.heap.size ≤ w5.heap.size := by omega
          clear ho5 hg5 hl5 hb5
          go_wp2_with fail
          go_roundw
          case rel => exact ⟨q + 1, v1', v2', by omega, by go_num, rfl, rfl, by rw [TF.out, TL.out]; exact T5.out, O5.out, B5.out, z5⟩
          case measure => simp [intOf]; omega
    · obtain rfl : q = r.length := by omega
      rw [List.take_length] at KT
      have s2w : w.heap.size ≤ w2.heap.size := HB2.out.size
      have HDr := Lib.hid (HD.out.below KB.out)
      go_wp2_with fail
      refine (digest_N _ g K l k r F HDr.out).mono ?_
      rintro e w3 ⟨rfl, hb3⟩
      have B3 : Below w.heap.size w w3 := Below.then_ (by repeat (first | with_reducible exact Below.refl _ _ | with_reducible assumption | ((with_reducible refine Below.setCell ?_ ?_ _); rotate_left; · (first | omega | exact Nat.le_refl _ | (simp <;> omega))) | (with_reducible refine Below.allocW ?_ _) | (with_reducible refine Below.drew ?_) | (with_reducible refine Below.extW ?_ _))) hb3
      have s3 : w.heap.size ≤ w3.heap.size := B3.size
      have T3 := Lib.hid (KT.out.below hb3)
      go_wp2_with fail
      refine (ML.out w3 _ _ T3.out.own2).mono ?_
      rintro e w4 ⟨lt, A1, c1, A2, c2, rfl, htl, hll1, o1, o2, hT4⟩
      have B4 := Lib.hid (hT4.below (base := w2.heap.size) (fun b hb => (T3.out.own2.lt b hb).1) (by have := hb3.size; omega))
      have F4 := Lib.hid (hT4.own T3.out.own1 (fun b hb => T3.out.sep b hb))
      have P1 := Lib.hid o1
      have P2 := Lib.hid o2
      have HTL := Lib.hid htl
      have HLL := Lib.hid hll1
      have hs4 := hT4.size
      have hfb := Lib.hid (fun b hb => (T3.out.own1.lt b hb).2)
      clear o1 o2 htl hll1 hT4
      go_wp2_with fail
      refine (MF.out w4 _ _ F4.out).mono ?_
      rintro e w5 ⟨ft, A3, c3, A4, c4, rfl, htf, hll2, o3, o4, hT5⟩
      have B5 := Lib.hid (hT5.below (base := w2.heap.size) (fun b hb => (F4.out.lt b hb).1) (by have := hb3.size; omega))
      have Q1 := Lib.hid (hT5.own P1.out (fun b hb hf => by have := (P1.out.lt b hb).1; have := hfb.out b hf; omega))
      have Q2 := Lib.hid (hT5.own P2.out (fun b hb hf => by have := (P2.out.lt b hb).1; have := hfb.out b hf; omega))
      have Q3 := Lib.hid o3
      have Q4 := Lib.hid o4
      have HTF := Lib.hid htf
      have HLL2 := Lib.hid hll2
      clear o3 o4 htf hll2 hT5
      go_wp2_with fail
      go_ret
      have BF : Below w.heap.size w w5 := (B3.trans ((B4.out.trans B5.out).mono s2w))
      have l1 := (Q1.out.alloc (.cells #[.int .i64 (sumR r), .slice A1 lt.length c1, .slice A2 lt.length c2, .slice A3 ft.length c3, .slice A4 ft.length c4] 134)).base_le (b := w.heap.size) (by have := BF.size; have := hb3.size; omega)
      have l2 := (Q2.out.alloc (.cells #[.int .i64 (sumR r), .slice A1 lt.length c1, .slice A2 lt.length c2, .slice A3 ft.length c3, .slice A4 ft.length c4] 134)).base_le (b := w.heap.size) (by have := BF.size; have := hb3.size; omega)
      have l3 := (Q3.out.alloc (.cells #[.int .i64 (sumR r), .slice A1 lt.length c1, .slice A2 lt.length c2, .slice A3 ft.length c3, .slice A4 ft.length c4] 134)).base_le (b := w.heap.size) (by have := B4.out.size; have := hb3.size; omega)
      have l4 := (Q4.out.alloc (.cells #[.int .i64 (sumR r), .slice A1 lt.length c1, .slice A2 lt.length c2, .slice A3 ft.length c3, .slice A4 ft.length c4] 134)).base_le (b := w.heap.size) (by have := B4.out.size; have := hb3.size; omega)
      refine ⟨w5.heap.size, lt, ft, rfl, ⟨BF.size, by simp, A1, c1, A2, c2, A3, c3, A4, c4, heap_alloc_new w5 _, ⟨l1, l2, l3, l4⟩, fun A n c hm k hk => ?_⟩, HTL.out, HTF.out, by have := HLL.out; simpa [lastL] using this, by have := HLL2.out; simpa [firstL] using this, BF.alloc (by have := BF.size; omega) _⟩
      simp only [List.mem_cons, List.not_mem_nil, or_false, Prod.mk.injEq] at hm
      rcases hm with ⟨rfl, rfl, rfl⟩ | ⟨rfl, rfl, rfl⟩ | ⟨rfl, rfl, rfl⟩ | ⟨rfl, rfl, rfl⟩
      · exact (l1.lt k hk).2
      · exact (l2.lt k hk).2
      · exact (l3.lt k hk).2
      · exact (l4.lt k hk).2
end Go.Proofs.YtalnhdfgjjhhbaaGreat
/- Package reckon: Plus, Over. -/
namespace Go.Proofs.YtalnhdfgjjhhbaaGreat
open Go.ChangeShapes Go.WideShapes Go.ChangeAt Go.RowKit
set_option linter.unusedVariables false
set_option maxRecDepth 100000

theorem run_Add64 (x y c : Int) (hx : 0 ≤ x) (hy : 0 ≤ y) (hc0 : 0 ≤ c) (hc : c ≤ 1) (w : World) :
    (callFunc 151 #[.int .u64 x, .int .u64 y, .int .u64 c]).run Tryz.prog w = .ok (.value (.tuple #[.int .u64 ((x + y + c) % 18446744073709551616), .int .u64 ((x + y + c) / 18446744073709551616)])) w := by
  rw [run_callFunc_extern Tryz.func151 (by kernel_rfl) (by kernel_rfl) (by kernel_rfl) (e := add64Entry) (by kernel_rfl), run_add64 x y c hx hy hc0 hc]
  rfl
/-- A number of two words. -/
def wideV (n : Nat) : Value := .agg #[.int .u64 (n % 18446744073709551616 : Nat), .int .u64 (n / 18446744073709551616 : Nat)]
theorem wide_add {n p : Nat} : ((n + p) % 18446744073709551616 = (n % 18446744073709551616 + p % 18446744073709551616) % 18446744073709551616) ∧
    (n + p) / 18446744073709551616 = n / 18446744073709551616 + p / 18446744073709551616 + (n % 18446744073709551616 + p % 18446744073709551616) / 18446744073709551616 := by omega
theorem reckon_Plus (w : World) (n x c : Nat) (hx : x ≤ 9223372036854775807) (hc : c ≤ 9223372036854775807) (hn : (n + x * c) / 18446744073709551616 ≤ 18446744073709551615) :
    Calls Tryz.prog 93 #[wideV n, .int .i64 x, .int .i64 c] w fun e w' => e = .returned (.tuple #[wideV (n + x * c), .bool true]) ∧ Below w.heap.size w w' := by
  have HC := Lib.hid (show decide (0 ≤ (x : Int) ∧ 0 ≤ (c : Int)) = true by simp)
  have HM : Hid (∀ W, Calls Tryz.prog 150 #[.int .u64 x, .int .u64 c] W fun e w' => e = .returned (.tuple #[.int .u64 (x * c / 18446744073709551616 : Nat), .int .u64 (x * c % 18446744073709551616 : Nat)]) ∧ w' = W) := Lib.hid fun W => Tryz.bits_Mul64 x c (by omega) (by omega) W
  unfold wideV
  have hw := @wide_add n (x * c)
  rw [hw.1, hw.2]
  rw [hw.2] at hn
  have n0l := Nat.mod_lt n (show 18446744073709551616 > 0 by decide)
  have p0l := Nat.mod_lt (x * c) (show 18446744073709551616 > 0 by decide)
  generalize n % 18446744073709551616 = n0 at n0l hn ⊢
  generalize n / 18446744073709551616 = n1 at hn ⊢
  generalize x * c % 18446744073709551616 = p0 at HM p0l hn ⊢
  generalize x * c / 18446744073709551616 = p1 at HM hn ⊢
  have k1 : (n0 + p0) / 18446744073709551616 ≤ 1 := by omega
  have r1 : Hid (∀ W, (callFunc 151 #[.int .u64 n0, .int .u64 p0, .int .u64 0]).run Tryz.prog W = .ok (.value (.tuple #[.int .u64 ((n0 + p0) % 18446744073709551616 : Nat), .int .u64 ((n0 + p0) / 18446744073709551616 : Nat)])) W) := Lib.hid fun W => by
    rw [run_Add64 n0 p0 0 (by omega) (by omega) (by omega) (by omega)]
    congr 5 <;> omega
  generalize (n0 + p0) % 18446744073709551616 = u0 at r1 ⊢
  generalize (n0 + p0) / 18446744073709551616 = k at r1 hn k1 ⊢
  have r2 : Hid (∀ W, (callFunc 151 #[.int .u64 n1, .int .u64 p1, .int .u64 k]).run Tryz.prog W = .ok (.value (.tuple #[.int .u64 (n1 + p1 + k : Nat), .int .u64 0])) W) := Lib.hid fun W => by
    have e1 : ((n1 : Int) + p1 + k) % 18446744073709551616 = (n1 + p1 + k : Nat) := by omega
    have e2 : ((n1 : Int) + p1 + k) / 18446744073709551616 = 0 := by omega
    rw [run_Add64 n1 p1 k (by omega) (by omega) (by omega) (by omega), e1, e2]
  generalize n1 + p1 + k = u1 at r2 ⊢
  clear hw n0l p0l hn k1
  replace r1 := r1.out
  replace r2 := r2.out
  go_enter Tryz.func93, Tryz.ntmps93
  go_wp2_with fail
  refine (reckon_counts _ x c).mono ?_
  rintro e w1 ⟨rfl, hb1⟩
  have B1 : Below w.heap.size w w1 := Below.then_ (by repeat (first | with_reducible exact Below.refl _ _ | with_reducible assumption | ((with_reducible refine Below.setCell ?_ ?_ _); rotate_left; · (first | omega | exact Nat.le_refl _ | (simp <;> omega))) | (with_reducible refine Below.allocW ?_ _) | (with_reducible refine Below.drew ?_) | (with_reducible refine Below.extW ?_ _))) hb1
  have s1 : w.heap.size ≤ w1.heap.size := B1.size
  have z1_0 : w.heap.size < w1.heap.size := by have := hb1.size; (try simp at this); omega
  have y1_0 : w.heap.size ≤ w1.heap.size := Nat.le_of_lt z1_0
  have c1_0 := fun o => hb1.cell (p := ⟨w.heap.size, o, none⟩) (by first | omega | (simp <;> omega))
  have f1_0 := fun o => hb1.frozen (p := ⟨w.heap.size, o, none⟩) (by first | omega | (simp <;> omega))
  have z1_1 : w.heap.size + 1 < w1.heap.size := by have := hb1.size; (try simp at this); omega
  have y1_1 : w.heap.size + 1 ≤ w1.heap.size := Nat.le_of_lt z1_1
  have c1_1 := fun o => hb1.cell (p := ⟨w.heap.size + 1, o, none⟩) (by first | omega | (simp <;> omega))
  have f1_1 := fun o => hb1.frozen (p := ⟨w.heap.size + 1, o, none⟩) (by first | omega | (simp <;> omega))
  rw [HC.out]
  go_wp2_with fail
  refine (HM.out _).mono ?_
  rintro e w2 ⟨rfl, rfl⟩
  go_wp2_with fail
  exact bodyPost_ret (v := .tuple #[.agg #[.int .u64 u0, .int .u64 u1], .bool true]) (by simp only [results, Tryz.results93]; go_simp) rfl ⟨rfl, (by repeat (first | with_reducible exact Below.refl _ _ | with_reducible assumption | ((with_reducible refine Below.setCell ?_ ?_ _); rotate_left; · (first | omega | exact Nat.le_refl _ | (simp <;> omega))) | (with_reducible refine Below.allocW ?_ _) | (with_reducible refine Below.drew ?_) | (with_reducible refine Below.extW ?_ _)))⟩
theorem wide_div (n : Nat) : n / 18446744073709551616 * 18446744073709551616 + n % 18446744073709551616 = n := Nat.div_add_mod' _ _
theorem reckon_Over (w : World) (n c : Nat) (h1 : 1 ≤ c) (hc : c ≤ 9223372036854775807) (hq : n / c ≤ 9223372036854775807) :
    Calls Tryz.prog 99 #[wideV n, .int .i64 c] w fun e w' => e = .returned (.tuple #[.int .i64 (n / c : Nat), .bool (decide (0 < n % c)), .bool true]) ∧ Below w.heap.size w w' := by
  have hn1 : n / 18446744073709551616 < c := by
    apply Nat.lt_of_not_le
    intro h
    have h2 : c * 18446744073709551616 ≤ n := Nat.le_trans (Nat.mul_le_mul_right _ h) (Nat.div_mul_le_self n 18446744073709551616)
    have h3 : 18446744073709551616 ≤ n / c := (Nat.le_div_iff_mul_le (by omega)).2 (by rw [Nat.mul_comm]; exact h2)
    omega
  have hD := Lib.hid (fun w => bits_Div64 w (n / 18446744073709551616) (n % 18446744073709551616) c (by omega) hn1 (Nat.mod_lt _ (by decide)))
  rw [wide_div] at hD
  have hr0 : n % c ≤ c := Nat.le_of_lt (Nat.mod_lt n (show c > 0 by omega))
  unfold wideV
  generalize n % 18446744073709551616 = n0 at hD ⊢
  generalize n / 18446744073709551616 = n1 at hD hn1 ⊢
  generalize n / c = q at hD hq ⊢
  generalize n % c = r at hD hr0 ⊢
  have hn1' : decide ((c : Int) ≤ (n1 : Int)) = false := by simp; omega
  have h1' : decide ((c : Int) < 1) = false := by simp; omega
  go_enter Tryz.func99, Tryz.ntmps99
  go_wp2_with fail
  refine (hD.out _).mono ?_
  rintro e w1 ⟨rfl, hb1⟩
  have B1 : Below w.heap.size w w1 := Below.then_ (by repeat (first | with_reducible exact Below.refl _ _ | with_reducible assumption | ((with_reducible refine Below.setCell ?_ ?_ _); rotate_left; · (first | omega | exact Nat.le_refl _ | (simp <;> omega))) | (with_reducible refine Below.allocW ?_ _) | (with_reducible refine Below.drew ?_) | (with_reducible refine Below.extW ?_ _))) hb1
  have s1 : w.heap.size ≤ w1.heap.size := B1.size
  go_wp2_with fail
  refine (reckon_count _ q (by omega)).mono ?_
  rintro e w2 ⟨rfl, hb2⟩
  have B2 : Below w.heap.size w w2 := Below.then_ (by repeat (first | with_reducible exact Below.refl _ _ | with_reducible assumption | ((with_reducible refine Below.setCell ?_ ?_ _); rotate_left; · (first | omega | exact Nat.le_refl _ | (simp <;> omega))) | (with_reducible refine Below.allocW ?_ _) | (with_reducible refine Below.drew ?_) | (with_reducible refine Below.extW ?_ _))) hb2
  have s2 : w.heap.size ≤ w2.heap.size := B2.size
  go_wp2_with fail
  go_ret3
  exact ⟨by simp, (by repeat (first | with_reducible exact Below.refl _ _ | with_reducible assumption | ((with_reducible refine Below.setCell ?_ ?_ _); rotate_left; · (first | omega | exact Nat.le_refl _ | (simp <;> omega))) | (with_reducible refine Below.allocW ?_ _) | (with_reducible refine Below.drew ?_) | (with_reducible refine Below.extW ?_ _)))⟩
end Go.Proofs.YtalnhdfgjjhhbaaGreat
/- Package bound: each: a function value called for all nodes. -/
namespace Go.Proofs.YtalnhdfgjjhhbaaGreat
open Go.ChangeShapes Go.WideShapes Go.ChangeAt Go.RowKit
set_option linter.unusedVariables false
set_option maxRecDepth 100000

/-- What is so of the world behind so many nodes: it stays where only new blocks come. -/
structure Stays (I : Nat → World → Prop) : Prop where
  st : ∀ q W W', I q W → Below W.heap.size W W' → I q W'
set_option maxHeartbeats 1000000 in
theorem bound_each (w : World) (g K l : Nat) (k : Int) (r : List Nd) (F : Nat → Prop) (h : DigAt w g K l k r F) (hn : r.length ≤ 67108864)
    (fn : Nat) (caps : Array Value) (eg : ∀ args W, (callFunc fn args).run Tryz.prog W = .ok (.enter fn args) W)
    (I : Nat → World → Prop) (hI : Stays I) (h0 : I 0 w)
    (step : ∀ (q : Nat) (hq : q < r.length) (W : World), I q W → Calls Tryz.prog fn (#[.int .i64 (endsOf l r[q].1).1, .int .i64 (endsOf l r[q].1).2.1, .int .i64 r[q].2] ++ caps) W fun e W' => e = .returned (.tuple #[]) ∧ I (q + 1) W' ∧ KeepN W W') :
    Calls Tryz.prog 91 #[.pointer (some ⟨g, 0, none⟩), .func (.func fn) #[] caps] w fun e w' => e = .returned (.tuple #[]) ∧ I r.length w' ∧ w.heap.size ≤ w'.heap.size := by
  have hf := h.fits
  have hll := h.l_le
  have HD := Lib.hid h
  have H0 := Lib.hid h0
  have HS := Lib.hid step
  clear h h0 step
  go_enter Tryz.func91, Tryz.ntmps91
  go_wp2_with fail
  refine (digest_Conf _ g K l k r F HD.out).mono ?_
  rintro e w1 ⟨rfl, hb1⟩
  have B1 : Below w.heap.size w w1 := Below.then_ (by repeat (first | with_reducible exact Below.refl _ _ | with_reducible assumption | ((with_reducible refine Below.setCell ?_ ?_ _); rotate_left; · (first | omega | exact Nat.le_refl _ | (simp <;> omega))) | (with_reducible refine Below.allocW ?_ _) | (with_reducible refine Below.drew ?_) | (with_reducible refine Below.extW ?_ _))) hb1
  have s1 : w.heap.size ≤ w1.heap.size := B1.size
  go_wp2_with fail
  refine (digest_Nodes _ g K l k r F (HD.out.below B1) hn).mono ?_
  rintro e w2 ⟨v, rfl, ho, hb2⟩
  have B2 : Below w.heap.size w w2 := Below.then_ (by repeat (first | with_reducible exact Below.refl _ _ | with_reducible assumption | ((with_reducible refine Below.setCell ?_ ?_ _); rotate_left; · (first | omega | exact Nat.le_refl _ | (simp <;> omega))) | (with_reducible refine Below.allocW ?_ _) | (with_reducible refine Below.drew ?_) | (with_reducible refine Below.extW ?_ _))) hb2
  have s2 : w.heap.size ≤ w2.heap.size := B2.size
  have HO := Lib.hid ho
  have H2 := Lib.hid (hI.st 0 w w2 H0.out B2)
  obtain ⟨A, cap, rfl, _⟩ := ho.form
  clear ho hb1 hb2 B1
  go_wp2_with fail
  go_loopw [16] (fun i wr => ∃ q : Nat, q ≤ r.length ∧ i = .int .i64 q ∧ Own wr w1.heap.size 99 encN (.slice A r.length cap) r ∧ I q wr ∧ w.heap.size ≤ wr.heap.size) (fun i _ => r.length - (intOf i).toNat)
  case atStart => exact ⟨0, Nat.zero_le _, rfl, HO.out, H2.out, s2⟩
  case round =>
    obtain ⟨j, hj, rfl, hown, hIj, hs⟩ := hrel
    have KO := Lib.hid hown
    have KI := Lib.hid hIj
    clear hown hIj
    by_cases hlt : j < r.length
    · obtain ⟨c, off, rfl, hc, hcl⟩ := KO.out.sl.at_ hlt
      have d0 := hcl 0 (.int .i64 r[j].1) rfl
      have d1 := hcl 1 (.int .i64 r[j].2) rfl
      simp only [Nat.add_zero] at d0
      have hx := hf.roll.2 _ (List.getElem_mem hlt)
      have hxl := hf.lt _ (List.getElem_mem hlt)
      have hp := pow_48 (n := l) hll.2
      have ST := Lib.hid (HS.out j hlt)
      obtain ⟨x, hxe⟩ : ∃ x, x = r[j] := ⟨_, rfl⟩
      rw [← hxe] at d0 d1 hx hxl ST
      have hx1 : x.1 ≤ 562949953421312 := by omega
      have HE := Lib.hid (twig_Ends · l x.1 (by omega))
      generalize endsOf l x.1 = t at HE ST
      obtain ⟨t1, t2, t3⟩ := t
      unfold endsV at HE
      clear hcl hxe hxl hp hx
      go_wp2_with fail
      refine (HE.out _).mono ?_
      rintro e w3 ⟨rfl, hb3⟩
      have c3 := fun o => hb3.cell (p := ⟨wr.heap.size, o, none⟩) (by simp)
      have z3 : wr.heap.size < w3.heap.size := by have := hb3.size; simp at this; omega
      have BW : Below wr.heap.size wr w3 := ((Below.refl wr.heap.size wr).alloc (Nat.le_refl _) _).trans (hb3.mono (by simp))
      have I3 := Lib.hid (hI.st j wr w3 KI.out BW)
      have O3 := Lib.hid (KO.out.below BW)
      clear BW hb3
      go_wp2_with fail
      refine (ST.out _ I3.out).mono ?_
      rintro e w4 ⟨rfl, hI4, hk4⟩
      have I4 := Lib.hid hI4
      have O4 := Lib.hid (hk4.own O3.out)
      have z4 := hk4.1
      clear hI4 hk4
      go_wp2_with fail
      go_roundw
      case rel => exact ⟨j + 1, by omega, by go_num, O4.out, I4.out, by omega⟩
      case measure => simp [intOf]; omega
    · obtain rfl : j = r.length := by omega
      go_wp2_with fail
      go_end0
      exact ⟨rfl, KI.out, hs⟩
end Go.Proofs.YtalnhdfgjjhhbaaGreat
/- Package bound: Least, Greatest. -/
namespace Go.Proofs.YtalnhdfgjjhhbaaGreat
open Go.ChangeShapes Go.WideShapes Go.ChangeAt Go.RowKit
set_option linter.unusedVariables false
set_option maxRecDepth 100000

theorem bound_each_nil (w : World) (fv : Value) : Calls Tryz.prog 91 #[.pointer none, fv] w fun e w' => e = .returned (.tuple #[]) ∧ Below w.heap.size w w' := by
  go_enter Tryz.func91, Tryz.ntmps91
  go_wp2_with fail
  refine (digest_Conf_nil _).mono ?_
  rintro e w1 ⟨rfl, hb1⟩
  have B1 : Below w.heap.size w w1 := Below.then_ (by repeat (first | with_reducible exact Below.refl _ _ | with_reducible assumption | ((with_reducible refine Below.setCell ?_ ?_ _); rotate_left; · (first | omega | exact Nat.le_refl _ | (simp <;> omega))) | (with_reducible refine Below.allocW ?_ _) | (with_reducible refine Below.drew ?_) | (with_reducible refine Below.extW ?_ _))) hb1
  have s1 : w.heap.size ≤ w1.heap.size := B1.size
  go_wp2_with fail
  refine (digest_Nodes_nil _).mono ?_
  rintro e w2 ⟨rfl, hb2⟩
  have B2 : Below w.heap.size w w2 := Below.then_ (by repeat (first | with_reducible exact Below.refl _ _ | with_reducible assumption | ((with_reducible refine Below.setCell ?_ ?_ _); rotate_left; · (first | omega | exact Nat.le_refl _ | (simp <;> omega))) | (with_reducible refine Below.allocW ?_ _) | (with_reducible refine Below.drew ?_) | (with_reducible refine Below.extW ?_ _))) hb2
  have s2 : w.heap.size ≤ w2.heap.size := B2.size
  go_wp2_with fail
  go_loop [16] (fun i => i = .int .i64 0) (fun _ => 0)
  case atStart => rfl
  case round =>
    subst hrel
    go_wp2_with fail
    go_end0
    exact ⟨rfl, B2⟩
theorem bound_wrong_nil (w : World) : Calls Tryz.prog 98 #[.pointer none] w fun e w' => e = .returned (.int .i64 1) ∧ Below w.heap.size w w' := by
  go_enter Tryz.func98, Tryz.ntmps98
  go_wp2_with fail
  go_ret
  exact ⟨rfl, (by repeat (first | with_reducible exact Below.refl _ _ | with_reducible assumption | ((with_reducible refine Below.setCell ?_ ?_ _); rotate_left; · (first | omega | exact Nat.le_refl _ | (simp <;> omega))) | (with_reducible refine Below.allocW ?_ _) | (with_reducible refine Below.drew ?_) | (with_reducible refine Below.extW ?_ _)))⟩
def wrongOf (r : List Nd) : Int := if sumR r = 0 then 7 else 0
theorem bound_wrong (w : World) (g K l : Nat) (k : Int) (r : List Nd) (F : Nat → Prop) (h : DigAt w g K l k r F) : Calls Tryz.prog 98 #[.pointer (some ⟨g, 0, none⟩)] w fun e w' => e = .returned (.int .i64 (wrongOf r)) ∧ Below w.heap.size w w' := by
  have HN := Lib.hid (digest_N w g K l k r F h)
  unfold wrongOf
  by_cases hN : sumR r = 0
  · rw [if_pos hN]
    rw [hN] at HN
    clear hN h
    go_enter Tryz.func98, Tryz.ntmps98
    go_wp2_with fail
    refine (HN.out).mono ?_
    rintro e w1 ⟨rfl, hb1⟩
    have B1 : Below w.heap.size w w1 := Below.then_ (by repeat (first | with_reducible exact Below.refl _ _ | with_reducible assumption | ((with_reducible refine Below.setCell ?_ ?_ _); rotate_left; · (first | omega | exact Nat.le_refl _ | (simp <;> omega))) | (with_reducible refine Below.allocW ?_ _) | (with_reducible refine Below.drew ?_) | (with_reducible refine Below.extW ?_ _))) hb1
    have s1 : w.heap.size ≤ w1.heap.size := B1.size
    go_wp2_with fail
    go_ret
    exact ⟨rfl, (by repeat (first | with_reducible exact Below.refl _ _ | with_reducible assumption | ((with_reducible refine Below.setCell ?_ ?_ _); rotate_left; · (first | omega | exact Nat.le_refl _ | (simp <;> omega))) | (with_reducible refine Below.allocW ?_ _) | (with_reducible refine Below.drew ?_) | (with_reducible refine Below.extW ?_ _)))⟩
  · rw [if_neg hN]
    have hN0 : ((sumR r) == 0) = false := by simpa using hN
    clear hN h
    go_enter Tryz.func98, Tryz.ntmps98
    go_wp2_with fail
    refine (HN.out).mono ?_
    rintro e w1 ⟨rfl, hb1⟩
    have B1 : Below w.heap.size w w1 := Below.then_ (by repeat (first | with_reducible exact Below.refl _ _ | with_reducible assumption | ((with_reducible refine Below.setCell ?_ ?_ _); rotate_left; · (first | omega | exact Nat.le_refl _ | (simp <;> omega))) | (with_reducible refine Below.allocW ?_ _) | (with_reducible refine Below.drew ?_) | (with_reducible refine Below.extW ?_ _))) hb1
    have s1 : w.heap.size ≤ w1.heap.size := B1.size
    go_wp2_with fail
    go_ret
    exact ⟨rfl, (by repeat (first | with_reducible exact Below.refl _ _ | with_reducible assumption | ((with_reducible refine Below.setCell ?_ ?_ _); rotate_left; · (first | omega | exact Nat.le_refl _ | (simp <;> omega))) | (with_reducible refine Below.allocW ?_ _) | (with_reducible refine Below.drew ?_) | (with_reducible refine Below.extW ?_ _)))⟩

/-- The least first, and the least last value of nodes. -/
def leastStep (l : Int) (a : Int × Int) (x : Nd) : Int × Int := (min a.1 (endsOf l x.1).1, min a.2 (endsOf l x.1).2.1)
def leastOf (l : Int) (r : List Nd) : Int × Int := r.foldl (leastStep l) (9223372036854775807, 9223372036854775807)
theorem leastOf_succ {l : Int} {r : List Nd} {q : Nat} (h : q < r.length) : leastOf l (r.take (q + 1)) = leastStep l (leastOf l (r.take q)) r[q] := by
  unfold leastOf
  rw [List.take_succ_eq_append_getElem h, List.foldl_append]; rfl
theorem bound_Least1 (w : World) (lo hi n x y : Int) (b : Nat) (h : bothAt w b x y) :
    Calls Tryz.prog 101 #[.int .i64 lo, .int .i64 hi, .int .i64 n, .pointer (some ⟨b, 0, none⟩)] w fun e w' => e = .returned (.tuple #[]) ∧ w' = (w.setCell ⟨b, 0, none⟩ (.int .i64 (min x lo))).setCell ⟨b, 1, none⟩ (.int .i64 (min y hi)) := by
  have cc := blk_cell h
  have cf := blk_frozen h
  have zb := lt_of_block h
  clear h
  go_enter Tryz.func101, Tryz.ntmps101
  go_wp2_with fail
  go_end0
  exact ⟨rfl, rfl⟩
theorem KeepN.set {w : World} {b o : Nat} {x y : Int} (h : bothAt w b x y) (u : Value) : KeepN w (w.setCell ⟨b, o, none⟩ u) := by
  refine ⟨by simp [World.setCell], fun c cs fr hc => ?_⟩
  have hne : c ≠ b := by
    rintro rfl
    unfold bothAt at h
    rw [h] at hc
    injection hc with hc
    injection hc with _ ht
    exact absurd ht (by decide)
  exact (Below.heap_setCell _ _ _ _ hne).trans hc
theorem Below.set_at {B : Nat} {w W : World} {b o : Nat} {u : Value} (h : Below B w W) (hb : B ≤ b) : Below B w (W.setCell ⟨b, o, none⟩ u) := h.setCell (p := ⟨b, o, none⟩) hb u

/-- The two results in memory behind some nodes. -/
def BoundI (w : World) (b0 b1 : Nat) (f : Nat → Int × Int) (q : Nat) (W : World) : Prop := Below w.heap.size w W ∧ bothAt W b0 0 0 ∧ bothAt W b1 (f q).1 (f q).2
theorem boundI_stays (w : World) (b0 b1 : Nat) (f : Nat → Int × Int) : Stays (BoundI w b0 b1 f) := ⟨fun q W W' ⟨h1, h2, h3⟩ hb => ⟨h1.trans (hb.mono h1.size), h2.below hb, h3.below hb⟩⟩
def leastT (l : Int) (r : List Nd) : Int × Int × Int := if sumR r = 0 then (0, 0, 7) else ((leastOf l r).1, (leastOf l r).2, 0)
theorem enters_Least : ∀ args W, (callFunc 101 args).run Tryz.prog W = .ok (.enter 101 args) W := enters_of Tryz.func101 (by kernel_rfl) rfl
theorem bound_Least (w : World) (g K l : Nat) (k : Int) (r : List Nd) (F : Nat → Prop) (h : DigAt w g K l k r F) (hn : r.length ≤ 67108864) :
    Calls Tryz.prog 47 #[.pointer (some ⟨g, 0, none⟩)] w fun e w' => e = .returned (bothV (leastT l r)) ∧ Below w.heap.size w w' := by
  have HD := Lib.hid (h.alloc (.cells #[.int .i64 0, .int .i64 0] 29))
  have HW := Lib.hid (bound_wrong · g K l k r F ·)
  clear h
  unfold bothV leastT
  unfold wrongOf at HW
  by_cases hN : sumR r = 0
  · rw [if_pos hN]
    rw [if_pos hN] at HW
    clear hN
    go_enter Tryz.func47, Tryz.ntmps47
    go_wp2_with fail
    refine (HW.out _ HD.out).mono ?_
    rintro e w1 ⟨rfl, hb1⟩
    have B1 : Below w.heap.size w w1 := Below.then_ (by repeat (first | with_reducible exact Below.refl _ _ | with_reducible assumption | ((with_reducible refine Below.setCell ?_ ?_ _); rotate_left; · (first | omega | exact Nat.le_refl _ | (simp <;> omega))) | (with_reducible refine Below.allocW ?_ _) | (with_reducible refine Below.drew ?_) | (with_reducible refine Below.extW ?_ _))) hb1
    have s1 : w.heap.size ≤ w1.heap.size := B1.size
    have z1_0 : w.heap.size < w1.heap.size := by have := hb1.size; (try simp at this); omega
    have y1_0 : w.heap.size ≤ w1.heap.size := Nat.le_of_lt z1_0
    have c1_0 := fun o => hb1.cell (p := ⟨w.heap.size, o, none⟩) (by first | omega | (simp <;> omega))
    have f1_0 := fun o => hb1.frozen (p := ⟨w.heap.size, o, none⟩) (by first | omega | (simp <;> omega))
    go_wp2_with fail
    exact bodyPost_ret (v := .tuple #[.agg #[.int .i64 0, .int .i64 0], .int .i64 7]) (by simp only [results, Tryz.results47]; go_simp) rfl ⟨rfl, (by repeat (first | with_reducible exact Below.refl _ _ | with_reducible assumption | ((with_reducible refine Below.setCell ?_ ?_ _); rotate_left; · (first | omega | exact Nat.le_refl _ | (simp <;> omega))) | (with_reducible refine Below.allocW ?_ _) | (with_reducible refine Below.drew ?_) | (with_reducible refine Below.extW ?_ _)))⟩
  · rw [if_neg hN]
    rw [if_neg hN] at HW
    clear hN
    have N0 := Lib.hid (bothAt.new w 0 0)
    go_enter Tryz.func47, Tryz.ntmps47
    go_wp2_with fail
    refine (HW.out _ HD.out).mono ?_
    rintro e w1 ⟨rfl, hb1⟩
    have B1 : Below w.heap.size w w1 := Below.then_ (by repeat (first | with_reducible exact Below.refl _ _ | with_reducible assumption | ((with_reducible refine Below.setCell ?_ ?_ _); rotate_left; · (first | omega | exact Nat.le_refl _ | (simp <;> omega))) | (with_reducible refine Below.allocW ?_ _) | (with_reducible refine Below.drew ?_) | (with_reducible refine Below.extW ?_ _))) hb1
    have s1 : w.heap.size ≤ w1.heap.size := B1.size
    have z1_0 : w.heap.size < w1.heap.size := by have := hb1.size; (try simp at this); omega
    have y1_0 : w.heap.size ≤ w1.heap.size := Nat.le_of_lt z1_0
    have c1_0 := fun o => hb1.cell (p := ⟨w.heap.size, o, none⟩) (by first | omega | (simp <;> omega))
    have f1_0 := fun o => hb1.frozen (p := ⟨w.heap.size, o, none⟩) (by first | omega | (simp <;> omega))
    have n0 := Lib.hid ((N0.out.below hb1).alloc (.cells #[.int .i64 9223372036854775807, .int .i64 9223372036854775807] 29))
    have n1 := Lib.hid (bothAt.new w1 9223372036854775807 9223372036854775807)
    have HD1 := Lib.hid ((HD.out.below hb1).alloc (.cells #[.int .i64 9223372036854775807, .int .i64 9223372036854775807] 29))
    have BA : Hid (Below w.heap.size w (w1.alloc (.cells #[.int .i64 9223372036854775807, .int .i64 9223372036854775807] 29))) := Lib.hid (by repeat (first | with_reducible exact Below.refl _ _ | with_reducible assumption | ((with_reducible refine Below.setCell ?_ ?_ _); rotate_left; · (first | omega | exact Nat.le_refl _ | (simp <;> omega))) | (with_reducible refine Below.allocW ?_ _) | (with_reducible refine Below.drew ?_) | (with_reducible refine Below.extW ?_ _)))
    go_wp2_with fail
    refine (bound_each _ g K l k r F HD1.out hn 101 #[.pointer (some ⟨w1.heap.size, 0, none⟩)] enters_Least (BoundI w w.heap.size w1.heap.size (fun q => leastOf l (r.take q))) (boundI_stays _ _ _ _) ⟨BA.out, n0.out, n1.out⟩ ?_).mono ?_
    · intro q hq W ⟨i1, i2, i3⟩
      refine (bound_Least1 W _ _ _ _ _ _ i3).mono ?_
      rintro e W' ⟨rfl, rfl⟩
      refine ⟨rfl, ⟨Below.set_at (Below.set_at i1 (by omega)) (by omega), (i2.set (by omega) _).set (by omega) _, ?_⟩, keepN_t (KeepN.set i3 _) (KeepN.set (i3.set0 _) _)⟩
      simp only
      rw [leastOf_succ hq]
      exact (i3.set0 _).set1 _
    · rintro e w2 ⟨rfl, ⟨i1, i2, i3⟩, hs2⟩
      simp only [List.take_length] at i3
      have cc := blk_cell i3
      have cf := blk_frozen i2
      have c0 := blk_cell i2
      have z0 := lt_of_block i2
      have z1 := lt_of_block i3
      clear i2 i3
      go_wp2_with fail
      exact bodyPost_ret (v := .tuple #[.agg #[.int .i64 (leastOf l r).1, .int .i64 (leastOf l r).2], .int .i64 0]) (by simp only [results, Tryz.results47]; go_simp) rfl ⟨rfl, (by repeat (first | with_reducible exact Below.refl _ _ | with_reducible assumption | ((with_reducible refine Below.setCell ?_ ?_ _); rotate_left; · (first | omega | exact Nat.le_refl _ | (simp <;> omega))) | (with_reducible refine Below.allocW ?_ _) | (with_reducible refine Below.drew ?_) | (with_reducible refine Below.extW ?_ _)))⟩
end Go.Proofs.YtalnhdfgjjhhbaaGreat
/- Package bound: Greatest, Spread. -/
namespace Go.Proofs.YtalnhdfgjjhhbaaGreat
open Go.ChangeShapes Go.WideShapes Go.ChangeAt Go.RowKit
set_option linter.unusedVariables false
set_option maxRecDepth 100000

/-- The greatest first, and the greatest last value of nodes. -/
def mostStep (l : Int) (a : Int × Int) (x : Nd) : Int × Int := (max a.1 (endsOf l x.1).1, max a.2 (endsOf l x.1).2.1)
def mostOf (l : Int) (r : List Nd) : Int × Int := r.foldl (mostStep l) (0, 0)
theorem mostOf_succ {l : Int} {r : List Nd} {q : Nat} (h : q < r.length) : mostOf l (r.take (q + 1)) = mostStep l (mostOf l (r.take q)) r[q] := by
  unfold mostOf
  rw [List.take_succ_eq_append_getElem h, List.foldl_append]; rfl
theorem bound_Greatest1 (w : World) (lo hi n x y : Int) (b : Nat) (h : bothAt w b x y) :
    Calls Tryz.prog 102 #[.int .i64 lo, .int .i64 hi, .int .i64 n, .pointer (some ⟨b, 0, none⟩)] w fun e w' => e = .returned (.tuple #[]) ∧ w' = (w.setCell ⟨b, 0, none⟩ (.int .i64 (max x lo))).setCell ⟨b, 1, none⟩ (.int .i64 (max y hi)) := by
  have cc := blk_cell h
  have cf := blk_frozen h
  have zb := lt_of_block h
  clear h
  go_enter Tryz.func102, Tryz.ntmps102
  go_wp2_with fail
  go_end0
  exact ⟨rfl, rfl⟩
def mostT (l : Int) (r : List Nd) : Int × Int × Int := if sumR r = 0 then (0, 0, 7) else ((mostOf l r).1, (mostOf l r).2, 0)
theorem enters_Greatest : ∀ args W, (callFunc 102 args).run Tryz.prog W = .ok (.enter 102 args) W := enters_of Tryz.func102 (by kernel_rfl) rfl
theorem bound_Greatest (w : World) (g K l : Nat) (k : Int) (r : List Nd) (F : Nat → Prop) (h : DigAt w g K l k r F) (hn : r.length ≤ 67108864) :
    Calls Tryz.prog 48 #[.pointer (some ⟨g, 0, none⟩)] w fun e w' => e = .returned (bothV (mostT l r)) ∧ Below w.heap.size w w' := by
  have HD := Lib.hid (h.alloc (.cells #[.int .i64 0, .int .i64 0] 29))
  have HW := Lib.hid (bound_wrong · g K l k r F ·)
  clear h
  unfold bothV mostT
  unfold wrongOf at HW
  by_cases hN : sumR r = 0
  · rw [if_pos hN]
    rw [if_pos hN] at HW
    clear hN
    go_enter Tryz.func48, Tryz.ntmps48
    go_wp2_with fail
    refine (HW.out _ HD.out).mono ?_
    rintro e w1 ⟨rfl, hb1⟩
    have B1 : Below w.heap.size w w1 := Below.then_ (by repeat (first | with_reducible exact Below.refl _ _ | with_reducible assumption | ((with_reducible refine Below.setCell ?_ ?_ _); rotate_left; · (first | omega | exact Nat.le_refl _ | (simp <;> omega))) | (with_reducible refine Below.allocW ?_ _) | (with_reducible refine Below.drew ?_) | (with_reducible refine Below.extW ?_ _))) hb1
    have s1 : w.heap.size ≤ w1.heap.size := B1.size
    have z1_0 : w.heap.size < w1.heap.size := by have := hb1.size; (try simp at this); omega
    have y1_0 : w.heap.size ≤ w1.heap.size := Nat.le_of_lt z1_0
    have c1_0 := fun o => hb1.cell (p := ⟨w.heap.size, o, none⟩) (by first | omega | (simp <;> omega))
    have f1_0 := fun o => hb1.frozen (p := ⟨w.heap.size, o, none⟩) (by first | omega | (simp <;> omega))
    go_wp2_with fail
    exact bodyPost_ret (v := .tuple #[.agg #[.int .i64 0, .int .i64 0], .int .i64 7]) (by simp only [results, Tryz.results48]; go_simp) rfl ⟨rfl, (by repeat (first | with_reducible exact Below.refl _ _ | with_reducible assumption | ((with_reducible refine Below.setCell ?_ ?_ _); rotate_left; · (first | omega | exact Nat.le_refl _ | (simp <;> omega))) | (with_reducible refine Below.allocW ?_ _) | (with_reducible refine Below.drew ?_) | (with_reducible refine Below.extW ?_ _)))⟩
  · rw [if_neg hN]
    rw [if_neg hN] at HW
    clear hN
    have N0 := Lib.hid (bothAt.new w 0 0)
    go_enter Tryz.func48, Tryz.ntmps48
    go_wp2_with fail
    refine (HW.out _ HD.out).mono ?_
    rintro e w1 ⟨rfl, hb1⟩
    have B1 : Below w.heap.size w w1 := Below.then_ (by repeat (first | with_reducible exact Below.refl _ _ | with_reducible assumption | ((with_reducible refine Below.setCell ?_ ?_ _); rotate_left; · (first | omega | exact Nat.le_refl _ | (simp <;> omega))) | (with_reducible refine Below.allocW ?_ _) | (with_reducible refine Below.drew ?_) | (with_reducible refine Below.extW ?_ _))) hb1
    have s1 : w.heap.size ≤ w1.heap.size := B1.size
    have z1_0 : w.heap.size < w1.heap.size := by have := hb1.size; (try simp at this); omega
    have y1_0 : w.heap.size ≤ w1.heap.size := Nat.le_of_lt z1_0
    have c1_0 := fun o => hb1.cell (p := ⟨w.heap.size, o, none⟩) (by first | omega | (simp <;> omega))
    have f1_0 := fun o => hb1.frozen (p := ⟨w.heap.size, o, none⟩) (by first | omega | (simp <;> omega))
    have n0 := Lib.hid ((N0.out.below hb1).alloc (.cells #[.int .i64 0, .int .i64 0] 29))
    have n1 := Lib.hid (bothAt.new w1 0 0)
    have HD1 := Lib.hid ((HD.out.below hb1).alloc (.cells #[.int .i64 0, .int .i64 0] 29))
    have BA : Hid (Below w.heap.size w (w1.alloc (.cells #[.int .i64 0, .int .i64 0] 29))) := Lib.hid (by repeat (first | with_reducible exact Below.refl _ _ | with_reducible assumption | ((with_reducible refine Below.setCell ?_ ?_ _); rotate_left; · (first | omega | exact Nat.le_refl _ | (simp <;> omega))) | (with_reducible refine Below.allocW ?_ _) | (with_reducible refine Below.drew ?_) | (with_reducible refine Below.extW ?_ _)))
    go_wp2_with fail
    refine (bound_each _ g K l k r F HD1.out hn 102 #[.pointer (some ⟨w1.heap.size, 0, none⟩)] enters_Greatest (BoundI w w.heap.size w1.heap.size (fun q => mostOf l (r.take q))) (boundI_stays _ _ _ _) ⟨BA.out, n0.out, n1.out⟩ ?_).mono ?_
    · intro q hq W ⟨i1, i2, i3⟩
      refine (bound_Greatest1 W _ _ _ _ _ _ i3).mono ?_
      rintro e W' ⟨rfl, rfl⟩
      refine ⟨rfl, ⟨Below.set_at (Below.set_at i1 (by omega)) (by omega), (i2.set (by omega) _).set (by omega) _, ?_⟩, keepN_t (KeepN.set i3 _) (KeepN.set (i3.set0 _) _)⟩
      simp only
      rw [mostOf_succ hq]
      exact (i3.set0 _).set1 _
    · rintro e w2 ⟨rfl, ⟨i1, i2, i3⟩, hs2⟩
      simp only [List.take_length] at i3
      have cc := blk_cell i3
      have cf := blk_frozen i2
      have c0 := blk_cell i2
      have z0 := lt_of_block i2
      have z1 := lt_of_block i3
      clear i2 i3
      go_wp2_with fail
      exact bodyPost_ret (v := .tuple #[.agg #[.int .i64 (mostOf l r).1, .int .i64 (mostOf l r).2], .int .i64 0]) (by simp only [results, Tryz.results48]; go_simp) rfl ⟨rfl, (by repeat (first | with_reducible exact Below.refl _ _ | with_reducible assumption | ((with_reducible refine Below.setCell ?_ ?_ _); rotate_left; · (first | omega | exact Nat.le_refl _ | (simp <;> omega))) | (with_reducible refine Below.allocW ?_ _) | (with_reducible refine Below.drew ?_) | (with_reducible refine Below.extW ?_ _)))⟩
end Go.Proofs.YtalnhdfgjjhhbaaGreat
/- The reference of layer 20 (bound): Ends. -/
namespace Go.Proofs.YtalnhdfgjjhhbaaGreat
open Go.ChangeShapes Go.WideShapes Go.ChangeAt Go.RowKit
set_option linter.unusedVariables false
set_option maxRecDepth 100000

theorem lt_or_dec (a b : Int) : a < b ∨ decide (a < b) = false := by
  by_cases h : a < b
  · exact .inl h
  · exact .inr (decide_eq_false h)
/-- The four ends, as the document finds them. -/
structure E4 where
  a : Int
  b : Int
  c : Int
  d : Int
def e4Step (l : Int) (e : E4) (x : Nd) : E4 := ⟨if (endsOf l x.1).1 < e.a then (endsOf l x.1).1 else e.a, if (endsOf l x.1).2.1 < e.b then (endsOf l x.1).2.1 else e.b, if e.c < (endsOf l x.1).1 then (endsOf l x.1).1 else e.c, if e.d < (endsOf l x.1).2.1 then (endsOf l x.1).2.1 else e.d⟩
def e4Of (l : Int) (r : List Nd) : E4 := r.foldl (e4Step l) ⟨281474976710656, 281474976710656, -1, -1⟩
theorem e4Of_succ {l : Int} {r : List Nd} {q : Nat} (h : q < r.length) : e4Of l (r.take (q + 1)) = e4Step l (e4Of l (r.take q)) r[q] := by
  unfold e4Of
  rw [List.take_succ_eq_append_getElem h, List.foldl_append]; rfl
def fourAt (w : World) (b : Nat) (e : E4) : Prop := w.heap[b]? = some (.cells #[.int .i64 e.a, .int .i64 e.b, .int .i64 e.c, .int .i64 e.d] 85 (0, 0))
theorem fourAt.s0 {w : World} {b : Nat} {e : E4} (h : fourAt w b e) (x : Int) : fourAt (w.setCell ⟨b, 0, none⟩ (.int .i64 x)) b { e with a := x } := heap_set_at (i := 0) h _
theorem fourAt.s1 {w : World} {b : Nat} {e : E4} (h : fourAt w b e) (x : Int) : fourAt (w.setCell ⟨b, 1, none⟩ (.int .i64 x)) b { e with b := x } := heap_set_at (i := 1) h _
theorem fourAt.s2 {w : World} {b : Nat} {e : E4} (h : fourAt w b e) (x : Int) : fourAt (w.setCell ⟨b, 2, none⟩ (.int .i64 x)) b { e with c := x } := heap_set_at (i := 2) h _
theorem fourAt.s3 {w : World} {b : Nat} {e : E4} (h : fourAt w b e) (x : Int) : fourAt (w.setCell ⟨b, 3, none⟩ (.int .i64 x)) b { e with d := x } := heap_set_at (i := 3) h _
theorem blk_set {w : World} {b q o : Nat} {u : Value} {ob : Obj} (h : w.heap[b]? = some ob) (hne : b ≠ q) : (w.setCell ⟨q, o, none⟩ u).heap[b]? = some ob := (Below.heap_setCell _ _ _ _ hne).trans h

set_option maxHeartbeats 8000000 in
theorem ref20_Ends (w : World) (k u : Int) (A : Option Addr) (cap : Nat) (l : List Nd) (hS : Sl w w.heap.size encN A l) (hI : ints l) (hm : l.length ≤ 67108864) :
    Calls Tryz.prog 50 #[.agg #[.int .i64 k, .int .i64 u, .slice A l.length cap]] w fun e w' => e = .returned (.agg #[.int .i64 (e4Of u l).a, .int .i64 (e4Of u l).b, .int .i64 (e4Of u l).c, .int .i64 (e4Of u l).d]) ∧ Below w.heap.size w w' := by
  have HS := Lib.hid hS
  have HI := Lib.hid hI
  clear hS hI
  go_enter Tryz.func50, Tryz.ntmps50
  go_wp2_with fail
  have K0 : Hid ((((w.alloc (.cells #[.int .i64 k, .int .i64 u, .slice A l.length cap] 37)).alloc (.cells #[.int .i64 0, .int .i64 0, .int .i64 0, .int .i64 0] 85)).alloc (.cells #[.int .i64 281474976710656, .int .i64 281474976710656, .int .i64 (-1), .int .i64 (-1)] 85)).heap[w.heap.size]? = some (.cells #[.int .i64 k, .int .i64 u, .slice A l.length cap] 37 (0, 0))) := Lib.hid (by
    rw [Below.heap_alloc _ _ _ (by simp; omega), Below.heap_alloc _ _ _ (by simp)]; exact heap_alloc_new _ _)
  have K1 : Hid (fourAt (((w.alloc (.cells #[.int .i64 k, .int .i64 u, .slice A l.length cap] 37)).alloc (.cells #[.int .i64 0, .int .i64 0, .int .i64 0, .int .i64 0] 85)).alloc (.cells #[.int .i64 281474976710656, .int .i64 281474976710656, .int .i64 (-1), .int .i64 (-1)] 85)) (w.heap.size + 1) ⟨0, 0, 0, 0⟩) := Lib.hid (by
    unfold fourAt
    rw [Below.heap_alloc _ _ _ (by simp)]; exact (by simp only [World.size_alloc] : w.heap.size + 1 = (w.alloc _).heap.size) ▸ heap_alloc_new _ _)
  have K2 : Hid (fourAt (((w.alloc (.cells #[.int .i64 k, .int .i64 u, .slice A l.length cap] 37)).alloc (.cells #[.int .i64 0, .int .i64 0, .int .i64 0, .int .i64 0] 85)).alloc (.cells #[.int .i64 281474976710656, .int .i64 281474976710656, .int .i64 (-1), .int .i64 (-1)] 85)) (w.heap.size + 1 + 1) ⟨281474976710656, 281474976710656, -1, -1⟩) := Lib.hid (by
    unfold fourAt
    have := heap_alloc_new ((w.alloc (.cells #[.int .i64 k, .int .i64 u, .slice A l.length cap] 37)).alloc (.cells #[.int .i64 0, .int .i64 0, .int .i64 0, .int .i64 0] 85)) (.cells #[.int .i64 281474976710656, .int .i64 281474976710656, .int .i64 (-1), .int .i64 (-1)] 85)
    simp only [World.size_alloc] at this
    exact this)
  go_loopw [5] (fun i wr => ∃ q : Nat, q ≤ l.length ∧ i = .int .i64 q ∧ wr.heap[w.heap.size]? = some (.cells #[.int .i64 k, .int .i64 u, .slice A l.length cap] 37 (0, 0)) ∧ fourAt wr (w.heap.size + 1) ⟨0, 0, 0, 0⟩ ∧ fourAt wr (w.heap.size + 1 + 1) (e4Of u (l.take q)) ∧ Below w.heap.size w wr) (fun i _ => l.length - (intOf i).toNat)
  case atStart => exact ⟨0, Nat.zero_le _, rfl, K0.out, K1.out, K2.out, (by repeat (first | with_reducible exact Below.refl _ _ | with_reducible assumption | ((with_reducible refine Below.setCell ?_ ?_ _); rotate_left; · (first | omega | exact Nat.le_refl _ | (simp <;> omega))) | (with_reducible refine Below.allocW ?_ _) | (with_reducible refine Below.drew ?_) | (with_reducible refine Below.extW ?_ _)))⟩
  case round =>
    obtain ⟨j, hj, rfl, hm0, hm1, hm2, hB⟩ := hrel
    have N0 := Lib.hid hm0
    have N1 := Lib.hid hm1
    have N2 := Lib.hid hm2
    have hs0 := hB.size
    have zn2 := lt_of_block hm2
    have zn0 := lt_of_block hm0
    have cb := blk_cell hm0
    have cc := blk_cell hm2
    have cf := blk_frozen hm2
    by_cases hlt : j < l.length
    · obtain ⟨c, off, rfl, hc, hcl⟩ := (HS.out.below hB).at_ hlt
      have d0 := hcl 0 (.int .i64 l[j].1) rfl
      simp only [Nat.add_zero] at d0
      have zc : c < wr.heap.size := by omega
      have hxi := (HI.out _ (List.getElem_mem hlt)).1
      have E7 := e4Of_succ (l := u) hlt
      have i1 : (j : Int) < (l.length : Int) := by omega
      obtain ⟨x, hxe⟩ : ∃ x, x = l[j] := ⟨_, rfl⟩
      rw [← hxe] at d0 hxi E7
      have HE := Lib.hid (ref2_Ends · u x.1 hxi.2)
      unfold e4Step at E7
      generalize e4Of u (l.take j) = m at E7 N2 cc hm2
      generalize endsOf u x.1 = t at E7 HE
      obtain ⟨lo, hi, ok⟩ := t
      obtain ⟨m0, m1, m2, m3⟩ := m
      unfold endsV at HE
      simp only at E7 cc
      have E7 := Lib.hid E7
      clear hcl hxe hxi hm0 hm1 hm2
      go_wp2_with fail
      refine wp_region_ext (by kernel_rfl) (by kernel_rfl) ?_
      repeat (go_big_quiet_step ((go_at_call 59; exact quiet_ext (HE.out _))))
      refine wpQuiet_nil ?_
      intro w1 hb1
      replace hb1 := below_of_ext hb1
      have B1 : Below w.heap.size w w1 := Below.then_ (by repeat (first | with_reducible exact Below.refl _ _ | with_reducible assumption | ((with_reducible refine Below.setCell ?_ ?_ _); rotate_left; · (first | omega | exact Nat.le_refl _ | (simp <;> omega))) | (with_reducible refine Below.allocW ?_ _) | (with_reducible refine Below.drew ?_) | (with_reducible refine Below.extW ?_ _))) hb1
      have s1 : w.heap.size ≤ w1.heap.size := B1.size
      have z1_0 : c < w1.heap.size := by have := hb1.size; (try simp at this); omega
      have y1_0 : c ≤ w1.heap.size := Nat.le_of_lt z1_0
      have c1_0 := fun o => hb1.cell (p := ⟨c, o, none⟩) (by first | omega | (simp <;> omega))
      have f1_0 := fun o => hb1.frozen (p := ⟨c, o, none⟩) (by first | omega | (simp <;> omega))
      have L0 := Lib.hid (blk_below N0.out hb1)
      have L1 : Hid (fourAt w1 (w.heap.size + 1) ⟨0, 0, 0, 0⟩) := Lib.hid (blk_below N1.out hb1)
      have l2 : fourAt w1 (w.heap.size + 1 + 1) ⟨m0, m1, m2, m3⟩ := blk_below N2.out hb1
      have L2 := Lib.hid l2
      have hne0 : w.heap.size ≠ w.heap.size + 1 + 1 := by omega
      have hne1 : w.heap.size + 1 ≠ w.heap.size + 1 + 1 := by omega
      have cc1 := blk_cell l2
      have cf1 := blk_frozen l2
      have zl2 := lt_of_block l2
      clear l2 hb1 cb cc cf zn2 zn0
      obtain ⟨p0, hp0⟩ : ∃ p, p = (if lo < m0 then lo else m0) := ⟨_, rfl⟩
      have P0 := Lib.hid hp0
      clear hp0
      go_upto_if 38 with fail
      go_cut [] (fun wx => wx.heap[w.heap.size]? = some (.cells #[.int .i64 k, .int .i64 u, .slice (some ⟨c, off, none⟩) l.length cap] 37 (0, 0)) ∧ fourAt wx (w.heap.size + 1) ⟨0, 0, 0, 0⟩ ∧ fourAt wx (w.heap.size + 1 + 1) ⟨p0, m1, m2, m3⟩ ∧ Below w.heap.size w wx)
      case first =>
        rcases lt_or_dec lo m0 with h | h
        · go_wp2_with fail
          go_meet
          exact ⟨blk_set L0.out hne0, blk_set L1.out hne1, by rw [P0.out, if_pos h]; exact fourAt.s0 (e := ⟨m0, m1, m2, m3⟩) L2.out _, (by repeat (first | with_reducible exact Below.refl _ _ | with_reducible assumption | ((with_reducible refine Below.setCell ?_ ?_ _); rotate_left; · (first | omega | exact Nat.le_refl _ | (simp <;> omega))) | (with_reducible refine Below.allocW ?_ _) | (with_reducible refine Below.drew ?_) | (with_reducible refine Below.extW ?_ _)))⟩
        · have h' := of_decide_eq_false h
          go_wp2_with fail
          go_meet
          exact ⟨L0.out, L1.out, by rw [P0.out, if_neg (by omega)]; exact L2.out, (by repeat (first | with_reducible exact Below.refl _ _ | with_reducible assumption | ((with_reducible refine Below.setCell ?_ ?_ _); rotate_left; · (first | omega | exact Nat.le_refl _ | (simp <;> omega))) | (with_reducible refine Below.allocW ?_ _) | (with_reducible refine Below.drew ?_) | (with_reducible refine Below.extW ?_ _)))⟩
      case rest =>
        clear L0 L1 L2 cc1 cf1 zl2
        obtain ⟨l0, l1, l2, l3⟩ := hcut
        have L0 := Lib.hid l0
        have L1 := Lib.hid l1
        have L2 := Lib.hid l2
        have cc1 := blk_cell l2
        have cf1 := blk_frozen l2
        have zl2 := lt_of_block l2
        have s9 := l3.size
        clear l0 l1 l2
        obtain ⟨p1, hp1⟩ : ∃ p, p = (if hi < m1 then hi else m1) := ⟨_, rfl⟩
        have P1 := Lib.hid hp1
        clear hp1
        go_upto_if 44 with fail
        go_cut [] (fun wx => wx.heap[w.heap.size]? = some (.cells #[.int .i64 k, .int .i64 u, .slice (some ⟨c, off, none⟩) l.length cap] 37 (0, 0)) ∧ fourAt wx (w.heap.size + 1) ⟨0, 0, 0, 0⟩ ∧ fourAt wx (w.heap.size + 1 + 1) ⟨p0, p1, m2, m3⟩ ∧ Below w.heap.size w wx)
        case first =>
          rcases lt_or_dec hi m1 with h | h
          · go_wp2_with fail
            go_meet
            exact ⟨blk_set L0.out hne0, blk_set L1.out hne1, by rw [P1.out, if_pos h]; exact fourAt.s1 (e := ⟨p0, m1, m2, m3⟩) L2.out _, (by repeat (first | with_reducible exact Below.refl _ _ | with_reducible assumption | ((with_reducible refine Below.setCell ?_ ?_ _); rotate_left; · (first | omega | exact Nat.le_refl _ | (simp <;> omega))) | (with_reducible refine Below.allocW ?_ _) | (with_reducible refine Below.drew ?_) | (with_reducible refine Below.extW ?_ _)))⟩
          · have h' := of_decide_eq_false h
            go_wp2_with fail
            go_meet
            exact ⟨L0.out, L1.out, by rw [P1.out, if_neg (by omega)]; exact L2.out, (by repeat (first | with_reducible exact Below.refl _ _ | with_reducible assumption | ((with_reducible refine Below.setCell ?_ ?_ _); rotate_left; · (first | omega | exact Nat.le_refl _ | (simp <;> omega))) | (with_reducible refine Below.allocW ?_ _) | (with_reducible refine Below.drew ?_) | (with_reducible refine Below.extW ?_ _)))⟩
        case rest =>
          clear L0 L1 L2 cc1 cf1 zl2
          obtain ⟨l0, l1, l2, l3⟩ := hcut
          have L0 := Lib.hid l0
          have L1 := Lib.hid l1
          have L2 := Lib.hid l2
          have cc1 := blk_cell l2
          have cf1 := blk_frozen l2
          have zl2 := lt_of_block l2
          have s9 := l3.size
          clear l0 l1 l2
          obtain ⟨p2, hp2⟩ : ∃ p, p = (if m2 < lo then lo else m2) := ⟨_, rfl⟩
          have P2 := Lib.hid hp2
          clear hp2
          go_upto_if 50 with fail
          go_cut [] (fun wx => wx.heap[w.heap.size]? = some (.cells #[.int .i64 k, .int .i64 u, .slice (some ⟨c, off, none⟩) l.length cap] 37 (0, 0)) ∧ fourAt wx (w.heap.size + 1) ⟨0, 0, 0, 0⟩ ∧ fourAt wx (w.heap.size + 1 + 1) ⟨p0, p1, p2, m3⟩ ∧ Below w.heap.size w wx)
          case first =>
            rcases lt_or_dec m2 lo with h | h
            · go_wp2_with fail
              go_meet
              exact ⟨blk_set L0.out hne0, blk_set L1.out hne1, by rw [P2.out, if_pos h]; exact fourAt.s2 (e := ⟨p0, p1, m2, m3⟩) L2.out _, (by repeat (first | with_reducible exact Below.refl _ _ | with_reducible assumption | ((with_reducible refine Below.setCell ?_ ?_ _); rotate_left; · (first | omega | exact Nat.le_refl _ | (simp <;> omega))) | (with_reducible refine Below.allocW ?_ _) | (with_reducible refine Below.drew ?_) | (with_reducible refine Below.extW ?_ _)))⟩
            · have h' := of_decide_eq_false h
              go_wp2_with fail
              go_meet
              exact ⟨L0.out, L1.out, by rw [P2.out, if_neg (by omega)]; exact L2.out, (by repeat (first | with_reducible exact Below.refl _ _ | with_reducible assumption | ((with_reducible refine Below.setCell ?_ ?_ _); rotate_left; · (first | omega | exact Nat.le_refl _ | (simp <;> omega))) | (with_reducible refine Below.allocW ?_ _) | (with_reducible refine Below.drew ?_) | (with_reducible refine Below.extW ?_ _)))⟩
          case rest =>
            clear L0 L1 L2 cc1 cf1 zl2
            obtain ⟨l0, l1, l2, l3⟩ := hcut
            have L0 := Lib.hid l0
            have L1 := Lib.hid l1
            have L2 := Lib.hid l2
            have cc1 := blk_cell l2
            have cf1 := blk_frozen l2
            have zl2 := lt_of_block l2
            have s9 := l3.size
            clear l0 l1 l2
            rcases lt_or_dec m3 hi with h | h
            · go_wp2_with fail
              go_roundw
              case rel =>
                refine ⟨j + 1, by omega, by go_num, blk_set L0.out hne0, blk_set L1.out hne1, ?_, (by repeat (first | with_reducible exact Below.refl _ _ | with_reducible assumption | ((with_reducible refine Below.setCell ?_ ?_ _); rotate_left; · (first | omega | exact Nat.le_refl _ | (simp <;> omega))) | (with_reducible refine Below.allocW ?_ _) | (with_reducible refine Below.drew ?_) | (with_reducible refine Below.extW ?_ _)))⟩
                rw [E7.out, ← P0.out, ← P1.out, ← P2.out, if_pos h]
                exact fourAt.s3 (e := ⟨p0, p1, p2, m3⟩) L2.out _
              case measure => simp [intOf]; omega
            · have h' : ¬ m3 < hi := of_decide_eq_false h
              go_wp2_with fail
              go_roundw
              case rel =>
                refine ⟨j + 1, by omega, by go_num, L0.out, L1.out, ?_, (by repeat (first | with_reducible exact Below.refl _ _ | with_reducible assumption | ((with_reducible refine Below.setCell ?_ ?_ _); rotate_left; · (first | omega | exact Nat.le_refl _ | (simp <;> omega))) | (with_reducible refine Below.allocW ?_ _) | (with_reducible refine Below.drew ?_) | (with_reducible refine Below.extW ?_ _)))⟩
                rw [E7.out, ← P0.out, ← P1.out, ← P2.out, if_neg (by omega)]
                exact L2.out
              case measure => simp [intOf]; omega
    · obtain rfl : j = l.length := by omega
      rw [List.take_length] at N2 hm2 cc
      have cf1 := blk_frozen hm1
      have cc1 := blk_cell hm1
      have zn1 := lt_of_block hm1
      clear hm0 hm1 hm2
      go_wp2_with fail
      exact bodyPost_ret (v := .agg #[.int .i64 (e4Of u l).a, .int .i64 (e4Of u l).b, .int .i64 (e4Of u l).c, .int .i64 (e4Of u l).d]) (by simp only [results, Tryz.results50]; go_simp) rfl ⟨rfl, (by repeat (first | with_reducible exact Below.refl _ _ | with_reducible assumption | ((with_reducible refine Below.setCell ?_ ?_ _); rotate_left; · (first | omega | exact Nat.le_refl _ | (simp <;> omega))) | (with_reducible refine Below.allocW ?_ _) | (with_reducible refine Below.drew ?_) | (with_reducible refine Below.extW ?_ _)))⟩
end Go.Proofs.YtalnhdfgjjhhbaaGreat
/- Chapter 20: plain laws of the ends. -/
namespace Go.Proofs.YtalnhdfgjjhhbaaGreat
open Go.ChangeShapes Go.WideShapes Go.ChangeAt Go.RowKit
set_option linter.unusedVariables false

theorem least_fold {l : Nat} (hl : l ≤ 48) (r : List Nd) : ∀ (a : Int × Int), 0 ≤ a.1 → a.1 ≤ a.2 → (∀ x ∈ r, isNode l x.1 = true) →
    0 ≤ (r.foldl (leastStep l) a).1 ∧ (r.foldl (leastStep l) a).1 ≤ (r.foldl (leastStep l) a).2 ∧ (r.foldl (leastStep l) a).2 ≤ a.2 ∧ (r ≠ [] → (r.foldl (leastStep l) a).2 ≤ 281474976710655) := by
  induction r with
  | nil => intro a h1 h2 _; exact ⟨h1, h2, Int.le_refl _, fun h => absurd rfl h⟩
  | cons x r ih =>
    intro a h1 h2 hr
    have hx := ends_48 hl (hr x (by simp))
    have h3 : 0 ≤ (leastStep l a x).1 := by simp only [leastStep]; omega
    have h4 : (leastStep l a x).1 ≤ (leastStep l a x).2 := by simp only [leastStep]; omega
    obtain ⟨i1, i2, i3, i4⟩ := ih (leastStep l a x) h3 h4 (fun y hy => hr y (by simp [hy]))
    rw [List.foldl_cons]
    have h5 : (leastStep l a x).2 ≤ a.2 ∧ (leastStep l a x).2 ≤ 281474976710655 := by simp only [leastStep]; omega
    exact ⟨i1, i2, by omega, fun _ => by omega⟩
theorem most_fold {l : Nat} (hl : l ≤ 48) (r : List Nd) : ∀ (a : Int × Int), 0 ≤ a.1 → a.1 ≤ a.2 → a.2 ≤ 281474976710655 → (∀ x ∈ r, isNode l x.1 = true) →
    0 ≤ (r.foldl (mostStep l) a).1 ∧ (r.foldl (mostStep l) a).1 ≤ (r.foldl (mostStep l) a).2 ∧ (r.foldl (mostStep l) a).2 ≤ 281474976710655 := by
  induction r with
  | nil => intro a h1 h2 h3 _; exact ⟨h1, h2, h3⟩
  | cons x r ih =>
    intro a h1 h2 h3 hr
    have hx := ends_48 hl (hr x (by simp))
    rw [List.foldl_cons]
    exact ih (mostStep l a x) (by simp only [mostStep]; omega) (by simp only [mostStep]; omega) (by simp only [mostStep]; omega) (fun y hy => hr y (by simp [hy]))
theorem e4_fold {l : Nat} (hl : l ≤ 48) (r : List Nd) : ∀ (e : E4) (a m : Int × Int), e.a = min 281474976710656 a.1 → e.b = min 281474976710656 a.2 → m.1 = max 0 e.c → m.2 = max 0 e.d → (∀ x ∈ r, isNode l x.1 = true) →
    (r.foldl (e4Step l) e).a = min 281474976710656 (r.foldl (leastStep l) a).1 ∧ (r.foldl (e4Step l) e).b = min 281474976710656 (r.foldl (leastStep l) a).2 ∧ (r.foldl (mostStep l) m).1 = max 0 (r.foldl (e4Step l) e).c ∧ (r.foldl (mostStep l) m).2 = max 0 (r.foldl (e4Step l) e).d ∧
    e.c ≤ (r.foldl (e4Step l) e).c ∧ e.d ≤ (r.foldl (e4Step l) e).d ∧ (r ≠ [] → 0 ≤ (r.foldl (e4Step l) e).c ∧ 0 ≤ (r.foldl (e4Step l) e).d) := by
  induction r with
  | nil => intro e a m h1 h2 h3 h4 _; exact ⟨h1, h2, h3, h4, Int.le_refl _, Int.le_refl _, fun h => absurd rfl h⟩
  | cons x r ih =>
    intro e a m h1 h2 h3 h4 hr
    have hx := ends_48 hl (hr x (by simp))
    have g1 : (e4Step l e x).a = min 281474976710656 (leastStep l a x).1 := by simp only [e4Step, leastStep]; split <;> omega
    have g2 : (e4Step l e x).b = min 281474976710656 (leastStep l a x).2 := by simp only [e4Step, leastStep]; split <;> omega
    have g3 : (mostStep l m x).1 = max 0 (e4Step l e x).c := by simp only [e4Step, mostStep]; split <;> omega
    have g4 : (mostStep l m x).2 = max 0 (e4Step l e x).d := by simp only [e4Step, mostStep]; split <;> omega
    have g5 : e.c ≤ (e4Step l e x).c ∧ 0 ≤ (e4Step l e x).c := by simp only [e4Step]; split <;> omega
    have g6 : e.d ≤ (e4Step l e x).d ∧ 0 ≤ (e4Step l e x).d := by simp only [e4Step]; split <;> omega
    obtain ⟨i1, i2, i3, i4, i5, i6, i7⟩ := ih (e4Step l e x) (leastStep l a x) (mostStep l m x) g1 g2 g3 g4 (fun y hy => hr y (by simp [hy]))
    simp only [List.foldl_cons]
    exact ⟨i1, i2, i3, i4, by omega, by omega, fun _ => ⟨by omega, by omega⟩⟩
theorem least_bounds {l : Nat} (hl : l ≤ 48) {r : List Nd} (hr : ∀ x ∈ r, isNode l x.1 = true) (hne : r ≠ []) : 0 ≤ (leastOf l r).1 ∧ (leastOf l r).1 ≤ (leastOf l r).2 ∧ (leastOf l r).2 ≤ 281474976710655 := by
  have := least_fold hl r (9223372036854775807, 9223372036854775807) (by decide) (by decide) hr
  exact ⟨this.1, this.2.1, this.2.2.2 hne⟩
theorem most_bounds {l : Nat} (hl : l ≤ 48) {r : List Nd} (hr : ∀ x ∈ r, isNode l x.1 = true) : 0 ≤ (mostOf l r).1 ∧ (mostOf l r).1 ≤ (mostOf l r).2 ∧ (mostOf l r).2 ≤ 281474976710655 :=
  most_fold hl r (0, 0) (by decide) (by decide) (by decide) hr
theorem e4_ends {l : Nat} (hl : l ≤ 48) {r : List Nd} (hr : ∀ x ∈ r, isNode l x.1 = true) (hne : r ≠ []) : (e4Of l r).a = (leastOf l r).1 ∧ (e4Of l r).b = (leastOf l r).2 ∧ (e4Of l r).c = (mostOf l r).1 ∧ (e4Of l r).d = (mostOf l r).2 := by
  have h := e4_fold hl r ⟨281474976710656, 281474976710656, -1, -1⟩ (9223372036854775807, 9223372036854775807) (0, 0) (by decide) (by decide) (by decide) (by decide) hr
  have h1 := least_bounds hl hr hne
  have h2 := h.2.2.2.2.2.2 hne
  unfold e4Of leastOf mostOf at *
  obtain ⟨i1, i2, i3, i4, _, _, _⟩ := h
  exact ⟨by omega, by omega, by omega, by omega⟩
end Go.Proofs.YtalnhdfgjjhhbaaGreat
/- Package bound: Sum, Mean. -/
namespace Go.Proofs.YtalnhdfgjjhhbaaGreat
open Go.ChangeShapes Go.WideShapes Go.ChangeAt Go.RowKit
set_option linter.unusedVariables false
set_option maxRecDepth 100000

/-- Values times weights. -/
def sumW (l : Int) (hi : Bool) : List Nd → Nat
  | [] => 0
  | x :: r => (if hi = true then (endsOf l x.1).2.1 else (endsOf l x.1).1).toNat * x.2.toNat + sumW l hi r
theorem sumW_append (l : Int) (hi : Bool) (a b : List Nd) : sumW l hi (a ++ b) = sumW l hi a + sumW l hi b := by
  induction a with
  | nil => simp [sumW]
  | cons x a ih => simp only [List.cons_append, sumW, ih]; omega
theorem sumW_succ {l : Int} {hi : Bool} {r : List Nd} {q : Nat} (h : q < r.length) : sumW l hi (r.take (q + 1)) = sumW l hi (r.take q) + (if hi = true then (endsOf l r[q].1).2.1 else (endsOf l r[q].1).1).toNat * r[q].2.toNat := by
  rw [List.take_succ_eq_append_getElem h, sumW_append]
  simp [sumW]
theorem sumW_le {l : Nat} (hl : l ≤ 48) {r : List Nd} (hr : Roll r) (hn : ∀ x ∈ r, isNode l x.1 = true) (hi : Bool) : sumW l hi r ≤ 281474976710655 * (sumR r).toNat := by
  induction r with
  | nil => simp [sumW]
  | cons x r ih =>
    have hx := ends_48 hl (hn x (by simp))
    have h0 := sumR_nonneg hr.tail
    have hx2 := (hr.2 x (by simp)).2
    have hi2 := ih hr.tail (fun y hy => hn y (by simp [hy]))
    have e : (sumR (x :: r)).toNat = x.2.toNat + (sumR r).toNat := by simp only [sumR]; omega
    rw [e, Nat.mul_add]
    simp only [sumW]
    have : (if hi = true then (endsOf l x.1).2.1 else (endsOf l x.1).1).toNat ≤ 281474976710655 := by split <;> omega
    have := Nat.mul_le_mul_right x.2.toNat this
    omega
def wideAt (w : World) (b n : Nat) : Prop := w.heap[b]? = some (.cells #[.int .u64 (n % 18446744073709551616 : Nat), .int .u64 (n / 18446744073709551616 : Nat)] 76 (0, 0))
theorem wideAt.below {w w' : World} {b n : Nat} (h : wideAt w b n) (hb : Below w.heap.size w w') : wideAt w' b n := blk_below h hb
theorem wideAt.alloc {w : World} {b n : Nat} (h : wideAt w b n) (o : Obj) : wideAt (w.alloc o) b n := h.below ((Below.refl _ _).alloc (Nat.le_refl _) o)
theorem wideAt.drew {w : World} {b n : Nat} (h : wideAt w b n) : wideAt w.drew b n := h
theorem wideAt.set {w : World} {b n q o : Nat} (h : wideAt w b n) (hne : b ≠ q) (u : Value) : wideAt (w.setCell ⟨q, o, none⟩ u) b n := (Below.heap_setCell _ _ _ _ hne).trans h
theorem wideAt.put {w : World} {b n : Nat} (h : wideAt w b n) (m : Nat) : wideAt ((w.setCell ⟨b, 0, none⟩ (.int .u64 (m % 18446744073709551616 : Nat))).setCell ⟨b, 1, none⟩ (.int .u64 (m / 18446744073709551616 : Nat))) b m :=
  heap_set_at (i := 1) (heap_set_at (i := 0) h _) _
theorem KeepN.setT {w W : World} {b o t : Nat} (k : KeepN w W) (h : TypeAt W b t) (ht : t ≠ 99) (u : Value) : KeepN w (W.setCell ⟨b, o, none⟩ u) := by
  refine keepN_t k ⟨by simp [World.setCell], fun c cs fr hc => ?_⟩
  have hne : c ≠ b := by
    rintro rfl
    obtain ⟨cs', fr', h⟩ := h
    rw [h] at hc
    injection hc with hc
    injection hc with _ h2
    exact ht h2
  exact (Below.heap_setCell _ _ _ _ hne).trans hc
theorem wideAt.ty {w : World} {b n : Nat} (h : wideAt w b n) : TypeAt w b 76 := .of h
theorem KeepN.more {w W W' : World} (k : KeepN w W) (h : Below W.heap.size W W') : KeepN w W' := keepN_t k (KeepN.of_below h)
set_option maxHeartbeats 1000000 in
theorem bound_Sum1 (w : World) (lo hi c n m b0 b1 : Nat) (h0 : wideAt w b0 n) (h1 : wideAt w b1 m) (hne : b0 ≠ b1) (hlo : lo ≤ 9223372036854775807) (hhi : hi ≤ 9223372036854775807) (hc : c ≤ 9223372036854775807)
    (q0 : (n + lo * c) / 18446744073709551616 ≤ 18446744073709551615) (q1 : (m + hi * c) / 18446744073709551616 ≤ 18446744073709551615) :
    Calls Tryz.prog 92 #[.int .i64 lo, .int .i64 hi, .int .i64 c, .pointer (some ⟨b0, 0, none⟩), .pointer (some ⟨b1, 0, none⟩)] w fun e w' => e = .returned (.tuple #[]) ∧ wideAt w' b0 (n + lo * c) ∧ wideAt w' b1 (m + hi * c) ∧ KeepN w w' ∧ (∀ B, B ≤ b0 → B ≤ b1 → B ≤ w.heap.size → Below B w w') := by
  have P0 := Lib.hid (reckon_Plus · n lo c hlo hc q0)
  have P1 := Lib.hid (reckon_Plus · m hi c hhi hc q1)
  have H0 := Lib.hid h0
  have H1 := Lib.hid h1
  unfold wideV at P0 P1
  have cc := blk_cell h0
  have cf := blk_frozen h0
  have zb := lt_of_block h0
  have cd := blk_cell h1
  have cg := blk_frozen h1
  have zc := lt_of_block h1
  generalize n + lo * c = n' at P0 ⊢
  generalize m + hi * c = m' at P1 ⊢
  clear h0 h1 q0 q1
  go_enter Tryz.func92, Tryz.ntmps92
  go_wp2_with fail
  refine (P0.out _).mono ?_
  rintro e w1 ⟨rfl, hb1⟩
  have K0 := Lib.hid (H0.out.below hb1)
  have K1 := Lib.hid (H1.out.below hb1)
  have cc1 := blk_cell K0.out
  have cf1 := blk_frozen K0.out
  have zb1 := lt_of_block K0.out
  have cd1 := blk_cell K1.out
  have cg1 := blk_frozen K1.out
  have zc1 := lt_of_block K1.out
  go_wp2_with fail
  refine (P1.out _).mono ?_
  rintro e w2 ⟨rfl, hb2⟩
  have J0 := Lib.hid ((K0.out.put n').below hb2)
  have J1 := Lib.hid (((K1.out.set hne.symm _).set hne.symm _).below hb2)
  have cd2 := blk_cell J1.out
  have cg2 := blk_frozen J1.out
  have zc2 := lt_of_block J1.out
  clear cc cf zb cd cg zc cc1 cf1 zb1 cd1 cg1 zc1
  go_wp2_with fail
  go_end0
  refine ⟨rfl, (J0.out.set hne _).set hne _, J1.out.put _, ?_, fun B x0 x1 x2 => ?_⟩
  · exact (((((KeepN.of_below hb1).setT K0.out.ty (by decide) _).setT K0.out.ty.setCell (by decide) _).more hb2).setT J1.out.ty (by decide) _).setT J1.out.ty.setCell (by decide) _
  · have s1 := hb1.size
    have s2 := hb2.size
    simp only [World.size_setCell] at s2
    exact (((((hb1.mono x2).setCell (p := ⟨b0, 0, none⟩) x0 _).setCell (p := ⟨b0, 1, none⟩) x0 _).trans (hb2.mono (by simp only [World.size_setCell]; omega))).setCell (p := ⟨b1, 0, none⟩) x1 _).setCell (p := ⟨b1, 1, none⟩) x1 _
/-- The two sums in memory behind some nodes. -/
def SumI (w : World) (l : Int) (r : List Nd) (b0 b1 : Nat) (q : Nat) (W : World) : Prop := Below w.heap.size w W ∧ wideAt W b0 (sumW l false (r.take q)) ∧ wideAt W b1 (sumW l true (r.take q))
theorem sumI_stays (w : World) (l : Int) (r : List Nd) (b0 b1 : Nat) : Stays (SumI w l r b0 b1) := ⟨fun q W W' ⟨h1, h2, h3⟩ hb => ⟨h1.trans (hb.mono h1.size), h2.below hb, h3.below hb⟩⟩
theorem enters_Sum : ∀ args W, (callFunc 92 args).run Tryz.prog W = .ok (.enter 92 args) W := enters_of Tryz.func92 (by kernel_rfl) rfl
theorem sum_step {l : Nat} (hl1 : 1 ≤ l ∧ l ≤ 48) {r : List Nd} (hf : Fits l r) {q : Nat} (hq : q < r.length) : ∃ lo hi c : Nat, (endsOf l r[q].1).1 = lo ∧ (endsOf l r[q].1).2.1 = hi ∧ r[q].2 = c ∧ lo ≤ 281474976710655 ∧ hi ≤ 281474976710655 ∧ c ≤ 72057594037927935 ∧
    sumW l false (r.take (q + 1)) = sumW l false (r.take q) + lo * c ∧ sumW l true (r.take (q + 1)) = sumW l true (r.take q) + hi * c ∧ sumW l false (r.take (q + 1)) / 18446744073709551616 ≤ 18446744073709551615 ∧ sumW l true (r.take (q + 1)) / 18446744073709551616 ≤ 18446744073709551615 := by
  have hn := hf.nodes hl1
  have hl := hl1.2
  have hx := ends_48 hl (hn _ (List.getElem_mem hq))
  have hx2 := (hf.roll.2 _ (List.getElem_mem hq)).2
  have hc := sumR_take_le hf.roll (q + 1)
  have hc2 := sumR_take_succ hq
  have hc3 := sumR_nonneg (hf.roll.take q)
  have hs := hf.sum
  have b0 := sumW_le hl (hf.roll.take (q + 1)) (fun x hx => hn x (List.mem_of_mem_take hx)) false
  have b1 := sumW_le hl (hf.roll.take (q + 1)) (fun x hx => hn x (List.mem_of_mem_take hx)) true
  have hm : 281474976710655 * (sumR (r.take (q + 1))).toNat ≤ 281474976710655 * 72057594037927935 := Nat.mul_le_mul_left _ (by omega)
  refine ⟨(endsOf l r[q].1).1.toNat, (endsOf l r[q].1).2.1.toNat, r[q].2.toNat, by omega, by omega, by omega, by omega, by omega, by omega, ?_, ?_, by omega, by omega⟩
  · rw [sumW_succ hq]; simp
  · rw [sumW_succ hq]; simp
theorem bound_Sum (w : World) (g K l : Nat) (k : Int) (r : List Nd) (F : Nat → Prop) (h : DigAt w g K l k r F) (hn : r.length ≤ 67108864) :
    Calls Tryz.prog 41 #[.pointer (some ⟨g, 0, none⟩)] w fun e w' => e = .returned (.tuple #[wideV (sumW l false r), wideV (sumW l true r)]) ∧ Below w.heap.size w w' := by
  have HD := Lib.hid ((h.alloc (.cells #[.int .u64 0, .int .u64 0] 76)).alloc (.cells #[.int .u64 0, .int .u64 0] 76))
  have hf := h.fits
  have hl := h.l_le
  have N0 : Hid (wideAt ((w.alloc (.cells #[.int .u64 0, .int .u64 0] 76)).alloc (.cells #[.int .u64 0, .int .u64 0] 76)) w.heap.size 0) := Lib.hid ((show wideAt (w.alloc (.cells #[.int .u64 0, .int .u64 0] 76)) w.heap.size 0 from heap_alloc_new _ _).alloc _)
  have N1 : Hid (wideAt ((w.alloc (.cells #[.int .u64 0, .int .u64 0] 76)).alloc (.cells #[.int .u64 0, .int .u64 0] 76)) (w.heap.size + 1) 0) := Lib.hid (heap_new_at _ _ _ (by simp))
  have BA : Hid (Below w.heap.size w ((w.alloc (.cells #[.int .u64 0, .int .u64 0] 76)).alloc (.cells #[.int .u64 0, .int .u64 0] 76))) := Lib.hid (by repeat (first | with_reducible exact Below.refl _ _ | with_reducible assumption | ((with_reducible refine Below.setCell ?_ ?_ _); rotate_left; · (first | omega | exact Nat.le_refl _ | (simp <;> omega))) | (with_reducible refine Below.allocW ?_ _) | (with_reducible refine Below.drew ?_) | (with_reducible refine Below.extW ?_ _)))
  clear h
  unfold wideV
  go_enter Tryz.func41, Tryz.ntmps41
  go_wp2_with fail
  refine (bound_each _ g K l k r F HD.out hn 92 #[.pointer (some ⟨w.heap.size, 0, none⟩), .pointer (some ⟨w.heap.size + 1, 0, none⟩)] enters_Sum (SumI w l r w.heap.size (w.heap.size + 1)) (sumI_stays _ _ _ _ _) ⟨BA.out, N0.out, N1.out⟩ ?_).mono ?_
  · intro q hq W ⟨i1, i2, i3⟩
    obtain ⟨lo, hi, c, e1, e2, e3, g1, g2, g3, e4, e5, g4, g5⟩ := sum_step hl hf hq
    rw [e1, e2, e3]
    have hs := i1.size
    refine (bound_Sum1 W lo hi c _ _ _ _ i2 i3 (by omega) (by omega) (by omega) (by omega) (by rw [← e4]; exact g4) (by rw [← e5]; exact g5)).mono ?_
    rintro e W' ⟨rfl, j2, j3, hk, hB⟩
    exact ⟨rfl, ⟨i1.trans (hB _ (Nat.le_refl _) (by omega) hs), by rw [e4]; exact j2, by rw [e5]; exact j3⟩, hk⟩
  · rintro e w2 ⟨rfl, ⟨i1, i2, i3⟩, hs2⟩
    simp only [List.take_length] at i2 i3
    have cc := blk_cell i3
    have cf := blk_frozen i3
    have c0 := blk_cell i2
    have f0 := blk_frozen i2
    have z0 := lt_of_block i2
    have z1 := lt_of_block i3
    clear i2 i3
    go_wp2_with fail
    go_region
    all_goals go_wp2_with fail
    all_goals exact bodyPost_ret (v := .tuple #[.agg #[.int .u64 (sumW l false r % 18446744073709551616 : Nat), .int .u64 (sumW l false r / 18446744073709551616 : Nat)], .agg #[.int .u64 (sumW l true r % 18446744073709551616 : Nat), .int .u64 (sumW l true r / 18446744073709551616 : Nat)]]) (by simp only [results, Tryz.results41]; go_simp) rfl ⟨rfl, (by repeat (first | with_reducible exact Below.refl _ _ | with_reducible assumption | ((with_reducible refine Below.setCell ?_ ?_ _); rotate_left; · (first | omega | exact Nat.le_refl _ | (simp <;> omega))) | (with_reducible refine Below.allocW ?_ _) | (with_reducible refine Below.drew ?_) | (with_reducible refine Below.extW ?_ _)))⟩
def meanT (l : Int) (r : List Nd) : Int × Int × Int := if sumR r = 0 then (0, 0, 7) else ((sumW l false r / (sumR r).toNat : Nat), (sumW l true r / (sumR r).toNat + (if sumW l true r % (sumR r).toNat = 0 then 0 else 1) : Nat), 0)
set_option maxHeartbeats 1000000 in
theorem bound_Mean (w : World) (g K l : Nat) (k : Int) (r : List Nd) (F : Nat → Prop) (h : DigAt w g K l k r F) (hn : r.length ≤ 67108864) :
    Calls Tryz.prog 45 #[.pointer (some ⟨g, 0, none⟩)] w fun e w' => e = .returned (bothV (meanT l r)) ∧ Below w.heap.size w w' := by
  have HD := Lib.hid (h.alloc (.cells #[.int .i64 0, .int .i64 0] 29))
  have HW := Lib.hid (bound_wrong · g K l k r F ·)
  have hf := h.fits
  have hl := h.l_le
  have hs0 := sumR_nonneg hf.roll
  have hs1 := hf.sum
  have b0 := sumW_le hl.2 hf.roll (hf.nodes hl) false
  have b1 := sumW_le hl.2 hf.roll (hf.nodes hl) true
  clear h
  unfold bothV meanT
  unfold wrongOf at HW
  by_cases hN : sumR r = 0
  · rw [if_pos hN]
    rw [if_pos hN] at HW
    clear hN b0 b1
    go_enter Tryz.func45, Tryz.ntmps45
    go_wp2_with fail
    refine (HW.out _ HD.out).mono ?_
    rintro e w1 ⟨rfl, hb1⟩
    have B1 : Below w.heap.size w w1 := Below.then_ (by repeat (first | with_reducible exact Below.refl _ _ | with_reducible assumption | ((with_reducible refine Below.setCell ?_ ?_ _); rotate_left; · (first | omega | exact Nat.le_refl _ | (simp <;> omega))) | (with_reducible refine Below.allocW ?_ _) | (with_reducible refine Below.drew ?_) | (with_reducible refine Below.extW ?_ _))) hb1
    have s1 : w.heap.size ≤ w1.heap.size := B1.size
    have z1_0 : w.heap.size < w1.heap.size := by have := hb1.size; (try simp at this); omega
    have y1_0 : w.heap.size ≤ w1.heap.size := Nat.le_of_lt z1_0
    have c1_0 := fun o => hb1.cell (p := ⟨w.heap.size, o, none⟩) (by first | omega | (simp <;> omega))
    have f1_0 := fun o => hb1.frozen (p := ⟨w.heap.size, o, none⟩) (by first | omega | (simp <;> omega))
    go_wp2_with fail
    exact bodyPost_ret (v := .tuple #[.agg #[.int .i64 0, .int .i64 0], .int .i64 7]) (by simp only [results, Tryz.results45]; go_simp) rfl ⟨rfl, (by repeat (first | with_reducible exact Below.refl _ _ | with_reducible assumption | ((with_reducible refine Below.setCell ?_ ?_ _); rotate_left; · (first | omega | exact Nat.le_refl _ | (simp <;> omega))) | (with_reducible refine Below.allocW ?_ _) | (with_reducible refine Below.drew ?_) | (with_reducible refine Below.extW ?_ _)))⟩
  · rw [if_neg hN]
    rw [if_neg hN] at HW
    have HN := Lib.hid (digest_N · g K l k r F ·)
    have HS := Lib.hid (bound_Sum · g K l k r F · hn)
    obtain ⟨c, hc⟩ : ∃ c : Nat, (sumR r).toNat = c := ⟨_, rfl⟩
    have hc' : sumR r = c := by omega
    rw [hc] at b0 b1 ⊢
    rw [hc'] at HN
    have c1 : 1 ≤ c := by omega
    have c2 : c ≤ 9223372036854775807 := by omega
    have q0 : sumW l false r / c ≤ 281474976710655 := (Nat.div_le_iff_le_mul (by omega)).2 (by omega)
    have q1 : sumW l true r / c ≤ 281474976710655 := (Nat.div_le_iff_le_mul (by omega)).2 (by omega)
    generalize sumW l false r = n at HS q0 ⊢
    generalize sumW l true r = m at HS q1 ⊢
    have O0 := Lib.hid (reckon_Over · n c c1 c2 (by omega))
    have O1 := Lib.hid (reckon_Over · m c c1 c2 (by omega))
    unfold wideV at HS O0 O1
    generalize n % 18446744073709551616 = n0 at HS O0
    generalize n / 18446744073709551616 = n1 at HS O0
    generalize m % 18446744073709551616 = m0 at HS O1
    generalize m / 18446744073709551616 = m1 at HS O1
    generalize n / c = u at O0 q0 ⊢
    generalize m / c = v at O1 q1 ⊢
    generalize decide (0 < n % c) = nb at O0
    clear hN b0 b1 hc hc' hs0 hs1
    cases hd : decide (0 < m % c)
    all_goals
      rw [hd] at O1
      simp only [decide_eq_true_eq, decide_eq_false_iff_not] at hd
      first | rw [if_pos (show m % c = 0 by omega)] | rw [if_neg (show ¬ m % c = 0 by omega)]
      clear hd
      go_enter Tryz.func45, Tryz.ntmps45
      go_wp2_with fail
      refine (HW.out _ HD.out).mono ?_
      rintro e w1 ⟨rfl, hb1⟩
      have B1 : Below w.heap.size w w1 := Below.then_ (by repeat (first | with_reducible exact Below.refl _ _ | with_reducible assumption | ((with_reducible refine Below.setCell ?_ ?_ _); rotate_left; · (first | omega | exact Nat.le_refl _ | (simp <;> omega))) | (with_reducible refine Below.allocW ?_ _) | (with_reducible refine Below.drew ?_) | (with_reducible refine Below.extW ?_ _))) hb1
      have s1 : w.heap.size ≤ w1.heap.size := B1.size
      have z1_0 : w.heap.size < w1.heap.size := by have := hb1.size; (try simp at this); omega
      have y1_0 : w.heap.size ≤ w1.heap.size := Nat.le_of_lt z1_0
      have c1_0 := fun o => hb1.cell (p := ⟨w.heap.size, o, none⟩) (by first | omega | (simp <;> omega))
      have f1_0 := fun o => hb1.frozen (p := ⟨w.heap.size, o, none⟩) (by first | omega | (simp <;> omega))
      have HD1 := Lib.hid (HD.out.below hb1)
      have N1 := Lib.hid ((bothAt.new w 0 0).below hb1)
      go_wp2_with fail
      refine (HS.out _ HD1.out).mono ?_
      rintro e w2 ⟨rfl, hb2⟩
      have B2 : Below w.heap.size w w2 := Below.then_ (by repeat (first | with_reducible exact Below.refl _ _ | with_reducible assumption | ((with_reducible refine Below.setCell ?_ ?_ _); rotate_left; · (first | omega | exact Nat.le_refl _ | (simp <;> omega))) | (with_reducible refine Below.allocW ?_ _) | (with_reducible refine Below.drew ?_) | (with_reducible refine Below.extW ?_ _))) hb2
      have s2 : w.heap.size ≤ w2.heap.size := B2.size
      have z2_0 : w.heap.size < w2.heap.size := by have := hb2.size; (try simp at this); omega
      have y2_0 : w.heap.size ≤ w2.heap.size := Nat.le_of_lt z2_0
      have c2_0 := fun o => hb2.cell (p := ⟨w.heap.size, o, none⟩) (by first | omega | (simp <;> omega))
      have f2_0 := fun o => hb2.frozen (p := ⟨w.heap.size, o, none⟩) (by first | omega | (simp <;> omega))
      have N2 := Lib.hid (((N1.out.below hb2).alloc (.cells #[.int .u64 n0, .int .u64 n1] 76)).alloc (.cells #[.int .u64 m0, .int .u64 m1] 76))
      have HD2 := Lib.hid (((HD1.out.below hb2).alloc (.cells #[.int .u64 n0, .int .u64 n1] 76)).alloc (.cells #[.int .u64 m0, .int .u64 m1] 76))
      go_wp2_with fail
      refine wp_region_ext (by kernel_rfl) (by kernel_rfl) ?_
      repeat (go_big_quiet_step (first
        | (go_at_call 18; exact quiet_ext (HN.out _ (HD2.out.below (ext_below _ _))))
        | (go_at_call 99; exact quiet_ext (O0.out _))))
      refine wpQuiet_nil ?_
      intro w3 hb3
      replace hb3 := below_of_ext hb3
      have B3 : Below w.heap.size w w3 := Below.then_ (by repeat (first | with_reducible exact Below.refl _ _ | with_reducible assumption | ((with_reducible refine Below.setCell ?_ ?_ _); rotate_left; · (first | omega | exact Nat.le_refl _ | (simp <;> omega))) | (with_reducible refine Below.allocW ?_ _) | (with_reducible refine Below.drew ?_) | (with_reducible refine Below.extW ?_ _))) hb3
      have s3 : w.heap.size ≤ w3.heap.size := B3.size
      have z3_0 : w.heap.size < w3.heap.size := by have := hb3.size; (try simp at this); omega
      have y3_0 : w.heap.size ≤ w3.heap.size := Nat.le_of_lt z3_0
      have c3_0 := fun o => hb3.cell (p := ⟨w.heap.size, o, none⟩) (by first | omega | (simp <;> omega))
      have f3_0 := fun o => hb3.frozen (p := ⟨w.heap.size, o, none⟩) (by first | omega | (simp <;> omega))
      have z3_1 : w2.heap.size + 1 < w3.heap.size := by have := hb3.size; (try simp at this); omega
      have y3_1 : w2.heap.size + 1 ≤ w3.heap.size := Nat.le_of_lt z3_1
      have c3_1 := fun o => hb3.cell (p := ⟨w2.heap.size + 1, o, none⟩) (by first | omega | (simp <;> omega))
      have f3_1 := fun o => hb3.frozen (p := ⟨w2.heap.size + 1, o, none⟩) (by first | omega | (simp <;> omega))
      have HD3 := Lib.hid (HD2.out.below hb3)
      have N3 := Lib.hid (N2.out.below hb3)
      go_wp2_with fail
      refine wp_region_ext (by kernel_rfl) (by kernel_rfl) ?_
      repeat (go_big_quiet_step (first
        | (go_at_call 18; exact quiet_ext (HN.out _ (HD3.out.below (ext_below _ _))))
        | (go_at_call 99; exact quiet_ext (O1.out _))))
      refine wpQuiet_nil ?_
      intro w4 hb4
      replace hb4 := below_of_ext hb4
      have B4 : Below w.heap.size w w4 := Below.then_ (by repeat (first | with_reducible exact Below.refl _ _ | with_reducible assumption | ((with_reducible refine Below.setCell ?_ ?_ _); rotate_left; · (first | omega | exact Nat.le_refl _ | (simp <;> omega))) | (with_reducible refine Below.allocW ?_ _) | (with_reducible refine Below.drew ?_) | (with_reducible refine Below.extW ?_ _))) hb4
      have s4 : w.heap.size ≤ w4.heap.size := B4.size
      have N4 := N3.out.below hb4
      have cc := blk_cell N4
      have cf := blk_frozen N4
      have zz := lt_of_block N4
      clear N4
      go_wp2_with fail
      first
        | exact bodyPost_ret (v := .tuple #[.agg #[.int .i64 u, .int .i64 (v + 0 : Nat)], .int .i64 0]) (by simp only [results, Tryz.results45]; go_simp) rfl ⟨rfl, (by repeat (first | with_reducible exact Below.refl _ _ | with_reducible assumption | ((with_reducible refine Below.setCell ?_ ?_ _); rotate_left; · (first | omega | exact Nat.le_refl _ | (simp <;> omega))) | (with_reducible refine Below.allocW ?_ _) | (with_reducible refine Below.drew ?_) | (with_reducible refine Below.extW ?_ _)))⟩
        | exact bodyPost_ret (v := .tuple #[.agg #[.int .i64 u, .int .i64 (v + 1 : Nat)], .int .i64 0]) (by simp only [results, Tryz.results45]; go_simp) rfl ⟨rfl, (by repeat (first | with_reducible exact Below.refl _ _ | with_reducible assumption | ((with_reducible refine Below.setCell ?_ ?_ _); rotate_left; · (first | omega | exact Nat.le_refl _ | (simp <;> omega))) | (with_reducible refine Below.allocW ?_ _) | (with_reducible refine Below.drew ?_) | (with_reducible refine Below.extW ?_ _)))⟩
end Go.Proofs.YtalnhdfgjjhhbaaGreat
/- Package bound: Spread; what is told of nil. -/
namespace Go.Proofs.YtalnhdfgjjhhbaaGreat
open Go.ChangeShapes Go.WideShapes Go.ChangeAt Go.RowKit
set_option linter.unusedVariables false
set_option maxRecDepth 100000

theorem bound_Least_nil (w : World) : Calls Tryz.prog 47 #[.pointer none] w fun e w' => e = .returned (bothV (0, 0, 1)) ∧ Below w.heap.size w w' := by
  unfold bothV
  go_enter Tryz.func47, Tryz.ntmps47
  go_wp2_with fail
  refine (bound_wrong_nil _).mono ?_
  rintro e w1 ⟨rfl, hb1⟩
  have B1 : Below w.heap.size w w1 := Below.then_ (by repeat (first | with_reducible exact Below.refl _ _ | with_reducible assumption | ((with_reducible refine Below.setCell ?_ ?_ _); rotate_left; · (first | omega | exact Nat.le_refl _ | (simp <;> omega))) | (with_reducible refine Below.allocW ?_ _) | (with_reducible refine Below.drew ?_) | (with_reducible refine Below.extW ?_ _))) hb1
  have s1 : w.heap.size ≤ w1.heap.size := B1.size
  have z1_0 : w.heap.size < w1.heap.size := by have := hb1.size; (try simp at this); omega
  have y1_0 : w.heap.size ≤ w1.heap.size := Nat.le_of_lt z1_0
  have c1_0 := fun o => hb1.cell (p := ⟨w.heap.size, o, none⟩) (by first | omega | (simp <;> omega))
  have f1_0 := fun o => hb1.frozen (p := ⟨w.heap.size, o, none⟩) (by first | omega | (simp <;> omega))
  go_wp2_with fail
  exact bodyPost_ret (v := .tuple #[.agg #[.int .i64 0, .int .i64 0], .int .i64 1]) (by simp only [results, Tryz.results47]; go_simp) rfl ⟨rfl, (by repeat (first | with_reducible exact Below.refl _ _ | with_reducible assumption | ((with_reducible refine Below.setCell ?_ ?_ _); rotate_left; · (first | omega | exact Nat.le_refl _ | (simp <;> omega))) | (with_reducible refine Below.allocW ?_ _) | (with_reducible refine Below.drew ?_) | (with_reducible refine Below.extW ?_ _)))⟩
theorem bound_Greatest_nil (w : World) : Calls Tryz.prog 48 #[.pointer none] w fun e w' => e = .returned (bothV (0, 0, 1)) ∧ Below w.heap.size w w' := by
  unfold bothV
  go_enter Tryz.func48, Tryz.ntmps48
  go_wp2_with fail
  refine (bound_wrong_nil _).mono ?_
  rintro e w1 ⟨rfl, hb1⟩
  have B1 : Below w.heap.size w w1 := Below.then_ (by repeat (first | with_reducible exact Below.refl _ _ | with_reducible assumption | ((with_reducible refine Below.setCell ?_ ?_ _); rotate_left; · (first | omega | exact Nat.le_refl _ | (simp <;> omega))) | (with_reducible refine Below.allocW ?_ _) | (with_reducible refine Below.drew ?_) | (with_reducible refine Below.extW ?_ _))) hb1
  have s1 : w.heap.size ≤ w1.heap.size := B1.size
  have z1_0 : w.heap.size < w1.heap.size := by have := hb1.size; (try simp at this); omega
  have y1_0 : w.heap.size ≤ w1.heap.size := Nat.le_of_lt z1_0
  have c1_0 := fun o => hb1.cell (p := ⟨w.heap.size, o, none⟩) (by first | omega | (simp <;> omega))
  have f1_0 := fun o => hb1.frozen (p := ⟨w.heap.size, o, none⟩) (by first | omega | (simp <;> omega))
  go_wp2_with fail
  exact bodyPost_ret (v := .tuple #[.agg #[.int .i64 0, .int .i64 0], .int .i64 1]) (by simp only [results, Tryz.results48]; go_simp) rfl ⟨rfl, (by repeat (first | with_reducible exact Below.refl _ _ | with_reducible assumption | ((with_reducible refine Below.setCell ?_ ?_ _); rotate_left; · (first | omega | exact Nat.le_refl _ | (simp <;> omega))) | (with_reducible refine Below.allocW ?_ _) | (with_reducible refine Below.drew ?_) | (with_reducible refine Below.extW ?_ _)))⟩
theorem bound_Spread_nil (w : World) : Calls Tryz.prog 49 #[.pointer none] w fun e w' => e = .returned (bothV (0, 0, 1)) ∧ Below w.heap.size w w' := by
  have HL := Lib.hid bound_Least_nil
  unfold bothV at HL ⊢
  go_enter Tryz.func49, Tryz.ntmps49
  go_wp2_with fail
  refine (HL.out _).mono ?_
  rintro e w1 ⟨rfl, hb1⟩
  have B1 : Below w.heap.size w w1 := Below.then_ (by repeat (first | with_reducible exact Below.refl _ _ | with_reducible assumption | ((with_reducible refine Below.setCell ?_ ?_ _); rotate_left; · (first | omega | exact Nat.le_refl _ | (simp <;> omega))) | (with_reducible refine Below.allocW ?_ _) | (with_reducible refine Below.drew ?_) | (with_reducible refine Below.extW ?_ _))) hb1
  have s1 : w.heap.size ≤ w1.heap.size := B1.size
  have z1_0 : w.heap.size < w1.heap.size := by have := hb1.size; (try simp at this); omega
  have y1_0 : w.heap.size ≤ w1.heap.size := Nat.le_of_lt z1_0
  have c1_0 := fun o => hb1.cell (p := ⟨w.heap.size, o, none⟩) (by first | omega | (simp <;> omega))
  have f1_0 := fun o => hb1.frozen (p := ⟨w.heap.size, o, none⟩) (by first | omega | (simp <;> omega))
  go_wp2_with fail
  exact bodyPost_ret (v := .tuple #[.agg #[.int .i64 0, .int .i64 0], .int .i64 1]) (by simp only [results, Tryz.results49]; go_simp) rfl ⟨rfl, (by repeat (first | with_reducible exact Below.refl _ _ | with_reducible assumption | ((with_reducible refine Below.setCell ?_ ?_ _); rotate_left; · (first | omega | exact Nat.le_refl _ | (simp <;> omega))) | (with_reducible refine Below.allocW ?_ _) | (with_reducible refine Below.drew ?_) | (with_reducible refine Below.extW ?_ _)))⟩
end Go.Proofs.YtalnhdfgjjhhbaaGreat
/- Package bound: Worst, Spread. -/
namespace Go.Proofs.YtalnhdfgjjhhbaaGreat
open Go.ChangeShapes Go.WideShapes Go.ChangeAt Go.RowKit
set_option linter.unusedVariables false
set_option maxRecDepth 100000

/-- A number in a block. -/
def intAt (w : World) (b : Nat) (x : Int) : Prop := w.heap[b]? = some (.cells #[.int .i64 x] 3 (0, 0))
theorem intAt.below {w w' : World} {b : Nat} {x : Int} (h : intAt w b x) (hb : Below w.heap.size w w') : intAt w' b x := blk_below h hb
theorem intAt.alloc {w : World} {b : Nat} {x : Int} (h : intAt w b x) (o : Obj) : intAt (w.alloc o) b x := h.below ((Below.refl _ _).alloc (Nat.le_refl _) o)
theorem intAt.set {w : World} {b q o : Nat} {x : Int} (h : intAt w b x) (hne : b ≠ q) (u : Value) : intAt (w.setCell ⟨q, o, none⟩ u) b x := (Below.heap_setCell _ _ _ _ hne).trans h
theorem intAt.put {w : World} {b : Nat} {x : Int} (h : intAt w b x) (y : Int) : intAt (w.setCell ⟨b, 0, none⟩ (.int .i64 y)) b y := heap_set_at (i := 0) h _
theorem intAt.ty {w : World} {b : Nat} {x : Int} (h : intAt w b x) : TypeAt w b 3 := .of h
/-- Where least is told, and how little: one number more. -/
def worstStep (a : Int × Int) (at_ n : Int) : Int × Int := if a.2 < n ∨ n = a.2 ∧ at_ < a.1 then (at_, n) else a
/-- What became of the world. -/
def TryEnd (w : World) (bx bg : Nat) (r : Int × Int) (w' : World) : Prop :=
  intAt w' bx r.1 ∧ intAt w' bg r.2 ∧ KeepN w w' ∧ (∀ C, C ≤ bx → C ≤ bg → C ≤ w.heap.size → Below C w w') ∧ (∀ b, b < w.heap.size → b ≠ bx → b ≠ bg → w'.heap[b]? = w.heap[b]?)
theorem try_same {w w1 : World} {bx bg : Nat} {x gp : Int} (hb : Below w.heap.size w w1) (X : intAt w1 bx x) (G : intAt w1 bg gp) (o : Obj) : TryEnd w bx bg (x, gp) (w1.alloc o) :=
  have hB := hb.alloc hb.size o
  ⟨X.alloc o, G.alloc o, KeepN.of_below hB, fun C _ _ h => hB.mono h, fun b h _ _ => hB.block b h⟩
theorem try_put {w w1 : World} {bx bg : Nat} {x gp : Int} (hb : Below w.heap.size w w1) (X : intAt w1 bx x) (G : intAt w1 bg gp) (hne : bg ≠ bx) (o : Obj) (a n : Int) :
    TryEnd w bx bg (a, n) (((w1.setCell ⟨bx, 0, none⟩ (.int .i64 a)).setCell ⟨bg, 0, none⟩ (.int .i64 n)).alloc o) :=
  ⟨((X.put a).set hne.symm _).alloc o, ((G.set hne _).put n).alloc o, (((KeepN.of_below hb).setT X.ty (by decide) _).setT (G.set hne _).ty (by decide) _).more ((Below.refl _ _).alloc (Nat.le_refl _) o),
    fun C h1 h2 h3 => (((hb.mono h3).setCell (p := ⟨bx, 0, none⟩) h1 _).setCell (p := ⟨bg, 0, none⟩) h2 _).alloc (by have := hb.size; simp only [World.size_setCell]; omega) o,
    fun b h h1 h2 => (Below.heap_alloc _ o b (by have := hb.size; simp only [World.size_setCell]; omega)).trans ((Below.heap_setCell _ _ _ _ h2).trans ((Below.heap_setCell _ _ _ _ h1).trans (hb.block b h)))⟩
set_option maxHeartbeats 1000000 in
theorem bound_try (w : World) (L B g : Nat) (m : Int) (lt ft : List Nd) (at_ x gp : Int) (bt bg bx : Nat) (hT : TabAt w L B g m lt ft) (hBw : B ≤ w.heap.size) (hm : lt.length ≤ 67108864) (hr : lt.Pairwise fun a b => a.1 < b.1) (hm2 : ft.length ≤ 67108864) (hr2 : ft.Pairwise fun a b => a.1 < b.1)
    (ht : w.heap[bt]? = some (.cells #[.pointer (some ⟨g, 0, none⟩)] 65 (0, 0))) (hg : intAt w bg gp) (hx : intAt w bx x) (hne : bg ≠ bx) (hlo : -72057594037927936 ≤ upT ft at_ - upT lt at_) (hhi : upT ft at_ - upT lt at_ ≤ 72057594037927936) :
    Calls Tryz.prog 103 #[.int .i64 at_, .pointer (some ⟨bt, 0, none⟩), .pointer (some ⟨bg, 0, none⟩), .pointer (some ⟨bx, 0, none⟩)] w fun e w' => e = .returned (.tuple #[]) ∧ TryEnd w bx bg (worstStep (x, gp) at_ (upT ft at_ - upT lt at_)) w' := by
  have HB := Lib.hid (table_Both at_ hT hBw hm hr hm2 hr2)
  have ct := blk_cell ht
  have zt := lt_of_block ht
  have zg := lt_of_block hg
  have zx := lt_of_block hx
  have HG := Lib.hid hg
  have HX := Lib.hid hx
  generalize upT lt at_ = lo at HB hlo hhi ⊢
  generalize upT ft at_ = hi at HB hlo hhi ⊢
  clear hT hr hr2 ht hg hx
  by_cases c1 : gp < hi - lo
  · rw [show worstStep (x, gp) at_ (hi - lo) = (at_, hi - lo) by unfold worstStep; rw [if_pos (.inl c1)]]
    go_enter Tryz.func103, Tryz.ntmps103
    go_wp2_with fail
    refine HB.out.mono ?_
    rintro e w1 ⟨rfl, hb1⟩
    have s1 := hb1.size
    have G1 := HG.out.below hb1
    have X1 := HX.out.below hb1
    have cg := blk_cell G1
    have cgf := blk_frozen G1
    have cx := blk_cell X1
    have cxf := blk_frozen X1
    have KG := Lib.hid G1
    have KX := Lib.hid X1
    clear G1 X1
    have zg1 : bg < w1.heap.size := by omega
    have zx1 : bx < w1.heap.size := by omega
    have hne2 : bx ≠ bg := hne.symm
    go_wp2_with fail
    go_end0
    exact ⟨rfl, try_put hb1 KX.out KG.out hne _ _ _⟩
  · by_cases c2 : hi - lo = gp
    · subst c2
      have c3 : (hi - lo == hi - lo) = true := by simp
      by_cases c4 : at_ < x
      · rw [show worstStep (x, hi - lo) at_ (hi - lo) = (at_, hi - lo) by unfold worstStep; rw [if_pos (.inr ⟨rfl, c4⟩)]]
        go_enter Tryz.func103, Tryz.ntmps103
        go_wp2_with fail
        refine HB.out.mono ?_
        rintro e w1 ⟨rfl, hb1⟩
        have s1 := hb1.size
        have G1 := HG.out.below hb1
        have X1 := HX.out.below hb1
        have cg := blk_cell G1
        have cgf := blk_frozen G1
        have cx := blk_cell X1
        have cxf := blk_frozen X1
        have KG := Lib.hid G1
        have KX := Lib.hid X1
        clear G1 X1
        have zg1 : bg < w1.heap.size := by omega
        have zx1 : bx < w1.heap.size := by omega
        have hne2 : bx ≠ bg := hne.symm
        go_wp2_with fail
        go_end0
        exact ⟨rfl, try_put hb1 KX.out KG.out hne _ _ _⟩
      · rw [show worstStep (x, hi - lo) at_ (hi - lo) = (x, hi - lo) by unfold worstStep; rw [if_neg (by simp; omega)]]
        go_enter Tryz.func103, Tryz.ntmps103
        go_wp2_with fail
        refine HB.out.mono ?_
        rintro e w1 ⟨rfl, hb1⟩
        have s1 := hb1.size
        have G1 := HG.out.below hb1
        have X1 := HX.out.below hb1
        have cg := blk_cell G1
        have cgf := blk_frozen G1
        have cx := blk_cell X1
        have cxf := blk_frozen X1
        have KG := Lib.hid G1
        have KX := Lib.hid X1
        clear G1 X1
        have zg1 : bg < w1.heap.size := by omega
        have zx1 : bx < w1.heap.size := by omega
        have hne2 : bx ≠ bg := hne.symm
        go_wp2_with fail
        go_end0
        exact ⟨rfl, try_same hb1 KX.out KG.out _⟩
    · have c3 : (hi - lo == gp) = false := by simpa using c2
      rw [show worstStep (x, gp) at_ (hi - lo) = (x, gp) by unfold worstStep; rw [if_neg (by simp; omega)]]
      clear c2
      go_enter Tryz.func103, Tryz.ntmps103
      go_wp2_with fail
      refine HB.out.mono ?_
      rintro e w1 ⟨rfl, hb1⟩
      have s1 := hb1.size
      have G1 := HG.out.below hb1
      have X1 := HX.out.below hb1
      have cg := blk_cell G1
      have cgf := blk_frozen G1
      have cx := blk_cell X1
      have cxf := blk_frozen X1
      have KG := Lib.hid G1
      have KX := Lib.hid X1
      clear G1 X1
      have zg1 : bg < w1.heap.size := by omega
      have zx1 : bx < w1.heap.size := by omega
      have hne2 : bx ≠ bg := hne.symm
      go_wp2_with fail
      go_end0
      exact ⟨rfl, try_same hb1 KX.out KG.out _⟩
end Go.Proofs.YtalnhdfgjjhhbaaGreat
/- Package bound: Worst. -/
namespace Go.Proofs.YtalnhdfgjjhhbaaGreat
open Go.ChangeShapes Go.WideShapes Go.ChangeAt Go.RowKit
set_option linter.unusedVariables false
set_option maxRecDepth 100000

@[go_sem] theorem run_store_func (P : Program) (w : World) (a : Addr) (m : Mode) (f : Fn) (ts : Array Value) (cs : Array Value) : (store a (.func f ts cs) m).run P w = stored P w a (.func f ts cs) m := run_store P w a _ m rfl
def gapAt (l : Int) (r : List Nd) (x : Int) : Int := highOf l r x - lowOf l r x
/-- The worst behind some nodes. -/
def worstPre (l : Int) (r : List Nd) (p : List Nd) : Int × Int := p.foldl (fun a x => worstStep a (endsOf l x.1).1 (gapAt l r (endsOf l x.1).1)) (worstStep (0, 0) 0 (gapAt l r 0))
theorem worstPre_succ {l : Int} {r : List Nd} {q : Nat} (h : q < r.length) : worstPre l r (r.take (q + 1)) = worstStep (worstPre l r (r.take q)) (endsOf l r[q].1).1 (gapAt l r (endsOf l r[q].1).1) := by
  unfold worstPre
  rw [List.take_succ_eq_append_getElem h, List.foldl_append]; rfl
theorem bound_Worst2 (w : World) (lo hi c : Int) (bt bg bx bf : Nat) (R : World → Prop) (hf : w.heap[bf]? = some (.cells #[.func (.func 103) #[] #[.pointer (some ⟨bt, 0, none⟩), .pointer (some ⟨bg, 0, none⟩), .pointer (some ⟨bx, 0, none⟩)]] 115 (0, 0)))
    (hC : Calls Tryz.prog 103 #[.int .i64 lo, .pointer (some ⟨bt, 0, none⟩), .pointer (some ⟨bg, 0, none⟩), .pointer (some ⟨bx, 0, none⟩)] w fun e w' => e = .returned (.tuple #[]) ∧ R w') :
    Calls Tryz.prog 105 #[.int .i64 lo, .int .i64 hi, .int .i64 c, .pointer (some ⟨bf, 0, none⟩)] w fun e w' => e = .returned (.tuple #[]) ∧ R w' := by
  have cf := blk_cell hf
  have zf := lt_of_block hf
  have HC := Lib.hid hC
  clear hf hC
  go_enter Tryz.func105, Tryz.ntmps105
  go_wp2_with fail
  refine HC.out.mono ?_
  rintro e w1 ⟨rfl, hR⟩
  have HR := Lib.hid hR
  clear hR
  go_wp2_with fail
  go_end0
  exact ⟨rfl, HR.out⟩
/-- What stands in memory behind some nodes. -/
structure WorstI (w : World) (l : Int) (r lt ft : List Nd) (L B g bt bg bx bf : Nat) (q : Nat) (W : World) : Prop where
  blw : Below w.heap.size w W
  x : intAt W bx (worstPre l r (r.take q)).1
  gp : intAt W bg (worstPre l r (r.take q)).2
  t : W.heap[bt]? = some (.cells #[.pointer (some ⟨g, 0, none⟩)] 65 (0, 0))
  f : W.heap[bf]? = some (.cells #[.func (.func 103) #[] #[.pointer (some ⟨bt, 0, none⟩), .pointer (some ⟨bg, 0, none⟩), .pointer (some ⟨bx, 0, none⟩)]] 115 (0, 0))
  tab : TabAt W L B g (sumR r) lt ft
theorem worstI_stays (w : World) (l : Int) (r lt ft : List Nd) (L B g bt bg bx bf : Nat) (hB : ∀ W q, WorstI w l r lt ft L B g bt bg bx bf q W → B ≤ W.heap.size) : Stays (WorstI w l r lt ft L B g bt bg bx bf) :=
  ⟨fun q W W' h hb => ⟨h.blw.trans (hb.mono h.blw.size), h.x.below hb, h.gp.below hb, blk_below h.t hb, blk_below h.f hb, h.tab.below (hb.mono (hB W q h))⟩⟩
theorem gap_range {l : Int} {r : List Nd} (h : Roll r) (hs : sumR r ≤ 72057594037927935) (x : Int) : -72057594037927936 ≤ gapAt l r x ∧ gapAt l r x ≤ 72057594037927936 := by
  have h1 := weighR_le (l := l) (f := fun _ hi => decide (hi ≤ x)) h
  have h2 := weighR_le (l := l) (f := fun lo _ => decide (lo ≤ x)) h
  unfold gapAt highOf lowOf
  omega
theorem try_at (w : World) (l : Int) (r lt ft : List Nd) (L B g : Nat) (at_ x gp : Int) (bt bg bx : Nat) (hr : Roll r) (hs : sumR r ≤ 72057594037927935) (hn : r.length ≤ 67108864) (htl : Tab (lastL l r) lt) (htf : Tab (firstL l r) ft) (hl1 : lt.length ≤ r.length) (hl2 : ft.length ≤ r.length)
    (hT : TabAt w L B g (sumR r) lt ft) (hBw : B ≤ w.heap.size) (ht : w.heap[bt]? = some (.cells #[.pointer (some ⟨g, 0, none⟩)] 65 (0, 0))) (hg : intAt w bg gp) (hx : intAt w bx x) (hne : bg ≠ bx) :
    Calls Tryz.prog 103 #[.int .i64 at_, .pointer (some ⟨bt, 0, none⟩), .pointer (some ⟨bg, 0, none⟩), .pointer (some ⟨bx, 0, none⟩)] w fun e w' => e = .returned (.tuple #[]) ∧ TryEnd w bx bg (worstStep (x, gp) at_ (gapAt l r at_)) w' := by
  have e : upT ft at_ - upT lt at_ = gapAt l r at_ := by rw [htl.upT, htf.upT, low_up, high_up]; rfl
  have hb := gap_range (l := l) hr hs at_
  have := bound_try w L B g (sumR r) lt ft at_ x gp bt bg bx hT hBw (by omega) htl.rise (by omega) htf.rise ht hg hx hne (by rw [e]; exact hb.1) (by rw [e]; exact hb.2)
  rwa [e] at this
def worstT (l : Int) (r : List Nd) : Int × Int × Int := if sumR r = 0 then (0, 0, 7) else ((worstPre l r r).1, (worstPre l r r).2, 0)
def triV (t : Int × Int × Int) : Value := .tuple #[.int .i64 t.1, .int .i64 t.2.1, .int .i64 t.2.2]
theorem enters_Worst2 : ∀ args W, (callFunc 105 args).run Tryz.prog W = .ok (.enter 105 args) W := enters_of Tryz.func105 (by kernel_rfl) rfl
set_option maxHeartbeats 1000000 in
theorem bound_Worst (w : World) (g K l : Nat) (k : Int) (r : List Nd) (F : Nat → Prop) (h : DigAt w g K l k r F) (hn : r.length ≤ 67108864) :
    Calls Tryz.prog 51 #[.pointer (some ⟨g, 0, none⟩)] w fun e w' => e = .returned (triV (worstT l r)) ∧ Below w.heap.size w w' := by
  have HD := Lib.hid ((h.alloc (.cells #[.int .i64 0] 3)).alloc (.cells #[.int .i64 0] 3))
  have HW := Lib.hid (bound_wrong · g K l k r F ·)
  have hfit := h.fits
  have HF := Lib.hid h.lt
  clear h
  unfold triV worstT
  unfold wrongOf at HW
  by_cases hN : sumR r = 0
  · rw [if_pos hN]
    rw [if_pos hN] at HW
    clear hN
    go_enter Tryz.func51, Tryz.ntmps51
    go_wp2_with fail
    refine (HW.out _ HD.out).mono ?_
    rintro e w1 ⟨rfl, hb1⟩
    have B1 : Below w.heap.size w w1 := Below.then_ (by repeat (first | with_reducible exact Below.refl _ _ | with_reducible assumption | ((with_reducible refine Below.setCell ?_ ?_ _); rotate_left; · (first | omega | exact Nat.le_refl _ | (simp <;> omega))) | (with_reducible refine Below.allocW ?_ _) | (with_reducible refine Below.drew ?_) | (with_reducible refine Below.extW ?_ _))) hb1
    have s1 : w.heap.size ≤ w1.heap.size := B1.size
    have z1_0 : w.heap.size < w1.heap.size := by have := hb1.size; (try simp at this); omega
    have y1_0 : w.heap.size ≤ w1.heap.size := Nat.le_of_lt z1_0
    have c1_0 := fun o => hb1.cell (p := ⟨w.heap.size, o, none⟩) (by first | omega | (simp <;> omega))
    have f1_0 := fun o => hb1.frozen (p := ⟨w.heap.size, o, none⟩) (by first | omega | (simp <;> omega))
    have z1_1 : w.heap.size + 1 < w1.heap.size := by have := hb1.size; (try simp at this); omega
    have y1_1 : w.heap.size + 1 ≤ w1.heap.size := Nat.le_of_lt z1_1
    have c1_1 := fun o => hb1.cell (p := ⟨w.heap.size + 1, o, none⟩) (by first | omega | (simp <;> omega))
    have f1_1 := fun o => hb1.frozen (p := ⟨w.heap.size + 1, o, none⟩) (by first | omega | (simp <;> omega))
    go_wp2_with fail
    exact bodyPost_ret (v := .tuple #[.int .i64 0, .int .i64 0, .int .i64 7]) (by simp only [results, Tryz.results51]; go_simp) rfl ⟨rfl, (by repeat (first | with_reducible exact Below.refl _ _ | with_reducible assumption | ((with_reducible refine Below.setCell ?_ ?_ _); rotate_left; · (first | omega | exact Nat.le_refl _ | (simp <;> omega))) | (with_reducible refine Below.allocW ?_ _) | (with_reducible refine Below.drew ?_) | (with_reducible refine Below.extW ?_ _)))⟩
  · rw [if_neg hN]
    rw [if_neg hN] at HW
    clear hN
    have X0 := Lib.hid (show intAt ((w.alloc (.cells #[.int .i64 0] 3)).alloc (.cells #[.int .i64 0] 3)) w.heap.size 0 from (show intAt (w.alloc (.cells #[.int .i64 0] 3)) w.heap.size 0 from heap_alloc_new _ _).alloc _)
    have G0 := Lib.hid (show intAt ((w.alloc (.cells #[.int .i64 0] 3)).alloc (.cells #[.int .i64 0] 3)) (w.heap.size + 1) 0 from heap_new_at _ _ _ (by simp))
    go_enter Tryz.func51, Tryz.ntmps51
    go_wp2_with fail
    refine (HW.out _ HD.out).mono ?_
    rintro e w1 ⟨rfl, hb1⟩
    have B1 : Below w.heap.size w w1 := Below.then_ (by repeat (first | with_reducible exact Below.refl _ _ | with_reducible assumption | ((with_reducible refine Below.setCell ?_ ?_ _); rotate_left; · (first | omega | exact Nat.le_refl _ | (simp <;> omega))) | (with_reducible refine Below.allocW ?_ _) | (with_reducible refine Below.drew ?_) | (with_reducible refine Below.extW ?_ _))) hb1
    have s1 : w.heap.size ≤ w1.heap.size := B1.size
    have z1_0 : w.heap.size < w1.heap.size := by have := hb1.size; (try simp at this); omega
    have y1_0 : w.heap.size ≤ w1.heap.size := Nat.le_of_lt z1_0
    have c1_0 := fun o => hb1.cell (p := ⟨w.heap.size, o, none⟩) (by first | omega | (simp <;> omega))
    have f1_0 := fun o => hb1.frozen (p := ⟨w.heap.size, o, none⟩) (by first | omega | (simp <;> omega))
    have z1_1 : w.heap.size + 1 < w1.heap.size := by have := hb1.size; (try simp at this); omega
    have y1_1 : w.heap.size + 1 ≤ w1.heap.size := Nat.le_of_lt z1_1
    have c1_1 := fun o => hb1.cell (p := ⟨w.heap.size + 1, o, none⟩) (by first | omega | (simp <;> omega))
    have f1_1 := fun o => hb1.frozen (p := ⟨w.heap.size + 1, o, none⟩) (by first | omega | (simp <;> omega))
    have HD1 := Lib.hid (HD.out.below hb1)
    have X1 := Lib.hid (X0.out.below hb1)
    have G1 := Lib.hid (G0.out.below hb1)
    go_wp2_with fail
    refine (rank_Of _ g K l k r F HD1.out hn).mono ?_
    rintro e w2 ⟨tg, lt, ft, rfl, htab, htl, htf, hl1, hl2, hb2⟩
    have B2 : Below w.heap.size w w2 := Below.then_ (by repeat (first | with_reducible exact Below.refl _ _ | with_reducible assumption | ((with_reducible refine Below.setCell ?_ ?_ _); rotate_left; · (first | omega | exact Nat.le_refl _ | (simp <;> omega))) | (with_reducible refine Below.allocW ?_ _) | (with_reducible refine Below.drew ?_) | (with_reducible refine Below.extW ?_ _))) hb2
    have s2 : w.heap.size ≤ w2.heap.size := B2.size
    have X2 := Lib.hid (X1.out.below hb2)
    have G2 := Lib.hid (G1.out.below hb2)
    have HD2 := Lib.hid (HD1.out.below hb2)
    have HT := Lib.hid htab
    have HTL := Lib.hid htl
    have HTF := Lib.hid htf
    have hs1 : w.heap.size + 1 < w1.heap.size := z1_1
    have hs12 := hb2.size
    have BA2 := Lib.hid B2
    clear htab htl htf c1_0 c1_1 f1_0 f1_1
    go_wp2_with fail
    have T3 := Lib.hid (HT.out.below ((Below.refl w2.heap.size w2).alloc (Nat.le_refl _) (.cells #[.pointer (some ⟨tg, 0, none⟩)] 65) |>.alloc (by simp) (.cells #[.func (.func 103) #[] #[.pointer (some ⟨w2.heap.size, 0, none⟩), .pointer (some ⟨w.heap.size + 1, 0, none⟩), .pointer (some ⟨w.heap.size, 0, none⟩)]] 115)))
    have P3 := Lib.hid ((Below.heap_alloc (w2.alloc (.cells #[.pointer (some ⟨tg, 0, none⟩)] 65)) (.cells #[.func (.func 103) #[] #[.pointer (some ⟨w2.heap.size, 0, none⟩), .pointer (some ⟨w.heap.size + 1, 0, none⟩), .pointer (some ⟨w.heap.size, 0, none⟩)]] 115) w2.heap.size (by simp)).trans (heap_alloc_new w2 _))
    have Q3 := Lib.hid (heap_new_at (w2.alloc (.cells #[.pointer (some ⟨tg, 0, none⟩)] 65)) (.cells #[.func (.func 103) #[] #[.pointer (some ⟨w2.heap.size, 0, none⟩), .pointer (some ⟨w.heap.size + 1, 0, none⟩), .pointer (some ⟨w.heap.size, 0, none⟩)]] 115) (w2.heap.size + 1) (by simp))
    have hszW : ((w2.alloc (.cells #[.pointer (some ⟨tg, 0, none⟩)] 65)).alloc (.cells #[.func (.func 103) #[] #[.pointer (some ⟨w2.heap.size, 0, none⟩), .pointer (some ⟨w.heap.size + 1, 0, none⟩), .pointer (some ⟨w.heap.size, 0, none⟩)]] 115)).heap.size = w2.heap.size + 1 + 1 := by simp
    have B3 := Lib.hid (BA2.out.alloc s2 (.cells #[.pointer (some ⟨tg, 0, none⟩)] 65) |>.alloc (by simp; omega) (.cells #[.func (.func 103) #[] #[.pointer (some ⟨w2.heap.size, 0, none⟩), .pointer (some ⟨w.heap.size + 1, 0, none⟩), .pointer (some ⟨w.heap.size, 0, none⟩)]] 115))
    have X3 := Lib.hid ((X2.out.alloc (.cells #[.pointer (some ⟨tg, 0, none⟩)] 65)).alloc (.cells #[.func (.func 103) #[] #[.pointer (some ⟨w2.heap.size, 0, none⟩), .pointer (some ⟨w.heap.size + 1, 0, none⟩), .pointer (some ⟨w.heap.size, 0, none⟩)]] 115))
    have G3 := Lib.hid ((G2.out.alloc (.cells #[.pointer (some ⟨tg, 0, none⟩)] 65)).alloc (.cells #[.func (.func 103) #[] #[.pointer (some ⟨w2.heap.size, 0, none⟩), .pointer (some ⟨w.heap.size + 1, 0, none⟩), .pointer (some ⟨w.heap.size, 0, none⟩)]] 115))
    have HD3 := Lib.hid ((HD2.out.alloc (.cells #[.pointer (some ⟨tg, 0, none⟩)] 65)).alloc (.cells #[.func (.func 103) #[] #[.pointer (some ⟨w2.heap.size, 0, none⟩), .pointer (some ⟨w.heap.size + 1, 0, none⟩), .pointer (some ⟨w.heap.size, 0, none⟩)]] 115))
    generalize (w2.alloc (.cells #[.pointer (some ⟨tg, 0, none⟩)] 65)).alloc (.cells #[.func (.func 103) #[] #[.pointer (some ⟨w2.heap.size, 0, none⟩), .pointer (some ⟨w.heap.size + 1, 0, none⟩), .pointer (some ⟨w.heap.size, 0, none⟩)]] 115) = W3 at T3 P3 Q3 B3 X3 G3 HD3 hszW ⊢
    refine (try_at W3 l r lt ft _ _ tg 0 0 0 w2.heap.size (w.heap.size + 1) w.heap.size hfit.roll hfit.sum hn HTL.out HTF.out hl1 hl2 T3.out (by omega) P3.out G3.out X3.out (by omega)).mono ?_
    rintro e w4 ⟨rfl, x4, g4, k4, b4, o4⟩
    have I4 : Hid (WorstI w l r lt ft w1.heap.size w2.heap.size tg w2.heap.size (w.heap.size + 1) w.heap.size (w2.heap.size + 1) 0 w4) := Lib.hid
      ⟨B3.out.trans (b4 _ (Nat.le_refl _) (by omega) (by omega)), x4, g4, (o4 _ (by omega) (by omega) (by omega)).trans P3.out, (o4 _ (by omega) (by omega) (by omega)).trans Q3.out, T3.out.keep fun b h1 h2 => o4 b (by omega) (by omega) (by omega)⟩
    have hsz4 : w2.heap.size + 1 + 1 ≤ w4.heap.size := by have := (b4 0 (Nat.zero_le _) (Nat.zero_le _) (Nat.zero_le _)).size; omega
    have D4 : Hid (DigAt w4 g K l k r F) := Lib.hid (HD3.out.keep fun b hb => o4 b (by have := HF.out b hb; omega) (by have := HF.out b hb; omega) (by have := HF.out b hb; omega))
    clear x4 g4 k4 b4 o4
    go_wp2_with fail
    have hB : ∀ W q, WorstI w l r lt ft w1.heap.size w2.heap.size tg w2.heap.size (w.heap.size + 1) w.heap.size (w2.heap.size + 1) q W → w2.heap.size ≤ W.heap.size := fun W q h => by
      have := lt_of_block h.f; omega
    have HB := Lib.hid hB
    clear hB
    refine (bound_each _ g K l k r F D4.out hn 105 #[.pointer (some ⟨w2.heap.size + 1, 0, none⟩)] enters_Worst2 (WorstI w l r lt ft w1.heap.size w2.heap.size tg w2.heap.size (w.heap.size + 1) w.heap.size (w2.heap.size + 1)) (worstI_stays _ _ _ _ _ _ _ _ _ _ _ _ HB.out) I4.out ?_).mono ?_
    · intro q hq W hI
      have hsW := HB.out W q hI
      have hsF := lt_of_block hI.f
      refine (bound_Worst2 W (endsOf l r[q].1).1 (endsOf l r[q].1).2.1 r[q].2 _ _ _ _ _ hI.f (try_at W l r lt ft _ _ tg (endsOf l r[q].1).1 _ _ w2.heap.size (w.heap.size + 1) w.heap.size hfit.roll hfit.sum hn HTL.out HTF.out hl1 hl2 hI.tab hsW hI.t hI.gp hI.x (by omega))).mono ?_
      rintro e W' ⟨rfl, x5, g5, k5, b5, o5⟩
      rw [← worstPre_succ hq] at x5 g5
      exact ⟨rfl, ⟨hI.blw.trans (b5 _ (Nat.le_refl _) (by omega) (by omega)), x5, g5, (o5 _ (by omega) (by omega) (by omega)).trans hI.t, (o5 _ (by omega) (by omega) (by omega)).trans hI.f, hI.tab.keep fun b h1 h2 => o5 b (by omega) (by omega) (by omega)⟩, k5⟩
    · rintro e w5 ⟨rfl, hI, hs5⟩
      have i2 := hI.x
      have i3 := hI.gp
      have B5 := hI.blw
      simp only [List.take_length] at i2 i3
      have cc := blk_cell i3
      have cf := blk_frozen i3
      have c0 := blk_cell i2
      have f0 := blk_frozen i2
      have z0 := lt_of_block i2
      have z1 := lt_of_block i3
      clear i2 i3 hI
      go_wp2_with fail
      go_region
      all_goals go_wp2_with fail
      all_goals exact bodyPost_ret (v := .tuple #[.int .i64 (worstPre l r r).1, .int .i64 (worstPre l r r).2, .int .i64 0]) (by simp only [results, Tryz.results51]; go_simp) rfl ⟨rfl, (by repeat (first | with_reducible exact Below.refl _ _ | with_reducible assumption | ((with_reducible refine Below.setCell ?_ ?_ _); rotate_left; · (first | omega | exact Nat.le_refl _ | (simp <;> omega))) | (with_reducible refine Below.allocW ?_ _) | (with_reducible refine Below.drew ?_) | (with_reducible refine Below.extW ?_ _)))⟩
end Go.Proofs.YtalnhdfgjjhhbaaGreat
/- Package bound: Spread; what is told of nil. -/
namespace Go.Proofs.YtalnhdfgjjhhbaaGreat
open Go.ChangeShapes Go.WideShapes Go.ChangeAt Go.RowKit
set_option linter.unusedVariables false
set_option maxRecDepth 100000

def spreadT (l : Int) (r : List Nd) : Int × Int × Int := if sumR r = 0 then (0, 0, 7) else (max ((mostOf l r).1 - (leastOf l r).2) 0, (mostOf l r).2 - (leastOf l r).1, 0)
theorem bound_Spread (w : World) (g K l : Nat) (k : Int) (r : List Nd) (F : Nat → Prop) (h : DigAt w g K l k r F) (hn : r.length ≤ 67108864) :
    Calls Tryz.prog 49 #[.pointer (some ⟨g, 0, none⟩)] w fun e w' => e = .returned (bothV (spreadT l r)) ∧ Below w.heap.size w w' := by
  have HD := Lib.hid (h.alloc (.cells #[.int .i64 0, .int .i64 0] 29))
  have hf := h.fits
  have hll := h.l_le
  have HL := Lib.hid (bound_Least · g K l k r F · hn)
  have HG := Lib.hid (bound_Greatest · g K l k r F · hn)
  unfold leastT at HL
  unfold mostT at HG
  unfold bothV at HL HG ⊢
  unfold spreadT
  clear h
  by_cases hN : sumR r = 0
  · rw [if_pos hN]
    rw [if_pos hN] at HL
    clear hN HG
    go_enter Tryz.func49, Tryz.ntmps49
    go_wp2_with fail
    refine (HL.out _ HD.out).mono ?_
    rintro e w1 ⟨rfl, hb1⟩
    have B1 : Below w.heap.size w w1 := Below.then_ (by repeat (first | with_reducible exact Below.refl _ _ | with_reducible assumption | ((with_reducible refine Below.setCell ?_ ?_ _); rotate_left; · (first | omega | exact Nat.le_refl _ | (simp <;> omega))) | (with_reducible refine Below.allocW ?_ _) | (with_reducible refine Below.drew ?_) | (with_reducible refine Below.extW ?_ _))) hb1
    have s1 : w.heap.size ≤ w1.heap.size := B1.size
    have z1_0 : w.heap.size < w1.heap.size := by have := hb1.size; (try simp at this); omega
    have y1_0 : w.heap.size ≤ w1.heap.size := Nat.le_of_lt z1_0
    have c1_0 := fun o => hb1.cell (p := ⟨w.heap.size, o, none⟩) (by first | omega | (simp <;> omega))
    have f1_0 := fun o => hb1.frozen (p := ⟨w.heap.size, o, none⟩) (by first | omega | (simp <;> omega))
    go_wp2_with fail
    exact bodyPost_ret (v := .tuple #[.agg #[.int .i64 0, .int .i64 0], .int .i64 7]) (by simp only [results, Tryz.results49]; go_simp) rfl ⟨rfl, (by repeat (first | with_reducible exact Below.refl _ _ | with_reducible assumption | ((with_reducible refine Below.setCell ?_ ?_ _); rotate_left; · (first | omega | exact Nat.le_refl _ | (simp <;> omega))) | (with_reducible refine Below.allocW ?_ _) | (with_reducible refine Below.drew ?_) | (with_reducible refine Below.extW ?_ _)))⟩
  · rw [if_neg hN]
    rw [if_neg hN] at HL HG
    have hne : r ≠ [] := by rintro rfl; exact hN rfl
    have b1 := least_bounds hll.2 (hf.nodes hll) hne
    have b2 := most_bounds hll.2 (hf.nodes hll)
    generalize leastOf l r = a at HL b1 ⊢
    generalize mostOf l r = b at HG b2 ⊢
    obtain ⟨a1, a2⟩ := a
    obtain ⟨b1', b2'⟩ := b
    simp only at b1 b2 HL HG ⊢
    clear hN hne hf hll
    go_enter Tryz.func49, Tryz.ntmps49
    go_wp2_with fail
    refine (HL.out _ HD.out).mono ?_
    rintro e w1 ⟨rfl, hb1⟩
    have B1 : Below w.heap.size w w1 := Below.then_ (by repeat (first | with_reducible exact Below.refl _ _ | with_reducible assumption | ((with_reducible refine Below.setCell ?_ ?_ _); rotate_left; · (first | omega | exact Nat.le_refl _ | (simp <;> omega))) | (with_reducible refine Below.allocW ?_ _) | (with_reducible refine Below.drew ?_) | (with_reducible refine Below.extW ?_ _))) hb1
    have s1 : w.heap.size ≤ w1.heap.size := B1.size
    have z1_0 : w.heap.size < w1.heap.size := by have := hb1.size; (try simp at this); omega
    have y1_0 : w.heap.size ≤ w1.heap.size := Nat.le_of_lt z1_0
    have c1_0 := fun o => hb1.cell (p := ⟨w.heap.size, o, none⟩) (by first | omega | (simp <;> omega))
    have f1_0 := fun o => hb1.frozen (p := ⟨w.heap.size, o, none⟩) (by first | omega | (simp <;> omega))
    have HD1 := Lib.hid ((HD.out.below hb1).alloc (.cells #[.int .i64 a1, .int .i64 a2] 29))
    have N1 := Lib.hid (((bothAt.new w 0 0).below hb1).alloc (.cells #[.int .i64 a1, .int .i64 a2] 29))
    have M1 := Lib.hid (bothAt.new w1 a1 a2)
    go_wp2_with fail
    refine (HG.out _ HD1.out).mono ?_
    rintro e w2 ⟨rfl, hb2⟩
    have B2 : Below w.heap.size w w2 := Below.then_ (by repeat (first | with_reducible exact Below.refl _ _ | with_reducible assumption | ((with_reducible refine Below.setCell ?_ ?_ _); rotate_left; · (first | omega | exact Nat.le_refl _ | (simp <;> omega))) | (with_reducible refine Below.allocW ?_ _) | (with_reducible refine Below.drew ?_) | (with_reducible refine Below.extW ?_ _))) hb2
    have s2 : w.heap.size ≤ w2.heap.size := B2.size
    have n2 := N1.out.below hb2
    have m2 := M1.out.below hb2
    have cc := blk_cell n2
    have cf := blk_frozen n2
    have zz := lt_of_block n2
    have cm := blk_cell m2
    have zm := lt_of_block m2
    clear n2 m2
    go_wp2_with fail
    exact bodyPost_ret (v := .tuple #[.agg #[.int .i64 (max (b1' - a2) 0), .int .i64 (b2' - a1)], .int .i64 0]) (by simp only [results, Tryz.results49]; go_simp) rfl ⟨rfl, (by repeat (first | with_reducible exact Below.refl _ _ | with_reducible assumption | ((with_reducible refine Below.setCell ?_ ?_ _); rotate_left; · (first | omega | exact Nat.le_refl _ | (simp <;> omega))) | (with_reducible refine Below.allocW ?_ _) | (with_reducible refine Below.drew ?_) | (with_reducible refine Below.extW ?_ _)))⟩
theorem bound_Mean_nil (w : World) : Calls Tryz.prog 45 #[.pointer none] w fun e w' => e = .returned (bothV (0, 0, 1)) ∧ Below w.heap.size w w' := by
  unfold bothV
  go_enter Tryz.func45, Tryz.ntmps45
  go_wp2_with fail
  refine (bound_wrong_nil _).mono ?_
  rintro e w1 ⟨rfl, hb1⟩
  have B1 : Below w.heap.size w w1 := Below.then_ (by repeat (first | with_reducible exact Below.refl _ _ | with_reducible assumption | ((with_reducible refine Below.setCell ?_ ?_ _); rotate_left; · (first | omega | exact Nat.le_refl _ | (simp <;> omega))) | (with_reducible refine Below.allocW ?_ _) | (with_reducible refine Below.drew ?_) | (with_reducible refine Below.extW ?_ _))) hb1
  have s1 : w.heap.size ≤ w1.heap.size := B1.size
  have z1_0 : w.heap.size < w1.heap.size := by have := hb1.size; (try simp at this); omega
  have y1_0 : w.heap.size ≤ w1.heap.size := Nat.le_of_lt z1_0
  have c1_0 := fun o => hb1.cell (p := ⟨w.heap.size, o, none⟩) (by first | omega | (simp <;> omega))
  have f1_0 := fun o => hb1.frozen (p := ⟨w.heap.size, o, none⟩) (by first | omega | (simp <;> omega))
  go_wp2_with fail
  exact bodyPost_ret (v := .tuple #[.agg #[.int .i64 0, .int .i64 0], .int .i64 1]) (by simp only [results, Tryz.results45]; go_simp) rfl ⟨rfl, (by repeat (first | with_reducible exact Below.refl _ _ | with_reducible assumption | ((with_reducible refine Below.setCell ?_ ?_ _); rotate_left; · (first | omega | exact Nat.le_refl _ | (simp <;> omega))) | (with_reducible refine Below.allocW ?_ _) | (with_reducible refine Below.drew ?_) | (with_reducible refine Below.extW ?_ _)))⟩
theorem bound_Sum_nil (w : World) : Calls Tryz.prog 41 #[.pointer none] w fun e w' => e = .returned (.tuple #[.agg #[.int .u64 0, .int .u64 0], .agg #[.int .u64 0, .int .u64 0]]) ∧ Below w.heap.size w w' := by
  go_enter Tryz.func41, Tryz.ntmps41
  go_wp2_with fail
  refine (bound_each_nil _ _).mono ?_
  rintro e w1 ⟨rfl, hb1⟩
  have B1 : Below w.heap.size w w1 := Below.then_ (by repeat (first | with_reducible exact Below.refl _ _ | with_reducible assumption | ((with_reducible refine Below.setCell ?_ ?_ _); rotate_left; · (first | omega | exact Nat.le_refl _ | (simp <;> omega))) | (with_reducible refine Below.allocW ?_ _) | (with_reducible refine Below.drew ?_) | (with_reducible refine Below.extW ?_ _))) hb1
  have s1 : w.heap.size ≤ w1.heap.size := B1.size
  have z1_0 : w.heap.size < w1.heap.size := by have := hb1.size; (try simp at this); omega
  have y1_0 : w.heap.size ≤ w1.heap.size := Nat.le_of_lt z1_0
  have c1_0 := fun o => hb1.cell (p := ⟨w.heap.size, o, none⟩) (by first | omega | (simp <;> omega))
  have f1_0 := fun o => hb1.frozen (p := ⟨w.heap.size, o, none⟩) (by first | omega | (simp <;> omega))
  have z1_1 : w.heap.size + 1 < w1.heap.size := by have := hb1.size; (try simp at this); omega
  have y1_1 : w.heap.size + 1 ≤ w1.heap.size := Nat.le_of_lt z1_1
  have c1_1 := fun o => hb1.cell (p := ⟨w.heap.size + 1, o, none⟩) (by first | omega | (simp <;> omega))
  have f1_1 := fun o => hb1.frozen (p := ⟨w.heap.size + 1, o, none⟩) (by first | omega | (simp <;> omega))
  go_wp2_with fail
  go_region
  all_goals go_wp2_with fail
  all_goals exact bodyPost_ret (v := .tuple #[.agg #[.int .u64 0, .int .u64 0], .agg #[.int .u64 0, .int .u64 0]]) (by simp only [results, Tryz.results41]; go_simp) rfl ⟨rfl, (by repeat (first | with_reducible exact Below.refl _ _ | with_reducible assumption | ((with_reducible refine Below.setCell ?_ ?_ _); rotate_left; · (first | omega | exact Nat.le_refl _ | (simp <;> omega))) | (with_reducible refine Below.allocW ?_ _) | (with_reducible refine Below.drew ?_) | (with_reducible refine Below.extW ?_ _)))⟩
theorem bound_Worst_nil (w : World) : Calls Tryz.prog 51 #[.pointer none] w fun e w' => e = .returned (.tuple #[.int .i64 0, .int .i64 0, .int .i64 1]) ∧ Below w.heap.size w w' := by
  go_enter Tryz.func51, Tryz.ntmps51
  go_wp2_with fail
  refine (bound_wrong_nil _).mono ?_
  rintro e w1 ⟨rfl, hb1⟩
  have B1 : Below w.heap.size w w1 := Below.then_ (by repeat (first | with_reducible exact Below.refl _ _ | with_reducible assumption | ((with_reducible refine Below.setCell ?_ ?_ _); rotate_left; · (first | omega | exact Nat.le_refl _ | (simp <;> omega))) | (with_reducible refine Below.allocW ?_ _) | (with_reducible refine Below.drew ?_) | (with_reducible refine Below.extW ?_ _))) hb1
  have s1 : w.heap.size ≤ w1.heap.size := B1.size
  have z1_0 : w.heap.size < w1.heap.size := by have := hb1.size; (try simp at this); omega
  have y1_0 : w.heap.size ≤ w1.heap.size := Nat.le_of_lt z1_0
  have c1_0 := fun o => hb1.cell (p := ⟨w.heap.size, o, none⟩) (by first | omega | (simp <;> omega))
  have f1_0 := fun o => hb1.frozen (p := ⟨w.heap.size, o, none⟩) (by first | omega | (simp <;> omega))
  have z1_1 : w.heap.size + 1 < w1.heap.size := by have := hb1.size; (try simp at this); omega
  have y1_1 : w.heap.size + 1 ≤ w1.heap.size := Nat.le_of_lt z1_1
  have c1_1 := fun o => hb1.cell (p := ⟨w.heap.size + 1, o, none⟩) (by first | omega | (simp <;> omega))
  have f1_1 := fun o => hb1.frozen (p := ⟨w.heap.size + 1, o, none⟩) (by first | omega | (simp <;> omega))
  go_wp2_with fail
  exact bodyPost_ret (v := .tuple #[.int .i64 0, .int .i64 0, .int .i64 1]) (by simp only [results, Tryz.results51]; go_simp) rfl ⟨rfl, (by repeat (first | with_reducible exact Below.refl _ _ | with_reducible assumption | ((with_reducible refine Below.setCell ?_ ?_ _); rotate_left; · (first | omega | exact Nat.le_refl _ | (simp <;> omega))) | (with_reducible refine Below.allocW ?_ _) | (with_reducible refine Below.drew ?_) | (with_reducible refine Below.extW ?_ _)))⟩
theorem bound_Within_nil (w : World) (a b : Int) : Calls Tryz.prog 52 #[.pointer none, .int .i64 a, .int .i64 b] w fun e w' => e = .returned (.tuple #[.bool false, .int .i64 1]) ∧ Below w.heap.size w w' := by
  go_enter Tryz.func52, Tryz.ntmps52
  go_wp2_with fail
  refine (bound_Worst_nil _).mono ?_
  rintro e w1 ⟨rfl, hb1⟩
  have B1 : Below w.heap.size w w1 := Below.then_ (by repeat (first | with_reducible exact Below.refl _ _ | with_reducible assumption | ((with_reducible refine Below.setCell ?_ ?_ _); rotate_left; · (first | omega | exact Nat.le_refl _ | (simp <;> omega))) | (with_reducible refine Below.allocW ?_ _) | (with_reducible refine Below.drew ?_) | (with_reducible refine Below.extW ?_ _))) hb1
  have s1 : w.heap.size ≤ w1.heap.size := B1.size
  go_wp2_with fail
  go_ret2
  exact ⟨rfl, (by repeat (first | with_reducible exact Below.refl _ _ | with_reducible assumption | ((with_reducible refine Below.setCell ?_ ?_ _); rotate_left; · (first | omega | exact Nat.le_refl _ | (simp <;> omega))) | (with_reducible refine Below.allocW ?_ _) | (with_reducible refine Below.drew ?_) | (with_reducible refine Below.extW ?_ _)))⟩
end Go.Proofs.YtalnhdfgjjhhbaaGreat
/- Chapter 20's example. -/
namespace Go.Proofs.YtalnhdfgjjhhbaaGreat
open Go.ChangeShapes Go.WideShapes Go.ChangeAt Go.RowKit
set_option linter.unusedVariables false
set_option maxRecDepth 100000

theorem least20 : leastT ((2 : Nat) : Int) nodes16 = (0, 0, 0) := by decide +kernel
theorem most20 : mostT ((2 : Nat) : Int) nodes16 = (3, 3, 0) := by decide +kernel
theorem mean20 : meanT ((2 : Nat) : Int) nodes16 = (1, 2, 0) := by decide +kernel
theorem worst20 : worstT ((2 : Nat) : Int) nodes16 = (0, 1, 0) := by decide +kernel
theorem alive20 (w : World) : Calls Tryz.prog 40 #[] w fun e w' => e = .returned (.bool true) ∧ Below w.heap.size w w' := by
  have HS := Lib.hid (sl_lit w encN nodes16 99 _ rfl)
  have HC := Lib.hid (digest_Load · 2 2 4 (some ⟨w.heap.size, 0, none⟩) 3 nodes16 load16 · nodes16_ints (by decide))
  go_enter Tryz.func40, Tryz.ntmps40
  go_wp2_with fail
  refine (HC.out _ (HS.out.keep (by simp) fun p hp => rfl)).mono ?_
  rintro e w1 ⟨g, F, rfl, hD, _, hb1⟩
  have B1 : Below w.heap.size w w1 := Below.then_ (by repeat (first | with_reducible exact Below.refl _ _ | with_reducible assumption | ((with_reducible refine Below.setCell ?_ ?_ _); rotate_left; · (first | omega | exact Nat.le_refl _ | (simp <;> omega))) | (with_reducible refine Below.allocW ?_ _) | (with_reducible refine Below.drew ?_) | (with_reducible refine Below.extW ?_ _))) hb1
  have s1 : w.heap.size ≤ w1.heap.size := B1.size
  have KD := Lib.hid hD
  clear hD
  go_wp2_with fail
  refine (bound_Least _ g 2 2 4 nodes16 F KD.out (by decide)).mono ?_
  rintro e w2 ⟨rfl, hb2⟩
  have B2 : Below w.heap.size w w2 := Below.then_ (by repeat (first | with_reducible exact Below.refl _ _ | with_reducible assumption | ((with_reducible refine Below.setCell ?_ ?_ _); rotate_left; · (first | omega | exact Nat.le_refl _ | (simp <;> omega))) | (with_reducible refine Below.allocW ?_ _) | (with_reducible refine Below.drew ?_) | (with_reducible refine Below.extW ?_ _))) hb2
  have s2 : w.heap.size ≤ w2.heap.size := B2.size
  rw [least20]
  unfold bothV
  have KD2 := Lib.hid ((KD.out.below hb2).alloc (.cells #[.int .i64 0, .int .i64 0] 29))
  go_wp2_with fail
  refine (bound_Greatest _ g 2 2 4 nodes16 F KD2.out (by decide)).mono ?_
  rintro e w3 ⟨rfl, hb3⟩
  have B3 : Below w.heap.size w w3 := Below.then_ (by repeat (first | with_reducible exact Below.refl _ _ | with_reducible assumption | ((with_reducible refine Below.setCell ?_ ?_ _); rotate_left; · (first | omega | exact Nat.le_refl _ | (simp <;> omega))) | (with_reducible refine Below.allocW ?_ _) | (with_reducible refine Below.drew ?_) | (with_reducible refine Below.extW ?_ _))) hb3
  have s3 : w.heap.size ≤ w3.heap.size := B3.size
  have z3_0 : w2.heap.size < w3.heap.size := by have := hb3.size; (try simp at this); omega
  have y3_0 : w2.heap.size ≤ w3.heap.size := Nat.le_of_lt z3_0
  have c3_0 := fun o => hb3.cell (p := ⟨w2.heap.size, o, none⟩) (by first | omega | (simp <;> omega))
  have f3_0 := fun o => hb3.frozen (p := ⟨w2.heap.size, o, none⟩) (by first | omega | (simp <;> omega))
  rw [most20]
  unfold bothV
  have KD3 := Lib.hid ((KD2.out.below hb3).alloc (.cells #[.int .i64 3, .int .i64 3] 29))
  go_wp2_with fail
  refine (bound_Mean _ g 2 2 4 nodes16 F KD3.out (by decide)).mono ?_
  rintro e w4 ⟨rfl, hb4⟩
  have B4 : Below w.heap.size w w4 := Below.then_ (by repeat (first | with_reducible exact Below.refl _ _ | with_reducible assumption | ((with_reducible refine Below.setCell ?_ ?_ _); rotate_left; · (first | omega | exact Nat.le_refl _ | (simp <;> omega))) | (with_reducible refine Below.allocW ?_ _) | (with_reducible refine Below.drew ?_) | (with_reducible refine Below.extW ?_ _))) hb4
  have s4 : w.heap.size ≤ w4.heap.size := B4.size
  have z4_0 : w2.heap.size < w4.heap.size := by have := hb4.size; (try simp at this); omega
  have y4_0 : w2.heap.size ≤ w4.heap.size := Nat.le_of_lt z4_0
  have c4_0 := fun o => hb4.cell (p := ⟨w2.heap.size, o, none⟩) (by first | omega | (simp <;> omega))
  have f4_0 := fun o => hb4.frozen (p := ⟨w2.heap.size, o, none⟩) (by first | omega | (simp <;> omega))
  have z4_1 : w3.heap.size < w4.heap.size := by have := hb4.size; (try simp at this); omega
  have y4_1 : w3.heap.size ≤ w4.heap.size := Nat.le_of_lt z4_1
  have c4_1 := fun o => hb4.cell (p := ⟨w3.heap.size, o, none⟩) (by first | omega | (simp <;> omega))
  have f4_1 := fun o => hb4.frozen (p := ⟨w3.heap.size, o, none⟩) (by first | omega | (simp <;> omega))
  rw [mean20]
  unfold bothV
  have KD4 := Lib.hid ((KD3.out.below hb4).alloc (.cells #[.int .i64 1, .int .i64 2] 29))
  go_wp2_with fail
  refine (bound_Worst _ g 2 2 4 nodes16 F KD4.out (by decide)).mono ?_
  rintro e w5 ⟨rfl, hb5⟩
  have B5 : Below w.heap.size w w5 := Below.then_ (by repeat (first | with_reducible exact Below.refl _ _ | with_reducible assumption | ((with_reducible refine Below.setCell ?_ ?_ _); rotate_left; · (first | omega | exact Nat.le_refl _ | (simp <;> omega))) | (with_reducible refine Below.allocW ?_ _) | (with_reducible refine Below.drew ?_) | (with_reducible refine Below.extW ?_ _))) hb5
  have s5 : w.heap.size ≤ w5.heap.size := B5.size
  have z5_0 : w2.heap.size < w5.heap.size := by have := hb5.size; (try simp at this); omega
  have y5_0 : w2.heap.size ≤ w5.heap.size := Nat.le_of_lt z5_0
  have c5_0 := fun o => hb5.cell (p := ⟨w2.heap.size, o, none⟩) (by first | omega | (simp <;> omega))
  have f5_0 := fun o => hb5.frozen (p := ⟨w2.heap.size, o, none⟩) (by first | omega | (simp <;> omega))
  have z5_1 : w3.heap.size < w5.heap.size := by have := hb5.size; (try simp at this); omega
  have y5_1 : w3.heap.size ≤ w5.heap.size := Nat.le_of_lt z5_1
  have c5_1 := fun o => hb5.cell (p := ⟨w3.heap.size, o, none⟩) (by first | omega | (simp <;> omega))
  have f5_1 := fun o => hb5.frozen (p := ⟨w3.heap.size, o, none⟩) (by first | omega | (simp <;> omega))
  have z5_2 : w4.heap.size < w5.heap.size := by have := hb5.size; (try simp at this); omega
  have y5_2 : w4.heap.size ≤ w5.heap.size := Nat.le_of_lt z5_2
  have c5_2 := fun o => hb5.cell (p := ⟨w4.heap.size, o, none⟩) (by first | omega | (simp <;> omega))
  have f5_2 := fun o => hb5.frozen (p := ⟨w4.heap.size, o, none⟩) (by first | omega | (simp <;> omega))
  rw [worst20]
  unfold triV
  go_wp2_with fail
  go_ret
  exact ⟨rfl, (by repeat (first | with_reducible exact Below.refl _ _ | with_reducible assumption | ((with_reducible refine Below.setCell ?_ ?_ _); rotate_left; · (first | omega | exact Nat.le_refl _ | (simp <;> omega))) | (with_reducible refine Below.allocW ?_ _) | (with_reducible refine Below.drew ?_) | (with_reducible refine Below.extW ?_ _)))⟩
end Go.Proofs.YtalnhdfgjjhhbaaGreat
/- Chapter 20: nothing is told of nil. -/
namespace Go.Proofs.YtalnhdfgjjhhbaaGreat
open Go.ChangeShapes Go.WideShapes Go.ChangeAt Go.RowKit
set_option linter.unusedVariables false
set_option maxRecDepth 100000

@[go_sem] theorem eq_wide0 (w : World) : (Op.equalIn 10000 76 (.agg #[.int .u64 0, .int .u64 0]) (.agg #[.int .u64 0, .int .u64 0])).run Tryz.prog w = .ok true w := by kernel_rfl
theorem law_BoundNobody (a b : Int) (_ : (Lit.int .i64 a).wf = true) (_ : (Lit.int .i64 b).wf = true) (w : World) :
    Calls Tryz.prog 11 #[.int .i64 a, .int .i64 b] w fun e w' => e = .returned (.bool true) ∧ Below w.heap.size w w' := by
  have H1 := Lib.hid bound_Least_nil
  have H2 := Lib.hid bound_Greatest_nil
  have H3 := Lib.hid bound_Spread_nil
  have H4 := Lib.hid bound_Mean_nil
  unfold bothV at H1 H2 H3 H4
  go_enter Tryz.func11, Tryz.ntmps11
  go_wp2_with fail
  refine (H1.out _).mono ?_
  rintro e w1 ⟨rfl, hb1⟩
  have B1 : Below w.heap.size w w1 := Below.then_ (by repeat (first | with_reducible exact Below.refl _ _ | with_reducible assumption | ((with_reducible refine Below.setCell ?_ ?_ _); rotate_left; · (first | omega | exact Nat.le_refl _ | (simp <;> omega))) | (with_reducible refine Below.allocW ?_ _) | (with_reducible refine Below.drew ?_) | (with_reducible refine Below.extW ?_ _))) hb1
  have s1 : w.heap.size ≤ w1.heap.size := B1.size
  go_wp2_with fail
  refine (H2.out _).mono ?_
  rintro e w2 ⟨rfl, hb2⟩
  have B2 : Below w.heap.size w w2 := Below.then_ (by repeat (first | with_reducible exact Below.refl _ _ | with_reducible assumption | ((with_reducible refine Below.setCell ?_ ?_ _); rotate_left; · (first | omega | exact Nat.le_refl _ | (simp <;> omega))) | (with_reducible refine Below.allocW ?_ _) | (with_reducible refine Below.drew ?_) | (with_reducible refine Below.extW ?_ _))) hb2
  have s2 : w.heap.size ≤ w2.heap.size := B2.size
  have z2_0 : w1.heap.size < w2.heap.size := by have := hb2.size; (try simp at this); omega
  have y2_0 : w1.heap.size ≤ w2.heap.size := Nat.le_of_lt z2_0
  have c2_0 := fun o => hb2.cell (p := ⟨w1.heap.size, o, none⟩) (by first | omega | (simp <;> omega))
  have f2_0 := fun o => hb2.frozen (p := ⟨w1.heap.size, o, none⟩) (by first | omega | (simp <;> omega))
  go_wp2_with fail
  refine (H3.out _).mono ?_
  rintro e w3 ⟨rfl, hb3⟩
  have B3 : Below w.heap.size w w3 := Below.then_ (by repeat (first | with_reducible exact Below.refl _ _ | with_reducible assumption | ((with_reducible refine Below.setCell ?_ ?_ _); rotate_left; · (first | omega | exact Nat.le_refl _ | (simp <;> omega))) | (with_reducible refine Below.allocW ?_ _) | (with_reducible refine Below.drew ?_) | (with_reducible refine Below.extW ?_ _))) hb3
  have s3 : w.heap.size ≤ w3.heap.size := B3.size
  have z3_0 : w1.heap.size < w3.heap.size := by have := hb3.size; (try simp at this); omega
  have y3_0 : w1.heap.size ≤ w3.heap.size := Nat.le_of_lt z3_0
  have c3_0 := fun o => hb3.cell (p := ⟨w1.heap.size, o, none⟩) (by first | omega | (simp <;> omega))
  have f3_0 := fun o => hb3.frozen (p := ⟨w1.heap.size, o, none⟩) (by first | omega | (simp <;> omega))
  have z3_1 : w2.heap.size < w3.heap.size := by have := hb3.size; (try simp at this); omega
  have y3_1 : w2.heap.size ≤ w3.heap.size := Nat.le_of_lt z3_1
  have c3_1 := fun o => hb3.cell (p := ⟨w2.heap.size, o, none⟩) (by first | omega | (simp <;> omega))
  have f3_1 := fun o => hb3.frozen (p := ⟨w2.heap.size, o, none⟩) (by first | omega | (simp <;> omega))
  go_wp2_with fail
  refine (bound_Sum_nil _).mono ?_
  rintro e w4 ⟨rfl, hb4⟩
  have B4 : Below w.heap.size w w4 := Below.then_ (by repeat (first | with_reducible exact Below.refl _ _ | with_reducible assumption | ((with_reducible refine Below.setCell ?_ ?_ _); rotate_left; · (first | omega | exact Nat.le_refl _ | (simp <;> omega))) | (with_reducible refine Below.allocW ?_ _) | (with_reducible refine Below.drew ?_) | (with_reducible refine Below.extW ?_ _))) hb4
  have s4 : w.heap.size ≤ w4.heap.size := B4.size
  have z4_0 : w1.heap.size < w4.heap.size := by have := hb4.size; (try simp at this); omega
  have y4_0 : w1.heap.size ≤ w4.heap.size := Nat.le_of_lt z4_0
  have c4_0 := fun o => hb4.cell (p := ⟨w1.heap.size, o, none⟩) (by first | omega | (simp <;> omega))
  have f4_0 := fun o => hb4.frozen (p := ⟨w1.heap.size, o, none⟩) (by first | omega | (simp <;> omega))
  have z4_1 : w2.heap.size < w4.heap.size := by have := hb4.size; (try simp at this); omega
  have y4_1 : w2.heap.size ≤ w4.heap.size := Nat.le_of_lt z4_1
  have c4_1 := fun o => hb4.cell (p := ⟨w2.heap.size, o, none⟩) (by first | omega | (simp <;> omega))
  have f4_1 := fun o => hb4.frozen (p := ⟨w2.heap.size, o, none⟩) (by first | omega | (simp <;> omega))
  have z4_2 : w3.heap.size < w4.heap.size := by have := hb4.size; (try simp at this); omega
  have y4_2 : w3.heap.size ≤ w4.heap.size := Nat.le_of_lt z4_2
  have c4_2 := fun o => hb4.cell (p := ⟨w3.heap.size, o, none⟩) (by first | omega | (simp <;> omega))
  have f4_2 := fun o => hb4.frozen (p := ⟨w3.heap.size, o, none⟩) (by first | omega | (simp <;> omega))
  go_wp2_with fail
  refine (H4.out _).mono ?_
  rintro e w5 ⟨rfl, hb5⟩
  have B5 : Below w.heap.size w w5 := Below.then_ (by repeat (first | with_reducible exact Below.refl _ _ | with_reducible assumption | ((with_reducible refine Below.setCell ?_ ?_ _); rotate_left; · (first | omega | exact Nat.le_refl _ | (simp <;> omega))) | (with_reducible refine Below.allocW ?_ _) | (with_reducible refine Below.drew ?_) | (with_reducible refine Below.extW ?_ _))) hb5
  have s5 : w.heap.size ≤ w5.heap.size := B5.size
  have z5_0 : w1.heap.size < w5.heap.size := by have := hb5.size; (try simp at this); omega
  have y5_0 : w1.heap.size ≤ w5.heap.size := Nat.le_of_lt z5_0
  have c5_0 := fun o => hb5.cell (p := ⟨w1.heap.size, o, none⟩) (by first | omega | (simp <;> omega))
  have f5_0 := fun o => hb5.frozen (p := ⟨w1.heap.size, o, none⟩) (by first | omega | (simp <;> omega))
  have z5_1 : w2.heap.size < w5.heap.size := by have := hb5.size; (try simp at this); omega
  have y5_1 : w2.heap.size ≤ w5.heap.size := Nat.le_of_lt z5_1
  have c5_1 := fun o => hb5.cell (p := ⟨w2.heap.size, o, none⟩) (by first | omega | (simp <;> omega))
  have f5_1 := fun o => hb5.frozen (p := ⟨w2.heap.size, o, none⟩) (by first | omega | (simp <;> omega))
  have z5_2 : w3.heap.size < w5.heap.size := by have := hb5.size; (try simp at this); omega
  have y5_2 : w3.heap.size ≤ w5.heap.size := Nat.le_of_lt z5_2
  have c5_2 := fun o => hb5.cell (p := ⟨w3.heap.size, o, none⟩) (by first | omega | (simp <;> omega))
  have f5_2 := fun o => hb5.frozen (p := ⟨w3.heap.size, o, none⟩) (by first | omega | (simp <;> omega))
  have z5_3 : w4.heap.size < w5.heap.size := by have := hb5.size; (try simp at this); omega
  have y5_3 : w4.heap.size ≤ w5.heap.size := Nat.le_of_lt z5_3
  have c5_3 := fun o => hb5.cell (p := ⟨w4.heap.size, o, none⟩) (by first | omega | (simp <;> omega))
  have f5_3 := fun o => hb5.frozen (p := ⟨w4.heap.size, o, none⟩) (by first | omega | (simp <;> omega))
  have z5_4 : w4.heap.size + 1 < w5.heap.size := by have := hb5.size; (try simp at this); omega
  have y5_4 : w4.heap.size + 1 ≤ w5.heap.size := Nat.le_of_lt z5_4
  have c5_4 := fun o => hb5.cell (p := ⟨w4.heap.size + 1, o, none⟩) (by first | omega | (simp <;> omega))
  have f5_4 := fun o => hb5.frozen (p := ⟨w4.heap.size + 1, o, none⟩) (by first | omega | (simp <;> omega))
  go_wp2_with fail
  refine (bound_Worst_nil _).mono ?_
  rintro e w6 ⟨rfl, hb6⟩
  have B6 : Below w.heap.size w w6 := Below.then_ (by repeat (first | with_reducible exact Below.refl _ _ | with_reducible assumption | ((with_reducible refine Below.setCell ?_ ?_ _); rotate_left; · (first | omega | exact Nat.le_refl _ | (simp <;> omega))) | (with_reducible refine Below.allocW ?_ _) | (with_reducible refine Below.drew ?_) | (with_reducible refine Below.extW ?_ _))) hb6
  have s6 : w.heap.size ≤ w6.heap.size := B6.size
  have z6_0 : w1.heap.size < w6.heap.size := by have := hb6.size; (try simp at this); omega
  have y6_0 : w1.heap.size ≤ w6.heap.size := Nat.le_of_lt z6_0
  have c6_0 := fun o => hb6.cell (p := ⟨w1.heap.size, o, none⟩) (by first | omega | (simp <;> omega))
  have f6_0 := fun o => hb6.frozen (p := ⟨w1.heap.size, o, none⟩) (by first | omega | (simp <;> omega))
  have z6_1 : w2.heap.size < w6.heap.size := by have := hb6.size; (try simp at this); omega
  have y6_1 : w2.heap.size ≤ w6.heap.size := Nat.le_of_lt z6_1
  have c6_1 := fun o => hb6.cell (p := ⟨w2.heap.size, o, none⟩) (by first | omega | (simp <;> omega))
  have f6_1 := fun o => hb6.frozen (p := ⟨w2.heap.size, o, none⟩) (by first | omega | (simp <;> omega))
  have z6_2 : w3.heap.size < w6.heap.size := by have := hb6.size; (try simp at this); omega
  have y6_2 : w3.heap.size ≤ w6.heap.size := Nat.le_of_lt z6_2
  have c6_2 := fun o => hb6.cell (p := ⟨w3.heap.size, o, none⟩) (by first | omega | (simp <;> omega))
  have f6_2 := fun o => hb6.frozen (p := ⟨w3.heap.size, o, none⟩) (by first | omega | (simp <;> omega))
  have z6_3 : w4.heap.size < w6.heap.size := by have := hb6.size; (try simp at this); omega
  have y6_3 : w4.heap.size ≤ w6.heap.size := Nat.le_of_lt z6_3
  have c6_3 := fun o => hb6.cell (p := ⟨w4.heap.size, o, none⟩) (by first | omega | (simp <;> omega))
  have f6_3 := fun o => hb6.frozen (p := ⟨w4.heap.size, o, none⟩) (by first | omega | (simp <;> omega))
  have z6_4 : w4.heap.size + 1 < w6.heap.size := by have := hb6.size; (try simp at this); omega
  have y6_4 : w4.heap.size + 1 ≤ w6.heap.size := Nat.le_of_lt z6_4
  have c6_4 := fun o => hb6.cell (p := ⟨w4.heap.size + 1, o, none⟩) (by first | omega | (simp <;> omega))
  have f6_4 := fun o => hb6.frozen (p := ⟨w4.heap.size + 1, o, none⟩) (by first | omega | (simp <;> omega))
  have z6_5 : w5.heap.size < w6.heap.size := by have := hb6.size; (try simp at this); omega
  have y6_5 : w5.heap.size ≤ w6.heap.size := Nat.le_of_lt z6_5
  have c6_5 := fun o => hb6.cell (p := ⟨w5.heap.size, o, none⟩) (by first | omega | (simp <;> omega))
  have f6_5 := fun o => hb6.frozen (p := ⟨w5.heap.size, o, none⟩) (by first | omega | (simp <;> omega))
  go_wp2_with fail
  refine (bound_Within_nil _ a b).mono ?_
  rintro e w7 ⟨rfl, hb7⟩
  have B7 : Below w.heap.size w w7 := Below.then_ (by repeat (first | with_reducible exact Below.refl _ _ | with_reducible assumption | ((with_reducible refine Below.setCell ?_ ?_ _); rotate_left; · (first | omega | exact Nat.le_refl _ | (simp <;> omega))) | (with_reducible refine Below.allocW ?_ _) | (with_reducible refine Below.drew ?_) | (with_reducible refine Below.extW ?_ _))) hb7
  have s7 : w.heap.size ≤ w7.heap.size := B7.size
  have z7_0 : w1.heap.size < w7.heap.size := by have := hb7.size; (try simp at this); omega
  have y7_0 : w1.heap.size ≤ w7.heap.size := Nat.le_of_lt z7_0
  have c7_0 := fun o => hb7.cell (p := ⟨w1.heap.size, o, none⟩) (by first | omega | (simp <;> omega))
  have f7_0 := fun o => hb7.frozen (p := ⟨w1.heap.size, o, none⟩) (by first | omega | (simp <;> omega))
  have z7_1 : w2.heap.size < w7.heap.size := by have := hb7.size; (try simp at this); omega
  have y7_1 : w2.heap.size ≤ w7.heap.size := Nat.le_of_lt z7_1
  have c7_1 := fun o => hb7.cell (p := ⟨w2.heap.size, o, none⟩) (by first | omega | (simp <;> omega))
  have f7_1 := fun o => hb7.frozen (p := ⟨w2.heap.size, o, none⟩) (by first | omega | (simp <;> omega))
  have z7_2 : w3.heap.size < w7.heap.size := by have := hb7.size; (try simp at this); omega
  have y7_2 : w3.heap.size ≤ w7.heap.size := Nat.le_of_lt z7_2
  have c7_2 := fun o => hb7.cell (p := ⟨w3.heap.size, o, none⟩) (by first | omega | (simp <;> omega))
  have f7_2 := fun o => hb7.frozen (p := ⟨w3.heap.size, o, none⟩) (by first | omega | (simp <;> omega))
  have z7_3 : w4.heap.size < w7.heap.size := by have := hb7.size; (try simp at this); omega
  have y7_3 : w4.heap.size ≤ w7.heap.size := Nat.le_of_lt z7_3
  have c7_3 := fun o => hb7.cell (p := ⟨w4.heap.size, o, none⟩) (by first | omega | (simp <;> omega))
  have f7_3 := fun o => hb7.frozen (p := ⟨w4.heap.size, o, none⟩) (by first | omega | (simp <;> omega))
  have z7_4 : w4.heap.size + 1 < w7.heap.size := by have := hb7.size; (try simp at this); omega
  have y7_4 : w4.heap.size + 1 ≤ w7.heap.size := Nat.le_of_lt z7_4
  have c7_4 := fun o => hb7.cell (p := ⟨w4.heap.size + 1, o, none⟩) (by first | omega | (simp <;> omega))
  have f7_4 := fun o => hb7.frozen (p := ⟨w4.heap.size + 1, o, none⟩) (by first | omega | (simp <;> omega))
  have z7_5 : w5.heap.size < w7.heap.size := by have := hb7.size; (try simp at this); omega
  have y7_5 : w5.heap.size ≤ w7.heap.size := Nat.le_of_lt z7_5
  have c7_5 := fun o => hb7.cell (p := ⟨w5.heap.size, o, none⟩) (by first | omega | (simp <;> omega))
  have f7_5 := fun o => hb7.frozen (p := ⟨w5.heap.size, o, none⟩) (by first | omega | (simp <;> omega))
  go_wp2_with fail
  refine (alive20 _).mono ?_
  rintro e w8 ⟨rfl, hb8⟩
  have B8 : Below w.heap.size w w8 := Below.then_ (by repeat (first | with_reducible exact Below.refl _ _ | with_reducible assumption | ((with_reducible refine Below.setCell ?_ ?_ _); rotate_left; · (first | omega | exact Nat.le_refl _ | (simp <;> omega))) | (with_reducible refine Below.allocW ?_ _) | (with_reducible refine Below.drew ?_) | (with_reducible refine Below.extW ?_ _))) hb8
  have s8 : w.heap.size ≤ w8.heap.size := B8.size
  go_wp2_with fail
  go_ret
  exact ⟨rfl, (by repeat (first | with_reducible exact Below.refl _ _ | with_reducible assumption | ((with_reducible refine Below.setCell ?_ ?_ _); rotate_left; · (first | omega | exact Nat.le_refl _ | (simp <;> omega))) | (with_reducible refine Below.allocW ?_ _) | (with_reducible refine Below.drew ?_) | (with_reducible refine Below.extW ?_ _)))⟩
end Go.Proofs.YtalnhdfgjjhhbaaGreat
