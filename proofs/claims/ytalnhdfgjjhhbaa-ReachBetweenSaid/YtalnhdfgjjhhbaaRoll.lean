/- Package roll: lists of nodes. -/
import Derived.Test.YtalnhdfgjjhhbaaArith
import Derived.Test.YtalnhdfgjjhhbaaTurn
namespace Go.Proofs.Ytalnhdfgjjhhbaa
open Go.ChangeShapes Go.WideShapes Go.ChangeAt Go.RowKit
set_option linter.unusedVariables false

def encN : Enc Nd 2 := ⟨fun x => [.int .i64 x.1, .int .i64 x.2], fun _ => rfl, by intro x u hu; simp at hu; rcases hu with rfl | rfl <;> rfl⟩
theorem tyN : SliceTy Try.prog 24 59 2 16 (.agg #[.int .i64 0, .int .i64 0]) := ⟨Try.underlying24, by kernel_rfl, rfl, by decide⟩
def i64 (n : Int) : Prop := -9223372036854775808 ≤ n ∧ n ≤ 9223372036854775807
/-- All numbers of a list are ints. -/
def ints (l : List Nd) : Prop := ∀ x ∈ l, i64 x.1 ∧ i64 x.2
def most : Int := 72057594037927935

/-- The weight of all, from n on. -/
def totalFrom (n : Int) : List Nd → Int × Bool
  | [] => (n, true)
  | x :: l => if (addOf n x.2).2 = true ∧ (addOf n x.2).1 ≤ most then totalFrom (addOf n x.2).1 l else (0, false)
def totalOf (l : List Nd) : Int × Bool := totalFrom 0 l
theorem drop_cons {α : Type} {l : List α} {k : Nat} (h : k < l.length) : l.drop k = l[k] :: l.drop (k + 1) := List.drop_eq_getElem_cons h
theorem addOf_le (a b : Int) (h : (addOf a b).2 = true) : 0 ≤ (addOf a b).1 ∧ (addOf a b).1 ≤ 9223372036854775807 := by
  unfold addOf at h ⊢
  split
  · rename_i hc; exact ⟨by simp only; omega, hc.2.2⟩
  · simp

set_option maxRecDepth 100000 in
theorem roll_Total (w : World) (A : Option Addr) (cap : Nat) (l : List Nd) (hS : Sl w w.heap.size encN A l) (hI : ints l) (hm : l.length ≤ maxLen) :
    Calls Try.prog 70 #[.slice A l.length cap] w fun e w' => e = .returned (okV (totalOf l)) ∧ Below w.heap.size w w' := by
  have HS := Lib.hid hS
  have HI := Lib.hid hI
  unfold maxLen at hm
  clear hS hI
  go_enter Try.func70, Try.ntmps70
  go_wp2_with fail
  go_loopw [4, 11] (fun n i wr => ∃ (k : Nat) (m : Int), k ≤ l.length ∧ i = .int .i64 k ∧ n = .int .i64 m ∧ 0 ≤ m ∧ m ≤ 72057594037927935 ∧ totalOf l = totalFrom m (l.drop k) ∧ Below w.heap.size w wr) (fun _ i _ => l.length - (intOf i).toNat)
  case atStart => exact ⟨0, 0, by omega, rfl, rfl, by omega, by omega, rfl, Below.refl _ _⟩
  case round =>
    obtain ⟨k, m, hk, rfl, rfl, hm0, hm1, hT, hB⟩ := hrel
    have HT := Lib.hid hT
    clear hT
    have hs := hB.size
    by_cases hlt : k < l.length
    · obtain ⟨b, off, rfl, hb, hc⟩ := (HS.out.below hB).at_ hlt
      have d0 := hc 0 (.int .i64 l[k].1) rfl
      have d1 := hc 1 (.int .i64 l[k].2) rfl
      simp only [Nat.add_zero] at d0
      have hx := (HI.out _ (List.getElem_mem hlt)).2
      have hN : totalOf l = if (addOf m l[k].2).2 = true ∧ (addOf m l[k].2).1 ≤ most then totalFrom (addOf m l[k].2).1 (l.drop (k + 1)) else (0, false) := by rw [HT.out, drop_cons hlt]; rfl
      have HN := Lib.hid hN
      have HA := Lib.hid (addOf_le m l[k].2)
      have HC := Lib.hid (reckon_Add · m l[k].2 (by omega) hx.2)
      clear hc hN hx
      obtain ⟨x, hx⟩ : ∃ x, x = l[k] := ⟨_, rfl⟩
      rw [← hx] at d0 d1 HN HA HC
      clear hx
      generalize addOf m x.2 = r at HN HA HC
      obtain ⟨r1, r2⟩ := r
      go_wp2_with fail
      refine (HC.out _).mono ?_
      rintro e w1 ⟨rfl, hb1⟩
      have B1 : Below w.heap.size w w1 := Below.then_ (by repeat (first | with_reducible exact Below.refl _ _ | with_reducible assumption | ((with_reducible refine Below.setCell ?_ ?_ _); rotate_left; · (first | omega | exact Nat.le_refl _ | (simp <;> omega))) | (with_reducible refine Below.allocW ?_ _) | (with_reducible refine Below.drew ?_) | (with_reducible refine Below.extW ?_ _))) hb1
      have s1 : w.heap.size ≤ w1.heap.size := B1.size
      have z1_0 : wr.heap.size < w1.heap.size := by have := hb1.size; (try simp at this); omega
      have y1_0 : wr.heap.size ≤ w1.heap.size := Nat.le_of_lt z1_0
      have c1_0 := fun o => hb1.cell (p := ⟨wr.heap.size, o, none⟩) (by first | omega | (simp <;> omega))
      have f1_0 := fun o => hb1.frozen (p := ⟨wr.heap.size, o, none⟩) (by first | omega | (simp <;> omega))
      unfold okV
      cases r2
      · go_wp2_with fail
        go_ret2
        exact ⟨by rw [HN.out, if_neg (by simp)]; rfl, (by repeat (first | with_reducible exact Below.refl _ _ | with_reducible assumption | ((with_reducible refine Below.setCell ?_ ?_ _); rotate_left; · (first | omega | exact Nat.le_refl _ | (simp <;> omega))) | (with_reducible refine Below.allocW ?_ _) | (with_reducible refine Below.drew ?_) | (with_reducible refine Below.extW ?_ _)))⟩
      · by_cases hle : r1 ≤ 72057594037927935
        · have h0 : 0 ≤ r1 := (HA.out rfl).1
          go_wp2_with fail
          go_roundw
          case rel => exact ⟨k + 1, r1, by omega, by go_num, rfl, h0, hle, by rw [HN.out, if_pos ⟨by simp, hle⟩], (by repeat (first | with_reducible exact Below.refl _ _ | with_reducible assumption | ((with_reducible refine Below.setCell ?_ ?_ _); rotate_left; · (first | omega | exact Nat.le_refl _ | (simp <;> omega))) | (with_reducible refine Below.allocW ?_ _) | (with_reducible refine Below.drew ?_) | (with_reducible refine Below.extW ?_ _)))⟩
          case measure => simp [intOf]; omega
        · go_wp2_with fail
          go_ret2
          exact ⟨by rw [HN.out, if_neg (fun h => by have h2 : r1 ≤ 72057594037927935 := h.2; omega)]; rfl, (by repeat (first | with_reducible exact Below.refl _ _ | with_reducible assumption | ((with_reducible refine Below.setCell ?_ ?_ _); rotate_left; · (first | omega | exact Nat.le_refl _ | (simp <;> omega))) | (with_reducible refine Below.allocW ?_ _) | (with_reducible refine Below.drew ?_) | (with_reducible refine Below.extW ?_ _)))⟩
    · obtain rfl : k = l.length := by omega
      have HE := Lib.hid (show totalOf l = (m, true) by rw [HT.out, List.drop_length]; rfl)
      go_wp2_with fail
      go_ret2
      exact ⟨by rw [HE.out]; rfl, (by repeat (first | with_reducible exact Below.refl _ _ | with_reducible assumption | ((with_reducible refine Below.setCell ?_ ?_ _); rotate_left; · (first | omega | exact Nat.le_refl _ | (simp <;> omega))) | (with_reducible refine Below.allocW ?_ _) | (with_reducible refine Below.drew ?_) | (with_reducible refine Below.extW ?_ _)))⟩

/-- The numbers rise, and are nodes; the weights are at least 1. -/
def risesFrom (l last : Int) : List Nd → Bool
  | [] => true
  | x :: r => decide (last < x.1) && isNode l x.1 && decide (1 ≤ x.2) && risesFrom l x.1 r
/-- A roll. -/
def rightOf (l : Int) (r : List Nd) : Bool := risesFrom l 0 r && (totalOf r).2 && isNode l 1

set_option maxRecDepth 100000 in
theorem roll_Right (w : World) (u : Int) (A : Option Addr) (cap : Nat) (l : List Nd) (hS : Sl w w.heap.size encN A l) (hI : ints l) (hm : l.length ≤ maxLen) :
    Calls Try.prog 40 #[.int .i64 u, .slice A l.length cap] w fun e w' => e = .returned (.bool (rightOf u l)) ∧ Below w.heap.size w w' := by
  have HS := Lib.hid hS
  have HI := Lib.hid hI
  have HM := Lib.hid hm
  unfold maxLen at hm
  clear hS hI
  go_enter Try.func40, Try.ntmps40
  go_wp2_with fail
  go_loopw [5, 12] (fun n i wr => ∃ (k : Nat) (m : Int), k ≤ l.length ∧ i = .int .i64 k ∧ n = .int .i64 m ∧ risesFrom u 0 l = risesFrom u m (l.drop k) ∧ Below w.heap.size w wr) (fun _ i _ => l.length - (intOf i).toNat)
  case atStart => exact ⟨0, 0, by omega, rfl, rfl, rfl, Below.refl _ _⟩
  case round =>
    obtain ⟨k, m, hk, rfl, rfl, hT, hB⟩ := hrel
    have HT := Lib.hid hT
    clear hT
    have hs := hB.size
    by_cases hlt : k < l.length
    · obtain ⟨b, off, rfl, hb, hc⟩ := (HS.out.below hB).at_ hlt
      have d0 := hc 0 (.int .i64 l[k].1) rfl
      have d1 := hc 1 (.int .i64 l[k].2) rfl
      simp only [Nat.add_zero] at d0
      have hN : risesFrom u 0 l = (decide (m < l[k].1) && isNode u l[k].1 && decide (1 ≤ l[k].2) && risesFrom u l[k].1 (l.drop (k + 1))) := by rw [HT.out, drop_cons hlt]; rfl
      have HN := Lib.hid hN
      clear hc hN
      obtain ⟨x, hx⟩ : ∃ x, x = l[k] := ⟨_, rfl⟩
      rw [← hx] at d0 d1 HN
      clear hx
      by_cases h1 : m < x.1
      · cases h2 : isNode u x.1
        · have H2 := Lib.hid h2
          have HR := Lib.hid (show rightOf u l = false by unfold rightOf; rw [HN.out, h2]; simp)
          clear h2
          go_wp2_with fail
          refine (twig_Right _ u x.1).mono ?_
          rintro e w1 ⟨rfl, hb1⟩
          have B1 : Below w.heap.size w w1 := Below.then_ (by repeat (first | with_reducible exact Below.refl _ _ | with_reducible assumption | ((with_reducible refine Below.setCell ?_ ?_ _); rotate_left; · (first | omega | exact Nat.le_refl _ | (simp <;> omega))) | (with_reducible refine Below.allocW ?_ _) | (with_reducible refine Below.drew ?_) | (with_reducible refine Below.extW ?_ _))) hb1
          have s1 : w.heap.size ≤ w1.heap.size := B1.size
          have z1_0 : wr.heap.size < w1.heap.size := by have := hb1.size; (try simp at this); omega
          have y1_0 : wr.heap.size ≤ w1.heap.size := Nat.le_of_lt z1_0
          have c1_0 := fun o => hb1.cell (p := ⟨wr.heap.size, o, none⟩) (by first | omega | (simp <;> omega))
          have f1_0 := fun o => hb1.frozen (p := ⟨wr.heap.size, o, none⟩) (by first | omega | (simp <;> omega))
          rw [H2.out]
          go_wp2_with fail
          go_ret
          exact ⟨ret_bool HR.out.symm, (by repeat (first | with_reducible exact Below.refl _ _ | with_reducible assumption | ((with_reducible refine Below.setCell ?_ ?_ _); rotate_left; · (first | omega | exact Nat.le_refl _ | (simp <;> omega))) | (with_reducible refine Below.allocW ?_ _) | (with_reducible refine Below.drew ?_) | (with_reducible refine Below.extW ?_ _)))⟩
        · have H2 := Lib.hid h2
          by_cases h3 : 1 ≤ x.2
          · have HR := Lib.hid (show risesFrom u 0 l = risesFrom u x.1 (l.drop (k + 1)) by rw [HN.out, h2]; simp [h1, h3])
            clear h2
            go_wp2_with fail
            refine (twig_Right _ u x.1).mono ?_
            rintro e w1 ⟨rfl, hb1⟩
            have B1 : Below w.heap.size w w1 := Below.then_ (by repeat (first | with_reducible exact Below.refl _ _ | with_reducible assumption | ((with_reducible refine Below.setCell ?_ ?_ _); rotate_left; · (first | omega | exact Nat.le_refl _ | (simp <;> omega))) | (with_reducible refine Below.allocW ?_ _) | (with_reducible refine Below.drew ?_) | (with_reducible refine Below.extW ?_ _))) hb1
            have s1 : w.heap.size ≤ w1.heap.size := B1.size
            have z1_0 : wr.heap.size < w1.heap.size := by have := hb1.size; (try simp at this); omega
            have y1_0 : wr.heap.size ≤ w1.heap.size := Nat.le_of_lt z1_0
            have c1_0 := fun o => hb1.cell (p := ⟨wr.heap.size, o, none⟩) (by first | omega | (simp <;> omega))
            have f1_0 := fun o => hb1.frozen (p := ⟨wr.heap.size, o, none⟩) (by first | omega | (simp <;> omega))
            rw [H2.out]
            go_wp2_with fail
            go_roundw
            case rel => exact ⟨k + 1, x.1, by omega, by go_num, rfl, HR.out, (by repeat (first | with_reducible exact Below.refl _ _ | with_reducible assumption | ((with_reducible refine Below.setCell ?_ ?_ _); rotate_left; · (first | omega | exact Nat.le_refl _ | (simp <;> omega))) | (with_reducible refine Below.allocW ?_ _) | (with_reducible refine Below.drew ?_) | (with_reducible refine Below.extW ?_ _)))⟩
            case measure => simp [intOf]; omega
          · have HR := Lib.hid (show rightOf u l = false by unfold rightOf; rw [HN.out]; simp [h3])
            clear h2
            go_wp2_with fail
            refine (twig_Right _ u x.1).mono ?_
            rintro e w1 ⟨rfl, hb1⟩
            have B1 : Below w.heap.size w w1 := Below.then_ (by repeat (first | with_reducible exact Below.refl _ _ | with_reducible assumption | ((with_reducible refine Below.setCell ?_ ?_ _); rotate_left; · (first | omega | exact Nat.le_refl _ | (simp <;> omega))) | (with_reducible refine Below.allocW ?_ _) | (with_reducible refine Below.drew ?_) | (with_reducible refine Below.extW ?_ _))) hb1
            have s1 : w.heap.size ≤ w1.heap.size := B1.size
            have z1_0 : wr.heap.size < w1.heap.size := by have := hb1.size; (try simp at this); omega
            have y1_0 : wr.heap.size ≤ w1.heap.size := Nat.le_of_lt z1_0
            have c1_0 := fun o => hb1.cell (p := ⟨wr.heap.size, o, none⟩) (by first | omega | (simp <;> omega))
            have f1_0 := fun o => hb1.frozen (p := ⟨wr.heap.size, o, none⟩) (by first | omega | (simp <;> omega))
            rw [H2.out]
            go_wp2_with fail
            go_ret
            exact ⟨ret_bool HR.out.symm, (by repeat (first | with_reducible exact Below.refl _ _ | with_reducible assumption | ((with_reducible refine Below.setCell ?_ ?_ _); rotate_left; · (first | omega | exact Nat.le_refl _ | (simp <;> omega))) | (with_reducible refine Below.allocW ?_ _) | (with_reducible refine Below.drew ?_) | (with_reducible refine Below.extW ?_ _)))⟩
      · have HR := Lib.hid (show rightOf u l = false by unfold rightOf; rw [HN.out]; simp [h1])
        go_wp2_with fail
        go_ret
        exact ⟨ret_bool HR.out.symm, (by repeat (first | with_reducible exact Below.refl _ _ | with_reducible assumption | ((with_reducible refine Below.setCell ?_ ?_ _); rotate_left; · (first | omega | exact Nat.le_refl _ | (simp <;> omega))) | (with_reducible refine Below.allocW ?_ _) | (with_reducible refine Below.drew ?_) | (with_reducible refine Below.extW ?_ _)))⟩
    · obtain rfl : k = l.length := by omega
      have HE := Lib.hid (show rightOf u l = ((totalOf l).2 && isNode u 1) by unfold rightOf; rw [HT.out, List.drop_length]; simp [risesFrom])
      have HC := Lib.hid (roll_Total · A cap l · HI.out HM.out)
      generalize totalOf l = r at HE HC
      obtain ⟨r1, r2⟩ := r
      go_wp2_with fail
      refine (HC.out _ (HS.out.keep hs fun p hp => hB.cell hp)).mono ?_
      rintro e w1 ⟨rfl, hb1⟩
      have B1 : Below w.heap.size w w1 := Below.then_ (by repeat (first | with_reducible exact Below.refl _ _ | with_reducible assumption | ((with_reducible refine Below.setCell ?_ ?_ _); rotate_left; · (first | omega | exact Nat.le_refl _ | (simp <;> omega))) | (with_reducible refine Below.allocW ?_ _) | (with_reducible refine Below.drew ?_) | (with_reducible refine Below.extW ?_ _))) hb1
      have s1 : w.heap.size ≤ w1.heap.size := B1.size
      unfold okV
      cases r2
      · go_wp2_with fail
        go_ret
        exact ⟨ret_bool HE.out.symm, (by repeat (first | with_reducible exact Below.refl _ _ | with_reducible assumption | ((with_reducible refine Below.setCell ?_ ?_ _); rotate_left; · (first | omega | exact Nat.le_refl _ | (simp <;> omega))) | (with_reducible refine Below.allocW ?_ _) | (with_reducible refine Below.drew ?_) | (with_reducible refine Below.extW ?_ _)))⟩
      · go_wp2_with fail
        refine (twig_Right _ u 1).mono ?_
        rintro e w2 ⟨rfl, hb2⟩
        have B2 : Below w.heap.size w w2 := Below.then_ (by repeat (first | with_reducible exact Below.refl _ _ | with_reducible assumption | ((with_reducible refine Below.setCell ?_ ?_ _); rotate_left; · (first | omega | exact Nat.le_refl _ | (simp <;> omega))) | (with_reducible refine Below.allocW ?_ _) | (with_reducible refine Below.drew ?_) | (with_reducible refine Below.extW ?_ _))) hb2
        have s2 : w.heap.size ≤ w2.heap.size := B2.size
        go_wp2_with fail
        go_ret
        exact ⟨ret_bool HE.out.symm, (by repeat (first | with_reducible exact Below.refl _ _ | with_reducible assumption | ((with_reducible refine Below.setCell ?_ ?_ _); rotate_left; · (first | omega | exact Nat.le_refl _ | (simp <;> omega))) | (with_reducible refine Below.allocW ?_ _) | (with_reducible refine Below.drew ?_) | (with_reducible refine Below.extW ?_ _)))⟩
end Go.Proofs.Ytalnhdfgjjhhbaa
