/- Package pool: Load. -/
import Derived.Test.YtalnhdfgjjhhbaaPool
namespace Go.Proofs.Ytalnhdfgjjhhbaa
open Go.ChangeShapes Go.WideShapes Go.ChangeAt Go.RowKit
set_option linter.unusedVariables false

theorem totalFrom_ok {n : Int} {l : List Nd} (h : (totalFrom n l).2 = true) (hn : 0 ≤ n) (hm : n ≤ most) : (totalFrom n l).1 = n + sumR l ∧ n + sumR l ≤ most := by
  induction l generalizing n with
  | nil => simp [totalFrom, sumR]; exact hm
  | cons x l ih =>
    simp only [totalFrom] at h ⊢
    split at h
    · rename_i hc
      rw [if_pos hc]
      have h1 := addOf_le n x.2 hc.1
      have h2 := ih h h1.1 hc.2
      have h3 : (addOf n x.2).1 = n + x.2 := by
        have := hc.1
        unfold addOf at this ⊢
        split
        · rfl
        · rename_i hn; rw [if_neg hn] at this; cases this
      simp only [sumR]
      omega
    · simp at h
theorem rises_roll {l last : Int} {r : List Nd} (h : risesFrom l last r = true) : (∀ x ∈ r, last < x.1 ∧ isNode l x.1 = true ∧ 1 ≤ x.2) ∧ r.Pairwise (fun a b => a.1 < b.1) := by
  induction r generalizing last with
  | nil => exact ⟨by simp, .nil⟩
  | cons x r ih =>
    simp only [risesFrom, Bool.and_eq_true, decide_eq_true_eq] at h
    obtain ⟨⟨⟨h1, h2⟩, h3⟩, h4⟩ := h
    obtain ⟨i1, i2⟩ := ih h4
    refine ⟨fun y hy => ?_, List.pairwise_cons.2 ⟨fun y hy => (i1 y hy).1, i2⟩⟩
    rcases List.mem_cons.1 hy with rfl | hy
    · exact ⟨h1, h2, h3⟩
    · have := i1 y hy; exact ⟨by omega, this.2⟩
theorem isNode_lt {l : Nat} {id : Int} (h : isNode l id = true) : 1 ≤ id ∧ id < 2 * 2 ^ l := by
  simp only [isNode, decide_eq_true_eq, Int.toNat_natCast] at h
  exact h.2
/-- A roll of a universe. -/
theorem right_fits {l : Nat} {r : List Nd} (h : rightOf l r = true) : Fits l r ∧ (totalOf r).1 = sumR r := by
  simp only [rightOf, Bool.and_eq_true] at h
  obtain ⟨⟨h1, h2⟩, _⟩ := h
  obtain ⟨i1, i2⟩ := rises_roll h1
  have h3 := totalFrom_ok h2 (by omega) (by decide)
  refine ⟨⟨⟨i2, fun x hx => ⟨(isNode_lt (i1 x hx).2.1).1, (i1 x hx).2.2⟩⟩, fun x hx => (isNode_lt (i1 x hx).2.1).2, by unfold most at h3; omega⟩, ?_⟩
  unfold totalOf
  rw [h3.1]; omega

theorem pool_Load_no (w : World) (K l : Int) (A : Option Addr) (cap : Nat) (r : List Nd) (h : isPool K l = false) : Calls Try.prog 41 #[.int .i64 K, .int .i64 l, .slice A r.length cap] w fun e w' => e = .returned (.tuple #[.pointer none, .int .i64 2]) ∧ Below w.heap.size w w' := by
  have HC := Lib.hid (pool_New_no · K l h)
  clear h
  go_enter Try.func41, Try.ntmps41
  go_wp2_with fail
  refine (HC.out _).mono ?_
  rintro e w1 ⟨rfl, hb1⟩
  have B1 : Below w.heap.size w w1 := Below.then_ (by repeat (first | with_reducible exact Below.refl _ _ | with_reducible assumption | ((with_reducible refine Below.setCell ?_ ?_ _); rotate_left; · (first | omega | exact Nat.le_refl _ | (simp <;> omega))) | (with_reducible refine Below.allocW ?_ _) | (with_reducible refine Below.drew ?_) | (with_reducible refine Below.extW ?_ _))) hb1
  have s1 : w.heap.size ≤ w1.heap.size := B1.size
  go_wp2_with fail
  go_ret2
  exact ⟨rfl, (by repeat (first | with_reducible exact Below.refl _ _ | with_reducible assumption | ((with_reducible refine Below.setCell ?_ ?_ _); rotate_left; · (first | omega | exact Nat.le_refl _ | (simp <;> omega))) | (with_reducible refine Below.allocW ?_ _) | (with_reducible refine Below.drew ?_) | (with_reducible refine Below.extW ?_ _)))⟩
theorem pool_Load_form (w : World) (K l : Nat) (A : Option Addr) (cap : Nat) (r : List Nd) (h : isPool K l = true) (hR : rightOf l r = false) (hS : Sl w w.heap.size encN A r) (hI : ints r) (hm : r.length ≤ maxLen) :
    Calls Try.prog 41 #[.int .i64 K, .int .i64 l, .slice A r.length cap] w fun e w' => e = .returned (.tuple #[.pointer none, .int .i64 10]) ∧ Below w.heap.size w w' := by
  have HC := Lib.hid (pool_New · K l h)
  have HR := Lib.hid (roll_Right · l A cap r · hI hm)
  have HF := Lib.hid hR
  have HS := Lib.hid hS
  clear h hR hS
  go_enter Try.func41, Try.ntmps41
  go_wp2_with fail
  refine (HC.out _).mono ?_
  rintro e w1 ⟨g, F, rfl, _, _, hb1⟩
  have B1 : Below w.heap.size w w1 := Below.then_ (by repeat (first | with_reducible exact Below.refl _ _ | with_reducible assumption | ((with_reducible refine Below.setCell ?_ ?_ _); rotate_left; · (first | omega | exact Nat.le_refl _ | (simp <;> omega))) | (with_reducible refine Below.allocW ?_ _) | (with_reducible refine Below.drew ?_) | (with_reducible refine Below.extW ?_ _))) hb1
  have s1 : w.heap.size ≤ w1.heap.size := B1.size
  have S1 := Lib.hid (HS.out.keep hb1.size fun p hp => hb1.cell hp)
  go_wp2_with fail
  refine (HR.out _ S1.out).mono ?_
  rintro e w2 ⟨rfl, hb2⟩
  have B2 : Below w.heap.size w w2 := Below.then_ (by repeat (first | with_reducible exact Below.refl _ _ | with_reducible assumption | ((with_reducible refine Below.setCell ?_ ?_ _); rotate_left; · (first | omega | exact Nat.le_refl _ | (simp <;> omega))) | (with_reducible refine Below.allocW ?_ _) | (with_reducible refine Below.drew ?_) | (with_reducible refine Below.extW ?_ _))) hb2
  have s2 : w.heap.size ≤ w2.heap.size := B2.size
  rw [HF.out]
  go_wp2_with fail
  go_ret2
  exact ⟨rfl, (by repeat (first | with_reducible exact Below.refl _ _ | with_reducible assumption | ((with_reducible refine Below.setCell ?_ ?_ _); rotate_left; · (first | omega | exact Nat.le_refl _ | (simp <;> omega))) | (with_reducible refine Below.allocW ?_ _) | (with_reducible refine Below.drew ?_) | (with_reducible refine Below.extW ?_ _)))⟩
theorem pool_Load (w : World) (K l : Nat) (A : Option Addr) (cap : Nat) (r : List Nd) (h : isPool K l = true) (hR : rightOf l r = true) (hS : Sl w w.heap.size encN A r) (hI : ints r) (hn : r.length < 67108864) :
    Calls Try.prog 41 #[.int .i64 K, .int .i64 l, .slice A r.length cap] w (NewPost K l r w) := by
  have HC := Lib.hid (pool_New · K l h)
  have HR := Lib.hid (roll_Right · l A cap r · hI (by unfold maxLen; omega))
  have HF := Lib.hid hR
  have HS := Lib.hid hS
  have HT := Lib.hid (right_fits hR).1
  clear h hR hS
  go_enter Try.func41, Try.ntmps41
  go_wp2_with fail
  refine (HC.out _).mono ?_
  rintro e w1 ⟨g, F, rfl, hP, hF, hb1⟩
  have B1 : Below w.heap.size w w1 := Below.then_ (by repeat (first | with_reducible exact Below.refl _ _ | with_reducible assumption | ((with_reducible refine Below.setCell ?_ ?_ _); rotate_left; · (first | omega | exact Nat.le_refl _ | (simp <;> omega))) | (with_reducible refine Below.allocW ?_ _) | (with_reducible refine Below.drew ?_) | (with_reducible refine Below.extW ?_ _))) hb1
  have s1 : w.heap.size ≤ w1.heap.size := B1.size
  have S1 := Lib.hid (HS.out.keep hb1.size fun p hp => hb1.cell hp)
  have KP := Lib.hid hP
  have KF := Lib.hid hF
  clear hP hF
  go_wp2_with fail
  refine (HR.out _ S1.out).mono ?_
  rintro e w2 ⟨rfl, hb2⟩
  have B2 : Below w.heap.size w w2 := Below.then_ (by repeat (first | with_reducible exact Below.refl _ _ | with_reducible assumption | ((with_reducible refine Below.setCell ?_ ?_ _); rotate_left; · (first | omega | exact Nat.le_refl _ | (simp <;> omega))) | (with_reducible refine Below.allocW ?_ _) | (with_reducible refine Below.drew ?_) | (with_reducible refine Below.extW ?_ _))) hb2
  have s2 : w.heap.size ≤ w2.heap.size := B2.size
  rw [HF.out]
  have KP2 := Lib.hid (KP.out.below hb2)
  have S2 := Lib.hid (S1.out.keep hb2.size fun p hp => hb2.cell hp)
  have HA : Hid (∀ b o, A = some ⟨b, o, none⟩ → r ≠ [] → b < w.heap.size) := Lib.hid fun b o hA hr => by
    rcases HS.out with h | ⟨b', o', hA', hb, _⟩
    · exact absurd h hr
    · rw [hA] at hA'; cases hA'; exact hb
  go_wp2_with fail
  refine (pool_put _ g K l F A cap r KP2.out HT.out S2.out (fun b o hA hr0 hf => by have h1 := HA.out b o hA hr0; have h2 := KF.out b hf; omega) hn).mono ?_
  rintro e w3 ⟨F3, rfl, hP3, hT3, hG3⟩
  have HP : Hid (NewPost K l r w (.returned (.tuple #[.pointer (some ⟨g, 0, none⟩), .int .i64 0])) w3) := Lib.hid ⟨g, F3, rfl, hP3, fun b hb => by
    rcases hG3 b hb with h | h
    · exact KF.out b h
    · have := B2.size; omega, B2.trans (hT3.below KF.out (B2.size))⟩
  clear hP3 hT3 hG3
  go_wp2_with fail
  go_ret2
  exact HP.out
end Go.Proofs.Ytalnhdfgjjhhbaa
