/- Chapter 16: what a digest tells is what the document says: the law. -/
import Derived.Test.YtalnhdfgjjhhbaaTells
namespace Go.Proofs.Ytalnhdfgjjhhbaa
open Go.ChangeShapes Go.WideShapes Go.ChangeAt Go.RowKit
set_option linter.unusedVariables false
set_option maxRecDepth 100000

theorem law_RankTells_no (l k K : Int) (r : List Nd) (A : Option Addr) (cap : Nat) (y : Int) (w : World) (h : ¬ goodL l k K r) (hS : Sl w w.heap.size encN A r) (hI : ints r) (hm : r.length ≤ maxLen) :
    Calls Try.prog 4 #[loadedV l k K A r.length cap, .int .i64 y] w fun e w' => e = .returned (.bool true) ∧ Below w.heap.size w w' := by
  have HC := Lib.hid (law16_Load_no · l k K A cap r h · hI hm)
  have HS := Lib.hid hS
  clear h hS
  unfold loadedV refDig at HC
  unfold loadedV
  go_enter Try.func4, Try.ntmps4
  go_wp2_with fail
  refine (rank_Low_nil _ y).mono ?_
  rintro e w1 ⟨rfl, hb1⟩
  have B1 : Below w.heap.size w w1 := Below.then_ (by repeat (first | with_reducible exact Below.refl _ _ | with_reducible assumption | ((with_reducible refine Below.setCell ?_ ?_ _); rotate_left; · (first | omega | exact Nat.le_refl _ | (simp <;> omega))) | (with_reducible refine Below.allocW ?_ _) | (with_reducible refine Below.drew ?_) | (with_reducible refine Below.extW ?_ _))) hb1
  have s1 : w.heap.size ≤ w1.heap.size := B1.size
  have z1_0 : w.heap.size < w1.heap.size := by have := hb1.size; (try simp at this); omega
  have y1_0 : w.heap.size ≤ w1.heap.size := Nat.le_of_lt z1_0
  have c1_0 := fun o => hb1.cell (p := ⟨w.heap.size, o, none⟩) (by first | omega | (simp <;> omega))
  have f1_0 := fun o => hb1.frozen (p := ⟨w.heap.size, o, none⟩) (by first | omega | (simp <;> omega))
  go_wp2_with fail
  refine (rank_High_nil _ y).mono ?_
  rintro e w2 ⟨rfl, hb2⟩
  have B2 : Below w.heap.size w w2 := Below.then_ (by repeat (first | with_reducible exact Below.refl _ _ | with_reducible assumption | ((with_reducible refine Below.setCell ?_ ?_ _); rotate_left; · (first | omega | exact Nat.le_refl _ | (simp <;> omega))) | (with_reducible refine Below.allocW ?_ _) | (with_reducible refine Below.drew ?_) | (with_reducible refine Below.extW ?_ _))) hb2
  have s2 : w.heap.size ≤ w2.heap.size := B2.size
  have z2_0 : w.heap.size < w2.heap.size := by have := hb2.size; (try simp at this); omega
  have y2_0 : w.heap.size ≤ w2.heap.size := Nat.le_of_lt z2_0
  have c2_0 := fun o => hb2.cell (p := ⟨w.heap.size, o, none⟩) (by first | omega | (simp <;> omega))
  have f2_0 := fun o => hb2.frozen (p := ⟨w.heap.size, o, none⟩) (by first | omega | (simp <;> omega))
  go_wp2_with fail
  refine (rank_Slack_nil _).mono ?_
  rintro e w3 ⟨rfl, hb3⟩
  have B3 : Below w.heap.size w w3 := Below.then_ (by repeat (first | with_reducible exact Below.refl _ _ | with_reducible assumption | ((with_reducible refine Below.setCell ?_ ?_ _); rotate_left; · (first | omega | exact Nat.le_refl _ | (simp <;> omega))) | (with_reducible refine Below.allocW ?_ _) | (with_reducible refine Below.drew ?_) | (with_reducible refine Below.extW ?_ _))) hb3
  have s3 : w.heap.size ≤ w3.heap.size := B3.size
  have z3_0 : w.heap.size < w3.heap.size := by have := hb3.size; (try simp at this); omega
  have y3_0 : w.heap.size ≤ w3.heap.size := Nat.le_of_lt z3_0
  have c3_0 := fun o => hb3.cell (p := ⟨w.heap.size, o, none⟩) (by first | omega | (simp <;> omega))
  have f3_0 := fun o => hb3.frozen (p := ⟨w.heap.size, o, none⟩) (by first | omega | (simp <;> omega))
  go_wp2_with fail
  refine (HC.out _ (HS.out.keep s3 fun p hp => B3.cell hp)).mono ?_
  rintro e w4 ⟨rfl, hb4⟩
  have B4 : Below w.heap.size w w4 := Below.then_ (by repeat (first | with_reducible exact Below.refl _ _ | with_reducible assumption | ((with_reducible refine Below.setCell ?_ ?_ _); rotate_left; · (first | omega | exact Nat.le_refl _ | (simp <;> omega))) | (with_reducible refine Below.allocW ?_ _) | (with_reducible refine Below.drew ?_) | (with_reducible refine Below.extW ?_ _))) hb4
  have s4 : w.heap.size ≤ w4.heap.size := B4.size
  have z4_0 : w.heap.size < w4.heap.size := by have := hb4.size; (try simp at this); omega
  have y4_0 : w.heap.size ≤ w4.heap.size := Nat.le_of_lt z4_0
  have c4_0 := fun o => hb4.cell (p := ⟨w.heap.size, o, none⟩) (by first | omega | (simp <;> omega))
  have f4_0 := fun o => hb4.frozen (p := ⟨w.heap.size, o, none⟩) (by first | omega | (simp <;> omega))
  go_wp2_with fail
  refine (alive16 _).mono ?_
  rintro e w5 ⟨rfl, hb5⟩
  have B5 : Below w.heap.size w w5 := Below.then_ (by repeat (first | with_reducible exact Below.refl _ _ | with_reducible assumption | ((with_reducible refine Below.setCell ?_ ?_ _); rotate_left; · (first | omega | exact Nat.le_refl _ | (simp <;> omega))) | (with_reducible refine Below.allocW ?_ _) | (with_reducible refine Below.drew ?_) | (with_reducible refine Below.extW ?_ _))) hb5
  have s5 : w.heap.size ≤ w5.heap.size := B5.size
  go_wp2_with fail
  go_ret
  exact ⟨rfl, (by repeat (first | with_reducible exact Below.refl _ _ | with_reducible assumption | ((with_reducible refine Below.setCell ?_ ?_ _); rotate_left; · (first | omega | exact Nat.le_refl _ | (simp <;> omega))) | (with_reducible refine Below.allocW ?_ _) | (with_reducible refine Below.drew ?_) | (with_reducible refine Below.extW ?_ _)))⟩
set_option maxHeartbeats 1000000 in
theorem law_RankTells_yes (l K : Nat) (k : Int) (r : List Nd) (A : Option Addr) (cap : Nat) (y : Int) (w : World) (h : goodL l k K r) (hS : Sl w w.heap.size encN A r) (hI : ints r) :
    Calls Try.prog 4 #[loadedV l k K A r.length cap, .int .i64 y] w fun e w' => e = .returned (.bool true) ∧ Below w.heap.size w w' := by
  have hn : r.length ≤ 67108864 := by have := h.1; omega
  have hr := (goodL_parts h.2.2).1
  have hf := right_fits hr
  have HC := Lib.hid (law16_Load · l K k A cap r h · hI)
  have HS := Lib.hid hS
  have HR := Lib.hid hr
  have HF := Lib.hid hf
  have hs0 := sumR_nonneg hf.1.roll
  have hs1 := hf.1.sum
  have hdg := goodL_dig h.2.2
  simp only [isDig, Bool.and_eq_true, decide_eq_true_eq] at hdg
  have hk1 := hdg.2.1
  have hk2 := hdg.2.2
  clear h hS hr hf hdg
  unfold loadedV refDig at HC
  unfold loadedV
  go_enter Try.func4, Try.ntmps4
  go_wp2_with fail
  refine (rank_Low_nil _ y).mono ?_
  rintro e w1 ⟨rfl, hb1⟩
  have B1 : Below w.heap.size w w1 := Below.then_ (by repeat (first | with_reducible exact Below.refl _ _ | with_reducible assumption | ((with_reducible refine Below.setCell ?_ ?_ _); rotate_left; · (first | omega | exact Nat.le_refl _ | (simp <;> omega))) | (with_reducible refine Below.allocW ?_ _) | (with_reducible refine Below.drew ?_) | (with_reducible refine Below.extW ?_ _))) hb1
  have s1 : w.heap.size ≤ w1.heap.size := B1.size
  have z1_0 : w.heap.size < w1.heap.size := by have := hb1.size; (try simp at this); omega
  have y1_0 : w.heap.size ≤ w1.heap.size := Nat.le_of_lt z1_0
  have c1_0 := fun o => hb1.cell (p := ⟨w.heap.size, o, none⟩) (by first | omega | (simp <;> omega))
  have f1_0 := fun o => hb1.frozen (p := ⟨w.heap.size, o, none⟩) (by first | omega | (simp <;> omega))
  go_wp2_with fail
  refine (rank_High_nil _ y).mono ?_
  rintro e w2 ⟨rfl, hb2⟩
  have B2 : Below w.heap.size w w2 := Below.then_ (by repeat (first | with_reducible exact Below.refl _ _ | with_reducible assumption | ((with_reducible refine Below.setCell ?_ ?_ _); rotate_left; · (first | omega | exact Nat.le_refl _ | (simp <;> omega))) | (with_reducible refine Below.allocW ?_ _) | (with_reducible refine Below.drew ?_) | (with_reducible refine Below.extW ?_ _))) hb2
  have s2 : w.heap.size ≤ w2.heap.size := B2.size
  have z2_0 : w.heap.size < w2.heap.size := by have := hb2.size; (try simp at this); omega
  have y2_0 : w.heap.size ≤ w2.heap.size := Nat.le_of_lt z2_0
  have c2_0 := fun o => hb2.cell (p := ⟨w.heap.size, o, none⟩) (by first | omega | (simp <;> omega))
  have f2_0 := fun o => hb2.frozen (p := ⟨w.heap.size, o, none⟩) (by first | omega | (simp <;> omega))
  go_wp2_with fail
  refine (rank_Slack_nil _).mono ?_
  rintro e w3 ⟨rfl, hb3⟩
  have B3 : Below w.heap.size w w3 := Below.then_ (by repeat (first | with_reducible exact Below.refl _ _ | with_reducible assumption | ((with_reducible refine Below.setCell ?_ ?_ _); rotate_left; · (first | omega | exact Nat.le_refl _ | (simp <;> omega))) | (with_reducible refine Below.allocW ?_ _) | (with_reducible refine Below.drew ?_) | (with_reducible refine Below.extW ?_ _))) hb3
  have s3 : w.heap.size ≤ w3.heap.size := B3.size
  have z3_0 : w.heap.size < w3.heap.size := by have := hb3.size; (try simp at this); omega
  have y3_0 : w.heap.size ≤ w3.heap.size := Nat.le_of_lt z3_0
  have c3_0 := fun o => hb3.cell (p := ⟨w.heap.size, o, none⟩) (by first | omega | (simp <;> omega))
  have f3_0 := fun o => hb3.frozen (p := ⟨w.heap.size, o, none⟩) (by first | omega | (simp <;> omega))
  go_wp2_with fail
  refine (HC.out _ (HS.out.keep s3 fun p hp => B3.cell hp)).mono ?_
  rintro e w4 ⟨g, F, rfl, hD, _, hb4⟩
  have B4 : Below w.heap.size w w4 := Below.then_ (by repeat (first | with_reducible exact Below.refl _ _ | with_reducible assumption | ((with_reducible refine Below.setCell ?_ ?_ _); rotate_left; · (first | omega | exact Nat.le_refl _ | (simp <;> omega))) | (with_reducible refine Below.allocW ?_ _) | (with_reducible refine Below.drew ?_) | (with_reducible refine Below.extW ?_ _))) hb4
  have s4 : w.heap.size ≤ w4.heap.size := B4.size
  have z4_0 : w.heap.size < w4.heap.size := by have := hb4.size; (try simp at this); omega
  have y4_0 : w.heap.size ≤ w4.heap.size := Nat.le_of_lt z4_0
  have c4_0 := fun o => hb4.cell (p := ⟨w.heap.size, o, none⟩) (by first | omega | (simp <;> omega))
  have f4_0 := fun o => hb4.frozen (p := ⟨w.heap.size, o, none⟩) (by first | omega | (simp <;> omega))
  have hl := hD.l_le
  have KD := Lib.hid (hD.alloc (.cells #[.int .i64 k, .int .i64 l, .slice A r.length cap] 31))
  have S4 := Lib.hid (HS.out.keep (B' := (w4.alloc (.cells #[.int .i64 k, .int .i64 l, .slice A r.length cap] 31)).heap.size) (by simp; omega) fun p hp => (((B4.alloc s4 (.cells #[.int .i64 k, .int .i64 l, .slice A r.length cap] 31)).cell hp)))
  have HT : Hid (totalOf r = (sumR r, (totalOf r).2)) := Lib.hid (Prod.ext HF.out.2 rfl)
  have HSl : Hid (∀ W, Sl W W.heap.size encN A r → Calls Try.prog 14 #[.agg #[.int .i64 k, .int .i64 l, .slice A r.length cap]] W fun e w' => e = .returned (.int .i64 ((l : Int) * (sumR r / k))) ∧ Below W.heap.size W w') := Lib.hid fun W hW => by
    have := ref16_Slack W k l A cap r hW hI (by unfold maxLen; omega) (by rw [HF.out.2]; exact hs0) (by rw [HF.out.2]; exact hs1) hk1 hk2 hl.2
    rwa [HF.out.2] at this
  clear hD hl
  go_wp2_with fail
  refine wp_region_ext (by kernel_rfl) (by kernel_rfl) ?_
  repeat (go_big_quiet_step (first
    | (go_at_call 8; exact quiet_ext (rank_Low _ g K l k r F y (KD.out.below (ext_below _ _)) hn))
    | (go_at_call 9; exact quiet_ext (rank_High _ g K l k r F y (KD.out.below (ext_below _ _)) hn))
    | (go_at_call 11; exact quiet_ext (rank_Slack _ g K l k r F (KD.out.below (ext_below _ _))))
    | (go_at_call 12; exact quiet_ext (ref16_Low _ l A cap r y (S4.out.keep (ext_below _ _).size fun p hp => (ext_below _ _).cell hp) hI hn HF.out.1.roll hs1))
    | (go_at_call 13; exact quiet_ext (ref16_High _ l A cap r y (S4.out.keep (ext_below _ _).size fun p hp => (ext_below _ _).cell hp) hI hn HF.out.1.roll hs1))
    | (go_at_call 14; exact quiet_ext (HSl.out _ (S4.out.keep (ext_below _ _).size fun p hp => (ext_below _ _).cell hp)))
    | (go_at_call 7; exact quiet_ext (alive16 _))))
  refine wpQuiet_nil ?_
  intro w5 hb5
  replace hb5 := below_of_ext hb5
  have B5 : Below w.heap.size w w5 := Below.then_ (by repeat (first | with_reducible exact Below.refl _ _ | with_reducible assumption | ((with_reducible refine Below.setCell ?_ ?_ _); rotate_left; · (first | omega | exact Nat.le_refl _ | (simp <;> omega))) | (with_reducible refine Below.allocW ?_ _) | (with_reducible refine Below.drew ?_) | (with_reducible refine Below.extW ?_ _))) hb5
  have s5 : w.heap.size ≤ w5.heap.size := B5.size
  have z5_0 : w.heap.size < w5.heap.size := by have := hb5.size; (try simp at this); omega
  have y5_0 : w.heap.size ≤ w5.heap.size := Nat.le_of_lt z5_0
  have c5_0 := fun o => hb5.cell (p := ⟨w.heap.size, o, none⟩) (by first | omega | (simp <;> omega))
  have f5_0 := fun o => hb5.frozen (p := ⟨w.heap.size, o, none⟩) (by first | omega | (simp <;> omega))
  go_wp2_with fail
  go_ret
  exact ⟨rfl, (by repeat (first | with_reducible exact Below.refl _ _ | with_reducible assumption | ((with_reducible refine Below.setCell ?_ ?_ _); rotate_left; · (first | omega | exact Nat.le_refl _ | (simp <;> omega))) | (with_reducible refine Below.allocW ?_ _) | (with_reducible refine Below.drew ?_) | (with_reducible refine Below.extW ?_ _)))⟩
theorem law_RankTells (l k K : Int) (r : List Nd) (A : Option Addr) (cap : Nat) (y : Int) (W : World) (hS : Sl W W.heap.size encN A r) (hI : ints r) (_ : i64 l) (_ : i64 k) (_ : i64 K) (hm : r.length ≤ maxLen) (_ : (Lit.int .i64 y).wf = true) :
    Calls Try.prog 4 #[loadedV l k K A r.length cap, .int .i64 y] W fun e w' => e = .returned (.bool true) ∧ Below W.heap.size W w' := by
  by_cases h : goodL l k K r
  · obtain ⟨n, m, rfl, rfl⟩ := goodL_nat h.2.2
    exact law_RankTells_yes n m k r A cap y W h hS hI
  · exact law_RankTells_no l k K r A cap y W h hS hI hm
end Go.Proofs.Ytalnhdfgjjhhbaa
