/- The laws of chapter 4 return true. -/
import Derived.Test.YtldgiclbhpmppaaL04Alive
namespace Go.Proofs.Ytldgiclbhpmppaa
open Go.ChangeShapes Go.WideShapes Go.ChangeAt Go.RowKit
set_option linter.unusedVariables false
theorem ofV_cases (n m : Int) : ∃ a b c, ofV n m = .tuple #[.agg #[.int .i64 a, .int .i64 b], .bool c] := by
  unfold ofV
  split
  · exact ⟨_, _, _, rfl⟩
  · exact ⟨_, _, _, rfl⟩

theorem law_SampleExact (a0 a1 : Int) (w0 : (Lit.int .i64 a0).wf = true) (w1 : (Lit.int .i64 a1).wf = true) (w : World) :
    Calls Try.prog 3 #[.int .i64 a0, .int .i64 a1] w fun e w' => e = .returned (.bool true) ∧ Below w.heap.size w w' := by
  obtain ⟨x1, x2, x3, e1⟩ := ofV_cases a0 1
  obtain ⟨y1, y2, y3, e2⟩ := ofV_cases a1 1
  go_enter Try.func3, Try.ntmps3
  go_wp2_with fail
  refine (Of_int a0 _).mono ?_
  rintro e w1 ⟨rfl, hb1⟩
  have B1 : Below w.heap.size w w1 := Below.then_ (by repeat (first | exact Below.refl _ _ | assumption | refine Below.setCell ?_ (by first | omega | exact Nat.le_refl _ | (simp <;> omega)) _ | refine Below.allocW ?_ _ | refine Below.drew ?_ | refine Below.extW ?_ _)) hb1
  have s1 : w.heap.size ≤ w1.heap.size := B1.size
  rw [e1]
  go_wp2_with fail
  refine (sample_Exact a1 _).mono ?_
  rintro e w2 ⟨rfl, hb2⟩
  have B2 : Below w.heap.size w w2 := Below.then_ (by repeat (first | exact Below.refl _ _ | assumption | refine Below.setCell ?_ (by first | omega | exact Nat.le_refl _ | (simp <;> omega)) _ | refine Below.allocW ?_ _ | refine Below.drew ?_ | refine Below.extW ?_ _)) hb2
  have s2 : w.heap.size ≤ w2.heap.size := B2.size
  have z2_0 : w1.heap.size < w2.heap.size := by have := hb2.size; (try simp at this); omega
  have y2_0 : w1.heap.size ≤ w2.heap.size := Nat.le_of_lt z2_0
  have c2_0 := fun o => hb2.cell (p := ⟨w1.heap.size, o, none⟩) (by first | omega | (simp <;> omega))
  have f2_0 := fun o => hb2.frozen (p := ⟨w1.heap.size, o, none⟩) (by first | omega | (simp <;> omega))
  go_wp2_with fail
  refine (Of_int a1 _).mono ?_
  rintro e w3 ⟨rfl, hb3⟩
  have B3 : Below w.heap.size w w3 := Below.then_ (by repeat (first | exact Below.refl _ _ | assumption | refine Below.setCell ?_ (by first | omega | exact Nat.le_refl _ | (simp <;> omega)) _ | refine Below.allocW ?_ _ | refine Below.drew ?_ | refine Below.extW ?_ _)) hb3
  have s3 : w.heap.size ≤ w3.heap.size := B3.size
  have z3_0 : w1.heap.size < w3.heap.size := by have := hb3.size; (try simp at this); omega
  have y3_0 : w1.heap.size ≤ w3.heap.size := Nat.le_of_lt z3_0
  have c3_0 := fun o => hb3.cell (p := ⟨w1.heap.size, o, none⟩) (by first | omega | (simp <;> omega))
  have f3_0 := fun o => hb3.frozen (p := ⟨w1.heap.size, o, none⟩) (by first | omega | (simp <;> omega))
  rw [e2]
  go_wp2_with fail
  refine (ref4_Of a0 1 _).mono ?_
  rintro e w4 ⟨rfl, hb4⟩
  have B4 : Below w.heap.size w w4 := Below.then_ (by repeat (first | exact Below.refl _ _ | assumption | refine Below.setCell ?_ (by first | omega | exact Nat.le_refl _ | (simp <;> omega)) _ | refine Below.allocW ?_ _ | refine Below.drew ?_ | refine Below.extW ?_ _)) hb4
  have s4 : w.heap.size ≤ w4.heap.size := B4.size
  have z4_0 : w1.heap.size < w4.heap.size := by have := hb4.size; (try simp at this); omega
  have y4_0 : w1.heap.size ≤ w4.heap.size := Nat.le_of_lt z4_0
  have c4_0 := fun o => hb4.cell (p := ⟨w1.heap.size, o, none⟩) (by first | omega | (simp <;> omega))
  have f4_0 := fun o => hb4.frozen (p := ⟨w1.heap.size, o, none⟩) (by first | omega | (simp <;> omega))
  have z4_1 : w3.heap.size < w4.heap.size := by have := hb4.size; (try simp at this); omega
  have y4_1 : w3.heap.size ≤ w4.heap.size := Nat.le_of_lt z4_1
  have c4_1 := fun o => hb4.cell (p := ⟨w3.heap.size, o, none⟩) (by first | omega | (simp <;> omega))
  have f4_1 := fun o => hb4.frozen (p := ⟨w3.heap.size, o, none⟩) (by first | omega | (simp <;> omega))
  rw [e1]
  go_wp2_with fail
  refine (ref4_Of a1 1 _).mono ?_
  rintro e w5 ⟨rfl, hb5⟩
  have B5 : Below w.heap.size w w5 := Below.then_ (by repeat (first | exact Below.refl _ _ | assumption | refine Below.setCell ?_ (by first | omega | exact Nat.le_refl _ | (simp <;> omega)) _ | refine Below.allocW ?_ _ | refine Below.drew ?_ | refine Below.extW ?_ _)) hb5
  have s5 : w.heap.size ≤ w5.heap.size := B5.size
  have z5_0 : w1.heap.size < w5.heap.size := by have := hb5.size; (try simp at this); omega
  have y5_0 : w1.heap.size ≤ w5.heap.size := Nat.le_of_lt z5_0
  have c5_0 := fun o => hb5.cell (p := ⟨w1.heap.size, o, none⟩) (by first | omega | (simp <;> omega))
  have f5_0 := fun o => hb5.frozen (p := ⟨w1.heap.size, o, none⟩) (by first | omega | (simp <;> omega))
  have z5_1 : w3.heap.size < w5.heap.size := by have := hb5.size; (try simp at this); omega
  have y5_1 : w3.heap.size ≤ w5.heap.size := Nat.le_of_lt z5_1
  have c5_1 := fun o => hb5.cell (p := ⟨w3.heap.size, o, none⟩) (by first | omega | (simp <;> omega))
  have f5_1 := fun o => hb5.frozen (p := ⟨w3.heap.size, o, none⟩) (by first | omega | (simp <;> omega))
  have z5_2 : w4.heap.size < w5.heap.size := by have := hb5.size; (try simp at this); omega
  have y5_2 : w4.heap.size ≤ w5.heap.size := Nat.le_of_lt z5_2
  have c5_2 := fun o => hb5.cell (p := ⟨w4.heap.size, o, none⟩) (by first | omega | (simp <;> omega))
  have f5_2 := fun o => hb5.frozen (p := ⟨w4.heap.size, o, none⟩) (by first | omega | (simp <;> omega))
  rw [e2]
  go_wp2_with fail
  refine (sample_Exact a0 _).mono ?_
  rintro e w6 ⟨rfl, hb6⟩
  have B6 : Below w.heap.size w w6 := Below.then_ (by repeat (first | exact Below.refl _ _ | assumption | refine Below.setCell ?_ (by first | omega | exact Nat.le_refl _ | (simp <;> omega)) _ | refine Below.allocW ?_ _ | refine Below.drew ?_ | refine Below.extW ?_ _)) hb6
  have s6 : w.heap.size ≤ w6.heap.size := B6.size
  have z6_0 : w1.heap.size < w6.heap.size := by have := hb6.size; (try simp at this); omega
  have y6_0 : w1.heap.size ≤ w6.heap.size := Nat.le_of_lt z6_0
  have c6_0 := fun o => hb6.cell (p := ⟨w1.heap.size, o, none⟩) (by first | omega | (simp <;> omega))
  have f6_0 := fun o => hb6.frozen (p := ⟨w1.heap.size, o, none⟩) (by first | omega | (simp <;> omega))
  have z6_1 : w3.heap.size < w6.heap.size := by have := hb6.size; (try simp at this); omega
  have y6_1 : w3.heap.size ≤ w6.heap.size := Nat.le_of_lt z6_1
  have c6_1 := fun o => hb6.cell (p := ⟨w3.heap.size, o, none⟩) (by first | omega | (simp <;> omega))
  have f6_1 := fun o => hb6.frozen (p := ⟨w3.heap.size, o, none⟩) (by first | omega | (simp <;> omega))
  have z6_2 : w4.heap.size < w6.heap.size := by have := hb6.size; (try simp at this); omega
  have y6_2 : w4.heap.size ≤ w6.heap.size := Nat.le_of_lt z6_2
  have c6_2 := fun o => hb6.cell (p := ⟨w4.heap.size, o, none⟩) (by first | omega | (simp <;> omega))
  have f6_2 := fun o => hb6.frozen (p := ⟨w4.heap.size, o, none⟩) (by first | omega | (simp <;> omega))
  have z6_3 : w5.heap.size < w6.heap.size := by have := hb6.size; (try simp at this); omega
  have y6_3 : w5.heap.size ≤ w6.heap.size := Nat.le_of_lt z6_3
  have c6_3 := fun o => hb6.cell (p := ⟨w5.heap.size, o, none⟩) (by first | omega | (simp <;> omega))
  have f6_3 := fun o => hb6.frozen (p := ⟨w5.heap.size, o, none⟩) (by first | omega | (simp <;> omega))
  go_wp2_with fail
  refine (sample_Exact a1 _).mono ?_
  rintro e w7 ⟨rfl, hb7⟩
  have B7 : Below w.heap.size w w7 := Below.then_ (by repeat (first | exact Below.refl _ _ | assumption | refine Below.setCell ?_ (by first | omega | exact Nat.le_refl _ | (simp <;> omega)) _ | refine Below.allocW ?_ _ | refine Below.drew ?_ | refine Below.extW ?_ _)) hb7
  have s7 : w.heap.size ≤ w7.heap.size := B7.size
  have z7_0 : w1.heap.size < w7.heap.size := by have := hb7.size; (try simp at this); omega
  have y7_0 : w1.heap.size ≤ w7.heap.size := Nat.le_of_lt z7_0
  have c7_0 := fun o => hb7.cell (p := ⟨w1.heap.size, o, none⟩) (by first | omega | (simp <;> omega))
  have f7_0 := fun o => hb7.frozen (p := ⟨w1.heap.size, o, none⟩) (by first | omega | (simp <;> omega))
  have z7_1 : w3.heap.size < w7.heap.size := by have := hb7.size; (try simp at this); omega
  have y7_1 : w3.heap.size ≤ w7.heap.size := Nat.le_of_lt z7_1
  have c7_1 := fun o => hb7.cell (p := ⟨w3.heap.size, o, none⟩) (by first | omega | (simp <;> omega))
  have f7_1 := fun o => hb7.frozen (p := ⟨w3.heap.size, o, none⟩) (by first | omega | (simp <;> omega))
  have z7_2 : w4.heap.size < w7.heap.size := by have := hb7.size; (try simp at this); omega
  have y7_2 : w4.heap.size ≤ w7.heap.size := Nat.le_of_lt z7_2
  have c7_2 := fun o => hb7.cell (p := ⟨w4.heap.size, o, none⟩) (by first | omega | (simp <;> omega))
  have f7_2 := fun o => hb7.frozen (p := ⟨w4.heap.size, o, none⟩) (by first | omega | (simp <;> omega))
  have z7_3 : w5.heap.size < w7.heap.size := by have := hb7.size; (try simp at this); omega
  have y7_3 : w5.heap.size ≤ w7.heap.size := Nat.le_of_lt z7_3
  have c7_3 := fun o => hb7.cell (p := ⟨w5.heap.size, o, none⟩) (by first | omega | (simp <;> omega))
  have f7_3 := fun o => hb7.frozen (p := ⟨w5.heap.size, o, none⟩) (by first | omega | (simp <;> omega))
  go_wp2_with fail
  refine (alive4 _).mono ?_
  rintro e w8 ⟨rfl, hb8⟩
  have B8 : Below w.heap.size w w8 := Below.then_ (by repeat (first | exact Below.refl _ _ | assumption | refine Below.setCell ?_ (by first | omega | exact Nat.le_refl _ | (simp <;> omega)) _ | refine Below.allocW ?_ _ | refine Below.drew ?_ | refine Below.extW ?_ _)) hb8
  have s8 : w.heap.size ≤ w8.heap.size := B8.size
  go_wp2_with fail
  go_ret
  exact ⟨rfl, (by repeat (first | exact Below.refl _ _ | assumption | refine Below.setCell ?_ (by first | omega | exact Nat.le_refl _ | (simp <;> omega)) _ | refine Below.allocW ?_ _ | refine Below.drew ?_ | refine Below.extW ?_ _))⟩

theorem law_SampleNumbers (a0 a1 : Int) (w0 : (Lit.int .i64 a0).wf = true) (w1 : (Lit.int .i64 a1).wf = true) (w : World) :
    Calls Try.prog 6 #[.int .i64 a0, .int .i64 a1] w fun e w' => e = .returned (.bool true) ∧ Below w.heap.size w w' := by
  obtain ⟨x1, x2, x3, e1⟩ := ofV_cases a0 1
  obtain ⟨y1, y2, y3, e2⟩ := ofV_cases a0 a1
  go_enter Try.func6, Try.ntmps6
  go_wp2_with fail
  refine (Of_int a0 _).mono ?_
  rintro e w1 ⟨rfl, hb1⟩
  have B1 : Below w.heap.size w w1 := Below.then_ (by repeat (first | exact Below.refl _ _ | assumption | refine Below.setCell ?_ (by first | omega | exact Nat.le_refl _ | (simp <;> omega)) _ | refine Below.allocW ?_ _ | refine Below.drew ?_ | refine Below.extW ?_ _)) hb1
  have s1 : w.heap.size ≤ w1.heap.size := B1.size
  rw [e1]
  go_wp2_with fail
  refine (ref4_Of a0 1 _).mono ?_
  rintro e w2 ⟨rfl, hb2⟩
  have B2 : Below w.heap.size w w2 := Below.then_ (by repeat (first | exact Below.refl _ _ | assumption | refine Below.setCell ?_ (by first | omega | exact Nat.le_refl _ | (simp <;> omega)) _ | refine Below.allocW ?_ _ | refine Below.drew ?_ | refine Below.extW ?_ _)) hb2
  have s2 : w.heap.size ≤ w2.heap.size := B2.size
  have z2_0 : w1.heap.size < w2.heap.size := by have := hb2.size; (try simp at this); omega
  have y2_0 : w1.heap.size ≤ w2.heap.size := Nat.le_of_lt z2_0
  have c2_0 := fun o => hb2.cell (p := ⟨w1.heap.size, o, none⟩) (by first | omega | (simp <;> omega))
  have f2_0 := fun o => hb2.frozen (p := ⟨w1.heap.size, o, none⟩) (by first | omega | (simp <;> omega))
  rw [e1]
  go_wp2_with fail
  refine (Of_pair a0 a1 _).mono ?_
  rintro e w3 ⟨rfl, hb3⟩
  have B3 : Below w.heap.size w w3 := Below.then_ (by repeat (first | exact Below.refl _ _ | assumption | refine Below.setCell ?_ (by first | omega | exact Nat.le_refl _ | (simp <;> omega)) _ | refine Below.allocW ?_ _ | refine Below.drew ?_ | refine Below.extW ?_ _)) hb3
  have s3 : w.heap.size ≤ w3.heap.size := B3.size
  have z3_0 : w1.heap.size < w3.heap.size := by have := hb3.size; (try simp at this); omega
  have y3_0 : w1.heap.size ≤ w3.heap.size := Nat.le_of_lt z3_0
  have c3_0 := fun o => hb3.cell (p := ⟨w1.heap.size, o, none⟩) (by first | omega | (simp <;> omega))
  have f3_0 := fun o => hb3.frozen (p := ⟨w1.heap.size, o, none⟩) (by first | omega | (simp <;> omega))
  have z3_1 : w2.heap.size < w3.heap.size := by have := hb3.size; (try simp at this); omega
  have y3_1 : w2.heap.size ≤ w3.heap.size := Nat.le_of_lt z3_1
  have c3_1 := fun o => hb3.cell (p := ⟨w2.heap.size, o, none⟩) (by first | omega | (simp <;> omega))
  have f3_1 := fun o => hb3.frozen (p := ⟨w2.heap.size, o, none⟩) (by first | omega | (simp <;> omega))
  rw [e2]
  go_wp2_with fail
  refine (ref4_Of a0 a1 _).mono ?_
  rintro e w4 ⟨rfl, hb4⟩
  have B4 : Below w.heap.size w w4 := Below.then_ (by repeat (first | exact Below.refl _ _ | assumption | refine Below.setCell ?_ (by first | omega | exact Nat.le_refl _ | (simp <;> omega)) _ | refine Below.allocW ?_ _ | refine Below.drew ?_ | refine Below.extW ?_ _)) hb4
  have s4 : w.heap.size ≤ w4.heap.size := B4.size
  have z4_0 : w1.heap.size < w4.heap.size := by have := hb4.size; (try simp at this); omega
  have y4_0 : w1.heap.size ≤ w4.heap.size := Nat.le_of_lt z4_0
  have c4_0 := fun o => hb4.cell (p := ⟨w1.heap.size, o, none⟩) (by first | omega | (simp <;> omega))
  have f4_0 := fun o => hb4.frozen (p := ⟨w1.heap.size, o, none⟩) (by first | omega | (simp <;> omega))
  have z4_1 : w2.heap.size < w4.heap.size := by have := hb4.size; (try simp at this); omega
  have y4_1 : w2.heap.size ≤ w4.heap.size := Nat.le_of_lt z4_1
  have c4_1 := fun o => hb4.cell (p := ⟨w2.heap.size, o, none⟩) (by first | omega | (simp <;> omega))
  have f4_1 := fun o => hb4.frozen (p := ⟨w2.heap.size, o, none⟩) (by first | omega | (simp <;> omega))
  have z4_2 : w3.heap.size < w4.heap.size := by have := hb4.size; (try simp at this); omega
  have y4_2 : w3.heap.size ≤ w4.heap.size := Nat.le_of_lt z4_2
  have c4_2 := fun o => hb4.cell (p := ⟨w3.heap.size, o, none⟩) (by first | omega | (simp <;> omega))
  have f4_2 := fun o => hb4.frozen (p := ⟨w3.heap.size, o, none⟩) (by first | omega | (simp <;> omega))
  rw [e2]
  go_wp2_with fail
  refine (Of_whole a0 a1 _).mono ?_
  rintro e w5 ⟨rfl, hb5⟩
  have B5 : Below w.heap.size w w5 := Below.then_ (by repeat (first | exact Below.refl _ _ | assumption | refine Below.setCell ?_ (by first | omega | exact Nat.le_refl _ | (simp <;> omega)) _ | refine Below.allocW ?_ _ | refine Below.drew ?_ | refine Below.extW ?_ _)) hb5
  have s5 : w.heap.size ≤ w5.heap.size := B5.size
  have z5_0 : w1.heap.size < w5.heap.size := by have := hb5.size; (try simp at this); omega
  have y5_0 : w1.heap.size ≤ w5.heap.size := Nat.le_of_lt z5_0
  have c5_0 := fun o => hb5.cell (p := ⟨w1.heap.size, o, none⟩) (by first | omega | (simp <;> omega))
  have f5_0 := fun o => hb5.frozen (p := ⟨w1.heap.size, o, none⟩) (by first | omega | (simp <;> omega))
  have z5_1 : w2.heap.size < w5.heap.size := by have := hb5.size; (try simp at this); omega
  have y5_1 : w2.heap.size ≤ w5.heap.size := Nat.le_of_lt z5_1
  have c5_1 := fun o => hb5.cell (p := ⟨w2.heap.size, o, none⟩) (by first | omega | (simp <;> omega))
  have f5_1 := fun o => hb5.frozen (p := ⟨w2.heap.size, o, none⟩) (by first | omega | (simp <;> omega))
  have z5_2 : w3.heap.size < w5.heap.size := by have := hb5.size; (try simp at this); omega
  have y5_2 : w3.heap.size ≤ w5.heap.size := Nat.le_of_lt z5_2
  have c5_2 := fun o => hb5.cell (p := ⟨w3.heap.size, o, none⟩) (by first | omega | (simp <;> omega))
  have f5_2 := fun o => hb5.frozen (p := ⟨w3.heap.size, o, none⟩) (by first | omega | (simp <;> omega))
  have z5_3 : w4.heap.size < w5.heap.size := by have := hb5.size; (try simp at this); omega
  have y5_3 : w4.heap.size ≤ w5.heap.size := Nat.le_of_lt z5_3
  have c5_3 := fun o => hb5.cell (p := ⟨w4.heap.size, o, none⟩) (by first | omega | (simp <;> omega))
  have f5_3 := fun o => hb5.frozen (p := ⟨w4.heap.size, o, none⟩) (by first | omega | (simp <;> omega))
  rw [e2]
  go_wp2_with fail
  refine (kind_int a0 _).mono ?_
  rintro e w6 ⟨rfl, hb6⟩
  have B6 : Below w.heap.size w w6 := Below.then_ (by repeat (first | exact Below.refl _ _ | assumption | refine Below.setCell ?_ (by first | omega | exact Nat.le_refl _ | (simp <;> omega)) _ | refine Below.allocW ?_ _ | refine Below.drew ?_ | refine Below.extW ?_ _)) hb6
  have s6 : w.heap.size ≤ w6.heap.size := B6.size
  have z6_0 : w1.heap.size < w6.heap.size := by have := hb6.size; (try simp at this); omega
  have y6_0 : w1.heap.size ≤ w6.heap.size := Nat.le_of_lt z6_0
  have c6_0 := fun o => hb6.cell (p := ⟨w1.heap.size, o, none⟩) (by first | omega | (simp <;> omega))
  have f6_0 := fun o => hb6.frozen (p := ⟨w1.heap.size, o, none⟩) (by first | omega | (simp <;> omega))
  have z6_1 : w2.heap.size < w6.heap.size := by have := hb6.size; (try simp at this); omega
  have y6_1 : w2.heap.size ≤ w6.heap.size := Nat.le_of_lt z6_1
  have c6_1 := fun o => hb6.cell (p := ⟨w2.heap.size, o, none⟩) (by first | omega | (simp <;> omega))
  have f6_1 := fun o => hb6.frozen (p := ⟨w2.heap.size, o, none⟩) (by first | omega | (simp <;> omega))
  have z6_2 : w3.heap.size < w6.heap.size := by have := hb6.size; (try simp at this); omega
  have y6_2 : w3.heap.size ≤ w6.heap.size := Nat.le_of_lt z6_2
  have c6_2 := fun o => hb6.cell (p := ⟨w3.heap.size, o, none⟩) (by first | omega | (simp <;> omega))
  have f6_2 := fun o => hb6.frozen (p := ⟨w3.heap.size, o, none⟩) (by first | omega | (simp <;> omega))
  have z6_3 : w4.heap.size < w6.heap.size := by have := hb6.size; (try simp at this); omega
  have y6_3 : w4.heap.size ≤ w6.heap.size := Nat.le_of_lt z6_3
  have c6_3 := fun o => hb6.cell (p := ⟨w4.heap.size, o, none⟩) (by first | omega | (simp <;> omega))
  have f6_3 := fun o => hb6.frozen (p := ⟨w4.heap.size, o, none⟩) (by first | omega | (simp <;> omega))
  go_wp2_with fail
  refine (kind_pair a0 a1 _).mono ?_
  rintro e w7 ⟨rfl, hb7⟩
  have B7 : Below w.heap.size w w7 := Below.then_ (by repeat (first | exact Below.refl _ _ | assumption | refine Below.setCell ?_ (by first | omega | exact Nat.le_refl _ | (simp <;> omega)) _ | refine Below.allocW ?_ _ | refine Below.drew ?_ | refine Below.extW ?_ _)) hb7
  have s7 : w.heap.size ≤ w7.heap.size := B7.size
  go_wp2_with fail
  refine (alive4 _).mono ?_
  rintro e w8 ⟨rfl, hb8⟩
  have B8 : Below w.heap.size w w8 := Below.then_ (by repeat (first | exact Below.refl _ _ | assumption | refine Below.setCell ?_ (by first | omega | exact Nat.le_refl _ | (simp <;> omega)) _ | refine Below.allocW ?_ _ | refine Below.drew ?_ | refine Below.extW ?_ _)) hb8
  have s8 : w.heap.size ≤ w8.heap.size := B8.size
  go_wp2_with fail
  go_ret
  exact ⟨rfl, (by repeat (first | exact Below.refl _ _ | assumption | refine Below.setCell ?_ (by first | omega | exact Nat.le_refl _ | (simp <;> omega)) _ | refine Below.allocW ?_ _ | refine Below.drew ?_ | refine Below.extW ?_ _))⟩

theorem law_SamplePacks (v u : Int) (wv : (Lit.int .i64 v).wf = true) (wu : (Lit.int .i64 u).wf = true) (w : World) :
    Calls Try.prog 4 #[.agg #[.int .i64 v, .int .i64 u]] w fun e w' => e = .returned (.bool true) ∧ Below w.heap.size w w' := by
  by_cases h : rightB v u = true ∧ u ≤ 9007199254740992
  · obtain ⟨hr, hu⟩ := h
    have hp := rightB_pos hr
    have e1 : packV v u = .tuple #[.complex .f64 (floatOfInt .f64 v) (floatOfInt .f64 u), .bool true] := by simp [packV, hr, hu]
    have e2 : pack4V v u = .tuple #[.agg #[.float .f64 (floatOfInt .f64 v), .float .f64 (floatOfInt .f64 u)], .bool true] := by simp [pack4V, hr, hu]
    have e3 : ofV v u = .tuple #[.agg #[.int .i64 v, .int .i64 u], .bool true] := by simp [ofV, hr]
    have W1 := isWhole_of v.toNat (by omega)
    have W2 := isWhole_of u.toNat (by omega)
    rw [Int.toNat_of_nonneg (by omega)] at W1 W2
    have q1 := W1.eq
    have q2 := W2.eq
    go_enter Try.func4, Try.ntmps4
    go_wp2_with fail
    refine (sample_Pack v u _).mono ?_
    rintro e w1 ⟨rfl, hb1⟩
    have B1 : Below w.heap.size w w1 := Below.then_ (by repeat (first | exact Below.refl _ _ | assumption | refine Below.setCell ?_ (by first | omega | exact Nat.le_refl _ | (simp <;> omega)) _ | refine Below.allocW ?_ _ | refine Below.drew ?_ | refine Below.extW ?_ _)) hb1
    have s1 : w.heap.size ≤ w1.heap.size := B1.size
    have z1_0 : w.heap.size < w1.heap.size := by have := hb1.size; (try simp at this); omega
    have y1_0 : w.heap.size ≤ w1.heap.size := Nat.le_of_lt z1_0
    have c1_0 := fun o => hb1.cell (p := ⟨w.heap.size, o, none⟩) (by first | omega | (simp <;> omega))
    have f1_0 := fun o => hb1.frozen (p := ⟨w.heap.size, o, none⟩) (by first | omega | (simp <;> omega))
    rw [e1]
    go_wp2_with fail
    refine (ref4_Pack v u _).mono ?_
    rintro e w2 ⟨rfl, hb2⟩
    have B2 : Below w.heap.size w w2 := Below.then_ (by repeat (first | exact Below.refl _ _ | assumption | refine Below.setCell ?_ (by first | omega | exact Nat.le_refl _ | (simp <;> omega)) _ | refine Below.allocW ?_ _ | refine Below.drew ?_ | refine Below.extW ?_ _)) hb2
    have s2 : w.heap.size ≤ w2.heap.size := B2.size
    have z2_0 : w.heap.size < w2.heap.size := by have := hb2.size; (try simp at this); omega
    have y2_0 : w.heap.size ≤ w2.heap.size := Nat.le_of_lt z2_0
    have c2_0 := fun o => hb2.cell (p := ⟨w.heap.size, o, none⟩) (by first | omega | (simp <;> omega))
    have f2_0 := fun o => hb2.frozen (p := ⟨w.heap.size, o, none⟩) (by first | omega | (simp <;> omega))
    rw [e2]
    go_wp2_with fail
    refine wp_region_ext (by kernel_rfl) (by kernel_rfl) ?_
    repeat (go_big_quiet_step (first | (go_at_call 14; exact quiet_ext (sample_Right v u _)) | (go_at_call 15; exact quiet_ext (ref4_Right v u _))))
    refine wpQuiet_nil ?_
    intro w3 hb3
    replace hb3 := below_of_ext hb3
    have B3 : Below w.heap.size w w3 := Below.then_ (by repeat (first | exact Below.refl _ _ | assumption | refine Below.setCell ?_ (by first | omega | exact Nat.le_refl _ | (simp <;> omega)) _ | refine Below.allocW ?_ _ | refine Below.drew ?_ | refine Below.extW ?_ _)) hb3
    have s3 : w.heap.size ≤ w3.heap.size := B3.size
    have z3_0 : w.heap.size < w3.heap.size := by have := hb3.size; (try simp at this); omega
    have y3_0 : w.heap.size ≤ w3.heap.size := Nat.le_of_lt z3_0
    have c3_0 := fun o => hb3.cell (p := ⟨w.heap.size, o, none⟩) (by first | omega | (simp <;> omega))
    have f3_0 := fun o => hb3.frozen (p := ⟨w.heap.size, o, none⟩) (by first | omega | (simp <;> omega))
    go_wp2_with fail
    refine (Of_cplx _ _ v u W1 W2 _).mono ?_
    rintro e w4 ⟨rfl, hb4⟩
    have B4 : Below w.heap.size w w4 := Below.then_ (by repeat (first | exact Below.refl _ _ | assumption | refine Below.setCell ?_ (by first | omega | exact Nat.le_refl _ | (simp <;> omega)) _ | refine Below.allocW ?_ _ | refine Below.drew ?_ | refine Below.extW ?_ _)) hb4
    have s4 : w.heap.size ≤ w4.heap.size := B4.size
    have z4_0 : w.heap.size < w4.heap.size := by have := hb4.size; (try simp at this); omega
    have y4_0 : w.heap.size ≤ w4.heap.size := Nat.le_of_lt z4_0
    have c4_0 := fun o => hb4.cell (p := ⟨w.heap.size, o, none⟩) (by first | omega | (simp <;> omega))
    have f4_0 := fun o => hb4.frozen (p := ⟨w.heap.size, o, none⟩) (by first | omega | (simp <;> omega))
    rw [e3]
    go_wp2_with fail
    refine (alive4 _).mono ?_
    rintro e w5 ⟨rfl, hb5⟩
    have B5 : Below w.heap.size w w5 := Below.then_ (by repeat (first | exact Below.refl _ _ | assumption | refine Below.setCell ?_ (by first | omega | exact Nat.le_refl _ | (simp <;> omega)) _ | refine Below.allocW ?_ _ | refine Below.drew ?_ | refine Below.extW ?_ _)) hb5
    have s5 : w.heap.size ≤ w5.heap.size := B5.size
    go_wp2_with fail
    go_ret
    exact ⟨rfl, (by repeat (first | exact Below.refl _ _ | assumption | refine Below.setCell ?_ (by first | omega | exact Nat.le_refl _ | (simp <;> omega)) _ | refine Below.allocW ?_ _ | refine Below.drew ?_ | refine Below.extW ?_ _))⟩
  · have e1 : packV v u = .tuple #[.complex .f64 0 0, .bool false] := by simp only [packV]; rw [if_neg h]
    have e2 : pack4V v u = .tuple #[.agg #[.float .f64 0, .float .f64 0], .bool false] := by simp only [pack4V]; rw [if_neg h]
    have W0 := isWhole_of 0 (by omega)
    have e0 : floatOfInt .f64 ((0 : Nat) : Int) = 0 := by decide
    rw [e0] at W0
    have q1 := W0.eq
    obtain ⟨x1, x2, x3, e3⟩ := ofV_cases 0 0
    have q2 : (FloatKind.f64.format.order 0 0 == some .eq) = true := by decide
    go_enter Try.func4, Try.ntmps4
    go_wp2_with fail
    refine (sample_Pack v u _).mono ?_
    rintro e w1 ⟨rfl, hb1⟩
    have B1 : Below w.heap.size w w1 := Below.then_ (by repeat (first | exact Below.refl _ _ | assumption | refine Below.setCell ?_ (by first | omega | exact Nat.le_refl _ | (simp <;> omega)) _ | refine Below.allocW ?_ _ | refine Below.drew ?_ | refine Below.extW ?_ _)) hb1
    have s1 : w.heap.size ≤ w1.heap.size := B1.size
    have z1_0 : w.heap.size < w1.heap.size := by have := hb1.size; (try simp at this); omega
    have y1_0 : w.heap.size ≤ w1.heap.size := Nat.le_of_lt z1_0
    have c1_0 := fun o => hb1.cell (p := ⟨w.heap.size, o, none⟩) (by first | omega | (simp <;> omega))
    have f1_0 := fun o => hb1.frozen (p := ⟨w.heap.size, o, none⟩) (by first | omega | (simp <;> omega))
    rw [e1]
    go_wp2_with fail
    refine (ref4_Pack v u _).mono ?_
    rintro e w2 ⟨rfl, hb2⟩
    have B2 : Below w.heap.size w w2 := Below.then_ (by repeat (first | exact Below.refl _ _ | assumption | refine Below.setCell ?_ (by first | omega | exact Nat.le_refl _ | (simp <;> omega)) _ | refine Below.allocW ?_ _ | refine Below.drew ?_ | refine Below.extW ?_ _)) hb2
    have s2 : w.heap.size ≤ w2.heap.size := B2.size
    have z2_0 : w.heap.size < w2.heap.size := by have := hb2.size; (try simp at this); omega
    have y2_0 : w.heap.size ≤ w2.heap.size := Nat.le_of_lt z2_0
    have c2_0 := fun o => hb2.cell (p := ⟨w.heap.size, o, none⟩) (by first | omega | (simp <;> omega))
    have f2_0 := fun o => hb2.frozen (p := ⟨w.heap.size, o, none⟩) (by first | omega | (simp <;> omega))
    rw [e2]
    go_wp2_with fail
    refine wp_region_ext (by kernel_rfl) (by kernel_rfl) ?_
    repeat (go_big_quiet_step (first | (go_at_call 14; exact quiet_ext (sample_Right v u _)) | (go_at_call 15; exact quiet_ext (ref4_Right v u _))))
    refine wpQuiet_nil ?_
    intro w3 hb3
    replace hb3 := below_of_ext hb3
    have B3 : Below w.heap.size w w3 := Below.then_ (by repeat (first | exact Below.refl _ _ | assumption | refine Below.setCell ?_ (by first | omega | exact Nat.le_refl _ | (simp <;> omega)) _ | refine Below.allocW ?_ _ | refine Below.drew ?_ | refine Below.extW ?_ _)) hb3
    have s3 : w.heap.size ≤ w3.heap.size := B3.size
    have z3_0 : w.heap.size < w3.heap.size := by have := hb3.size; (try simp at this); omega
    have y3_0 : w.heap.size ≤ w3.heap.size := Nat.le_of_lt z3_0
    have c3_0 := fun o => hb3.cell (p := ⟨w.heap.size, o, none⟩) (by first | omega | (simp <;> omega))
    have f3_0 := fun o => hb3.frozen (p := ⟨w.heap.size, o, none⟩) (by first | omega | (simp <;> omega))
    go_wp2_with fail
    refine (Of_cplx _ _ 0 0 W0 W0 _).mono ?_
    rintro e w4 ⟨rfl, hb4⟩
    have B4 : Below w.heap.size w w4 := Below.then_ (by repeat (first | exact Below.refl _ _ | assumption | refine Below.setCell ?_ (by first | omega | exact Nat.le_refl _ | (simp <;> omega)) _ | refine Below.allocW ?_ _ | refine Below.drew ?_ | refine Below.extW ?_ _)) hb4
    have s4 : w.heap.size ≤ w4.heap.size := B4.size
    have z4_0 : w.heap.size < w4.heap.size := by have := hb4.size; (try simp at this); omega
    have y4_0 : w.heap.size ≤ w4.heap.size := Nat.le_of_lt z4_0
    have c4_0 := fun o => hb4.cell (p := ⟨w.heap.size, o, none⟩) (by first | omega | (simp <;> omega))
    have f4_0 := fun o => hb4.frozen (p := ⟨w.heap.size, o, none⟩) (by first | omega | (simp <;> omega))
    rw [ofV_zero]
    go_wp2_with fail
    refine (alive4 _).mono ?_
    rintro e w5 ⟨rfl, hb5⟩
    have B5 : Below w.heap.size w w5 := Below.then_ (by repeat (first | exact Below.refl _ _ | assumption | refine Below.setCell ?_ (by first | omega | exact Nat.le_refl _ | (simp <;> omega)) _ | refine Below.allocW ?_ _ | refine Below.drew ?_ | refine Below.extW ?_ _)) hb5
    have s5 : w.heap.size ≤ w5.heap.size := B5.size
    go_wp2_with fail
    go_ret
    exact ⟨rfl, (by repeat (first | exact Below.refl _ _ | assumption | refine Below.setCell ?_ (by first | omega | exact Nat.le_refl _ | (simp <;> omega)) _ | refine Below.allocW ?_ _ | refine Below.drew ?_ | refine Below.extW ?_ _))⟩

theorem law_SampleStrange (n : Int) (t : ByteArray) (f : Nat) (wn : (Lit.int .i64 n).wf = true) (wt : t.size ≤ maxLen) (wf : (Lit.float .f64 f).wf = true) (w : World) :
    Calls Try.prog 7 #[.int .i64 n, .string t, .float .f64 f] w fun e w' => e = .returned (.bool true) ∧ Below w.heap.size w w' := by
  rcases conv_c64 f with ⟨A, hc⟩ | ⟨A, B, hc⟩
  all_goals
    go_enter Try.func7, Try.ntmps7
    go_wp2_with fail
    go_loopw [36] (fun i wr => ∃ k : Nat, k ≤ 9 ∧ i = .int .i64 k ∧ Below w.heap.size w wr ∧ (∀ j, j < 9 → ∃ v, wr.cell? ⟨w.heap.size + 1 + 1, j, none⟩ = some v ∧ Strange v) ∧ w.heap.size + 1 + 1 < wr.heap.size) (fun i _ => 9 - (intOf i).toNat)
    case atStart =>
      refine ⟨0, by omega, rfl, (by repeat (first | exact Below.refl _ _ | assumption | refine Below.setCell ?_ (by first | omega | exact Nat.le_refl _ | (simp <;> omega)) _ | refine Below.allocW ?_ _ | refine Below.drew ?_ | refine Below.extW ?_ _)), fun j hj => ?_, by simp⟩
      refine strange_cells ((w.alloc _).alloc _) _ _ _ _ (by simp) rfl ?_ j ?_
      rotate_left
      · exact hj
      intro v hv
      simp only [List.mem_cons, List.not_mem_nil, or_false] at hv
      rcases hv with rfl | rfl | rfl | rfl | rfl | rfl | rfl | rfl | rfl
      · exact .inl rfl
      all_goals exact strange_of _ _ rfl
    case round =>
      obtain ⟨k, hk, rfl, hB, hcs, hz⟩ := hrel
      by_cases hlt : k < 9
      · obtain ⟨v, hv, hs⟩ := hcs k hlt
        have Hs := Lib.hid hs
        clear hs
        go_wp2_with fail
        refine (Of_strange v Hs.out _).mono ?_
        rintro e w1 ⟨rfl, hb1⟩
        have B1 : Below w.heap.size w w1 := Below.then_ (by repeat (first | exact Below.refl _ _ | assumption | refine Below.setCell ?_ (by first | omega | exact Nat.le_refl _ | (simp <;> omega)) _ | refine Below.allocW ?_ _ | refine Below.drew ?_ | refine Below.extW ?_ _)) hb1
        have s1 : w.heap.size ≤ w1.heap.size := B1.size
        go_wp2_with fail
        refine (kind_strange v Hs.out _).mono ?_
        rintro e w2 ⟨rfl, hb2⟩
        have B2 : Below w.heap.size w w2 := Below.then_ (by repeat (first | exact Below.refl _ _ | assumption | refine Below.setCell ?_ (by first | omega | exact Nat.le_refl _ | (simp <;> omega)) _ | refine Below.allocW ?_ _ | refine Below.drew ?_ | refine Below.extW ?_ _)) hb2
        have s2 : w.heap.size ≤ w2.heap.size := B2.size
        have C2 : Below wr.heap.size wr w2 := Below.then_ (Below.allocW hb1 _) hb2
        go_wp2_with fail
        go_roundw
        case rel => exact ⟨k + 1, by omega, by go_num, (by repeat (first | exact Below.refl _ _ | assumption | refine Below.setCell ?_ (by first | omega | exact Nat.le_refl _ | (simp <;> omega)) _ | refine Below.allocW ?_ _ | refine Below.drew ?_ | refine Below.extW ?_ _)), fun j hj => by obtain ⟨u, hu, hs⟩ := hcs j hj; exact ⟨u, (C2.cell (p := ⟨_, j, none⟩) hz).trans hu, hs⟩, Nat.lt_of_lt_of_le hz C2.size⟩
        case measure => simp [intOf]; omega
      · obtain rfl : k = 9 := by omega
        go_wp2_with fail
        refine (alive4 _).mono ?_
        rintro e w1 ⟨rfl, hb1⟩
        have B1 : Below w.heap.size w w1 := Below.then_ (by repeat (first | exact Below.refl _ _ | assumption | refine Below.setCell ?_ (by first | omega | exact Nat.le_refl _ | (simp <;> omega)) _ | refine Below.allocW ?_ _ | refine Below.drew ?_ | refine Below.extW ?_ _)) hb1
        have s1 : w.heap.size ≤ w1.heap.size := B1.size
        go_wp2_with fail
        go_ret
        exact ⟨rfl, (by repeat (first | exact Below.refl _ _ | assumption | refine Below.setCell ?_ (by first | omega | exact Nat.le_refl _ | (simp <;> omega)) _ | refine Below.allocW ?_ _ | refine Below.drew ?_ | refine Below.extW ?_ _))⟩
end Go.Proofs.Ytldgiclbhpmppaa
