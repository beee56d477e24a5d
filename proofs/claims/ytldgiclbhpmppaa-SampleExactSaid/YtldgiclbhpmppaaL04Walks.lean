/- The laws of chapter 4 return true. -/
import Derived.Test.YtldgiclbhpmppaaL04Alive
namespace Go.Proofs.Ytldgiclbhpmppaa
open Go.ChangeShapes Go.WideShapes Go.ChangeAt Go.RowKit
set_option linter.unusedVariables false
theorem ofV_cases (n m : Int) : ∃ a b c, ofV n m = .tuple #[.agg #[.int .i64 a, .int .i64 b], .bool c] := by
  unfold ofV
  split
  · exact ⟨_, _, _, rfl⟩
  · exact ⟨_, _, _, rfl⟩

theorem law_SampleExact (a0 a1 : Int) (w0 : (Lit.int .i64 a0).wf = true) (w1 : (Lit.int .i64 a1).wf = true) (w : World) :
    Calls Try.prog 3 #[.int .i64 a0, .int .i64 a1] w fun e w' => e = .returned (.bool true) ∧ Below w.heap.size w w' := by
  obtain ⟨x1, x2, x3, e1⟩ := ofV_cases a0 1
  obtain ⟨y1, y2, y3, e2⟩ := ofV_cases a1 1
  go_enter Try.func3, Try.ntmps3
  go_wp2_with fail
  refine (Of_int a0 _).mono ?_
  rintro e w1 ⟨rfl, hb1⟩
  have B1 : Below w.heap.size w w1 := Below.then_ (by repeat (first | exact Below.refl _ _ | assumption | refine Below.setCell ?_ (by first | omega | exact Nat.le_refl _ | (simp <;> omega)) _ | refine Below.allocW ?_ _ | refine Below.drew ?_)) hb1
  have s1 : w.heap.size ≤ w1.heap.size := B1.size
  rw [e1]
  go_wp2_with fail
  refine (sample_Exact a1 _).mono ?_
  rintro e w2 ⟨rfl, hb2⟩
  have B2 : Below w.heap.size w w2 := Below.then_ (by repeat (first | exact Below.refl _ _ | assumption | refine Below.setCell ?_ (by first | omega | exact Nat.le_refl _ | (simp <;> omega)) _ | refine Below.allocW ?_ _ | refine Below.drew ?_)) hb2
  have s2 : w.heap.size ≤ w2.heap.size := B2.size
  have z2_0 : w1.heap.size < w2.heap.size := by have := hb2.size; (try simp at this); omega
  have y2_0 : w1.heap.size ≤ w2.heap.size := Nat.le_of_lt z2_0
  have c2_0 := fun o => hb2.cell (p := ⟨w1.heap.size, o, none⟩) (by first | omega | (simp <;> omega))
  have f2_0 := fun o => hb2.frozen (p := ⟨w1.heap.size, o, none⟩) (by first | omega | (simp <;> omega))
  go_wp2_with fail
  refine (Of_int a1 _).mono ?_
  rintro e w3 ⟨rfl, hb3⟩
  have B3 : Below w.heap.size w w3 := Below.then_ (by repeat (first | exact Below.refl _ _ | assumption | refine Below.setCell ?_ (by first | omega | exact Nat.le_refl _ | (simp <;> omega)) _ | refine Below.allocW ?_ _ | refine Below.drew ?_)) hb3
  have s3 : w.heap.size ≤ w3.heap.size := B3.size
  have z3_0 : w1.heap.size < w3.heap.size := by have := hb3.size; (try simp at this); omega
  have y3_0 : w1.heap.size ≤ w3.heap.size := Nat.le_of_lt z3_0
  have c3_0 := fun o => hb3.cell (p := ⟨w1.heap.size, o, none⟩) (by first | omega | (simp <;> omega))
  have f3_0 := fun o => hb3.frozen (p := ⟨w1.heap.size, o, none⟩) (by first | omega | (simp <;> omega))
  rw [e2]
  go_wp2_with fail
  refine (ref4_Of a0 1 _).mono ?_
  rintro e w4 ⟨rfl, hb4⟩
  have B4 : Below w.heap.size w w4 := Below.then_ (by repeat (first | exact Below.refl _ _ | assumption | refine Below.setCell ?_ (by first | omega | exact Nat.le_refl _ | (simp <;> omega)) _ | refine Below.allocW ?_ _ | refine Below.drew ?_)) hb4
  have s4 : w.heap.size ≤ w4.heap.size := B4.size
  have z4_0 : w1.heap.size < w4.heap.size := by have := hb4.size; (try simp at this); omega
  have y4_0 : w1.heap.size ≤ w4.heap.size := Nat.le_of_lt z4_0
  have c4_0 := fun o => hb4.cell (p := ⟨w1.heap.size, o, none⟩) (by first | omega | (simp <;> omega))
  have f4_0 := fun o => hb4.frozen (p := ⟨w1.heap.size, o, none⟩) (by first | omega | (simp <;> omega))
  have z4_1 : w3.heap.size < w4.heap.size := by have := hb4.size; (try simp at this); omega
  have y4_1 : w3.heap.size ≤ w4.heap.size := Nat.le_of_lt z4_1
  have c4_1 := fun o => hb4.cell (p := ⟨w3.heap.size, o, none⟩) (by first | omega | (simp <;> omega))
  have f4_1 := fun o => hb4.frozen (p := ⟨w3.heap.size, o, none⟩) (by first | omega | (simp <;> omega))
  rw [e1]
  go_wp2_with fail
  refine (ref4_Of a1 1 _).mono ?_
  rintro e w5 ⟨rfl, hb5⟩
  have B5 : Below w.heap.size w w5 := Below.then_ (by repeat (first | exact Below.refl _ _ | assumption | refine Below.setCell ?_ (by first | omega | exact Nat.le_refl _ | (simp <;> omega)) _ | refine Below.allocW ?_ _ | refine Below.drew ?_)) hb5
  have s5 : w.heap.size ≤ w5.heap.size := B5.size
  have z5_0 : w1.heap.size < w5.heap.size := by have := hb5.size; (try simp at this); omega
  have y5_0 : w1.heap.size ≤ w5.heap.size := Nat.le_of_lt z5_0
  have c5_0 := fun o => hb5.cell (p := ⟨w1.heap.size, o, none⟩) (by first | omega | (simp <;> omega))
  have f5_0 := fun o => hb5.frozen (p := ⟨w1.heap.size, o, none⟩) (by first | omega | (simp <;> omega))
  have z5_1 : w3.heap.size < w5.heap.size := by have := hb5.size; (try simp at this); omega
  have y5_1 : w3.heap.size ≤ w5.heap.size := Nat.le_of_lt z5_1
  have c5_1 := fun o => hb5.cell (p := ⟨w3.heap.size, o, none⟩) (by first | omega | (simp <;> omega))
  have f5_1 := fun o => hb5.frozen (p := ⟨w3.heap.size, o, none⟩) (by first | omega | (simp <;> omega))
  have z5_2 : w4.heap.size < w5.heap.size := by have := hb5.size; (try simp at this); omega
  have y5_2 : w4.heap.size ≤ w5.heap.size := Nat.le_of_lt z5_2
  have c5_2 := fun o => hb5.cell (p := ⟨w4.heap.size, o, none⟩) (by first | omega | (simp <;> omega))
  have f5_2 := fun o => hb5.frozen (p := ⟨w4.heap.size, o, none⟩) (by first | omega | (simp <;> omega))
  rw [e2]
  go_wp2_with fail
  refine (sample_Exact a0 _).mono ?_
  rintro e w6 ⟨rfl, hb6⟩
  have B6 : Below w.heap.size w w6 := Below.then_ (by repeat (first | exact Below.refl _ _ | assumption | refine Below.setCell ?_ (by first | omega | exact Nat.le_refl _ | (simp <;> omega)) _ | refine Below.allocW ?_ _ | refine Below.drew ?_)) hb6
  have s6 : w.heap.size ≤ w6.heap.size := B6.size
  have z6_0 : w1.heap.size < w6.heap.size := by have := hb6.size; (try simp at this); omega
  have y6_0 : w1.heap.size ≤ w6.heap.size := Nat.le_of_lt z6_0
  have c6_0 := fun o => hb6.cell (p := ⟨w1.heap.size, o, none⟩) (by first | omega | (simp <;> omega))
  have f6_0 := fun o => hb6.frozen (p := ⟨w1.heap.size, o, none⟩) (by first | omega | (simp <;> omega))
  have z6_1 : w3.heap.size < w6.heap.size := by have := hb6.size; (try simp at this); omega
  have y6_1 : w3.heap.size ≤ w6.heap.size := Nat.le_of_lt z6_1
  have c6_1 := fun o => hb6.cell (p := ⟨w3.heap.size, o, none⟩) (by first | omega | (simp <;> omega))
  have f6_1 := fun o => hb6.frozen (p := ⟨w3.heap.size, o, none⟩) (by first | omega | (simp <;> omega))
  have z6_2 : w4.heap.size < w6.heap.size := by have := hb6.size; (try simp at this); omega
  have y6_2 : w4.heap.size ≤ w6.heap.size := Nat.le_of_lt z6_2
  have c6_2 := fun o => hb6.cell (p := ⟨w4.heap.size, o, none⟩) (by first | omega | (simp <;> omega))
  have f6_2 := fun o => hb6.frozen (p := ⟨w4.heap.size, o, none⟩) (by first | omega | (simp <;> omega))
  have z6_3 : w5.heap.size < w6.heap.size := by have := hb6.size; (try simp at this); omega
  have y6_3 : w5.heap.size ≤ w6.heap.size := Nat.le_of_lt z6_3
  have c6_3 := fun o => hb6.cell (p := ⟨w5.heap.size, o, none⟩) (by first | omega | (simp <;> omega))
  have f6_3 := fun o => hb6.frozen (p := ⟨w5.heap.size, o, none⟩) (by first | omega | (simp <;> omega))
  go_wp2_with fail
  refine (sample_Exact a1 _).mono ?_
  rintro e w7 ⟨rfl, hb7⟩
  have B7 : Below w.heap.size w w7 := Below.then_ (by repeat (first | exact Below.refl _ _ | assumption | refine Below.setCell ?_ (by first | omega | exact Nat.le_refl _ | (simp <;> omega)) _ | refine Below.allocW ?_ _ | refine Below.drew ?_)) hb7
  have s7 : w.heap.size ≤ w7.heap.size := B7.size
  have z7_0 : w1.heap.size < w7.heap.size := by have := hb7.size; (try simp at this); omega
  have y7_0 : w1.heap.size ≤ w7.heap.size := Nat.le_of_lt z7_0
  have c7_0 := fun o => hb7.cell (p := ⟨w1.heap.size, o, none⟩) (by first | omega | (simp <;> omega))
  have f7_0 := fun o => hb7.frozen (p := ⟨w1.heap.size, o, none⟩) (by first | omega | (simp <;> omega))
  have z7_1 : w3.heap.size < w7.heap.size := by have := hb7.size; (try simp at this); omega
  have y7_1 : w3.heap.size ≤ w7.heap.size := Nat.le_of_lt z7_1
  have c7_1 := fun o => hb7.cell (p := ⟨w3.heap.size, o, none⟩) (by first | omega | (simp <;> omega))
  have f7_1 := fun o => hb7.frozen (p := ⟨w3.heap.size, o, none⟩) (by first | omega | (simp <;> omega))
  have z7_2 : w4.heap.size < w7.heap.size := by have := hb7.size; (try simp at this); omega
  have y7_2 : w4.heap.size ≤ w7.heap.size := Nat.le_of_lt z7_2
  have c7_2 := fun o => hb7.cell (p := ⟨w4.heap.size, o, none⟩) (by first | omega | (simp <;> omega))
  have f7_2 := fun o => hb7.frozen (p := ⟨w4.heap.size, o, none⟩) (by first | omega | (simp <;> omega))
  have z7_3 : w5.heap.size < w7.heap.size := by have := hb7.size; (try simp at this); omega
  have y7_3 : w5.heap.size ≤ w7.heap.size := Nat.le_of_lt z7_3
  have c7_3 := fun o => hb7.cell (p := ⟨w5.heap.size, o, none⟩) (by first | omega | (simp <;> omega))
  have f7_3 := fun o => hb7.frozen (p := ⟨w5.heap.size, o, none⟩) (by first | omega | (simp <;> omega))
  go_wp2_with fail
  refine (alive4 _).mono ?_
  rintro e w8 ⟨rfl, hb8⟩
  have B8 : Below w.heap.size w w8 := Below.then_ (by repeat (first | exact Below.refl _ _ | assumption | refine Below.setCell ?_ (by first | omega | exact Nat.le_refl _ | (simp <;> omega)) _ | refine Below.allocW ?_ _ | refine Below.drew ?_)) hb8
  have s8 : w.heap.size ≤ w8.heap.size := B8.size
  go_wp2_with fail
  go_ret
  exact ⟨rfl, (by repeat (first | exact Below.refl _ _ | assumption | refine Below.setCell ?_ (by first | omega | exact Nat.le_refl _ | (simp <;> omega)) _ | refine Below.allocW ?_ _ | refine Below.drew ?_))⟩
end Go.Proofs.Ytldgiclbhpmppaa
