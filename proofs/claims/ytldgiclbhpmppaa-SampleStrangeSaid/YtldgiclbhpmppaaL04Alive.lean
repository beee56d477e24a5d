/- The example of chapter 4 is as the document says. -/
import Derived.Test.YtldgiclbhpmppaaSample
namespace Go.Proofs.Ytldgiclbhpmppaa
open Go.ChangeShapes Go.WideShapes Go.ChangeAt Go.RowKit
set_option linter.unusedVariables false
theorem alive4 (w : World) :
    Calls Try.prog 11 #[] w fun e w' => e = .returned (.bool true) ∧ Below w.heap.size w w' := by
  go_enter Try.func11, Try.ntmps11
  go_wp2_with fail
  refine (Of_int 5 _).mono ?_
  rintro e w1 ⟨rfl, hb1⟩
  have B1 : Below w.heap.size w w1 := Below.then_ (by repeat (first | exact Below.refl _ _ | assumption | refine Below.setCell ?_ (by first | omega | exact Nat.le_refl _ | (simp <;> omega)) _ | refine Below.allocW ?_ _ | refine Below.drew ?_ | refine Below.extW ?_ _)) hb1
  have s1 : w.heap.size ≤ w1.heap.size := B1.size
  simp only [ofV_51]
  go_wp2_with fail
  refine (Of_cplx _ _ 5 3 whole5 whole3 _).mono ?_
  rintro e w2 ⟨rfl, hb2⟩
  have B2 : Below w.heap.size w w2 := Below.then_ (by repeat (first | exact Below.refl _ _ | assumption | refine Below.setCell ?_ (by first | omega | exact Nat.le_refl _ | (simp <;> omega)) _ | refine Below.allocW ?_ _ | refine Below.drew ?_ | refine Below.extW ?_ _)) hb2
  have s2 : w.heap.size ≤ w2.heap.size := B2.size
  have z2_0 : w1.heap.size < w2.heap.size := by have := hb2.size; (try simp at this); omega
  have y2_0 : w1.heap.size ≤ w2.heap.size := Nat.le_of_lt z2_0
  have c2_0 := fun o => hb2.cell (p := ⟨w1.heap.size, o, none⟩) (by first | omega | (simp <;> omega))
  have f2_0 := fun o => hb2.frozen (p := ⟨w1.heap.size, o, none⟩) (by first | omega | (simp <;> omega))
  simp only [ofV_53]
  go_wp2_with fail
  refine (Of_other 9 _ (by decide) (by decide) (by decide) (by decide) _).mono ?_
  rintro e w3 ⟨rfl, hb3⟩
  have B3 : Below w.heap.size w w3 := Below.then_ (by repeat (first | exact Below.refl _ _ | assumption | refine Below.setCell ?_ (by first | omega | exact Nat.le_refl _ | (simp <;> omega)) _ | refine Below.allocW ?_ _ | refine Below.drew ?_ | refine Below.extW ?_ _)) hb3
  have s3 : w.heap.size ≤ w3.heap.size := B3.size
  have z3_0 : w1.heap.size < w3.heap.size := by have := hb3.size; (try simp at this); omega
  have y3_0 : w1.heap.size ≤ w3.heap.size := Nat.le_of_lt z3_0
  have c3_0 := fun o => hb3.cell (p := ⟨w1.heap.size, o, none⟩) (by first | omega | (simp <;> omega))
  have f3_0 := fun o => hb3.frozen (p := ⟨w1.heap.size, o, none⟩) (by first | omega | (simp <;> omega))
  have z3_1 : w2.heap.size < w3.heap.size := by have := hb3.size; (try simp at this); omega
  have y3_1 : w2.heap.size ≤ w3.heap.size := Nat.le_of_lt z3_1
  have c3_1 := fun o => hb3.cell (p := ⟨w2.heap.size, o, none⟩) (by first | omega | (simp <;> omega))
  have f3_1 := fun o => hb3.frozen (p := ⟨w2.heap.size, o, none⟩) (by first | omega | (simp <;> omega))
  go_wp2_with fail
  go_ret
  exact ⟨rfl, (by repeat (first | exact Below.refl _ _ | assumption | refine Below.setCell ?_ (by first | omega | exact Nat.le_refl _ | (simp <;> omega)) _ | refine Below.allocW ?_ _ | refine Below.drew ?_ | refine Below.extW ?_ _))⟩
end Go.Proofs.Ytldgiclbhpmppaa
