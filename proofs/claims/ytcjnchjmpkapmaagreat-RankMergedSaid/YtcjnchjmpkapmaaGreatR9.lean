/-
  Texts of this proof, one behind the other: Ref16S, TabSteps.
-/
import Derived.Deep.DeepCutAuto
import Derived.Test.YtcjnchjmpkapmaaGreatP2
import Derived.Test.YtcjnchjmpkapmaaGreatR5
import Derived.Test.YtcjnchjmpkapmaaGreatR7
/- Reference 16: Steps. -/
set_option linter.unusedSimpArgs false namespace Go.Proofs.YtcjnchjmpkapmaaGreat
open Go.ChangeShapes Go.WideShapes Go.ChangeAt Go.RowKit
set_option linter.unusedVariables false
set_option linter.unusedSimpArgs false
set_option maxRecDepth 100000

structure StepsIs (l : Int) (r : List Nd) (S : List Int) : Prop where
  up : S.Pairwise (· < ·)
  mem : ∀ z, z ∈ S ↔ ∃ x ∈ r, (endsOf l x.1).2.1 = z
def pickB (c : Prop) [Decidable c] (x y : Option Addr) : Option Addr := if c then x else y
theorem slice_pickB (c : Prop) [Decidable c] (x y : Option Addr) (n m : Nat) : Value.slice (if c then x else y) n m = Value.slice (pickB c x y) n m := rfl
section
attribute [local go_sem] slice_pickB
end
end Go.Proofs.YtcjnchjmpkapmaaGreat
/- Where a table's sums grow. -/
namespace Go.Proofs.YtcjnchjmpkapmaaGreat
open Go.ChangeShapes Go.WideShapes Go.ChangeAt Go.RowKit
set_option linter.unusedVariables false

end Go.Proofs.YtcjnchjmpkapmaaGreat
