/-
  Texts of this proof, one behind the other: TabOf, Of.
-/
import Derived.Test.YtcjnchjmpkapmaaGreatP3
import Derived.Test.YtcjnchjmpkapmaaGreatR5
/- Package rank: Low, High, Both, Steps of a table; Of. -/
set_option linter.unusedSimpArgs false namespace Go.Proofs.YtcjnchjmpkapmaaGreat
open Go.ChangeShapes Go.WideShapes Go.ChangeAt Go.RowKit
set_option linter.unusedVariables false
set_option maxRecDepth 100000

def TabAt (w : World) (L B g : Nat) (n : Int) (lt ft : List Nd) : Prop :=
  L ≤ g ∧ g < B ∧ ∃ A1 c1 A2 c2 A3 c3 A4 c4, w.heap[g]? = some (.cells #[.int .i64 n, .slice A1 lt.length c1, .slice A2 lt.length c2, .slice A3 ft.length c3, .slice A4 ft.length c4] 168 (0, 0)) ∧
    (Own w L 3 encZ (.slice A1 lt.length c1) (lt.map (·.1)) ∧ Own w L 3 encZ (.slice A2 lt.length c2) (lt.map (·.2)) ∧ Own w L 3 encZ (.slice A3 ft.length c3) (ft.map (·.1)) ∧ Own w L 3 encZ (.slice A4 ft.length c4) (ft.map (·.2))) ∧
    ∀ A n c, (A, n, c) ∈ [(A1, lt.length, c1), (A2, lt.length, c2), (A3, ft.length, c3), (A4, ft.length, c4)] → ∀ k, (Value.slice A n c).ownBlock = some k → k < B
section
variable {w w' : World} {L B g : Nat} {n : Int} {lt ft : List Nd}
end
end Go.Proofs.YtcjnchjmpkapmaaGreat
/- Package rank: Of: a digest's table. -/
namespace Go.Proofs.YtcjnchjmpkapmaaGreat
open Go.ChangeShapes Go.WideShapes Go.ChangeAt Go.RowKit
set_option linter.unusedVariables false
set_option maxRecDepth 100000

def lastL (l : Int) (r : List Nd) : List Nd := r.map fun x => ((endsOf l x.1).2.1, x.2)
def firstL (l : Int) (r : List Nd) : List Nd := r.map fun x => ((endsOf l x.1).1, x.2)
def OfPost (l : Int) (r : List Nd) (w : World) (e : Ending) (w' : World) : Prop :=
  ∃ g lt ft, e = .returned (.pointer (some ⟨g, 0, none⟩)) ∧ TabAt w' w.heap.size w'.heap.size g (sumR r) lt ft ∧ Tab (lastL l r) lt ∧ Tab (firstL l r) ft ∧ lt.length ≤ r.length ∧ ft.length ≤ r.length ∧ Below w.heap.size w w'
structure TwoR (W : World) (B : Nat) (U1 : Value) (L1 : List Nd) (U2 : Value) (L2 : List Nd) : Prop where
  own1 : Own W B 96 encN U1 L1
  own2 : Own W B 96 encN U2 L2
  sep : Sep U1 U2
section
variable {W W' : World} {B : Nat} {U1 U1' : Value} {L1 L1' : List Nd} {U2 U2' : Value} {L2 L2' : List Nd}
end
end Go.Proofs.YtcjnchjmpkapmaaGreat
