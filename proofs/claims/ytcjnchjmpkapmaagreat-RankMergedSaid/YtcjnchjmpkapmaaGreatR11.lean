/-
  Texts of this proof, one behind the other: RefBelow, Ref34, Ref34C, Ref34S, AuditHas, Made10, AuditWrong, AuditCulprit, AuditStands0, BagItems, Ref34O, SortO, AuditOff0, AuditKeys, AuditCheck.
-/
import Derived.Maps.OwnOps
import Derived.Maps.Views
import Derived.Carry
import Derived.Test.YtcjnchjmpkapmaaGreatShelf
import Derived.Test.YtcjnchjmpkapmaaGreatLaidI
import Derived.Shelf.SlIterI.Nil
import Derived.Maps.OwnSet
import Derived.Test.YtcjnchjmpkapmaaGreatP2
import Derived.Test.YtcjnchjmpkapmaaGreatP3
import Derived.Test.YtcjnchjmpkapmaaGreatR4
import Derived.Test.YtcjnchjmpkapmaaGreatR5
import Derived.Test.YtcjnchjmpkapmaaGreatR6
import Derived.Test.YtcjnchjmpkapmaaGreatR7
import Derived.Test.YtcjnchjmpkapmaaGreatR9
/- References 2, 12: Above, Below. -/
set_option linter.unusedSimpArgs false namespace Go.Proofs.YtcjnchjmpkapmaaGreat
open Go.ChangeShapes Go.WideShapes Go.ChangeAt Go.RowKit
set_option linter.unusedVariables false
set_option linter.unusedSimpArgs false
set_option maxRecDepth 100000

end Go.Proofs.YtcjnchjmpkapmaaGreat
/- Reference 34: culprits. -/
namespace Go.Proofs.YtcjnchjmpkapmaaGreat
open Go.ChangeShapes Go.WideShapes Go.ChangeAt Go.RowKit
set_option linter.unusedVariables false
set_option linter.unusedSimpArgs false
set_option maxRecDepth 100000

def mrN (l : Int) (r m : List Nd) (id : Int) : Int := ownN r id - betwB m (endsOf l id).1 (endsOf l id).2.1
end Go.Proofs.YtcjnchjmpkapmaaGreat
/- Reference 34: the culprit. -/
namespace Go.Proofs.YtcjnchjmpkapmaaGreat
open Go.ChangeShapes Go.WideShapes Go.ChangeAt Go.RowKit
set_option linter.unusedVariables false
set_option linter.unusedSimpArgs false
set_option maxRecDepth 100000

def culS (f : Int → Int) (a : Int × Int) (x : Int) : Int × Int := if 0 < f x ∧ (a.1 = 0 ∨ x < a.1) then (x, f x) else a
structure Seen (f : Int → Int) (C : Int → Prop) (a : Int × Int) : Prop where
  ex : ∃ L, (∀ z, z ∈ L ↔ C z) ∧ culIs f L a ∧ ∀ z ∈ L, 1 ≤ z
def upOf (r : List Nd) (z : Int) : Prop := ∃ x ∈ r, abv z x.1 = true
end Go.Proofs.YtcjnchjmpkapmaaGreat
/- Reference 34: Stands. -/
namespace Go.Proofs.YtcjnchjmpkapmaaGreat
open Go.ChangeShapes Go.WideShapes Go.ChangeAt Go.RowKit
set_option linter.unusedVariables false
set_option linter.unusedSimpArgs false
set_option maxRecDepth 100000

end Go.Proofs.YtcjnchjmpkapmaaGreat
/- Package audit: has (a map that the call makes). -/
namespace Go.Proofs.YtcjnchjmpkapmaaGreat
open Go.ChangeShapes Go.WideShapes Go.ChangeAt Go.RowKit Go.Maps
set_option linter.unusedVariables false
set_option linter.unusedSimpArgs false
set_option maxRecDepth 100000

structure MapIs (D : DataW Unit) (f : Int → Int) (C : Int → Prop) : Prop where
  map : IsMap D
  at_ : ∀ z, D.atKey (.int .i64 z) (.lit (.int .i64 0)) = .lit (.int .i64 (f z))
  has : ∀ z, Go.Maps.has D (.int .i64 z) = true ↔ C z
end Go.Proofs.YtcjnchjmpkapmaaGreat
/- Chapter 10: Made. -/
namespace Go.Proofs.YtcjnchjmpkapmaaGreat
open Go.ChangeShapes Go.WideShapes Go.ChangeAt Go.RowKit
set_option linter.unusedVariables false
set_option linter.unusedSimpArgs false
set_option maxRecDepth 100000

end Go.Proofs.YtcjnchjmpkapmaaGreat
/- Package audit: wrong. -/
namespace Go.Proofs.YtcjnchjmpkapmaaGreat
open Go.ChangeShapes Go.WideShapes Go.ChangeAt Go.RowKit
set_option linter.unusedVariables false
set_option linter.unusedSimpArgs false
set_option maxRecDepth 100000

end Go.Proofs.YtcjnchjmpkapmaaGreat
/- Package audit: Culprit. (KeysC: what slices.Sorted(maps.Keys(m)) gives: to be proved by the kit's SlIterI.) -/
namespace Go.Proofs.YtcjnchjmpkapmaaGreat
open Go.ChangeShapes Go.WideShapes Go.ChangeAt Go.RowKit Go.Maps
set_option linter.unusedVariables false
set_option linter.unusedSimpArgs false
set_option maxRecDepth 100000

def KeysC : Prop := ∀ (w : World) (b n : Nat) (D : DataW Unit), w.ownsMap Tryz.prog 3 (plainElem Tryz.prog 3) b n D → n ≤ 4194304 →
  Calls Tryz.prog 228 #[.map (some b)] w fun e w1 => ∃ fv, e = .returned fv ∧ Below w.heap.size w w1 ∧
    Calls Tryz.prog 227 #[fv] w1 fun e2 w2 => ∃ (A : Option Addr) (cap : Nat) (ss : List Int), e2 = .returned (.slice A ss.length cap) ∧ Sl w2 w2.heap.size encZ A ss ∧ ss.Pairwise (· ≤ ·) ∧ (∀ z, z ∈ ss ↔ Go.Maps.has D (.int .i64 z) = true) ∧ ss.length ≤ 4194304 ∧ Below w1.heap.size w1 w2
end Go.Proofs.YtcjnchjmpkapmaaGreat
/- Package audit: Stands, and what cannot be held against one another. -/
namespace Go.Proofs.YtcjnchjmpkapmaaGreat
open Go.ChangeShapes Go.WideShapes Go.ChangeAt Go.RowKit Go.Maps
set_option linter.unusedVariables false
set_option linter.unusedSimpArgs false
set_option maxRecDepth 100000

end Go.Proofs.YtcjnchjmpkapmaaGreat
/- Package bag: Items. -/
namespace Go.Proofs.YtcjnchjmpkapmaaGreat
open Go.ChangeShapes Go.WideShapes Go.ChangeAt Go.RowKit
set_option linter.unusedVariables false
set_option linter.unusedSimpArgs false
set_option maxRecDepth 100000

end Go.Proofs.YtcjnchjmpkapmaaGreat
/- Reference 34: far. -/
namespace Go.Proofs.YtcjnchjmpkapmaaGreat
open Go.ChangeShapes Go.WideShapes Go.ChangeAt Go.RowKit
set_option linter.unusedVariables false
set_option linter.unusedSimpArgs false
set_option maxRecDepth 100000

def farN (l : Int) (r m : List Nd) (x : Int) : Int := max (lowOf l r x - betwB m 0 x) (-(lowOf l r x - betwB m 0 x))
def offL (S : List Int) (m : List Nd) : List Int := S ++ m.map (·.1)
end Go.Proofs.YtcjnchjmpkapmaaGreat
/- slices.Sort on a list of ints that the call owns. -/
namespace Go.Proofs.YtcjnchjmpkapmaaGreat
open Go.ChangeShapes Go.WideShapes Go.ChangeAt Go.RowKit
set_option linter.unusedVariables false

end Go.Proofs.YtcjnchjmpkapmaaGreat
/- Package audit: Off. -/
namespace Go.Proofs.YtcjnchjmpkapmaaGreat
open Go.ChangeShapes Go.WideShapes Go.ChangeAt Go.RowKit
set_option linter.unusedVariables false
set_option linter.unusedSimpArgs false
set_option maxRecDepth 100000

def allL (S : List Int) (m : List Nd) : List Int := (S ++ [0]) ++ m.map (·.1)
def sortL (L : List Int) : List Int := L.mergeSort fun x y => decide (x ≤ y)
end Go.Proofs.YtcjnchjmpkapmaaGreat
/- The sorted keys of a map of the call's own. -/
namespace Go.Proofs.YtcjnchjmpkapmaaGreat
open Go.ChangeShapes Go.WideShapes Go.ChangeAt Go.RowKit Go.Maps Go.Sort Go.Shelf
set_option linter.unusedVariables false
set_option linter.unusedSimpArgs false
set_option maxRecDepth 100000

end Go.Proofs.YtcjnchjmpkapmaaGreat
/- Package audit: Check, Good; digest.Room. -/
namespace Go.Proofs.YtcjnchjmpkapmaaGreat
open Go.ChangeShapes Go.WideShapes Go.ChangeAt Go.RowKit
set_option linter.unusedVariables false
set_option linter.unusedSimpArgs false
set_option maxRecDepth 100000

theorem dig_pool {w : World} {g K l : Nat} {k : Int} {r : List Nd} {F : Nat → Prop} (h : DigAt w g K l k r F) : isPool K l = true := by
  obtain ⟨_, _, p, F0, rfl, _, a, b, _, q, F1, _, hk⟩ := h
  simp only [isPool, decide_eq_true_eq]
  rcases hk with ⟨hk, h16, _⟩ | ⟨hk, _⟩ <;> omega
def verdV (a b c d e : Bool) (x y z : Int) : Value := .agg #[.bool a, .bool b, .bool c, .bool d, .bool e, .int .i64 x, .int .i64 y, .int .i64 z]
structure ChkS (w : World) (g K l : Nat) (k : Int) (r : List Nd) (F : Nat → Prop) (base gb : Nat) (m : List Nd) (q4 : Nat) (W : World) : Prop where
  d : DigAt W g K l k r F
  b : BagAt W base gb l m
  x : W.heap[q4]? = some (.cells #[.bool false, .bool false, .bool false, .bool false, .bool false, .int .i64 0, .int .i64 0, .int .i64 0] 106 (0, 0))
  le : w.heap.size ≤ q4
  blw : Below w.heap.size w W
structure VerS (w8 : World) (pv : Nat) (vals : Array Value) (W : World) : Prop where
  v : W.heap[pv]? = some (.cells vals 106 (0, 0))
  le : w8.heap.size ≤ pv
  blw : Below w8.heap.size w8 W
section
variable {w w8 : World} {g K l : Nat} {k : Int} {r : List Nd} {F : Nat → Prop} {base gb : Nat} {m : List Nd} {q4 pv : Nat} {vals : Array Value} {W W' : World}
end
def CheckPost (l : Nat) (k : Int) (r m : List Nd) (w : World) (e : Ending) (w' : World) : Prop :=
  ∃ (S : List Int) (a c : Int × Int) (t : Bool), e = .returned (.tuple #[verdV (sumR r == sumR m) (lightOf l r k) (decide ((r.length : Int) ≤ 8 * k)) t (decide (sumR r = sumR m) && decide (c.1 = 0)) a.1 a.2 ((l : Int) * (sumR r / k)), .int .i64 0]) ∧
    StepsIs l r S ∧ a = offFold (farN l r m) (sortL (allL S m)) ∧ Seen (mrN l r m) (upOf r) c ∧ (t = true ↔ ∀ p, readyR l r p (sumR r / k) = false) ∧ Below w.heap.size w w'
end Go.Proofs.YtcjnchjmpkapmaaGreat
