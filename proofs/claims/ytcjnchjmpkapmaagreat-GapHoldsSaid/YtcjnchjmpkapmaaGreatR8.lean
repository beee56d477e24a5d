/-
  Texts of this proof, one behind the other: BinsLaw, Runs, Part1, ReachRef, Edges, EachOf, Bound, Bound2, BoundRef, BinsOfP, DigCells.
-/
import Derived.Deep.DeepCutAuto
import Derived.Test.YtcjnchjmpkapmaaGreatP2
import Derived.Test.YtcjnchjmpkapmaaGreatP3
import Derived.Test.YtcjnchjmpkapmaaGreatR4
import Derived.Test.YtcjnchjmpkapmaaGreatR5
import Derived.Test.YtcjnchjmpkapmaaGreatR7
/- Chapter 19: bins: plain laws. -/
set_option linter.unusedSimpArgs false namespace Go.Proofs.YtcjnchjmpkapmaaGreat
open Go.ChangeShapes Go.WideShapes Go.ChangeAt Go.RowKit
set_option linter.unusedVariables false

def rightE (l : Nat) (p : Int) : List Int → Bool
  | [] => true
  | x :: r => (decide (0 ≤ x) && decide (x < 2 ^ l) && decide (p < x)) && rightE l x r
def prevE (es : List Int) (q : Nat) : Int := if q = 0 then -1 else es.getD (q - 1) 0
def lowN (l : Int) (r : List Nd) (es : List Int) : Nat → Int
  | 0 => 0
  | q + 1 => if h : q < es.length then lowOf l r es[q] else sumR r
def binAt (l : Int) (r : List Nd) (es : List Int) (q : Nat) : Int := lowN l r es (q + 1) - lowN l r es q
def binsL (l : Int) (r : List Nd) (es : List Int) : List Int := (List.range (es.length + 1)).map (binAt l r es)
def runAt (l : Nat) (es : List Int) (q : Nat) : Int × Int := (if q = 0 then 0 else es.getD (q - 1) 0 + 1, if q < es.length then es.getD q 0 else 2 ^ l - 1)
def runsL (l : Nat) (es : List Int) : List (Int × Int) := (List.range (es.length + 1)).map (runAt l es)
def binStep (l : Int) (r : List Nd) (a : List Int × Int) (p : Int × Int) : List Int × Int := (a.1 ++ [lowOf l r p.2 - a.2], lowOf l r p.2)
def binFold (l : Int) (r : List Nd) (ps : List (Int × Int)) : List Int × Int := ps.foldl (binStep l r) ([], 0)
def lessE (es : List Int) (at_ : Nat) : List Int := es.take at_ ++ es.drop (at_ + 1)
end Go.Proofs.YtcjnchjmpkapmaaGreat
/- Package bins: runs, an iterator over where bins begin and end. -/
namespace Go.Proofs.YtcjnchjmpkapmaaGreat
open Go.ChangeShapes Go.WideShapes Go.ChangeAt Go.RowKit
set_option linter.unusedVariables false
attribute [local go_sem] Oper.semAt_some

end Go.Proofs.YtcjnchjmpkapmaaGreat
/- The reference of layer 1: Part. -/
namespace Go.Proofs.YtcjnchjmpkapmaaGreat
open Go.ChangeShapes Go.WideShapes Go.ChangeAt Go.RowKit
set_option linter.unusedVariables false
set_option maxRecDepth 100000

end Go.Proofs.YtcjnchjmpkapmaaGreat
/- The reference of layer 18 (reach): Between, Share. -/
namespace Go.Proofs.YtcjnchjmpkapmaaGreat
open Go.ChangeShapes Go.WideShapes Go.ChangeAt Go.RowKit
set_option linter.unusedVariables false
set_option maxRecDepth 100000

theorem three (p q : Prop) [Decidable p] [Decidable q] : (p ∧ q) ∨ (p ∧ decide q = false) ∨ decide p = false := by
  by_cases hp : p
  · by_cases hq : q
    · exact .inl ⟨hp, hq⟩
    · exact .inr (.inl ⟨hp, decide_eq_false hq⟩)
  · exact .inr (.inr (decide_eq_false hp))
end Go.Proofs.YtcjnchjmpkapmaaGreat
/- Edges of bins: package bins, and the reference of layer 19: Right. -/
namespace Go.Proofs.YtcjnchjmpkapmaaGreat
open Go.ChangeShapes Go.WideShapes Go.ChangeAt Go.RowKit
set_option linter.unusedVariables false
set_option maxRecDepth 100000

def binErr (l : Nat) (es : List Int) : Int := if rightE l (-1) es = true then 0 else 8
end Go.Proofs.YtcjnchjmpkapmaaGreat
/- Package bound: each: a function value called for all nodes. -/
namespace Go.Proofs.YtcjnchjmpkapmaaGreat
open Go.ChangeShapes Go.WideShapes Go.ChangeAt Go.RowKit
set_option linter.unusedVariables false
set_option maxRecDepth 100000

structure Stays (I : Nat → World → Prop) : Prop where
  st : ∀ q W W', I q W → Below W.heap.size W W' → I q W'
end Go.Proofs.YtcjnchjmpkapmaaGreat
/- Package bound: Least, Greatest. -/
namespace Go.Proofs.YtcjnchjmpkapmaaGreat
open Go.ChangeShapes Go.WideShapes Go.ChangeAt Go.RowKit
set_option linter.unusedVariables false
set_option maxRecDepth 100000

def wrongOf (r : List Nd) : Int := if sumR r = 0 then 7 else 0
def leastStep (l : Int) (a : Int × Int) (x : Nd) : Int × Int := (min a.1 (endsOf l x.1).1, min a.2 (endsOf l x.1).2.1)
def leastOf (l : Int) (r : List Nd) : Int × Int := r.foldl (leastStep l) (9223372036854775807, 9223372036854775807)
def BoundI (w : World) (b0 b1 : Nat) (f : Nat → Int × Int) (q : Nat) (W : World) : Prop := Below w.heap.size w W ∧ bothAt W b0 0 0 ∧ bothAt W b1 (f q).1 (f q).2
def leastT (l : Int) (r : List Nd) : Int × Int × Int := if sumR r = 0 then (0, 0, 7) else ((leastOf l r).1, (leastOf l r).2, 0)
end Go.Proofs.YtcjnchjmpkapmaaGreat
/- Package bound: Greatest, Spread. -/
namespace Go.Proofs.YtcjnchjmpkapmaaGreat
open Go.ChangeShapes Go.WideShapes Go.ChangeAt Go.RowKit
set_option linter.unusedVariables false
set_option maxRecDepth 100000

def mostStep (l : Int) (a : Int × Int) (x : Nd) : Int × Int := (max a.1 (endsOf l x.1).1, max a.2 (endsOf l x.1).2.1)
def mostOf (l : Int) (r : List Nd) : Int × Int := r.foldl (mostStep l) (0, 0)
def mostT (l : Int) (r : List Nd) : Int × Int × Int := if sumR r = 0 then (0, 0, 7) else ((mostOf l r).1, (mostOf l r).2, 0)
end Go.Proofs.YtcjnchjmpkapmaaGreat
/- The reference of layer 20 (bound): Ends. -/
namespace Go.Proofs.YtcjnchjmpkapmaaGreat
open Go.ChangeShapes Go.WideShapes Go.ChangeAt Go.RowKit
set_option linter.unusedVariables false
set_option maxRecDepth 100000

structure E4 where
  a : Int
  b : Int
  c : Int
  d : Int
def e4Step (l : Int) (e : E4) (x : Nd) : E4 := ⟨if (endsOf l x.1).1 < e.a then (endsOf l x.1).1 else e.a, if (endsOf l x.1).2.1 < e.b then (endsOf l x.1).2.1 else e.b, if e.c < (endsOf l x.1).1 then (endsOf l x.1).1 else e.c, if e.d < (endsOf l x.1).2.1 then (endsOf l x.1).2.1 else e.d⟩
def e4Of (l : Int) (r : List Nd) : E4 := r.foldl (e4Step l) ⟨281474976710656, 281474976710656, -1, -1⟩
end Go.Proofs.YtcjnchjmpkapmaaGreat
/- Package bins: Of. -/
namespace Go.Proofs.YtcjnchjmpkapmaaGreat
open Go.ChangeShapes Go.WideShapes Go.ChangeAt Go.RowKit
set_option linter.unusedVariables false
set_option maxRecDepth 100000
attribute [local go_sem] Oper.semAt_some

def ofBins (l : Nat) (r : List Nd) (es : List Int) : List Int := if binErr l es = 0 then binsL l r es else []
def BinsPost (l : Nat) (r : List Nd) (es : List Int) (w : World) (e : Ending) (w' : World) : Prop := ∃ v, e = .returned (.tuple #[v, .int .i64 (binErr l es)]) ∧ Own w' w.heap.size 3 encZ v (ofBins l r es) ∧ Below w.heap.size w w'
structure OfI (w : World) (l : Nat) (r : List Nd) (L B g bt bo ba z : Nat) (lt ft : List Nd) (pre : List (Int × Int)) (W : World) : Prop where
  t : W.heap[bt]? = some (.cells #[.pointer (some ⟨g, 0, none⟩)] 52 (0, 0))
  o : ∃ v, W.heap[bo]? = some (.cells #[v] 49 (0, 0)) ∧ Own W z 3 encZ v (binFold l r pre).1
  a : W.heap[ba]? = some (.cells #[.int .i64 (binFold l r pre).2] 3 (0, 0))
  tab : TabAt W L B g (sumR r) lt ft
  sz : z ≤ W.heap.size
theorem tab_grown {A B : World} {L B0 g : Nat} {n : Int} {lt ft : List Nd} {row : Option Nat} (h : TabAt A L B0 g n lt ft) (hg : A.grownBy B row) (hr : ∀ r, row = some r → ∃ o : Obj, A.heap[r]? = some o ∧ o.isCells = false) : TabAt B L B0 g n lt ft := by
  obtain ⟨h0, h0', A1, c1, A2, c2, A3, c3, A4, c4, h1, ⟨h2, h3, h4, h5⟩, h6⟩ := h
  exact ⟨h0, h0', A1, c1, A2, c2, A3, c3, A4, c4, row_grown h1 hg hr, ⟨own_grown h2 hg hr, own_grown h3 hg hr, own_grown h4 hg hr, own_grown h5 hg hr⟩, h6⟩
end Go.Proofs.YtcjnchjmpkapmaaGreat
/- A digest's blocks are rows of cells: what an iterator's state turns is none of them. -/
namespace Go.Proofs.YtcjnchjmpkapmaaGreat
open Go.ChangeShapes Go.WideShapes Go.ChangeAt Go.RowKit
set_option linter.unusedVariables false

end Go.Proofs.YtcjnchjmpkapmaaGreat
