/-
  No cell of these rows narrows 'for every input' (looked for: loops, veiled, ifaces, maps, wideKeys, modest, calm, conditions, laid).
  DERIVED. THE GIVEN ROWS OF THIS SEAT. 12 by the template 'for every input the law returns true; each argument reads behind the call as it read before'; 0 by the template 'total and deterministic' (their statements: YtilkfolhglpaoaaGreatTotals.lean).
  GIVEN WITH THE SEED: the statements are not yours to turn. If you find one false, say at which input.
  Laid BY PROGRAM, IN A SANDBOX (cutbox-rows.mjs): the forced cells as the released guide's own fill.sh prints them over the translation 108609ce98e38ba2… (all of the seat's roots in one cut). By AI agents, Wed Nov 11 2026. No macro, syntax, notation, axiom, sorry.
-/
import Derived.Test.YtilkfolhglpaoaaGreatChecked
import GoSem.Claim
import GoSem.ClaimJoined
import GoSem.ClaimMapViews
import Derived.JoinedTies
import Derived.KernelRfl
namespace Go.Proofs.YtilkfolhglpaoaaGreat
/- THE CELL 'sum', in the pinned program and in every row, IS THE sha256 OF THE DUMP (.gsa) THAT YtilkfolhglpaoaaGreatProg.lean LOADS. Nothing in Lean hashes anything: it is a label: what it is worth is what the hold of that sum in a sandbox is worth. -/
noncomputable def Tryz.pinned : Pinned := { name := "ytilkfolhglpaoaagreat", sum := "108609ce98e38ba20d8e7ad5c8467318dfbfef031adf2a28dc05bb4aa663d088", checked := Tryz.checked }
namespace Rows
def none {H : Type} : Left H := { results := [], args := [] }

/-- 'dewpondlaw19.BinsBars': WHATEVER THE INPUT: true; the input reads as it did. -/
def binsBarsSpec : ChangeSpec := { name := "binsBars", fn := fun _ => fun
  | [d1, d2] => { results := [.lit (.bool true)], args := [d1, d2] }
  | _ => none }
def binsBarsRow : OpenClaim := { program := "ytilkfolhglpaoaagreat", sum := "108609ce98e38ba20d8e7ad5c8467318dfbfef031adf2a28dc05bb4aa663d088", func := "dewpond/dewpondlaw19.BinsBars", spec := "binsBars", unfollowed := true, recurses := true, named := ["math/bits.divideError", "math/bits.overflowError"], apart := false }
def BinsBarsSaid : Prop := binsBarsRow.holds Tryz.pinned (OpenSpec.ofChange binsBarsSpec)

/-- ITS FALSE NEIGHBOUR: 'it returns false'. Refute it at one input. -/
def binsBarsWrong : ChangeSpec := { name := "binsBars", fn := fun _ => fun
  | [d1, d2] => { results := [.lit (.bool false)], args := [d1, d2] }
  | _ => none }
def BinsBarsWrongFalsely : Prop := binsBarsRow.holds Tryz.pinned (OpenSpec.ofChange binsBarsWrong)

/-- 'dewpondlaw19.BinsBounds': WHATEVER THE INPUT: true; the input reads as it did. -/
def binsBoundsSpec : ChangeSpec := { name := "binsBounds", fn := fun _ => fun
  | [d1, d2] => { results := [.lit (.bool true)], args := [d1, d2] }
  | _ => none }
def binsBoundsRow : OpenClaim := { program := "ytilkfolhglpaoaagreat", sum := "108609ce98e38ba20d8e7ad5c8467318dfbfef031adf2a28dc05bb4aa663d088", func := "dewpond/dewpondlaw19.BinsBounds", spec := "binsBounds", unfollowed := true, recurses := true, named := ["math/bits.divideError", "math/bits.overflowError"], apart := false }
def BinsBoundsSaid : Prop := binsBoundsRow.holds Tryz.pinned (OpenSpec.ofChange binsBoundsSpec)

/-- ITS FALSE NEIGHBOUR: 'it returns false'. Refute it at one input. -/
def binsBoundsWrong : ChangeSpec := { name := "binsBounds", fn := fun _ => fun
  | [d1, d2] => { results := [.lit (.bool false)], args := [d1, d2] }
  | _ => none }
def BinsBoundsWrongFalsely : Prop := binsBoundsRow.holds Tryz.pinned (OpenSpec.ofChange binsBoundsWrong)

/-- 'dewpondlaw19.BinsJoin': WHATEVER THE INPUT: true; the input reads as it did. -/
def binsJoinSpec : ChangeSpec := { name := "binsJoin", fn := fun _ => fun
  | [d1, d2, d3] => { results := [.lit (.bool true)], args := [d1, d2, d3] }
  | _ => none }
def binsJoinRow : OpenClaim := { program := "ytilkfolhglpaoaagreat", sum := "108609ce98e38ba20d8e7ad5c8467318dfbfef031adf2a28dc05bb4aa663d088", func := "dewpond/dewpondlaw19.BinsJoin", spec := "binsJoin", unfollowed := true, recurses := true, named := ["math/bits.divideError", "math/bits.overflowError"], apart := false }
def BinsJoinSaid : Prop := binsJoinRow.holds Tryz.pinned (OpenSpec.ofChange binsJoinSpec)

/-- ITS FALSE NEIGHBOUR: 'it returns false'. Refute it at one input. -/
def binsJoinWrong : ChangeSpec := { name := "binsJoin", fn := fun _ => fun
  | [d1, d2, d3] => { results := [.lit (.bool false)], args := [d1, d2, d3] }
  | _ => none }
def BinsJoinWrongFalsely : Prop := binsJoinRow.holds Tryz.pinned (OpenSpec.ofChange binsJoinWrong)

/-- 'dewpondlaw19.BinsEven': WHATEVER THE INPUT: true; the input reads as it did. -/
def binsEvenSpec : ChangeSpec := { name := "binsEven", fn := fun _ => fun
  | [d1, d2] => { results := [.lit (.bool true)], args := [d1, d2] }
  | _ => none }
def binsEvenRow : OpenClaim := { program := "ytilkfolhglpaoaagreat", sum := "108609ce98e38ba20d8e7ad5c8467318dfbfef031adf2a28dc05bb4aa663d088", func := "dewpond/dewpondlaw19.BinsEven", spec := "binsEven", unfollowed := true, recurses := true, named := ["math/bits.divideError", "math/bits.overflowError"], apart := false }
def BinsEvenSaid : Prop := binsEvenRow.holds Tryz.pinned (OpenSpec.ofChange binsEvenSpec)

/-- ITS FALSE NEIGHBOUR: 'it returns false'. Refute it at one input. -/
def binsEvenWrong : ChangeSpec := { name := "binsEven", fn := fun _ => fun
  | [d1, d2] => { results := [.lit (.bool false)], args := [d1, d2] }
  | _ => none }
def BinsEvenWrongFalsely : Prop := binsEvenRow.holds Tryz.pinned (OpenSpec.ofChange binsEvenWrong)

/-- 'dewpondlaw20.BoundWorst': WHATEVER THE INPUT: true; the input reads as it did. -/
def boundWorstSpec : ChangeSpec := { name := "boundWorst", fn := fun _ => fun
  | [d1, d2, d3] => { results := [.lit (.bool true)], args := [d1, d2, d3] }
  | _ => none }
def boundWorstRow : OpenClaim := { program := "ytilkfolhglpaoaagreat", sum := "108609ce98e38ba20d8e7ad5c8467318dfbfef031adf2a28dc05bb4aa663d088", func := "dewpond/dewpondlaw20.BoundWorst", spec := "boundWorst", inPlace := ["math/bits.Add64"], unfollowed := true, recurses := true, named := ["math/bits.divideError", "math/bits.overflowError"], apart := false }
def BoundWorstSaid : Prop := boundWorstRow.holds Tryz.pinned (OpenSpec.ofChange boundWorstSpec)

/-- ITS FALSE NEIGHBOUR: 'it returns false'. Refute it at one input. -/
def boundWorstWrong : ChangeSpec := { name := "boundWorst", fn := fun _ => fun
  | [d1, d2, d3] => { results := [.lit (.bool false)], args := [d1, d2, d3] }
  | _ => none }
def BoundWorstWrongFalsely : Prop := boundWorstRow.holds Tryz.pinned (OpenSpec.ofChange boundWorstWrong)

/-- 'dewpondlaw17.QuantMany': WHATEVER THE INPUT: true; the input reads as it did. -/
def quantManySpec : ChangeSpec := { name := "quantMany", fn := fun _ => fun
  | [d1, d2] => { results := [.lit (.bool true)], args := [d1, d2] }
  | _ => none }
def quantManyRow : OpenClaim := { program := "ytilkfolhglpaoaagreat", sum := "108609ce98e38ba20d8e7ad5c8467318dfbfef031adf2a28dc05bb4aa663d088", func := "dewpond/dewpondlaw17.QuantMany", spec := "quantMany", unfollowed := true, recurses := true, named := ["math/bits.divideError", "math/bits.overflowError"], apart := false }
def QuantManySaid : Prop := quantManyRow.holds Tryz.pinned (OpenSpec.ofChange quantManySpec)

/-- ITS FALSE NEIGHBOUR: 'it returns false'. Refute it at one input. -/
def quantManyWrong : ChangeSpec := { name := "quantMany", fn := fun _ => fun
  | [d1, d2] => { results := [.lit (.bool false)], args := [d1, d2] }
  | _ => none }
def QuantManyWrongFalsely : Prop := quantManyRow.holds Tryz.pinned (OpenSpec.ofChange quantManyWrong)

/-- 'dewpondlaw21.GapSides': WHATEVER THE INPUT: true; the input reads as it did. -/
def gapSidesSpec : ChangeSpec := { name := "gapSides", fn := fun _ => fun
  | [d1, d2, d3] => { results := [.lit (.bool true)], args := [d1, d2, d3] }
  | _ => none }
def gapSidesRow : OpenClaim := { program := "ytilkfolhglpaoaagreat", sum := "108609ce98e38ba20d8e7ad5c8467318dfbfef031adf2a28dc05bb4aa663d088", func := "dewpond/dewpondlaw21.GapSides", spec := "gapSides", unfollowed := true, recurses := true, named := ["math/bits.divideError", "math/bits.overflowError"], apart := false }
def GapSidesSaid : Prop := gapSidesRow.holds Tryz.pinned (OpenSpec.ofChange gapSidesSpec)

/-- ITS FALSE NEIGHBOUR: 'it returns false'. Refute it at one input. -/
def gapSidesWrong : ChangeSpec := { name := "gapSides", fn := fun _ => fun
  | [d1, d2, d3] => { results := [.lit (.bool false)], args := [d1, d2, d3] }
  | _ => none }
def GapSidesWrongFalsely : Prop := gapSidesRow.holds Tryz.pinned (OpenSpec.ofChange gapSidesWrong)

/-- 'dewpondlaw21.GapMost': WHATEVER THE INPUT: true; the input reads as it did. -/
def gapMostSpec : ChangeSpec := { name := "gapMost", fn := fun _ => fun
  | [d1, d2, d3] => { results := [.lit (.bool true)], args := [d1, d2, d3] }
  | _ => none }
def gapMostRow : OpenClaim := { program := "ytilkfolhglpaoaagreat", sum := "108609ce98e38ba20d8e7ad5c8467318dfbfef031adf2a28dc05bb4aa663d088", func := "dewpond/dewpondlaw21.GapMost", spec := "gapMost", unfollowed := true, recurses := true, named := ["math/bits.divideError", "math/bits.overflowError"], apart := false }
def GapMostSaid : Prop := gapMostRow.holds Tryz.pinned (OpenSpec.ofChange gapMostSpec)

/-- ITS FALSE NEIGHBOUR: 'it returns false'. Refute it at one input. -/
def gapMostWrong : ChangeSpec := { name := "gapMost", fn := fun _ => fun
  | [d1, d2, d3] => { results := [.lit (.bool false)], args := [d1, d2, d3] }
  | _ => none }
def GapMostWrongFalsely : Prop := gapMostRow.holds Tryz.pinned (OpenSpec.ofChange gapMostWrong)

/-- 'dewpondlaw21.GapNobody': WHATEVER THE INPUT: true; the input reads as it did. -/
def gapNobodySpec : ChangeSpec := { name := "gapNobody", fn := fun _ => fun
  | [d1, d2] => { results := [.lit (.bool true)], args := [d1, d2] }
  | _ => none }
def gapNobodyRow : OpenClaim := { program := "ytilkfolhglpaoaagreat", sum := "108609ce98e38ba20d8e7ad5c8467318dfbfef031adf2a28dc05bb4aa663d088", func := "dewpond/dewpondlaw21.GapNobody", spec := "gapNobody", unfollowed := true, recurses := true, named := ["math/bits.divideError", "math/bits.overflowError"], apart := false }
def GapNobodySaid : Prop := gapNobodyRow.holds Tryz.pinned (OpenSpec.ofChange gapNobodySpec)

/-- ITS FALSE NEIGHBOUR: 'it returns false'. Refute it at one input. -/
def gapNobodyWrong : ChangeSpec := { name := "gapNobody", fn := fun _ => fun
  | [d1, d2] => { results := [.lit (.bool false)], args := [d1, d2] }
  | _ => none }
def GapNobodyWrongFalsely : Prop := gapNobodyRow.holds Tryz.pinned (OpenSpec.ofChange gapNobodyWrong)

/-- 'dewpondlaw21.GapTurned': WHATEVER THE INPUT: true; the input reads as it did. -/
def gapTurnedSpec : ChangeSpec := { name := "gapTurned", fn := fun _ => fun
  | [d1, d2, d3] => { results := [.lit (.bool true)], args := [d1, d2, d3] }
  | _ => none }
def gapTurnedRow : OpenClaim := { program := "ytilkfolhglpaoaagreat", sum := "108609ce98e38ba20d8e7ad5c8467318dfbfef031adf2a28dc05bb4aa663d088", func := "dewpond/dewpondlaw21.GapTurned", spec := "gapTurned", unfollowed := true, recurses := true, named := ["math/bits.divideError", "math/bits.overflowError"], apart := false }
def GapTurnedSaid : Prop := gapTurnedRow.holds Tryz.pinned (OpenSpec.ofChange gapTurnedSpec)

/-- ITS FALSE NEIGHBOUR: 'it returns false'. Refute it at one input. -/
def gapTurnedWrong : ChangeSpec := { name := "gapTurned", fn := fun _ => fun
  | [d1, d2, d3] => { results := [.lit (.bool false)], args := [d1, d2, d3] }
  | _ => none }
def GapTurnedWrongFalsely : Prop := gapTurnedRow.holds Tryz.pinned (OpenSpec.ofChange gapTurnedWrong)

/-- 'dewpondlaw34.AuditStands': WHATEVER THE INPUT: true; the input reads as it did. -/
def auditStandsSpec : ChangeSpec := { name := "auditStands", fn := fun _ => fun
  | [d1, d2, d3] => { results := [.lit (.bool true)], args := [d1, d2, d3] }
  | _ => none }
def auditStandsRow : OpenClaim := { program := "ytilkfolhglpaoaagreat", sum := "108609ce98e38ba20d8e7ad5c8467318dfbfef031adf2a28dc05bb4aa663d088", func := "dewpond/dewpondlaw34.AuditStands", spec := "auditStands", unfollowed := true, recurses := true, apart := false }
def AuditStandsSaid : Prop := auditStandsRow.holds Tryz.pinned (OpenSpec.ofChange auditStandsSpec)

/-- ITS FALSE NEIGHBOUR: 'it returns false'. Refute it at one input. -/
def auditStandsWrong : ChangeSpec := { name := "auditStands", fn := fun _ => fun
  | [d1, d2, d3] => { results := [.lit (.bool false)], args := [d1, d2, d3] }
  | _ => none }
def AuditStandsWrongFalsely : Prop := auditStandsRow.holds Tryz.pinned (OpenSpec.ofChange auditStandsWrong)

/-- 'dewpondlaw34.AuditBounds': WHATEVER THE INPUT: true; the input reads as it did. -/
def auditBoundsSpec : ChangeSpec := { name := "auditBounds", fn := fun _ => fun
  | [d1, d2, d3] => { results := [.lit (.bool true)], args := [d1, d2, d3] }
  | _ => none }
def auditBoundsRow : OpenClaim := { program := "ytilkfolhglpaoaagreat", sum := "108609ce98e38ba20d8e7ad5c8467318dfbfef031adf2a28dc05bb4aa663d088", func := "dewpond/dewpondlaw34.AuditBounds", spec := "auditBounds", unfollowed := true, recurses := true, apart := false }
def AuditBoundsSaid : Prop := auditBoundsRow.holds Tryz.pinned (OpenSpec.ofChange auditBoundsSpec)

/-- ITS FALSE NEIGHBOUR: 'it returns false'. Refute it at one input. -/
def auditBoundsWrong : ChangeSpec := { name := "auditBounds", fn := fun _ => fun
  | [d1, d2, d3] => { results := [.lit (.bool false)], args := [d1, d2, d3] }
  | _ => none }
def AuditBoundsWrongFalsely : Prop := auditBoundsRow.holds Tryz.pinned (OpenSpec.ofChange auditBoundsWrong)

/- THE SECOND FORM. 'bulk': how many values and letters a reading holds, each counted each time it is reached (what is shared counts as often as it is met; a slice's spare places count too). A statement '..UptoSaid' is the law's where the arguments, and the package variables that the reading takes, are together of bulk at most 1048576: NARROWER than '..Said'. Prove '..Said' where nothing that the law and all that it calls make is longer than what came in: it says more and counts as full. Else prove '..UptoSaid'. A law counts once. -/
mutual
def uptoBulk {H : Type} : DataW H → Nat
  | .lit (.string bytes) => bytes.length + 1
  | .lit _ => 1
  | .nil => 1
  | .ptr d => uptoBulk d + 1
  | .slice elems spare => uptoBulkAll elems + uptoBulkAll spare + 1
  | .agg parts => uptoBulkAll parts + 1
  | .iface _ d => uptoBulk d + 1
  | .map entries => uptoBulkEntries entries + 1
  | .held _ => 1
def uptoBulkAll {H : Type} : List (DataW H) → Nat
  | [] => 0
  | d :: r => uptoBulk d + uptoBulkAll r
def uptoBulkEntries {H : Type} : List (Lit × DataW H) → Nat
  | [] => 0
  | x :: r => uptoBulkEntry x + uptoBulkEntries r
def uptoBulkEntry {H : Type} : Lit × DataW H → Nat
  | (.string bytes, d) => bytes.length + uptoBulk d + 1
  | (_, d) => uptoBulk d + 1
 end
def uptoSmall : (H : Type) → List (DataW H) → Bool := fun _ ds => decide (uptoBulkAll ds ≤ 1048576)
def OpenSpec.upto (s : _root_.Go.ChangeSpec) : _root_.Go.OpenSpec := { _root_.Go.OpenSpec.ofChange s with cond := some uptoSmall }

/-- 'dewpondlaw19.BinsBars', WHERE WHAT IT READS IS OF BULK AT MOST 1048576: true; the input reads as it did. -/
def binsBarsUptoRow : OpenClaim := { program := "ytilkfolhglpaoaagreat", sum := "108609ce98e38ba20d8e7ad5c8467318dfbfef031adf2a28dc05bb4aa663d088", func := "dewpond/dewpondlaw19.BinsBars", spec := "binsBars", unfollowed := true, recurses := true, named := ["math/bits.divideError", "math/bits.overflowError"], apart := false, narrowed := true }
def BinsBarsUptoSaid : Prop := binsBarsUptoRow.holds Tryz.pinned (OpenSpec.upto binsBarsSpec)

/-- 'dewpondlaw19.BinsBounds', WHERE WHAT IT READS IS OF BULK AT MOST 1048576: true; the input reads as it did. -/
def binsBoundsUptoRow : OpenClaim := { program := "ytilkfolhglpaoaagreat", sum := "108609ce98e38ba20d8e7ad5c8467318dfbfef031adf2a28dc05bb4aa663d088", func := "dewpond/dewpondlaw19.BinsBounds", spec := "binsBounds", unfollowed := true, recurses := true, named := ["math/bits.divideError", "math/bits.overflowError"], apart := false, narrowed := true }
def BinsBoundsUptoSaid : Prop := binsBoundsUptoRow.holds Tryz.pinned (OpenSpec.upto binsBoundsSpec)

/-- 'dewpondlaw19.BinsJoin', WHERE WHAT IT READS IS OF BULK AT MOST 1048576: true; the input reads as it did. -/
def binsJoinUptoRow : OpenClaim := { program := "ytilkfolhglpaoaagreat", sum := "108609ce98e38ba20d8e7ad5c8467318dfbfef031adf2a28dc05bb4aa663d088", func := "dewpond/dewpondlaw19.BinsJoin", spec := "binsJoin", unfollowed := true, recurses := true, named := ["math/bits.divideError", "math/bits.overflowError"], apart := false, narrowed := true }
def BinsJoinUptoSaid : Prop := binsJoinUptoRow.holds Tryz.pinned (OpenSpec.upto binsJoinSpec)

/-- 'dewpondlaw19.BinsEven', WHERE WHAT IT READS IS OF BULK AT MOST 1048576: true; the input reads as it did. -/
def binsEvenUptoRow : OpenClaim := { program := "ytilkfolhglpaoaagreat", sum := "108609ce98e38ba20d8e7ad5c8467318dfbfef031adf2a28dc05bb4aa663d088", func := "dewpond/dewpondlaw19.BinsEven", spec := "binsEven", unfollowed := true, recurses := true, named := ["math/bits.divideError", "math/bits.overflowError"], apart := false, narrowed := true }
def BinsEvenUptoSaid : Prop := binsEvenUptoRow.holds Tryz.pinned (OpenSpec.upto binsEvenSpec)

/-- 'dewpondlaw20.BoundWorst', WHERE WHAT IT READS IS OF BULK AT MOST 1048576: true; the input reads as it did. -/
def boundWorstUptoRow : OpenClaim := { program := "ytilkfolhglpaoaagreat", sum := "108609ce98e38ba20d8e7ad5c8467318dfbfef031adf2a28dc05bb4aa663d088", func := "dewpond/dewpondlaw20.BoundWorst", spec := "boundWorst", inPlace := ["math/bits.Add64"], unfollowed := true, recurses := true, named := ["math/bits.divideError", "math/bits.overflowError"], apart := false, narrowed := true }
def BoundWorstUptoSaid : Prop := boundWorstUptoRow.holds Tryz.pinned (OpenSpec.upto boundWorstSpec)

/-- 'dewpondlaw17.QuantMany', WHERE WHAT IT READS IS OF BULK AT MOST 1048576: true; the input reads as it did. -/
def quantManyUptoRow : OpenClaim := { program := "ytilkfolhglpaoaagreat", sum := "108609ce98e38ba20d8e7ad5c8467318dfbfef031adf2a28dc05bb4aa663d088", func := "dewpond/dewpondlaw17.QuantMany", spec := "quantMany", unfollowed := true, recurses := true, named := ["math/bits.divideError", "math/bits.overflowError"], apart := false, narrowed := true }
def QuantManyUptoSaid : Prop := quantManyUptoRow.holds Tryz.pinned (OpenSpec.upto quantManySpec)

/-- 'dewpondlaw21.GapSides', WHERE WHAT IT READS IS OF BULK AT MOST 1048576: true; the input reads as it did. -/
def gapSidesUptoRow : OpenClaim := { program := "ytilkfolhglpaoaagreat", sum := "108609ce98e38ba20d8e7ad5c8467318dfbfef031adf2a28dc05bb4aa663d088", func := "dewpond/dewpondlaw21.GapSides", spec := "gapSides", unfollowed := true, recurses := true, named := ["math/bits.divideError", "math/bits.overflowError"], apart := false, narrowed := true }
def GapSidesUptoSaid : Prop := gapSidesUptoRow.holds Tryz.pinned (OpenSpec.upto gapSidesSpec)

/-- 'dewpondlaw21.GapMost', WHERE WHAT IT READS IS OF BULK AT MOST 1048576: true; the input reads as it did. -/
def gapMostUptoRow : OpenClaim := { program := "ytilkfolhglpaoaagreat", sum := "108609ce98e38ba20d8e7ad5c8467318dfbfef031adf2a28dc05bb4aa663d088", func := "dewpond/dewpondlaw21.GapMost", spec := "gapMost", unfollowed := true, recurses := true, named := ["math/bits.divideError", "math/bits.overflowError"], apart := false, narrowed := true }
def GapMostUptoSaid : Prop := gapMostUptoRow.holds Tryz.pinned (OpenSpec.upto gapMostSpec)

/-- 'dewpondlaw21.GapNobody', WHERE WHAT IT READS IS OF BULK AT MOST 1048576: true; the input reads as it did. -/
def gapNobodyUptoRow : OpenClaim := { program := "ytilkfolhglpaoaagreat", sum := "108609ce98e38ba20d8e7ad5c8467318dfbfef031adf2a28dc05bb4aa663d088", func := "dewpond/dewpondlaw21.GapNobody", spec := "gapNobody", unfollowed := true, recurses := true, named := ["math/bits.divideError", "math/bits.overflowError"], apart := false, narrowed := true }
def GapNobodyUptoSaid : Prop := gapNobodyUptoRow.holds Tryz.pinned (OpenSpec.upto gapNobodySpec)

/-- 'dewpondlaw21.GapTurned', WHERE WHAT IT READS IS OF BULK AT MOST 1048576: true; the input reads as it did. -/
def gapTurnedUptoRow : OpenClaim := { program := "ytilkfolhglpaoaagreat", sum := "108609ce98e38ba20d8e7ad5c8467318dfbfef031adf2a28dc05bb4aa663d088", func := "dewpond/dewpondlaw21.GapTurned", spec := "gapTurned", unfollowed := true, recurses := true, named := ["math/bits.divideError", "math/bits.overflowError"], apart := false, narrowed := true }
def GapTurnedUptoSaid : Prop := gapTurnedUptoRow.holds Tryz.pinned (OpenSpec.upto gapTurnedSpec)

/-- 'dewpondlaw34.AuditStands', WHERE WHAT IT READS IS OF BULK AT MOST 1048576: true; the input reads as it did. -/
def auditStandsUptoRow : OpenClaim := { program := "ytilkfolhglpaoaagreat", sum := "108609ce98e38ba20d8e7ad5c8467318dfbfef031adf2a28dc05bb4aa663d088", func := "dewpond/dewpondlaw34.AuditStands", spec := "auditStands", unfollowed := true, recurses := true, apart := false, narrowed := true }
def AuditStandsUptoSaid : Prop := auditStandsUptoRow.holds Tryz.pinned (OpenSpec.upto auditStandsSpec)

/-- 'dewpondlaw34.AuditBounds', WHERE WHAT IT READS IS OF BULK AT MOST 1048576: true; the input reads as it did. -/
def auditBoundsUptoRow : OpenClaim := { program := "ytilkfolhglpaoaagreat", sum := "108609ce98e38ba20d8e7ad5c8467318dfbfef031adf2a28dc05bb4aa663d088", func := "dewpond/dewpondlaw34.AuditBounds", spec := "auditBounds", unfollowed := true, recurses := true, apart := false, narrowed := true }
def AuditBoundsUptoSaid : Prop := auditBoundsUptoRow.holds Tryz.pinned (OpenSpec.upto auditBoundsSpec)

end Rows
end Go.Proofs.YtilkfolhglpaoaaGreat
