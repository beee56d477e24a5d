/-
  No cell of these rows narrows 'for every input' (looked for: loops, veiled, ifaces, maps, wideKeys, modest, calm, conditions, laid).
  DERIVED. THE GIVEN ROWS OF THIS SEAT. 12 by the template 'for every input the law returns true; each argument reads behind the call as it read before'; 0 by the template 'total and deterministic' (their statements: YtbmmkhbdcaokkaaGreatTotals.lean).
  GIVEN WITH THE SEED: the statements are not yours to turn. If you find one false, say at which input.
  Laid BY PROGRAM, IN A SANDBOX (cutbox-rows.mjs): the forced cells as the released guide's own fill.sh prints them over the translation d3d26b93d958f3e3… (all of the seat's roots in one cut). By AI agents, Wed Nov 11 2026. No macro, syntax, notation, axiom, sorry.
-/
import Derived.Test.YtbmmkhbdcaokkaaGreatChecked
import GoSem.Claim
import GoSem.ClaimJoined
import GoSem.ClaimMapViews
import Derived.JoinedTies
import Derived.KernelRfl
namespace Go.Proofs.YtbmmkhbdcaokkaaGreat
/- THE CELL 'sum', in the pinned program and in every row, IS THE sha256 OF THE DUMP (.gsa) THAT YtbmmkhbdcaokkaaGreatProg.lean LOADS. Nothing in Lean hashes anything: it is a label: what it is worth is what the hold of that sum in a sandbox is worth. -/
noncomputable def Tryz.pinned : Pinned := { name := "ytbmmkhbdcaokkaagreat", sum := "d3d26b93d958f3e35fcbb180e08ec547896bce492d1249d8138f6e7eae4ef82b", checked := Tryz.checked }
namespace Rows
def none {H : Type} : Left H := { results := [], args := [] }

/-- 'dewpondlaw18.ReachOn': WHATEVER THE INPUT: true; the input reads as it did. -/
def reachOnSpec : ChangeSpec := { name := "reachOn", fn := fun _ => fun
  | [d1, d2] => { results := [.lit (.bool true)], args := [d1, d2] }
  | _ => none }
def reachOnRow : OpenClaim := { program := "ytbmmkhbdcaokkaagreat", sum := "d3d26b93d958f3e35fcbb180e08ec547896bce492d1249d8138f6e7eae4ef82b", func := "dewpond/dewpondlaw18.ReachOn", spec := "reachOn", unfollowed := true, recurses := true, apart := false }
def ReachOnSaid : Prop := reachOnRow.holds Tryz.pinned (OpenSpec.ofChange reachOnSpec)

/-- ITS FALSE NEIGHBOUR: 'it returns false'. Refute it at one input. -/
def reachOnWrong : ChangeSpec := { name := "reachOn", fn := fun _ => fun
  | [d1, d2] => { results := [.lit (.bool false)], args := [d1, d2] }
  | _ => none }
def ReachOnWrongFalsely : Prop := reachOnRow.holds Tryz.pinned (OpenSpec.ofChange reachOnWrong)

/-- 'dewpondlaw18.ReachRest': WHATEVER THE INPUT: true; the input reads as it did. -/
def reachRestSpec : ChangeSpec := { name := "reachRest", fn := fun _ => fun
  | [d1, d2, d3] => { results := [.lit (.bool true)], args := [d1, d2, d3] }
  | _ => none }
def reachRestRow : OpenClaim := { program := "ytbmmkhbdcaokkaagreat", sum := "d3d26b93d958f3e35fcbb180e08ec547896bce492d1249d8138f6e7eae4ef82b", func := "dewpond/dewpondlaw18.ReachRest", spec := "reachRest", unfollowed := true, recurses := true, apart := false }
def ReachRestSaid : Prop := reachRestRow.holds Tryz.pinned (OpenSpec.ofChange reachRestSpec)

/-- ITS FALSE NEIGHBOUR: 'it returns false'. Refute it at one input. -/
def reachRestWrong : ChangeSpec := { name := "reachRest", fn := fun _ => fun
  | [d1, d2, d3] => { results := [.lit (.bool false)], args := [d1, d2, d3] }
  | _ => none }
def ReachRestWrongFalsely : Prop := reachRestRow.holds Tryz.pinned (OpenSpec.ofChange reachRestWrong)

/-- 'dewpondlaw19.BinsOf': WHATEVER THE INPUT: true; the input reads as it did. -/
def binsOfSpec : ChangeSpec := { name := "binsOf", fn := fun _ => fun
  | [d1, d2] => { results := [.lit (.bool true)], args := [d1, d2] }
  | _ => none }
def binsOfRow : OpenClaim := { program := "ytbmmkhbdcaokkaagreat", sum := "d3d26b93d958f3e35fcbb180e08ec547896bce492d1249d8138f6e7eae4ef82b", func := "dewpond/dewpondlaw19.BinsOf", spec := "binsOf", unfollowed := true, recurses := true, named := ["math/bits.divideError", "math/bits.overflowError"], apart := false }
def BinsOfSaid : Prop := binsOfRow.holds Tryz.pinned (OpenSpec.ofChange binsOfSpec)

/-- ITS FALSE NEIGHBOUR: 'it returns false'. Refute it at one input. -/
def binsOfWrong : ChangeSpec := { name := "binsOf", fn := fun _ => fun
  | [d1, d2] => { results := [.lit (.bool false)], args := [d1, d2] }
  | _ => none }
def BinsOfWrongFalsely : Prop := binsOfRow.holds Tryz.pinned (OpenSpec.ofChange binsOfWrong)

/-- 'dewpondlaw20.BoundSums': WHATEVER THE INPUT: true; the input reads as it did. -/
def boundSumsSpec : ChangeSpec := { name := "boundSums", fn := fun _ => fun
  | [d] => { results := [.lit (.bool true)], args := [d] }
  | _ => none }
def boundSumsRow : OpenClaim := { program := "ytbmmkhbdcaokkaagreat", sum := "d3d26b93d958f3e35fcbb180e08ec547896bce492d1249d8138f6e7eae4ef82b", func := "dewpond/dewpondlaw20.BoundSums", spec := "boundSums", inPlace := ["math/bits.Add64"], unfollowed := true, recurses := true, named := ["math/bits.divideError", "math/bits.overflowError"], apart := false }
def BoundSumsSaid : Prop := boundSumsRow.holds Tryz.pinned (OpenSpec.ofChange boundSumsSpec)

/-- ITS FALSE NEIGHBOUR: 'it returns false'. Refute it at one input. -/
def boundSumsWrong : ChangeSpec := { name := "boundSums", fn := fun _ => fun
  | [d] => { results := [.lit (.bool false)], args := [d] }
  | _ => none }
def BoundSumsWrongFalsely : Prop := boundSumsRow.holds Tryz.pinned (OpenSpec.ofChange boundSumsWrong)

/-- 'dewpondlaw19.BinsBars': WHATEVER THE INPUT: true; the input reads as it did. -/
def binsBarsSpec : ChangeSpec := { name := "binsBars", fn := fun _ => fun
  | [d1, d2] => { results := [.lit (.bool true)], args := [d1, d2] }
  | _ => none }
def binsBarsRow : OpenClaim := { program := "ytbmmkhbdcaokkaagreat", sum := "d3d26b93d958f3e35fcbb180e08ec547896bce492d1249d8138f6e7eae4ef82b", func := "dewpond/dewpondlaw19.BinsBars", spec := "binsBars", unfollowed := true, recurses := true, named := ["math/bits.divideError", "math/bits.overflowError"], apart := false }
def BinsBarsSaid : Prop := binsBarsRow.holds Tryz.pinned (OpenSpec.ofChange binsBarsSpec)

/-- ITS FALSE NEIGHBOUR: 'it returns false'. Refute it at one input. -/
def binsBarsWrong : ChangeSpec := { name := "binsBars", fn := fun _ => fun
  | [d1, d2] => { results := [.lit (.bool false)], args := [d1, d2] }
  | _ => none }
def BinsBarsWrongFalsely : Prop := binsBarsRow.holds Tryz.pinned (OpenSpec.ofChange binsBarsWrong)

/-- 'dewpondlaw19.BinsBounds': WHATEVER THE INPUT: true; the input reads as it did. -/
def binsBoundsSpec : ChangeSpec := { name := "binsBounds", fn := fun _ => fun
  | [d1, d2] => { results := [.lit (.bool true)], args := [d1, d2] }
  | _ => none }
def binsBoundsRow : OpenClaim := { program := "ytbmmkhbdcaokkaagreat", sum := "d3d26b93d958f3e35fcbb180e08ec547896bce492d1249d8138f6e7eae4ef82b", func := "dewpond/dewpondlaw19.BinsBounds", spec := "binsBounds", unfollowed := true, recurses := true, named := ["math/bits.divideError", "math/bits.overflowError"], apart := false }
def BinsBoundsSaid : Prop := binsBoundsRow.holds Tryz.pinned (OpenSpec.ofChange binsBoundsSpec)

/-- ITS FALSE NEIGHBOUR: 'it returns false'. Refute it at one input. -/
def binsBoundsWrong : ChangeSpec := { name := "binsBounds", fn := fun _ => fun
  | [d1, d2] => { results := [.lit (.bool false)], args := [d1, d2] }
  | _ => none }
def BinsBoundsWrongFalsely : Prop := binsBoundsRow.holds Tryz.pinned (OpenSpec.ofChange binsBoundsWrong)

/-- 'dewpondlaw19.BinsJoin': WHATEVER THE INPUT: true; the input reads as it did. -/
def binsJoinSpec : ChangeSpec := { name := "binsJoin", fn := fun _ => fun
  | [d1, d2, d3] => { results := [.lit (.bool true)], args := [d1, d2, d3] }
  | _ => none }
def binsJoinRow : OpenClaim := { program := "ytbmmkhbdcaokkaagreat", sum := "d3d26b93d958f3e35fcbb180e08ec547896bce492d1249d8138f6e7eae4ef82b", func := "dewpond/dewpondlaw19.BinsJoin", spec := "binsJoin", unfollowed := true, recurses := true, named := ["math/bits.divideError", "math/bits.overflowError"], apart := false }
def BinsJoinSaid : Prop := binsJoinRow.holds Tryz.pinned (OpenSpec.ofChange binsJoinSpec)

/-- ITS FALSE NEIGHBOUR: 'it returns false'. Refute it at one input. -/
def binsJoinWrong : ChangeSpec := { name := "binsJoin", fn := fun _ => fun
  | [d1, d2, d3] => { results := [.lit (.bool false)], args := [d1, d2, d3] }
  | _ => none }
def BinsJoinWrongFalsely : Prop := binsJoinRow.holds Tryz.pinned (OpenSpec.ofChange binsJoinWrong)

/-- 'dewpondlaw19.BinsEven': WHATEVER THE INPUT: true; the input reads as it did. -/
def binsEvenSpec : ChangeSpec := { name := "binsEven", fn := fun _ => fun
  | [d1, d2] => { results := [.lit (.bool true)], args := [d1, d2] }
  | _ => none }
def binsEvenRow : OpenClaim := { program := "ytbmmkhbdcaokkaagreat", sum := "d3d26b93d958f3e35fcbb180e08ec547896bce492d1249d8138f6e7eae4ef82b", func := "dewpond/dewpondlaw19.BinsEven", spec := "binsEven", unfollowed := true, recurses := true, named := ["math/bits.divideError", "math/bits.overflowError"], apart := false }
def BinsEvenSaid : Prop := binsEvenRow.holds Tryz.pinned (OpenSpec.ofChange binsEvenSpec)

/-- ITS FALSE NEIGHBOUR: 'it returns false'. Refute it at one input. -/
def binsEvenWrong : ChangeSpec := { name := "binsEven", fn := fun _ => fun
  | [d1, d2] => { results := [.lit (.bool false)], args := [d1, d2] }
  | _ => none }
def BinsEvenWrongFalsely : Prop := binsEvenRow.holds Tryz.pinned (OpenSpec.ofChange binsEvenWrong)

/-- 'dewpondlaw20.BoundWorst': WHATEVER THE INPUT: true; the input reads as it did. -/
def boundWorstSpec : ChangeSpec := { name := "boundWorst", fn := fun _ => fun
  | [d1, d2, d3] => { results := [.lit (.bool true)], args := [d1, d2, d3] }
  | _ => none }
def boundWorstRow : OpenClaim := { program := "ytbmmkhbdcaokkaagreat", sum := "d3d26b93d958f3e35fcbb180e08ec547896bce492d1249d8138f6e7eae4ef82b", func := "dewpond/dewpondlaw20.BoundWorst", spec := "boundWorst", inPlace := ["math/bits.Add64"], unfollowed := true, recurses := true, named := ["math/bits.divideError", "math/bits.overflowError"], apart := false }
def BoundWorstSaid : Prop := boundWorstRow.holds Tryz.pinned (OpenSpec.ofChange boundWorstSpec)

/-- ITS FALSE NEIGHBOUR: 'it returns false'. Refute it at one input. -/
def boundWorstWrong : ChangeSpec := { name := "boundWorst", fn := fun _ => fun
  | [d1, d2, d3] => { results := [.lit (.bool false)], args := [d1, d2, d3] }
  | _ => none }
def BoundWorstWrongFalsely : Prop := boundWorstRow.holds Tryz.pinned (OpenSpec.ofChange boundWorstWrong)

/-- 'dewpondlaw21.GapSides': WHATEVER THE INPUT: true; the input reads as it did. -/
def gapSidesSpec : ChangeSpec := { name := "gapSides", fn := fun _ => fun
  | [d1, d2, d3] => { results := [.lit (.bool true)], args := [d1, d2, d3] }
  | _ => none }
def gapSidesRow : OpenClaim := { program := "ytbmmkhbdcaokkaagreat", sum := "d3d26b93d958f3e35fcbb180e08ec547896bce492d1249d8138f6e7eae4ef82b", func := "dewpond/dewpondlaw21.GapSides", spec := "gapSides", unfollowed := true, recurses := true, named := ["math/bits.divideError", "math/bits.overflowError"], apart := false }
def GapSidesSaid : Prop := gapSidesRow.holds Tryz.pinned (OpenSpec.ofChange gapSidesSpec)

/-- ITS FALSE NEIGHBOUR: 'it returns false'. Refute it at one input. -/
def gapSidesWrong : ChangeSpec := { name := "gapSides", fn := fun _ => fun
  | [d1, d2, d3] => { results := [.lit (.bool false)], args := [d1, d2, d3] }
  | _ => none }
def GapSidesWrongFalsely : Prop := gapSidesRow.holds Tryz.pinned (OpenSpec.ofChange gapSidesWrong)

/-- 'dewpondlaw21.GapMost': WHATEVER THE INPUT: true; the input reads as it did. -/
def gapMostSpec : ChangeSpec := { name := "gapMost", fn := fun _ => fun
  | [d1, d2, d3] => { results := [.lit (.bool true)], args := [d1, d2, d3] }
  | _ => none }
def gapMostRow : OpenClaim := { program := "ytbmmkhbdcaokkaagreat", sum := "d3d26b93d958f3e35fcbb180e08ec547896bce492d1249d8138f6e7eae4ef82b", func := "dewpond/dewpondlaw21.GapMost", spec := "gapMost", unfollowed := true, recurses := true, named := ["math/bits.divideError", "math/bits.overflowError"], apart := false }
def GapMostSaid : Prop := gapMostRow.holds Tryz.pinned (OpenSpec.ofChange gapMostSpec)

/-- ITS FALSE NEIGHBOUR: 'it returns false'. Refute it at one input. -/
def gapMostWrong : ChangeSpec := { name := "gapMost", fn := fun _ => fun
  | [d1, d2, d3] => { results := [.lit (.bool false)], args := [d1, d2, d3] }
  | _ => none }
def GapMostWrongFalsely : Prop := gapMostRow.holds Tryz.pinned (OpenSpec.ofChange gapMostWrong)

/-- 'dewpondlaw21.GapNobody': WHATEVER THE INPUT: true; the input reads as it did. -/
def gapNobodySpec : ChangeSpec := { name := "gapNobody", fn := fun _ => fun
  | [d1, d2] => { results := [.lit (.bool true)], args := [d1, d2] }
  | _ => none }
def gapNobodyRow : OpenClaim := { program := "ytbmmkhbdcaokkaagreat", sum := "d3d26b93d958f3e35fcbb180e08ec547896bce492d1249d8138f6e7eae4ef82b", func := "dewpond/dewpondlaw21.GapNobody", spec := "gapNobody", unfollowed := true, recurses := true, named := ["math/bits.divideError", "math/bits.overflowError"], apart := false }
def GapNobodySaid : Prop := gapNobodyRow.holds Tryz.pinned (OpenSpec.ofChange gapNobodySpec)

/-- ITS FALSE NEIGHBOUR: 'it returns false'. Refute it at one input. -/
def gapNobodyWrong : ChangeSpec := { name := "gapNobody", fn := fun _ => fun
  | [d1, d2] => { results := [.lit (.bool false)], args := [d1, d2] }
  | _ => none }
def GapNobodyWrongFalsely : Prop := gapNobodyRow.holds Tryz.pinned (OpenSpec.ofChange gapNobodyWrong)

/- THE SECOND FORM. 'bulk': how many values and letters a reading holds, each counted each time it is reached (what is shared counts as often as it is met; a slice's spare places count too). A statement '..UptoSaid' is the law's where the arguments, and the package variables that the reading takes, are together of bulk at most 1048576: NARROWER than '..Said'. Prove '..Said' where nothing that the law and all that it calls make is longer than what came in: it says more and counts as full. Else prove '..UptoSaid'. A law counts once. -/
mutual
def uptoBulk {H : Type} : DataW H → Nat
  | .lit (.string bytes) => bytes.length + 1
  | .lit _ => 1
  | .nil => 1
  | .ptr d => uptoBulk d + 1
  | .slice elems spare => uptoBulkAll elems + uptoBulkAll spare + 1
  | .agg parts => uptoBulkAll parts + 1
  | .iface _ d => uptoBulk d + 1
  | .map entries => uptoBulkEntries entries + 1
  | .held _ => 1
def uptoBulkAll {H : Type} : List (DataW H) → Nat
  | [] => 0
  | d :: r => uptoBulk d + uptoBulkAll r
def uptoBulkEntries {H : Type} : List (Lit × DataW H) → Nat
  | [] => 0
  | x :: r => uptoBulkEntry x + uptoBulkEntries r
def uptoBulkEntry {H : Type} : Lit × DataW H → Nat
  | (.string bytes, d) => bytes.length + uptoBulk d + 1
  | (_, d) => uptoBulk d + 1
 end
def uptoSmall : (H : Type) → List (DataW H) → Bool := fun _ ds => decide (uptoBulkAll ds ≤ 1048576)
def OpenSpec.upto (s : _root_.Go.ChangeSpec) : _root_.Go.OpenSpec := { _root_.Go.OpenSpec.ofChange s with cond := some uptoSmall }

/-- 'dewpondlaw18.ReachOn', WHERE WHAT IT READS IS OF BULK AT MOST 1048576: true; the input reads as it did. -/
def reachOnUptoRow : OpenClaim := { program := "ytbmmkhbdcaokkaagreat", sum := "d3d26b93d958f3e35fcbb180e08ec547896bce492d1249d8138f6e7eae4ef82b", func := "dewpond/dewpondlaw18.ReachOn", spec := "reachOn", unfollowed := true, recurses := true, apart := false, narrowed := true }
def ReachOnUptoSaid : Prop := reachOnUptoRow.holds Tryz.pinned (OpenSpec.upto reachOnSpec)

/-- 'dewpondlaw18.ReachRest', WHERE WHAT IT READS IS OF BULK AT MOST 1048576: true; the input reads as it did. -/
def reachRestUptoRow : OpenClaim := { program := "ytbmmkhbdcaokkaagreat", sum := "d3d26b93d958f3e35fcbb180e08ec547896bce492d1249d8138f6e7eae4ef82b", func := "dewpond/dewpondlaw18.ReachRest", spec := "reachRest", unfollowed := true, recurses := true, apart := false, narrowed := true }
def ReachRestUptoSaid : Prop := reachRestUptoRow.holds Tryz.pinned (OpenSpec.upto reachRestSpec)

/-- 'dewpondlaw19.BinsOf', WHERE WHAT IT READS IS OF BULK AT MOST 1048576: true; the input reads as it did. -/
def binsOfUptoRow : OpenClaim := { program := "ytbmmkhbdcaokkaagreat", sum := "d3d26b93d958f3e35fcbb180e08ec547896bce492d1249d8138f6e7eae4ef82b", func := "dewpond/dewpondlaw19.BinsOf", spec := "binsOf", unfollowed := true, recurses := true, named := ["math/bits.divideError", "math/bits.overflowError"], apart := false, narrowed := true }
def BinsOfUptoSaid : Prop := binsOfUptoRow.holds Tryz.pinned (OpenSpec.upto binsOfSpec)

/-- 'dewpondlaw20.BoundSums', WHERE WHAT IT READS IS OF BULK AT MOST 1048576: true; the input reads as it did. -/
def boundSumsUptoRow : OpenClaim := { program := "ytbmmkhbdcaokkaagreat", sum := "d3d26b93d958f3e35fcbb180e08ec547896bce492d1249d8138f6e7eae4ef82b", func := "dewpond/dewpondlaw20.BoundSums", spec := "boundSums", inPlace := ["math/bits.Add64"], unfollowed := true, recurses := true, named := ["math/bits.divideError", "math/bits.overflowError"], apart := false, narrowed := true }
def BoundSumsUptoSaid : Prop := boundSumsUptoRow.holds Tryz.pinned (OpenSpec.upto boundSumsSpec)

/-- 'dewpondlaw19.BinsBars', WHERE WHAT IT READS IS OF BULK AT MOST 1048576: true; the input reads as it did. -/
def binsBarsUptoRow : OpenClaim := { program := "ytbmmkhbdcaokkaagreat", sum := "d3d26b93d958f3e35fcbb180e08ec547896bce492d1249d8138f6e7eae4ef82b", func := "dewpond/dewpondlaw19.BinsBars", spec := "binsBars", unfollowed := true, recurses := true, named := ["math/bits.divideError", "math/bits.overflowError"], apart := false, narrowed := true }
def BinsBarsUptoSaid : Prop := binsBarsUptoRow.holds Tryz.pinned (OpenSpec.upto binsBarsSpec)

/-- 'dewpondlaw19.BinsBounds', WHERE WHAT IT READS IS OF BULK AT MOST 1048576: true; the input reads as it did. -/
def binsBoundsUptoRow : OpenClaim := { program := "ytbmmkhbdcaokkaagreat", sum := "d3d26b93d958f3e35fcbb180e08ec547896bce492d1249d8138f6e7eae4ef82b", func := "dewpond/dewpondlaw19.BinsBounds", spec := "binsBounds", unfollowed := true, recurses := true, named := ["math/bits.divideError", "math/bits.overflowError"], apart := false, narrowed := true }
def BinsBoundsUptoSaid : Prop := binsBoundsUptoRow.holds Tryz.pinned (OpenSpec.upto binsBoundsSpec)

/-- 'dewpondlaw19.BinsJoin', WHERE WHAT IT READS IS OF BULK AT MOST 1048576: true; the input reads as it did. -/
def binsJoinUptoRow : OpenClaim := { program := "ytbmmkhbdcaokkaagreat", sum := "d3d26b93d958f3e35fcbb180e08ec547896bce492d1249d8138f6e7eae4ef82b", func := "dewpond/dewpondlaw19.BinsJoin", spec := "binsJoin", unfollowed := true, recurses := true, named := ["math/bits.divideError", "math/bits.overflowError"], apart := false, narrowed := true }
def BinsJoinUptoSaid : Prop := binsJoinUptoRow.holds Tryz.pinned (OpenSpec.upto binsJoinSpec)

/-- 'dewpondlaw19.BinsEven', WHERE WHAT IT READS IS OF BULK AT MOST 1048576: true; the input reads as it did. -/
def binsEvenUptoRow : OpenClaim := { program := "ytbmmkhbdcaokkaagreat", sum := "d3d26b93d958f3e35fcbb180e08ec547896bce492d1249d8138f6e7eae4ef82b", func := "dewpond/dewpondlaw19.BinsEven", spec := "binsEven", unfollowed := true, recurses := true, named := ["math/bits.divideError", "math/bits.overflowError"], apart := false, narrowed := true }
def BinsEvenUptoSaid : Prop := binsEvenUptoRow.holds Tryz.pinned (OpenSpec.upto binsEvenSpec)

/-- 'dewpondlaw20.BoundWorst', WHERE WHAT IT READS IS OF BULK AT MOST 1048576: true; the input reads as it did. -/
def boundWorstUptoRow : OpenClaim := { program := "ytbmmkhbdcaokkaagreat", sum := "d3d26b93d958f3e35fcbb180e08ec547896bce492d1249d8138f6e7eae4ef82b", func := "dewpond/dewpondlaw20.BoundWorst", spec := "boundWorst", inPlace := ["math/bits.Add64"], unfollowed := true, recurses := true, named := ["math/bits.divideError", "math/bits.overflowError"], apart := false, narrowed := true }
def BoundWorstUptoSaid : Prop := boundWorstUptoRow.holds Tryz.pinned (OpenSpec.upto boundWorstSpec)

/-- 'dewpondlaw21.GapSides', WHERE WHAT IT READS IS OF BULK AT MOST 1048576: true; the input reads as it did. -/
def gapSidesUptoRow : OpenClaim := { program := "ytbmmkhbdcaokkaagreat", sum := "d3d26b93d958f3e35fcbb180e08ec547896bce492d1249d8138f6e7eae4ef82b", func := "dewpond/dewpondlaw21.GapSides", spec := "gapSides", unfollowed := true, recurses := true, named := ["math/bits.divideError", "math/bits.overflowError"], apart := false, narrowed := true }
def GapSidesUptoSaid : Prop := gapSidesUptoRow.holds Tryz.pinned (OpenSpec.upto gapSidesSpec)

/-- 'dewpondlaw21.GapMost', WHERE WHAT IT READS IS OF BULK AT MOST 1048576: true; the input reads as it did. -/
def gapMostUptoRow : OpenClaim := { program := "ytbmmkhbdcaokkaagreat", sum := "d3d26b93d958f3e35fcbb180e08ec547896bce492d1249d8138f6e7eae4ef82b", func := "dewpond/dewpondlaw21.GapMost", spec := "gapMost", unfollowed := true, recurses := true, named := ["math/bits.divideError", "math/bits.overflowError"], apart := false, narrowed := true }
def GapMostUptoSaid : Prop := gapMostUptoRow.holds Tryz.pinned (OpenSpec.upto gapMostSpec)

/-- 'dewpondlaw21.GapNobody', WHERE WHAT IT READS IS OF BULK AT MOST 1048576: true; the input reads as it did. -/
def gapNobodyUptoRow : OpenClaim := { program := "ytbmmkhbdcaokkaagreat", sum := "d3d26b93d958f3e35fcbb180e08ec547896bce492d1249d8138f6e7eae4ef82b", func := "dewpond/dewpondlaw21.GapNobody", spec := "gapNobody", unfollowed := true, recurses := true, named := ["math/bits.divideError", "math/bits.overflowError"], apart := false, narrowed := true }
def GapNobodyUptoSaid : Prop := gapNobodyUptoRow.holds Tryz.pinned (OpenSpec.upto gapNobodySpec)

end Rows
end Go.Proofs.YtbmmkhbdcaokkaaGreat
