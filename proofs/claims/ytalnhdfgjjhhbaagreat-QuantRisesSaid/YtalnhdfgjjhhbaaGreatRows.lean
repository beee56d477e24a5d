/-
  No cell of these rows narrows 'for every input' (looked for: loops, veiled, ifaces, maps, wideKeys, modest, calm, conditions, laid).
  DERIVED. THE GIVEN ROWS OF THIS SEAT. 9 by the template 'for every input the law returns true; each argument reads behind the call as it read before'; 0 by the template 'total and deterministic' (their statements: YtalnhdfgjjhhbaaGreatTotals.lean).
  GIVEN WITH THE SEED: the statements are not yours to turn. If you find one false, say at which input.
  Laid BY PROGRAM, IN A SANDBOX (cutbox-rows.mjs): the forced cells as the released guide's own fill.sh prints them over the translation 6513970a5fb32d14… (all of the seat's roots in one cut). By AI agents, Wed Nov 11 2026. No macro, syntax, notation, axiom, sorry.
-/
import Derived.Test.YtalnhdfgjjhhbaaGreatChecked
import GoSem.Claim
import GoSem.ClaimJoined
import GoSem.ClaimMapViews
import Derived.JoinedTies
import Derived.KernelRfl
namespace Go.Proofs.YtalnhdfgjjhhbaaGreat
/- THE CELL 'sum', in the pinned program and in every row, IS THE sha256 OF THE DUMP (.gsa) THAT YtalnhdfgjjhhbaaGreatProg.lean LOADS. Nothing in Lean hashes anything: it is a label: what it is worth is what the hold of that sum in a sandbox is worth. -/
noncomputable def Tryz.pinned : Pinned := { name := "ytalnhdfgjjhhbaagreat", sum := "6513970a5fb32d146839cd3d5cac2aa31f16c2c88ff86328c200a243ac49111d", checked := Tryz.checked }
namespace Rows
def none {H : Type} : Left H := { results := [], args := [] }

/-- 'dewpondlaw18.ReachOn': WHATEVER THE INPUT: true; the input reads as it did. -/
def reachOnSpec : ChangeSpec := { name := "reachOn", fn := fun _ => fun
  | [d1, d2] => { results := [.lit (.bool true)], args := [d1, d2] }
  | _ => none }
def reachOnRow : OpenClaim := { program := "ytalnhdfgjjhhbaagreat", sum := "6513970a5fb32d146839cd3d5cac2aa31f16c2c88ff86328c200a243ac49111d", func := "dewpond/dewpondlaw18.ReachOn", spec := "reachOn", unfollowed := true, recurses := true, apart := false }
def ReachOnSaid : Prop := reachOnRow.holds Tryz.pinned (OpenSpec.ofChange reachOnSpec)

/-- ITS FALSE NEIGHBOUR: 'it returns false'. Refute it at one input. -/
def reachOnWrong : ChangeSpec := { name := "reachOn", fn := fun _ => fun
  | [d1, d2] => { results := [.lit (.bool false)], args := [d1, d2] }
  | _ => none }
def ReachOnWrongFalsely : Prop := reachOnRow.holds Tryz.pinned (OpenSpec.ofChange reachOnWrong)

/-- 'dewpondlaw18.ReachRest': WHATEVER THE INPUT: true; the input reads as it did. -/
def reachRestSpec : ChangeSpec := { name := "reachRest", fn := fun _ => fun
  | [d1, d2, d3] => { results := [.lit (.bool true)], args := [d1, d2, d3] }
  | _ => none }
def reachRestRow : OpenClaim := { program := "ytalnhdfgjjhhbaagreat", sum := "6513970a5fb32d146839cd3d5cac2aa31f16c2c88ff86328c200a243ac49111d", func := "dewpond/dewpondlaw18.ReachRest", spec := "reachRest", unfollowed := true, recurses := true, apart := false }
def ReachRestSaid : Prop := reachRestRow.holds Tryz.pinned (OpenSpec.ofChange reachRestSpec)

/-- ITS FALSE NEIGHBOUR: 'it returns false'. Refute it at one input. -/
def reachRestWrong : ChangeSpec := { name := "reachRest", fn := fun _ => fun
  | [d1, d2, d3] => { results := [.lit (.bool false)], args := [d1, d2, d3] }
  | _ => none }
def ReachRestWrongFalsely : Prop := reachRestRow.holds Tryz.pinned (OpenSpec.ofChange reachRestWrong)

/-- 'dewpondlaw17.QuantTells': WHATEVER THE INPUT: true; the input reads as it did. -/
def quantTellsSpec : ChangeSpec := { name := "quantTells", fn := fun _ => fun
  | [d1, d2] => { results := [.lit (.bool true)], args := [d1, d2] }
  | _ => none }
def quantTellsRow : OpenClaim := { program := "ytalnhdfgjjhhbaagreat", sum := "6513970a5fb32d146839cd3d5cac2aa31f16c2c88ff86328c200a243ac49111d", func := "dewpond/dewpondlaw17.QuantTells", spec := "quantTells", unfollowed := true, recurses := true, named := ["math/bits.divideError", "math/bits.overflowError"], apart := false }
def QuantTellsSaid : Prop := quantTellsRow.holds Tryz.pinned (OpenSpec.ofChange quantTellsSpec)

/-- ITS FALSE NEIGHBOUR: 'it returns false'. Refute it at one input. -/
def quantTellsWrong : ChangeSpec := { name := "quantTells", fn := fun _ => fun
  | [d1, d2] => { results := [.lit (.bool false)], args := [d1, d2] }
  | _ => none }
def QuantTellsWrongFalsely : Prop := quantTellsRow.holds Tryz.pinned (OpenSpec.ofChange quantTellsWrong)

/-- 'dewpondlaw17.QuantShares': WHATEVER THE INPUT: true; the input reads as it did. -/
def quantSharesSpec : ChangeSpec := { name := "quantShares", fn := fun _ => fun
  | [d1, d2, d3] => { results := [.lit (.bool true)], args := [d1, d2, d3] }
  | _ => none }
def quantSharesRow : OpenClaim := { program := "ytalnhdfgjjhhbaagreat", sum := "6513970a5fb32d146839cd3d5cac2aa31f16c2c88ff86328c200a243ac49111d", func := "dewpond/dewpondlaw17.QuantShares", spec := "quantShares", unfollowed := true, recurses := true, named := ["math/bits.divideError", "math/bits.overflowError"], apart := false }
def QuantSharesSaid : Prop := quantSharesRow.holds Tryz.pinned (OpenSpec.ofChange quantSharesSpec)

/-- ITS FALSE NEIGHBOUR: 'it returns false'. Refute it at one input. -/
def quantSharesWrong : ChangeSpec := { name := "quantShares", fn := fun _ => fun
  | [d1, d2, d3] => { results := [.lit (.bool false)], args := [d1, d2, d3] }
  | _ => none }
def QuantSharesWrongFalsely : Prop := quantSharesRow.holds Tryz.pinned (OpenSpec.ofChange quantSharesWrong)

/-- 'dewpondlaw17.QuantRises': WHATEVER THE INPUT: true; the input reads as it did. -/
def quantRisesSpec : ChangeSpec := { name := "quantRises", fn := fun _ => fun
  | [d1, d2, d3] => { results := [.lit (.bool true)], args := [d1, d2, d3] }
  | _ => none }
def quantRisesRow : OpenClaim := { program := "ytalnhdfgjjhhbaagreat", sum := "6513970a5fb32d146839cd3d5cac2aa31f16c2c88ff86328c200a243ac49111d", func := "dewpond/dewpondlaw17.QuantRises", spec := "quantRises", unfollowed := true, recurses := true, named := ["math/bits.divideError", "math/bits.overflowError"], apart := false }
def QuantRisesSaid : Prop := quantRisesRow.holds Tryz.pinned (OpenSpec.ofChange quantRisesSpec)

/-- ITS FALSE NEIGHBOUR: 'it returns false'. Refute it at one input. -/
def quantRisesWrong : ChangeSpec := { name := "quantRises", fn := fun _ => fun
  | [d1, d2, d3] => { results := [.lit (.bool false)], args := [d1, d2, d3] }
  | _ => none }
def QuantRisesWrongFalsely : Prop := quantRisesRow.holds Tryz.pinned (OpenSpec.ofChange quantRisesWrong)

/-- 'dewpondlaw19.BinsOf': WHATEVER THE INPUT: true; the input reads as it did. -/
def binsOfSpec : ChangeSpec := { name := "binsOf", fn := fun _ => fun
  | [d1, d2] => { results := [.lit (.bool true)], args := [d1, d2] }
  | _ => none }
def binsOfRow : OpenClaim := { program := "ytalnhdfgjjhhbaagreat", sum := "6513970a5fb32d146839cd3d5cac2aa31f16c2c88ff86328c200a243ac49111d", func := "dewpond/dewpondlaw19.BinsOf", spec := "binsOf", unfollowed := true, recurses := true, named := ["math/bits.divideError", "math/bits.overflowError"], apart := false }
def BinsOfSaid : Prop := binsOfRow.holds Tryz.pinned (OpenSpec.ofChange binsOfSpec)

/-- ITS FALSE NEIGHBOUR: 'it returns false'. Refute it at one input. -/
def binsOfWrong : ChangeSpec := { name := "binsOf", fn := fun _ => fun
  | [d1, d2] => { results := [.lit (.bool false)], args := [d1, d2] }
  | _ => none }
def BinsOfWrongFalsely : Prop := binsOfRow.holds Tryz.pinned (OpenSpec.ofChange binsOfWrong)

/-- 'dewpondlaw20.BoundSums': WHATEVER THE INPUT: true; the input reads as it did. -/
def boundSumsSpec : ChangeSpec := { name := "boundSums", fn := fun _ => fun
  | [d] => { results := [.lit (.bool true)], args := [d] }
  | _ => none }
def boundSumsRow : OpenClaim := { program := "ytalnhdfgjjhhbaagreat", sum := "6513970a5fb32d146839cd3d5cac2aa31f16c2c88ff86328c200a243ac49111d", func := "dewpond/dewpondlaw20.BoundSums", spec := "boundSums", inPlace := ["math/bits.Add64"], unfollowed := true, recurses := true, named := ["math/bits.divideError", "math/bits.overflowError"], apart := false }
def BoundSumsSaid : Prop := boundSumsRow.holds Tryz.pinned (OpenSpec.ofChange boundSumsSpec)

/-- ITS FALSE NEIGHBOUR: 'it returns false'. Refute it at one input. -/
def boundSumsWrong : ChangeSpec := { name := "boundSums", fn := fun _ => fun
  | [d] => { results := [.lit (.bool false)], args := [d] }
  | _ => none }
def BoundSumsWrongFalsely : Prop := boundSumsRow.holds Tryz.pinned (OpenSpec.ofChange boundSumsWrong)

/-- 'dewpondlaw20.BoundEnds': WHATEVER THE INPUT: true; the input reads as it did. -/
def boundEndsSpec : ChangeSpec := { name := "boundEnds", fn := fun _ => fun
  | [d] => { results := [.lit (.bool true)], args := [d] }
  | _ => none }
def boundEndsRow : OpenClaim := { program := "ytalnhdfgjjhhbaagreat", sum := "6513970a5fb32d146839cd3d5cac2aa31f16c2c88ff86328c200a243ac49111d", func := "dewpond/dewpondlaw20.BoundEnds", spec := "boundEnds", inPlace := ["math/bits.Add64"], unfollowed := true, recurses := true, named := ["math/bits.divideError", "math/bits.overflowError"], apart := false }
def BoundEndsSaid : Prop := boundEndsRow.holds Tryz.pinned (OpenSpec.ofChange boundEndsSpec)

/-- ITS FALSE NEIGHBOUR: 'it returns false'. Refute it at one input. -/
def boundEndsWrong : ChangeSpec := { name := "boundEnds", fn := fun _ => fun
  | [d] => { results := [.lit (.bool false)], args := [d] }
  | _ => none }
def BoundEndsWrongFalsely : Prop := boundEndsRow.holds Tryz.pinned (OpenSpec.ofChange boundEndsWrong)

/-- 'dewpondlaw20.BoundNobody': WHATEVER THE INPUT: true; the input reads as it did. -/
def boundNobodySpec : ChangeSpec := { name := "boundNobody", fn := fun _ => fun
  | [d1, d2] => { results := [.lit (.bool true)], args := [d1, d2] }
  | _ => none }
def boundNobodyRow : OpenClaim := { program := "ytalnhdfgjjhhbaagreat", sum := "6513970a5fb32d146839cd3d5cac2aa31f16c2c88ff86328c200a243ac49111d", func := "dewpond/dewpondlaw20.BoundNobody", spec := "boundNobody", inPlace := ["math/bits.Add64"], unfollowed := true, recurses := true, named := ["math/bits.divideError", "math/bits.overflowError"], apart := false }
def BoundNobodySaid : Prop := boundNobodyRow.holds Tryz.pinned (OpenSpec.ofChange boundNobodySpec)

/-- ITS FALSE NEIGHBOUR: 'it returns false'. Refute it at one input. -/
def boundNobodyWrong : ChangeSpec := { name := "boundNobody", fn := fun _ => fun
  | [d1, d2] => { results := [.lit (.bool false)], args := [d1, d2] }
  | _ => none }
def BoundNobodyWrongFalsely : Prop := boundNobodyRow.holds Tryz.pinned (OpenSpec.ofChange boundNobodyWrong)

/- THE SECOND FORM. 'bulk': how many values and letters a reading holds, each counted each time it is reached (what is shared counts as often as it is met; a slice's spare places count too). A statement '..UptoSaid' is the law's where the arguments, and the package variables that the reading takes, are together of bulk at most 1048576: NARROWER than '..Said'. Prove '..Said' where nothing that the law and all that it calls make is longer than what came in: it says more and counts as full. Else prove '..UptoSaid'. A law counts once. -/
mutual
def uptoBulk {H : Type} : DataW H → Nat
  | .lit (.string bytes) => bytes.length + 1
  | .lit _ => 1
  | .nil => 1
  | .ptr d => uptoBulk d + 1
  | .slice elems spare => uptoBulkAll elems + uptoBulkAll spare + 1
  | .agg parts => uptoBulkAll parts + 1
  | .iface _ d => uptoBulk d + 1
  | .map entries => uptoBulkEntries entries + 1
  | .held _ => 1
def uptoBulkAll {H : Type} : List (DataW H) → Nat
  | [] => 0
  | d :: r => uptoBulk d + uptoBulkAll r
def uptoBulkEntries {H : Type} : List (Lit × DataW H) → Nat
  | [] => 0
  | x :: r => uptoBulkEntry x + uptoBulkEntries r
def uptoBulkEntry {H : Type} : Lit × DataW H → Nat
  | (.string bytes, d) => bytes.length + uptoBulk d + 1
  | (_, d) => uptoBulk d + 1
 end
def uptoSmall : (H : Type) → List (DataW H) → Bool := fun _ ds => decide (uptoBulkAll ds ≤ 1048576)
def OpenSpec.upto (s : _root_.Go.ChangeSpec) : _root_.Go.OpenSpec := { _root_.Go.OpenSpec.ofChange s with cond := some uptoSmall }

/-- 'dewpondlaw18.ReachOn', WHERE WHAT IT READS IS OF BULK AT MOST 1048576: true; the input reads as it did. -/
def reachOnUptoRow : OpenClaim := { program := "ytalnhdfgjjhhbaagreat", sum := "6513970a5fb32d146839cd3d5cac2aa31f16c2c88ff86328c200a243ac49111d", func := "dewpond/dewpondlaw18.ReachOn", spec := "reachOn", unfollowed := true, recurses := true, apart := false, narrowed := true }
def ReachOnUptoSaid : Prop := reachOnUptoRow.holds Tryz.pinned (OpenSpec.upto reachOnSpec)

/-- 'dewpondlaw18.ReachRest', WHERE WHAT IT READS IS OF BULK AT MOST 1048576: true; the input reads as it did. -/
def reachRestUptoRow : OpenClaim := { program := "ytalnhdfgjjhhbaagreat", sum := "6513970a5fb32d146839cd3d5cac2aa31f16c2c88ff86328c200a243ac49111d", func := "dewpond/dewpondlaw18.ReachRest", spec := "reachRest", unfollowed := true, recurses := true, apart := false, narrowed := true }
def ReachRestUptoSaid : Prop := reachRestUptoRow.holds Tryz.pinned (OpenSpec.upto reachRestSpec)

/-- 'dewpondlaw17.QuantTells', WHERE WHAT IT READS IS OF BULK AT MOST 1048576: true; the input reads as it did. -/
def quantTellsUptoRow : OpenClaim := { program := "ytalnhdfgjjhhbaagreat", sum := "6513970a5fb32d146839cd3d5cac2aa31f16c2c88ff86328c200a243ac49111d", func := "dewpond/dewpondlaw17.QuantTells", spec := "quantTells", unfollowed := true, recurses := true, named := ["math/bits.divideError", "math/bits.overflowError"], apart := false, narrowed := true }
def QuantTellsUptoSaid : Prop := quantTellsUptoRow.holds Tryz.pinned (OpenSpec.upto quantTellsSpec)

/-- 'dewpondlaw17.QuantShares', WHERE WHAT IT READS IS OF BULK AT MOST 1048576: true; the input reads as it did. -/
def quantSharesUptoRow : OpenClaim := { program := "ytalnhdfgjjhhbaagreat", sum := "6513970a5fb32d146839cd3d5cac2aa31f16c2c88ff86328c200a243ac49111d", func := "dewpond/dewpondlaw17.QuantShares", spec := "quantShares", unfollowed := true, recurses := true, named := ["math/bits.divideError", "math/bits.overflowError"], apart := false, narrowed := true }
def QuantSharesUptoSaid : Prop := quantSharesUptoRow.holds Tryz.pinned (OpenSpec.upto quantSharesSpec)

/-- 'dewpondlaw17.QuantRises', WHERE WHAT IT READS IS OF BULK AT MOST 1048576: true; the input reads as it did. -/
def quantRisesUptoRow : OpenClaim := { program := "ytalnhdfgjjhhbaagreat", sum := "6513970a5fb32d146839cd3d5cac2aa31f16c2c88ff86328c200a243ac49111d", func := "dewpond/dewpondlaw17.QuantRises", spec := "quantRises", unfollowed := true, recurses := true, named := ["math/bits.divideError", "math/bits.overflowError"], apart := false, narrowed := true }
def QuantRisesUptoSaid : Prop := quantRisesUptoRow.holds Tryz.pinned (OpenSpec.upto quantRisesSpec)

/-- 'dewpondlaw19.BinsOf', WHERE WHAT IT READS IS OF BULK AT MOST 1048576: true; the input reads as it did. -/
def binsOfUptoRow : OpenClaim := { program := "ytalnhdfgjjhhbaagreat", sum := "6513970a5fb32d146839cd3d5cac2aa31f16c2c88ff86328c200a243ac49111d", func := "dewpond/dewpondlaw19.BinsOf", spec := "binsOf", unfollowed := true, recurses := true, named := ["math/bits.divideError", "math/bits.overflowError"], apart := false, narrowed := true }
def BinsOfUptoSaid : Prop := binsOfUptoRow.holds Tryz.pinned (OpenSpec.upto binsOfSpec)

/-- 'dewpondlaw20.BoundSums', WHERE WHAT IT READS IS OF BULK AT MOST 1048576: true; the input reads as it did. -/
def boundSumsUptoRow : OpenClaim := { program := "ytalnhdfgjjhhbaagreat", sum := "6513970a5fb32d146839cd3d5cac2aa31f16c2c88ff86328c200a243ac49111d", func := "dewpond/dewpondlaw20.BoundSums", spec := "boundSums", inPlace := ["math/bits.Add64"], unfollowed := true, recurses := true, named := ["math/bits.divideError", "math/bits.overflowError"], apart := false, narrowed := true }
def BoundSumsUptoSaid : Prop := boundSumsUptoRow.holds Tryz.pinned (OpenSpec.upto boundSumsSpec)

/-- 'dewpondlaw20.BoundEnds', WHERE WHAT IT READS IS OF BULK AT MOST 1048576: true; the input reads as it did. -/
def boundEndsUptoRow : OpenClaim := { program := "ytalnhdfgjjhhbaagreat", sum := "6513970a5fb32d146839cd3d5cac2aa31f16c2c88ff86328c200a243ac49111d", func := "dewpond/dewpondlaw20.BoundEnds", spec := "boundEnds", inPlace := ["math/bits.Add64"], unfollowed := true, recurses := true, named := ["math/bits.divideError", "math/bits.overflowError"], apart := false, narrowed := true }
def BoundEndsUptoSaid : Prop := boundEndsUptoRow.holds Tryz.pinned (OpenSpec.upto boundEndsSpec)

/-- 'dewpondlaw20.BoundNobody', WHERE WHAT IT READS IS OF BULK AT MOST 1048576: true; the input reads as it did. -/
def boundNobodyUptoRow : OpenClaim := { program := "ytalnhdfgjjhhbaagreat", sum := "6513970a5fb32d146839cd3d5cac2aa31f16c2c88ff86328c200a243ac49111d", func := "dewpond/dewpondlaw20.BoundNobody", spec := "boundNobody", inPlace := ["math/bits.Add64"], unfollowed := true, recurses := true, named := ["math/bits.divideError", "math/bits.overflowError"], apart := false, narrowed := true }
def BoundNobodyUptoSaid : Prop := boundNobodyUptoRow.holds Tryz.pinned (OpenSpec.upto boundNobodySpec)

end Rows
end Go.Proofs.YtalnhdfgjjhhbaaGreat
