/-
  No cell of these rows narrows 'for every input' (looked for: loops, veiled, ifaces, maps, wideKeys, modest, calm, conditions, laid).
  DERIVED. THE GIVEN ROWS OF THIS SEAT. 11 by the template 'for every input the law returns true; each argument reads behind the call as it read before'; 0 by the template 'total and deterministic' (their statements: YtcjnchjmpkapmaaGreatTotals.lean).
  GIVEN WITH THE SEED: the statements are not yours to turn. If you find one false, say at which input.
  Laid BY PROGRAM, IN A SANDBOX (cutbox-rows.mjs): the forced cells as the released guide's own fill.sh prints them over the translation 9caeb7cc6dab3971… (all of the seat's roots in one cut). By AI agents, Wed Nov 11 2026. No macro, syntax, notation, axiom, sorry.
-/
import Derived.Test.YtcjnchjmpkapmaaGreatChecked
import GoSem.Claim
import GoSem.ClaimJoined
import GoSem.ClaimMapViews
import Derived.JoinedTies
import Derived.KernelRfl
namespace Go.Proofs.YtcjnchjmpkapmaaGreat
/- THE CELL 'sum', in the pinned program and in every row, IS THE sha256 OF THE DUMP (.gsa) THAT YtcjnchjmpkapmaaGreatProg.lean LOADS. Nothing in Lean hashes anything: it is a label: what it is worth is what the hold of that sum in a sandbox is worth. -/
noncomputable def Tryz.pinned : Pinned := { name := "ytcjnchjmpkapmaagreat", sum := "9caeb7cc6dab3971d927d80744ecf8fae57285ad206f41b0d6cdef1e70a2bc4f", checked := Tryz.checked }
namespace Rows
def none {H : Type} : Left H := { results := [], args := [] }

/-- 'dewpondlaw16.RankHolds': WHATEVER THE INPUT: true; the input reads as it did. -/
def rankHoldsSpec : ChangeSpec := { name := "rankHolds", fn := fun _ => fun
  | [d1, d2] => { results := [.lit (.bool true)], args := [d1, d2] }
  | _ => none }
def rankHoldsRow : OpenClaim := { program := "ytcjnchjmpkapmaagreat", sum := "9caeb7cc6dab3971d927d80744ecf8fae57285ad206f41b0d6cdef1e70a2bc4f", func := "dewpond/dewpondlaw16.RankHolds", spec := "rankHolds", unfollowed := true, recurses := true, apart := false }
def RankHoldsSaid : Prop := rankHoldsRow.holds Tryz.pinned (OpenSpec.ofChange rankHoldsSpec)

/-- ITS FALSE NEIGHBOUR: 'it returns false'. Refute it at one input. -/
def rankHoldsWrong : ChangeSpec := { name := "rankHolds", fn := fun _ => fun
  | [d1, d2] => { results := [.lit (.bool false)], args := [d1, d2] }
  | _ => none }
def RankHoldsWrongFalsely : Prop := rankHoldsRow.holds Tryz.pinned (OpenSpec.ofChange rankHoldsWrong)

/-- 'dewpondlaw16.RankMerged': WHATEVER THE INPUT: true; the input reads as it did. -/
def rankMergedSpec : ChangeSpec := { name := "rankMerged", fn := fun _ => fun
  | [d1, d2, d3] => { results := [.lit (.bool true)], args := [d1, d2, d3] }
  | _ => none }
def rankMergedRow : OpenClaim := { program := "ytcjnchjmpkapmaagreat", sum := "9caeb7cc6dab3971d927d80744ecf8fae57285ad206f41b0d6cdef1e70a2bc4f", func := "dewpond/dewpondlaw16.RankMerged", spec := "rankMerged", unfollowed := true, recurses := true, apart := false }
def RankMergedSaid : Prop := rankMergedRow.holds Tryz.pinned (OpenSpec.ofChange rankMergedSpec)

/-- ITS FALSE NEIGHBOUR: 'it returns false'. Refute it at one input. -/
def rankMergedWrong : ChangeSpec := { name := "rankMerged", fn := fun _ => fun
  | [d1, d2, d3] => { results := [.lit (.bool false)], args := [d1, d2, d3] }
  | _ => none }
def RankMergedWrongFalsely : Prop := rankMergedRow.holds Tryz.pinned (OpenSpec.ofChange rankMergedWrong)

/-- 'dewpondlaw16.RankTables': WHATEVER THE INPUT: true; the input reads as it did. -/
def rankTablesSpec : ChangeSpec := { name := "rankTables", fn := fun _ => fun
  | [d1, d2, d3] => { results := [.lit (.bool true)], args := [d1, d2, d3] }
  | _ => none }
def rankTablesRow : OpenClaim := { program := "ytcjnchjmpkapmaagreat", sum := "9caeb7cc6dab3971d927d80744ecf8fae57285ad206f41b0d6cdef1e70a2bc4f", func := "dewpond/dewpondlaw16.RankTables", spec := "rankTables", unfollowed := true, recurses := true, apart := false }
def RankTablesSaid : Prop := rankTablesRow.holds Tryz.pinned (OpenSpec.ofChange rankTablesSpec)

/-- ITS FALSE NEIGHBOUR: 'it returns false'. Refute it at one input. -/
def rankTablesWrong : ChangeSpec := { name := "rankTables", fn := fun _ => fun
  | [d1, d2, d3] => { results := [.lit (.bool false)], args := [d1, d2, d3] }
  | _ => none }
def RankTablesWrongFalsely : Prop := rankTablesRow.holds Tryz.pinned (OpenSpec.ofChange rankTablesWrong)

/-- 'dewpondlaw17.QuantHolds': WHATEVER THE INPUT: true; the input reads as it did. -/
def quantHoldsSpec : ChangeSpec := { name := "quantHolds", fn := fun _ => fun
  | [d1, d2] => { results := [.lit (.bool true)], args := [d1, d2] }
  | _ => none }
def quantHoldsRow : OpenClaim := { program := "ytcjnchjmpkapmaagreat", sum := "9caeb7cc6dab3971d927d80744ecf8fae57285ad206f41b0d6cdef1e70a2bc4f", func := "dewpond/dewpondlaw17.QuantHolds", spec := "quantHolds", unfollowed := true, recurses := true, named := ["math/bits.divideError", "math/bits.overflowError"], apart := false }
def QuantHoldsSaid : Prop := quantHoldsRow.holds Tryz.pinned (OpenSpec.ofChange quantHoldsSpec)

/-- ITS FALSE NEIGHBOUR: 'it returns false'. Refute it at one input. -/
def quantHoldsWrong : ChangeSpec := { name := "quantHolds", fn := fun _ => fun
  | [d1, d2] => { results := [.lit (.bool false)], args := [d1, d2] }
  | _ => none }
def QuantHoldsWrongFalsely : Prop := quantHoldsRow.holds Tryz.pinned (OpenSpec.ofChange quantHoldsWrong)

/-- 'dewpondlaw19.BinsHolds': WHATEVER THE INPUT: true; the input reads as it did. -/
def binsHoldsSpec : ChangeSpec := { name := "binsHolds", fn := fun _ => fun
  | [d1, d2] => { results := [.lit (.bool true)], args := [d1, d2] }
  | _ => none }
def binsHoldsRow : OpenClaim := { program := "ytcjnchjmpkapmaagreat", sum := "9caeb7cc6dab3971d927d80744ecf8fae57285ad206f41b0d6cdef1e70a2bc4f", func := "dewpond/dewpondlaw19.BinsHolds", spec := "binsHolds", unfollowed := true, recurses := true, named := ["math/bits.divideError", "math/bits.overflowError"], apart := false }
def BinsHoldsSaid : Prop := binsHoldsRow.holds Tryz.pinned (OpenSpec.ofChange binsHoldsSpec)

/-- ITS FALSE NEIGHBOUR: 'it returns false'. Refute it at one input. -/
def binsHoldsWrong : ChangeSpec := { name := "binsHolds", fn := fun _ => fun
  | [d1, d2] => { results := [.lit (.bool false)], args := [d1, d2] }
  | _ => none }
def BinsHoldsWrongFalsely : Prop := binsHoldsRow.holds Tryz.pinned (OpenSpec.ofChange binsHoldsWrong)

/-- 'dewpondlaw20.BoundHolds': WHATEVER THE INPUT: true; the input reads as it did. -/
def boundHoldsSpec : ChangeSpec := { name := "boundHolds", fn := fun _ => fun
  | [d1, d2] => { results := [.lit (.bool true)], args := [d1, d2] }
  | _ => none }
def boundHoldsRow : OpenClaim := { program := "ytcjnchjmpkapmaagreat", sum := "9caeb7cc6dab3971d927d80744ecf8fae57285ad206f41b0d6cdef1e70a2bc4f", func := "dewpond/dewpondlaw20.BoundHolds", spec := "boundHolds", inPlace := ["math/bits.Add64"], unfollowed := true, recurses := true, named := ["math/bits.divideError", "math/bits.overflowError"], apart := false }
def BoundHoldsSaid : Prop := boundHoldsRow.holds Tryz.pinned (OpenSpec.ofChange boundHoldsSpec)

/-- ITS FALSE NEIGHBOUR: 'it returns false'. Refute it at one input. -/
def boundHoldsWrong : ChangeSpec := { name := "boundHolds", fn := fun _ => fun
  | [d1, d2] => { results := [.lit (.bool false)], args := [d1, d2] }
  | _ => none }
def BoundHoldsWrongFalsely : Prop := boundHoldsRow.holds Tryz.pinned (OpenSpec.ofChange boundHoldsWrong)

/-- 'dewpondlaw34.AuditChecks': WHATEVER THE INPUT: true; the input reads as it did. -/
def auditChecksSpec : ChangeSpec := { name := "auditChecks", fn := fun _ => fun
  | [d1, d2, d3] => { results := [.lit (.bool true)], args := [d1, d2, d3] }
  | _ => none }
def auditChecksRow : OpenClaim := { program := "ytcjnchjmpkapmaagreat", sum := "9caeb7cc6dab3971d927d80744ecf8fae57285ad206f41b0d6cdef1e70a2bc4f", func := "dewpond/dewpondlaw34.AuditChecks", spec := "auditChecks", unfollowed := true, recurses := true, apart := false }
def AuditChecksSaid : Prop := auditChecksRow.holds Tryz.pinned (OpenSpec.ofChange auditChecksSpec)

/-- ITS FALSE NEIGHBOUR: 'it returns false'. Refute it at one input. -/
def auditChecksWrong : ChangeSpec := { name := "auditChecks", fn := fun _ => fun
  | [d1, d2, d3] => { results := [.lit (.bool false)], args := [d1, d2, d3] }
  | _ => none }
def AuditChecksWrongFalsely : Prop := auditChecksRow.holds Tryz.pinned (OpenSpec.ofChange auditChecksWrong)

/-- 'dewpondlaw34.AuditGood': WHATEVER THE INPUT: true; the input reads as it did. -/
def auditGoodSpec : ChangeSpec := { name := "auditGood", fn := fun _ => fun
  | [d1, d2] => { results := [.lit (.bool true)], args := [d1, d2] }
  | _ => none }
def auditGoodRow : OpenClaim := { program := "ytcjnchjmpkapmaagreat", sum := "9caeb7cc6dab3971d927d80744ecf8fae57285ad206f41b0d6cdef1e70a2bc4f", func := "dewpond/dewpondlaw34.AuditGood", spec := "auditGood", unfollowed := true, recurses := true, apart := false }
def AuditGoodSaid : Prop := auditGoodRow.holds Tryz.pinned (OpenSpec.ofChange auditGoodSpec)

/-- ITS FALSE NEIGHBOUR: 'it returns false'. Refute it at one input. -/
def auditGoodWrong : ChangeSpec := { name := "auditGood", fn := fun _ => fun
  | [d1, d2] => { results := [.lit (.bool false)], args := [d1, d2] }
  | _ => none }
def AuditGoodWrongFalsely : Prop := auditGoodRow.holds Tryz.pinned (OpenSpec.ofChange auditGoodWrong)

/-- 'dewpondlaw21.GapHolds': WHATEVER THE INPUT: true; the input reads as it did. -/
def gapHoldsSpec : ChangeSpec := { name := "gapHolds", fn := fun _ => fun
  | [d1, d2, d3] => { results := [.lit (.bool true)], args := [d1, d2, d3] }
  | _ => none }
def gapHoldsRow : OpenClaim := { program := "ytcjnchjmpkapmaagreat", sum := "9caeb7cc6dab3971d927d80744ecf8fae57285ad206f41b0d6cdef1e70a2bc4f", func := "dewpond/dewpondlaw21.GapHolds", spec := "gapHolds", unfollowed := true, recurses := true, named := ["math/bits.divideError", "math/bits.overflowError"], apart := false }
def GapHoldsSaid : Prop := gapHoldsRow.holds Tryz.pinned (OpenSpec.ofChange gapHoldsSpec)

/-- ITS FALSE NEIGHBOUR: 'it returns false'. Refute it at one input. -/
def gapHoldsWrong : ChangeSpec := { name := "gapHolds", fn := fun _ => fun
  | [d1, d2, d3] => { results := [.lit (.bool false)], args := [d1, d2, d3] }
  | _ => none }
def GapHoldsWrongFalsely : Prop := gapHoldsRow.holds Tryz.pinned (OpenSpec.ofChange gapHoldsWrong)

/-- 'dewpondlaw31.SensorNew': WHATEVER THE INPUT: true; the input reads as it did. -/
def sensorNewSpec : ChangeSpec := { name := "sensorNew", fn := fun _ => fun
  | [d] => { results := [.lit (.bool true)], args := [d] }
  | _ => none }
def sensorNewRow : OpenClaim := { program := "ytcjnchjmpkapmaagreat", sum := "9caeb7cc6dab3971d927d80744ecf8fae57285ad206f41b0d6cdef1e70a2bc4f", func := "dewpond/dewpondlaw31.SensorNew", spec := "sensorNew", unfollowed := true, recurses := true, apart := false }
def SensorNewSaid : Prop := sensorNewRow.holds Tryz.pinned (OpenSpec.ofChange sensorNewSpec)

/-- ITS FALSE NEIGHBOUR: 'it returns false'. Refute it at one input. -/
def sensorNewWrong : ChangeSpec := { name := "sensorNew", fn := fun _ => fun
  | [d] => { results := [.lit (.bool false)], args := [d] }
  | _ => none }
def SensorNewWrongFalsely : Prop := sensorNewRow.holds Tryz.pinned (OpenSpec.ofChange sensorNewWrong)

/-- 'dewpondlaw31.SensorTakes': WHATEVER THE INPUT: true; the input reads as it did. -/
def sensorTakesSpec : ChangeSpec := { name := "sensorTakes", fn := fun _ => fun
  | [d1, d2, d3, d4] => { results := [.lit (.bool true)], args := [d1, d2, d3, d4] }
  | _ => none }
def sensorTakesRow : OpenClaim := { program := "ytcjnchjmpkapmaagreat", sum := "9caeb7cc6dab3971d927d80744ecf8fae57285ad206f41b0d6cdef1e70a2bc4f", func := "dewpond/dewpondlaw31.SensorTakes", spec := "sensorTakes", unfollowed := true, recurses := true, apart := false }
def SensorTakesSaid : Prop := sensorTakesRow.holds Tryz.pinned (OpenSpec.ofChange sensorTakesSpec)

/-- ITS FALSE NEIGHBOUR: 'it returns false'. Refute it at one input. -/
def sensorTakesWrong : ChangeSpec := { name := "sensorTakes", fn := fun _ => fun
  | [d1, d2, d3, d4] => { results := [.lit (.bool false)], args := [d1, d2, d3, d4] }
  | _ => none }
def SensorTakesWrongFalsely : Prop := sensorTakesRow.holds Tryz.pinned (OpenSpec.ofChange sensorTakesWrong)

/- THE SECOND FORM. 'bulk': how many values and letters a reading holds, each counted each time it is reached (what is shared counts as often as it is met; a slice's spare places count too). A statement '..UptoSaid' is the law's where the arguments, and the package variables that the reading takes, are together of bulk at most 1048576: NARROWER than '..Said'. Prove '..Said' where nothing that the law and all that it calls make is longer than what came in: it says more and counts as full. Else prove '..UptoSaid'. A law counts once. -/
mutual
def uptoBulk {H : Type} : DataW H → Nat
  | .lit (.string bytes) => bytes.length + 1
  | .lit _ => 1
  | .nil => 1
  | .ptr d => uptoBulk d + 1
  | .slice elems spare => uptoBulkAll elems + uptoBulkAll spare + 1
  | .agg parts => uptoBulkAll parts + 1
  | .iface _ d => uptoBulk d + 1
  | .map entries => uptoBulkEntries entries + 1
  | .held _ => 1
def uptoBulkAll {H : Type} : List (DataW H) → Nat
  | [] => 0
  | d :: r => uptoBulk d + uptoBulkAll r
def uptoBulkEntries {H : Type} : List (Lit × DataW H) → Nat
  | [] => 0
  | x :: r => uptoBulkEntry x + uptoBulkEntries r
def uptoBulkEntry {H : Type} : Lit × DataW H → Nat
  | (.string bytes, d) => bytes.length + uptoBulk d + 1
  | (_, d) => uptoBulk d + 1
 end
def uptoSmall : (H : Type) → List (DataW H) → Bool := fun _ ds => decide (uptoBulkAll ds ≤ 1048576)
def OpenSpec.upto (s : _root_.Go.ChangeSpec) : _root_.Go.OpenSpec := { _root_.Go.OpenSpec.ofChange s with cond := some uptoSmall }

/-- 'dewpondlaw16.RankHolds', WHERE WHAT IT READS IS OF BULK AT MOST 1048576: true; the input reads as it did. -/
def rankHoldsUptoRow : OpenClaim := { program := "ytcjnchjmpkapmaagreat", sum := "9caeb7cc6dab3971d927d80744ecf8fae57285ad206f41b0d6cdef1e70a2bc4f", func := "dewpond/dewpondlaw16.RankHolds", spec := "rankHolds", unfollowed := true, recurses := true, apart := false, narrowed := true }
def RankHoldsUptoSaid : Prop := rankHoldsUptoRow.holds Tryz.pinned (OpenSpec.upto rankHoldsSpec)

/-- 'dewpondlaw16.RankMerged', WHERE WHAT IT READS IS OF BULK AT MOST 1048576: true; the input reads as it did. -/
def rankMergedUptoRow : OpenClaim := { program := "ytcjnchjmpkapmaagreat", sum := "9caeb7cc6dab3971d927d80744ecf8fae57285ad206f41b0d6cdef1e70a2bc4f", func := "dewpond/dewpondlaw16.RankMerged", spec := "rankMerged", unfollowed := true, recurses := true, apart := false, narrowed := true }
def RankMergedUptoSaid : Prop := rankMergedUptoRow.holds Tryz.pinned (OpenSpec.upto rankMergedSpec)

/-- 'dewpondlaw16.RankTables', WHERE WHAT IT READS IS OF BULK AT MOST 1048576: true; the input reads as it did. -/
def rankTablesUptoRow : OpenClaim := { program := "ytcjnchjmpkapmaagreat", sum := "9caeb7cc6dab3971d927d80744ecf8fae57285ad206f41b0d6cdef1e70a2bc4f", func := "dewpond/dewpondlaw16.RankTables", spec := "rankTables", unfollowed := true, recurses := true, apart := false, narrowed := true }
def RankTablesUptoSaid : Prop := rankTablesUptoRow.holds Tryz.pinned (OpenSpec.upto rankTablesSpec)

/-- 'dewpondlaw17.QuantHolds', WHERE WHAT IT READS IS OF BULK AT MOST 1048576: true; the input reads as it did. -/
def quantHoldsUptoRow : OpenClaim := { program := "ytcjnchjmpkapmaagreat", sum := "9caeb7cc6dab3971d927d80744ecf8fae57285ad206f41b0d6cdef1e70a2bc4f", func := "dewpond/dewpondlaw17.QuantHolds", spec := "quantHolds", unfollowed := true, recurses := true, named := ["math/bits.divideError", "math/bits.overflowError"], apart := false, narrowed := true }
def QuantHoldsUptoSaid : Prop := quantHoldsUptoRow.holds Tryz.pinned (OpenSpec.upto quantHoldsSpec)

/-- 'dewpondlaw19.BinsHolds', WHERE WHAT IT READS IS OF BULK AT MOST 1048576: true; the input reads as it did. -/
def binsHoldsUptoRow : OpenClaim := { program := "ytcjnchjmpkapmaagreat", sum := "9caeb7cc6dab3971d927d80744ecf8fae57285ad206f41b0d6cdef1e70a2bc4f", func := "dewpond/dewpondlaw19.BinsHolds", spec := "binsHolds", unfollowed := true, recurses := true, named := ["math/bits.divideError", "math/bits.overflowError"], apart := false, narrowed := true }
def BinsHoldsUptoSaid : Prop := binsHoldsUptoRow.holds Tryz.pinned (OpenSpec.upto binsHoldsSpec)

/-- 'dewpondlaw20.BoundHolds', WHERE WHAT IT READS IS OF BULK AT MOST 1048576: true; the input reads as it did. -/
def boundHoldsUptoRow : OpenClaim := { program := "ytcjnchjmpkapmaagreat", sum := "9caeb7cc6dab3971d927d80744ecf8fae57285ad206f41b0d6cdef1e70a2bc4f", func := "dewpond/dewpondlaw20.BoundHolds", spec := "boundHolds", inPlace := ["math/bits.Add64"], unfollowed := true, recurses := true, named := ["math/bits.divideError", "math/bits.overflowError"], apart := false, narrowed := true }
def BoundHoldsUptoSaid : Prop := boundHoldsUptoRow.holds Tryz.pinned (OpenSpec.upto boundHoldsSpec)

/-- 'dewpondlaw34.AuditChecks', WHERE WHAT IT READS IS OF BULK AT MOST 1048576: true; the input reads as it did. -/
def auditChecksUptoRow : OpenClaim := { program := "ytcjnchjmpkapmaagreat", sum := "9caeb7cc6dab3971d927d80744ecf8fae57285ad206f41b0d6cdef1e70a2bc4f", func := "dewpond/dewpondlaw34.AuditChecks", spec := "auditChecks", unfollowed := true, recurses := true, apart := false, narrowed := true }
def AuditChecksUptoSaid : Prop := auditChecksUptoRow.holds Tryz.pinned (OpenSpec.upto auditChecksSpec)

/-- 'dewpondlaw34.AuditGood', WHERE WHAT IT READS IS OF BULK AT MOST 1048576: true; the input reads as it did. -/
def auditGoodUptoRow : OpenClaim := { program := "ytcjnchjmpkapmaagreat", sum := "9caeb7cc6dab3971d927d80744ecf8fae57285ad206f41b0d6cdef1e70a2bc4f", func := "dewpond/dewpondlaw34.AuditGood", spec := "auditGood", unfollowed := true, recurses := true, apart := false, narrowed := true }
def AuditGoodUptoSaid : Prop := auditGoodUptoRow.holds Tryz.pinned (OpenSpec.upto auditGoodSpec)

/-- 'dewpondlaw21.GapHolds', WHERE WHAT IT READS IS OF BULK AT MOST 1048576: true; the input reads as it did. -/
def gapHoldsUptoRow : OpenClaim := { program := "ytcjnchjmpkapmaagreat", sum := "9caeb7cc6dab3971d927d80744ecf8fae57285ad206f41b0d6cdef1e70a2bc4f", func := "dewpond/dewpondlaw21.GapHolds", spec := "gapHolds", unfollowed := true, recurses := true, named := ["math/bits.divideError", "math/bits.overflowError"], apart := false, narrowed := true }
def GapHoldsUptoSaid : Prop := gapHoldsUptoRow.holds Tryz.pinned (OpenSpec.upto gapHoldsSpec)

/-- 'dewpondlaw31.SensorNew', WHERE WHAT IT READS IS OF BULK AT MOST 1048576: true; the input reads as it did. -/
def sensorNewUptoRow : OpenClaim := { program := "ytcjnchjmpkapmaagreat", sum := "9caeb7cc6dab3971d927d80744ecf8fae57285ad206f41b0d6cdef1e70a2bc4f", func := "dewpond/dewpondlaw31.SensorNew", spec := "sensorNew", unfollowed := true, recurses := true, apart := false, narrowed := true }
def SensorNewUptoSaid : Prop := sensorNewUptoRow.holds Tryz.pinned (OpenSpec.upto sensorNewSpec)

/-- 'dewpondlaw31.SensorTakes', WHERE WHAT IT READS IS OF BULK AT MOST 1048576: true; the input reads as it did. -/
def sensorTakesUptoRow : OpenClaim := { program := "ytcjnchjmpkapmaagreat", sum := "9caeb7cc6dab3971d927d80744ecf8fae57285ad206f41b0d6cdef1e70a2bc4f", func := "dewpond/dewpondlaw31.SensorTakes", spec := "sensorTakes", unfollowed := true, recurses := true, apart := false, narrowed := true }
def SensorTakesUptoSaid : Prop := sensorTakesUptoRow.holds Tryz.pinned (OpenSpec.upto sensorTakesSpec)

end Rows
end Go.Proofs.YtcjnchjmpkapmaaGreat
