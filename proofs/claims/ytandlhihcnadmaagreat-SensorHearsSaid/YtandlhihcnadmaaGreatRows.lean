/-
  No cell of these rows narrows 'for every input' (looked for: loops, veiled, ifaces, maps, wideKeys, modest, calm, conditions, laid).
  DERIVED. THE GIVEN ROWS OF THIS SEAT. 3 by the template 'for every input the law returns true; each argument reads behind the call as it read before'; 0 by the template 'total and deterministic' (their statements: YtandlhihcnadmaaGreatTotals.lean).
  GIVEN WITH THE SEED: the statements are not yours to turn. If you find one false, say at which input.
  Laid BY PROGRAM, IN A SANDBOX (cutbox-rows.mjs): the forced cells as the released guide's own fill.sh prints them over the translation 71a82815bf0071de… (all of the seat's roots in one cut). By AI agents, Wed Nov 11 2026. No macro, syntax, notation, axiom, sorry.
-/
import Derived.Test.YtandlhihcnadmaaGreatChecked
import GoSem.Claim
import GoSem.ClaimJoined
import GoSem.ClaimMapViews
import Derived.JoinedTies
import Derived.KernelRfl
namespace Go.Proofs.YtandlhihcnadmaaGreat
/- THE CELL 'sum', in the pinned program and in every row, IS THE sha256 OF THE DUMP (.gsa) THAT YtandlhihcnadmaaGreatProg.lean LOADS. Nothing in Lean hashes anything: it is a label: what it is worth is what the hold of that sum in a sandbox is worth. -/
noncomputable def Tryz.pinned : Pinned := { name := "ytandlhihcnadmaagreat", sum := "71a82815bf0071de1e6816b636631171d3ded5f48ebfc97e5181a060fbd5af6b", checked := Tryz.checked }
namespace Rows
def none {H : Type} : Left H := { results := [], args := [] }

/-- 'dewpondlaw31.SensorPlays': WHATEVER THE INPUT: true; the input reads as it did. -/
def sensorPlaysSpec : ChangeSpec := { name := "sensorPlays", fn := fun _ => fun
  | [d1, d2] => { results := [.lit (.bool true)], args := [d1, d2] }
  | _ => none }
def sensorPlaysRow : OpenClaim := { program := "ytandlhihcnadmaagreat", sum := "71a82815bf0071de1e6816b636631171d3ded5f48ebfc97e5181a060fbd5af6b", func := "dewpond/dewpondlaw31.SensorPlays", spec := "sensorPlays", unfollowed := true, recurses := true, apart := false }
def SensorPlaysSaid : Prop := sensorPlaysRow.holds Tryz.pinned (OpenSpec.ofChange sensorPlaysSpec)

/-- ITS FALSE NEIGHBOUR: 'it returns false'. Refute it at one input. -/
def sensorPlaysWrong : ChangeSpec := { name := "sensorPlays", fn := fun _ => fun
  | [d1, d2] => { results := [.lit (.bool false)], args := [d1, d2] }
  | _ => none }
def SensorPlaysWrongFalsely : Prop := sensorPlaysRow.holds Tryz.pinned (OpenSpec.ofChange sensorPlaysWrong)

/-- 'dewpondlaw31.SensorHears': WHATEVER THE INPUT: true; the input reads as it did. -/
def sensorHearsSpec : ChangeSpec := { name := "sensorHears", fn := fun _ => fun
  | [d1, d2, d3] => { results := [.lit (.bool true)], args := [d1, d2, d3] }
  | _ => none }
def sensorHearsRow : OpenClaim := { program := "ytandlhihcnadmaagreat", sum := "71a82815bf0071de1e6816b636631171d3ded5f48ebfc97e5181a060fbd5af6b", func := "dewpond/dewpondlaw31.SensorHears", spec := "sensorHears", unfollowed := true, recurses := true, apart := false }
def SensorHearsSaid : Prop := sensorHearsRow.holds Tryz.pinned (OpenSpec.ofChange sensorHearsSpec)

/-- ITS FALSE NEIGHBOUR: 'it returns false'. Refute it at one input. -/
def sensorHearsWrong : ChangeSpec := { name := "sensorHears", fn := fun _ => fun
  | [d1, d2, d3] => { results := [.lit (.bool false)], args := [d1, d2, d3] }
  | _ => none }
def SensorHearsWrongFalsely : Prop := sensorHearsRow.holds Tryz.pinned (OpenSpec.ofChange sensorHearsWrong)

/-- 'dewpondlaw31.SensorCounts': WHATEVER THE INPUT: true; the input reads as it did. -/
def sensorCountsSpec : ChangeSpec := { name := "sensorCounts", fn := fun _ => fun
  | [d1, d2, d3] => { results := [.lit (.bool true)], args := [d1, d2, d3] }
  | _ => none }
def sensorCountsRow : OpenClaim := { program := "ytandlhihcnadmaagreat", sum := "71a82815bf0071de1e6816b636631171d3ded5f48ebfc97e5181a060fbd5af6b", func := "dewpond/dewpondlaw31.SensorCounts", spec := "sensorCounts", unfollowed := true, recurses := true, apart := false }
def SensorCountsSaid : Prop := sensorCountsRow.holds Tryz.pinned (OpenSpec.ofChange sensorCountsSpec)

/-- ITS FALSE NEIGHBOUR: 'it returns false'. Refute it at one input. -/
def sensorCountsWrong : ChangeSpec := { name := "sensorCounts", fn := fun _ => fun
  | [d1, d2, d3] => { results := [.lit (.bool false)], args := [d1, d2, d3] }
  | _ => none }
def SensorCountsWrongFalsely : Prop := sensorCountsRow.holds Tryz.pinned (OpenSpec.ofChange sensorCountsWrong)

/- THE SECOND FORM. 'bulk': how many values and letters a reading holds, each counted each time it is reached (what is shared counts as often as it is met; a slice's spare places count too). A statement '..UptoSaid' is the law's where the arguments, and the package variables that the reading takes, are together of bulk at most 1048576: NARROWER than '..Said'. Prove '..Said' where nothing that the law and all that it calls make is longer than what came in: it says more and counts as full. Else prove '..UptoSaid'. A law counts once. -/
mutual
def uptoBulk {H : Type} : DataW H → Nat
  | .lit (.string bytes) => bytes.length + 1
  | .lit _ => 1
  | .nil => 1
  | .ptr d => uptoBulk d + 1
  | .slice elems spare => uptoBulkAll elems + uptoBulkAll spare + 1
  | .agg parts => uptoBulkAll parts + 1
  | .iface _ d => uptoBulk d + 1
  | .map entries => uptoBulkEntries entries + 1
  | .held _ => 1
def uptoBulkAll {H : Type} : List (DataW H) → Nat
  | [] => 0
  | d :: r => uptoBulk d + uptoBulkAll r
def uptoBulkEntries {H : Type} : List (Lit × DataW H) → Nat
  | [] => 0
  | x :: r => uptoBulkEntry x + uptoBulkEntries r
def uptoBulkEntry {H : Type} : Lit × DataW H → Nat
  | (.string bytes, d) => bytes.length + uptoBulk d + 1
  | (_, d) => uptoBulk d + 1
 end
def uptoSmall : (H : Type) → List (DataW H) → Bool := fun _ ds => decide (uptoBulkAll ds ≤ 1048576)
def OpenSpec.upto (s : _root_.Go.ChangeSpec) : _root_.Go.OpenSpec := { _root_.Go.OpenSpec.ofChange s with cond := some uptoSmall }

/-- 'dewpondlaw31.SensorPlays', WHERE WHAT IT READS IS OF BULK AT MOST 1048576: true; the input reads as it did. -/
def sensorPlaysUptoRow : OpenClaim := { program := "ytandlhihcnadmaagreat", sum := "71a82815bf0071de1e6816b636631171d3ded5f48ebfc97e5181a060fbd5af6b", func := "dewpond/dewpondlaw31.SensorPlays", spec := "sensorPlays", unfollowed := true, recurses := true, apart := false, narrowed := true }
def SensorPlaysUptoSaid : Prop := sensorPlaysUptoRow.holds Tryz.pinned (OpenSpec.upto sensorPlaysSpec)

/-- 'dewpondlaw31.SensorHears', WHERE WHAT IT READS IS OF BULK AT MOST 1048576: true; the input reads as it did. -/
def sensorHearsUptoRow : OpenClaim := { program := "ytandlhihcnadmaagreat", sum := "71a82815bf0071de1e6816b636631171d3ded5f48ebfc97e5181a060fbd5af6b", func := "dewpond/dewpondlaw31.SensorHears", spec := "sensorHears", unfollowed := true, recurses := true, apart := false, narrowed := true }
def SensorHearsUptoSaid : Prop := sensorHearsUptoRow.holds Tryz.pinned (OpenSpec.upto sensorHearsSpec)

/-- 'dewpondlaw31.SensorCounts', WHERE WHAT IT READS IS OF BULK AT MOST 1048576: true; the input reads as it did. -/
def sensorCountsUptoRow : OpenClaim := { program := "ytandlhihcnadmaagreat", sum := "71a82815bf0071de1e6816b636631171d3ded5f48ebfc97e5181a060fbd5af6b", func := "dewpond/dewpondlaw31.SensorCounts", spec := "sensorCounts", unfollowed := true, recurses := true, apart := false, narrowed := true }
def SensorCountsUptoSaid : Prop := sensorCountsUptoRow.holds Tryz.pinned (OpenSpec.upto sensorCountsSpec)

end Rows
end Go.Proofs.YtandlhihcnadmaaGreat
