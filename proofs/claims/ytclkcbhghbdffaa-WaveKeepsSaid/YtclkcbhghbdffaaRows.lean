/-
  No cell of these rows narrows 'for every input' (looked for: loops, veiled, ifaces, maps, wideKeys, modest, calm, conditions, laid).
  DERIVED. THE GIVEN ROWS OF THIS SEAT. 4 by the template 'for every input the law returns true; each argument reads behind the call as it read before'; 0 by the template 'total and deterministic' (their statements: YtclkcbhghbdffaaTotals.lean).
  GIVEN WITH THE SEED: the statements are not yours to turn. If you find one false, say at which input.
  Laid BY PROGRAM, IN A SANDBOX (cutbox-rows.mjs): the forced cells as the released guide's own fill.sh prints them over the translation f588421f34f10f28… (all of the seat's roots in one cut). By AI agents, Wed Nov 11 2026. No macro, syntax, notation, axiom, sorry.
-/
import Derived.Test.YtclkcbhghbdffaaChecked
import GoSem.Claim
import GoSem.ClaimJoined
import GoSem.ClaimMapViews
import Derived.JoinedTies
import Derived.KernelRfl
namespace Go.Proofs.Ytclkcbhghbdffaa
/- THE CELL 'sum', in the pinned program and in every row, IS THE sha256 OF THE DUMP (.gsa) THAT YtclkcbhghbdffaaProg.lean LOADS. Nothing in Lean hashes anything: it is a label: what it is worth is what the hold of that sum in a sandbox is worth. -/
noncomputable def Try.pinned : Pinned := { name := "ytclkcbhghbdffaa", sum := "f588421f34f10f28e02d7441948579b0e3c14cdbeeffd69a11c5f95597ea2784", checked := Try.checked }
namespace Rows
def none {H : Type} : Left H := { results := [], args := [] }

/-- 'dewpondlaw30.WaveFull': WHATEVER THE INPUT: true; the input reads as it did. -/
def waveFullSpec : ChangeSpec := { name := "waveFull", fn := fun _ => fun
  | [d1, d2, d3] => { results := [.lit (.bool true)], args := [d1, d2, d3] }
  | _ => none }
def waveFullRow : OpenClaim := { program := "ytclkcbhghbdffaa", sum := "f588421f34f10f28e02d7441948579b0e3c14cdbeeffd69a11c5f95597ea2784", func := "dewpond/dewpondlaw30.WaveFull", spec := "waveFull", apart := false }
def WaveFullSaid : Prop := waveFullRow.holds Try.pinned (OpenSpec.ofChange waveFullSpec)

/-- ITS FALSE NEIGHBOUR: 'it returns false'. Refute it at one input. -/
def waveFullWrong : ChangeSpec := { name := "waveFull", fn := fun _ => fun
  | [d1, d2, d3] => { results := [.lit (.bool false)], args := [d1, d2, d3] }
  | _ => none }
def WaveFullWrongFalsely : Prop := waveFullRow.holds Try.pinned (OpenSpec.ofChange waveFullWrong)

/-- 'dewpondlaw30.WavePlays': WHATEVER THE INPUT: true; the input reads as it did. -/
def wavePlaysSpec : ChangeSpec := { name := "wavePlays", fn := fun _ => fun
  | [d] => { results := [.lit (.bool true)], args := [d] }
  | _ => none }
def wavePlaysRow : OpenClaim := { program := "ytclkcbhghbdffaa", sum := "f588421f34f10f28e02d7441948579b0e3c14cdbeeffd69a11c5f95597ea2784", func := "dewpond/dewpondlaw30.WavePlays", spec := "wavePlays", apart := false }
def WavePlaysSaid : Prop := wavePlaysRow.holds Try.pinned (OpenSpec.ofChange wavePlaysSpec)

/-- ITS FALSE NEIGHBOUR: 'it returns false'. Refute it at one input. -/
def wavePlaysWrong : ChangeSpec := { name := "wavePlays", fn := fun _ => fun
  | [d] => { results := [.lit (.bool false)], args := [d] }
  | _ => none }
def WavePlaysWrongFalsely : Prop := wavePlaysRow.holds Try.pinned (OpenSpec.ofChange wavePlaysWrong)

/-- 'dewpondlaw30.WaveKeeps': WHATEVER THE INPUT: true; the input reads as it did. -/
def waveKeepsSpec : ChangeSpec := { name := "waveKeeps", fn := fun _ => fun
  | [d] => { results := [.lit (.bool true)], args := [d] }
  | _ => none }
def waveKeepsRow : OpenClaim := { program := "ytclkcbhghbdffaa", sum := "f588421f34f10f28e02d7441948579b0e3c14cdbeeffd69a11c5f95597ea2784", func := "dewpond/dewpondlaw30.WaveKeeps", spec := "waveKeeps", apart := false }
def WaveKeepsSaid : Prop := waveKeepsRow.holds Try.pinned (OpenSpec.ofChange waveKeepsSpec)

/-- ITS FALSE NEIGHBOUR: 'it returns false'. Refute it at one input. -/
def waveKeepsWrong : ChangeSpec := { name := "waveKeeps", fn := fun _ => fun
  | [d] => { results := [.lit (.bool false)], args := [d] }
  | _ => none }
def WaveKeepsWrongFalsely : Prop := waveKeepsRow.holds Try.pinned (OpenSpec.ofChange waveKeepsWrong)

/-- 'dewpondlaw30.WaveNobody': WHATEVER THE INPUT: true; the input reads as it did. -/
def waveNobodySpec : ChangeSpec := { name := "waveNobody", fn := fun _ => fun
  | [d] => { results := [.lit (.bool true)], args := [d] }
  | _ => none }
def waveNobodyRow : OpenClaim := { program := "ytclkcbhghbdffaa", sum := "f588421f34f10f28e02d7441948579b0e3c14cdbeeffd69a11c5f95597ea2784", func := "dewpond/dewpondlaw30.WaveNobody", spec := "waveNobody", apart := false }
def WaveNobodySaid : Prop := waveNobodyRow.holds Try.pinned (OpenSpec.ofChange waveNobodySpec)

/-- ITS FALSE NEIGHBOUR: 'it returns false'. Refute it at one input. -/
def waveNobodyWrong : ChangeSpec := { name := "waveNobody", fn := fun _ => fun
  | [d] => { results := [.lit (.bool false)], args := [d] }
  | _ => none }
def WaveNobodyWrongFalsely : Prop := waveNobodyRow.holds Try.pinned (OpenSpec.ofChange waveNobodyWrong)

/- THE SECOND FORM. 'bulk': how many values and letters a reading holds, each counted each time it is reached (what is shared counts as often as it is met; a slice's spare places count too). A statement '..UptoSaid' is the law's where the arguments, and the package variables that the reading takes, are together of bulk at most 1048576: NARROWER than '..Said'. Prove '..Said' where nothing that the law and all that it calls make is longer than what came in: it says more and counts as full. Else prove '..UptoSaid'. A law counts once. -/
mutual
def uptoBulk {H : Type} : DataW H → Nat
  | .lit (.string bytes) => bytes.length + 1
  | .lit _ => 1
  | .nil => 1
  | .ptr d => uptoBulk d + 1
  | .slice elems spare => uptoBulkAll elems + uptoBulkAll spare + 1
  | .agg parts => uptoBulkAll parts + 1
  | .iface _ d => uptoBulk d + 1
  | .map entries => uptoBulkEntries entries + 1
  | .held _ => 1
def uptoBulkAll {H : Type} : List (DataW H) → Nat
  | [] => 0
  | d :: r => uptoBulk d + uptoBulkAll r
def uptoBulkEntries {H : Type} : List (Lit × DataW H) → Nat
  | [] => 0
  | x :: r => uptoBulkEntry x + uptoBulkEntries r
def uptoBulkEntry {H : Type} : Lit × DataW H → Nat
  | (.string bytes, d) => bytes.length + uptoBulk d + 1
  | (_, d) => uptoBulk d + 1
 end
def uptoSmall : (H : Type) → List (DataW H) → Bool := fun _ ds => decide (uptoBulkAll ds ≤ 1048576)
def OpenSpec.upto (s : _root_.Go.ChangeSpec) : _root_.Go.OpenSpec := { _root_.Go.OpenSpec.ofChange s with cond := some uptoSmall }

/-- 'dewpondlaw30.WaveFull', WHERE WHAT IT READS IS OF BULK AT MOST 1048576: true; the input reads as it did. -/
def waveFullUptoRow : OpenClaim := { program := "ytclkcbhghbdffaa", sum := "f588421f34f10f28e02d7441948579b0e3c14cdbeeffd69a11c5f95597ea2784", func := "dewpond/dewpondlaw30.WaveFull", spec := "waveFull", apart := false, narrowed := true }
def WaveFullUptoSaid : Prop := waveFullUptoRow.holds Try.pinned (OpenSpec.upto waveFullSpec)

/-- 'dewpondlaw30.WavePlays', WHERE WHAT IT READS IS OF BULK AT MOST 1048576: true; the input reads as it did. -/
def wavePlaysUptoRow : OpenClaim := { program := "ytclkcbhghbdffaa", sum := "f588421f34f10f28e02d7441948579b0e3c14cdbeeffd69a11c5f95597ea2784", func := "dewpond/dewpondlaw30.WavePlays", spec := "wavePlays", apart := false, narrowed := true }
def WavePlaysUptoSaid : Prop := wavePlaysUptoRow.holds Try.pinned (OpenSpec.upto wavePlaysSpec)

/-- 'dewpondlaw30.WaveKeeps', WHERE WHAT IT READS IS OF BULK AT MOST 1048576: true; the input reads as it did. -/
def waveKeepsUptoRow : OpenClaim := { program := "ytclkcbhghbdffaa", sum := "f588421f34f10f28e02d7441948579b0e3c14cdbeeffd69a11c5f95597ea2784", func := "dewpond/dewpondlaw30.WaveKeeps", spec := "waveKeeps", apart := false, narrowed := true }
def WaveKeepsUptoSaid : Prop := waveKeepsUptoRow.holds Try.pinned (OpenSpec.upto waveKeepsSpec)

/-- 'dewpondlaw30.WaveNobody', WHERE WHAT IT READS IS OF BULK AT MOST 1048576: true; the input reads as it did. -/
def waveNobodyUptoRow : OpenClaim := { program := "ytclkcbhghbdffaa", sum := "f588421f34f10f28e02d7441948579b0e3c14cdbeeffd69a11c5f95597ea2784", func := "dewpond/dewpondlaw30.WaveNobody", spec := "waveNobody", apart := false, narrowed := true }
def WaveNobodyUptoSaid : Prop := waveNobodyUptoRow.holds Try.pinned (OpenSpec.upto waveNobodySpec)

end Rows
end Go.Proofs.Ytclkcbhghbdffaa
