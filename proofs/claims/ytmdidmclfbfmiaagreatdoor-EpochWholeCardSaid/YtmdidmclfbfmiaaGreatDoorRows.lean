/-
  NARROWER THAN 'FOR EVERY INPUT', by the rows' own cells (each row's printed sentence says how): EpochWhole: laid · EpochLate: laid · EpochBytes: laid · EpochPlays: laid · EpochExact: laid · EpochEnds: laid · EpochNobody: laid.
  DERIVED. THE GIVEN ROWS OF THIS SEAT. 7 by the template 'for every input the law returns true; each argument reads behind the call as it read before'; 0 by the template 'total and deterministic' (their statements: YtmdidmclfbfmiaaGreatDoorTotals.lean).
  GIVEN WITH THE SEED: the statements are not yours to turn. If you find one false, say at which input.
  Laid BY PROGRAM, IN A SANDBOX (cutbox-rows.mjs): the forced cells as the released guide's own fill.sh prints them over the translation a63726e062096e69… (all of the seat's roots in one cut). By AI agents, Wed Nov 11 2026. No macro, syntax, notation, axiom, sorry.
-/
import Derived.Test.YtmdidmclfbfmiaaGreatDoorChecked
import GoSem.Claim
import GoSem.ClaimJoined
import GoSem.ClaimMapViews
import Derived.JoinedTies
import Derived.KernelRfl
namespace Go.Proofs.YtmdidmclfbfmiaaGreatDoor
/- THE CELL 'sum', in the pinned program and in every row, IS THE sha256 OF THE DUMP (.gsa) THAT YtmdidmclfbfmiaaGreatDoorProg.lean LOADS. Nothing in Lean hashes anything: it is a label: what it is worth is what the hold of that sum in a sandbox is worth. -/
noncomputable def Tryz.pinned : Pinned := { name := "ytmdidmclfbfmiaagreatdoor", sum := "a63726e062096e69edcf10a1ef32614391a02f3eb8359d06ceca92ff0781b2fb", checked := Tryz.checked }
namespace Rows
def none {H : Type} : Left H := { results := [], args := [] }

/- WHAT THE LISTED PACKAGE-LEVEL VARIABLES READ AS WHEN THE CALL BEGINS. Each datum BY PROGRAM (the guide's laid-datum.mjs) off the statement by which the dump's own 'gosem.cut.vars' lays the variable. In a bare row this is a premise. The card (YtmdidmclfbfmiaaGreatDoorCards.lean) ties it to the program's text. -/
def laid_math_bits_deBruijn64tab {H : Type} : DataW H := .agg [.lit (.int .u8 0), .lit (.int .u8 1), .lit (.int .u8 56), .lit (.int .u8 2), .lit (.int .u8 57), .lit (.int .u8 49), .lit (.int .u8 28), .lit (.int .u8 3), .lit (.int .u8 61), .lit (.int .u8 58), .lit (.int .u8 42), .lit (.int .u8 50), .lit (.int .u8 38), .lit (.int .u8 29), .lit (.int .u8 17), .lit (.int .u8 4), .lit (.int .u8 62), .lit (.int .u8 47), .lit (.int .u8 59), .lit (.int .u8 36), .lit (.int .u8 45), .lit (.int .u8 43), .lit (.int .u8 51), .lit (.int .u8 22), .lit (.int .u8 53), .lit (.int .u8 39), .lit (.int .u8 33), .lit (.int .u8 30), .lit (.int .u8 24), .lit (.int .u8 18), .lit (.int .u8 12), .lit (.int .u8 5), .lit (.int .u8 63), .lit (.int .u8 55), .lit (.int .u8 48), .lit (.int .u8 27), .lit (.int .u8 60), .lit (.int .u8 41), .lit (.int .u8 37), .lit (.int .u8 16), .lit (.int .u8 46), .lit (.int .u8 35), .lit (.int .u8 44), .lit (.int .u8 21), .lit (.int .u8 52), .lit (.int .u8 32), .lit (.int .u8 23), .lit (.int .u8 11), .lit (.int .u8 54), .lit (.int .u8 26), .lit (.int .u8 40), .lit (.int .u8 15), .lit (.int .u8 34), .lit (.int .u8 20), .lit (.int .u8 31), .lit (.int .u8 10), .lit (.int .u8 25), .lit (.int .u8 14), .lit (.int .u8 19), .lit (.int .u8 9), .lit (.int .u8 13), .lit (.int .u8 8), .lit (.int .u8 7), .lit (.int .u8 6)]

/-- 'dewpondlaw32.EpochWhole': WHATEVER THE INPUT: true; the input reads as it did. -/
def epochWholeSpec : ChangeSpec := { name := "epochWhole", fn := fun _ => fun
  | [d1, d2, d3, d4] => { results := [.lit (.bool true)], args := [d1, d2, d3, d4] }
  | _ => none }
def epochWholeRow : OpenClaim := { program := "ytmdidmclfbfmiaagreatdoor", sum := "a63726e062096e69edcf10a1ef32614391a02f3eb8359d06ceca92ff0781b2fb", func := "dewpond/dewpondlaw32.EpochWhole", spec := "epochWhole", unfollowed := true, recurses := true, named := ["math/bits.deBruijn64tab"], apart := false, laid := [("math/bits.deBruijn64tab", laid_math_bits_deBruijn64tab)] }
def EpochWholeSaid : Prop := epochWholeRow.holds Tryz.pinned (OpenSpec.ofChange epochWholeSpec)

/-- ITS FALSE NEIGHBOUR: 'it returns false'. Refute it at one input. -/
def epochWholeWrong : ChangeSpec := { name := "epochWhole", fn := fun _ => fun
  | [d1, d2, d3, d4] => { results := [.lit (.bool false)], args := [d1, d2, d3, d4] }
  | _ => none }
def EpochWholeWrongFalsely : Prop := epochWholeRow.holds Tryz.pinned (OpenSpec.ofChange epochWholeWrong)

/-- 'dewpondlaw32.EpochLate': WHATEVER THE INPUT: true; the input reads as it did. -/
def epochLateSpec : ChangeSpec := { name := "epochLate", fn := fun _ => fun
  | [d1, d2] => { results := [.lit (.bool true)], args := [d1, d2] }
  | _ => none }
def epochLateRow : OpenClaim := { program := "ytmdidmclfbfmiaagreatdoor", sum := "a63726e062096e69edcf10a1ef32614391a02f3eb8359d06ceca92ff0781b2fb", func := "dewpond/dewpondlaw32.EpochLate", spec := "epochLate", unfollowed := true, recurses := true, named := ["math/bits.deBruijn64tab"], apart := false, laid := [("math/bits.deBruijn64tab", laid_math_bits_deBruijn64tab)] }
def EpochLateSaid : Prop := epochLateRow.holds Tryz.pinned (OpenSpec.ofChange epochLateSpec)

/-- ITS FALSE NEIGHBOUR: 'it returns false'. Refute it at one input. -/
def epochLateWrong : ChangeSpec := { name := "epochLate", fn := fun _ => fun
  | [d1, d2] => { results := [.lit (.bool false)], args := [d1, d2] }
  | _ => none }
def EpochLateWrongFalsely : Prop := epochLateRow.holds Tryz.pinned (OpenSpec.ofChange epochLateWrong)

/-- 'dewpondlaw32.EpochBytes': WHATEVER THE INPUT: true; the input reads as it did. -/
def epochBytesSpec : ChangeSpec := { name := "epochBytes", fn := fun _ => fun
  | [d1, d2] => { results := [.lit (.bool true)], args := [d1, d2] }
  | _ => none }
def epochBytesRow : OpenClaim := { program := "ytmdidmclfbfmiaagreatdoor", sum := "a63726e062096e69edcf10a1ef32614391a02f3eb8359d06ceca92ff0781b2fb", func := "dewpond/dewpondlaw32.EpochBytes", spec := "epochBytes", unfollowed := true, recurses := true, named := ["math/bits.deBruijn64tab"], apart := false, laid := [("math/bits.deBruijn64tab", laid_math_bits_deBruijn64tab)] }
def EpochBytesSaid : Prop := epochBytesRow.holds Tryz.pinned (OpenSpec.ofChange epochBytesSpec)

/-- ITS FALSE NEIGHBOUR: 'it returns false'. Refute it at one input. -/
def epochBytesWrong : ChangeSpec := { name := "epochBytes", fn := fun _ => fun
  | [d1, d2] => { results := [.lit (.bool false)], args := [d1, d2] }
  | _ => none }
def EpochBytesWrongFalsely : Prop := epochBytesRow.holds Tryz.pinned (OpenSpec.ofChange epochBytesWrong)

/-- 'dewpondlaw32.EpochPlays': WHATEVER THE INPUT: true; the input reads as it did. -/
def epochPlaysSpec : ChangeSpec := { name := "epochPlays", fn := fun _ => fun
  | [d1, d2] => { results := [.lit (.bool true)], args := [d1, d2] }
  | _ => none }
def epochPlaysRow : OpenClaim := { program := "ytmdidmclfbfmiaagreatdoor", sum := "a63726e062096e69edcf10a1ef32614391a02f3eb8359d06ceca92ff0781b2fb", func := "dewpond/dewpondlaw32.EpochPlays", spec := "epochPlays", unfollowed := true, recurses := true, named := ["math/bits.deBruijn64tab"], apart := false, laid := [("math/bits.deBruijn64tab", laid_math_bits_deBruijn64tab)] }
def EpochPlaysSaid : Prop := epochPlaysRow.holds Tryz.pinned (OpenSpec.ofChange epochPlaysSpec)

/-- ITS FALSE NEIGHBOUR: 'it returns false'. Refute it at one input. -/
def epochPlaysWrong : ChangeSpec := { name := "epochPlays", fn := fun _ => fun
  | [d1, d2] => { results := [.lit (.bool false)], args := [d1, d2] }
  | _ => none }
def EpochPlaysWrongFalsely : Prop := epochPlaysRow.holds Tryz.pinned (OpenSpec.ofChange epochPlaysWrong)

/-- 'dewpondlaw32.EpochExact': WHATEVER THE INPUT: true; the input reads as it did. -/
def epochExactSpec : ChangeSpec := { name := "epochExact", fn := fun _ => fun
  | [d1, d2, d3] => { results := [.lit (.bool true)], args := [d1, d2, d3] }
  | _ => none }
def epochExactRow : OpenClaim := { program := "ytmdidmclfbfmiaagreatdoor", sum := "a63726e062096e69edcf10a1ef32614391a02f3eb8359d06ceca92ff0781b2fb", func := "dewpond/dewpondlaw32.EpochExact", spec := "epochExact", unfollowed := true, recurses := true, named := ["math/bits.deBruijn64tab"], apart := false, laid := [("math/bits.deBruijn64tab", laid_math_bits_deBruijn64tab)] }
def EpochExactSaid : Prop := epochExactRow.holds Tryz.pinned (OpenSpec.ofChange epochExactSpec)

/-- ITS FALSE NEIGHBOUR: 'it returns false'. Refute it at one input. -/
def epochExactWrong : ChangeSpec := { name := "epochExact", fn := fun _ => fun
  | [d1, d2, d3] => { results := [.lit (.bool false)], args := [d1, d2, d3] }
  | _ => none }
def EpochExactWrongFalsely : Prop := epochExactRow.holds Tryz.pinned (OpenSpec.ofChange epochExactWrong)

/-- 'dewpondlaw32.EpochEnds': WHATEVER THE INPUT: true; the input reads as it did. -/
def epochEndsSpec : ChangeSpec := { name := "epochEnds", fn := fun _ => fun
  | [d1, d2] => { results := [.lit (.bool true)], args := [d1, d2] }
  | _ => none }
def epochEndsRow : OpenClaim := { program := "ytmdidmclfbfmiaagreatdoor", sum := "a63726e062096e69edcf10a1ef32614391a02f3eb8359d06ceca92ff0781b2fb", func := "dewpond/dewpondlaw32.EpochEnds", spec := "epochEnds", unfollowed := true, recurses := true, named := ["math/bits.deBruijn64tab"], apart := false, laid := [("math/bits.deBruijn64tab", laid_math_bits_deBruijn64tab)] }
def EpochEndsSaid : Prop := epochEndsRow.holds Tryz.pinned (OpenSpec.ofChange epochEndsSpec)

/-- ITS FALSE NEIGHBOUR: 'it returns false'. Refute it at one input. -/
def epochEndsWrong : ChangeSpec := { name := "epochEnds", fn := fun _ => fun
  | [d1, d2] => { results := [.lit (.bool false)], args := [d1, d2] }
  | _ => none }
def EpochEndsWrongFalsely : Prop := epochEndsRow.holds Tryz.pinned (OpenSpec.ofChange epochEndsWrong)

/-- 'dewpondlaw32.EpochNobody': WHATEVER THE INPUT: true; the input reads as it did. -/
def epochNobodySpec : ChangeSpec := { name := "epochNobody", fn := fun _ => fun
  | [d] => { results := [.lit (.bool true)], args := [d] }
  | _ => none }
def epochNobodyRow : OpenClaim := { program := "ytmdidmclfbfmiaagreatdoor", sum := "a63726e062096e69edcf10a1ef32614391a02f3eb8359d06ceca92ff0781b2fb", func := "dewpond/dewpondlaw32.EpochNobody", spec := "epochNobody", unfollowed := true, recurses := true, named := ["math/bits.deBruijn64tab"], apart := false, laid := [("math/bits.deBruijn64tab", laid_math_bits_deBruijn64tab)] }
def EpochNobodySaid : Prop := epochNobodyRow.holds Tryz.pinned (OpenSpec.ofChange epochNobodySpec)

/-- ITS FALSE NEIGHBOUR: 'it returns false'. Refute it at one input. -/
def epochNobodyWrong : ChangeSpec := { name := "epochNobody", fn := fun _ => fun
  | [d] => { results := [.lit (.bool false)], args := [d] }
  | _ => none }
def EpochNobodyWrongFalsely : Prop := epochNobodyRow.holds Tryz.pinned (OpenSpec.ofChange epochNobodyWrong)

/- THE SECOND FORM. 'bulk': how many values and letters a reading holds, each counted each time it is reached (what is shared counts as often as it is met; a slice's spare places count too). A statement '..UptoSaid' is the law's where the arguments, and the package variables that the reading takes, are together of bulk at most 1048576: NARROWER than '..Said'. Prove '..Said' where nothing that the law and all that it calls make is longer than what came in: it says more and counts as full. Else prove '..UptoSaid'. A law counts once. -/
mutual
def uptoBulk {H : Type} : DataW H → Nat
  | .lit (.string bytes) => bytes.length + 1
  | .lit _ => 1
  | .nil => 1
  | .ptr d => uptoBulk d + 1
  | .slice elems spare => uptoBulkAll elems + uptoBulkAll spare + 1
  | .agg parts => uptoBulkAll parts + 1
  | .iface _ d => uptoBulk d + 1
  | .map entries => uptoBulkEntries entries + 1
  | .held _ => 1
def uptoBulkAll {H : Type} : List (DataW H) → Nat
  | [] => 0
  | d :: r => uptoBulk d + uptoBulkAll r
def uptoBulkEntries {H : Type} : List (Lit × DataW H) → Nat
  | [] => 0
  | x :: r => uptoBulkEntry x + uptoBulkEntries r
def uptoBulkEntry {H : Type} : Lit × DataW H → Nat
  | (.string bytes, d) => bytes.length + uptoBulk d + 1
  | (_, d) => uptoBulk d + 1
 end
def uptoSmall : (H : Type) → List (DataW H) → Bool := fun _ ds => decide (uptoBulkAll ds ≤ 1048576)
def OpenSpec.upto (s : _root_.Go.ChangeSpec) : _root_.Go.OpenSpec := { _root_.Go.OpenSpec.ofChange s with cond := some uptoSmall }

/-- 'dewpondlaw32.EpochWhole', WHERE WHAT IT READS IS OF BULK AT MOST 1048576: true; the input reads as it did. -/
def epochWholeUptoRow : OpenClaim := { program := "ytmdidmclfbfmiaagreatdoor", sum := "a63726e062096e69edcf10a1ef32614391a02f3eb8359d06ceca92ff0781b2fb", func := "dewpond/dewpondlaw32.EpochWhole", spec := "epochWhole", unfollowed := true, recurses := true, named := ["math/bits.deBruijn64tab"], apart := false, laid := [("math/bits.deBruijn64tab", laid_math_bits_deBruijn64tab)], narrowed := true }
def EpochWholeUptoSaid : Prop := epochWholeUptoRow.holds Tryz.pinned (OpenSpec.upto epochWholeSpec)

/-- 'dewpondlaw32.EpochLate', WHERE WHAT IT READS IS OF BULK AT MOST 1048576: true; the input reads as it did. -/
def epochLateUptoRow : OpenClaim := { program := "ytmdidmclfbfmiaagreatdoor", sum := "a63726e062096e69edcf10a1ef32614391a02f3eb8359d06ceca92ff0781b2fb", func := "dewpond/dewpondlaw32.EpochLate", spec := "epochLate", unfollowed := true, recurses := true, named := ["math/bits.deBruijn64tab"], apart := false, laid := [("math/bits.deBruijn64tab", laid_math_bits_deBruijn64tab)], narrowed := true }
def EpochLateUptoSaid : Prop := epochLateUptoRow.holds Tryz.pinned (OpenSpec.upto epochLateSpec)

/-- 'dewpondlaw32.EpochBytes', WHERE WHAT IT READS IS OF BULK AT MOST 1048576: true; the input reads as it did. -/
def epochBytesUptoRow : OpenClaim := { program := "ytmdidmclfbfmiaagreatdoor", sum := "a63726e062096e69edcf10a1ef32614391a02f3eb8359d06ceca92ff0781b2fb", func := "dewpond/dewpondlaw32.EpochBytes", spec := "epochBytes", unfollowed := true, recurses := true, named := ["math/bits.deBruijn64tab"], apart := false, laid := [("math/bits.deBruijn64tab", laid_math_bits_deBruijn64tab)], narrowed := true }
def EpochBytesUptoSaid : Prop := epochBytesUptoRow.holds Tryz.pinned (OpenSpec.upto epochBytesSpec)

/-- 'dewpondlaw32.EpochPlays', WHERE WHAT IT READS IS OF BULK AT MOST 1048576: true; the input reads as it did. -/
def epochPlaysUptoRow : OpenClaim := { program := "ytmdidmclfbfmiaagreatdoor", sum := "a63726e062096e69edcf10a1ef32614391a02f3eb8359d06ceca92ff0781b2fb", func := "dewpond/dewpondlaw32.EpochPlays", spec := "epochPlays", unfollowed := true, recurses := true, named := ["math/bits.deBruijn64tab"], apart := false, laid := [("math/bits.deBruijn64tab", laid_math_bits_deBruijn64tab)], narrowed := true }
def EpochPlaysUptoSaid : Prop := epochPlaysUptoRow.holds Tryz.pinned (OpenSpec.upto epochPlaysSpec)

/-- 'dewpondlaw32.EpochExact', WHERE WHAT IT READS IS OF BULK AT MOST 1048576: true; the input reads as it did. -/
def epochExactUptoRow : OpenClaim := { program := "ytmdidmclfbfmiaagreatdoor", sum := "a63726e062096e69edcf10a1ef32614391a02f3eb8359d06ceca92ff0781b2fb", func := "dewpond/dewpondlaw32.EpochExact", spec := "epochExact", unfollowed := true, recurses := true, named := ["math/bits.deBruijn64tab"], apart := false, laid := [("math/bits.deBruijn64tab", laid_math_bits_deBruijn64tab)], narrowed := true }
def EpochExactUptoSaid : Prop := epochExactUptoRow.holds Tryz.pinned (OpenSpec.upto epochExactSpec)

/-- 'dewpondlaw32.EpochEnds', WHERE WHAT IT READS IS OF BULK AT MOST 1048576: true; the input reads as it did. -/
def epochEndsUptoRow : OpenClaim := { program := "ytmdidmclfbfmiaagreatdoor", sum := "a63726e062096e69edcf10a1ef32614391a02f3eb8359d06ceca92ff0781b2fb", func := "dewpond/dewpondlaw32.EpochEnds", spec := "epochEnds", unfollowed := true, recurses := true, named := ["math/bits.deBruijn64tab"], apart := false, laid := [("math/bits.deBruijn64tab", laid_math_bits_deBruijn64tab)], narrowed := true }
def EpochEndsUptoSaid : Prop := epochEndsUptoRow.holds Tryz.pinned (OpenSpec.upto epochEndsSpec)

/-- 'dewpondlaw32.EpochNobody', WHERE WHAT IT READS IS OF BULK AT MOST 1048576: true; the input reads as it did. -/
def epochNobodyUptoRow : OpenClaim := { program := "ytmdidmclfbfmiaagreatdoor", sum := "a63726e062096e69edcf10a1ef32614391a02f3eb8359d06ceca92ff0781b2fb", func := "dewpond/dewpondlaw32.EpochNobody", spec := "epochNobody", unfollowed := true, recurses := true, named := ["math/bits.deBruijn64tab"], apart := false, laid := [("math/bits.deBruijn64tab", laid_math_bits_deBruijn64tab)], narrowed := true }
def EpochNobodyUptoSaid : Prop := epochNobodyUptoRow.holds Tryz.pinned (OpenSpec.upto epochNobodySpec)

end Rows
end Go.Proofs.YtmdidmclfbfmiaaGreatDoor
