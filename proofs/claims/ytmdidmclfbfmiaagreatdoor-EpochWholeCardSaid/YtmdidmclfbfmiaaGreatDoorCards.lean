/-
  DERIVED. GIVEN WITH THE SEED: THE CARDS: each row of YtmdidmclfbfmiaaGreatDoorRows.lean that lists a variable, with what it lists TIED to the program's text (the seventh form; the later family's looks); each row that meets fmt, with fmt's text TOLD by the authors' own Lean function (tested against real Go, not proved from fmt's source: count such statements apart). THE CARD IS WHAT COUNTS. Prove the row's statement (the work); the ties are given (YtmdidmclfbfmiaaGreatDoorTie.lean); close each card by the builder's one call (the guide's Derived/Test/ToyasCard.lean, 'card_holds'). Laid BY PROGRAM, IN A SANDBOX (cutbox-door.mjs). By AI agents, Wed Nov 11 2026. No macro, syntax, notation, axiom, sorry.
-/
import Derived.Test.YtmdidmclfbfmiaaGreatDoorRows
import GoSem.ClaimSeven
namespace Go.Proofs.YtmdidmclfbfmiaaGreatDoor
namespace Rows

/-- THE TIED CARD OF 'dewpondlaw32.EpochWhole'. -/
def epochWholeCard : Claim7 := { stood := { row := epochWholeRow, standIns := [], harness := (true, "dba88443ed44d1f77e9e2356b6af694e7fbab61afdc654c9ca2ac1243f929880"), looks := true }, kinds := [], alts := [], laidByText := true, laidKinds := [.data], laidTests := true, laidLooks := .later }
def EpochWholeCardSaid : Prop := Claim7.holds Tryz.pinned (.plain (OpenSpec.ofChange epochWholeSpec)) epochWholeCard

/-- THE TIED CARD OF 'dewpondlaw32.EpochLate'. -/
def epochLateCard : Claim7 := { stood := { row := epochLateRow, standIns := [], harness := (true, "dba88443ed44d1f77e9e2356b6af694e7fbab61afdc654c9ca2ac1243f929880"), looks := true }, kinds := [], alts := [], laidByText := true, laidKinds := [.data], laidTests := true, laidLooks := .later }
def EpochLateCardSaid : Prop := Claim7.holds Tryz.pinned (.plain (OpenSpec.ofChange epochLateSpec)) epochLateCard

/-- THE TIED CARD OF 'dewpondlaw32.EpochBytes'. -/
def epochBytesCard : Claim7 := { stood := { row := epochBytesRow, standIns := [], harness := (true, "dba88443ed44d1f77e9e2356b6af694e7fbab61afdc654c9ca2ac1243f929880"), looks := true }, kinds := [], alts := [], laidByText := true, laidKinds := [.data], laidTests := true, laidLooks := .later }
def EpochBytesCardSaid : Prop := Claim7.holds Tryz.pinned (.plain (OpenSpec.ofChange epochBytesSpec)) epochBytesCard

/-- THE TIED CARD OF 'dewpondlaw32.EpochPlays'. -/
def epochPlaysCard : Claim7 := { stood := { row := epochPlaysRow, standIns := [], harness := (true, "dba88443ed44d1f77e9e2356b6af694e7fbab61afdc654c9ca2ac1243f929880"), looks := true }, kinds := [], alts := [], laidByText := true, laidKinds := [.data], laidTests := true, laidLooks := .later }
def EpochPlaysCardSaid : Prop := Claim7.holds Tryz.pinned (.plain (OpenSpec.ofChange epochPlaysSpec)) epochPlaysCard

/-- THE TIED CARD OF 'dewpondlaw32.EpochExact'. -/
def epochExactCard : Claim7 := { stood := { row := epochExactRow, standIns := [], harness := (true, "dba88443ed44d1f77e9e2356b6af694e7fbab61afdc654c9ca2ac1243f929880"), looks := true }, kinds := [], alts := [], laidByText := true, laidKinds := [.data], laidTests := true, laidLooks := .later }
def EpochExactCardSaid : Prop := Claim7.holds Tryz.pinned (.plain (OpenSpec.ofChange epochExactSpec)) epochExactCard

/-- THE TIED CARD OF 'dewpondlaw32.EpochEnds'. -/
def epochEndsCard : Claim7 := { stood := { row := epochEndsRow, standIns := [], harness := (true, "dba88443ed44d1f77e9e2356b6af694e7fbab61afdc654c9ca2ac1243f929880"), looks := true }, kinds := [], alts := [], laidByText := true, laidKinds := [.data], laidTests := true, laidLooks := .later }
def EpochEndsCardSaid : Prop := Claim7.holds Tryz.pinned (.plain (OpenSpec.ofChange epochEndsSpec)) epochEndsCard

/-- THE TIED CARD OF 'dewpondlaw32.EpochNobody'. -/
def epochNobodyCard : Claim7 := { stood := { row := epochNobodyRow, standIns := [], harness := (true, "dba88443ed44d1f77e9e2356b6af694e7fbab61afdc654c9ca2ac1243f929880"), looks := true }, kinds := [], alts := [], laidByText := true, laidKinds := [.data], laidTests := true, laidLooks := .later }
def EpochNobodyCardSaid : Prop := Claim7.holds Tryz.pinned (.plain (OpenSpec.ofChange epochNobodySpec)) epochNobodyCard

/-- THE SECOND FORM's CARD OF 'dewpondlaw32.EpochWhole'. -/
def epochWholeUptoCard : Claim7 := { stood := { row := epochWholeUptoRow, standIns := [], harness := (true, "dba88443ed44d1f77e9e2356b6af694e7fbab61afdc654c9ca2ac1243f929880"), looks := true }, kinds := [], alts := [], laidByText := true, laidKinds := [.data], laidTests := true, laidLooks := .later }
def EpochWholeUptoCardSaid : Prop := Claim7.holds Tryz.pinned (.plain (OpenSpec.upto epochWholeSpec)) epochWholeUptoCard

/-- THE SECOND FORM's CARD OF 'dewpondlaw32.EpochLate'. -/
def epochLateUptoCard : Claim7 := { stood := { row := epochLateUptoRow, standIns := [], harness := (true, "dba88443ed44d1f77e9e2356b6af694e7fbab61afdc654c9ca2ac1243f929880"), looks := true }, kinds := [], alts := [], laidByText := true, laidKinds := [.data], laidTests := true, laidLooks := .later }
def EpochLateUptoCardSaid : Prop := Claim7.holds Tryz.pinned (.plain (OpenSpec.upto epochLateSpec)) epochLateUptoCard

/-- THE SECOND FORM's CARD OF 'dewpondlaw32.EpochBytes'. -/
def epochBytesUptoCard : Claim7 := { stood := { row := epochBytesUptoRow, standIns := [], harness := (true, "dba88443ed44d1f77e9e2356b6af694e7fbab61afdc654c9ca2ac1243f929880"), looks := true }, kinds := [], alts := [], laidByText := true, laidKinds := [.data], laidTests := true, laidLooks := .later }
def EpochBytesUptoCardSaid : Prop := Claim7.holds Tryz.pinned (.plain (OpenSpec.upto epochBytesSpec)) epochBytesUptoCard

/-- THE SECOND FORM's CARD OF 'dewpondlaw32.EpochPlays'. -/
def epochPlaysUptoCard : Claim7 := { stood := { row := epochPlaysUptoRow, standIns := [], harness := (true, "dba88443ed44d1f77e9e2356b6af694e7fbab61afdc654c9ca2ac1243f929880"), looks := true }, kinds := [], alts := [], laidByText := true, laidKinds := [.data], laidTests := true, laidLooks := .later }
def EpochPlaysUptoCardSaid : Prop := Claim7.holds Tryz.pinned (.plain (OpenSpec.upto epochPlaysSpec)) epochPlaysUptoCard

/-- THE SECOND FORM's CARD OF 'dewpondlaw32.EpochExact'. -/
def epochExactUptoCard : Claim7 := { stood := { row := epochExactUptoRow, standIns := [], harness := (true, "dba88443ed44d1f77e9e2356b6af694e7fbab61afdc654c9ca2ac1243f929880"), looks := true }, kinds := [], alts := [], laidByText := true, laidKinds := [.data], laidTests := true, laidLooks := .later }
def EpochExactUptoCardSaid : Prop := Claim7.holds Tryz.pinned (.plain (OpenSpec.upto epochExactSpec)) epochExactUptoCard

/-- THE SECOND FORM's CARD OF 'dewpondlaw32.EpochEnds'. -/
def epochEndsUptoCard : Claim7 := { stood := { row := epochEndsUptoRow, standIns := [], harness := (true, "dba88443ed44d1f77e9e2356b6af694e7fbab61afdc654c9ca2ac1243f929880"), looks := true }, kinds := [], alts := [], laidByText := true, laidKinds := [.data], laidTests := true, laidLooks := .later }
def EpochEndsUptoCardSaid : Prop := Claim7.holds Tryz.pinned (.plain (OpenSpec.upto epochEndsSpec)) epochEndsUptoCard

/-- THE SECOND FORM's CARD OF 'dewpondlaw32.EpochNobody'. -/
def epochNobodyUptoCard : Claim7 := { stood := { row := epochNobodyUptoRow, standIns := [], harness := (true, "dba88443ed44d1f77e9e2356b6af694e7fbab61afdc654c9ca2ac1243f929880"), looks := true }, kinds := [], alts := [], laidByText := true, laidKinds := [.data], laidTests := true, laidLooks := .later }
def EpochNobodyUptoCardSaid : Prop := Claim7.holds Tryz.pinned (.plain (OpenSpec.upto epochNobodySpec)) epochNobodyUptoCard
end Rows
end Go.Proofs.YtmdidmclfbfmiaaGreatDoor
