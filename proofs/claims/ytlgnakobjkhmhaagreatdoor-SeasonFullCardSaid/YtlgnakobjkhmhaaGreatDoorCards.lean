/-
  DERIVED. GIVEN WITH THE SEED: THE CARDS: each row of YtlgnakobjkhmhaaGreatDoorRows.lean that lists a variable, with what it lists TIED to the program's text (the seventh form; the later family's looks); each row that meets fmt, with fmt's text TOLD by the authors' own Lean function (tested against real Go, not proved from fmt's source: count such statements apart). THE CARD IS WHAT COUNTS. Prove the row's statement (the work); the ties are given (YtlgnakobjkhmhaaGreatDoorTie.lean); close each card by the builder's one call (the guide's Derived/Test/ToyasCard.lean, 'card_holds'). Laid BY PROGRAM, IN A SANDBOX (cutbox-door.mjs). By AI agents, Wed Nov 11 2026. No macro, syntax, notation, axiom, sorry.
-/
import Derived.Test.YtlgnakobjkhmhaaGreatDoorRows
import GoSem.ClaimSeven
namespace Go.Proofs.YtlgnakobjkhmhaaGreatDoor
namespace Rows

/-- THE TIED CARD OF 'dewpondlaw33.SeasonFull'. -/
def seasonFullCard : Claim7 := { stood := { row := seasonFullRow, standIns := [], harness := (true, "1c615869b25502b46b3bc77fee9dac6950c59ace157e5dc25158eb0b9a141ff6"), looks := false }, kinds := [], alts := [], laidByText := true, laidKinds := [.data], laidTests := true, laidLooks := .later }
def SeasonFullCardSaid : Prop := Claim7.holds Tryz.pinned (.plain (OpenSpec.ofChange seasonFullSpec)) seasonFullCard

/-- THE TIED CARD OF 'dewpondlaw33.SeasonNobody'. -/
def seasonNobodyCard : Claim7 := { stood := { row := seasonNobodyRow, standIns := [], harness := (true, "1c615869b25502b46b3bc77fee9dac6950c59ace157e5dc25158eb0b9a141ff6"), looks := false }, kinds := [], alts := [], laidByText := true, laidKinds := [.data], laidTests := true, laidLooks := .later }
def SeasonNobodyCardSaid : Prop := Claim7.holds Tryz.pinned (.plain (OpenSpec.ofChange seasonNobodySpec)) seasonNobodyCard

/-- THE TIED CARD OF 'dewpondlaw33.SeasonExact'. -/
def seasonExactCard : Claim7 := { stood := { row := seasonExactRow, standIns := [], harness := (true, "1c615869b25502b46b3bc77fee9dac6950c59ace157e5dc25158eb0b9a141ff6"), looks := false }, kinds := [], alts := [], laidByText := true, laidKinds := [.data], laidTests := true, laidLooks := .later }
def SeasonExactCardSaid : Prop := Claim7.holds Tryz.pinned (.plain (OpenSpec.ofChange seasonExactSpec)) seasonExactCard

/-- THE SECOND FORM's CARD OF 'dewpondlaw33.SeasonFull'. -/
def seasonFullUptoCard : Claim7 := { stood := { row := seasonFullUptoRow, standIns := [], harness := (true, "1c615869b25502b46b3bc77fee9dac6950c59ace157e5dc25158eb0b9a141ff6"), looks := false }, kinds := [], alts := [], laidByText := true, laidKinds := [.data], laidTests := true, laidLooks := .later }
def SeasonFullUptoCardSaid : Prop := Claim7.holds Tryz.pinned (.plain (OpenSpec.upto seasonFullSpec)) seasonFullUptoCard

/-- THE SECOND FORM's CARD OF 'dewpondlaw33.SeasonNobody'. -/
def seasonNobodyUptoCard : Claim7 := { stood := { row := seasonNobodyUptoRow, standIns := [], harness := (true, "1c615869b25502b46b3bc77fee9dac6950c59ace157e5dc25158eb0b9a141ff6"), looks := false }, kinds := [], alts := [], laidByText := true, laidKinds := [.data], laidTests := true, laidLooks := .later }
def SeasonNobodyUptoCardSaid : Prop := Claim7.holds Tryz.pinned (.plain (OpenSpec.upto seasonNobodySpec)) seasonNobodyUptoCard

/-- THE SECOND FORM's CARD OF 'dewpondlaw33.SeasonExact'. -/
def seasonExactUptoCard : Claim7 := { stood := { row := seasonExactUptoRow, standIns := [], harness := (true, "1c615869b25502b46b3bc77fee9dac6950c59ace157e5dc25158eb0b9a141ff6"), looks := false }, kinds := [], alts := [], laidByText := true, laidKinds := [.data], laidTests := true, laidLooks := .later }
def SeasonExactUptoCardSaid : Prop := Claim7.holds Tryz.pinned (.plain (OpenSpec.upto seasonExactSpec)) seasonExactUptoCard
end Rows
end Go.Proofs.YtlgnakobjkhmhaaGreatDoor
