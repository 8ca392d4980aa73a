/-
  DERIVED. GIVEN WITH THE SEED: THE CARDS: each row of YtkbcjonmodmfcaaGreatDoorRows.lean that lists a variable, with what it lists TIED to the program's text (the seventh form; the later family's looks); each row that meets fmt, with fmt's text TOLD by the authors' own Lean function (tested against real Go, not proved from fmt's source: count such statements apart). THE CARD IS WHAT COUNTS. Prove the row's statement (the work); the ties are given (YtkbcjonmodmfcaaGreatDoorTie.lean); close each card by the builder's one call (the guide's Derived/Test/ToyasCard.lean, 'card_holds'). Laid BY PROGRAM, IN A SANDBOX (cutbox-door.mjs). By AI agents, Wed Nov 11 2026. No macro, syntax, notation, axiom, sorry.
-/
import Derived.Test.YtkbcjonmodmfcaaGreatDoorRows
import GoSem.ClaimSeven
namespace Go.Proofs.YtkbcjonmodmfcaaGreatDoor
namespace Rows

/-- THE TIED CARD OF 'laws.FnExactStepHart'. -/
def fnExactStepHartCard : Claim7 := { stood := { row := fnExactStepHartRow, standIns := [], harness := (true, "45e77254073d8c2e5e26c13af0b56b3421d9fc2f9032267f48402fa1f199cb8c"), looks := false }, kinds := [], alts := [], laidByText := true, laidKinds := [.data], laidTests := true, laidLooks := .later }
def FnExactStepHartCardSaid : Prop := Claim7.holds Tryz.pinned (.plain (OpenSpec.ofChange fnExactStepHartSpec)) fnExactStepHartCard

/-- THE TIED CARD OF 'laws.FnExactStepMany'. -/
def fnExactStepManyCard : Claim7 := { stood := { row := fnExactStepManyRow, standIns := [], harness := (true, "45e77254073d8c2e5e26c13af0b56b3421d9fc2f9032267f48402fa1f199cb8c"), looks := false }, kinds := [], alts := [], laidByText := true, laidKinds := [.data], laidTests := true, laidLooks := .later }
def FnExactStepManyCardSaid : Prop := Claim7.holds Tryz.pinned (.plain (OpenSpec.ofChange fnExactStepManySpec)) fnExactStepManyCard

/-- THE TIED CARD OF 'laws.FnExactRunSolo'. -/
def fnExactRunSoloCard : Claim7 := { stood := { row := fnExactRunSoloRow, standIns := [], harness := (true, "45e77254073d8c2e5e26c13af0b56b3421d9fc2f9032267f48402fa1f199cb8c"), looks := false }, kinds := [], alts := [], laidByText := true, laidKinds := [.data], laidTests := true, laidLooks := .later }
def FnExactRunSoloCardSaid : Prop := Claim7.holds Tryz.pinned (.plain (OpenSpec.ofChange fnExactRunSoloSpec)) fnExactRunSoloCard

/-- THE TIED CARD OF 'laws.FnSteps'. -/
def fnStepsCard : Claim7 := { stood := { row := fnStepsRow, standIns := [], harness := (true, "45e77254073d8c2e5e26c13af0b56b3421d9fc2f9032267f48402fa1f199cb8c"), looks := false }, kinds := [], alts := [], laidByText := true, laidKinds := [.data], laidTests := true, laidLooks := .later }
def FnStepsCardSaid : Prop := Claim7.holds Tryz.pinned (.plain (OpenSpec.ofChange fnStepsSpec)) fnStepsCard

/-- THE TIED CARD OF 'laws.FnMany'. -/
def fnManyCard : Claim7 := { stood := { row := fnManyRow, standIns := [], harness := (true, "45e77254073d8c2e5e26c13af0b56b3421d9fc2f9032267f48402fa1f199cb8c"), looks := false }, kinds := [], alts := [], laidByText := true, laidKinds := [.data], laidTests := true, laidLooks := .later }
def FnManyCardSaid : Prop := Claim7.holds Tryz.pinned (.plain (OpenSpec.ofChange fnManySpec)) fnManyCard

/-- THE TIED CARD OF 'laws.FnFaults'. -/
def fnFaultsCard : Claim7 := { stood := { row := fnFaultsRow, standIns := [], harness := (true, "45e77254073d8c2e5e26c13af0b56b3421d9fc2f9032267f48402fa1f199cb8c"), looks := false }, kinds := [], alts := [], laidByText := true, laidKinds := [.data], laidTests := true, laidLooks := .later }
def FnFaultsCardSaid : Prop := Claim7.holds Tryz.pinned (.plain (OpenSpec.ofChange fnFaultsSpec)) fnFaultsCard

/-- THE TIED CARD OF 'laws.FnLanes'. -/
def fnLanesCard : Claim7 := { stood := { row := fnLanesRow, standIns := [], harness := (true, "45e77254073d8c2e5e26c13af0b56b3421d9fc2f9032267f48402fa1f199cb8c"), looks := false }, kinds := [], alts := [], laidByText := true, laidKinds := [.data], laidTests := true, laidLooks := .later }
def FnLanesCardSaid : Prop := Claim7.holds Tryz.pinned (.plain (OpenSpec.ofChange fnLanesSpec)) fnLanesCard

/-- THE SECOND FORM's CARD OF 'laws.FnExactStepHart'. -/
def fnExactStepHartUptoCard : Claim7 := { stood := { row := fnExactStepHartUptoRow, standIns := [], harness := (true, "45e77254073d8c2e5e26c13af0b56b3421d9fc2f9032267f48402fa1f199cb8c"), looks := false }, kinds := [], alts := [], laidByText := true, laidKinds := [.data], laidTests := true, laidLooks := .later }
def FnExactStepHartUptoCardSaid : Prop := Claim7.holds Tryz.pinned (.plain (OpenSpec.upto fnExactStepHartSpec)) fnExactStepHartUptoCard

/-- THE SECOND FORM's CARD OF 'laws.FnExactStepMany'. -/
def fnExactStepManyUptoCard : Claim7 := { stood := { row := fnExactStepManyUptoRow, standIns := [], harness := (true, "45e77254073d8c2e5e26c13af0b56b3421d9fc2f9032267f48402fa1f199cb8c"), looks := false }, kinds := [], alts := [], laidByText := true, laidKinds := [.data], laidTests := true, laidLooks := .later }
def FnExactStepManyUptoCardSaid : Prop := Claim7.holds Tryz.pinned (.plain (OpenSpec.upto fnExactStepManySpec)) fnExactStepManyUptoCard

/-- THE SECOND FORM's CARD OF 'laws.FnExactRunSolo'. -/
def fnExactRunSoloUptoCard : Claim7 := { stood := { row := fnExactRunSoloUptoRow, standIns := [], harness := (true, "45e77254073d8c2e5e26c13af0b56b3421d9fc2f9032267f48402fa1f199cb8c"), looks := false }, kinds := [], alts := [], laidByText := true, laidKinds := [.data], laidTests := true, laidLooks := .later }
def FnExactRunSoloUptoCardSaid : Prop := Claim7.holds Tryz.pinned (.plain (OpenSpec.upto fnExactRunSoloSpec)) fnExactRunSoloUptoCard

/-- THE SECOND FORM's CARD OF 'laws.FnSteps'. -/
def fnStepsUptoCard : Claim7 := { stood := { row := fnStepsUptoRow, standIns := [], harness := (true, "45e77254073d8c2e5e26c13af0b56b3421d9fc2f9032267f48402fa1f199cb8c"), looks := false }, kinds := [], alts := [], laidByText := true, laidKinds := [.data], laidTests := true, laidLooks := .later }
def FnStepsUptoCardSaid : Prop := Claim7.holds Tryz.pinned (.plain (OpenSpec.upto fnStepsSpec)) fnStepsUptoCard

/-- THE SECOND FORM's CARD OF 'laws.FnMany'. -/
def fnManyUptoCard : Claim7 := { stood := { row := fnManyUptoRow, standIns := [], harness := (true, "45e77254073d8c2e5e26c13af0b56b3421d9fc2f9032267f48402fa1f199cb8c"), looks := false }, kinds := [], alts := [], laidByText := true, laidKinds := [.data], laidTests := true, laidLooks := .later }
def FnManyUptoCardSaid : Prop := Claim7.holds Tryz.pinned (.plain (OpenSpec.upto fnManySpec)) fnManyUptoCard

/-- THE SECOND FORM's CARD OF 'laws.FnFaults'. -/
def fnFaultsUptoCard : Claim7 := { stood := { row := fnFaultsUptoRow, standIns := [], harness := (true, "45e77254073d8c2e5e26c13af0b56b3421d9fc2f9032267f48402fa1f199cb8c"), looks := false }, kinds := [], alts := [], laidByText := true, laidKinds := [.data], laidTests := true, laidLooks := .later }
def FnFaultsUptoCardSaid : Prop := Claim7.holds Tryz.pinned (.plain (OpenSpec.upto fnFaultsSpec)) fnFaultsUptoCard

/-- THE SECOND FORM's CARD OF 'laws.FnLanes'. -/
def fnLanesUptoCard : Claim7 := { stood := { row := fnLanesUptoRow, standIns := [], harness := (true, "45e77254073d8c2e5e26c13af0b56b3421d9fc2f9032267f48402fa1f199cb8c"), looks := false }, kinds := [], alts := [], laidByText := true, laidKinds := [.data], laidTests := true, laidLooks := .later }
def FnLanesUptoCardSaid : Prop := Claim7.holds Tryz.pinned (.plain (OpenSpec.upto fnLanesSpec)) fnLanesUptoCard
end Rows
end Go.Proofs.YtkbcjonmodmfcaaGreatDoor
