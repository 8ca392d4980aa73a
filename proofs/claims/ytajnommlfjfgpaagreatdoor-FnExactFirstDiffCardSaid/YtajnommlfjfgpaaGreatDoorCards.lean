/-
  DERIVED. GIVEN WITH THE SEED: THE CARDS: each row of YtajnommlfjfgpaaGreatDoorRows.lean that lists a variable, with what it lists TIED to the program's text (the seventh form; the later family's looks); each row that meets fmt, with fmt's text TOLD by the authors' own Lean function (tested against real Go, not proved from fmt's source: count such statements apart). THE CARD IS WHAT COUNTS. Prove the row's statement (the work); the ties are given (YtajnommlfjfgpaaGreatDoorTie.lean); close each card by the builder's one call (the guide's Derived/Test/ToyasCard.lean, 'card_holds'). Laid BY PROGRAM, IN A SANDBOX (cutbox-door.mjs). By AI agents, Wed Nov 11 2026. No macro, syntax, notation, axiom, sorry.
-/
import Derived.Test.YtajnommlfjfgpaaGreatDoorRows
import GoSem.ClaimSeven
namespace Go.Proofs.YtajnommlfjfgpaaGreatDoor
namespace Rows

/-- THE TIED CARD OF 'laws.FnMany'. -/
def fnManyCard : Claim7 := { stood := { row := fnManyRow, standIns := [], harness := (true, "368cca44a7a94a16c32748ce5fdba32b39afd26442eea0a8d40a155bf47c67c7"), looks := false }, kinds := [], alts := [], laidByText := true, laidKinds := [.data], laidTests := true, laidLooks := .later }
def FnManyCardSaid : Prop := Claim7.holds Tryz.pinned (.plain (OpenSpec.ofChange fnManySpec)) fnManyCard

/-- THE TIED CARD OF 'laws.FnSteps'. -/
def fnStepsCard : Claim7 := { stood := { row := fnStepsRow, standIns := [], harness := (true, "368cca44a7a94a16c32748ce5fdba32b39afd26442eea0a8d40a155bf47c67c7"), looks := false }, kinds := [], alts := [], laidByText := true, laidKinds := [.data], laidTests := true, laidLooks := .later }
def FnStepsCardSaid : Prop := Claim7.holds Tryz.pinned (.plain (OpenSpec.ofChange fnStepsSpec)) fnStepsCard

/-- THE TIED CARD OF 'laws.FnFaults'. -/
def fnFaultsCard : Claim7 := { stood := { row := fnFaultsRow, standIns := [], harness := (true, "368cca44a7a94a16c32748ce5fdba32b39afd26442eea0a8d40a155bf47c67c7"), looks := false }, kinds := [], alts := [], laidByText := true, laidKinds := [.data], laidTests := true, laidLooks := .later }
def FnFaultsCardSaid : Prop := Claim7.holds Tryz.pinned (.plain (OpenSpec.ofChange fnFaultsSpec)) fnFaultsCard

/-- THE TIED CARD OF 'laws.FnLanes'. -/
def fnLanesCard : Claim7 := { stood := { row := fnLanesRow, standIns := [], harness := (true, "368cca44a7a94a16c32748ce5fdba32b39afd26442eea0a8d40a155bf47c67c7"), looks := false }, kinds := [], alts := [], laidByText := true, laidKinds := [.data], laidTests := true, laidLooks := .later }
def FnLanesCardSaid : Prop := Claim7.holds Tryz.pinned (.plain (OpenSpec.ofChange fnLanesSpec)) fnLanesCard

/-- THE TIED CARD OF 'laws.FnAlone'. -/
def fnAloneCard : Claim7 := { stood := { row := fnAloneRow, standIns := [], harness := (true, "368cca44a7a94a16c32748ce5fdba32b39afd26442eea0a8d40a155bf47c67c7"), looks := false }, kinds := [], alts := [], laidByText := true, laidKinds := [.data], laidTests := true, laidLooks := .later }
def FnAloneCardSaid : Prop := Claim7.holds Tryz.pinned (.plain (OpenSpec.ofChange fnAloneSpec)) fnAloneCard

/-- THE TIED CARD OF 'laws.FnApart'. -/
def fnApartCard : Claim7 := { stood := { row := fnApartRow, standIns := [], harness := (true, "368cca44a7a94a16c32748ce5fdba32b39afd26442eea0a8d40a155bf47c67c7"), looks := false }, kinds := [], alts := [], laidByText := true, laidKinds := [.data], laidTests := true, laidLooks := .later }
def FnApartCardSaid : Prop := Claim7.holds Tryz.pinned (.plain (OpenSpec.ofChange fnApartSpec)) fnApartCard

/-- THE TIED CARD OF 'laws.FnExactFirstDiff'. -/
def fnExactFirstDiffCard : Claim7 := { stood := { row := fnExactFirstDiffRow, standIns := [], harness := (true, "368cca44a7a94a16c32748ce5fdba32b39afd26442eea0a8d40a155bf47c67c7"), looks := false }, kinds := [], alts := [], laidByText := true, laidKinds := [.data], laidTests := true, laidLooks := .later }
def FnExactFirstDiffCardSaid : Prop := Claim7.holds Tryz.pinned (.plain (OpenSpec.ofChange fnExactFirstDiffSpec)) fnExactFirstDiffCard

/-- THE TIED CARD OF 'laws.FnExactSoloDiff'. -/
def fnExactSoloDiffCard : Claim7 := { stood := { row := fnExactSoloDiffRow, standIns := [], harness := (true, "368cca44a7a94a16c32748ce5fdba32b39afd26442eea0a8d40a155bf47c67c7"), looks := false }, kinds := [], alts := [], laidByText := true, laidKinds := [.data], laidTests := true, laidLooks := .later }
def FnExactSoloDiffCardSaid : Prop := Claim7.holds Tryz.pinned (.plain (OpenSpec.ofChange fnExactSoloDiffSpec)) fnExactSoloDiffCard

/-- THE SECOND FORM's CARD OF 'laws.FnMany'. -/
def fnManyUptoCard : Claim7 := { stood := { row := fnManyUptoRow, standIns := [], harness := (true, "368cca44a7a94a16c32748ce5fdba32b39afd26442eea0a8d40a155bf47c67c7"), looks := false }, kinds := [], alts := [], laidByText := true, laidKinds := [.data], laidTests := true, laidLooks := .later }
def FnManyUptoCardSaid : Prop := Claim7.holds Tryz.pinned (.plain (OpenSpec.upto fnManySpec)) fnManyUptoCard

/-- THE SECOND FORM's CARD OF 'laws.FnSteps'. -/
def fnStepsUptoCard : Claim7 := { stood := { row := fnStepsUptoRow, standIns := [], harness := (true, "368cca44a7a94a16c32748ce5fdba32b39afd26442eea0a8d40a155bf47c67c7"), looks := false }, kinds := [], alts := [], laidByText := true, laidKinds := [.data], laidTests := true, laidLooks := .later }
def FnStepsUptoCardSaid : Prop := Claim7.holds Tryz.pinned (.plain (OpenSpec.upto fnStepsSpec)) fnStepsUptoCard

/-- THE SECOND FORM's CARD OF 'laws.FnFaults'. -/
def fnFaultsUptoCard : Claim7 := { stood := { row := fnFaultsUptoRow, standIns := [], harness := (true, "368cca44a7a94a16c32748ce5fdba32b39afd26442eea0a8d40a155bf47c67c7"), looks := false }, kinds := [], alts := [], laidByText := true, laidKinds := [.data], laidTests := true, laidLooks := .later }
def FnFaultsUptoCardSaid : Prop := Claim7.holds Tryz.pinned (.plain (OpenSpec.upto fnFaultsSpec)) fnFaultsUptoCard

/-- THE SECOND FORM's CARD OF 'laws.FnLanes'. -/
def fnLanesUptoCard : Claim7 := { stood := { row := fnLanesUptoRow, standIns := [], harness := (true, "368cca44a7a94a16c32748ce5fdba32b39afd26442eea0a8d40a155bf47c67c7"), looks := false }, kinds := [], alts := [], laidByText := true, laidKinds := [.data], laidTests := true, laidLooks := .later }
def FnLanesUptoCardSaid : Prop := Claim7.holds Tryz.pinned (.plain (OpenSpec.upto fnLanesSpec)) fnLanesUptoCard

/-- THE SECOND FORM's CARD OF 'laws.FnAlone'. -/
def fnAloneUptoCard : Claim7 := { stood := { row := fnAloneUptoRow, standIns := [], harness := (true, "368cca44a7a94a16c32748ce5fdba32b39afd26442eea0a8d40a155bf47c67c7"), looks := false }, kinds := [], alts := [], laidByText := true, laidKinds := [.data], laidTests := true, laidLooks := .later }
def FnAloneUptoCardSaid : Prop := Claim7.holds Tryz.pinned (.plain (OpenSpec.upto fnAloneSpec)) fnAloneUptoCard

/-- THE SECOND FORM's CARD OF 'laws.FnApart'. -/
def fnApartUptoCard : Claim7 := { stood := { row := fnApartUptoRow, standIns := [], harness := (true, "368cca44a7a94a16c32748ce5fdba32b39afd26442eea0a8d40a155bf47c67c7"), looks := false }, kinds := [], alts := [], laidByText := true, laidKinds := [.data], laidTests := true, laidLooks := .later }
def FnApartUptoCardSaid : Prop := Claim7.holds Tryz.pinned (.plain (OpenSpec.upto fnApartSpec)) fnApartUptoCard

/-- THE SECOND FORM's CARD OF 'laws.FnExactFirstDiff'. -/
def fnExactFirstDiffUptoCard : Claim7 := { stood := { row := fnExactFirstDiffUptoRow, standIns := [], harness := (true, "368cca44a7a94a16c32748ce5fdba32b39afd26442eea0a8d40a155bf47c67c7"), looks := false }, kinds := [], alts := [], laidByText := true, laidKinds := [.data], laidTests := true, laidLooks := .later }
def FnExactFirstDiffUptoCardSaid : Prop := Claim7.holds Tryz.pinned (.plain (OpenSpec.upto fnExactFirstDiffSpec)) fnExactFirstDiffUptoCard

/-- THE SECOND FORM's CARD OF 'laws.FnExactSoloDiff'. -/
def fnExactSoloDiffUptoCard : Claim7 := { stood := { row := fnExactSoloDiffUptoRow, standIns := [], harness := (true, "368cca44a7a94a16c32748ce5fdba32b39afd26442eea0a8d40a155bf47c67c7"), looks := false }, kinds := [], alts := [], laidByText := true, laidKinds := [.data], laidTests := true, laidLooks := .later }
def FnExactSoloDiffUptoCardSaid : Prop := Claim7.holds Tryz.pinned (.plain (OpenSpec.upto fnExactSoloDiffSpec)) fnExactSoloDiffUptoCard
end Rows
end Go.Proofs.YtajnommlfjfgpaaGreatDoor
