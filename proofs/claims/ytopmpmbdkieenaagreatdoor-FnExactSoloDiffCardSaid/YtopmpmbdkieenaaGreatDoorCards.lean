/-
  DERIVED. GIVEN WITH THE SEED: THE CARDS: each row of YtopmpmbdkieenaaGreatDoorRows.lean that lists a variable, with what it lists TIED to the program's text (the seventh form; the later family's looks); each row that meets fmt, with fmt's text TOLD by the authors' own Lean function (tested against real Go, not proved from fmt's source: count such statements apart). THE CARD IS WHAT COUNTS. Prove the row's statement (the work); the ties are given (YtopmpmbdkieenaaGreatDoorTie.lean); close each card by the builder's one call (the guide's Derived/Test/ToyasCard.lean, 'card_holds'). Laid BY PROGRAM, IN A SANDBOX (cutbox-door.mjs). By AI agents, Wed Nov 11 2026. No macro, syntax, notation, axiom, sorry.
-/
import Derived.Test.YtopmpmbdkieenaaGreatDoorRows
import GoSem.ClaimSeven
namespace Go.Proofs.YtopmpmbdkieenaaGreatDoor
namespace Rows

/-- THE TIED CARD OF 'laws.FnExactSoloDiff'. -/
def fnExactSoloDiffCard : Claim7 := { stood := { row := fnExactSoloDiffRow, standIns := [], harness := (true, "d56ada5931485cd12ce19c34add2983f7ce1e1d9af1fdacc91f679f820d7545d"), looks := false }, kinds := [], alts := [], laidByText := true, laidKinds := [.data], laidTests := true, laidLooks := .later }
def FnExactSoloDiffCardSaid : Prop := Claim7.holds Tryz.pinned (.plain (OpenSpec.ofChange fnExactSoloDiffSpec)) fnExactSoloDiffCard

/-- THE SECOND FORM's CARD OF 'laws.FnExactSoloDiff'. -/
def fnExactSoloDiffUptoCard : Claim7 := { stood := { row := fnExactSoloDiffUptoRow, standIns := [], harness := (true, "d56ada5931485cd12ce19c34add2983f7ce1e1d9af1fdacc91f679f820d7545d"), looks := false }, kinds := [], alts := [], laidByText := true, laidKinds := [.data], laidTests := true, laidLooks := .later }
def FnExactSoloDiffUptoCardSaid : Prop := Claim7.holds Tryz.pinned (.plain (OpenSpec.upto fnExactSoloDiffSpec)) fnExactSoloDiffUptoCard
end Rows
end Go.Proofs.YtopmpmbdkieenaaGreatDoor
