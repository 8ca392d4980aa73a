/-
  DERIVED. GIVEN WITH THE SEED: THE CARDS: each row of YticbdcmkcghijaaGreatDoorRows.lean that lists a variable, with what it lists TIED to the program's text (the seventh form; the later family's looks); each row that meets fmt, with fmt's text TOLD by the authors' own Lean function (tested against real Go, not proved from fmt's source: count such statements apart). THE CARD IS WHAT COUNTS. Prove the row's statement (the work); the ties are given (YticbdcmkcghijaaGreatDoorTie.lean); close each card by the builder's one call (the guide's Derived/Test/ToyasCard.lean, 'card_holds'). Laid BY PROGRAM, IN A SANDBOX (cutbox-door.mjs). By AI agents, Wed Nov 11 2026. No macro, syntax, notation, axiom, sorry.
-/
import Derived.Test.YticbdcmkcghijaaGreatDoorRows
import GoSem.ClaimSeven
namespace Go.Proofs.YticbdcmkcghijaaGreatDoor
namespace Rows

/-- THE TIED CARD OF 'laws.FnSingles'. -/
def fnSinglesCard : Claim7 := { stood := { row := fnSinglesRow, standIns := [], harness := (true, "b626a137ed54b88a6049963574aabb37f67114a48207e4bb8f5fea1fe7d68093"), looks := false }, kinds := [], alts := [], laidByText := true, laidKinds := [.data], laidTests := true, laidLooks := .later }
def FnSinglesCardSaid : Prop := Claim7.holds Tryz.pinned (.plain (OpenSpec.ofChange fnSinglesSpec)) fnSinglesCard

/-- THE TIED CARD OF 'laws.FnHosts'. -/
def fnHostsCard : Claim7 := { stood := { row := fnHostsRow, standIns := [], harness := (true, "b626a137ed54b88a6049963574aabb37f67114a48207e4bb8f5fea1fe7d68093"), looks := false }, kinds := [], alts := [], laidByText := true, laidKinds := [.data], laidTests := true, laidLooks := .later }
def FnHostsCardSaid : Prop := Claim7.holds Tryz.pinned (.plain (OpenSpec.ofChange fnHostsSpec)) fnHostsCard

/-- THE TIED CARD OF 'laws.FnTwins'. -/
def fnTwinsCard : Claim7 := { stood := { row := fnTwinsRow, standIns := [], harness := (true, "b626a137ed54b88a6049963574aabb37f67114a48207e4bb8f5fea1fe7d68093"), looks := false }, kinds := [], alts := [], laidByText := true, laidKinds := [.data], laidTests := true, laidLooks := .later }
def FnTwinsCardSaid : Prop := Claim7.holds Tryz.pinned (.plain (OpenSpec.ofChange fnTwinsSpec)) fnTwinsCard

/-- THE SECOND FORM's CARD OF 'laws.FnSingles'. -/
def fnSinglesUptoCard : Claim7 := { stood := { row := fnSinglesUptoRow, standIns := [], harness := (true, "b626a137ed54b88a6049963574aabb37f67114a48207e4bb8f5fea1fe7d68093"), looks := false }, kinds := [], alts := [], laidByText := true, laidKinds := [.data], laidTests := true, laidLooks := .later }
def FnSinglesUptoCardSaid : Prop := Claim7.holds Tryz.pinned (.plain (OpenSpec.upto fnSinglesSpec)) fnSinglesUptoCard

/-- THE SECOND FORM's CARD OF 'laws.FnHosts'. -/
def fnHostsUptoCard : Claim7 := { stood := { row := fnHostsUptoRow, standIns := [], harness := (true, "b626a137ed54b88a6049963574aabb37f67114a48207e4bb8f5fea1fe7d68093"), looks := false }, kinds := [], alts := [], laidByText := true, laidKinds := [.data], laidTests := true, laidLooks := .later }
def FnHostsUptoCardSaid : Prop := Claim7.holds Tryz.pinned (.plain (OpenSpec.upto fnHostsSpec)) fnHostsUptoCard

/-- THE SECOND FORM's CARD OF 'laws.FnTwins'. -/
def fnTwinsUptoCard : Claim7 := { stood := { row := fnTwinsUptoRow, standIns := [], harness := (true, "b626a137ed54b88a6049963574aabb37f67114a48207e4bb8f5fea1fe7d68093"), looks := false }, kinds := [], alts := [], laidByText := true, laidKinds := [.data], laidTests := true, laidLooks := .later }
def FnTwinsUptoCardSaid : Prop := Claim7.holds Tryz.pinned (.plain (OpenSpec.upto fnTwinsSpec)) fnTwinsUptoCard
end Rows
end Go.Proofs.YticbdcmkcghijaaGreatDoor
