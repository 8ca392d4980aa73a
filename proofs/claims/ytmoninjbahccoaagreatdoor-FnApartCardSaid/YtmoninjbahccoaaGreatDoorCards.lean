/-
  DERIVED. GIVEN WITH THE SEED: THE CARDS: each row of YtmoninjbahccoaaGreatDoorRows.lean that lists a variable, with what it lists TIED to the program's text (the seventh form; the later family's looks); each row that meets fmt, with fmt's text TOLD by the authors' own Lean function (tested against real Go, not proved from fmt's source: count such statements apart). THE CARD IS WHAT COUNTS. Prove the row's statement (the work); the ties are given (YtmoninjbahccoaaGreatDoorTie.lean); close each card by the builder's one call (the guide's Derived/Test/ToyasCard.lean, 'card_holds'). Laid BY PROGRAM, IN A SANDBOX (cutbox-door.mjs). By AI agents, Wed Nov 11 2026. No macro, syntax, notation, axiom, sorry.
-/
import Derived.Test.YtmoninjbahccoaaGreatDoorRows
import GoSem.ClaimSeven
namespace Go.Proofs.YtmoninjbahccoaaGreatDoor
namespace Rows

/-- THE TIED CARD OF 'laws.FnLanes'. -/
def fnLanesCard : Claim7 := { stood := { row := fnLanesRow, standIns := [], harness := (true, "c23d19b726db80b82b8e7d94e7bb865ef4ccfe08eb85bccc80d934dfec9a52ee"), looks := false }, kinds := [], alts := [], laidByText := true, laidKinds := [.data], laidTests := true, laidLooks := .later }
def FnLanesCardSaid : Prop := Claim7.holds Tryz.pinned (.plain (OpenSpec.ofChange fnLanesSpec)) fnLanesCard

/-- THE TIED CARD OF 'laws.FnAlone'. -/
def fnAloneCard : Claim7 := { stood := { row := fnAloneRow, standIns := [], harness := (true, "c23d19b726db80b82b8e7d94e7bb865ef4ccfe08eb85bccc80d934dfec9a52ee"), looks := false }, kinds := [], alts := [], laidByText := true, laidKinds := [.data], laidTests := true, laidLooks := .later }
def FnAloneCardSaid : Prop := Claim7.holds Tryz.pinned (.plain (OpenSpec.ofChange fnAloneSpec)) fnAloneCard

/-- THE TIED CARD OF 'laws.FnApart'. -/
def fnApartCard : Claim7 := { stood := { row := fnApartRow, standIns := [], harness := (true, "c23d19b726db80b82b8e7d94e7bb865ef4ccfe08eb85bccc80d934dfec9a52ee"), looks := false }, kinds := [], alts := [], laidByText := true, laidKinds := [.data], laidTests := true, laidLooks := .later }
def FnApartCardSaid : Prop := Claim7.holds Tryz.pinned (.plain (OpenSpec.ofChange fnApartSpec)) fnApartCard

/-- THE SECOND FORM's CARD OF 'laws.FnLanes'. -/
def fnLanesUptoCard : Claim7 := { stood := { row := fnLanesUptoRow, standIns := [], harness := (true, "c23d19b726db80b82b8e7d94e7bb865ef4ccfe08eb85bccc80d934dfec9a52ee"), looks := false }, kinds := [], alts := [], laidByText := true, laidKinds := [.data], laidTests := true, laidLooks := .later }
def FnLanesUptoCardSaid : Prop := Claim7.holds Tryz.pinned (.plain (OpenSpec.upto fnLanesSpec)) fnLanesUptoCard

/-- THE SECOND FORM's CARD OF 'laws.FnAlone'. -/
def fnAloneUptoCard : Claim7 := { stood := { row := fnAloneUptoRow, standIns := [], harness := (true, "c23d19b726db80b82b8e7d94e7bb865ef4ccfe08eb85bccc80d934dfec9a52ee"), looks := false }, kinds := [], alts := [], laidByText := true, laidKinds := [.data], laidTests := true, laidLooks := .later }
def FnAloneUptoCardSaid : Prop := Claim7.holds Tryz.pinned (.plain (OpenSpec.upto fnAloneSpec)) fnAloneUptoCard

/-- THE SECOND FORM's CARD OF 'laws.FnApart'. -/
def fnApartUptoCard : Claim7 := { stood := { row := fnApartUptoRow, standIns := [], harness := (true, "c23d19b726db80b82b8e7d94e7bb865ef4ccfe08eb85bccc80d934dfec9a52ee"), looks := false }, kinds := [], alts := [], laidByText := true, laidKinds := [.data], laidTests := true, laidLooks := .later }
def FnApartUptoCardSaid : Prop := Claim7.holds Tryz.pinned (.plain (OpenSpec.upto fnApartSpec)) fnApartUptoCard
end Rows
end Go.Proofs.YtmoninjbahccoaaGreatDoor
