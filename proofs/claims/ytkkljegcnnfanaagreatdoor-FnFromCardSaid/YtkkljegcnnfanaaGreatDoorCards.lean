/-
  DERIVED. GIVEN WITH THE SEED: THE CARDS: each row of YtkkljegcnnfanaaGreatDoorRows.lean that lists a variable, with what it lists TIED to the program's text (the seventh form; the later family's looks); each row that meets fmt, with fmt's text TOLD by the authors' own Lean function (tested against real Go, not proved from fmt's source: count such statements apart). THE CARD IS WHAT COUNTS. Prove the row's statement (the work); the ties are given (YtkkljegcnnfanaaGreatDoorTie.lean); close each card by the builder's one call (the guide's Derived/Test/ToyasCard.lean, 'card_holds'). Laid BY PROGRAM, IN A SANDBOX (cutbox-door.mjs). By AI agents, Wed Nov 11 2026. No macro, syntax, notation, axiom, sorry.
-/
import Derived.Test.YtkkljegcnnfanaaGreatDoorRows
import GoSem.ClaimSeven
namespace Go.Proofs.YtkkljegcnnfanaaGreatDoor
namespace Rows

/-- THE TIED CARD OF 'laws.FnOwn'. -/
def fnOwnCard : Claim7 := { stood := { row := fnOwnRow, standIns := [], harness := (true, "838f6a72c24820932d83771ef45a35662f14cf6d633174d96f5146d485ecc062"), looks := false }, kinds := [], alts := [], laidByText := true, laidKinds := [.data], laidTests := true, laidLooks := .later }
def FnOwnCardSaid : Prop := Claim7.holds Tryz.pinned (.plain (OpenSpec.ofChange fnOwnSpec)) fnOwnCard

/-- THE TIED CARD OF 'laws.FnFeeds'. -/
def fnFeedsCard : Claim7 := { stood := { row := fnFeedsRow, standIns := [], harness := (true, "838f6a72c24820932d83771ef45a35662f14cf6d633174d96f5146d485ecc062"), looks := false }, kinds := [], alts := [], laidByText := true, laidKinds := [.data], laidTests := true, laidLooks := .later }
def FnFeedsCardSaid : Prop := Claim7.holds Tryz.pinned (.plain (OpenSpec.ofChange fnFeedsSpec)) fnFeedsCard

/-- THE TIED CARD OF 'laws.FnFrom'. -/
def fnFromCard : Claim7 := { stood := { row := fnFromRow, standIns := [], harness := (true, "838f6a72c24820932d83771ef45a35662f14cf6d633174d96f5146d485ecc062"), looks := false }, kinds := [], alts := [], laidByText := true, laidKinds := [.data], laidTests := true, laidLooks := .later }
def FnFromCardSaid : Prop := Claim7.holds Tryz.pinned (.plain (OpenSpec.ofChange fnFromSpec)) fnFromCard

/-- THE SECOND FORM's CARD OF 'laws.FnOwn'. -/
def fnOwnUptoCard : Claim7 := { stood := { row := fnOwnUptoRow, standIns := [], harness := (true, "838f6a72c24820932d83771ef45a35662f14cf6d633174d96f5146d485ecc062"), looks := false }, kinds := [], alts := [], laidByText := true, laidKinds := [.data], laidTests := true, laidLooks := .later }
def FnOwnUptoCardSaid : Prop := Claim7.holds Tryz.pinned (.plain (OpenSpec.upto fnOwnSpec)) fnOwnUptoCard

/-- THE SECOND FORM's CARD OF 'laws.FnFeeds'. -/
def fnFeedsUptoCard : Claim7 := { stood := { row := fnFeedsUptoRow, standIns := [], harness := (true, "838f6a72c24820932d83771ef45a35662f14cf6d633174d96f5146d485ecc062"), looks := false }, kinds := [], alts := [], laidByText := true, laidKinds := [.data], laidTests := true, laidLooks := .later }
def FnFeedsUptoCardSaid : Prop := Claim7.holds Tryz.pinned (.plain (OpenSpec.upto fnFeedsSpec)) fnFeedsUptoCard

/-- THE SECOND FORM's CARD OF 'laws.FnFrom'. -/
def fnFromUptoCard : Claim7 := { stood := { row := fnFromUptoRow, standIns := [], harness := (true, "838f6a72c24820932d83771ef45a35662f14cf6d633174d96f5146d485ecc062"), looks := false }, kinds := [], alts := [], laidByText := true, laidKinds := [.data], laidTests := true, laidLooks := .later }
def FnFromUptoCardSaid : Prop := Claim7.holds Tryz.pinned (.plain (OpenSpec.upto fnFromSpec)) fnFromUptoCard
end Rows
end Go.Proofs.YtkkljegcnnfanaaGreatDoor
