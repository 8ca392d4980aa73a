/- FnFrom: the law answers true at every input, and leaves its arguments as they are; condition: the table math/bits.deBruijn64tab holds what the text lays; the card ties it. -/
import Derived.Test.YtkkljegcnnfanaaGreatDoorRb
import Derived.Test.YtkkljegcnnfanaaGreatDoorRows
import Derived.Test.YtkkljegcnnfanaaGreatDoorTie
import Derived.Test.YtkkljegcnnfanaaGreatDoorCards
import Derived.ProofKit
import Derived.OpenShut
import Derived.LaidMore
import Derived.Lay
import Derived.SevenTiedAt
import Derived.Stop.Joined
namespace Go.Proofs.YtkkljegcnnfanaaGreatDoor
open Go Go.ChangeShapes Go.WideShapes Go.ChangeAt Go.RowKit S Go.Proofs
set_option maxRecDepth 100000
set_option linter.unusedVariables false
set_option maxHeartbeats 4000000 in
theorem fnFrom_card_holds : Rows.FnFromCardSaid :=
 Claim7.holds_tied_plain_at .later [] [.data] true (true, "838f6a72c24820932d83771ef45a35662f14cf6d633174d96f5146d485ecc062") false fnFrom_holds (fun _ h => by cases h) (by as_aux_lemma => kernel_rfl) (fun _ h => by cases h) fnFrom_row_tie rfl ⟨rfl, rfl⟩ (by as_aux_lemma => kernel_rfl) rfl
  (fun f fn hf hfn => by
   obtain rfl : f = 5 := Osj ((show Tryz.prog.funcNamed "loop.example/g00213/laws.FnFrom" = some 5 by as_aux_lemma => kernel_rfl).symm.trans hf) |>.symm
   obtain rfl : fn = Tryz.f5 := (Osj (Tryz.func5.symm.trans hfn)).symm
   exact ⟨by as_aux_lemma => kernel_rfl, fun j t ht => by
    have hm : t ∈ Tryz.f5.params.toList := by simpa using Array.mem_of_getElem? ht
    have hall : (Tryz.f5.params.toList.all fun u => !Tryz.prog.wantsStandIn u) = true := by as_aux_lemma => kernel_rfl
    exact (show Tryz.prog.wantsStandIn t = false by simpa using List.all_eq_true.1 hall t hm)⟩)
  (by as_aux_lemma => kernel_rfl)
end Go.Proofs.YtkkljegcnnfanaaGreatDoor
