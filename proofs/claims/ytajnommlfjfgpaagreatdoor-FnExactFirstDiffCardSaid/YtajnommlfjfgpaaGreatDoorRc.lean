/- FnExactFirstDiff: the law answers true at every input, and leaves its arguments as they are; condition: the table math/bits.deBruijn64tab holds what the text lays; the card ties it. -/
import Derived.Test.YtajnommlfjfgpaaGreatDoorRb
import Derived.Test.YtajnommlfjfgpaaGreatDoorRows
import Derived.Test.YtajnommlfjfgpaaGreatDoorTie
import Derived.Test.YtajnommlfjfgpaaGreatDoorCards
import Derived.ProofKit
import Derived.OpenShut
import Derived.LaidMore
import Derived.Lay
import Derived.SevenTiedAt
import Derived.Stop.Joined
namespace Go.Proofs.YtajnommlfjfgpaaGreatDoor
open Go Go.ChangeShapes Go.WideShapes Go.ChangeAt Go.RowKit S Go.Proofs
set_option maxRecDepth 100000
set_option linter.unusedVariables false
set_option maxHeartbeats 4000000 in
theorem fnExactFirstDiff_card_holds : Rows.FnExactFirstDiffCardSaid :=
 Claim7.holds_tied_plain_at .later [] [.data] true (true, "368cca44a7a94a16c32748ce5fdba32b39afd26442eea0a8d40a155bf47c67c7") false fnExactFirstDiff_holds (fun _ h => by cases h) (by as_aux_lemma => kernel_rfl) (fun _ h => by cases h) fnExactFirstDiff_row_tie rfl ⟨rfl, rfl⟩ (by as_aux_lemma => kernel_rfl) rfl
  (fun f fn hf hfn => by
   obtain rfl : f = 9 := Option.some.inj ((show Tryz.prog.funcNamed "loop.example/g00213/laws.FnExactFirstDiff" = some 9 by as_aux_lemma => kernel_rfl).symm.trans hf) |>.symm
   obtain rfl : fn = Tryz.f9 := (Option.some.inj (Tryz.func9.symm.trans hfn)).symm
   exact ⟨by as_aux_lemma => kernel_rfl, fun j t ht => by
    have hm : t ∈ Tryz.f9.params.toList := by simpa using Array.mem_of_getElem? ht
    have hall : (Tryz.f9.params.toList.all fun u => !Tryz.prog.wantsStandIn u) = true := by as_aux_lemma => kernel_rfl
    exact (show Tryz.prog.wantsStandIn t = false by simpa using List.all_eq_true.1 hall t hm)⟩)
  (by as_aux_lemma => kernel_rfl)
end Go.Proofs.YtajnommlfjfgpaaGreatDoor
