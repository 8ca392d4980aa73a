/- FnExactFirstDiff: the law answers true at every input, and leaves its arguments as they are; condition: the table math/bits.deBruijn64tab holds what the text lays; the card ties it. -/
import Derived.Test.YtajnommlfjfgpaaGreatDoorRa
import Derived.Test.YtajnommlfjfgpaaGreatDoorRows
import Derived.Test.YtajnommlfjfgpaaGreatDoorTie
import Derived.Test.YtajnommlfjfgpaaGreatDoorCards
import Derived.ProofKit
import Derived.OpenShut
import Derived.LaidMore
import Derived.Lay
import Derived.SevenTiedAt
import Derived.Stop.Joined
namespace Go.Proofs.YtajnommlfjfgpaaGreatDoor
open Go Go.ChangeShapes Go.WideShapes Go.ChangeAt Go.RowKit S Go.Proofs
set_option maxRecDepth 100000
set_option linter.unusedVariables false
theorem fact0 : (Rows.fnExactFirstDiffRow.inPlace == Tryz.checked.prog.inPlace 9) = true := by kernel_rfl
theorem fact1 : (Rows.fnExactFirstDiffRow.unfollowed == Tryz.checked.prog.unfollowed 9) = true := by kernel_rfl
theorem fact2 : (Rows.fnExactFirstDiffRow.recurses == Tryz.checked.prog.recurses 9) = true := by kernel_rfl
theorem fact3 : (Rows.fnExactFirstDiffRow.named == Tryz.checked.prog.varsNamed 9) = true := by kernel_rfl
theorem fact4 : (Rows.fnExactFirstDiffRow.lifted == Tryz.checked.prog.liftsFinal) = true := by kernel_rfl
theorem fact_stopsHeard : Tryz.checked.prog.stopsHeard = true := by kernel_rfl
theorem fact_mayEnter : Tryz.checked.prog.mayEnter = true := by kernel_rfl
set_option maxHeartbeats 4000000 in
theorem fnExactFirstDiff_facts : joinedFacts Tryz.checked.prog 9 Tryz.f9 Rows.fnExactFirstDiffSpec Rows.fnExactFirstDiffRow = true := by
 unfold joinedFacts
 simp only [Bool.and_eq_true]
 repeat' apply And.intro
 all_goals first | with_reducible exact fact0 | with_reducible exact fact1 | with_reducible exact fact2 | with_reducible exact fact3 | with_reducible exact fact4 | with_reducible exact fact_stopsHeard | with_reducible exact fact_mayEnter | (as_aux_lemma => kernel_rfl)
theorem fnExactFirstDiff_holds : Rows.FnExactFirstDiffSaid :=
 OpenClaim.holds_of_wide 9 Tryz.f9 rfl rfl rfl rfl rfl rfl rfl ⟨rfl, rfl, rfl, rfl, rfl⟩ rfl rfl rfl rfl rfl (by kernel_rfl) Tryz.func9 fnExactFirstDiff_facts
  (of_decide_eq_true (by kernel_rfl)) (by unfold Func.isWrapper; first | (rw [if_pos (by decide +kernel)]; kernel_rfl) | (rw [if_neg (by decide +kernel)]; exact ⟨rfl, rfl⟩))
  (fun os started H enc _ => fnExactFirstDiffRow.lifted os started H enc)
end Go.Proofs.YtajnommlfjfgpaaGreatDoor
