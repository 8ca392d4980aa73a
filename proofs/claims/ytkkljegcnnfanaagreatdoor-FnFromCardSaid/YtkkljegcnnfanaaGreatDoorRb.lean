/- FnFrom: the law answers true at every input, and leaves its arguments as they are; condition: the table math/bits.deBruijn64tab holds what the text lays; the card ties it. -/
import Derived.Test.YtkkljegcnnfanaaGreatDoorRa
import Derived.Test.YtkkljegcnnfanaaGreatDoorRows
import Derived.Test.YtkkljegcnnfanaaGreatDoorTie
import Derived.Test.YtkkljegcnnfanaaGreatDoorCards
import Derived.ProofKit
import Derived.OpenShut
import Derived.LaidMore
import Derived.Lay
import Derived.SevenTiedAt
import Derived.Stop.Joined
namespace Go.Proofs.YtkkljegcnnfanaaGreatDoor
open Go Go.ChangeShapes Go.WideShapes Go.ChangeAt Go.RowKit S Go.Proofs
set_option maxRecDepth 100000
set_option linter.unusedVariables false
theorem fact0 : (Rows.fnFromRow.inPlace == Tryz.checked.prog.inPlace 5) = true := by kernel_rfl
theorem fact1 : (Rows.fnFromRow.unfollowed == Tryz.checked.prog.unfollowed 5) = true := by kernel_rfl
theorem fact2 : (Rows.fnFromRow.recurses == Tryz.checked.prog.recurses 5) = true := by kernel_rfl
theorem fact3 : (Rows.fnFromRow.named == Tryz.checked.prog.varsNamed 5) = true := by kernel_rfl
theorem fact4 : (Rows.fnFromRow.lifted == Tryz.checked.prog.liftsFinal) = true := by kernel_rfl
theorem fact_stopsHeard : Tryz.checked.prog.stopsHeard = true := by kernel_rfl
theorem fact_mayEnter : Tryz.checked.prog.mayEnter = true := by kernel_rfl
set_option maxHeartbeats 4000000 in
theorem fnFrom_facts : joinedFacts Tryz.checked.prog 5 Tryz.f5 Rows.fnFromSpec Rows.fnFromRow = true := by
 unfold joinedFacts
 simp only [Bool.and_eq_true]
 repeat' apply And.intro
 all_goals first | with_reducible exact fact0 | with_reducible exact fact1 | with_reducible exact fact2 | with_reducible exact fact3 | with_reducible exact fact4 | with_reducible exact fact_stopsHeard | with_reducible exact fact_mayEnter | (as_aux_lemma => kernel_rfl)
theorem fnFrom_holds : Rows.FnFromSaid :=
 OpenClaim.holds_of_wide 5 Tryz.f5 rfl rfl rfl rfl rfl rfl rfl ⟨rfl, rfl, rfl, rfl, rfl⟩ rfl rfl rfl rfl rfl (by kernel_rfl) Tryz.func5 fnFrom_facts
  (of_decide_eq_true (by kernel_rfl)) (by unfold Func.isWrapper; first | (rw [if_pos (by decide +kernel)]; kernel_rfl) | (rw [if_neg (by decide +kernel)]; exact ⟨rfl, rfl⟩))
  (fun os started H enc _ => fnFromRow.lifted os started H enc)
end Go.Proofs.YtkkljegcnnfanaaGreatDoor
