/- FnGaps: the law answers true at every input, and leaves its arguments as they are; condition: none. -/
import Derived.Test.YtilcgnimcdkfiaaPb2
import Derived.Test.YtilcgnimcdkfiaaRows
namespace Go.Proofs.Ytilcgnimcdkfiaa
open Go Go.RowKit S Go.Proofs
set_option maxRecDepth 100000
set_option linter.unusedVariables false
namespace fnGapsRow
theorem own : ownKnob Try.prog.godebug = none := by kernel_rfl
theorem laidOut : laidOutB Try.prog = true := by kernel_rfl
theorem read : ∀ t ∈ Try.f3.params.toList, Try.prog.readableRec t = true ∧ t < Try.prog.types.size := by
 have h : (Try.f3.params.toList.all fun t => Try.prog.readableRec t && decide (t < Try.prog.types.size)) = true := by kernel_rfl
 intro t ht
 have := List.all_eq_true.1 h t ht
 simpa using this
theorem lifted (os : Os) (started : os.Started) (H : Type) (enc : TypeId × Value → H) :
  ReturnsInHanded {} Try.checked os 3 .any (Rows.fnGapsSpec.pre6 enc Try.prog Try.f3 Rows.fnGapsRow.domain false) (Rows.fnGapsSpec.post enc Try.prog Try.f3 false true false false) := by
 refine returnsInHanded_of_change (C := Try.checked) own started (by kernel_rfl) Try.func3
  (ChangeSpec.witness6 (enc := enc) (C := Try.checked) false ⟨#[], #[.slice none 0 0], []⟩ 8 (by kernel_rfl) (by kernel_rfl) (by kernel_rfl) (by kernel_rfl)) ?_
 intro W base args ds gs before hval hW _ _
 have hW' := hW
 obtain ⟨p, q, hA, _⟩ := hW
 refine (law_run (cn := C_az) q_az rfl hT hS (ts := Try.f3.params.toList) (by kernel_rfl) ⟨rfl, rfl⟩ hA (fun j t v ht hv => hval j t v (by simpa using ht) hv) (fun x hx => ⟨_, gaps_F x hx, ?_⟩)).mono fun e W' he => ⟨_, he.1, ?_⟩
 ·rintro vs F1 w' S Q B ⟨v, vs', F2, F3, rfl, _, ⟨⟨cs, h1, h2⟩, _⟩, h3, _⟩
  subst h3
  have h2 : cs = [.bool true] := h2
  subst h2
  simp only [Val, isAg] at h1
  simpa using h1.symm
 ·exact law_post (H := H) laidOut read (tb := 4) (by kernel_rfl) (by kernel_rfl) rfl (fun ds hd => by
   have hd : ds.length = 1 := hd
   match ds, hd with
   | [d0], _ => rfl) hW' he.2
end fnGapsRow
theorem fnGaps_holds : Rows.FnGapsSaid :=
 OpenClaim.holds_of_wide 3 Try.f3 rfl rfl rfl rfl rfl rfl rfl ⟨rfl, rfl, rfl, rfl, rfl⟩ rfl rfl rfl rfl rfl (by kernel_rfl) Try.func3 (by kernel_rfl)
  (of_decide_eq_true (by kernel_rfl)) (by unfold Func.isWrapper; first | (rw [if_pos (by decide +kernel)]; kernel_rfl) | (rw [if_neg (by decide +kernel)]; exact ⟨rfl, rfl⟩))
  (fun os started H enc _ => fnGapsRow.lifted os started H enc)
end Go.Proofs.Ytilcgnimcdkfiaa
