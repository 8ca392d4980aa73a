/- DigestOf answers what the specification's DigestOf answers, for every memory: condition: none (lists longer than 2^20 the law itself lets pass). -/
import Derived.Test.YteddlkdbefloaaaPa
import Derived.Test.YteddlkdbefloaaaRows
namespace Go.Proofs.Yteddlkdbefloaaa
open Go Go.RowKit S Go.Proofs
set_option maxRecDepth 100000
set_option linter.unusedVariables false
set_option linter.unusedSimpArgs false

def dig1 (h w : Int) : Int := (IntKind.i64.wrap (IntKind.i64.wrap (IntKind.i64.wrap (h * 131) + w) + 1)).tmod 1000000007

theorem specDig_loop (m : List Int) (h i : Int) (h0 : 0 ≤ i) (h1 : i ≤ (m.length : Int)) (h3 : m.length ≤ maxLen) :
    L_spec_DigestOf_6 ((m, (), h, i, ()), ((0, 0, ()), ()), ()) = some (.inl (((), (m.drop i.toNat).foldl dig1 h, ()), ((0, 0, ()), ()), ())) := by
  refine iter_map (γ := denO o_spec_DigestOf_6) (step := l_spec_DigestOf_6) (β := Int × Int) (fun b => ((m, (), b.1, b.2, ()), ((0, 0, ()), ()), ())) (fun b => 0 ≤ b.2 ∧ b.2 ≤ (m.length : Int))
    (fun b => some (.inl (((), (m.drop b.2.toNat).foldl dig1 b.1, ()), ((0, 0, ()), ()), ()))) (fun b => (m.length - b.2).toNat) ?_ lots (h, i) ⟨h0, h1⟩ (by rw [maxLen_eq] at h3; rw [lots_eq]; simp only; omega)
  rintro rec ⟨h, i⟩ ⟨h0, h1⟩ ih
  simp only at h0 h1 ih ⊢
  unfold l_spec_DigestOf_6
  simp only [decide_eq_true_eq]
  by_cases hlt : i < (m.length : Int)
  · obtain ⟨y, hy, _, hd⟩ := at_lt h0 hlt
    rw [if_pos hlt, if_pos h0, hy, Option.bind_some, step64 h0 hlt h3, hd, List.foldl_cons]
    exact ih (dig1 h y, i + 1) ⟨by simp only; omega, by simp only; omega⟩ (by simp only; omega)
  · rw [if_neg hlt, drop_end hlt]
    rfl

theorem implDig_loop (m : List Int) (h i : Int) (h0 : 0 ≤ i) (h1 : i ≤ (m.length : Int)) (h3 : m.length ≤ maxLen) :
    L_impl_DigestOf_6 (((), h, m, ((m.length : Nat) : Int), i, ()), ((0, 0, ()), ()), ()) = some (.inl (((), (m.drop i.toNat).foldl dig1 h, ()), ((0, 0, ()), ()), ())) := by
  refine iter_map (γ := denO o_impl_DigestOf_6) (step := l_impl_DigestOf_6) (β := Int × Int) (fun b => (((), b.1, m, ((m.length : Nat) : Int), b.2, ()), ((0, 0, ()), ()), ())) (fun b => 0 ≤ b.2 ∧ b.2 ≤ (m.length : Int))
    (fun b => some (.inl (((), (m.drop b.2.toNat).foldl dig1 b.1, ()), ((0, 0, ()), ()), ()))) (fun b => (m.length - b.2).toNat) ?_ lots (h, i) ⟨h0, h1⟩ (by rw [maxLen_eq] at h3; rw [lots_eq]; simp only; omega)
  rintro rec ⟨h, i⟩ ⟨h0, h1⟩ ih
  simp only at h0 h1 ih ⊢
  unfold l_impl_DigestOf_6
  simp only [decide_eq_true_eq]
  by_cases hlt : i < (m.length : Int)
  · obtain ⟨y, hy, _, hd⟩ := at_lt h0 hlt
    rw [if_pos hlt, if_pos h0, hy, Option.bind_some, step64 h0 hlt h3, hd, List.foldl_cons]
    exact ih (dig1 h y, i + 1) ⟨by simp only; omega, by simp only; omega⟩ (by simp only; omega)
  · rw [if_neg hlt, drop_end hlt]
    rfl

def digest (m : List Int) : Int × Int × Unit := if memFault m ≠ 0 then (memFault m, 0, ()) else (0, m.foldl dig1 5, ())

theorem specDigest_eq (m : List Int) (h : m.length ≤ maxLen) : F_spec_DigestOf (m, ()) = some ((digest m, ()), ()) := by
  unfold F_spec_DigestOf digest
  rw [specFault_eq m h, Option.bind_some]
  simp only [bne_iff_ne]
  split
  · rfl
  · rw [specDig_loop m 5 0 (by simp) (by simp) h]
    simp

theorem implDigest_eq (m : List Int) (h : m.length ≤ maxLen) : F_impl_DigestOf (m, ()) = some ((digest m, ()), ()) := by
  unfold F_impl_DigestOf digest
  rw [implFault_eq m h, Option.bind_some]
  simp only [bne_iff_ne]
  split
  · rfl
  · rw [implDig_loop m 5 0 (by simp) (by simp) h]
    simp

theorem eqInt_eq (a b : Int) : F_laws_eqIntResult ((a, b, ()), (a, b, ()), ()) = some ((true, ()), ()) := by
  unfold F_laws_eqIntResult
  simp

theorem digest_law (m : List Int) : F_laws_FnExactDigestOf (m, ()) = some ((true, ()), ()) := by
  unfold F_laws_FnExactDigestOf
  simp only [decide_eq_true_eq]
  by_cases hb : ((m.length : Nat) : Int) > 1048576
  · rw [if_pos hb]
  · have hl : m.length * 8 ≤ 140737488355328 := by omega
    have hm : m.length ≤ maxLen := by rw [maxLen_eq]; omega
    rw [if_neg hb, toInt64S_eq m hl, Option.bind_some, specDigest_eq m hm, Option.bind_some, Option.bind_some, implDigest_eq m hm, Option.bind_some]
    rw [eqInt_eq, Option.bind_some, if_neg (by simp), Option.bind_some, eqInt64S_eq m hm, Option.bind_some, if_neg (by simp)]

/-! the row -/
theorem Try.own : ownKnob Try.prog.godebug = none := by kernel_rfl
theorem Try.laidOut : laidOutB Try.prog = true := by kernel_rfl

theorem Try.digestRead : ∀ t ∈ (Try.f3).params.toList, Try.prog.readableRec t = true ∧ t < Try.prog.types.size := by
  have h : ((Try.f3).params.toList.all fun t => Try.prog.readableRec t && decide (t < Try.prog.types.size)) = true := by kernel_rfl
  intro t ht
  have := List.all_eq_true.1 h t ht
  simpa using this

theorem digest_lifted (os : Os) (started : os.Started) (H : Type) (enc : TypeId × Value → H) :
    ReturnsInHanded {} Try.checked os 3 .any (Rows.fnExactDigestOfSpec.pre6 enc Try.prog Try.f3 Rows.fnExactDigestOfRow.domain false) (Rows.fnExactDigestOfSpec.post enc Try.prog Try.f3 false true false false) := by
  refine returnsInHanded_of_change (C := Try.checked) Try.own started (by kernel_rfl) Try.func3
    (ChangeSpec.witness6 (enc := enc) (C := Try.checked) false ⟨#[], #[.slice none 0 0], []⟩ 8 (by kernel_rfl) (by kernel_rfl) (by kernel_rfl) (by kernel_rfl)) ?_
  intro W base args ds gs before hval hW _ _
  have hW' := hW
  obtain ⟨p, q, hA, _⟩ := hW
  refine (law_run (cn := C_laws_FnExactDigestOf) q_laws_FnExactDigestOf rfl hT hS (ts := (Try.f3).params.toList) (by kernel_rfl) ⟨rfl, rfl⟩ hA (fun j t v ht hv => hval j t v (by simpa using ht) hv) (fun x _ => ⟨_, digest_law x.1, ?_⟩)).mono fun e W' he => ⟨_, he.1, ?_⟩
  · rintro vs F1 w' S Q B ⟨v, vs', F2, F3, rfl, _, ⟨⟨cs, h1, h2⟩, _⟩, h3, _⟩
    subst h3
    have h2 : cs = [.bool true] := h2
    subst h2
    simp only [Val, isAg] at h1
    simpa using h1.symm
  · exact law_post (H := H) Try.laidOut Try.digestRead (tb := 4) (by kernel_rfl) (by kernel_rfl) rfl (fun ds hd => by
      have hd : ds.length = 1 := hd
      match ds, hd with
      | [d], _ => rfl) hW' he.2

theorem digest_holds : Rows.FnExactDigestOfSaid :=
  OpenClaim.holds_of_wide 3 Try.f3 rfl rfl rfl rfl rfl rfl rfl ⟨rfl, rfl, rfl, rfl, rfl⟩ rfl rfl rfl rfl rfl (by kernel_rfl) Try.func3 (by kernel_rfl)
    (of_decide_eq_true (by kernel_rfl)) (by unfold Func.isWrapper; first | (rw [if_pos (by decide +kernel)]; kernel_rfl) | (rw [if_neg (by decide +kernel)]; exact ⟨rfl, rfl⟩))
    (fun os started H enc _ => digest_lifted os started H enc)

end Go.Proofs.Yteddlkdbefloaaa
