/- Plain laws of images that are patched: PatchImage. -/
import Derived.Test.YteddlkdbefloaaaPd
import Derived.Test.YteddlkdbefloaaaPi
import Derived.Test.YteddlkdbefloaaaGd
namespace Go.Proofs.Yteddlkdbefloaaa
open Go Go.RowKit S Go.Proofs
set_option maxRecDepth 100000
set_option linter.unusedVariables false
set_option linter.unusedSimpArgs false

abbrev WordsR := Int × Int × List Int × Unit

/-- The words with others in place of some. -/
def patched (words : List Int) (at_ : Nat) (more : List Int) : List Int := words.take at_ ++ more ++ words.drop (at_ + more.length)

def patchM (words : List Int) (at_ : Int) (more : List Int) : WordsR :=
  if 0 ≤ at_ ∧ at_ ≤ (words.length : Int) then
    (if at_ + (more.length : Int) ≤ 80 ∧ words.length ≤ 80 then
      (if allW words = true ∧ allW more = true then (0, 0, patched words at_.toNat more, ()) else (3, 0, [], ())) else (2, 0, [], ())) else (3, 0, [], ())

theorem inB_f {n a b : Int} : inB n a b = false ↔ ¬ (a ≤ n ∧ n ≤ b) := by
  rw [← inB_t]; simp

theorem specPatch_eq (words : List Int) (at_ : Int) (more : List Int) (hw : words.length ≤ 1048576) (hm : more.length ≤ 1048576) : F_spec_PatchImage (words, at_, more, ()) = some ((patchM words at_ more, ()), ()) := by
  unfold F_spec_PatchImage patchM
  dsimp only
  rw [l1In_eq2, Option.bind_some]
  dsimp only
  by_cases h0 : 0 ≤ at_ ∧ at_ ≤ (words.length : Int)
  case neg => rw [inB_f.2 h0, if_pos (by simp), if_neg h0]
  rw [inB_t.2 h0, if_neg (by simp), if_pos h0, wrap64 (n := at_ + (more.length : Int)) (by omega) (by omega)]
  by_cases h1 : at_ + (more.length : Int) ≤ 80
  case neg => rw [if_neg (by rw [ltI_f]; omega), if_neg (by omega)]
  rw [if_pos (by rw [ltI_f]; omega)]
  by_cases h2 : words.length ≤ 80
  case neg => rw [if_pos (by rw [ltI_t]; omega), if_neg (by omega)]
  have h12 : at_ + (more.length : Int) ≤ 80 ∧ words.length ≤ 80 := ⟨h1, h2⟩
  rw [if_neg (by rw [ltI_t]; omega), if_pos h12, l8All_eq _ hw, l8All_eq _ hm]
  simp only [Option.bind_some]
  cases b1 : allW words
  · simp
  cases b2 : allW more
  · simp
  simp only [Bool.not_true, if_true, Bool.false_eq_true, if_false, and_self]
  have h3 : (0 : Int) ≤ 0 ∧ (0 : Int) ≤ at_ ∧ at_ ≤ ((words.length : Nat) : Int) := ⟨by omega, h0.1, h0.2⟩
  rw [if_pos h3]
  have e1 : (words.drop (0 : Int).toNat).take (at_.toNat - (0 : Int).toNat) = words.take at_.toNat := by simp
  have l1 : (words.take at_.toNat).length = at_.toNat := by simp; omega
  unfold F_spec_l3Copy
  dsimp only
  rw [e1, if_pos (by simp; omega), Option.bind_some]
  dsimp only
  rw [List.nil_append, if_pos (by rw [l1]; omega)]
  by_cases h4 : at_ + (more.length : Int) < (words.length : Int)
  · rw [if_pos (by rw [ltI_t]; exact h4)]
    have h5 : 0 ≤ at_ + (more.length : Int) ∧ at_ + (more.length : Int) ≤ ((words.length : Nat) : Int) ∧ ((words.length : Nat) : Int) ≤ ((words.length : Nat) : Int) := ⟨by omega, by omega, by omega⟩
    have e2 : (words.drop (at_ + (more.length : Int)).toNat).take (((words.length : Nat) : Int).toNat - (at_ + (more.length : Int)).toNat) = words.drop (at_.toNat + more.length) := by
      have : (at_ + (more.length : Int)).toNat = at_.toNat + more.length := by omega
      rw [this, List.take_of_length_le (by simp)]
    rw [if_pos h5, e2, if_pos (by simp; omega)]
    rfl
  · rw [if_neg (by rw [ltI_t]; exact h4)]
    have e2 : words.drop (at_.toNat + more.length) = [] := List.drop_of_length_le (by omega)
    unfold patched
    rw [e2, List.append_nil]

theorem concatInts_eq (a b : List Int) (h : a.length ≤ 1048576) (h2 : b.length ≤ 1048576) : F_slices_Concat_int64 ([a, b], ()) = some ((a ++ b, ()), ()) := by
  unfold F_slices_Concat_int64
  dsimp only
  show (iterF l_slices_Concat_int64_3 lots (([a, b], 0, [a, b], 2, 0, ()), (), ())).bind _ = _
  rw [concat_len (step := l_slices_Concat_int64_3) (fun _ _ _ _ _ _ => rfl) [a, b] a b (by omega), Option.bind_some]
  dsimp only
  unfold F_slices_Grow_int64 growF
  dsimp only
  rw [if_pos ⟨by omega, by show _ * (8 : Int) ≤ _; omega⟩, Option.bind_some]
  show (iterF l_slices_Concat_int64_11 lots (([], [a, b], 2, 0, ()), (), ())).bind _ = _
  rw [concat_app (by_ := 8) (step := l_slices_Concat_int64_11) (fun _ _ _ _ _ => rfl) a b (by omega), Option.bind_some]

theorem implPatch_eq (words : List Int) (at_ : Int) (more : List Int) (hw : words.length ≤ 1048576) (hm : more.length ≤ 1048576) : F_impl_PatchImage (words, at_, more, ()) = some ((patchM words at_ more, ()), ()) := by
  unfold F_impl_PatchImage patchM
  dsimp only
  rw [within_eq2, Option.bind_some]
  dsimp only
  by_cases h0 : 0 ≤ at_ ∧ at_ ≤ (words.length : Int)
  case neg => rw [inB_f.2 h0, if_pos (by simp), if_neg h0]
  rw [inB_t.2 h0, if_neg (by simp), if_pos h0, wrap64 (n := at_ + (more.length : Int)) (by omega) (by omega)]
  generalize hmany : (if at_ + ((more.length : Nat) : Int) > ((words.length : Nat) : Int) then at_ + ((more.length : Nat) : Int) else ((words.length : Nat) : Int)) = many
  have hmax : many = at_ + (more.length : Int) ∧ (words.length : Int) < many ∨ many = (words.length : Int) ∧ at_ + (more.length : Int) ≤ many := by
    rw [← hmany]; split <;> omega
  by_cases h12 : at_ + (more.length : Int) ≤ 80 ∧ words.length ≤ 80
  case neg => rw [if_pos (by rw [ltI_t]; omega), if_neg h12]
  rw [if_neg (by rw [ltI_t]; omega), if_pos h12, areWords_eq _ (leM hw), areWords_eq _ (leM hm)]
  simp only [Option.bind_some]
  cases b1 : allW words
  · simp
  cases b2 : allW more
  · simp
  simp only [Bool.not_true, if_true, Bool.false_eq_true, if_false, and_self]
  have h3 : (0 : Int) ≤ 0 ∧ (0 : Int) ≤ at_ ∧ at_ ≤ ((words.length : Nat) : Int) := ⟨by omega, h0.1, h0.2⟩
  rw [if_pos h3]
  have e1 : (words.drop (0 : Int).toNat).take (at_.toNat - (0 : Int).toNat) = words.take at_.toNat := by simp
  have l1 : (words.take at_.toNat).length = at_.toNat := by simp; omega
  rw [e1, concatInts_eq _ _ (by omega) hm, Option.bind_some]
  dsimp only
  have l2 : (words.take at_.toNat ++ more).length = at_.toNat + more.length := by rw [List.length_append, l1]
  rw [l2]
  by_cases h4 : at_ + (more.length : Int) < (words.length : Int)
  · rw [if_pos (by rw [ltI_t]; omega)]
    have h5 : 0 ≤ ((at_.toNat + more.length : Nat) : Int) ∧ ((at_.toNat + more.length : Nat) : Int) ≤ ((words.length : Nat) : Int) ∧ ((words.length : Nat) : Int) ≤ ((words.length : Nat) : Int) := ⟨by omega, by omega, by omega⟩
    have e2 : (words.drop ((at_.toNat + more.length : Nat) : Int).toNat).take (((words.length : Nat) : Int).toNat - ((at_.toNat + more.length : Nat) : Int).toNat) = words.drop (at_.toNat + more.length) := by
      rw [show ((at_.toNat + more.length : Nat) : Int).toNat = at_.toNat + more.length from rfl, List.take_of_length_le (by simp)]
    rw [if_pos h5, e2, if_pos (by simp; omega)]
    rfl
  · rw [if_neg (by rw [ltI_t]; omega)]
    have e2 : words.drop (at_.toNat + more.length) = [] := List.drop_of_length_le (by omega)
    unfold patched
    rw [e2, List.append_nil]

theorem patchM_len (words : List Int) (at_ : Int) (more : List Int) : (patchM words at_ more).2.2.1.length ≤ 1048576 := by
  unfold patchM
  split
  · split
    · split
      · unfold patched; simp; omega
      · simp
    · simp
  · simp

theorem eqWords_eq (r : WordsR) (h : r.2.2.1.length ≤ 1048576) : F_laws_eqWordsResult (r, r, ()) = some ((true, ()), ()) := by
  unfold F_laws_eqWordsResult
  rw [if_neg (by simp), if_neg (by simp), eqInt64S_eq r.2.2.1 (leM h), Option.bind_some, if_neg (by simp)]

theorem markWords_eq (r : WordsR) (k : Int) (h3 : r.2.2.1.length ≤ 1048576) (hk : 0 ≤ k ∧ k ≤ 4294967296) :
    F_laws_markWordsResult ((r.1, r.2.1, r.2.2.1, ()), k, ()) = some ((k + (r.2.2.1.length : Int), ()), ((seqFrom k r.2.2.1.length, ()), ())) := by
  unfold F_laws_markWordsResult
  rw [mark_eq r.2.2.1 k h3 hk, Option.bind_some]
  have hc : ((r.2.2.1.length == (seqFrom k r.2.2.1.length).length && true) && true) = true := by simp [seqFrom_len]
  rw [if_pos hc, if_pos hc]

theorem heldWords_eq (e1 e2 : Int) (n : Nat) (k : Int) (h : n ≤ 1048576) (hk : 0 ≤ k ∧ k ≤ 4294967296) :
    F_laws_heldWordsResult ((e1, e2, seqFrom k n, ()), k, ()) = some ((k + (n : Int), ()), ()) := by
  unfold F_laws_heldWordsResult
  rw [held_eq n k h hk, Option.bind_some]
  simp only [ltI_eq, decide_eq_true_eq]
  rw [if_neg (by omega)]

theorem patch_law (a : List Int) (n : Int) (b : List Int) : F_laws_FnExactPatchImage (a, n, b, ()) = some ((true, ()), ()) := by
  unfold F_laws_FnExactPatchImage
  simp only [ltI_eq, decide_eq_true_eq]
  by_cases hb : (1048576 : Int) < ((a.length : Nat) : Int)
  · rw [if_pos hb]
  rw [if_neg hb]
  by_cases hb2 : (1048576 : Int) < ((b.length : Nat) : Int)
  · rw [if_pos hb2]
  rw [if_neg hb2]
  have ha : a.length ≤ 1048576 := by omega
  have hbb : b.length ≤ 1048576 := by omega
  have hr := patchM_len a n b
  have ta := toInt64S_eq a (le8 ha)
  have tb := toInt64S_eq b (le8 hbb)
  have he := eqWords_eq (patchM a n b) hr
  have hi := implPatch_eq a n b ha hbb
  rw [ta, Option.bind_some, tb, Option.bind_some, specPatch_eq a n b ha hbb, Option.bind_some, Option.bind_some, Option.bind_some]
  rw [hi, Option.bind_some]
  show (F_laws_eqWordsResult (patchM a n b, patchM a n b, ())).bind _ = _
  rw [he, Option.bind_some, if_neg (by simp), Option.bind_some]
  rw [eqInt64S_eq a (leM ha), Option.bind_some, if_neg (by simp), Option.bind_some, eqInt64S_eq b (leM hbb), Option.bind_some, if_neg (by simp)]
  rw [mark_eq a 1 ha (by omega), Option.bind_some, if_pos (by simp [seqFrom_len]), mark_eq b (1 + (a.length : Int)) hbb (by omega), Option.bind_some, if_pos (by simp [seqFrom_len])]
  have n1 : decide ((1 + (a.length : Int) + (b.length : Int)) < 0) = false := by simp; omega
  rw [if_pos n1, Option.bind_some, if_neg (by simp)]
  show (F_laws_markWordsResult (((patchM a n b).1, (patchM a n b).2.1, (patchM a n b).2.2.1, ()), 1, ())).bind _ = _
  rw [markWords_eq (patchM a n b) 1 hr (by omega), Option.bind_some]
  have n2 : ((((patchM a n b).2.2.1.length == (seqFrom 1 (patchM a n b).2.2.1.length).length && true) && true) && true) = true := by simp [seqFrom_len]
  rw [if_pos n2, heldWords_eq _ _ _ 1 hr (by omega), Option.bind_some]
  have n3 : ¬ (1 + ((patchM a n b).2.2.1.length : Int) < 0) := by omega
  rw [if_neg n3, if_neg (by simp), Option.bind_some, Option.bind_some]
  show (F_impl_PatchImage (a, n, b, ())).bind _ = _
  rw [hi, Option.bind_some]
  show (F_laws_eqWordsResult (patchM a n b, patchM a n b, ())).bind _ = _
  rw [he, Option.bind_some, if_neg (by simp), Option.bind_some, if_neg n3, if_neg (by simp)]

theorem patchImage_F : ∀ x, inRP P_laws_FnExactPatchImage x → F_laws_FnExactPatchImage x = some ((true, ()), ()) := by
  rintro ⟨a, n, b, _⟩ _
  exact patch_law a n b

end Go.Proofs.Yteddlkdbefloaaa
