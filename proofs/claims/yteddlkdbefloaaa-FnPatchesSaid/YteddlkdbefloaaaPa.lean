/- Plain laws of the functions that DigestOf reaches: copies, comparisons, words, the fault of a memory. -/
import Derived.Test.YteddlkdbefloaaaGa
namespace Go.Proofs.Yteddlkdbefloaaa
open Go Go.RowKit S Go.Proofs
set_option maxRecDepth 100000
set_option linter.unusedVariables false
set_option linter.unusedSimpArgs false

theorem set_take {m out : List Int} {i : Int} {y : Int} (h0 : 0 ≤ i) (h : i < (m.length : Int)) (hl : out.length = m.length) (hy : m.drop i.toNat = y :: m.drop (i + 1).toNat) :
    (out.set i.toNat y).take (i + 1).toNat ++ m.drop (i + 1).toNat = out.take i.toNat ++ m.drop i.toNat := by
  have e : (i + 1).toNat = i.toNat + 1 := by omega
  rw [hy, e, List.take_add_one, List.take_set_of_le (Nat.le_refl _)]
  rw [List.getElem?_set_self (by omega)]
  simp

theorem toInt64S_loop (m out : List Int) (i : Int) (h0 : 0 ≤ i) (h1 : i ≤ (m.length : Int)) (h2 : out.length = m.length) (h3 : m.length ≤ maxLen) :
    L_laws_toInt64S_3 ((m, out, i, ()), (), ()) = some (.inl ((out.take i.toNat ++ m.drop i.toNat, ()), (), ())) := by
  refine iter_map (γ := denO o_laws_toInt64S_3) (step := l_laws_toInt64S_3) (β := List Int × Int) (fun b => ((m, b.1, b.2, ()), (), ())) (fun b => 0 ≤ b.2 ∧ b.2 ≤ (m.length : Int) ∧ b.1.length = m.length)
    (fun b => some (.inl ((b.1.take b.2.toNat ++ m.drop b.2.toNat, ()), (), ()))) (fun b => (m.length - b.2).toNat) ?_ lots (out, i) ⟨h0, h1, h2⟩ (by rw [maxLen_eq] at h3; rw [lots_eq]; simp only; omega)
  rintro rec ⟨out, i⟩ ⟨h0, h1, h2⟩ ih
  simp only at h0 h1 h2 ih ⊢
  unfold l_laws_toInt64S_3
  simp only [ltI_eq, leI_eq, decide_eq_true_eq, ge_iff_le, gt_iff_lt]
  by_cases hlt : i < (m.length : Int)
  · obtain ⟨y, hy, _, hd⟩ := at_lt h0 hlt
    have ho : i.toNat < out.length := by omega
    have hb : 0 ≤ i ∧ i < (out.length : Int) := by omega
    rw [if_pos hlt, if_pos h0, hy, Option.bind_some, if_pos hb, List.getElem?_eq_getElem ho, Option.bind_some, step64 h0 hlt h3]
    rw [ih (_, _) ⟨by simp only; omega, by simp only; omega, by simp only [List.length_set]; exact h2⟩ (by simp only; omega)]
    simp only
    rw [set_take h0 hlt h2 hd]
  · rw [if_neg hlt, drop_end hlt, List.append_nil, List.take_of_length_le (by omega)]

theorem toInt64S_eq (m : List Int) (h : m.length * 8 ≤ 140737488355328) : F_laws_toInt64S (m, ()) = some ((m, ()), ()) := by
  unfold F_laws_toInt64S
  simp only
  rw [if_pos ?_, toInt64S_loop _ _ _ (by simp) (by simp) (by simp) (by rw [maxLen_eq]; omega)]
  · simp
  · refine ⟨trivial, ?_, ?_, ?_⟩ <;> omega

theorem eqInt64S_loop (m : List Int) (i : Int) (h0 : 0 ≤ i) (h1 : i ≤ (m.length : Int)) (h3 : m.length ≤ maxLen) :
    L_laws_eqInt64S_4 ((m, m, i, ()), (), ()) = some (.inl ((), ((), ()))) := by
  refine iter_map (γ := denO o_laws_eqInt64S_4) (step := l_laws_eqInt64S_4) (β := Int) (fun i => ((m, m, i, ()), (), ())) (fun i => 0 ≤ i ∧ i ≤ (m.length : Int)) (fun _ => some (.inl ((), ((), ()))))
    (fun i => (m.length - i).toNat) ?_ lots _ ⟨h0, h1⟩ (by rw [maxLen_eq] at h3; rw [lots_eq]; omega)
  rintro rec i ⟨h0, h1⟩ ih
  simp only at h0 h1 ih ⊢
  unfold l_laws_eqInt64S_4
  simp only [ltI_eq, leI_eq, decide_eq_true_eq, ge_iff_le, gt_iff_lt]
  by_cases hlt : i < (m.length : Int)
  · obtain ⟨y, hy, _, hd⟩ := at_lt h0 hlt
    rw [if_pos hlt, if_pos h0, hy, Option.bind_some, if_pos h0, Option.bind_some, if_neg (by simp), step64 h0 hlt h3]
    exact ih _ ⟨by omega, by omega⟩ (by omega)
  · rw [if_neg hlt]

theorem eqInt64S_eq (m : List Int) (h : m.length ≤ maxLen) : F_laws_eqInt64S (m, m, ()) = some ((true, ()), ()) := by
  unfold F_laws_eqInt64S
  simp only
  rw [if_neg (by simp), eqInt64S_loop _ _ (by simp) (by simp) h]
  simp

/-! words -/
def okW (w : Int) : Bool := decide (w ≥ 0) && decide (w ≤ 4294967295)
def allW (m : List Int) : Bool := m.all okW

theorem l1In_eq (n a b : Int) : F_spec_l1In (n, a, b, ()) = some ((decide (n ≥ a) && decide (n ≤ b), ()), ()) := by
  unfold F_spec_l1In
  simp only [ltI_eq, leI_eq, decide_eq_true_eq, ge_iff_le, gt_iff_lt]
  split
  · rename_i h; simp [h]
  · rename_i h; simp [h]

theorem within_eq (n a b : Int) : F_impl_within (n, a, b, ()) = some ((decide (n ≥ a) && decide (n ≤ b), ()), ()) := by
  unfold F_impl_within
  simp only [ltI_eq, leI_eq, decide_eq_true_eq, ge_iff_le, gt_iff_lt]
  split
  · rename_i h; simp [h]
  · rename_i h; simp [h]

theorem isWord_eq (n : Int) : F_impl_isWord (n, ()) = some ((okW n, ()), ()) := by
  unfold F_impl_isWord
  rw [within_eq, Option.bind_some]
  rfl

theorem areWords1_eq (n : Int) : F_impl_areWords_1 (n, ()) = some ((!okW n, ()), ()) := by
  unfold F_impl_areWords_1
  rw [isWord_eq, Option.bind_some]

theorem allW_cons {y : Int} {r : List Int} : allW (y :: r) = (okW y && allW r) := rfl

theorem words_loop (m : List Int) (i : Int) (h0 : 0 ≤ i) (h1 : i ≤ (m.length : Int)) (h3 : m.length ≤ maxLen) :
    (allW (m.drop i.toNat) = true ∧ L_slices_IndexFunc_int64_of_impl_areWords_1_2 ((m, (), ((m.length : Nat) : Int), i, ()), (), ()) = some (.inl ((), (), ()))) ∨
    (allW (m.drop i.toNat) = false ∧ ∃ k : Int, 0 ≤ k ∧ L_slices_IndexFunc_int64_of_impl_areWords_1_2 ((m, (), ((m.length : Nat) : Int), i, ()), (), ()) = some (.inr (.inl ((k, ()), (), ())))) := by
  have key : ∀ (n : Nat) (i : Int), (m.length - i).toNat < n → 0 ≤ i → i ≤ (m.length : Int) → 
      (allW (m.drop i.toNat) = true ∧ iterF l_slices_IndexFunc_int64_of_impl_areWords_1_2 n ((m, (), ((m.length : Nat) : Int), i, ()), (), ()) = some (.inl ((), (), ()))) ∨
      (allW (m.drop i.toNat) = false ∧ ∃ k : Int, 0 ≤ k ∧ iterF l_slices_IndexFunc_int64_of_impl_areWords_1_2 n ((m, (), ((m.length : Nat) : Int), i, ()), (), ()) = some (.inr (.inl ((k, ()), (), ())))) := by
    intro n
    induction n with
    | zero => intro i h; omega
    | succ n ih =>
      intro i hm h0 h1
      simp only [iterF]
      generalize iterF l_slices_IndexFunc_int64_of_impl_areWords_1_2 n = rec at ih ⊢
      unfold l_slices_IndexFunc_int64_of_impl_areWords_1_2
      simp only [ltI_eq, leI_eq, decide_eq_true_eq, ge_iff_le, gt_iff_lt]
      by_cases hlt : i < (m.length : Int)
      · obtain ⟨y, hy, _, hd⟩ := at_lt h0 hlt
        rw [if_pos hlt, if_pos h0, hy, Option.bind_some, areWords1_eq, Option.bind_some, step64 h0 hlt h3, hd, allW_cons]
        cases hw : okW y with
        | true => simpa using ih (i + 1) (by omega) (by omega) (by omega)
        | false => exact .inr ⟨by simp, i, h0, by simp⟩
      · rw [if_neg hlt, drop_end hlt]
        exact .inl ⟨rfl, rfl⟩
  exact key lots i (by rw [maxLen_eq] at h3; rw [lots_eq]; omega) h0 h1

theorem areWords_eq (m : List Int) (h : m.length ≤ maxLen) : F_impl_areWords (m, ()) = some ((allW m, ()), ()) := by
  unfold F_impl_areWords F_slices_ContainsFunc_int64_of_impl_areWords_1 F_slices_IndexFunc_int64_of_impl_areWords_1
  simp only
  rcases words_loop m 0 (by simp) (by simp) h with ⟨h1, h2⟩ | ⟨h1, k, h2, h3⟩
  · simp only [Int.toNat_zero, List.drop_zero] at h1
    rw [h2, h1]; rfl
  · simp only [Int.toNat_zero, List.drop_zero] at h1
    rw [h3, h1]
    simp [h2, leI_eq]

def memFault (m : List Int) : Int := if m.length % 8 = 0 ∧ 8 ≤ m.length ∧ m.length ≤ 192 then (if allW m = true then 0 else 3) else 1

theorem implFault_eq (m : List Int) (h : m.length ≤ maxLen) : F_impl_MemoryFault (m, ()) = some ((memFault m, ()), ()) := by
  unfold F_impl_MemoryFault memFault
  rw [areWords_eq m h]
  simp only [Option.bind_some, ltI_eq, leI_eq, beq_eq_false_iff_ne, decide_eq_false_iff_not, bne_iff_ne]
  have e : ((m.length : Nat) : Int).tmod 8 = ((m.length % 8 : Nat) : Int) := rfl
  rw [e]
  by_cases h1 : ((m.length : Nat) : Int) ≠ 0
  · rw [if_pos h1]
    by_cases h2 : ¬ ((m.length : Nat) : Int) > 192
    · rw [if_pos h2]
      by_cases h3 : ((m.length % 8 : Nat) : Int) ≠ 0
      · rw [if_pos h3, if_neg (by omega)]
      · have hc : m.length % 8 = 0 ∧ 8 ≤ m.length ∧ m.length ≤ 192 := by omega
        rw [if_neg h3, if_pos hc]
        cases allW m <;> rfl
    · rw [if_neg h2, if_neg (by omega)]
  · rw [if_neg h1, if_neg (by omega)]

theorem specWords_loop (m : List Int) (i : Int) (h0 : 0 ≤ i) (h1 : i ≤ (m.length : Int)) (h3 : m.length ≤ maxLen) :
    L_spec_MemoryFault_4 ((m, i, ()), (), ()) = some (if allW (m.drop i.toNat) = true then .inl ((), (), ()) else .inr (.inl ((3, ()), (), ()))) := by
  refine iter_map (γ := denO o_spec_MemoryFault_4) (step := l_spec_MemoryFault_4) (β := Int) (fun i => ((m, i, ()), (), ())) (fun i => 0 ≤ i ∧ i ≤ (m.length : Int)) (fun i => some (if allW (m.drop i.toNat) = true then .inl ((), (), ()) else .inr (.inl ((3, ()), (), ()))))
    (fun i => (m.length - i).toNat) ?_ lots _ ⟨h0, h1⟩ (by rw [maxLen_eq] at h3; rw [lots_eq]; omega)
  rintro rec i ⟨h0, h1⟩ ih
  simp only at h0 h1 ih ⊢
  unfold l_spec_MemoryFault_4
  simp only [ltI_eq, leI_eq, decide_eq_true_eq, ge_iff_le, gt_iff_lt]
  by_cases hlt : i < (m.length : Int)
  · obtain ⟨y, hy, _, hd⟩ := at_lt h0 hlt
    rw [if_pos hlt, if_pos h0, hy, Option.bind_some, l1In_eq, Option.bind_some, step64 h0 hlt h3, hd, allW_cons]
    show (if (!okW y) = true then _ else _) = _
    cases hw : okW y with
    | true => simpa using ih (i + 1) ⟨by omega, by omega⟩ (by omega)
    | false => simp
  · rw [if_neg hlt, drop_end hlt]
    rfl

theorem specFault_eq (m : List Int) (h : m.length ≤ maxLen) : F_spec_MemoryFault (m, ()) = some ((memFault m, ()), ()) := by
  unfold F_spec_MemoryFault memFault
  simp only [ltI_eq, leI_eq, beq_eq_false_iff_ne, decide_eq_false_iff_not, bne_eq_false_iff_eq, decide_eq_true_eq]
  have e : ((m.length : Nat) : Int).tmod 8 = ((m.length % 8 : Nat) : Int) := rfl
  rw [e]
  by_cases h1 : ((m.length % 8 : Nat) : Int) = 0
  · rw [if_pos h1]
    by_cases h2 : ¬ ((m.length : Nat) : Int) < 8
    · rw [if_pos h2]
      by_cases h3 : ((m.length : Nat) : Int) > 192
      · rw [if_pos h3, if_neg (by omega)]
      · rw [if_neg h3, if_pos (by omega), specWords_loop m 0 (by simp) (by simp) h]
        simp only [Int.toNat_zero, List.drop_zero]
        cases allW m <;> rfl
    · rw [if_neg h2, if_neg (by omega)]
  · rw [if_neg h1, if_neg (by omega)]

end Go.Proofs.Yteddlkdbefloaaa
