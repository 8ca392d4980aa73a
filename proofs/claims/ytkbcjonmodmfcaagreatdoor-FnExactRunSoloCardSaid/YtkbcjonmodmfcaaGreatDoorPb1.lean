/- Plain laws: what the functions compute, and that both programs compute the same. -/
import Derived.Test.YtkbcjonmodmfcaaGreatDoorGc1
namespace Go.Proofs.YtkbcjonmodmfcaaGreatDoor
open Go Go.RowKit S Go.Proofs
set_option maxRecDepth 100000
set_option linter.unusedVariables false
set_option linter.unusedSimpArgs false
theorem set_take {m out : List Int} {i : Int} {y : Int} (h0 : 0 ≤ i) (h : i < (m.length : Int)) (hl : out.length = m.length) (hy : m.drop i.toNat = y :: m.drop (i + 1).toNat) :
    (out.set i.toNat y).take (i + 1).toNat ++ m.drop (i + 1).toNat = out.take i.toNat ++ m.drop i.toNat := by
  have e : (i + 1).toNat = i.toNat + 1 := by omega
  rw [hy, e, List.take_add_one, List.take_set_of_le (Nat.le_refl _)]
  rw [List.getElem?_set_self (by omega)]
  simp

theorem toInt64S_loop (m out : List Int) (i : Int) (h0 : 0 ≤ i) (h1 : i ≤ (m.length : Int)) (h2 : out.length = m.length) (h3 : m.length ≤ maxLen) :
    L_laws_toInt64S_3 ((m, out, i, ()), (), ()) = some (.inl ((out.take i.toNat ++ m.drop i.toNat, ()), (), ())) := by
  refine iter_map (γ := denO o_laws_toInt64S_3) (step := l_laws_toInt64S_3) (β := List Int × Int) (fun b => ((m, b.1, b.2, ()), (), ())) (fun b => 0 ≤ b.2 ∧ b.2 ≤ (m.length : Int) ∧ b.1.length = m.length)
    (fun b => some (.inl ((b.1.take b.2.toNat ++ m.drop b.2.toNat, ()), (), ()))) (fun b => (m.length - b.2).toNat) ?_ lots (out, i) ⟨h0, h1, h2⟩ (by rw [maxLen_eq] at h3; rw [lots_eq]; simp only; omega)
  rintro rec ⟨out, i⟩ ⟨h0, h1, h2⟩ ih
  simp only at h0 h1 h2 ih ⊢
  unfold l_laws_toInt64S_3
  simp only [ltI_eq, leI_eq, decide_eq_true_eq, ge_iff_le, gt_iff_lt]
  by_cases hlt : i < (m.length : Int)
  · obtain ⟨y, hy, _, hd⟩ := at_lt h0 hlt
    have ho : i.toNat < out.length := by omega
    have hb : 0 ≤ i ∧ i < (out.length : Int) := by omega
    rw [if_pos hlt, if_pos h0, hy, Option.bind_some, if_pos hb, List.getElem?_eq_getElem ho, Option.bind_some, step64 h0 hlt h3]
    rw [ih (_, _) ⟨by simp only; omega, by simp only; omega, by simp only [List.length_set]; exact h2⟩ (by simp only; omega)]
    simp only
    rw [set_take h0 hlt h2 hd]
  · rw [if_neg hlt, drop_end hlt, List.append_nil, List.take_of_length_le (by omega)]

theorem toInt64S_eq (m : List Int) (h : m.length * 8 ≤ 140737488355328) : F_laws_toInt64S (m, ()) = some ((m, ()), ()) := by
  unfold F_laws_toInt64S
  simp only
  rw [if_pos ?_, toInt64S_loop _ _ _ (by simp) (by simp) (by simp) (by rw [maxLen_eq]; omega)]
  · simp
  · refine ⟨trivial, ?_, ?_, ?_⟩ <;> omega

theorem eqInt64S_loop (m : List Int) (i : Int) (h0 : 0 ≤ i) (h1 : i ≤ (m.length : Int)) (h3 : m.length ≤ maxLen) :
    L_laws_eqInt64S_4 ((m, m, i, ()), (), ()) = some (.inl ((), ((), ()))) := by
  refine iter_map (γ := denO o_laws_eqInt64S_4) (step := l_laws_eqInt64S_4) (β := Int) (fun i => ((m, m, i, ()), (), ())) (fun i => 0 ≤ i ∧ i ≤ (m.length : Int)) (fun _ => some (.inl ((), ((), ()))))
    (fun i => (m.length - i).toNat) ?_ lots _ ⟨h0, h1⟩ (by rw [maxLen_eq] at h3; rw [lots_eq]; omega)
  rintro rec i ⟨h0, h1⟩ ih
  simp only at h0 h1 ih ⊢
  unfold l_laws_eqInt64S_4
  simp only [ltI_eq, leI_eq, decide_eq_true_eq, ge_iff_le, gt_iff_lt]
  by_cases hlt : i < (m.length : Int)
  · obtain ⟨y, hy, _, hd⟩ := at_lt h0 hlt
    rw [if_pos hlt, if_pos h0, hy, Option.bind_some, if_pos h0, Option.bind_some, if_neg (by simp), step64 h0 hlt h3]
    exact ih _ ⟨by omega, by omega⟩ (by omega)
  · rw [if_neg hlt]

theorem eqInt64S_eq (m : List Int) (h : m.length ≤ maxLen) : F_laws_eqInt64S (m, m, ()) = some ((true, ()), ()) := by
  unfold F_laws_eqInt64S
  simp only
  rw [if_neg (by simp), eqInt64S_loop _ _ (by simp) (by simp) h]
  simp

def okW (w : Int) : Bool := decide (w ≥ 0) && decide (w ≤ 4294967295)

def allW (m : List Int) : Bool := m.all okW

theorem l1In_eq (n a b : Int) : F_spec_l1In (n, a, b, ()) = some ((decide (n ≥ a) && decide (n ≤ b), ()), ()) := by
  unfold F_spec_l1In
  simp only [ltI_eq, leI_eq, decide_eq_true_eq, ge_iff_le, gt_iff_lt]
  split
  · rename_i h; simp [h]
  · rename_i h; simp [h]

theorem within_eq (n a b : Int) : F_impl_within (n, a, b, ()) = some ((decide (n ≥ a) && decide (n ≤ b), ()), ()) := by
  unfold F_impl_within
  simp only [ltI_eq, leI_eq, decide_eq_true_eq, ge_iff_le, gt_iff_lt]
  split
  · rename_i h; simp [h]
  · rename_i h; simp [h]

theorem isWord_eq (n : Int) : F_impl_isWord (n, ()) = some ((okW n, ()), ()) := by
  unfold F_impl_isWord
  rw [within_eq, Option.bind_some]
  rfl

theorem areWords1_eq (n : Int) : F_impl_areWords_1 (n, ()) = some ((!okW n, ()), ()) := by
  unfold F_impl_areWords_1
  rw [isWord_eq, Option.bind_some]

theorem allW_cons {y : Int} {r : List Int} : allW (y :: r) = (okW y && allW r) := rfl

theorem words_loop (m : List Int) (i : Int) (h0 : 0 ≤ i) (h1 : i ≤ (m.length : Int)) (h3 : m.length ≤ maxLen) :
    (allW (m.drop i.toNat) = true ∧ L_slices_IndexFunc_int64_of_impl_areWords_1_2 ((m, (), ((m.length : Nat) : Int), i, ()), (), ()) = some (.inl ((), (), ()))) ∨
    (allW (m.drop i.toNat) = false ∧ ∃ k : Int, 0 ≤ k ∧ L_slices_IndexFunc_int64_of_impl_areWords_1_2 ((m, (), ((m.length : Nat) : Int), i, ()), (), ()) = some (.inr (.inl ((k, ()), (), ())))) := by
  have key : ∀ (n : Nat) (i : Int), (m.length - i).toNat < n → 0 ≤ i → i ≤ (m.length : Int) → 
      (allW (m.drop i.toNat) = true ∧ iterF l_slices_IndexFunc_int64_of_impl_areWords_1_2 n ((m, (), ((m.length : Nat) : Int), i, ()), (), ()) = some (.inl ((), (), ()))) ∨
      (allW (m.drop i.toNat) = false ∧ ∃ k : Int, 0 ≤ k ∧ iterF l_slices_IndexFunc_int64_of_impl_areWords_1_2 n ((m, (), ((m.length : Nat) : Int), i, ()), (), ()) = some (.inr (.inl ((k, ()), (), ())))) := by
    intro n
    induction n with
    | zero => intro i h; omega
    | succ n ih =>
      intro i hm h0 h1
      simp only [iterF]
      generalize iterF l_slices_IndexFunc_int64_of_impl_areWords_1_2 n = rec at ih ⊢
      unfold l_slices_IndexFunc_int64_of_impl_areWords_1_2
      simp only [ltI_eq, leI_eq, decide_eq_true_eq, ge_iff_le, gt_iff_lt]
      by_cases hlt : i < (m.length : Int)
      · obtain ⟨y, hy, _, hd⟩ := at_lt h0 hlt
        rw [if_pos hlt, if_pos h0, hy, Option.bind_some, areWords1_eq, Option.bind_some, step64 h0 hlt h3, hd, allW_cons]
        cases hw : okW y with
        | true => simpa using ih (i + 1) (by omega) (by omega) (by omega)
        | false => exact .inr ⟨by simp, i, h0, by simp⟩
      · rw [if_neg hlt, drop_end hlt]
        exact .inl ⟨rfl, rfl⟩
  exact key lots i (by rw [maxLen_eq] at h3; rw [lots_eq]; omega) h0 h1

theorem areWords_eq (m : List Int) (h : m.length ≤ maxLen) : F_impl_areWords (m, ()) = some ((allW m, ()), ()) := by
  unfold F_impl_areWords F_slices_ContainsFunc_int64_of_impl_areWords_1 F_slices_IndexFunc_int64_of_impl_areWords_1
  simp only
  rcases words_loop m 0 (by simp) (by simp) h with ⟨h1, h2⟩ | ⟨h1, k, h2, h3⟩
  · simp only [Int.toNat_zero, List.drop_zero] at h1
    rw [h2, h1]; rfl
  · simp only [Int.toNat_zero, List.drop_zero] at h1
    rw [h3, h1]
    simp [h2, leI_eq]

def memFault (m : List Int) : Int := if m.length % 8 = 0 ∧ 8 ≤ m.length ∧ m.length ≤ 192 then (if allW m = true then 0 else 3) else 1

theorem implFault_eq (m : List Int) (h : m.length ≤ maxLen) : F_impl_MemoryFault (m, ()) = some ((memFault m, ()), ()) := by
  unfold F_impl_MemoryFault memFault
  rw [areWords_eq m h]
  simp only [Option.bind_some, ltI_eq, leI_eq, beq_eq_false_iff_ne, decide_eq_false_iff_not, bne_iff_ne]
  have e : ((m.length : Nat) : Int).tmod 8 = ((m.length % 8 : Nat) : Int) := rfl
  rw [e]
  by_cases h1 : ((m.length : Nat) : Int) ≠ 0
  · rw [if_pos h1]
    by_cases h2 : ¬ ((m.length : Nat) : Int) > 192
    · rw [if_pos h2]
      by_cases h3 : ((m.length % 8 : Nat) : Int) ≠ 0
      · rw [if_pos h3, if_neg (by omega)]
      · have hc : m.length % 8 = 0 ∧ 8 ≤ m.length ∧ m.length ≤ 192 := by omega
        rw [if_neg h3, if_pos hc]
        cases allW m <;> rfl
    · rw [if_neg h2, if_neg (by omega)]
  · rw [if_neg h1, if_neg (by omega)]

theorem specWords_loop (m : List Int) (i : Int) (h0 : 0 ≤ i) (h1 : i ≤ (m.length : Int)) (h3 : m.length ≤ maxLen) :
    L_spec_MemoryFault_4 ((m, i, ()), (), ()) = some (if allW (m.drop i.toNat) = true then .inl ((), (), ()) else .inr (.inl ((3, ()), (), ()))) := by
  refine iter_map (γ := denO o_spec_MemoryFault_4) (step := l_spec_MemoryFault_4) (β := Int) (fun i => ((m, i, ()), (), ())) (fun i => 0 ≤ i ∧ i ≤ (m.length : Int)) (fun i => some (if allW (m.drop i.toNat) = true then .inl ((), (), ()) else .inr (.inl ((3, ()), (), ()))))
    (fun i => (m.length - i).toNat) ?_ lots _ ⟨h0, h1⟩ (by rw [maxLen_eq] at h3; rw [lots_eq]; omega)
  rintro rec i ⟨h0, h1⟩ ih
  simp only at h0 h1 ih ⊢
  unfold l_spec_MemoryFault_4
  simp only [ltI_eq, leI_eq, decide_eq_true_eq, ge_iff_le, gt_iff_lt]
  by_cases hlt : i < (m.length : Int)
  · obtain ⟨y, hy, _, hd⟩ := at_lt h0 hlt
    rw [if_pos hlt, if_pos h0, hy, Option.bind_some, l1In_eq, Option.bind_some, step64 h0 hlt h3, hd, allW_cons]
    show (if (!okW y) = true then _ else _) = _
    cases hw : okW y with
    | true => simpa using ih (i + 1) ⟨by omega, by omega⟩ (by omega)
    | false => simp
  · rw [if_neg hlt, drop_end hlt]
    rfl

theorem specFault_eq (m : List Int) (h : m.length ≤ maxLen) : F_spec_MemoryFault (m, ()) = some ((memFault m, ()), ()) := by
  unfold F_spec_MemoryFault memFault
  simp only [ltI_eq, leI_eq, beq_eq_false_iff_ne, decide_eq_false_iff_not, bne_eq_false_iff_eq, decide_eq_true_eq]
  have e : ((m.length : Nat) : Int).tmod 8 = ((m.length % 8 : Nat) : Int) := rfl
  rw [e]
  by_cases h1 : ((m.length % 8 : Nat) : Int) = 0
  · rw [if_pos h1]
    by_cases h2 : ¬ ((m.length : Nat) : Int) < 8
    · rw [if_pos h2]
      by_cases h3 : ((m.length : Nat) : Int) > 192
      · rw [if_pos h3, if_neg (by omega)]
      · rw [if_neg h3, if_pos (by omega), specWords_loop m 0 (by simp) (by simp) h]
        simp only [Int.toNat_zero, List.drop_zero]
        cases allW m <;> rfl
    · rw [if_neg h2, if_neg (by omega)]
  · rw [if_neg h1, if_neg (by omega)]

abbrev HartD := den (.pair (.slice (.int .i64)) (.pair (.int .i64) (.pair (.slice (.int .i64)) (.pair .bool (.pair .bool (.pair .bool (.pair (.int .i64) (.pair (.slice (.int .i64)) (.pair (.slice (.int .i64)) .unit)))))))))

/-- No list of it is longer. -/
def hartLe (n : Nat) (h : HartD) : Prop := h.1.length ≤ n ∧ h.2.2.1.length ≤ n ∧ h.2.2.2.2.2.2.2.1.length ≤ n ∧ h.2.2.2.2.2.2.2.2.1.length ≤ n

theorem szInt_eq (m : List Int) (n : Int) (h0 : 0 ≤ n) (h1 : n ≤ 1048576) (h2 : m.length ≤ maxLen) : ∃ r : Int, F_laws_szInt64S (m, n, ()) = some ((r, ()), ()) ∧ (r < 0 ∨ (0 ≤ r ∧ r ≤ n ∧ m.length ≤ 1048576)) := by
  unfold F_laws_szInt64S
  have hw : IntKind.i64.wrap (n - (m.length : Int)) = n - (m.length : Int) := by
    rw [maxLen_eq] at h2
    exact wrap64 (by omega) (by omega)
  simp only [ltI_eq, decide_eq_true_eq]
  by_cases hlt : n - (m.length : Int) < 0
  · exact ⟨-1, by rw [if_pos (show IntKind.i64.wrap (n - (m.length : Int)) < 0 by rw [hw]; exact hlt)], .inl (by omega)⟩
  · exact ⟨n - (m.length : Int), by rw [if_neg (show ¬ IntKind.i64.wrap (n - (m.length : Int)) < 0 by rw [hw]; exact hlt), hw], .inr ⟨by omega, by omega, by omega⟩⟩

theorem szHart_eq (h : HartD) (n : Int) (h0 : 0 ≤ n) (h1 : n ≤ 1048576) (h2 : hartLe maxLen h) : ∃ r : Int, F_laws_szHart (h, n, ()) = some ((r, ()), ()) ∧ (r < 0 ∨ (0 ≤ r ∧ r ≤ n ∧ hartLe 1048576 h)) := by
  obtain ⟨a1, a2, a3, a4⟩ := h2
  unfold F_laws_szHart
  simp only [ltI_eq, decide_eq_true_eq]
  obtain ⟨r1, e1, c1⟩ := szInt_eq h.1 n h0 h1 a1
  rw [e1, Option.bind_some]
  by_cases d1 : r1 < 0
  · exact ⟨-1, by rw [if_pos d1], .inl (by omega)⟩
  rw [if_neg d1]
  have c1 := c1.resolve_left d1
  obtain ⟨r2, e2, c2⟩ := szInt_eq h.2.2.1 r1 (by omega) (by omega) a2
  rw [e2, Option.bind_some]
  by_cases d2 : r2 < 0
  · exact ⟨-1, by rw [if_pos d2], .inl (by omega)⟩
  rw [if_neg d2]
  have c2 := c2.resolve_left d2
  obtain ⟨r3, e3, c3⟩ := szInt_eq h.2.2.2.2.2.2.2.1 r2 (by omega) (by omega) a3
  rw [e3, Option.bind_some]
  by_cases d3 : r3 < 0
  · exact ⟨-1, by rw [if_pos d3], .inl (by omega)⟩
  rw [if_neg d3]
  have c3 := c3.resolve_left d3
  obtain ⟨r4, e4, c4⟩ := szInt_eq h.2.2.2.2.2.2.2.2.1 r3 (by omega) (by omega) a4
  rw [e4, Option.bind_some]
  by_cases d4 : r4 < 0
  · exact ⟨-1, by rw [if_pos d4], .inl (by omega)⟩
  rw [if_neg d4]
  have c4 := c4.resolve_left d4
  exact ⟨r4, rfl, .inr ⟨by omega, by omega, c1.2.2, c2.2.2, c3.2.2, c4.2.2⟩⟩

theorem le8 {n : Nat} (h : n ≤ 1048576) : n * 8 ≤ 140737488355328 := by omega

theorem leM {n : Nat} (h : n ≤ 1048576) : n ≤ maxLen := by rw [maxLen_eq]; omega

theorem toHart_eq (h : HartD) (hl : hartLe 1048576 h) : F_laws_toHart (h, ()) = some ((h, ()), ()) := by
  obtain ⟨a1, a2, a3, a4⟩ := hl
  unfold F_laws_toHart
  rw [toInt64S_eq h.1 (le8 a1), Option.bind_some, toInt64S_eq h.2.2.1 (le8 a2), Option.bind_some, toInt64S_eq h.2.2.2.2.2.2.2.1 (le8 a3), Option.bind_some, toInt64S_eq h.2.2.2.2.2.2.2.2.1 (le8 a4), Option.bind_some]

theorem eqHart_eq (h : HartD) (hl : hartLe 1048576 h) : F_laws_eqHart (h, h, ()) = some ((true, ()), ()) := by
  obtain ⟨a1, a2, a3, a4⟩ := hl
  unfold F_laws_eqHart
  rw [eqInt64S_eq h.1 (leM a1), Option.bind_some, if_neg (by simp), if_neg (by simp), eqInt64S_eq h.2.2.1 (leM a2), Option.bind_some, if_neg (by simp), if_neg (by simp), if_neg (by simp), if_neg (by simp), if_neg (by simp),
    eqInt64S_eq h.2.2.2.2.2.2.2.1 (leM a3), Option.bind_some, if_neg (by simp), eqInt64S_eq h.2.2.2.2.2.2.2.2.1 (leM a4), Option.bind_some, if_neg (by simp)]

def seqFrom (k : Int) : Nat → List Int
  | 0 => []
  | n + 1 => k :: seqFrom (k + 1) n

theorem seqFrom_len : ∀ (n : Nat) (k : Int), (seqFrom k n).length = n
  | 0, _ => rfl
  | n + 1, k => by simp [seqFrom, seqFrom_len n]

theorem set_take' {out : List Int} {i : Nat} {y : Int} (h : i < out.length) : (out.set i y).take (i + 1) = out.take i ++ [y] := by
  rw [List.take_add_one, List.take_set_of_le (Nat.le_refl _), List.getElem?_set_self h]
  rfl

theorem mark_loop (row : List Int) (k : Int) (i : Nat) (h1 : i ≤ row.length) (h3 : row.length ≤ 1048576) (hk : 0 ≤ k ∧ k ≤ 1152921504616846976) :
    L_laws_markInt64S_2 (((), k, (i : Int), ()), (), row, ()) = some (.inl ((k + ((row.length - i : Nat) : Int), ()), (), row.take i ++ seqFrom k (row.length - i), ())) := by
  have key : ∀ (n : Nat) (row : List Int) (k : Int) (i : Nat), row.length - i < n → i ≤ row.length → row.length ≤ 1048576 → 0 ≤ k → k + ((row.length - i : Nat) : Int) ≤ 2305843009213693952 →
      iterF l_laws_markInt64S_2 n (((), k, (i : Int), ()), (), row, ()) = some (.inl ((k + ((row.length - i : Nat) : Int), ()), (), row.take i ++ seqFrom k (row.length - i), ())) := by
    intro n
    induction n with
    | zero => intro row k i h; omega
    | succ n ih =>
      intro row k i hn h1 h3 hk hk2
      simp only [iterF]
      generalize hrec : iterF l_laws_markInt64S_2 n = rec at ih ⊢
      unfold l_laws_markInt64S_2
      simp only [ltI_eq, decide_eq_true_eq]
      by_cases hlt : i < row.length
      · have e1 : ((i : Int)).toNat = i := by omega
        have hlt' : (i : Int) < (row.length : Int) := by omega
        have hb : (0 : Int) ≤ (i : Int) ∧ (i : Int) < (row.length : Int) := by omega
        rw [if_pos hlt', if_pos hb, e1, List.getElem?_eq_getElem hlt, Option.bind_some, wrap64 (n := (i : Int) + 1) (by omega) (by omega), wrap64 (n := k + 1) (by omega) (by omega)]
        have := ih (row.set i k) (k + 1) (i + 1) (by simp; omega) (by simp; omega) (by simp; omega) (by omega) (by simp; omega)
        simp only [List.length_set] at this
        have e2 : (((i + 1 : Nat)) : Int) = (i : Int) + 1 := by omega
        rw [e2] at this
        rw [this, set_take' hlt]
        have e3 : row.length - i = (row.length - (i + 1)) + 1 := by omega
        rw [e3, seqFrom]
        have e4 : k + 1 + ((row.length - (i + 1) : Nat) : Int) = k + (((row.length - (i + 1)) + 1 : Nat) : Int) := by omega
        rw [e4]
        simp
      · have hge : ¬ ((i : Int) < (row.length : Int)) := by omega
        rw [if_neg hge]
        have e3 : row.length - i = 0 := by omega
        rw [e3, seqFrom, List.take_of_length_le (by omega)]
        simp
  exact key lots row k i (by rw [lots_eq]; omega) h1 h3 hk.1 (by omega)

theorem mark_eq (row : List Int) (k : Int) (h3 : row.length ≤ 1048576) (hk : 0 ≤ k ∧ k ≤ 1152921504616846976) : F_laws_markInt64S (row, k, ()) = some ((k + (row.length : Int), ()), (seqFrom k row.length, ())) := by
  unfold F_laws_markInt64S
  have := mark_loop row k 0 (by omega) h3 hk
  simp only [Nat.sub_zero, List.take_zero, List.nil_append] at this
  have e : ((0 : Nat) : Int) = 0 := rfl
  rw [e] at this
  rw [this, Option.bind_some]
  simp only
  rw [if_pos (by rw [seqFrom_len]; simp)]

theorem held_loop : ∀ (n rounds : Nat) (k : Int) (pre : List Int), n < rounds → pre.length + n ≤ 1048576 → 0 ≤ k → k + (n : Int) ≤ 2305843009213693952 →
    iterF l_laws_heldInt64S_2 rounds ((pre ++ seqFrom k n, k, (pre.length : Int), ()), (), ()) = some (.inl ((k + (n : Int), ()), (), ()))
  | n, 0, _, _, h, _, _, _ => by omega
  | 0, r + 1, k, pre, _, h, _, _ => by
    simp only [iterF]
    unfold l_laws_heldInt64S_2
    simp only [ltI_eq, decide_eq_true_eq, seqFrom, List.append_nil]
    have : ¬ ((pre.length : Int) < (pre.length : Int)) := by omega
    rw [if_neg this]
    simp
  | n + 1, r + 1, k, pre, hn, h, hk, hk2 => by
    have ih := held_loop n r (k + 1) (pre ++ [k]) (by omega) (by simp; omega) (by omega) (by omega)
    simp only [iterF]
    generalize iterF l_laws_heldInt64S_2 r = rec at ih ⊢
    unfold l_laws_heldInt64S_2
    simp only [ltI_eq, decide_eq_true_eq]
    have hlen : (pre ++ seqFrom k (n + 1)).length = pre.length + (n + 1) := by rw [List.length_append, seqFrom_len]
    have h1 : (pre.length : Int) < ((pre ++ seqFrom k (n + 1)).length : Int) := by rw [hlen]; omega
    have e1 : ((pre.length : Int)).toNat = pre.length := by omega
    have hat : (pre ++ seqFrom k (n + 1))[pre.length]? = some k := by
      rw [List.getElem?_append_right (Nat.le_refl _), Nat.sub_self]; rfl
    have h0 : (0 : Int) ≤ (pre.length : Int) := by omega
    rw [if_pos h1, if_pos h0, e1, hat, Option.bind_some, if_neg (by simp), wrap64 (n := k + 1) (by omega) (by omega), wrap64 (n := (pre.length : Int) + 1) (by omega) (by omega)]
    have e2 : pre ++ seqFrom k (n + 1) = (pre ++ [k]) ++ seqFrom (k + 1) n := by simp [seqFrom]
    have e3 : ((pre.length : Int) + 1) = ((pre ++ [k]).length : Int) := by simp
    rw [e2, e3, ih]
    have e4 : k + 1 + (n : Int) = k + ((n + 1 : Nat) : Int) := by omega
    rw [e4]

theorem held_eq (n : Nat) (k : Int) (h : n ≤ 1048576) (hk : 0 ≤ k ∧ k ≤ 1152921504616846976) : F_laws_heldInt64S (seqFrom k n, k, ()) = some ((k + (n : Int), ()), ()) := by
  unfold F_laws_heldInt64S
  have : L_laws_heldInt64S_2 ((seqFrom k n, k, 0, ()), (), ()) = some (.inl ((k + (n : Int), ()), (), ())) := held_loop n lots k [] (by rw [lots_eq]; omega) (by simpa using h) hk.1 (by omega)
  rw [this]
  simp

theorem pageOf_eq (m : List Int) (p : Nat) (h : 8 * p + 8 ≤ m.length) (h2 : m.length ≤ 192) : F_impl_pageOf (m, (p : Int), ()) = some (((m.drop (8 * p)).take 8, ()), ()) := by
  unfold F_impl_pageOf F_slices_Clone_int64
  simp only
  rw [wrap64 (n := (p : Int) * 8) (by omega) (by omega), wrap64 (n := (p : Int) + 1) (by omega) (by omega), wrap64 (n := ((p : Int) + 1) * 8) (by omega) (by omega)]
  rw [if_pos ⟨by omega, by omega, by omega⟩]
  have e1 : ((p : Int) * 8).toNat = 8 * p := by omega
  have e2 : (((p : Int) + 1) * 8).toNat - 8 * p = 8 := by omega
  rw [e1, e2, if_pos (by simp; omega), Option.bind_some]
  simp

theorem firstOf_eq (x y : Int) : F_impl_firstOf ([x, y], ()) = some ((if x ≠ 0 then x else y, ()), ()) := by
  have key : L_impl_firstOf_2 (([x, y], 2, 0, ()), (), ()) = some (if x ≠ 0 then .inr (.inl ((x, ()), (), ())) else if y ≠ 0 then .inr (.inl ((y, ()), (), ())) else .inl ((), (), ())) := by
    have e : lots = (18446744073709551613 + 1) + 1 + 1 := rfl
    show iterF l_impl_firstOf_2 lots _ = _
    rw [e]
    generalize 18446744073709551613 = n
    have w1 : IntKind.i64.wrap ((0 : Int) + 1) = 1 := wrap64 (by omega) (by omega)
    have w2 : IntKind.i64.wrap ((1 : Int) + 1) = 2 := wrap64 (by omega) (by omega)
    have s3 : iterF l_impl_firstOf_2 (n + 1) (([x, y], 2, 2, ()), (), ()) = some (.inl ((), (), ())) := by
      simp only [iterF]
      generalize iterF l_impl_firstOf_2 n = rec
      unfold l_impl_firstOf_2
      simp [ltI_eq]
    have s2 : iterF l_impl_firstOf_2 (n + 1 + 1) (([x, y], 2, 1, ()), (), ()) = some (if y ≠ 0 then .inr (.inl ((y, ()), (), ())) else .inl ((), (), ())) := by
      rw [show iterF l_impl_firstOf_2 (n + 1 + 1) (([x, y], 2, 1, ()), (), ()) = l_impl_firstOf_2 (iterF l_impl_firstOf_2 (n + 1)) (([x, y], 2, 1, ()), (), ()) from rfl]
      generalize iterF l_impl_firstOf_2 (n + 1) = rec at s3 ⊢
      unfold l_impl_firstOf_2
      simp only [ltI_eq]
      rw [if_pos (by decide), if_pos (by decide)]
      show (some y).bind _ = _
      rw [Option.bind_some, w2, s3]
      by_cases h : y = 0
      · subst h; simp
      · rw [if_pos (by simp; exact h)]; simp [h]
    rw [show iterF l_impl_firstOf_2 (n + 1 + 1 + 1) (([x, y], 2, 0, ()), (), ()) = l_impl_firstOf_2 (iterF l_impl_firstOf_2 (n + 1 + 1)) (([x, y], 2, 0, ()), (), ()) from rfl]
    generalize iterF l_impl_firstOf_2 (n + 1 + 1) = rec at s2 ⊢
    unfold l_impl_firstOf_2
    simp only [ltI_eq]
    rw [if_pos (by decide), if_pos (by decide)]
    show (some x).bind _ = _
    rw [Option.bind_some, w1, s2]
    by_cases h : x = 0
    · subst h; simp
    · rw [if_pos (by simp; exact h)]; simp [h]
  unfold F_impl_firstOf
  simp only
  show (L_impl_firstOf_2 (([x, y], 2, 0, ()), (), ())).bind _ = _
  rw [key, Option.bind_some]
  by_cases h : x = 0
  · subst h
    by_cases h2 : y = 0
    · subst h2; simp
    · simp [h2]
  · simp [h]

theorem memFault_zero {m : List Int} (h : memFault m = 0) : m.length % 8 = 0 ∧ 8 ≤ m.length ∧ m.length ≤ 192 := by
  unfold memFault at h
  split at h
  · assumption
  · omega

/-- A loop whose counter goes from i up to N at most. -/
theorem loopN {X γ σ : Type} {step : (X → Option γ) → X → Option γ} (emb : Nat → σ → X) (N : Nat) (hN : N < lots) (I : Nat → σ → Prop) (out : Nat → σ → Option γ)
    (h : ∀ rec i s, i ≤ N → I i s → (∀ s', i < N → I (i + 1) s' → rec (emb (i + 1) s') = out (i + 1) s') → step rec (emb i s) = out i s) :
    ∀ i s, i ≤ N → I i s → iterF step lots (emb i s) = out i s := by
  have key : ∀ n i s, N - i < n → i ≤ N → I i s → iterF step n (emb i s) = out i s := by
    intro n
    induction n with
    | zero => intro i s h; omega
    | succ n ih =>
      intro i s hn hi hI
      simp only [iterF]
      exact h _ i s hi hI fun s' hlt hI' => ih (i + 1) s' (by omega) (by omega) hI'
  intro i s hi hI
  exact key lots i s (by omega) hi hI

theorem lots_gt' {n : Nat} (h : n ≤ 9223372036854775807) : n < lots := by rw [lots_eq]; omega

theorem wrapS {i : Nat} (h : i < 9223372036854775807) : IntKind.i64.wrap ((i : Int) + 1) = ((i + 1 : Nat) : Int) := by rw [wrap64 (by omega) (by omega)]; rfl

theorem nat0 {i : Nat} : (0 : Int) ≤ (i : Int) := Int.natCast_nonneg i

/-- One step at a place of a list. -/
theorem at_get {α γ : Type} {m : List α} {i : Nat} (h : i < m.length) (K : α → Option γ) : (m[((i : Nat) : Int).toNat]?).bind K = K m[i] := by
  rw [Int.toNat_natCast, List.getElem?_eq_getElem h, Option.bind_some]

theorem drop_get {α : Type} {m : List α} {i : Nat} (h : i < m.length) : m.drop i = m[i] :: m.drop (i + 1) := List.drop_eq_getElem_cons h

theorem ltN {a b : Nat} : ltI (a : Int) (b : Int) = decide (a < b) := by
  rw [ltI_eq]; by_cases h : a < b
  · have : (a : Int) < b := by omega
    simp [h, this]
  · have : ¬ (a : Int) < b := by omega
    simp [h, this]

theorem ltI_t {a b : Int} : ltI a b = true ↔ a < b := by rw [ltI_eq]; simp

theorem leI_t {a b : Int} : leI a b = true ↔ a ≤ b := by rw [leI_eq]; simp

theorem ltI_f {a b : Int} : ltI a b = false ↔ ¬ a < b := by rw [ltI_eq]; simp

theorem toS_loop {α β E : Type} {step : ((List α × List α × Int × Unit) × Unit × Unit → Option (((List α × Unit) × Unit × Unit) ⊕ E)) → (List α × List α × Int × Unit) × Unit × Unit → Option (((List α × Unit) × Unit × Unit) ⊕ E)}
    {f : α → Option β} {g : β → α}
    (hstep : ∀ rec m out i, step rec ((m, out, i, ()), (), ()) = if ltI i ((m.length : Nat) : Int) = true then (if 0 ≤ i then (m[i.toNat]?).bind fun y => (f y).bind fun r =>
      if 0 ≤ i ∧ i < ((out.length : Nat) : Int) then (out[i.toNat]?).bind fun _ => rec ((m, out.set i.toNat (g r), IntKind.i64.wrap (i + 1), ()), (), ()) else none else none) else some (.inl ((out, ()), (), ())))
    (m : List α) (hm : m.length ≤ 9223372036854775807) (hf : ∀ y ∈ m, ∃ r, f y = some r ∧ g r = y) (z : α) :
    iterF step lots ((m, List.replicate m.length z, 0, ()), (), ()) = some (.inl ((m, ()), (), ())) := by
  have key := loopN (step := step) (fun i (out : List α) => ((m, out, ((i : Nat) : Int), ()), (), ())) m.length (lots_gt' hm) (fun i out => out.length = m.length ∧ out.take i = m.take i) (fun _ _ => some (.inl ((m, ()), (), ()))) ?_ 0 (List.replicate m.length z) (by omega) ⟨by simp, by simp⟩
  · exact key
  · rintro rec i out hi ⟨hl, ht⟩ ih
    rw [hstep, ltN]
    by_cases hlt : i < m.length
    · obtain ⟨r, h1, h2⟩ := hf m[i] (List.getElem_mem hlt)
      have hb : (0 : Int) ≤ (i : Int) ∧ (i : Int) < ((out.length : Nat) : Int) := by omega
      rw [if_pos (by simpa using hlt), if_pos nat0, at_get hlt, h1, Option.bind_some, if_pos hb, at_get (by omega), wrapS (by omega), Int.toNat_natCast]
      refine ih _ hlt ⟨by simp [hl], ?_⟩
      rw [List.take_add_one, List.take_set_of_le (Nat.le_refl _), List.getElem?_set_self (by omega), h2, ht, List.take_add_one, List.getElem?_eq_getElem hlt]
    · rw [if_neg (by simpa using hlt)]
      have : out = m := by
        rw [List.take_of_length_le (by omega), List.take_of_length_le (by omega)] at ht
        exact ht
      rw [this]

theorem toS_thm {α β E : Type} {z : α} {by_ : Nat} {F : List α × Unit → Option ((List α × Unit) × Unit)} {step : ((List α × List α × Int × Unit) × Unit × Unit → Option (((List α × Unit) × Unit × Unit) ⊕ E)) → (List α × List α × Int × Unit) × Unit × Unit → Option (((List α × Unit) × Unit × Unit) ⊕ E)}
    {f : α → Option β} {g : β → α} {K : (((List α × Unit) × Unit × Unit) ⊕ E) → Option ((List α × Unit) × Unit)}
    (hF : ∀ m, F (m, ()) = if ((m.length : Nat) : Int) = ((m.length : Nat) : Int) ∧ 0 ≤ ((m.length : Nat) : Int) ∧ ((m.length : Nat) : Int) * (by_ : Int) ≤ 140737488355328 ∧ ((m.length : Nat) : Int) ≤ 9223372036854775807 then
      (iterF step lots ((m, List.replicate ((m.length : Nat) : Int).toNat z, 0, ()), (), ())).bind K else none)
    (hK : ∀ x, K (.inl x) = some ((x.1.1, ()), ()))
    (hstep : ∀ rec m out i, step rec ((m, out, i, ()), (), ()) = if ltI i ((m.length : Nat) : Int) = true then (if 0 ≤ i then (m[i.toNat]?).bind fun y => (f y).bind fun r =>
      if 0 ≤ i ∧ i < ((out.length : Nat) : Int) then (out[i.toNat]?).bind fun _ => rec ((m, out.set i.toNat (g r), IntKind.i64.wrap (i + 1), ()), (), ()) else none else none) else some (.inl ((out, ()), (), ())))
    (hb : by_ ≤ 1000) (m : List α) (hm : m.length ≤ 1048576) (hf : ∀ y ∈ m, ∃ r, f y = some r ∧ g r = y) : F (m, ()) = some ((m, ()), ()) := by
  have h1 : ((m.length : Nat) : Int) * (by_ : Int) ≤ 140737488355328 := by
    have : m.length * by_ ≤ 1048576 * 1000 := Nat.mul_le_mul hm hb
    have h2 : ((m.length * by_ : Nat) : Int) ≤ 1048576 * 1000 := by omega
    rw [Int.natCast_mul] at h2
    omega
  rw [hF, if_pos ⟨rfl, by omega, h1, by omega⟩, Int.toNat_natCast, toS_loop hstep m (by omega) hf, Option.bind_some, hK]

theorem eqS_loop {α E : Type} {step : ((List α × List α × Int × Unit) × Unit × Unit → Option ((Unit × Unit × Unit) ⊕ E)) → (List α × List α × Int × Unit) × Unit × Unit → Option ((Unit × Unit × Unit) ⊕ E)} {f : α → α → Option ((Bool × Unit) × Unit)} {no : Option ((Unit × Unit × Unit) ⊕ E)}
    (hstep : ∀ rec a b i, step rec ((a, b, i, ()), (), ()) = if ltI i ((a.length : Nat) : Int) = true then (if 0 ≤ i then (a[i.toNat]?).bind fun y => if 0 ≤ i then (b[i.toNat]?).bind fun y' => (f y y').bind fun r =>
      if (!r.1.1) = true then no else rec ((a, b, IntKind.i64.wrap (i + 1), ()), (), ()) else none else none) else some (.inl ((), (), ())))
    (m : List α) (hm : m.length ≤ 9223372036854775807) (hf : ∀ y ∈ m, f y y = some ((true, ()), ())) : iterF step lots ((m, m, 0, ()), (), ()) = some (.inl ((), (), ())) := by
  have key := loopN (step := step) (fun i (_ : Unit) => ((m, m, ((i : Nat) : Int), ()), (), ())) m.length (lots_gt' hm) (fun _ _ => True) (fun _ _ => some (.inl ((), (), ()))) ?_ 0 () (by omega) trivial
  · exact key
  · rintro rec i _ hi _ ih
    rw [hstep, ltN]
    by_cases hlt : i < m.length
    · rw [if_pos (by simpa using hlt), if_pos nat0, at_get hlt, if_pos nat0, at_get hlt, hf _ (List.getElem_mem hlt), Option.bind_some, if_neg (by simp), wrapS (by omega)]
      exact ih () hlt trivial
    · rw [if_neg (by simpa using hlt)]

theorem eqS_thm {α E : Type} {F : List α × List α × Unit → Option ((Bool × Unit) × Unit)} {step : ((List α × List α × Int × Unit) × Unit × Unit → Option ((Unit × Unit × Unit) ⊕ E)) → (List α × List α × Int × Unit) × Unit × Unit → Option ((Unit × Unit × Unit) ⊕ E)}
    {f : α → α → Option ((Bool × Unit) × Unit)} {no : Option ((Unit × Unit × Unit) ⊕ E)} {K : (Unit × Unit × Unit) ⊕ E → Option ((Bool × Unit) × Unit)}
    (hF : ∀ m, F (m, m, ()) = if (((m.length : Nat) : Int) != ((m.length : Nat) : Int)) = true then some ((false, ()), ()) else (iterF step lots ((m, m, 0, ()), (), ())).bind K)
    (hK : ∀ x, K (.inl x) = some ((true, ()), ()))
    (hstep : ∀ rec a b i, step rec ((a, b, i, ()), (), ()) = if ltI i ((a.length : Nat) : Int) = true then (if 0 ≤ i then (a[i.toNat]?).bind fun y => if 0 ≤ i then (b[i.toNat]?).bind fun y' => (f y y').bind fun r =>
      if (!r.1.1) = true then no else rec ((a, b, IntKind.i64.wrap (i + 1), ()), (), ()) else none else none) else some (.inl ((), (), ())))
    (m : List α) (hm : m.length ≤ 9223372036854775807) (hf : ∀ y ∈ m, f y y = some ((true, ()), ())) : F (m, m, ()) = some ((true, ()), ()) := by
  rw [hF, if_neg (by simp), eqS_loop hstep m hm hf, Option.bind_some, hK]

/-- The size of a list whose elements are not asked. -/
theorem sz1_thm {α : Type} {F : List α × Int × Unit → Option ((Int × Unit) × Unit)}
    (hF : ∀ m k, F (m, k, ()) = if ltI (IntKind.i64.wrap (k - ((m.length : Nat) : Int))) 0 = true then some ((-1, ()), ()) else some ((IntKind.i64.wrap (k - ((m.length : Nat) : Int)), ()), ()))
    (m : List α) (hm : m.length ≤ maxLen) (k : Int) (h0 : 0 ≤ k) (h1 : k ≤ 1048576) : ∃ r : Int, F (m, k, ()) = some ((r, ()), ()) ∧ (r < 0 ∨ (0 ≤ r ∧ r ≤ k ∧ m.length ≤ 1048576)) := by
  rw [maxLen_eq] at hm
  rw [hF, wrap64 (by omega) (by omega)]
  by_cases hlt : k - ((m.length : Nat) : Int) < 0
  · exact ⟨-1, by rw [if_pos (ltI_t.2 hlt)], .inl (by omega)⟩
  · exact ⟨_, by rw [if_neg (by rw [ltI_t]; exact hlt)], .inr ⟨by omega, by omega, by omega⟩⟩

def scan {α β : Type} (f : Nat → α → Option β) : Nat → List α → Option β
  | _, [] => none
  | i, x :: r => match f i x with
    | some c => some c
    | none => scan f (i + 1) r

theorem scan_loop {X α γ β : Type} {step : (X → Option γ) → X → Option γ} (emb : Nat → X) (m : List α) (f : Nat → α → Option β) (bad : β → Option γ) (done : Option γ) (hm : m.length ≤ 9223372036854775807)
    (h1 : ∀ rec i (h : i < m.length), step rec (emb i) = match f i m[i] with | some c => bad c | none => rec (emb (i + 1)))
    (h2 : ∀ rec, step rec (emb m.length) = done) : iterF step lots (emb 0) = match scan f 0 m with | some c => bad c | none => done := by
  have key := loopN (step := step) (fun i (_ : Unit) => emb i) m.length (lots_gt' hm) (fun _ _ => True) (fun i _ => match scan f i (m.drop i) with | some c => bad c | none => done) ?_ 0 () (by omega) trivial
  · simpa using key
  · intro rec i _ hi _ ih
    by_cases hlt : i < m.length
    · rw [h1 rec i hlt, drop_get hlt]
      simp only [scan]
      cases hf : f i m[i] with
      | some c => rfl
      | none => exact ih () hlt trivial
    · have : i = m.length := by omega
      subst this
      rw [h2, List.drop_length]
      rfl

/-- Is there an element that is so? -/
theorem scan_any {α β : Type} {f : Nat → α → Option β} {p : α → Bool} : ∀ {m : List α} {i : Nat}, (∀ j (h : j < m.length), (f (i + j) m[j]).isSome = p m[j]) → (scan f i m).isSome = m.any p
  | [], _, _ => rfl
  | x :: r, i, h => by
    have h0 := h 0 (by simp)
    simp only [Nat.add_zero, List.getElem_cons_zero] at h0
    have := scan_any (f := f) (p := p) (m := r) (i := i + 1) fun j hj => by
      have := h (j + 1) (by simpa using hj)
      simpa [Nat.add_assoc, Nat.add_comm, Nat.add_left_comm] using this
    simp only [scan, List.any_cons, ← h0, ← this]
    cases f i x <;> rfl

theorem lt_t {i n : Nat} (h : i < n) : ltI (i : Int) (n : Int) = true := by rw [ltN]; simpa using h

theorem lt_f {i n : Nat} (h : ¬ i < n) : ¬ ltI (i : Int) (n : Int) = true := by rw [ltN]; simpa using h

theorem lt_same {n : Nat} : ¬ ltI (n : Int) (n : Int) = true := lt_f (Nat.lt_irrefl n)

theorem lt1 {α : Type} {i : Nat} {m : List α} (h : i < m.length) (hm : m.length ≤ 1048576) : i < 9223372036854775807 := by omega

theorem iter_s {X γ : Type} (step : (X → Option γ) → X → Option γ) (n : Nat) (x : X) : iterF step (n + 1) x = step (iterF step n) x := rfl

abbrev TwoD := Int × Int × Unit

theorem leMax {n : Nat} (h : n ≤ 1048576) : n ≤ 9223372036854775807 := by omega

def inB (n a b : Int) : Bool := decide (n ≥ a) && decide (n ≤ b)

theorem within_eq2 (n a b : Int) : F_impl_within (n, a, b, ()) = some ((inB n a b, ()), ()) := within_eq n a b

theorem l1In_eq2 (n a b : Int) : F_spec_l1In (n, a, b, ()) = some ((inB n a b, ()), ()) := l1In_eq n a b

def nz (c : Int) : Option Int := if c ≠ 0 then some c else none

theorem inB_t {n a b : Int} : inB n a b = true ↔ a ≤ n ∧ n ≤ b := by unfold inB; simp

theorem at_lit {γ : Type} {m : List Int} {z : Int} (n : Nat) (hz : z.toNat = n) (h : n < m.length) (K : Int → Option γ) : (m[z.toNat]?).bind K = K (m.getD n 0) := by
  rw [hz, List.getElem?_eq_getElem h, Option.bind_some, List.getD_eq_getElem?_getD, List.getElem?_eq_getElem h]
  rfl

theorem l8Word_eq (n : Int) : F_spec_l8Word (n, ()) = some ((okW n, ()), ()) := by
  unfold F_spec_l8Word
  rw [l1In_eq, Option.bind_some]
  rfl

theorem any_all {α : Type} {p : α → Bool} : ∀ (m : List α), m.any (fun y => !p y) = !m.all p
  | [] => rfl
  | x :: r => by simp only [List.any_cons, List.all_cons, any_all r, Bool.not_and]

theorem l8All_eq (m : List Int) (hm : m.length ≤ 1048576) : F_spec_l8All (m, ()) = some ((allW m, ()), ()) := by
  have key := scan_loop (step := l_spec_l8All_2) (γ := denO o_spec_l8All_2) (fun i => ((m, ((i : Nat) : Int), ()), (), ())) m (fun _ y => if okW y = true then none else some ())
    (fun _ => some (.inr (.inl ((false, ()), (), ())))) (some (.inl ((), (), ()))) (leMax hm) ?_ ?_
  · have e0 : ((0 : Nat) : Int) = 0 := rfl
    rw [e0] at key
    have := scan_any (f := fun (_ : Nat) y => if okW y = true then none else some ()) (p := fun y => !okW y) (m := m) (i := 0) (fun j hj => by cases okW m[j] <;> rfl)
    rw [any_all] at this
    have e : allW m = !(scan (fun (_ : Nat) y => if okW y = true then none else some ()) 0 m).isSome := by rw [this, Bool.not_not]; rfl
    unfold F_spec_l8All
    show (iterF l_spec_l8All_2 lots ((m, 0, ()), (), ())).bind _ = _
    rw [key, e]
    cases scan (fun (_ : Nat) y => if okW y = true then none else some ()) 0 m <;> rfl
  · intro rec i h
    unfold l_spec_l8All_2
    dsimp only
    rw [if_pos (lt_t h), if_pos nat0, at_get h, l8Word_eq, Option.bind_some, wrapS (lt1 h hm)]
    cases okW m[i] <;> rfl
  · intro rec
    unfold l_spec_l8All_2
    dsimp only
    rw [if_neg lt_same]

def hartM (h : HartD) : Int :=
  if h.1.length = 16 ∧ h.2.2.1.length = 11 ∧ h.1.getD 0 0 = 0 then
    (if allW h.1 = true ∧ okW h.2.1 = true ∧ allW h.2.2.1 = true ∧ allW h.2.2.2.2.2.2.2.1 = true ∧ allW h.2.2.2.2.2.2.2.2.1 = true then
      (if h.2.2.2.2.2.2.2.1.length ≤ 40 ∧ h.2.2.2.2.2.2.2.2.1.length ≤ 40 then
        (if inB h.2.2.2.2.2.2.1 0 1000000000 = true then
          (if h.2.2.1.getD 0 0 ≤ 3 ∧ h.2.2.1.getD 7 0 ≤ 7 ∧ h.2.2.1.getD 10 0 ≤ 8 ∧ h.2.2.1.getD 6 0 = 0 ∧ h.2.2.1.getD 8 0 = 0 then 0 else 1) else 3) else 2) else 3) else 1

theorem specHart_eq (h : HartD) (hl : hartLe 1048576 h) : F_spec_l8Fault (h, ()) = some ((hartM h, ()), ()) := by
  obtain ⟨l1, l2, l3, l4⟩ := hl
  unfold F_spec_l8Fault hartM
  dsimp only
  by_cases a1 : h.1.length = 16
  case neg =>
    have : ¬ ((h.1.length : Nat) : Int) = 16 := by omega
    simp [a1, this]
  rw [if_pos (by rw [a1]; rfl)]
  by_cases a2 : h.2.2.1.length = 11
  case neg =>
    have : ¬ ((h.2.2.1.length : Nat) : Int) = 11 := by omega
    simp [a2, this]
  rw [if_pos (by rw [a2]; rfl), at_lit (z := 0) 0 rfl (by omega)]
  by_cases a3 : h.1.getD 0 0 = 0
  case neg => rw [if_pos (by simpa using a3), if_neg (fun g => a3 g.2.2)]
  have hA : h.1.length = 16 ∧ h.2.2.1.length = 11 ∧ h.1.getD 0 0 = 0 := ⟨a1, a2, a3⟩
  rw [if_neg (by simpa using a3), if_pos hA, l8All_eq _ l1, l8Word_eq, l8All_eq _ l2, l8All_eq _ l3, l8All_eq _ l4]
  simp only [Option.bind_some]
  cases b1 : allW h.1
  · simp
  cases b2 : okW h.2.1
  · simp
  cases b3 : allW h.2.2.1
  · simp
  cases b4 : allW h.2.2.2.2.2.2.2.1
  · simp
  cases b5 : allW h.2.2.2.2.2.2.2.2.1
  · simp
  simp only [Bool.not_true, and_self, if_true, Bool.false_eq_true, if_false]
  by_cases c1 : h.2.2.2.2.2.2.2.1.length ≤ 40
  case neg => rw [if_neg (by rw [ltI_f]; omega), if_neg (fun g => c1 g.1)]
  rw [if_pos (by rw [ltI_f]; omega)]
  by_cases c2 : h.2.2.2.2.2.2.2.2.1.length ≤ 40
  case neg => rw [if_pos (by rw [ltI_t]; omega), if_neg (fun g => c2 g.2)]
  have hC : h.2.2.2.2.2.2.2.1.length ≤ 40 ∧ h.2.2.2.2.2.2.2.2.1.length ≤ 40 := ⟨c1, c2⟩
  rw [if_neg (by rw [ltI_t]; omega), if_pos hC, l1In_eq2, Option.bind_some]
  dsimp only
  cases b6 : inB h.2.2.2.2.2.2.1 0 1000000000
  · simp
  rw [if_neg (by simp), if_pos rfl, at_lit (z := 0) 0 rfl (by omega)]
  by_cases d1 : h.2.2.1.getD 0 0 ≤ 3
  case neg => rw [if_neg (by rw [ltI_f]; exact fun g => g (Int.not_le.1 d1)), if_neg (fun g => d1 g.1)]
  rw [if_pos (by rw [ltI_f]; exact Int.not_lt.2 d1), at_lit (z := 7) 7 rfl (by omega)]
  by_cases d2 : h.2.2.1.getD 7 0 ≤ 7
  case neg => rw [if_neg (by rw [ltI_f]; exact fun g => g (Int.not_le.1 d2)), if_neg (fun g => d2 g.2.1)]
  rw [if_pos (by rw [ltI_f]; exact Int.not_lt.2 d2), at_lit (z := 10) 10 rfl (by omega)]
  by_cases d3 : h.2.2.1.getD 10 0 ≤ 8
  case neg => rw [if_neg (by rw [ltI_f]; exact fun g => g (Int.not_le.1 d3)), if_neg (fun g => d3 g.2.2.1)]
  rw [if_pos (by rw [ltI_f]; exact Int.not_lt.2 d3), at_lit (z := 6) 6 rfl (by omega)]
  by_cases d4 : h.2.2.1.getD 6 0 = 0
  case neg => rw [if_neg (by simpa using d4), if_neg (fun g => d4 g.2.2.2.1)]
  rw [if_pos (by simpa using d4), at_lit (z := 8) 8 rfl (by omega)]
  by_cases d5 : h.2.2.1.getD 8 0 = 0
  case neg => rw [if_pos (by simpa using d5), if_neg (fun g => d5 g.2.2.2.2)]
  have hD : h.2.2.1.getD 0 0 ≤ 3 ∧ h.2.2.1.getD 7 0 ≤ 7 ∧ h.2.2.1.getD 10 0 ≤ 8 ∧ h.2.2.1.getD 6 0 = 0 ∧ h.2.2.1.getD 8 0 = 0 := ⟨d1, d2, d3, d4, d5⟩
  rw [if_neg (by simpa using d5), if_pos hD]

theorem implHart_eq (h : HartD) (hl : hartLe 1048576 h) : F_impl_HartFault (h, ()) = some ((hartM h, ()), ()) := by
  rw [← specHart_eq h hl]
  obtain ⟨l1, l2, l3, l4⟩ := hl
  unfold F_impl_HartFault F_spec_l8Fault
  rw [areWords_eq _ (leM l1), isWord_eq, areWords_eq _ (leM l2), areWords_eq _ (leM l3), areWords_eq _ (leM l4), within_eq2]
  rw [l8All_eq _ l1, l8Word_eq, l8All_eq _ l2, l8All_eq _ l3, l8All_eq _ l4, l1In_eq2]

theorem inR_hart {h : HartD} (hh : inR (.pair (.slice (.int .i64)) (.pair (.int .i64) (.pair (.slice (.int .i64)) (.pair .bool (.pair .bool (.pair .bool (.pair (.int .i64) (.pair (.slice (.int .i64)) (.pair (.slice (.int .i64)) .unit))))))))) h) : hartLe maxLen h :=
  ⟨hh.1.1, hh.2.2.1.1, hh.2.2.2.2.2.2.2.1.1, hh.2.2.2.2.2.2.2.2.1.1⟩

theorem markS_loop {α E : Type} {step : ((Unit × Int × Int × Unit) × Unit × List α × Unit → Option (((Int × Unit) × Unit × List α × Unit) ⊕ E)) → (Unit × Int × Int × Unit) × Unit × List α × Unit → Option (((Int × Unit) × Unit × List α × Unit) ⊕ E)}
    (P : List α → Prop) (d : Nat)
    (h1 : ∀ rec (xs : List α) (i : Nat) (k : Int), i < xs.length → 0 ≤ k → k ≤ 1152921504606846976 → P xs → ∃ k' xs', step rec (((), k, ((i : Nat) : Int), ()), (), xs, ()) = rec (((), k', ((i + 1 : Nat) : Int), ()), (), xs', ()) ∧ xs'.length = xs.length ∧ k ≤ k' ∧ k' ≤ k + (d : Int) ∧ P xs')
    (h2 : ∀ rec (xs : List α) (k : Int), step rec (((), k, ((xs.length : Nat) : Int), ()), (), xs, ()) = some (.inl ((k, ()), (), xs, ()))) :
    ∀ (n fuel : Nat) (xs : List α) (i : Nat) (k : Int), xs.length - i = n → i ≤ xs.length → n < fuel → 0 ≤ k → k + ((n * d : Nat) : Int) ≤ 1152921504606846976 → P xs →
      ∃ k' xs', iterF step fuel (((), k, ((i : Nat) : Int), ()), (), xs, ()) = some (.inl ((k', ()), (), xs', ())) ∧ xs'.length = xs.length ∧ k ≤ k' ∧ k' ≤ k + ((n * d : Nat) : Int) ∧ P xs' := by
  intro n
  induction n with
  | zero =>
    intro fuel xs i k hn hi hf hk hb hP
    obtain ⟨f, rfl⟩ : ∃ f, fuel = f + 1 := ⟨fuel - 1, by omega⟩
    have e : i = xs.length := by omega
    subst e
    exact ⟨k, xs, by rw [iter_s, h2], rfl, Int.le_refl _, by omega, hP⟩
  | succ n ih =>
    intro fuel xs i k hn hi hf hk hb hP
    obtain ⟨f, rfl⟩ : ∃ f, fuel = f + 1 := ⟨fuel - 1, by omega⟩
    rw [Nat.succ_mul] at hb
    obtain ⟨k1, xs1, e1, e2, e3, e4, e5⟩ := h1 (iterF step f) xs i k (by omega) hk (by omega) hP
    obtain ⟨k2, xs2, g1, g2, g3, g4, g5⟩ := ih f xs1 (i + 1) k1 (by omega) (by omega) (by omega) (by omega) (by omega) e5
    refine ⟨k2, xs2, by rw [iter_s, e1, g1], by omega, by omega, ?_, g5⟩
    rw [Nat.succ_mul]; omega

/-- What marks of a row come to. -/
theorem markS_thm {α E : Type} {F : List α × Int × Unit → Option ((Int × Unit) × List α × Unit)} {step : ((Unit × Int × Int × Unit) × Unit × List α × Unit → Option (((Int × Unit) × Unit × List α × Unit) ⊕ E)) → (Unit × Int × Int × Unit) × Unit × List α × Unit → Option (((Int × Unit) × Unit × List α × Unit) ⊕ E)}
    (hF : ∀ xs k z, iterF step lots (((), k, (0 : Int), ()), (), xs, ()) = some (.inl z) → F (xs, k, ()) = if (xs.length == z.2.2.1.length && true) = true then some ((z.1.1, ()), (z.2.2.1, ())) else none)
    (P : List α → Prop) (d : Nat)
    (h1 : ∀ rec (xs : List α) (i : Nat) (k : Int), i < xs.length → 0 ≤ k → k ≤ 1152921504606846976 → P xs → ∃ k' xs', step rec (((), k, ((i : Nat) : Int), ()), (), xs, ()) = rec (((), k', ((i + 1 : Nat) : Int), ()), (), xs', ()) ∧ xs'.length = xs.length ∧ k ≤ k' ∧ k' ≤ k + (d : Int) ∧ P xs')
    (h2 : ∀ rec (xs : List α) (k : Int), step rec (((), k, ((xs.length : Nat) : Int), ()), (), xs, ()) = some (.inl ((k, ()), (), xs, ())))
    (xs : List α) (k : Int) (hl : xs.length ≤ 1048576) (hd : d ≤ 8388608) (hP : P xs) (hk : 0 ≤ k) (hk2 : k ≤ 576460752303423488) :
    ∃ k' xs', F (xs, k, ()) = some ((k', ()), (xs', ())) ∧ xs'.length = xs.length ∧ k ≤ k' ∧ k' ≤ k + 8796093022208 := by
  have hm : xs.length * d ≤ 1048576 * 8388608 := Nat.mul_le_mul hl hd
  obtain ⟨k', xs', e1, e2, e3, e4, _⟩ := markS_loop P d h1 h2 xs.length lots xs 0 k (by omega) (by omega) (by rw [lots_eq]; omega) hk (by omega) hP
  refine ⟨k', xs', ?_, e2, e3, by omega⟩
  have e0 : ((0 : Nat) : Int) = 0 := rfl
  rw [hF xs k _ e1]
  dsimp only
  rw [if_pos (by rw [e2]; simp)]

theorem mark_more {row : List Int} {k : Int} (h3 : row.length ≤ 1048576) (h0 : 0 ≤ k) (hk : k ≤ 1152921504616846976) :
    ∃ k' : Int, ∃ row' : List Int, F_laws_markInt64S (row, k, ()) = some ((k', ()), (row', ())) ∧ row'.length = row.length ∧ k ≤ k' ∧ k' ≤ k + 1048576 :=
  ⟨_, _, mark_eq row k h3 ⟨h0, by omega⟩, seqFrom_len .., Int.le_add_of_nonneg_right nat0, Int.add_le_add_left (by omega) k⟩

theorem wrap1 {k : Int} (h0 : 0 ≤ k) (h1 : k ≤ 1152921504616846976) : IntKind.i64.wrap (k + 1) = k + 1 := wrap64 (by omega) (by omega)

abbrev SoloD := HartD × List TwoD × List Int × Unit

/-- What is not right with an entry of a list of pages. -/
def pageF (top : Int) (p : TwoD) : Option Int := if inB p.1 (-1) (top - 1) = true then (if inB p.2.1 0 7 = true then (if p.1 = -1 then nz (if p.2.1 = 0 then 0 else 1) else none) else some 3) else some 3

def pagesM (l : List TwoD) (top : Int) : Int := if inB top 1 24 = true then (if l.length = 8 then (match scan (fun (_ : Nat) p => pageF top p) 0 l with | some c => c | none => 0) else 1) else 3

theorem specPagesF_eq (l : List TwoD) (top : Int) (hl : l.length ≤ 1048576) : F_spec_PagesFault (l, top, ()) = some ((pagesM l top, ()), ()) := by
  unfold F_spec_PagesFault pagesM
  dsimp only
  rw [l1In_eq2, Option.bind_some]
  dsimp only
  by_cases ht : inB top 1 24 = true
  case neg => rw [if_pos (by simpa using ht), if_neg ht]
  rw [if_neg (by simpa using ht), if_pos ht]
  by_cases h8 : l.length = 8
  case neg => rw [if_pos (by simp; omega), if_neg h8]
  rw [if_neg (by rw [h8]; decide), if_pos h8]
  have hb := inB_t.1 ht
  have key := scan_loop (step := l_spec_PagesFault_6) (γ := denO o_spec_PagesFault_6) (fun i => ((l, top, ((i : Nat) : Int), ()), (), ())) l (fun (_ : Nat) p => pageF top p) (fun c => some (.inr (.inl ((c, ()), (), ())))) (some (.inl ((), (), ()))) (leMax hl) ?_ ?_
  · have e0 : ((0 : Nat) : Int) = 0 := rfl
    rw [e0] at key
    show (iterF l_spec_PagesFault_6 lots ((l, top, 0, ()), (), ())).bind _ = _
    rw [key]
    cases scan (fun (_ : Nat) p => pageF top p) 0 l <;> rfl
  · intro rec i hi
    unfold l_spec_PagesFault_6
    dsimp only
    rw [if_pos (lt_t hi), if_pos nat0, at_get hi, wrap64 (n := top - 1) (by omega) (by omega), l1In_eq2, Option.bind_some, if_pos nat0, at_get hi, l1In_eq2, Option.bind_some, if_pos nat0, at_get hi, if_pos nat0, at_get hi, wrapS (lt1 hi hl)]
    dsimp only
    unfold pageF
    by_cases c1 : inB (l[i]).1 (-1) (top - 1) = true
    · have g1 := inB_t.1 c1
      rw [if_pos (show (!inB (l[i]).1 (-1) (top - 1)) = false by rw [c1]; rfl), if_pos c1]
      by_cases c2 : inB (l[i]).2.1 0 7 = true
      · rw [if_neg (by simpa using c2), if_pos c2]
        by_cases c3 : (l[i]).1 = -1
        · rw [if_pos (ltI_t.2 (by omega)), if_pos c3]
          by_cases c4 : (l[i]).2.1 = 0
          · rw [if_neg (by simpa using c4), if_pos c4]; rfl
          · rw [if_pos (by simpa using c4), if_neg c4]; rfl
        · rw [if_neg (by rw [ltI_t]; omega), if_neg c3]
      · rw [if_pos (by simpa using c2), if_neg c2]
    · rw [if_neg (by simpa using c1), if_neg c1]
  · intro rec
    unfold l_spec_PagesFault_6
    dsimp only
    rw [if_neg lt_same]

theorem implPagesF_eq (l : List TwoD) (top : Int) (hl : l.length ≤ 1048576) : F_impl_PagesFault (l, top, ()) = some ((pagesM l top, ()), ()) := by
  unfold F_impl_PagesFault pagesM
  dsimp only
  rw [within_eq2, Option.bind_some]
  dsimp only
  by_cases ht : inB top 1 24 = true
  case neg => rw [if_pos (by simpa using ht), if_neg ht]
  rw [if_neg (by simpa using ht), if_pos ht]
  by_cases h8 : l.length = 8
  case neg => rw [if_pos (by simp; omega), if_neg h8]
  rw [if_neg (by rw [h8]; decide), if_pos h8]
  have hb := inB_t.1 ht
  have key := scan_loop (step := l_impl_PagesFault_6) (γ := denO o_impl_PagesFault_6) (fun i => ((top, l, ((l.length : Nat) : Int), ((i : Nat) : Int), ()), (), ())) l (fun (_ : Nat) p => pageF top p) (fun c => some (.inr (.inl ((c, ()), (), ())))) (some (.inl ((), (), ()))) (leMax hl) ?_ ?_
  · have e0 : ((0 : Nat) : Int) = 0 := rfl
    rw [e0] at key
    show (iterF l_impl_PagesFault_6 lots ((top, l, ((l.length : Nat) : Int), 0, ()), (), ())).bind _ = _
    rw [key]
    cases scan (fun (_ : Nat) p => pageF top p) 0 l <;> rfl
  · intro rec i hi
    unfold l_impl_PagesFault_6
    dsimp only
    rw [if_pos (lt_t hi), if_pos nat0, at_get hi, wrap64 (n := top - 1) (by omega) (by omega), within_eq2, Option.bind_some, within_eq2, Option.bind_some, wrapS (lt1 hi hl)]
    dsimp only
    unfold pageF
    by_cases c1 : inB (l[i]).1 (-1) (top - 1) = true
    · have g1 := inB_t.1 c1
      rw [if_pos (show (!inB (l[i]).1 (-1) (top - 1)) = false by rw [c1]; rfl), if_pos c1]
      by_cases c2 : inB (l[i]).2.1 0 7 = true
      · rw [if_neg (by simpa using c2), if_pos c2]
        by_cases c3 : (l[i]).1 = -1
        · rw [if_pos (by simpa using c3), if_pos c3]
          by_cases c4 : (l[i]).2.1 = 0
          · rw [if_neg (by simpa using c4), if_pos c4]; rfl
          · rw [if_pos (by simpa using c4), if_neg c4]; rfl
        · rw [if_neg (by simpa using c3), if_neg c3]
      · rw [if_pos (by simpa using c2), if_neg c2]
    · rw [if_neg (by simpa using c1), if_neg c1]
  · intro rec
    unfold l_impl_PagesFault_6
    dsimp only
    rw [if_neg lt_same]

def soloLe (n : Nat) (x : SoloD) : Prop := hartLe n x.1 ∧ x.2.1.length ≤ n ∧ x.2.2.1.length ≤ n

def soloM (x : SoloD) : Int := if hartM x.1 ≠ 0 then hartM x.1 else if pagesM x.2.1 8 ≠ 0 then pagesM x.2.1 8 else if memFault x.2.2.1 = 0 ∧ x.2.2.1.length = 64 then 0 else 1

theorem soloTail {m : List Int} : (if (memFault m != 0) = false then (if (((m.length : Nat) : Int) != 64) = true then some ((((1 : Int), ()), ()) : (Int × Unit) × Unit) else some (((0 : Int), ()), ())) else some (((1 : Int), ()), ())) = some ((if memFault m = 0 ∧ m.length = 64 then 0 else 1, ()), ()) := by
  by_cases g2 : memFault m = 0
  · by_cases g3 : m.length = 64
    · simp [g2, g3]
    · have : ¬ ((m.length : Nat) : Int) = 64 := by omega
      simp [g2, g3, this]
  · simp [g2]

theorem specSolo_eq (x : SoloD) (h : soloLe 1048576 x) : F_spec_SoloFault (x, ()) = some ((soloM x, ()), ()) := by
  obtain ⟨h1, h2, h3⟩ := h
  unfold F_spec_SoloFault soloM
  dsimp only
  rw [specHart_eq _ h1, Option.bind_some]
  dsimp only
  by_cases g0 : hartM x.1 = 0
  case neg => rw [if_pos (c := (hartM x.1 != 0) = true) (by simpa using g0), if_pos (c := hartM x.1 ≠ 0) g0]
  rw [if_neg (c := (hartM x.1 != 0) = true) (by simpa using g0), if_neg (c := hartM x.1 ≠ 0) (by simpa using g0), specPagesF_eq _ _ h2, Option.bind_some]
  dsimp only
  by_cases g1 : pagesM x.2.1 8 = 0
  case neg => rw [if_pos (c := (pagesM x.2.1 8 != 0) = true) (by simpa using g1), if_pos (c := pagesM x.2.1 8 ≠ 0) g1]
  rw [if_neg (c := (pagesM x.2.1 8 != 0) = true) (by simpa using g1), if_neg (c := pagesM x.2.1 8 ≠ 0) (by simpa using g1), specFault_eq _ (leM h3), Option.bind_some]
  exact soloTail

theorem implSolo_eq (x : SoloD) (h : soloLe 1048576 x) : F_impl_SoloFault (x, ()) = some ((soloM x, ()), ()) := by
  obtain ⟨h1, h2, h3⟩ := h
  unfold F_impl_SoloFault soloM
  dsimp only
  rw [implHart_eq _ h1, Option.bind_some, implPagesF_eq _ _ h2, Option.bind_some, firstOf_eq, Option.bind_some]
  dsimp only
  by_cases g0 : hartM x.1 = 0
  case neg =>
    have e1 : (if hartM x.1 ≠ 0 then hartM x.1 else pagesM x.2.1 8) = hartM x.1 := if_pos g0
    rw [e1, if_pos (c := (hartM x.1 != 0) = true) (by simpa using g0), if_pos (c := hartM x.1 ≠ 0) g0]
  have e1 : (if hartM x.1 ≠ 0 then hartM x.1 else pagesM x.2.1 8) = pagesM x.2.1 8 := if_neg (by simpa using g0)
  rw [e1, if_neg (c := hartM x.1 ≠ 0) (by simpa using g0)]
  by_cases g1 : pagesM x.2.1 8 = 0
  case neg => rw [if_pos (c := (pagesM x.2.1 8 != 0) = true) (by simpa using g1), if_pos (c := pagesM x.2.1 8 ≠ 0) g1]
  rw [if_neg (c := (pagesM x.2.1 8 != 0) = true) (by simpa using g1), if_neg (c := pagesM x.2.1 8 ≠ 0) (by simpa using g1), implFault_eq _ (leM h3), Option.bind_some]
  exact soloTail

theorem solo_ok {x : SoloD} (h : soloM x = 0) : hartM x.1 = 0 ∧ pagesM x.2.1 8 = 0 ∧ memFault x.2.2.1 = 0 ∧ x.2.2.1.length = 64 := by
  unfold soloM at h
  split at h
  · rename_i g; exact absurd h g
  · rename_i g0
    split at h
    · rename_i g; exact absurd h g
    · rename_i g1
      split at h
      · rename_i g2; exact ⟨by simpa using g0, by simpa using g1, g2⟩
      · cases h

theorem szPages_eq (m : List TwoD) (n : Int) (h0 : 0 ≤ n) (h1 : n ≤ 1048576) (h2 : m.length ≤ maxLen) : ∃ r : Int, F_laws_szPageS (m, n, ()) = some ((r, ()), ()) ∧ (r < 0 ∨ (0 ≤ r ∧ r ≤ n ∧ m.length ≤ 1048576)) :=
  sz1_thm (F := F_laws_szPageS) (fun _ _ => rfl) m h2 n h0 h1

theorem szSolo_eq (v : SoloD) (n : Int) (h0 : 0 ≤ n) (h1 : n ≤ 1048576) (h2 : soloLe maxLen v) : ∃ r : Int, F_laws_szSolo (v, n, ()) = some ((r, ()), ()) ∧ (r < 0 ∨ (0 ≤ r ∧ r ≤ n ∧ soloLe 1048576 v)) := by
  obtain ⟨a1, a2, a3⟩ := h2
  unfold F_laws_szSolo
  simp only [ltI_eq, decide_eq_true_eq]
  obtain ⟨r1, e1, c1⟩ := szHart_eq v.1 n h0 h1 a1
  rw [e1, Option.bind_some]
  by_cases d1 : r1 < 0
  · exact ⟨-1, by rw [if_pos d1], .inl (by omega)⟩
  rw [if_neg d1]
  have c1 := c1.resolve_left d1
  obtain ⟨r2, e2, c2⟩ := szPages_eq v.2.1 r1 (by omega) (by omega) a2
  rw [e2, Option.bind_some]
  by_cases d2 : r2 < 0
  · exact ⟨-1, by rw [if_pos d2], .inl (by omega)⟩
  rw [if_neg d2]
  have c2 := c2.resolve_left d2
  obtain ⟨r3, e3, c3⟩ := szInt_eq v.2.2.1 r2 (by omega) (by omega) a3
  rw [e3, Option.bind_some]
  by_cases d3 : r3 < 0
  · exact ⟨-1, by rw [if_pos d3], .inl (by omega)⟩
  rw [if_neg d3]
  have c3 := c3.resolve_left d3
  exact ⟨r3, rfl, .inr ⟨by omega, by omega, c1.2.2, c2.2.2, c3.2.2⟩⟩

theorem toPages_eq (m : List TwoD) (h : m.length ≤ 1048576) : F_laws_toPageS (m, ()) = some ((m, ()), ()) :=
  toS_thm (by_ := 16) (F := F_laws_toPageS) (step := l_laws_toPageS_3) (f := fun y => F_laws_toPage (y, ())) (g := fun r => r.1.1) (fun _ => rfl) (fun _ => rfl) (fun _ _ _ _ => rfl) (by omega) m h fun y hy => ⟨_, rfl, rfl⟩

theorem toSolo_eq (x : SoloD) (h : soloLe 1048576 x) : F_laws_toSolo (x, ()) = some (((x.1.1, x.1.2.1, x.1.2.2.1, x.1.2.2.2.1, x.1.2.2.2.2.1, x.1.2.2.2.2.2.1, x.1.2.2.2.2.2.2.1, x.1.2.2.2.2.2.2.2.1, x.1.2.2.2.2.2.2.2.2.1, x.2.1, x.2.2.1, ()), ()), ()) := by
  obtain ⟨h1, h2, h3⟩ := h
  unfold F_laws_toSolo
  rw [toHart_eq _ h1, Option.bind_some, toPages_eq _ h2, Option.bind_some, toInt64S_eq _ (le8 h3), Option.bind_some]

theorem eqPage1 (y : TwoD) : F_laws_eqPage (y, y, ()) = some ((true, ()), ()) := by
  unfold F_laws_eqPage; simp

theorem eqPages_eq (m : List TwoD) (h : m.length ≤ 1048576) : F_laws_eqPageS (m, m, ()) = some ((true, ()), ()) :=
  eqS_thm (F := F_laws_eqPageS) (step := l_laws_eqPageS_4) (f := fun y y' => F_laws_eqPage (y, y', ())) (fun _ => rfl) (fun _ => rfl) (fun _ _ _ _ => rfl) m (leMax h) fun y hy => eqPage1 y

theorem eqSolo_eq (x : SoloD) (h : soloLe 1048576 x) : F_laws_eqSolo (x, x, ()) = some ((true, ()), ()) := by
  obtain ⟨h1, h2, h3⟩ := h
  unfold F_laws_eqSolo
  rw [eqHart_eq _ h1, Option.bind_some, if_neg (by simp), eqPages_eq _ h2, Option.bind_some, if_neg (by simp), eqInt64S_eq _ (leM h3), Option.bind_some, if_neg (by simp)]

theorem markPages_ok (xs : List TwoD) (k : Int) (hl : xs.length ≤ 1048576) (hk : 0 ≤ k) (hk2 : k ≤ 576460752303423488) :
    ∃ k' : Int, ∃ xs', F_laws_markPageS (xs, k, ()) = some ((k', ()), (xs', ())) ∧ xs'.length = xs.length ∧ k ≤ k' ∧ k' ≤ k + 8796093022208 := by
  refine markS_thm (F := F_laws_markPageS) (step := l_laws_markPageS_2) (fun xs k z h => by unfold F_laws_markPageS L_laws_markPageS_2; dsimp only; rw [h]; rfl) (fun xs => xs.length ≤ 1048576) 5 ?_ ?_ xs k hl (by omega) hl hk hk2
  · rintro rec xs i k hi h0 hk hP
    have w1 : IntKind.i64.wrap (k + 1) = k + 1 := wrap1 h0 (by omega)
    have w2 : IntKind.i64.wrap (k + 1 + 1) = k + 1 + 1 := wrap1 (by omega) (by omega)
    have wi : IntKind.i64.wrap ((i : Int) + 1) = ((i + 1 : Nat) : Int) := wrapS (by omega)
    have c : ((i : Nat) : Int) < ((xs.length : Nat) : Int) := Int.ofNat_lt.2 hi
    have c0 : (0 : Int) ≤ ((i : Nat) : Int) := nat0
    refine ⟨k + 1 + 1, xs.set i (k, k + 1, ()), ?_, by simp, by omega, by omega, by simpa using hP⟩
    unfold l_laws_markPageS_2
    dsimp only
    rw [if_pos (lt_t hi)]
    simp only [List.length_set, c, c0, and_self, if_true, Int.toNat_natCast, List.getElem?_eq_getElem hi, Option.bind_some, w1, w2, wi, List.getElem?_set_self', Option.map_eq_map, Option.map_some, Function.const_apply, List.set_set]
  · intro rec xs k
    unfold l_laws_markPageS_2
    dsimp only
    rw [if_neg lt_same]

theorem markHart_ok (h : HartD) (k : Int) (hh : hartLe 1048576 h) (hk : 0 ≤ k) (hk2 : k ≤ 576460752303423488) :
    ∃ k' : Int, ∃ x', F_laws_markHart ((h.1, h.2.1, h.2.2.1, h.2.2.2.1, h.2.2.2.2.1, h.2.2.2.2.2.1, h.2.2.2.2.2.2.1, h.2.2.2.2.2.2.2.1, h.2.2.2.2.2.2.2.2.1, ()), k, ()) = some ((k', ()), (x', ())) ∧
      (x'.1.length = h.1.length ∧ x'.2.1.length = h.2.2.1.length ∧ x'.2.2.1.length = h.2.2.2.2.2.2.2.1.length ∧ x'.2.2.2.1.length = h.2.2.2.2.2.2.2.2.1.length) ∧ k ≤ k' ∧ k' ≤ k + 4194304 := by
  obtain ⟨h1, h2, h3, h4⟩ := hh
  obtain ⟨k1, r1, e1, l1, g1, g1'⟩ := mark_more (row := h.1) (k := k) h1 (by omega) (by omega)
  obtain ⟨k2, r2, e2, l2, g2, g2'⟩ := mark_more (row := h.2.2.1) (k := k1) h2 (by omega) (by omega)
  obtain ⟨k3, r3, e3, l3, g3, g3'⟩ := mark_more (row := h.2.2.2.2.2.2.2.1) (k := k2) h3 (by omega) (by omega)
  obtain ⟨k4, r4, e4, l4, g4, g4'⟩ := mark_more (row := h.2.2.2.2.2.2.2.2.1) (k := k3) h4 (by omega) (by omega)
  refine ⟨k4, (r1, r2, r3, r4, ()), ?_, ⟨l1, l2, l3, l4⟩, by omega, by omega⟩
  unfold F_laws_markHart
  dsimp only
  rw [e1, Option.bind_some]
  dsimp only
  rw [if_pos (by rw [l1]; simp), e2, Option.bind_some]
  dsimp only
  rw [if_pos (by rw [l2]; simp), e3, Option.bind_some]
  dsimp only
  rw [if_pos (by rw [l3]; simp), e4, Option.bind_some]
  dsimp only
  rw [if_pos (by rw [l4]; simp), if_pos (by rw [l1, l2, l3, l4]; simp)]

theorem markSolo_ok (x : SoloD) (k : Int) (hx : soloLe 1048576 x) (hk : 0 ≤ k) (hk2 : k ≤ 288230376151711744) :
    ∃ k' : Int, ∃ x', F_laws_markSolo ((x.1.1, x.1.2.1, x.1.2.2.1, x.1.2.2.2.1, x.1.2.2.2.2.1, x.1.2.2.2.2.2.1, x.1.2.2.2.2.2.2.1, x.1.2.2.2.2.2.2.2.1, x.1.2.2.2.2.2.2.2.2.1, x.2.1, x.2.2.1, ()), k, ()) = some ((k', ()), (x', ())) ∧
      (x'.1.length = x.1.1.length ∧ x'.2.1.length = x.1.2.2.1.length ∧ x'.2.2.1.length = x.1.2.2.2.2.2.2.2.1.length ∧ x'.2.2.2.1.length = x.1.2.2.2.2.2.2.2.2.1.length ∧ x'.2.2.2.2.1.length = x.2.1.length ∧ x'.2.2.2.2.2.1.length = x.2.2.1.length) ∧ k ≤ k' ∧ k' ≤ k + 17592186044416 := by
  obtain ⟨h1, h2, h3⟩ := hx
  obtain ⟨k1, x1, e1, ⟨l1, l2, l3, l4⟩, g1, g1'⟩ := markHart_ok x.1 k h1 hk (by omega)
  obtain ⟨k2, x2, e2, l5, g2, g2'⟩ := markPages_ok x.2.1 k1 h2 (by omega) (by omega)
  obtain ⟨k3, x3, e3, l6, g3, g3'⟩ := mark_more (row := x.2.2.1) (k := k2) h3 (by omega) (by omega)
  refine ⟨k3, (x1.1, x1.2.1, x1.2.2.1, x1.2.2.2.1, x2, x3, ()), ?_, ⟨l1, l2, l3, l4, l5, l6⟩, by omega, by omega⟩
  unfold F_laws_markSolo
  dsimp only
  rw [e1, Option.bind_some]
  dsimp only
  rw [if_pos (by rw [l1, l2, l3, l4]; simp), e2, Option.bind_some]
  dsimp only
  rw [if_pos (by rw [l5]; simp), e3, Option.bind_some]
  dsimp only
  rw [if_pos (by rw [l6]; simp), if_pos (by rw [l1, l2, l3, l4, l5, l6]; simp)]

/-- A word. -/
def WW (n : Int) : Prop := 0 ≤ n ∧ n ≤ 4294967295

theorem mask32 (n : Int) : iand .i64 n 4294967295 = n % 4294967296 := by
  have h1 : (BitVec.ofInt 64 4294967295).toNat = 2 ^ 32 - 1 := by decide
  have key : (BitVec.ofInt 64 n &&& BitVec.ofInt 64 4294967295).toNat = (n % ((2 ^ 64 : Nat) : Int)).toNat % 2 ^ 32 := by
    rw [BitVec.toNat_and, BitVec.toNat_ofInt, h1, Nat.and_two_pow_sub_one_eq_mod]
  show IntKind.i64.wrap ((BitVec.ofInt 64 n &&& BitVec.ofInt 64 4294967295).toNat : Nat) = _
  rw [key, IntKind.wrap_i64]
  omega

theorem mask16 (n : Int) : iand .i64 n 65535 = n % 65536 := by
  have h1 : (BitVec.ofInt 64 65535).toNat = 2 ^ 16 - 1 := by decide
  have key : (BitVec.ofInt 64 n &&& BitVec.ofInt 64 65535).toNat = (n % ((2 ^ 64 : Nat) : Int)).toNat % 2 ^ 16 := by
    rw [BitVec.toNat_and, BitVec.toNat_ofInt, h1, Nat.and_two_pow_sub_one_eq_mod]
  show IntKind.i64.wrap ((BitVec.ofInt 64 n &&& BitVec.ofInt 64 65535).toNat : Nat) = _
  rw [key, IntKind.wrap_i64]
  omega

theorem mask4 (n : Int) : iand .i64 n 15 = n % 16 := by
  have h1 : (BitVec.ofInt 64 15).toNat = 2 ^ 4 - 1 := by decide
  have key : (BitVec.ofInt 64 n &&& BitVec.ofInt 64 15).toNat = (n % ((2 ^ 64 : Nat) : Int)).toNat % 2 ^ 4 := by
    rw [BitVec.toNat_and, BitVec.toNat_ofInt, h1, Nat.and_two_pow_sub_one_eq_mod]
  show IntKind.i64.wrap ((BitVec.ofInt 64 n &&& BitVec.ofInt 64 15).toNat : Nat) = _
  rw [key, IntKind.wrap_i64]
  omega

def wd (n : Int) : Int := n % 4294967296

theorem wd_word (n : Int) : WW (wd n) := by unfold wd WW; omega

theorem wd_same {n : Int} (h : WW n) : wd n = n := by unfold wd WW at *; omega

theorem wd_wd (n : Int) : wd (wd n) = wd n := wd_same (wd_word n)

theorem u32_wd (n : Int) : IntKind.u32.wrap n = wd n := by rw [IntKind.wrap_u32]; rfl

theorem i64_wd (n : Int) : IntKind.i64.wrap (wd n) = wd n := by rw [IntKind.wrap_i64]; unfold wd; omega

theorem i64_same {n : Int} (h0 : -9223372036854775808 ≤ n) (h1 : n ≤ 9223372036854775807) : IntKind.i64.wrap n = n := wrap64 h0 h1

theorem specWrap_e (n : Int) : F_spec_WrapWord (n, ()) = some ((wd n, ()), ()) := by
  unfold F_spec_WrapWord; simp only [u32_wd, i64_wd]

theorem specWrap_eq (x) : F_spec_WrapWord x = some ((wd x.1, ()), ()) := specWrap_e x.1

theorem implWrap_e (n : Int) : F_impl_WrapWord (n, ()) = some ((wd n, ()), ()) := by
  unfold F_impl_WrapWord; simp only [mask32]; rfl

theorem implWrap_eq (x) : F_impl_WrapWord x = some ((wd x.1, ()), ()) := implWrap_e x.1

def sg (n : Int) : Int := if wd n < 2147483648 then wd n else wd n - 4294967296

theorem specSigned_e (n : Int) : F_spec_SignedOf (n, ()) = some ((sg n, ()), ()) := by
  unfold F_spec_SignedOf sg
  simp only [u32_wd]
  have h := wd_word n
  generalize wd n = w at *
  unfold WW at h
  have e : IntKind.i64.wrap (IntKind.i32.wrap w) = if w < 2147483648 then w else w - 4294967296 := by
    rw [IntKind.wrap_i64, IntKind.wrap_i32]
    split <;> omega
  rw [e]

theorem specSigned_eq (x) : F_spec_SignedOf x = some ((sg x.1, ()), ()) := specSigned_e x.1

theorem implSigned_e (n : Int) : F_impl_SignedOf (n, ()) = some ((sg n, ()), ()) := by
  unfold F_impl_SignedOf sg
  simp only [implWrap_eq, Option.bind_some]
  have h := wd_word n
  generalize wd n = w at *
  unfold WW at h
  by_cases hw : w < 2147483648
  · rw [if_pos (ltI_t.2 hw), if_pos hw]
  · rw [if_neg (by rw [ltI_t]; exact hw), if_neg hw, i64_same (n := w - 4294967295) (by omega) (by omega), i64_same (n := w - 4294967295 - 1) (by omega) (by omega), show w - 4294967295 - 1 = w - 4294967296 by omega]

theorem implSigned_eq (x) : F_impl_SignedOf x = some ((sg x.1, ()), ()) := implSigned_e x.1

theorem sg_le (n : Int) : -2147483648 ≤ sg n ∧ sg n ≤ 2147483647 := by
  unfold sg; have := wd_word n; unfold WW at this; split <;> omega

theorem sg_zero (n : Int) : sg n = 0 ↔ wd n = 0 := by
  unfold sg; have := wd_word n; unfold WW at this; split <;> omega

def addW (a b : Int) : Int := wd (a + b)

theorem specAdd_e (a b : Int) : F_spec_AddWords (a, b, ()) = some ((addW a b, ()), ()) := by
  unfold F_spec_AddWords addW
  simp only [u32_wd, i64_wd, show wd (wd a + wd b) = wd (a + b) by unfold wd; omega]

theorem specAdd_eq (x) : F_spec_AddWords x = some ((addW x.1 x.2.1, ()), ()) := specAdd_e x.1 x.2.1

theorem implAdd_e (a b : Int) : F_impl_AddWords (a, b, ()) = some ((addW a b, ()), ()) := by
  unfold F_impl_AddWords addW
  simp only [implWrap_eq, Option.bind_some]
  have ha := wd_word a; have hb := wd_word b
  unfold WW at ha hb
  rw [i64_same (by omega) (by omega), show wd (wd a + wd b) = wd (a + b) by unfold wd; omega]

theorem implAdd_eq (x) : F_impl_AddWords x = some ((addW x.1 x.2.1, ()), ()) := implAdd_e x.1 x.2.1

theorem addW_word (a b : Int) : WW (addW a b) := wd_word _

theorem wrap_i16 (n : Int) : IntKind.i16.wrap n = (n + 32768) % 65536 - 32768 := by
  simp only [IntKind.wrap, IntKind.bits, IntKind.signed, Bool.true_and, ge_iff_le, decide_eq_true_eq, Int.reducePow, Nat.reduceSub]
  split <;> omega

def off (n : Int) : Int := if 32768 ≤ n % 65536 then n % 65536 - 65536 else n % 65536

theorem specOff_e (n : Int) : F_spec_OffsetOf (n, ()) = some ((off n, ()), ()) := by
  unfold F_spec_OffsetOf off
  have e : IntKind.i64.wrap (IntKind.i16.wrap (IntKind.u16.wrap n)) = if 32768 ≤ n % 65536 then n % 65536 - 65536 else n % 65536 := by
    rw [IntKind.wrap_i64, wrap_i16, IntKind.wrap_u16]
    split <;> omega
  simp only [e]

theorem implOff_e (n : Int) : F_impl_OffsetOf (n, ()) = some ((off n, ()), ()) := by
  unfold F_impl_OffsetOf off
  simp only [mask16]
  by_cases h : 32768 ≤ n % 65536
  · rw [if_pos (leI_t.2 h), if_pos h, i64_same (by omega) (by omega)]
  · rw [if_neg (by rw [leI_t]; exact h), if_neg h]

def mulW (a b : Int) : Int := wd (wd a * wd b)

theorem specMul_e (a b : Int) : F_spec_MulWords (a, b, ()) = some ((mulW a b, ()), ()) := by
  unfold F_spec_MulWords mulW; simp only [u32_wd, i64_wd]

theorem specMul_eq (x) : F_spec_MulWords x = some ((mulW x.1 x.2.1, ()), ()) := specMul_e x.1 x.2.1

theorem implMul_e (a b : Int) : F_impl_MulWords (a, b, ()) = some ((mulW a b, ()), ()) := by
  unfold F_impl_MulWords mulW; simp only [u32_wd, i64_wd]

theorem implMul_eq (x) : F_impl_MulWords x = some ((mulW x.1 x.2.1, ()), ()) := implMul_e x.1 x.2.1

theorem tdiv_le (a b : Int) (h : -2147483648 ≤ a ∧ a ≤ 2147483647) : -2147483648 ≤ a.tdiv b ∧ a.tdiv b ≤ 2147483648 := by
  have h1 : (a.tdiv b).natAbs = a.natAbs / b.natAbs := Int.natAbs_tdiv a b
  have h2 : a.natAbs / b.natAbs ≤ a.natAbs := Nat.div_le_self _ _
  omega

def divW (a b : Int) : Int := if wd b = 0 then 4294967295 else wd ((sg a).tdiv (sg b))

theorem specDiv_e (a b : Int) : F_spec_DivWords (a, b, ()) = some ((divW a b, ()), ()) := by
  unfold F_spec_DivWords divW
  simp only [specWrap_eq, specSigned_eq, Option.bind_some]
  by_cases h : wd b = 0
  · rw [if_pos (by simpa using h), if_pos h]
  · have hs : ¬ sg b = 0 := fun e => h ((sg_zero b).1 e)
    have := tdiv_le (sg a) (sg b) (sg_le a)
    rw [if_neg (by simpa using h), if_neg h, if_neg hs, i64_same (by omega) (by omega)]

theorem specDiv_eq (x) : F_spec_DivWords x = some ((divW x.1 x.2.1, ()), ()) := specDiv_e x.1 x.2.1

theorem implDiv_e (a b : Int) : F_impl_DivWords (a, b, ()) = some ((divW a b, ()), ()) := by
  unfold F_impl_DivWords divW
  simp only [implWrap_eq, implSigned_eq, Option.bind_some]
  by_cases h : wd b = 0
  · rw [if_pos (by simpa using (sg_zero b).2 h), if_pos h]
  · have hs : ¬ sg b = 0 := fun e => h ((sg_zero b).1 e)
    have := tdiv_le (sg a) (sg b) (sg_le a)
    rw [if_neg (by simpa using hs), if_neg h, if_neg hs, i64_same (by omega) (by omega)]

theorem implDiv_eq (x) : F_impl_DivWords x = some ((divW x.1 x.2.1, ()), ()) := implDiv_e x.1 x.2.1

def remW (a b : Int) : Int := if wd b = 0 then wd a else wd ((sg a).tmod (sg b))

theorem specRem_e (a b : Int) : F_spec_RemWords (a, b, ()) = some ((remW a b, ()), ()) := by
  unfold F_spec_RemWords remW
  simp only [specWrap_eq, specSigned_eq, Option.bind_some]
  by_cases h : wd b = 0
  · rw [if_pos (by simpa using h), if_pos h]
  · have hs : ¬ sg b = 0 := fun e => h ((sg_zero b).1 e)
    rw [if_neg (by simpa using h), if_neg h, if_neg hs]

theorem specRem_eq (x) : F_spec_RemWords x = some ((remW x.1 x.2.1, ()), ()) := specRem_e x.1 x.2.1

theorem implRem_e (a b : Int) : F_impl_RemWords (a, b, ()) = some ((remW a b, ()), ()) := by
  unfold F_impl_RemWords remW
  simp only [implWrap_eq, implSigned_eq, Option.bind_some]
  by_cases h : wd b = 0
  · rw [if_pos (by simpa using (sg_zero b).2 h), if_pos h]
  · have hs : ¬ sg b = 0 := fun e => h ((sg_zero b).1 e)
    rw [if_neg (by simpa using hs), if_neg h, if_neg hs]

theorem implRem_eq (x) : F_impl_RemWords x = some ((remW x.1 x.2.1, ()), ()) := implRem_e x.1 x.2.1

theorem wd_nat (n : Int) : ∃ k : Nat, wd n = (k : Int) ∧ k < 4294967296 := ⟨(wd n).toNat, by have := wd_word n; unfold WW at this; omega, by have := wd_word n; unfold WW at this; omega⟩

theorem ofInt32 {k : Nat} (h : k < 4294967296) : (BitVec.ofInt 32 (k : Int)).toNat = k := by
  rw [BitVec.ofInt_natCast, BitVec.toNat_ofNat]; exact Nat.mod_eq_of_lt (by omega)

theorem ofInt64 {k : Nat} (h : k < 4294967296) : (BitVec.ofInt 64 (k : Int)).toNat = k := by
  rw [BitVec.ofInt_natCast, BitVec.toNat_ofNat]; exact Nat.mod_eq_of_lt (by omega)

/-- The bits of two words. -/
def bitN (op : Int) (a b : Nat) : Nat := if op = 1 then a &&& b else if op = 2 then a ||| b else a ^^^ b

def bitW (op a b : Int) : Int := (bitN op (wd a).toNat (wd b).toNat : Int)

theorem bitN_lt (op : Int) {a b : Nat} (ha : a < 4294967296) (hb : b < 4294967296) : bitN op a b < 4294967296 := by
  unfold bitN
  split
  · exact Nat.and_lt_two_pow (n := 32) _ (by omega)
  · split
    · exact Nat.or_lt_two_pow (n := 32) (by omega) (by omega)
    · exact Nat.xor_lt_two_pow (n := 32) (by omega) (by omega)

theorem bitW_word (op a b : Int) : WW (bitW op a b) := by
  obtain ⟨x, hx, hx2⟩ := wd_nat a
  obtain ⟨y, hy, hy2⟩ := wd_nat b
  unfold bitW WW
  rw [hx, hy]
  have := bitN_lt op hx2 hy2
  simp only [Int.toNat_natCast]
  omega

theorem specBit_e (op a b : Int) (h : op = 1 ∨ op = 2 ∨ op = 3) : F_spec_BitWords (op, a, b, ()) = some (((0, bitW op a b, ()), ()), ()) := by
  unfold F_spec_BitWords bitW
  simp only [u32_wd]
  obtain ⟨x, hx, hx2⟩ := wd_nat a
  obtain ⟨y, hy, hy2⟩ := wd_nat b
  rw [hx, hy]
  simp only [Int.toNat_natCast]
  have hlt := bitN_lt op hx2 hy2
  rcases h with rfl | rfl | rfl
  · rw [if_pos (by decide)]
    show some (((0, IntKind.i64.wrap (IntKind.u32.wrap ((BitVec.ofInt 32 (x : Int) &&& BitVec.ofInt 32 (y : Int)).toNat : Int)), ()), ()), ()) = _
    have : bitN 1 x y = x &&& y := rfl
    rw [BitVec.toNat_and, ofInt32 hx2, ofInt32 hy2, ← this, u32_wd, i64_wd, wd_same (by unfold WW; omega)]
  · rw [if_neg (by decide), if_pos (by decide)]
    show some (((0, IntKind.i64.wrap (IntKind.u32.wrap ((BitVec.ofInt 32 (x : Int) ||| BitVec.ofInt 32 (y : Int)).toNat : Int)), ()), ()), ()) = _
    have : bitN 2 x y = x ||| y := rfl
    rw [BitVec.toNat_or, ofInt32 hx2, ofInt32 hy2, ← this, u32_wd, i64_wd, wd_same (by unfold WW; omega)]
  · rw [if_neg (by decide), if_neg (by decide), if_pos (by decide)]
    show some (((0, IntKind.i64.wrap (IntKind.u32.wrap ((BitVec.ofInt 32 (x : Int) ^^^ BitVec.ofInt 32 (y : Int)).toNat : Int)), ()), ()), ()) = _
    have : bitN 3 x y = x ^^^ y := rfl
    rw [BitVec.toNat_xor, ofInt32 hx2, ofInt32 hy2, ← this, u32_wd, i64_wd, wd_same (by unfold WW; omega)]

theorem implBit_e (op a b : Int) (h : op = 1 ∨ op = 2 ∨ op = 3) : F_impl_BitWords (op, a, b, ()) = some (((0, bitW op a b, ()), ()), ()) := by
  unfold F_impl_BitWords bitW
  simp only [implWrap_eq, Option.bind_some]
  obtain ⟨x, hx, hx2⟩ := wd_nat a
  obtain ⟨y, hy, hy2⟩ := wd_nat b
  rw [hx, hy]
  simp only [Int.toNat_natCast]
  have hlt := bitN_lt op hx2 hy2
  rcases h with rfl | rfl | rfl
  · rw [if_pos (by decide)]
    show some (((0, IntKind.i64.wrap ((BitVec.ofInt 64 (x : Int) &&& BitVec.ofInt 64 (y : Int)).toNat : Int), ()), ()), ()) = _
    have : bitN 1 x y = x &&& y := rfl
    rw [BitVec.toNat_and, ofInt64 hx2, ofInt64 hy2, ← this, i64_same (by omega) (by omega)]
  · rw [if_neg (by decide), if_pos (by decide)]
    show some (((0, IntKind.i64.wrap ((BitVec.ofInt 64 (x : Int) ||| BitVec.ofInt 64 (y : Int)).toNat : Int), ()), ()), ()) = _
    have : bitN 2 x y = x ||| y := rfl
    rw [BitVec.toNat_or, ofInt64 hx2, ofInt64 hy2, ← this, i64_same (by omega) (by omega)]
  · rw [if_neg (by decide), if_neg (by decide), if_pos (by decide)]
    show some (((0, IntKind.i64.wrap ((BitVec.ofInt 64 (x : Int) ^^^ BitVec.ofInt 64 (y : Int)).toNat : Int), ()), ()), ()) = _
    have : bitN 3 x y = x ^^^ y := rfl
    rw [BitVec.toNat_xor, ofInt64 hx2, ofInt64 hy2, ← this, i64_same (by omega) (by omega)]

def shW (a b : Int) (left : Bool) : Int := if left = true then wd (wd a * 2 ^ (wd b % 32).toNat) else wd a / 2 ^ (wd b % 32).toNat

theorem shr_word {a : Int} (h : WW a) (k : Nat) : WW (a / 2 ^ k) := by
  unfold WW at *
  have h2 : (0 : Int) < 2 ^ k := Int.pow_pos (by omega)
  exact ⟨Int.ediv_nonneg h.1 (by omega), Int.le_trans (Int.ediv_le_self _ h.1) h.2⟩

theorem shW_word (a b : Int) (l : Bool) : WW (shW a b l) := by
  unfold shW; split
  · exact wd_word _
  · exact shr_word (wd_word a) _

theorem pow_le32 {k : Nat} (h : k < 32) : (2 : Int) ^ k ≤ 2147483648 := by
  have : (2 : Nat) ^ k ≤ 2 ^ 31 := Nat.pow_le_pow_right (by omega) (by omega)
  have h2 : ((2 ^ k : Nat) : Int) ≤ ((2 ^ 31 : Nat) : Int) := Int.ofNat_le.2 this
  simpa using h2

theorem tmod32 {w : Int} (h : WW w) : w.tmod 32 = w % 32 := Int.tmod_eq_emod_of_nonneg h.1

theorem fdiv_pow {a : Int} (h : 0 ≤ a) (k : Nat) : a.fdiv (2 ^ k) = a / 2 ^ k := Int.fdiv_eq_ediv_of_nonneg _ (Int.le_of_lt (Int.pow_pos (by omega)))

theorem specShift_e (a b : Int) (l : Bool) : F_spec_ShiftWord (a, b, l, ()) = some ((shW a b l, ()), ()) := by
  unfold F_spec_ShiftWord shW
  simp only [u32_wd, tmod32 (wd_word b)]
  have hw := wd_word a
  have hb : 0 ≤ wd b % 32 ∧ wd b % 32 < 32 := by omega
  have e : IntKind.u64.wrap (wd b % 32) = wd b % 32 := by rw [IntKind.wrap_u64]; omega
  have e2 : min (wd b % 32).toNat 32 = (wd b % 32).toNat := by omega
  rw [e, e2]
  cases l
  · rw [if_neg (by decide), if_neg (by omega), if_neg (by decide), fdiv_pow hw.1]
    have := shr_word hw (wd b % 32).toNat
    unfold WW at this
    rw [i64_same (by omega) (by omega)]
  · rw [if_pos rfl, if_neg (by omega), if_pos rfl, i64_wd]

theorem specShift_eq (x) : F_spec_ShiftWord x = some ((shW x.1 x.2.1 x.2.2.1, ()), ()) := specShift_e x.1 x.2.1 x.2.2.1

theorem implShift_e (a b : Int) (l : Bool) : F_impl_ShiftWord (a, b, l, ()) = some ((shW a b l, ()), ()) := by
  unfold F_impl_ShiftWord shW
  simp only [implWrap_eq, Option.bind_some, tmod32 (wd_word b)]
  have hw := wd_word a
  have hb : 0 ≤ wd b % 32 ∧ wd b % 32 < 32 := by omega
  have e2 : min (wd b % 32).toNat 64 = (wd b % 32).toNat := by omega
  rw [e2]
  cases l
  · rw [if_neg (by decide), if_neg (by omega), if_neg (by decide), fdiv_pow hw.1]
  · rw [if_pos rfl, if_neg (by omega), if_pos rfl]
    have h1 := pow_le32 (k := (wd b % 32).toNat) (by omega)
    have h0 : (0 : Int) < 2 ^ (wd b % 32).toNat := Int.pow_pos (by omega)
    unfold WW at hw
    generalize (2 : Int) ^ (wd b % 32).toNat = p at *
    have q0 : 0 ≤ wd a * p := Int.mul_nonneg hw.1 (by omega)
    have q1 : wd a * p ≤ 4294967295 * 2147483648 := Int.mul_le_mul hw.2 h1 (by omega) (by omega)
    rw [i64_same (by omega) (by omega)]

theorem implShift_eq (x) : F_impl_ShiftWord x = some ((shW x.1 x.2.1 x.2.2.1, ()), ()) := implShift_e x.1 x.2.1 x.2.2.1

/-- What an op makes of two words. -/
def aluW (op a b : Int) : Int :=
  if op = 1 then addW a b else if op = 2 then wd (wd a - wd b) else if op = 3 then mulW a b else if op = 4 then divW a b else if op = 5 then remW a b
  else if op = 6 then bitW 1 a b else if op = 7 then bitW 2 a b else if op = 8 then bitW 3 a b else if op = 9 then shW a b true else if op = 10 then shW a b false
  else if sg a < sg b then 1 else 0

theorem aluW_word (op a b : Int) : WW (aluW op a b) := by
  unfold aluW
  have hd : WW (divW a b) := by unfold divW; split; unfold WW; omega; exact wd_word _
  have hr : WW (remW a b) := by unfold remW; split <;> exact wd_word _
  repeat' split
  all_goals first | exact addW_word _ _ | exact wd_word _ | exact hd | exact hr | exact bitW_word _ _ _ | exact shW_word _ _ _ | (unfold WW; omega)

theorem specAlu_e (op a b : Int) : F_spec_l2Alu (op, a, b, ()) = some ((aluW op a b, ()), ()) := by
  unfold F_spec_l2Alu aluW
  simp only [specAdd_eq, specMul_eq, specDiv_eq, specRem_eq, specShift_eq, specSigned_eq, Option.bind_some, u32_wd, i64_wd]
  by_cases h1 : op = 1
  · subst h1; rfl
  rw [if_neg (by simpa using h1), if_neg h1]
  by_cases h2 : op = 2
  · subst h2; rfl
  rw [if_neg (by simpa using h2), if_neg h2]
  by_cases h3 : op = 3
  · subst h3; rfl
  rw [if_neg (by simpa using h3), if_neg h3]
  by_cases h4 : op = 4
  · subst h4; rfl
  rw [if_neg (by simpa using h4), if_neg h4]
  by_cases h5 : op = 5
  · subst h5; rfl
  rw [if_neg (by simpa using h5), if_neg h5]
  by_cases h6 : op = 6
  · subst h6
    rw [if_pos (by decide), if_pos rfl, show IntKind.i64.wrap (IntKind.i64.wrap ((6 : Int) - 6) + 1) = 1 from by decide +kernel, specBit_e 1 a b (by omega)]; rfl
  rw [if_neg (by simpa using h6), if_neg h6]
  by_cases h7 : op = 7
  · subst h7
    rw [if_pos (by decide), if_pos rfl, show IntKind.i64.wrap (IntKind.i64.wrap ((7 : Int) - 6) + 1) = 2 from by decide +kernel, specBit_e 2 a b (by omega)]; rfl
  rw [if_neg (by simpa using h7), if_neg h7]
  by_cases h8 : op = 8
  · subst h8
    rw [if_pos (by decide), if_pos rfl, show IntKind.i64.wrap (IntKind.i64.wrap ((8 : Int) - 6) + 1) = 3 from by decide +kernel, specBit_e 3 a b (by omega)]; rfl
  rw [if_neg (by simpa using h8), if_neg h8]
  by_cases h9 : op = 9
  · subst h9; rfl
  rw [if_neg (by simpa using h9), if_neg h9]
  by_cases h10 : op = 10
  · subst h10; rfl
  rw [if_neg (by simpa using h10), if_neg h10]
  by_cases h : sg a < sg b
  · rw [if_pos (ltI_t.2 h), if_pos h]
  · rw [if_neg (by rw [ltI_t]; exact h), if_neg h]

theorem implAlu_e (op a b : Int) (ha : WW a) (hb : WW b) (h : 1 ≤ op ∧ op ≤ 11) : F_impl_AluOf (op, a, b, ()) = some (((0, aluW op a b, ()), ()), ()) := by
  unfold F_impl_AluOf aluW
  simp only [implWrap_eq, Option.bind_some, wd_same ha, wd_same hb, implAdd_eq, implMul_eq, implDiv_eq, implRem_eq, implShift_eq, implSigned_eq]
  by_cases h1 : op = 1
  · subst h1; rfl
  rw [if_neg (by simpa using h1), if_neg h1]
  by_cases h2 : op = 2
  · subst h2
    unfold WW at ha hb
    rw [if_pos (by decide), if_pos rfl, i64_same (by omega) (by omega)]
  rw [if_neg (by simpa using h2), if_neg h2]
  by_cases h3 : op = 3
  · subst h3; rfl
  rw [if_neg (by simpa using h3), if_neg h3]
  by_cases h4 : op = 4
  · subst h4; rfl
  rw [if_neg (by simpa using h4), if_neg h4]
  by_cases h5 : op = 5
  · subst h5; rfl
  rw [if_neg (by simpa using h5), if_neg h5]
  by_cases h6 : op = 6
  · subst h6
    rw [if_pos (by decide), if_pos rfl, show IntKind.i64.wrap (IntKind.i64.wrap ((6 : Int) - 6) + 1) = 1 from by decide +kernel, implBit_e 1 a b (by omega)]; rfl
  rw [if_neg (by simpa using h6), if_neg h6]
  by_cases h7 : op = 7
  · subst h7
    rw [if_pos (by decide), if_pos rfl, show IntKind.i64.wrap (IntKind.i64.wrap ((7 : Int) - 6) + 1) = 2 from by decide +kernel, implBit_e 2 a b (by omega)]; rfl
  rw [if_neg (by simpa using h7), if_neg h7]
  by_cases h8 : op = 8
  · subst h8
    rw [if_pos (by decide), if_pos rfl, show IntKind.i64.wrap (IntKind.i64.wrap ((8 : Int) - 6) + 1) = 3 from by decide +kernel, implBit_e 3 a b (by omega)]; rfl
  rw [if_neg (by simpa using h8), if_neg h8]
  by_cases h9 : op = 9
  · subst h9; rfl
  rw [if_neg (by simpa using h9), if_neg h9]
  by_cases h10 : op = 10
  · subst h10; rfl
  rw [if_neg (by simpa using h10), if_neg h10, if_pos (by simpa using (show op = 11 by omega))]
  by_cases h : sg a < sg b
  · rw [if_pos (ltI_t.2 h), if_pos h]
  · rw [if_neg (by rw [ltI_t]; exact h), if_neg h]

structure OkC (cs : List Int) : Prop where
  len : cs.length = 11
  words : ∀ w ∈ cs, WW w
  st : cs.getD 0 0 ≤ 3
  msk : cs.getD 7 0 ≤ 7
  tb : cs.getD 10 0 ≤ 8
  pd : cs.getD 6 0 = 0
  tm : cs.getD 8 0 = 0

structure OkR (r : List Int) : Prop where
  len : r.length = 16
  words : ∀ w ∈ r, WW w
  zero : r.getD 0 0 = 0

structure OkQ (q : List Int) : Prop where
  len : q.length ≤ 40
  words : ∀ w ∈ q, WW w

structure OkL (l : List TwoD) (m : List Int) : Prop where
  len : l.length = 8
  pgs : ∀ p ∈ l, (-1 ≤ p.1 ∧ p.1 ≤ 23) ∧ (0 ≤ p.2.1 ∧ p.2.1 ≤ 7) ∧ 8 * p.1 + 8 ≤ (m.length : Int)
  words : ∀ w ∈ m, WW w
  mlen : m.length ≤ 192

theorem getD_mem {α : Type} {l : List α} {k : Nat} {d : α} (h : k < l.length) : l.getD k d ∈ l := by
  rw [List.getD_eq_getElem?_getD, List.getElem?_eq_getElem h]; exact List.getElem_mem h

theorem get_at {α : Type} {l : List α} {k : Nat} (d : α) (h : k < l.length) : l[k]? = some (l.getD k d) := by
  rw [List.getD_eq_getElem?_getD, List.getElem?_eq_getElem h]; rfl

theorem get_bind {α γ : Type} {l : List α} {i : Int} (d : α) (h : i.toNat < l.length) (K : α → Option γ) : (l[i.toNat]?).bind K = K (l.getD i.toNat d) := by
  rw [get_at d h]; rfl

theorem OkC.w {cs : List Int} (h : OkC cs) {k : Nat} (hk : k < 11) : WW (cs.getD k 0) := h.words _ (getD_mem (by rw [h.len]; exact hk))

theorem OkR.w {cs : List Int} (h : OkR cs) {k : Nat} (hk : k < 16) : WW (cs.getD k 0) := h.words _ (getD_mem (by rw [h.len]; exact hk))

def pendM (cs : List Int) (ru : Bool) (dn : Int) (iq : List Int) : Int :=
  (if cs.getD 9 0 ≠ 0 ∧ cs.getD 9 0 ≤ dn then 1 else 0) + (if ru = true then 2 else 0) + (if 0 < iq.length then 4 else 0)

theorem pendM_le (cs : List Int) (ru : Bool) (dn : Int) (iq : List Int) : 0 ≤ pendM cs ru dn iq ∧ pendM cs ru dn iq ≤ 7 := by
  unfold pendM; repeat' split
  all_goals omega

section
variable {r cs iq oq : List Int} {pc dn : Int} {ha wa ru : Bool}
theorem specPend_e (hc : OkC cs) : F_spec_l8Pending ((r, pc, cs, ha, wa, ru, dn, iq, oq, ()), ()) = some ((pendM cs ru dn iq, ()), ()) := by
  unfold F_spec_l8Pending pendM
  dsimp only
  have e3 : ltI 0 ((iq.length : Nat) : Int) = decide (0 < iq.length) := by
    have := ltN (a := 0) (b := iq.length)
    simpa using this
  rw [get_bind 0 (by rw [hc.len]; decide)]
  simp only [e3, show ((9 : Int)).toNat = 9 from rfl, get_at (l := cs) (k := 9) 0 (by rw [hc.len]; decide), Option.bind_some]
  generalize cs.getD 9 0 = a
  by_cases h1 : a = 0
  · cases ru <;> by_cases h3 : 0 < iq.length <;> simp [h1, h3]
  · by_cases h2 : a ≤ dn <;> cases ru <;> by_cases h3 : 0 < iq.length <;> simp [h1, h2, h3, leI_eq]

theorem implPend_e (hc : OkC cs) : F_impl_Hart_pending ((r, pc, cs, ha, wa, ru, dn, iq, oq, ()), ()) = some ((pendM cs ru dn iq, ()), ()) := by
  have o1 : ior .i64 0 1 = 1 := by decide +kernel
  have o2 : ior .i64 1 2 = 3 := by decide +kernel
  have o3 : ior .i64 3 4 = 7 := by decide +kernel
  have o4 : ior .i64 1 4 = 5 := by decide +kernel
  have o5 : ior .i64 0 2 = 2 := by decide +kernel
  have o6 : ior .i64 2 4 = 6 := by decide +kernel
  have o7 : ior .i64 0 4 = 4 := by decide +kernel
  unfold F_impl_Hart_pending pendM
  dsimp only
  have e3 : ltI 0 ((iq.length : Nat) : Int) = decide (0 < iq.length) := by
    have := ltN (a := 0) (b := iq.length)
    simpa using this
  rw [get_bind 0 (by rw [hc.len]; decide)]
  simp only [e3, show ((9 : Int)).toNat = 9 from rfl, get_at (l := cs) (k := 9) 0 (by rw [hc.len]; decide), Option.bind_some, o1, o2, o3, o4, o5, o6, o7]
  generalize cs.getD 9 0 = a
  by_cases h1 : a = 0
  · cases ru <;> by_cases h3 : 0 < iq.length <;> simp [h1, h3]
  · by_cases h2 : a ≤ dn <;> cases ru <;> by_cases h3 : 0 < iq.length <;> simp [h1, h2, h3, leI_eq]

/-- The lowest of three bits. -/
def lowB (v : Int) : Int := if v % 2 = 1 then 0 else if v / 2 % 2 = 1 then 1 else if v / 4 % 2 = 1 then 2 else -1

def dueM (cs : List Int) (ru : Bool) (dn : Int) (iq : List Int) : Int := if cs.getD 0 0 % 2 = 0 then -1 else lowB (iand .i64 (pendM cs ru dn iq) (cs.getD 7 0))

theorem and_small : ∀ p : Fin 8, ∀ m : Fin 8, 0 ≤ iand .i64 ((p.val : Nat) : Int) ((m.val : Nat) : Int) ∧ iand .i64 ((p.val : Nat) : Int) ((m.val : Nat) : Int) ≤ 7 := by decide +kernel

theorem and_le7 {p m : Int} (h : 0 ≤ p ∧ p ≤ 7) (h2 : 0 ≤ m ∧ m ≤ 7) : 0 ≤ iand .i64 p m ∧ iand .i64 p m ≤ 7 := by
  have := and_small ⟨p.toNat, by omega⟩ ⟨m.toNat, by omega⟩
  simp only [show ((p.toNat : Nat) : Int) = p from by omega, show ((m.toNat : Nat) : Int) = m from by omega] at this
  exact this

def lowT (v : Int) : Option (denO o_spec_l8Due_5) := if lowB v = -1 then some (.inl ((), ((), ()))) else some (.inr (.inl ((lowB v, ()), ((), ()))))

theorem low0 : L_spec_l8Due_5 (((0 : Int), (0, ())), ((), ())) = lowT 0 := by kernel_rfl

theorem low1 : L_spec_l8Due_5 (((1 : Int), (0, ())), ((), ())) = lowT 1 := by kernel_rfl

theorem low2 : L_spec_l8Due_5 (((2 : Int), (0, ())), ((), ())) = lowT 2 := by kernel_rfl

theorem low3 : L_spec_l8Due_5 (((3 : Int), (0, ())), ((), ())) = lowT 3 := by kernel_rfl

theorem low4 : L_spec_l8Due_5 (((4 : Int), (0, ())), ((), ())) = lowT 4 := by kernel_rfl

theorem low5 : L_spec_l8Due_5 (((5 : Int), (0, ())), ((), ())) = lowT 5 := by kernel_rfl

theorem low6 : L_spec_l8Due_5 (((6 : Int), (0, ())), ((), ())) = lowT 6 := by kernel_rfl

theorem low7 : L_spec_l8Due_5 (((7 : Int), (0, ())), ((), ())) = lowT 7 := by kernel_rfl

theorem lowSpec {v : Int} (h : 0 ≤ v ∧ v ≤ 7) : L_spec_l8Due_5 ((v, (0, ())), ((), ())) = lowT v := by
  have : v = 0 ∨ v = 1 ∨ v = 2 ∨ v = 3 ∨ v = 4 ∨ v = 5 ∨ v = 6 ∨ v = 7 := by omega
  rcases this with rfl | rfl | rfl | rfl | rfl | rfl | rfl | rfl
  · exact low0
  · exact low1
  · exact low2
  · exact low3
  · exact low4
  · exact low5
  · exact low6
  · exact low7

theorem lowImpl : ∀ v : Fin 8, v.val ≠ 0 → tzF (IntKind.u64.wrap ((v.val : Nat) : Int)) = some (lowB ((v.val : Nat) : Int)) ∧ lowB ((v.val : Nat) : Int) ≠ -1 := by decide +kernel

theorem lowB_le (v : Int) : -1 ≤ lowB v ∧ lowB v ≤ 2 := by unfold lowB; repeat' split
                                                           all_goals omega

theorem specDue_e (hc : OkC cs) : F_spec_l8Due ((r, pc, cs, ha, wa, ru, dn, iq, oq, ()), ()) = some ((dueM cs ru dn iq, ()), ()) := by
  unfold F_spec_l8Due dueM
  dsimp only
  rw [specPend_e hc, Option.bind_some]
  dsimp only
  rw [get_bind 0 (by rw [hc.len]; decide), get_bind 0 (by rw [hc.len]; decide)]
  have hst := hc.w (k := 0) (by decide)
  have hmk := hc.w (k := 7) (by decide)
  have hmk2 := hc.msk
  have hb := and_le7 (pendM_le cs ru dn iq) ⟨hmk.1, hmk2⟩
  simp only [show ((7 : Int)).toNat = 7 from rfl, show ((0 : Int)).toNat = 0 from rfl, Int.tmod_eq_emod_of_nonneg hst.1]
  generalize iand .i64 (pendM cs ru dn iq) (cs.getD 7 0) = v at *
  by_cases h : cs.getD 0 0 % 2 = 0
  · rw [if_pos (by simpa using h), if_pos h]
  · rw [if_neg (by simpa using h), if_neg h]
    rw [lowSpec hb]
    unfold lowT
    by_cases hl : lowB v = -1
    · rw [if_pos hl, hl]; rfl
    · rw [if_neg hl]; rfl

theorem implDue_e (hc : OkC cs) : F_impl_Hart_due ((r, pc, cs, ha, wa, ru, dn, iq, oq, ()), ()) = some ((dueM cs ru dn iq, ()), ()) := by
  unfold F_impl_Hart_due dueM
  dsimp only
  rw [implPend_e hc, Option.bind_some]
  dsimp only
  rw [get_bind 0 (by rw [hc.len]; decide), get_bind 0 (by rw [hc.len]; decide)]
  have hst := hc.w (k := 0) (by decide)
  have hmk := hc.w (k := 7) (by decide)
  have hmk2 := hc.msk
  have hb := and_le7 (pendM_le cs ru dn iq) ⟨hmk.1, hmk2⟩
  simp only [show ((7 : Int)).toNat = 7 from rfl, show ((0 : Int)).toNat = 0 from rfl, Int.tmod_eq_emod_of_nonneg hst.1]
  generalize iand .i64 (pendM cs ru dn iq) (cs.getD 7 0) = v at *
  by_cases h : cs.getD 0 0 % 2 = 0
  · rw [if_neg (by simpa using h), if_pos h]
  · rw [if_pos (by simpa using h), if_neg h]
    by_cases hv : v = 0
    · subst hv; rfl
    · rw [if_neg (by simpa using hv)]
      have := lowImpl ⟨v.toNat, by omega⟩ (by simp only; omega)
      simp only [show ((v.toNat : Nat) : Int) = v from by omega] at this
      unfold F_math_bits_TrailingZeros64
      dsimp only
      rw [this.1]
      rfl

def trapC (cs : List Int) (pc cause tval : Int) : List Int := (((cs.set 2 pc).set 3 cause).set 4 tval).set 0 (cs.getD 0 0 % 2 * 2)

theorem getD_set_ne {l : List Int} {i j : Nat} {y d : Int} (h : i ≠ j) : (l.set i y).getD j d = l.getD j d := by
  simp [List.getD_eq_getElem?_getD, List.getElem?_set_ne h]

theorem getD_set_eq {l : List Int} {i : Nat} {y d : Int} (h : i < l.length) : (l.set i y).getD i d = y := by
  simp [List.getD_eq_getElem?_getD, List.getElem?_set_self h]

theorem OkC.set {cs : List Int} (h : OkC cs) {k : Nat} {w : Int} (hw : WW w) (hk : k ≠ 6 ∧ k ≠ 8) (h0 : k = 0 → w ≤ 3) (h7 : k = 7 → w ≤ 7) (h10 : k = 10 → w ≤ 8) : OkC (cs.set k w) := by
  by_cases hlt : k < 11
  · refine ⟨by simp [h.len], fun z hz => ?_, ?_, ?_, ?_, ?_, ?_⟩
    · rcases List.mem_or_eq_of_mem_set hz with hz | rfl
      · exact h.words z hz
      · exact hw
    · by_cases e : k = 0
      · subst e; rw [getD_set_eq (by rw [h.len]; decide)]; exact h0 rfl
      · rw [getD_set_ne e]; exact h.st
    · by_cases e : k = 7
      · subst e; rw [getD_set_eq (by rw [h.len]; decide)]; exact h7 rfl
      · rw [getD_set_ne e]; exact h.msk
    · by_cases e : k = 10
      · subst e; rw [getD_set_eq (by rw [h.len]; decide)]; exact h10 rfl
      · rw [getD_set_ne e]; exact h.tb
    · rw [getD_set_ne hk.1]; exact h.pd
    · rw [getD_set_ne hk.2]; exact h.tm
  · rw [List.set_eq_of_length_le (by rw [h.len]; omega)]; exact h

theorem trapC_ok (hc : OkC cs) (hp : WW pc) {cause tval : Int} (h1 : WW cause) (h2 : WW tval) : OkC (trapC cs pc cause tval) := by
  unfold trapC
  have := hc.w (k := 0) (by decide)
  unfold WW at this
  exact (((hc.set hp (by decide) (fun e => absurd e (by decide)) (fun e => absurd e (by decide)) (fun e => absurd e (by decide))).set h1 (by decide) (fun e => absurd e (by decide)) (fun e => absurd e (by decide)) (fun e => absurd e (by decide))).set h2 (by decide) (fun e => absurd e (by decide)) (fun e => absurd e (by decide)) (fun e => absurd e (by decide))).set
    (by unfold WW; omega) (by decide) (fun _ => by omega) (fun e => absurd e (by decide)) (fun e => absurd e (by decide))

theorem specTrap_e (hc : OkC cs) (cause tval : Int) : F_spec_l8Trap ((r, pc, cs, ha, wa, ru, dn, iq, oq, ()), cause, tval, ()) =
    some ((), ((r, cs.getD 1 0, trapC cs pc cause tval, ha, false, ru, dn, iq, oq, ()), ())) := by
  have hst := hc.w (k := 0) (by decide)
  have hl := hc.len
  have hw : IntKind.i64.wrap (cs.getD 0 0 % 2 * 2) = cs.getD 0 0 % 2 * 2 := i64_same (by omega) (by omega)
  unfold F_spec_l8Trap trapC
  simp only [show ((2 : Int)).toNat = 2 from rfl, show ((3 : Int)).toNat = 3 from rfl, show ((4 : Int)).toNat = 4 from rfl, show ((0 : Int)).toNat = 0 from rfl, show ((1 : Int)).toNat = 1 from rfl,
    List.length_set, hl, show (0 : Int) ≤ 2 ∧ (2 : Int) < ((11 : Nat) : Int) from by decide, show (0 : Int) ≤ 3 ∧ (3 : Int) < ((11 : Nat) : Int) from by decide, show (0 : Int) ≤ 4 ∧ (4 : Int) < ((11 : Nat) : Int) from by decide,
    show (0 : Int) ≤ 0 ∧ (0 : Int) < ((11 : Nat) : Int) from by decide, show (0 : Int) ≤ 1 ∧ (1 : Int) < ((11 : Nat) : Int) from by decide, and_self, if_true]
  rw [get_at (l := cs) (k := 2) 0 (by omega), Option.bind_some, get_at (k := 3) 0 (by simp [hl]), Option.bind_some, get_at (k := 4) 0 (by simp [hl]), Option.bind_some]
  rw [get_at (l := ((cs.set 2 pc).set 3 cause).set 4 tval) (k := 0) 0 (by simp [hl]), Option.bind_some, Option.bind_some]
  rw [getD_set_ne (by decide), getD_set_ne (by decide), getD_set_ne (by decide), Int.tmod_eq_emod_of_nonneg hst.1, hw]
  rw [get_at (k := 1) 0 (by simp [hl]), Option.bind_some]
  rw [getD_set_ne (by decide), getD_set_ne (by decide), getD_set_ne (by decide), getD_set_ne (by decide)]

theorem implTrap_e (hc : OkC cs) (cause tval : Int) : F_impl_Hart_trap ((r, pc, cs, ha, wa, ru, dn, iq, oq, ()), cause, tval, ()) =
    some ((), ((r, cs.getD 1 0, trapC cs pc cause tval, ha, false, ru, dn, iq, oq, ()), ())) := specTrap_e hc cause tval

def backC (cs : List Int) : List Int := cs.set 0 (2 + cs.getD 0 0 / 2)

theorem backC_ok (hc : OkC cs) : OkC (backC cs) := by
  have := hc.w (k := 0) (by decide)
  have h3 := hc.st
  unfold WW at this
  exact hc.set (by unfold WW; omega) (by decide) (fun _ => by omega) (fun e => absurd e (by decide)) (fun e => absurd e (by decide))

theorem specBack_e (hc : OkC cs) : F_spec_l8Back ((r, pc, cs, ha, wa, ru, dn, iq, oq, ()), ()) = some ((), ((r, cs.getD 2 0, backC cs, ha, wa, ru, dn, iq, oq, ()), ())) := by
  have hst := hc.w (k := 0) (by decide)
  have hl := hc.len
  unfold WW at hst
  unfold F_spec_l8Back backC
  simp only [show ((2 : Int)).toNat = 2 from rfl, show ((0 : Int)).toNat = 0 from rfl, hl, show (0 : Int) ≤ 2 ∧ (2 : Int) < ((11 : Nat) : Int) from by decide, show (0 : Int) ≤ 0 ∧ (0 : Int) < ((11 : Nat) : Int) from by decide, and_self, if_true]
  rw [get_at (l := cs) (k := 2) 0 (by omega), Option.bind_some, get_at (l := cs) (k := 0) 0 (by omega), Option.bind_some, Option.bind_some]
  rw [Int.tdiv_eq_ediv_of_nonneg hst.1, i64_same (n := cs.getD 0 0 / 2) (by omega) (by omega), i64_same (by omega) (by omega)]

theorem implBack_e (hc : OkC cs) : F_impl_Hart_back ((r, pc, cs, ha, wa, ru, dn, iq, oq, ()), ()) = some ((), ((r, cs.getD 2 0, backC cs, ha, wa, ru, dn, iq, oq, ()), ())) := specBack_e hc

def getM (cs : List Int) (ru : Bool) (dn : Int) (iq : List Int) (k : Int) : Int := if k = 6 then pendM cs ru dn iq else if k = 8 then dn else cs.getD k.toNat 0

theorem specGet_e (hc : OkC cs) {k : Int} (hk : 0 ≤ k ∧ k ≤ 10) : F_spec_l8Get ((r, pc, cs, ha, wa, ru, dn, iq, oq, ()), k, ()) = some ((getM cs ru dn iq k, ()), ()) := by
  unfold F_spec_l8Get getM
  dsimp only
  rw [specPend_e hc, Option.bind_some]
  by_cases h6 : k = 6
  · rw [if_pos (by simpa using h6), if_pos h6]
  rw [if_neg (by simpa using h6), if_neg h6]
  by_cases h8 : k = 8
  · rw [if_pos (by simpa using h8), if_pos h8]
  rw [if_neg (by simpa using h8), if_neg h8, if_pos hk.1, get_bind 0 (by rw [hc.len]; omega)]

theorem implGet_e (hc : OkC cs) {k : Int} (hk : 0 ≤ k ∧ k ≤ 10) : F_impl_Hart_get ((r, pc, cs, ha, wa, ru, dn, iq, oq, ()), k, ()) = some ((getM cs ru dn iq k, ()), ()) := by
  unfold F_impl_Hart_get getM
  dsimp only
  rw [implPend_e hc, Option.bind_some]
  by_cases h6 : k = 6
  · rw [if_pos (by simpa using h6), if_pos h6]
  rw [if_neg (by simpa using h6), if_neg h6]
  by_cases h8 : k = 8
  · rw [if_pos (by simpa using h8), if_pos h8]
  rw [if_neg (by simpa using h8), if_neg h8, if_pos hk.1, get_bind 0 (by rw [hc.len]; omega)]

theorem getM_word (hc : OkC cs) {k : Int} (hk : 0 ≤ k ∧ k ≤ 10) (hd : 0 ≤ dn ∧ dn ≤ 1000000000) : WW (getM cs ru dn iq k) := by
  unfold getM
  have := pendM_le cs ru dn iq
  split
  · unfold WW; omega
  · split
    · unfold WW; omega
    · exact hc.w (by omega)

def setC (cs : List Int) (k w : Int) : List Int :=
  if k = 0 then cs.set 0 (wd w % 4) else if k = 7 then cs.set 7 (wd w % 8) else if k = 10 then cs.set 10 (if wd w ≤ 8 then wd w else 0) else if k = 6 ∨ k = 8 then cs else cs.set k.toNat (wd w)

def setR (ru : Bool) (k w : Int) : Bool := if k = 6 ∧ 2 ≤ wd w % 4 then false else ru

theorem setC_ok (hc : OkC cs) {k w : Int} (hk : 0 ≤ k ∧ k ≤ 10) : OkC (setC cs k w) := by
  have h := wd_word w
  have h' := h
  unfold WW at h'
  unfold setC
  split
  · exact hc.set (by unfold WW; omega) (by decide) (fun _ => by omega) (fun e => absurd e (by decide)) (fun e => absurd e (by decide))
  split
  · exact hc.set (by unfold WW; omega) (by decide) (fun e => absurd e (by decide)) (fun _ => by omega) (fun e => absurd e (by decide))
  split
  · exact hc.set (by split; exact h; unfold WW; omega) (by decide) (fun e => absurd e (by decide)) (fun e => absurd e (by decide)) (fun _ => by split <;> omega)
  split
  · exact hc
  · exact hc.set h (by omega) (by omega) (by omega) (by omega)

theorem specSet_e (hc : OkC cs) {k : Int} (hk : 0 ≤ k ∧ k ≤ 10) (w : Int) : F_spec_l8Set ((r, pc, cs, ha, wa, ru, dn, iq, oq, ()), k, w, ()) =
    some ((), ((r, pc, setC cs k w, ha, wa, setR ru k w, dn, iq, oq, ()), ())) := by
  have h := wd_word w
  unfold WW at h
  have hin : 0 ≤ k ∧ k < ((cs.length : Nat) : Int) := by rw [hc.len]; omega
  have e1 : cs[k.toNat]? = some (cs.getD k.toNat 0) := get_at 0 (by rw [hc.len]; omega)
  unfold F_spec_l8Set setC setR
  dsimp only
  rw [specWrap_e, Option.bind_some]
  dsimp only
  generalize wd w = v at *
  rw [Int.tmod_eq_emod_of_nonneg h.1, Int.tmod_eq_emod_of_nonneg h.1, e1]
  by_cases h0 : k = 0
  · subst h0; simp [hc.len]
  by_cases h7 : k = 7
  · subst h7; simp [hc.len]
  by_cases h10 : k = 10
  · subst h10
    by_cases h8 : v ≤ 8 <;> simp [hc.len, leI_eq, h8]
  by_cases h6 : k = 6
  · subst h6
    cases ru <;> by_cases h2 : 2 ≤ v % 4 <;> simp [h2, ltI_eq, leI_eq] <;> omega
  by_cases h8 : k = 8
  · subst h8; simp
  have hk11 : k < 11 := by omega
  simp [h0, h7, h10, h6, h8, hc.len, hk.1, hk11]

theorem implSet_e (hc : OkC cs) {k : Int} (hk : 0 ≤ k ∧ k ≤ 10) (w : Int) : F_impl_Hart_set ((r, pc, cs, ha, wa, ru, dn, iq, oq, ()), k, w, ()) =
    some ((), ((r, pc, setC cs k w, ha, wa, setR ru k w, dn, iq, oq, ()), ())) := by
  have h := wd_word w
  unfold WW at h
  have hin : 0 ≤ k ∧ k < ((cs.length : Nat) : Int) := by rw [hc.len]; omega
  have e1 : cs[k.toNat]? = some (cs.getD k.toNat 0) := get_at 0 (by rw [hc.len]; omega)
  unfold F_impl_Hart_set setC setR
  dsimp only
  rw [implWrap_e, Option.bind_some]
  dsimp only
  generalize wd w = v at *
  rw [Int.tmod_eq_emod_of_nonneg h.1, Int.tmod_eq_emod_of_nonneg h.1, e1]
  by_cases h0 : k = 0
  · subst h0; simp [hc.len]
  by_cases h7 : k = 7
  · subst h7; simp [hc.len]
  by_cases h10 : k = 10
  · subst h10
    by_cases h8 : v ≤ 8 <;> simp [hc.len, leI_eq, h8]
  by_cases h6 : k = 6
  · subst h6
    cases ru <;> by_cases h2 : 2 ≤ v % 4 <;> simp [h2, ltI_eq, leI_eq] <;> omega
  by_cases h8 : k = 8
  · subst h8; simp
  have hk11 : k < 11 := by omega
  simp [h0, h7, h10, h6, h8, hc.len, hk.1, hk11]

end
/-- Is this page for such a use? -/
def mayP (p : TwoD) (kind : Int) : Bool := decide (0 ≤ p.1) && !(iand .i64 p.2.1 kind == 0)

def walkM (l : List TwoD) (at_ kind : Int) : Int :=
  if 0 ≤ at_ ∧ at_ ≤ 63 then (if mayP (l.getD (at_ / 8).toNat (-1, 0, ())) kind = true then (l.getD (at_ / 8).toNat (-1, 0, ())).1 * 8 + at_ % 8 else -1) else -1

def codeK (kind : Int) : Int := if kind = 1 then 7 else if kind = 2 then 8 else 9

structure OkP (l : List TwoD) : Prop where
  len : l.length = 8
  pgs : ∀ p ∈ l, -1 ≤ p.1 ∧ p.1 ≤ 23

theorem OkP.at {l : List TwoD} (h : OkP l) {k : Nat} (hk : k < 8) : -1 ≤ (l.getD k (-1, 0, ())).1 ∧ (l.getD k (-1, 0, ())).1 ≤ 23 := h.pgs _ (getD_mem (by rw [h.len]; exact hk))

theorem OkL.p {l : List TwoD} {m : List Int} (h : OkL l m) : OkP l := ⟨h.len, fun p hp => (h.pgs p hp).1⟩

theorem walkM_le {l : List TwoD} (h : OkP l) (at_ kind : Int) : -1 ≤ walkM l at_ kind ∧ walkM l at_ kind ≤ 191 := by
  unfold walkM
  split
  · have := h.at (k := (at_ / 8).toNat) (by omega)
    split
    · rename_i hm
      simp only [mayP, Bool.and_eq_true, decide_eq_true_eq] at hm
      omega
    · omega
  · omega

theorem specCode_e (kind : Int) : F_spec_l4Code (kind, ()) = some ((codeK kind, ()), ()) := by
  unfold F_spec_l4Code codeK
  by_cases h1 : kind = 1
  · simp [h1]
  · by_cases h2 : kind = 2 <;> simp [h1, h2]

theorem implCode_e {kind : Int} (h : kind = 1 ∨ kind = 2 ∨ kind = 4) : F_impl_kindCode (kind, ()) = some ((codeK kind, ()), ()) := by
  rcases h with rfl | rfl | rfl <;> rfl

theorem codeK_ne (kind : Int) : codeK kind ≠ 0 := by unfold codeK; repeat' split
                                                     all_goals omega

theorem specWalk_e {l : List TwoD} (h : OkP l) (at_ kind : Int) : F_spec_l4Walk (l, at_, kind, ()) = some ((walkM l at_ kind, ()), ()) := by
  unfold F_spec_l4Walk walkM
  dsimp only
  rw [l1In_eq, Option.bind_some]
  dsimp only
  by_cases hin : 0 ≤ at_ ∧ at_ ≤ 63
  · rw [if_neg (by simp [hin.1, hin.2]), if_pos hin, Int.tdiv_eq_ediv_of_nonneg hin.1, i64_same (by omega) (by omega), if_pos (by omega)]
    rw [get_bind ((-1, 0, ()) : TwoD) (by rw [h.len]; omega)]
    have hp := h.at (k := (at_ / 8).toNat) (by omega)
    generalize l.getD (at_ / 8).toNat (-1, 0, ()) = p at *
    unfold mayP
    by_cases h0 : 0 ≤ p.1
    · rw [if_pos (ltI_f.2 (by omega))]
      by_cases hk : iand .i64 p.2.1 kind = 0
      · rw [if_pos (by simpa using hk), if_neg (by simp [hk])]
      · rw [if_neg (by simpa using hk), if_pos (by simp [hk, h0]), Int.tmod_eq_emod_of_nonneg hin.1, i64_same (n := p.1 * 8) (by omega) (by omega), i64_same (by omega) (by omega)]
    · rw [if_neg (by rw [ltI_f]; omega), if_neg (by simp [h0])]
  · rw [if_pos (by simp; omega), if_neg hin]

theorem implWalk_e {l : List TwoD} (h : OkP l) (at_ : Int) {kind : Int} (hkd : kind = 1 ∨ kind = 2 ∨ kind = 4) :
    F_impl_walk (l, at_, kind, ()) = some ((if walkM l at_ kind < 0 then (codeK kind, 0, ()) else (0, walkM l at_ kind, ()), ()), ()) := by
  unfold F_impl_walk F_impl_hasPage walkM
  dsimp only
  rw [within_eq, Option.bind_some, Option.bind_some, implCode_e hkd, Option.bind_some]
  dsimp only
  by_cases hin : 0 ≤ at_ ∧ at_ ≤ 63
  · rw [if_pos (by simp [hin.1, hin.2]), if_pos hin, Int.tdiv_eq_ediv_of_nonneg hin.1, i64_same (by omega) (by omega), if_pos (by omega)]
    rw [get_bind ((-1, 0, ()) : TwoD) (by rw [h.len]; omega), get_bind ((-1, 0, ()) : TwoD) (by rw [h.len]; omega), get_bind ((-1, 0, ()) : TwoD) (by rw [h.len]; omega)]
    have hp := h.at (k := (at_ / 8).toNat) (by omega)
    have h8 : 0 ≤ at_ / 8 := by omega
    generalize l.getD (at_ / 8).toNat (-1, 0, ()) = p at *
    unfold mayP
    by_cases h0 : 0 ≤ p.1
    · rw [if_pos (ltI_f.2 (by omega)), if_pos h8]
      by_cases hk : iand .i64 p.2.1 kind = 0
      · rw [if_pos (by simpa using hk), if_neg (c := (decide (0 ≤ p.1) && !(iand .i64 p.2.1 kind == 0)) = true) (by simp [hk]), if_pos (by decide)]
      · rw [if_neg (by simpa using hk), if_pos h8, if_pos (c := (decide (0 ≤ p.1) && !(iand .i64 p.2.1 kind == 0)) = true) (by simp [hk, h0]), Int.tmod_eq_emod_of_nonneg hin.1,
          i64_same (n := p.1 * 8) (by omega) (by omega), i64_same (by omega) (by omega), if_neg (by omega)]
    · rw [if_neg (by rw [ltI_f]; omega), if_neg (c := (decide (0 ≤ p.1) && !(iand .i64 p.2.1 kind == 0)) = true) (by simp [h0]), if_pos (by decide)]
  · rw [if_neg (by simp; omega), if_neg hin, if_pos (by decide)]

def entM (w : Int) : TwoD := if w % 8 ≠ 0 ∧ w / 8 < 8 then (w / 8, w % 8, ()) else (-1, 0, ())

theorem specEnt_e {w : Int} (h : WW w) : F_spec_l4Entry (w, ()) = some ((entM w, ()), ()) := by
  unfold WW at h
  unfold F_spec_l4Entry entM F_spec_l4None
  dsimp only
  rw [Int.tdiv_eq_ediv_of_nonneg h.1, Int.tmod_eq_emod_of_nonneg h.1, i64_same (by omega) (by omega)]
  by_cases h1 : w % 8 = 0
  · simp [h1]
  · by_cases h2 : w / 8 < 8
    · have : ¬ (8 : Int) ≤ w / 8 := by omega
      simp [h1, h2, leI_eq, this]
    · have : (8 : Int) ≤ w / 8 := by omega
      simp [h1, h2, leI_eq, this]

theorem implEnt_e {w : Int} (h : WW w) : F_impl_entryOf (w, ()) = some ((entM w, ()), ()) := by
  unfold WW at h
  unfold F_impl_entryOf entM F_impl_nowhere
  dsimp only
  rw [Int.tdiv_eq_ediv_of_nonneg h.1, Int.tmod_eq_emod_of_nonneg h.1, i64_same (by omega) (by omega)]
  by_cases h1 : w % 8 = 0
  · simp [h1]
  · by_cases h2 : w / 8 < 8
    · have : ¬ (8 : Int) ≤ w / 8 := by omega
      simp [h1, h2, leI_eq, this]
    · have : (8 : Int) ≤ w / 8 := by omega
      simp [h1, h2, leI_eq, this]

theorem entM_ok {w : Int} (h : WW w) : -1 ≤ (entM w).1 ∧ (entM w).1 ≤ 7 := by
  unfold WW at h
  unfold entM; split
  · simp only; omega
  · simp only; omega

theorem okW_iff {w : Int} : okW w = true ↔ WW w := by unfold okW WW; simp

theorem allW_iff {m : List Int} : allW m = true ↔ ∀ w ∈ m, WW w := by
  unfold allW; rw [List.all_eq_true]; exact ⟨fun h w hw => okW_iff.1 (h w hw), fun h w hw => okW_iff.2 (h w hw)⟩

theorem take_succ' {α : Type} {l : List α} {i : Nat} (h : i < l.length) : l.take (i + 1) = l.take i ++ [l[i]] := by rw [List.take_add_one, List.getElem?_eq_getElem h]; rfl

theorem specPagesFrom_e {ws : List Int} (hl : ws.length = 8) (hw : ∀ w ∈ ws, WW w) : F_spec_PagesFrom (ws, ()) = some (((0, ws.map entM, ()), ()), ()) := by
  have key := loopN (step := l_spec_PagesFrom_5) (γ := denO o_spec_PagesFrom_5) (fun k (s : List TwoD) => ((ws, (), (), ((k : Nat) : Int), ()), ((0, [], ()), ((0, s, ()), ())), ())) 8 (lots_gt' (by omega)) (fun k s => s = (ws.take k).map entM)
    (fun _ _ => some (.inl (((), (), ()), (((0, [], ()), ((0, ws.map entM, ()), ())), ())))) ?_ 0 [] (by omega) (by simp)
  · unfold F_spec_PagesFrom
    dsimp only
    rw [if_neg (by rw [hl]; decide)]
    show (iterF l_spec_PagesFrom_5 lots ((ws, (), (), 0, ()), ((0, [], ()), ((0, [], ()), ())), ())).bind _ = _
    rw [show ((0 : Int)) = (((0 : Nat) : Nat) : Int) from rfl] at *
    rw [key]
    rfl
  · intro rec i s hi hs ih
    unfold l_spec_PagesFrom_5
    dsimp only
    by_cases hlt : i < 8
    · have hlw : i < ws.length := by omega
      have hin : WW ws[i] := hw _ (List.getElem_mem hlw)
      rw [if_pos (lt_t hlw), if_pos nat0, at_get hlw, l1In_eq, Option.bind_some]
      dsimp only
      have hok : (decide (ws[i] ≥ 0) && decide (ws[i] ≤ 4294967295)) = true := okW_iff.2 hin
      rw [if_neg (by rw [hok]; decide), if_pos nat0, at_get hlw, specEnt_e hin, Option.bind_some]
      dsimp only
      have hsl : s.length = i := by rw [hs, List.length_map, List.length_take]; omega
      rw [if_pos (by rw [hsl]; simp; omega), wrapS (by omega)]
      exact ih _ hlt (by rw [hs, take_succ' hlw, List.map_append]; rfl)
    · have : i = 8 := by omega
      subst this
      rw [if_neg (by rw [hl]; decide)]
      have : s = ws.map entM := by rw [hs, List.take_of_length_le (by omega)]
      rw [this]

theorem implPagesFrom_e {ws : List Int} (hl : ws.length = 8) (hw : ∀ w ∈ ws, WW w) : F_impl_PagesFrom (ws, ()) = some (((0, ws.map entM, ()), ()), ()) := by
  have key := loopN (step := l_impl_PagesFrom_7) (γ := denO o_impl_PagesFrom_7) (fun k (s : List TwoD) => (((), s, ws, 8, ((k : Nat) : Int), ()), ((0, [], ()), ()), ())) 8 (lots_gt' (by omega)) (fun k s => s = (ws.take k).map entM)
    (fun _ _ => some (.inl (((), ws.map entM, ()), ((0, [], ()), ()), ()))) ?_ 0 [] (by omega) (by simp)
  · unfold F_impl_PagesFrom
    dsimp only
    rw [if_neg (by rw [hl]; decide), areWords_eq _ (by rw [hl, maxLen_eq]; omega), Option.bind_some]
    dsimp only
    rw [allW_iff.2 hw, if_neg (by decide), hl]
    show (iterF l_impl_PagesFrom_7 lots (((), [], ws, 8, 0, ()), ((0, [], ()), ()), ())).bind _ = _
    rw [show ((0 : Int)) = (((0 : Nat) : Nat) : Int) from rfl] at *
    rw [key]
    rfl
  · intro rec i s hi hs ih
    unfold l_impl_PagesFrom_7
    dsimp only
    by_cases hlt : i < 8
    · have hlw : i < ws.length := by omega
      have hin : WW ws[i] := hw _ (List.getElem_mem hlw)
      rw [if_pos (ltI_t.2 (by omega)), if_pos nat0, at_get hlw, implEnt_e hin, Option.bind_some]
      dsimp only
      have hsl : s.length = i := by rw [hs, List.length_map, List.length_take]; omega
      rw [if_pos (by rw [hsl]; simp; omega), wrapS (by omega)]
      exact ih _ hlt (by rw [hs, take_succ' hlw, List.map_append]; rfl)
    · have : i = 8 := by omega
      subst this
      rw [if_neg (by decide)]
      have : s = ws.map entM := by rw [hs, List.take_of_length_le (by omega)]
      rw [this]

def idsM : List TwoD := [(0, 7, ()), (1, 7, ()), (2, 7, ()), (3, 7, ()), (4, 7, ()), (5, 7, ()), (6, 7, ()), (7, 7, ())]

theorem specIds : L_spec_l10Space_5 ((([] : List TwoD), ((0 : Int), ())), ((), ())) = some (.inl ((idsM, ()), ((), ()))) := by kernel_rfl

theorem implIds : L_impl_Hart_space_5 (((), (([] : List TwoD), ((0 : Int), ()))), ((((0 : Int), (([] : List TwoD), ())), ()), ())) = some (.inl (((), (idsM, ())), ((((0 : Int), (([] : List TwoD), ())), ()), ()))) := by kernel_rfl

theorem idsM_ok : OkP idsM := ⟨rfl, by decide⟩

/-- The list of a guest; none where it cannot be read. -/
def spaceM (cs : List Int) (l : List TwoD) (m : List Int) : Option (List TwoD) :=
  if cs.getD 10 0 = 0 then some idsM else if cs.getD 10 0 = 8 then none
  else if walkM l ((cs.getD 10 0 - 1) * 8) 1 < 0 then none else some (((m.drop (walkM l ((cs.getD 10 0 - 1) * 8) 1).toNat).take 8).map entM)

section
variable {r cs iq oq m : List Int} {pc dn ring fall : Int} {ha wa ru : Bool} {l : List TwoD}
theorem OkL.at {l : List TwoD} {m : List Int} (h : OkL l m) {k : Nat} (hk : k < 8) : (-1 ≤ (l.getD k (-1, 0, ())).1 ∧ (l.getD k (-1, 0, ())).1 ≤ 23) ∧ 8 * (l.getD k (-1, 0, ())).1 + 8 ≤ (m.length : Int) := by
  have := h.pgs _ (getD_mem (l := l) (k := k) (d := (-1, 0, ())) (by rw [h.len]; exact hk)); exact ⟨this.1, this.2.2⟩

/-- Where a list leads there is memory. -/
theorem walkM_in (h : OkL l m) (at_ kind : Int) (h0 : 0 ≤ walkM l at_ kind) : walkM l at_ kind < (m.length : Int) ∧ (at_ % 8 = 0 → walkM l at_ kind + 8 ≤ (m.length : Int)) := by
  unfold walkM at *
  split at h0
  · have := h.at (k := (at_ / 8).toNat) (by omega)
    rename_i hin
    rw [if_pos hin]
    split at h0
    · rename_i hm
      rw [if_pos hm]
      omega
    · omega
  · omega

theorem page_words (h : OkL l m) {f : Int} (h0 : 0 ≤ f) (h1 : f + 8 ≤ (m.length : Int)) : ((m.drop f.toNat).take 8).length = 8 ∧ ∀ w ∈ (m.drop f.toNat).take 8, WW w :=
  ⟨by rw [List.length_take, List.length_drop]; omega, fun w hw => h.words w (List.mem_of_mem_drop (List.mem_of_mem_take hw))⟩

theorem specSpace_e (hc : OkC cs) (h : OkL l m) : F_spec_l10Space ((l, m, ring, (r, pc, cs, ha, wa, ru, dn, iq, oq, ()), fall, ()), ()) =
    some ((match spaceM cs l m with | some s => (s, true, ()) | none => ([], false, ())), ()) := by
  have ht := hc.w (k := 10) (by decide)
  have ht2 := hc.tb
  unfold WW at ht
  unfold F_spec_l10Space spaceM
  dsimp only
  rw [get_bind 0 (by rw [hc.len]; decide)]
  simp only [show ((10 : Int)).toNat = 10 from rfl]
  generalize cs.getD 10 0 = t at *
  by_cases h0 : t = 0
  · subst h0
    rw [if_pos (by decide), if_pos rfl]
    show (L_spec_l10Space_5 _).bind _ = _
    rw [specIds]; rfl
  · rw [if_neg (by simpa using h0), if_neg h0, i64_same (n := t - 1) (by omega) (by omega), i64_same (n := (t - 1) * 8) (by omega) (by omega), specWalk_e h.p, Option.bind_some]
    dsimp only
    by_cases h8 : t = 8
    · subst h8; rfl
    · rw [if_pos (by simpa using h8), if_neg h8]
      have hin := walkM_in h ((t - 1) * 8) 1
      have hle := walkM_le h.p ((t - 1) * 8) 1
      generalize walkM l ((t - 1) * 8) 1 = f at *
      by_cases hf : f < 0
      · rw [if_pos (ltI_t.2 hf), if_pos hf]
      · have h2 := (hin (by omega)).2 (by omega)
        rw [if_neg (by rw [ltI_t]; exact hf), if_neg hf, i64_same (by omega) (by omega), if_pos (c := (0 : Int) ≤ f ∧ f ≤ f + 8 ∧ f + 8 ≤ ((m.length : Nat) : Int)) ⟨Int.not_lt.1 hf, by omega, h2⟩, show (f + 8).toNat - f.toNat = 8 by omega]
        have hp := page_words h (f := f) (by omega) h2
        rw [specPagesFrom_e hp.1 hp.2]; rfl

theorem implSpace_e (hc : OkC cs) (h : OkL l m) : F_impl_Hart_space ((r, pc, cs, ha, wa, ru, dn, iq, oq, ()), l, m, ()) =
    some ((match spaceM cs l m with | some s => (0, s, ()) | none => (7, [], ()), ()), ()) := by
  have ht := hc.w (k := 10) (by decide)
  have ht2 := hc.tb
  unfold WW at ht
  unfold F_impl_Hart_space spaceM
  dsimp only
  rw [get_bind 0 (by rw [hc.len]; decide)]
  simp only [show ((10 : Int)).toNat = 10 from rfl]
  generalize cs.getD 10 0 = t at *
  rw [i64_same (n := t - 1) (by omega) (by omega)]
  by_cases h0 : t = 0
  · subst h0
    rw [if_pos (by decide), if_pos rfl]
    show (L_impl_Hart_space_5 _).bind _ = _
    rw [implIds]; rfl
  · have ht1 : 0 ≤ t - 1 := by omega
    rw [if_neg (by rw [ltI_t]; omega), if_neg h0, if_pos ht1]
    have hlen : (t - 1).toNat < l.length := by rw [h.len]; omega
    rw [get_bind ((-1, 0, ()) : TwoD) hlen, get_bind ((-1, 0, ()) : TwoD) hlen, get_bind ((-1, 0, ()) : TwoD) hlen]
    have hat := h.at (k := (t - 1).toNat) (by omega)
    have hw : walkM l ((t - 1) * 8) 1 = if mayP (l.getD (t - 1).toNat (-1, 0, ())) 1 = true then (l.getD (t - 1).toNat (-1, 0, ())).1 * 8 else -1 := by
      unfold walkM
      rw [if_pos (by omega), show (t - 1) * 8 / 8 = t - 1 by omega, show (t - 1) * 8 % 8 = 0 by omega, Int.add_zero]
    rw [hw]
    generalize l.getD (t - 1).toNat (-1, 0, ()) = p at *
    unfold mayP
    by_cases hp0 : 0 ≤ p.1
    · rw [if_pos (ltI_f.2 (by omega)), if_pos ht1]
      by_cases hk : iand .i64 p.2.1 1 = 0
      · rw [if_neg (by simp [hk])]
        by_cases h8 : t = 8
        · rw [if_pos h8]
        · rw [if_neg h8, if_neg (c := (decide (0 ≤ p.1) && !(iand .i64 p.2.1 1 == 0)) = true) (by simp [hk]), if_pos (by decide)]
      · rw [if_pos (by simpa using hk)]
        by_cases h8 : t = 8
        · subst h8; rfl
        · have hne : ¬ t - 1 = 7 := by omega
          rw [if_neg (by simpa using hne), if_pos ht1, if_neg h8, if_pos (c := (decide (0 ≤ p.1) && !(iand .i64 p.2.1 1 == 0)) = true) (by simp [hk, hp0]), if_neg (by omega)]
          have hpo := pageOf_eq m p.1.toNat (by omega) h.mlen
          rw [show ((p.1.toNat : Nat) : Int) = p.1 by omega] at hpo
          rw [hpo, Option.bind_some]
          dsimp only
          rw [show (p.1 * 8).toNat = 8 * p.1.toNat by omega]
          have hpw := page_words h (f := p.1 * 8) (by omega) (by omega)
          rw [show (p.1 * 8).toNat = 8 * p.1.toNat by omega] at hpw
          rw [implPagesFrom_e hpw.1 hpw.2]; rfl
    · rw [if_neg (by rw [ltI_f]; omega)]
      by_cases h8 : t = 8
      · rw [if_pos h8]
      · rw [if_neg h8, if_neg (c := (decide (0 ≤ p.1) && !(iand .i64 p.2.1 1 == 0)) = true) (by simp [hp0]), if_pos (by decide)]

theorem spaceM_ok (hc : OkC cs) (h : OkL l m) {s : List TwoD} (hs : spaceM cs l m = some s) : OkP s ∧ ∀ p ∈ s, p.1 ≤ 7 := by
  have ht := hc.w (k := 10) (by decide)
  have ht2 := hc.tb
  unfold WW at ht
  unfold spaceM at hs
  split at hs
  · obtain rfl := Option.some.inj hs; exact ⟨idsM_ok, by decide⟩
  · split at hs
    · cases hs
    · split at hs
      · cases hs
      · rename_i h8 hf
        obtain rfl := Option.some.inj hs
        have h2 := (walkM_in h ((cs.getD 10 0 - 1) * 8) 1 (by omega)).2 (by omega)
        have hp := page_words h (f := walkM l ((cs.getD 10 0 - 1) * 8) 1) (by omega) h2
        have key : ∀ p ∈ List.map entM (((m.drop (walkM l ((cs.getD 10 0 - 1) * 8) 1).toNat).take 8)), -1 ≤ p.1 ∧ p.1 ≤ 7 := by
          intro p hpm
          obtain ⟨w, hw, rfl⟩ := List.mem_map.1 hpm
          exact entM_ok (hp.2 w hw)
        exact ⟨⟨by rw [List.length_map]; exact hp.1, fun p hm => ⟨(key p hm).1, by have := (key p hm).2; omega⟩⟩, fun p hm => (key p hm).2⟩

/-- Where a place leads: a value, or a code. -/
def placeM (cs : List Int) (l : List TwoD) (m : List Int) (at_ kind : Int) : Int × Int :=
  match spaceM cs l m with
  | none => (0, 7)
  | some s => if walkM s at_ kind < 0 then (0, codeK kind) else if walkM s at_ kind / 8 = 7 then (if kind = 4 then (0, 9) else (1000 + walkM s at_ kind % 8, 0))
    else if walkM l (walkM s at_ kind) kind < 0 then (0, codeK kind) else (walkM l (walkM s at_ kind) kind, 0)

theorem placeM_in (hc : OkC cs) (h : OkL l m) (at_ : Int) (kind : Int) (h0 : (placeM cs l m at_ kind).2 = 0) :
    (1000 ≤ (placeM cs l m at_ kind).1 ∧ (placeM cs l m at_ kind).1 ≤ 1007 ∧ kind ≠ 4) ∨ (0 ≤ (placeM cs l m at_ kind).1 ∧ (placeM cs l m at_ kind).1 < (m.length : Int)) := by
  unfold placeM at *
  cases hs : spaceM cs l m with
  | none => rw [hs] at h0; simp at h0
  | some s =>
    rw [hs] at h0
    simp only at h0 ⊢
    split at h0
    · exact absurd h0 (codeK_ne kind)
    · rename_i h1
      rw [if_neg h1]
      split at h0
      · rename_i h7
        rw [if_pos h7]
        split at h0
        · simp at h0
        · rename_i h4
          rw [if_neg h4]
          left
          simp only
          omega
      · rename_i h7
        rw [if_neg h7]
        split at h0
        · exact absurd h0 (codeK_ne kind)
        · rename_i h2
          rw [if_neg h2]
          right
          exact ⟨by simp only; omega, (walkM_in h _ _ (by omega)).1⟩

theorem specPlace_e (hc : OkC cs) (h : OkL l m) (at_ kind : Int) : F_spec_l10Place ((l, m, ring, (r, pc, cs, ha, wa, ru, dn, iq, oq, ()), fall, ()), at_, kind, ()) =
    some (((placeM cs l m at_ kind).1, (placeM cs l m at_ kind).2, ()), ()) := by
  unfold F_spec_l10Place placeM
  dsimp only
  rw [specSpace_e hc h, Option.bind_some]
  cases hs : spaceM cs l m with
  | none => rfl
  | some s =>
    have hp := (spaceM_ok hc h hs).1
    dsimp only
    rw [if_neg (by decide), specWalk_e hp, Option.bind_some, specCode_e, Option.bind_some]
    dsimp only
    have hle := walkM_le hp at_ kind
    generalize walkM s at_ kind = g at *
    by_cases hg : g < 0
    · rw [if_pos (ltI_t.2 hg), if_pos hg]
    · rw [if_neg (by rw [ltI_t]; exact hg), if_neg hg, Int.tdiv_eq_ediv_of_nonneg (by omega), Int.tmod_eq_emod_of_nonneg (by omega), i64_same (n := g / 8) (by omega) (by omega)]
      by_cases h7 : g / 8 = 7
      · rw [if_pos (by simpa using h7), if_pos h7]
        by_cases h4 : kind = 4
        · rw [if_pos (by simpa using h4), if_pos h4]
        · rw [if_neg (by simpa using h4), if_neg h4, i64_same (by omega) (by omega)]
      · rw [if_neg (by simpa using h7), if_neg h7, specWalk_e h.p, Option.bind_some]
        dsimp only
        by_cases hf : walkM l g kind < 0
        · rw [if_pos (ltI_t.2 hf), if_pos hf]
        · rw [if_neg (by rw [ltI_t]; exact hf), if_neg hf]

theorem implPlace_e (hc : OkC cs) (h : OkL l m) (at_ : Int) {kind : Int} (hk : kind = 1 ∨ kind = 2 ∨ kind = 4) : F_impl_Hart_place ((r, pc, cs, ha, wa, ru, dn, iq, oq, ()), l, m, at_, kind, ()) =
    some ((((placeM cs l m at_ kind).2, (placeM cs l m at_ kind).1, ()), ()), ()) := by
  unfold F_impl_Hart_place placeM
  dsimp only
  rw [implSpace_e hc h, Option.bind_some]
  cases hs : spaceM cs l m with
  | none => rfl
  | some s =>
    have hp := (spaceM_ok hc h hs).1
    dsimp only
    rw [if_neg (by decide), implWalk_e hp _ hk, Option.bind_some]
    dsimp only
    have hle := walkM_le hp at_ kind
    have hcn := codeK_ne kind
    generalize walkM s at_ kind = g at *
    by_cases hg : g < 0
    · rw [if_pos hg]; dsimp only; rw [if_pos (by simpa using hcn), if_pos hg]
    · rw [if_neg hg]; dsimp only
      rw [if_neg (by decide), if_neg hg, Int.tdiv_eq_ediv_of_nonneg (by omega), Int.tmod_eq_emod_of_nonneg (by omega), i64_same (n := g / 8) (by omega) (by omega)]
      by_cases h7 : g / 8 = 7
      · rw [if_neg (by simpa using h7), if_pos h7]
        by_cases h4 : kind = 4
        · rw [if_pos (by simpa using h4), if_pos h4]
        · rw [if_neg (by simpa using h4), if_neg h4, i64_same (by omega) (by omega)]
      · rw [if_pos (by simpa using h7), if_neg h7, implWalk_e h.p _ hk, Option.bind_some]
        by_cases hf : walkM l g kind < 0
        · rw [if_pos hf, if_pos hf]
        · rw [if_neg hf, if_neg hf]

theorem clone_e {q : List Int} (h : q.length ≤ 1048576) : F_slices_Clone_int64 (q, ()) = some ((q, ()), ()) := by
  unfold F_slices_Clone_int64
  dsimp only
  rw [if_pos (by simp; omega)]
  rfl

def readM (cs : List Int) (ru : Bool) (dn : Int) (iq : List Int) (k : Int) : Int × List Int :=
  if k = 1 then (iq.getD 0 0, iq.drop 1) else if k = 2 then (dn, iq) else if k = 3 then (cs.getD 9 0, iq) else if k = 4 then (pendM cs ru dn iq, iq) else if k = 6 then ((iq.length : Int), iq) else (0, iq)

theorem specRead_e (hc : OkC cs) (hq : OkQ iq) (k : Int) : F_spec_l9Read ((r, pc, cs, ha, wa, ru, dn, iq, oq, ()), k, ()) =
    some (((readM cs ru dn iq k).1, ()), ((r, pc, cs, ha, wa, ru, dn, (readM cs ru dn iq k).2, oq, ()), ())) := by
  unfold F_spec_l9Read readM
  dsimp only
  rw [specPend_e hc, Option.bind_some]
  by_cases h1 : k = 1
  · subst h1
    rw [if_pos (by decide), if_pos rfl]
    cases iq with
    | nil => rfl
    | cons w t =>
      rw [if_neg (by simp; omega)]
      simp only [show ((0 : Int)).toNat = 0 from rfl, show ((1 : Int)).toNat = 1 from rfl, List.getElem?_cons_zero, Option.bind_some]
      rw [if_pos (by simp; omega)]
      simp
  rw [if_neg (by simpa using h1), if_neg h1]
  by_cases h2 : k = 2
  · subst h2; rfl
  rw [if_neg (by simpa using h2), if_neg h2]
  by_cases h3 : k = 3
  · subst h3
    rw [if_pos (by decide), if_pos rfl, if_pos (by rw [hc.len]; decide), get_bind 0 (by rw [hc.len]; decide)]; rfl
  rw [if_neg (by simpa using h3), if_neg h3]
  by_cases h4 : k = 4
  · subst h4; rfl
  rw [if_neg (by simpa using h4), if_neg h4]
  by_cases h6 : k = 6
  · subst h6; rfl
  rw [if_neg (by simpa using h6), if_neg h6]

end
end Go.Proofs.YtkbcjonmodmfcaaGreatDoor
