/- Plain laws: what the functions compute, and that both programs compute the same. -/
import Derived.Test.YtopmpmbdkieenaaGreatDoorGa4
namespace Go.Proofs.YtopmpmbdkieenaaGreatDoor
open Go Go.RowKit S Go.Proofs
set_option maxRecDepth 100000
set_option linter.unusedVariables false
set_option linter.unusedSimpArgs false
theorem QsH {m out : List Int} {i : Int} {y : Int} (h0 : 0 ≤ i) (h : i < (m.length : Int)) (hl : out.length = m.length) (hy : m.drop i.toNat = y :: m.drop (i + 1).toNat) :
  (out.set i.toNat y).take (i + 1).toNat ++ m.drop (i + 1).toNat = out.take i.toNat ++ m.drop i.toNat := by
 have e : (i + 1).toNat = i.toNat + 1 := by omega
 rw [hy, e, List.take_add_one, List.take_set_of_le (Nat.le_refl _)]
 rw [List.getElem?_set_self (by omega)]
 simp
theorem QjI (m out : List Int) (i : Int) (h0 : 0 ≤ i) (h1 : i ≤ (m.length : Int)) (h2 : out.length = m.length) (h3 : m.length ≤ maxLen) :
  L_l_3 ((m, out, i, ()), (), ()) = some (.inl ((out.take i.toNat ++ m.drop i.toNat, ()), (), ())) := by
 refine QdI (γ := denO o_l_3) (step := l_l_3) (β := List Int × Int) (fun b => ((m, b.1, b.2, ()), (), ())) (fun b => 0 ≤ b.2 ∧ b.2 ≤ (m.length : Int) ∧ b.1.length = m.length)
  (fun b => some (.inl ((b.1.take b.2.toNat ++ m.drop b.2.toNat, ()), (), ()))) (fun b => (m.length - b.2).toNat) ?_ lots (out, i) ⟨h0, h1, h2⟩ (by rw [QaA] at h3; rw [Qaj]; simp only; omega)
 rintro rec ⟨out, i⟩ ⟨h0, h1, h2⟩ ih
 simp only at h0 h1 h2 ih ⊢
 unfold l_l_3
 simp only [QT, Qad, decide_eq_true_eq, ge_iff_le, gt_iff_lt]
 by_cases hlt : i < (m.length : Int)
 ·obtain ⟨y, hy, _, hd⟩ := Qhu h0 hlt
  have ho : i.toNat < out.length := by omega
  have hb : 0 ≤ i ∧ i < (out.length : Int) := by omega
  rw [if_pos hlt, if_pos h0, hy, Obn, if_pos hb, List.getElem?_eq_getElem ho, Obn, Qho h0 hlt h3]
  rw [ih (_, _) ⟨by simp only; omega, by simp only; omega, by simp only [List.length_set]; exact h2⟩ (by simp only; omega)]
  simp only
  rw [QsH h0 hlt h2 hd]
 ·rw [if_neg hlt, QcQ hlt, List.append_nil, List.take_of_length_le (by omega)]
theorem Qbj (m : List Int) (h : m.length * 8 ≤ 140737488355328) : F_l (m, ()) = some ((m, ()), ()) := by
 unfold F_l
 simp only
 rw [if_pos ?_, QjI _ _ _ (by simp) (by simp) (by simp) (by rw [QaA]; omega)]
 ·simp
 ·refine ⟨trivial, ?_, ?_, ?_⟩ <;> omega
theorem Qjt (m : List Int) (i : Int) (h0 : 0 ≤ i) (h1 : i ≤ (m.length : Int)) (h3 : m.length ≤ maxLen) :
  L_gy_4 ((m, m, i, ()), (), ()) = some (.inl ((), ((), ()))) := by
 refine QdI (γ := denO o_ab_2) (step := l_gy_4) (β := Int) (fun i => ((m, m, i, ()), (), ())) (fun i => 0 ≤ i ∧ i ≤ (m.length : Int)) (fun _ => some (.inl ((), ((), ()))))
  (fun i => (m.length - i).toNat) ?_ lots _ ⟨h0, h1⟩ (by rw [QaA] at h3; rw [Qaj]; omega)
 rintro rec i ⟨h0, h1⟩ ih
 simp only at h0 h1 ih ⊢
 unfold l_gy_4
 simp only [QT, Qad, decide_eq_true_eq, ge_iff_le, gt_iff_lt]
 by_cases hlt : i < (m.length : Int)
 ·obtain ⟨y, hy, _, hd⟩ := Qhu h0 hlt
  rw [if_pos hlt, if_pos h0, hy, Obn, if_pos h0, Obn, if_neg (by simp), Qho h0 hlt h3]
  exact ih _ ⟨by omega, by omega⟩ (by omega)
 ·rw [if_neg hlt]
theorem Qbe (m : List Int) (h : m.length ≤ maxLen) : F_gy (m, m, ()) = some ((true, ()), ()) := by
 unfold F_gy
 simp only
 rw [if_neg (by simp), Qjt _ _ (by simp) (by simp) h]
 simp
def okW (w : Int) : Bool := decide (w ≥ 0) && decide (w ≤ 4294967295)
def allW (m : List Int) : Bool := m.all okW
theorem Qbv (n a b : Int) : F_aa (n, a, b, ()) = some ((decide (n ≥ a) && decide (n ≤ b), ()), ()) := by
 unfold F_aa
 simp only [QT, Qad, decide_eq_true_eq, ge_iff_le, gt_iff_lt]
 split
 ·rename_i h; simp [h]
 ·rename_i h; simp [h]
theorem QaY (n a b : Int) : F_cz (n, a, b, ()) = some ((decide (n ≥ a) && decide (n ≤ b), ()), ()) := by
 unfold F_cz
 simp only [QT, Qad, decide_eq_true_eq, ge_iff_le, gt_iff_lt]
 split
 ·rename_i h; simp [h]
 ·rename_i h; simp [h]
theorem Qki (n : Int) : F_ds (n, ()) = some ((okW n, ()), ()) := by
 unfold F_ds
 rw [QaY, Obn]
 rfl
theorem Qli (n : Int) : F_dt_1 (n, ()) = some ((!okW n, ()), ()) := by
 unfold F_dt_1
 rw [Qki, Obn]
theorem QjQ {y : Int} {r : List Int} : allW (y :: r) = (okW y && allW r) := rfl
theorem Qpk (m : List Int) (i : Int) (h0 : 0 ≤ i) (h1 : i ≤ (m.length : Int)) (h3 : m.length ≤ maxLen) :
  (allW (m.drop i.toNat) = true ∧ L_dv_2 ((m, (), ((m.length : Nat) : Int), i, ()), (), ()) = some (.inl ((), (), ()))) ∨
  (allW (m.drop i.toNat) = false ∧ ∃ k : Int, 0 ≤ k ∧ L_dv_2 ((m, (), ((m.length : Nat) : Int), i, ()), (), ()) = some (.inr (.inl ((k, ()), (), ())))) := by
 have key : ∀ (n : Nat) (i : Int), (m.length - i).toNat < n → 0 ≤ i → i ≤ (m.length : Int) →
   (allW (m.drop i.toNat) = true ∧ Qc l_dv_2 n ((m, (), ((m.length : Nat) : Int), i, ()), (), ()) = some (.inl ((), (), ()))) ∨
   (allW (m.drop i.toNat) = false ∧ ∃ k : Int, 0 ≤ k ∧ Qc l_dv_2 n ((m, (), ((m.length : Nat) : Int), i, ()), (), ()) = some (.inr (.inl ((k, ()), (), ())))) := by
  intro n
  induction n with
  | zero => intro i h; omega
  | succ n ih =>
   intro i hm h0 h1
   simp only [Qc]
   generalize Qc l_dv_2 n = rec at ih ⊢
   unfold l_dv_2
   simp only [QT, Qad, decide_eq_true_eq, ge_iff_le, gt_iff_lt]
   by_cases hlt : i < (m.length : Int)
   ·obtain ⟨y, hy, _, hd⟩ := Qhu h0 hlt
    rw [if_pos hlt, if_pos h0, hy, Obn, Qli, Obn, Qho h0 hlt h3, hd, QjQ]
    cases hw : okW y with
    | true => simpa using ih (i + 1) (by omega) (by omega) (by omega)
    | false => exact .inr ⟨by simp, i, h0, by simp⟩
   ·rw [if_neg hlt, QcQ hlt]
    exact .inl ⟨rfl, rfl⟩
 exact key lots i (by rw [QaA] at h3; rw [Qaj]; omega) h0 h1
theorem QbB (m : List Int) (h : m.length ≤ maxLen) : F_dt (m, ()) = some ((allW m, ()), ()) := by
 unfold F_dt F_dw_1 F_du_1
 simp only
 rcases Qpk m 0 (by simp) (by simp) h with ⟨h1, h2⟩ | ⟨h1, k, h2, h3⟩
 ·simp only [Int.toNat_zero, List.drop_zero] at h1
  rw [h2, h1]; rfl
 ·simp only [Int.toNat_zero, List.drop_zero] at h1
  rw [h3, h1]
  simp [h2, Qad]
def QC (m : List Int) : Int := if m.length % 8 = 0 ∧ 8 ≤ m.length ∧ m.length ≤ 192 then (if allW m = true then 0 else 3) else 1
theorem Qgw (m : List Int) (h : m.length ≤ maxLen) : F_dx (m, ()) = some ((QC m, ()), ()) := by
 unfold F_dx QC
 rw [QbB m h]
 simp only [Obn, QT, Qad, beq_eq_false_iff_ne, decide_eq_false_iff_not, bne_iff_ne]
 have e : ((m.length : Nat) : Int).tmod 8 = ((m.length % 8 : Nat) : Int) := rfl
 rw [e]
 by_cases h1 : ((m.length : Nat) : Int) ≠ 0
 ·rw [if_pos h1]
  by_cases h2 : ¬ ((m.length : Nat) : Int) > 192
  ·rw [if_pos h2]
   by_cases h3 : ((m.length % 8 : Nat) : Int) ≠ 0
   ·rw [if_pos h3, if_neg (by omega)]
   ·have hc : m.length % 8 = 0 ∧ 8 ≤ m.length ∧ m.length ≤ 192 := by omega
    rw [if_neg h3, if_pos hc]
    cases allW m <;> rfl
  ·rw [if_neg h2, if_neg (by omega)]
 ·rw [if_neg h1, if_neg (by omega)]
theorem Qjb (m : List Int) (i : Int) (h0 : 0 ≤ i) (h1 : i ≤ (m.length : Int)) (h3 : m.length ≤ maxLen) :
  L_ak_4 ((m, i, ()), (), ()) = some (if allW (m.drop i.toNat) = true then .inl ((), (), ()) else .inr (.inl ((3, ()), (), ()))) := by
 refine QdI (γ := denO o_ah_4) (step := l_ak_4) (β := Int) (fun i => ((m, i, ()), (), ())) (fun i => 0 ≤ i ∧ i ≤ (m.length : Int)) (fun i => some (if allW (m.drop i.toNat) = true then .inl ((), (), ()) else .inr (.inl ((3, ()), (), ()))))
  (fun i => (m.length - i).toNat) ?_ lots _ ⟨h0, h1⟩ (by rw [QaA] at h3; rw [Qaj]; omega)
 rintro rec i ⟨h0, h1⟩ ih
 simp only at h0 h1 ih ⊢
 unfold l_ak_4
 simp only [QT, Qad, decide_eq_true_eq, ge_iff_le, gt_iff_lt]
 by_cases hlt : i < (m.length : Int)
 ·obtain ⟨y, hy, _, hd⟩ := Qhu h0 hlt
  rw [if_pos hlt, if_pos h0, hy, Obn, Qbv, Obn, Qho h0 hlt h3, hd, QjQ]
  show (if (!okW y) = true then _ else _) = _
  cases hw : okW y with
  | true => simpa using ih (i + 1) ⟨by omega, by omega⟩ (by omega)
  | false => simp
 ·rw [if_neg hlt, QcQ hlt]
  rfl
theorem QgJ (m : List Int) (h : m.length ≤ maxLen) : F_ak (m, ()) = some ((QC m, ()), ()) := by
 unfold F_ak QC
 simp only [QT, Qad, beq_eq_false_iff_ne, decide_eq_false_iff_not, bne_eq_false_iff_eq, decide_eq_true_eq]
 have e : ((m.length : Nat) : Int).tmod 8 = ((m.length % 8 : Nat) : Int) := rfl
 rw [e]
 by_cases h1 : ((m.length % 8 : Nat) : Int) = 0
 ·rw [if_pos h1]
  by_cases h2 : ¬ ((m.length : Nat) : Int) < 8
  ·rw [if_pos h2]
   by_cases h3 : ((m.length : Nat) : Int) > 192
   ·rw [if_pos h3, if_neg (by omega)]
   ·rw [if_neg h3, if_pos (by omega), Qjb m 0 (by simp) (by simp) h]
    simp only [Int.toNat_zero, List.drop_zero]
    cases allW m <;> rfl
  ·rw [if_neg h2, if_neg (by omega)]
 ·rw [if_neg h1, if_neg (by omega)]
theorem QjG (m m2 : List Int) (i : Int) (h0 : 0 ≤ i) (h1 : i ≤ (m.length : Int)) (h2 : m2.length = m.length) (h3 : m.length ≤ maxLen) :
  L_bf_4 ((m, m2, i, ()), (), ()) = some (if m.drop i.toNat = m2.drop i.toNat then .inl ((), (), ()) else .inr (.inl ((false, ()), (), ()))) := by
 refine QdI (γ := denO o_ab_2) (step := l_bf_4) (β := Int) (fun i => ((m, m2, i, ()), (), ())) (fun i => 0 ≤ i ∧ i ≤ (m.length : Int)) (fun i => some (if m.drop i.toNat = m2.drop i.toNat then .inl ((), (), ()) else .inr (.inl ((false, ()), (), ()))))
  (fun i => (m.length - i).toNat) ?_ lots _ ⟨h0, h1⟩ (by rw [QaA] at h3; rw [Qaj]; omega)
 rintro rec i ⟨h0, h1⟩ ih
 simp only at h0 h1 ih ⊢
 unfold l_bf_4
 simp only [QT, decide_eq_true_eq]
 by_cases hlt : i < (m.length : Int)
 ·obtain ⟨y, hy, _, hd⟩ := Qhu h0 hlt
  obtain ⟨z, hz, _, hd2⟩ := Qhu (m := m2) h0 (by omega)
  rw [if_pos hlt, if_pos h0, hy, Obn, if_pos h0, hz, Obn, Qho h0 hlt h3, hd, hd2]
  by_cases e : y = z
  ·subst e
   rw [if_neg (by simp), ih _ ⟨by omega, by omega⟩ (by omega)]
   simp
  ·rw [if_pos (by simpa using e)]
   simp [e]
 ·rw [if_neg hlt, QcQ hlt, QcQ (by omega)]
  simp
theorem QbK (x : denP P_ba) (h : x.1.length ≤ maxLen) : F_bf x = some ((decide (x.1 = x.2.1), ()), ()) := by
 obtain ⟨m, m2, _⟩ := x
 unfold F_bf
 simp only at h ⊢
 by_cases e : m.length = m2.length
 ·have e' : ((m.length : Nat) : Int) = (m2.length : Nat) := by omega
  rw [if_neg (by simp; exact e'), QjG m m2 0 (by simp) (by simp) e.symm h]
  simp only [Int.toNat_zero, List.drop_zero]
  by_cases e2 : m = m2
  ·simp [e2]
  ·simp [e2]
 ·have e' : ¬ ((m.length : Nat) : Int) = (m2.length : Nat) := by omega
  rw [if_pos (by simp; exact e')]
  have : m ≠ m2 := fun e2 => e (by rw [e2])
  simp [this]
theorem Qjy (m m2 : List Int) (i : Int) (h0 : 0 ≤ i) (h1 : i ≤ (m.length : Int)) (h2 : m2.length = m.length) (h3 : m.length ≤ maxLen) :
  L_ex_4 ((m, m2, ((m.length : Nat) : Int), i, ()), (), ()) = some (if m.drop i.toNat = m2.drop i.toNat then .inl ((), (), ()) else .inr (.inl ((false, ()), (), ()))) := by
 refine QdI (γ := denO o_ab_2) (step := l_ex_4) (β := Int) (fun i => ((m, m2, ((m.length : Nat) : Int), i, ()), (), ())) (fun i => 0 ≤ i ∧ i ≤ (m.length : Int)) (fun i => some (if m.drop i.toNat = m2.drop i.toNat then .inl ((), (), ()) else .inr (.inl ((false, ()), (), ()))))
  (fun i => (m.length - i).toNat) ?_ lots _ ⟨h0, h1⟩ (by rw [QaA] at h3; rw [Qaj]; omega)
 rintro rec i ⟨h0, h1⟩ ih
 simp only at h0 h1 ih ⊢
 unfold l_ex_4
 simp only [QT, decide_eq_true_eq]
 by_cases hlt : i < (m.length : Int)
 ·obtain ⟨y, hy, _, hd⟩ := Qhu h0 hlt
  obtain ⟨z, hz, _, hd2⟩ := Qhu (m := m2) h0 (by omega)
  rw [if_pos hlt, if_pos h0, hy, Obn, if_pos h0, hz, Obn, Qho h0 hlt h3, hd, hd2]
  by_cases e : y = z
  ·subst e
   rw [if_neg (by simp), ih _ ⟨by omega, by omega⟩ (by omega)]
   simp
  ·rw [if_pos (by simpa using e)]
   simp [e]
 ·rw [if_neg hlt, QcQ hlt, QcQ (by omega)]
  simp
theorem QbE (x : denP P_ba) (h : x.1.length ≤ maxLen) : F_ex x = some ((decide (x.1 = x.2.1), ()), ()) := by
 obtain ⟨m, m2, _⟩ := x
 unfold F_ex
 simp only at h ⊢
 by_cases e : m.length = m2.length
 ·have e' : ((m.length : Nat) : Int) = (m2.length : Nat) := by omega
  rw [if_neg (by simp; exact e'), Qjy m m2 0 (by simp) (by simp) e.symm h]
  simp only [Int.toNat_zero, List.drop_zero]
  by_cases e2 : m = m2
  ·simp [e2]
  ·simp [e2]
 ·have e' : ¬ ((m.length : Nat) : Int) = (m2.length : Nat) := by omega
  rw [if_pos (by simp; exact e')]
  have : m ≠ m2 := fun e2 => e (by rw [e2])
  simp [this]
abbrev QJ := den (.pair (.slice (.int .i64)) (.pair (.int .i64) (.pair (.slice (.int .i64)) (.pair .bool (.pair .bool (.pair .bool (.pair (.int .i64) (.pair (.slice (.int .i64)) (.pair (.slice (.int .i64)) .unit)))))))))
abbrev QtQ := QJ × List Int × List Int × Unit
def Qam (n : Nat) (h : QJ) : Prop := h.1.length ≤ n ∧ h.2.2.1.length ≤ n ∧ h.2.2.2.2.2.2.2.1.length ≤ n ∧ h.2.2.2.2.2.2.2.2.1.length ≤ n
def Qpi (n : Nat) (v : QtQ) : Prop := Qam n v.1 ∧ v.2.1.length ≤ n ∧ v.2.2.1.length ≤ n
theorem Qsa (x : denP P_bg) (h : Qam maxLen x.1) : ∃ b, F_bg x = some ((b, ()), ()) ∧ F_ey x = some ((b, ()), ()) := by
 obtain ⟨h1, h2, h3, h4⟩ := h
 unfold F_bg F_ey
 rw [QbK (x.1.1, x.2.1.1, ()) h1, QbK (x.1.2.2.1, x.2.1.2.2.1, ()) h2, QbK (x.1.2.2.2.2.2.2.2.1, x.2.1.2.2.2.2.2.2.2.1, ()) h3, QbK (x.1.2.2.2.2.2.2.2.2.1, x.2.1.2.2.2.2.2.2.2.2.1, ()) h4]
 rw [QbE (x.1.1, x.2.1.1, ()) h1, QbE (x.1.2.2.1, x.2.1.2.2.1, ()) h2, QbE (x.1.2.2.2.2.2.2.2.1, x.2.1.2.2.2.2.2.2.2.1, ()) h3, QbE (x.1.2.2.2.2.2.2.2.2.1, x.2.1.2.2.2.2.2.2.2.2.1, ()) h4]
 simp only [Obn]
 repeat' split
 all_goals exact ⟨_, rfl, rfl⟩
theorem QsZ (x : denP P_bh) (h : Qpi maxLen x.1) : ∃ b, F_bh x = some ((b, ()), ()) ∧ F_ez x = some ((b, ()), ()) := by
 obtain ⟨h1, h2, h3⟩ := h
 obtain ⟨b, e1, e2⟩ := Qsa (x.1.1, x.2.1.1, ()) h1
 unfold F_bh F_ez
 rw [e1, e2, QbK (x.1.2.1, x.2.1.2.1, ()) h2, QbK (x.1.2.2.1, x.2.1.2.2.1, ()) h3, QbE (x.1.2.1, x.2.1.2.1, ()) h2, QbE (x.1.2.2.1, x.2.1.2.2.1, ()) h3]
 simp only [Obn]
 repeat' split
 all_goals exact ⟨_, rfl, rfl⟩
theorem Qdd (m : List Int) (n : Int) (h0 : 0 ≤ n) (h1 : n ≤ 1048576) (h2 : m.length ≤ maxLen) : ∃ r : Int, F_a (m, n, ()) = some ((r, ()), ()) ∧ (r < 0 ∨ (0 ≤ r ∧ r ≤ n ∧ m.length ≤ 1048576)) := by
 unfold F_a
 have hw : IntKind.i64.wrap (n - (m.length : Int)) = n - (m.length : Int) := by
  rw [QaA] at h2
  exact QP (by omega) (by omega)
 simp only [QT, decide_eq_true_eq]
 by_cases hlt : n - (m.length : Int) < 0
 ·exact ⟨-1, by rw [if_pos (show IntKind.i64.wrap (n - (m.length : Int)) < 0 by rw [hw]; exact hlt)], .inl (by omega)⟩
 ·exact ⟨n - (m.length : Int), by rw [if_neg (show ¬ IntKind.i64.wrap (n - (m.length : Int)) < 0 by rw [hw]; exact hlt), hw], .inr ⟨by omega, by omega, by omega⟩⟩
theorem QkK (h : QJ) (n : Int) (h0 : 0 ≤ n) (h1 : n ≤ 1048576) (h2 : Qam maxLen h) : ∃ r : Int, F_g (h, n, ()) = some ((r, ()), ()) ∧ (r < 0 ∨ (0 ≤ r ∧ r ≤ n ∧ Qam 1048576 h)) := by
 obtain ⟨a1, a2, a3, a4⟩ := h2
 unfold F_g
 simp only [QT, decide_eq_true_eq]
 obtain ⟨r1, e1, c1⟩ := Qdd h.1 n h0 h1 a1
 rw [e1, Obn]
 by_cases d1 : r1 < 0
 ·exact ⟨-1, by rw [if_pos d1], .inl (by omega)⟩
 rw [if_neg d1]
 have c1 := c1.resolve_left d1
 obtain ⟨r2, e2, c2⟩ := Qdd h.2.2.1 r1 (by omega) (by omega) a2
 rw [e2, Obn]
 by_cases d2 : r2 < 0
 ·exact ⟨-1, by rw [if_pos d2], .inl (by omega)⟩
 rw [if_neg d2]
 have c2 := c2.resolve_left d2
 obtain ⟨r3, e3, c3⟩ := Qdd h.2.2.2.2.2.2.2.1 r2 (by omega) (by omega) a3
 rw [e3, Obn]
 by_cases d3 : r3 < 0
 ·exact ⟨-1, by rw [if_pos d3], .inl (by omega)⟩
 rw [if_neg d3]
 have c3 := c3.resolve_left d3
 obtain ⟨r4, e4, c4⟩ := Qdd h.2.2.2.2.2.2.2.2.1 r3 (by omega) (by omega) a4
 rw [e4, Obn]
 by_cases d4 : r4 < 0
 ·exact ⟨-1, by rw [if_pos d4], .inl (by omega)⟩
 rw [if_neg d4]
 have c4 := c4.resolve_left d4
 exact ⟨r4, rfl, .inr ⟨by omega, by omega, c1.2.2, c2.2.2, c3.2.2, c4.2.2⟩⟩
theorem le8 {n : Nat} (h : n ≤ 1048576) : n * 8 ≤ 140737488355328 := by omega
theorem leM {n : Nat} (h : n ≤ 1048576) : n ≤ maxLen := by rw [QaA]; omega
theorem QkN (h : QJ) (hl : Qam 1048576 h) : F_u (h, ()) = some ((h, ()), ()) := by
 obtain ⟨a1, a2, a3, a4⟩ := hl
 unfold F_u
 rw [Qbj h.1 (le8 a1), Obn, Qbj h.2.2.1 (le8 a2), Obn, Qbj h.2.2.2.2.2.2.2.1 (le8 a3), Obn, Qbj h.2.2.2.2.2.2.2.2.1 (le8 a4), Obn]
theorem QjX (h : QJ) (hl : Qam 1048576 h) : F_hh (h, h, ()) = some ((true, ()), ()) := by
 obtain ⟨a1, a2, a3, a4⟩ := hl
 unfold F_hh
 rw [Qbe h.1 (leM a1), Obn, if_neg (by simp), if_neg (by simp), Qbe h.2.2.1 (leM a2), Obn, if_neg (by simp), if_neg (by simp), if_neg (by simp), if_neg (by simp), if_neg (by simp),
  Qbe h.2.2.2.2.2.2.2.1 (leM a3), Obn, if_neg (by simp), Qbe h.2.2.2.2.2.2.2.2.1 (leM a4), Obn, if_neg (by simp)]
def Qbw (k : Int) : Nat → List Int
 | 0 => []
 | n + 1 => k :: Qbw (k + 1) n
theorem QhK : ∀ (n : Nat) (k : Int), (Qbw k n).length = n
 | 0, _ => rfl
 | n + 1, k => by simp [Qbw, QhK n]
theorem Qkx (m : List Int) (p : Nat) (h : 8 * p + 8 ≤ m.length) (h2 : m.length ≤ 192) : F_et (m, (p : Int), ()) = some (((m.drop (8 * p)).take 8, ()), ()) := by
 unfold F_et F_el
 simp only
 rw [QP (n := (p : Int) * 8) (by omega) (by omega), QP (n := (p : Int) + 1) (by omega) (by omega), QP (n := ((p : Int) + 1) * 8) (by omega) (by omega)]
 rw [if_pos ⟨by omega, by omega, by omega⟩]
 have e1 : ((p : Int) * 8).toNat = 8 * p := by omega
 have e2 : (((p : Int) + 1) * 8).toNat - 8 * p = 8 := by omega
 rw [e1, e2, if_pos (by simp; omega), Obn]
 simp
theorem QbZ (x y : Int) : F_ee ([x, y], ()) = some ((if x ≠ 0 then x else y, ()), ()) := by
 have key : L_ee_2 (([x, y], 2, 0, ()), (), ()) = some (if x ≠ 0 then .inr (.inl ((x, ()), (), ())) else if y ≠ 0 then .inr (.inl ((y, ()), (), ())) else .inl ((), (), ())) := by
  have e : lots = (18446744073709551613 + 1) + 1 + 1 := rfl
  show Qc l_ee_2 lots _ = _
  rw [e]
  generalize 18446744073709551613 = n
  have w1 : IntKind.i64.wrap ((0 : Int) + 1) = 1 := QP (by omega) (by omega)
  have w2 : IntKind.i64.wrap ((1 : Int) + 1) = 2 := QP (by omega) (by omega)
  have s3 : Qc l_ee_2 (n + 1) (([x, y], 2, 2, ()), (), ()) = some (.inl ((), (), ())) := by
   simp only [Qc]
   generalize Qc l_ee_2 n = rec
   unfold l_ee_2
   simp [QT]
  have s2 : Qc l_ee_2 (n + 1 + 1) (([x, y], 2, 1, ()), (), ()) = some (if y ≠ 0 then .inr (.inl ((y, ()), (), ())) else .inl ((), (), ())) := by
   rw [show Qc l_ee_2 (n + 1 + 1) (([x, y], 2, 1, ()), (), ()) = l_ee_2 (Qc l_ee_2 (n + 1)) (([x, y], 2, 1, ()), (), ()) from rfl]
   generalize Qc l_ee_2 (n + 1) = rec at s3 ⊢
   unfold l_ee_2
   simp only [QT]
   rw [if_pos (by decide), if_pos (by decide)]
   show (some y).bind _ = _
   rw [Obn, w2, s3]
   by_cases h : y = 0
   ·subst h; simp
   ·rw [if_pos (by simp; exact h)]; simp [h]
  rw [show Qc l_ee_2 (n + 1 + 1 + 1) (([x, y], 2, 0, ()), (), ()) = l_ee_2 (Qc l_ee_2 (n + 1 + 1)) (([x, y], 2, 0, ()), (), ()) from rfl]
  generalize Qc l_ee_2 (n + 1 + 1) = rec at s2 ⊢
  unfold l_ee_2
  simp only [QT]
  rw [if_pos (by decide), if_pos (by decide)]
  show (some x).bind _ = _
  rw [Obn, w1, s2]
  by_cases h : x = 0
  ·subst h; simp
  ·rw [if_pos (by simp; exact h)]; simp [h]
 unfold F_ee
 simp only
 show (L_ee_2 (([x, y], 2, 0, ()), (), ())).bind _ = _
 rw [key, Obn]
 by_cases h : x = 0
 ·subst h
  by_cases h2 : y = 0
  ·subst h2; simp
  ·simp [h2]
 ·simp [h]
theorem QfA {m : List Int} (h : QC m = 0) : m.length % 8 = 0 ∧ 8 ≤ m.length ∧ m.length ≤ 192 := by
 unfold QC at h
 split at h
 ·assumption
 ·omega
theorem QbX {X γ σ : Type} {step : (X → Option γ) → X → Option γ} (emb : Nat → σ → X) (N : Nat) (hN : N < lots) (I : Nat → σ → Prop) (out : Nat → σ → Option γ)
  (h : ∀ rec i s, i ≤ N → I i s → (∀ s', i < N → I (i + 1) s' → rec (emb (i + 1) s') = out (i + 1) s') → step rec (emb i s) = out i s) :
  ∀ i s, i ≤ N → I i s → Qc step lots (emb i s) = out i s := by
 have key : ∀ n i s, N - i < n → i ≤ N → I i s → Qc step n (emb i s) = out i s := by
  intro n
  induction n with
  | zero => intro i s h; omega
  | succ n ih =>
   intro i s hn hi hI
   simp only [Qc]
   exact h _ i s hi hI fun s' hlt hI' => ih (i + 1) s' (by omega) (by omega) hI'
 intro i s hi hI
 exact key lots i s (by omega) hi hI
theorem QW {n : Nat} (h : n ≤ 9223372036854775807) : n < lots := by rw [Qaj]; omega
theorem QK {i : Nat} (h : i < 9223372036854775807) : IntKind.i64.wrap ((i : Int) + 1) = ((i + 1 : Nat) : Int) := by rw [QP (by omega) (by omega)]; rfl
theorem nat0 {i : Nat} : (0 : Int) ≤ (i : Int) := Int.natCast_nonneg i
theorem Ql {α γ : Type} {m : List α} {i : Nat} (h : i < m.length) (K : α → Option γ) : (m[((i : Nat) : Int).toNat]?).bind K = K m[i] := by
 rw [Int.toNat_natCast, List.getElem?_eq_getElem h, Obn]
theorem QaB {α : Type} {m : List α} {i : Nat} (h : i < m.length) : m.drop i = m[i] :: m.drop (i + 1) := List.drop_eq_getElem_cons h
theorem QaJ {α : Type} {m : List α} {i : Nat} (h : ¬ i < m.length) : m.drop i = [] := List.drop_of_length_le (by omega)
theorem ltN {a b : Nat} : ltI (a : Int) (b : Int) = decide (a < b) := by
 rw [QT]; by_cases h : a < b
 ·have : (a : Int) < b := by omega
  simp [h, this]
 ·have : ¬ (a : Int) < b := by omega
  simp [h, this]
theorem QU {a b : Int} : ltI a b = true ↔ a < b := by rw [QT]; simp
theorem QaZ {a b : Int} : leI a b = true ↔ a ≤ b := by rw [Qad]; simp
theorem QaQ {a b : Int} : ltI a b = false ↔ ¬ a < b := by rw [QT]; simp
theorem QsS {α β E : Type} {step : ((List α × List α × Int × Unit) × Unit × Unit → Option (((List α × Unit) × Unit × Unit) ⊕ E)) → (List α × List α × Int × Unit) × Unit × Unit → Option (((List α × Unit) × Unit × Unit) ⊕ E)}
  {f : α → Option β} {g : β → α}
  (hstep : ∀ rec m out i, step rec ((m, out, i, ()), (), ()) = if ltI i ((m.length : Nat) : Int) = true then (if 0 ≤ i then (m[i.toNat]?).bind fun y => (f y).bind fun r =>
   if 0 ≤ i ∧ i < ((out.length : Nat) : Int) then (out[i.toNat]?).bind fun _ => rec ((m, out.set i.toNat (g r), IntKind.i64.wrap (i + 1), ()), (), ()) else none else none) else some (.inl ((out, ()), (), ())))
  (m : List α) (hm : m.length ≤ 9223372036854775807) (hf : ∀ y ∈ m, ∃ r, f y = some r ∧ g r = y) (z : α) :
  Qc step lots ((m, List.replicate m.length z, 0, ()), (), ()) = some (.inl ((m, ()), (), ())) := by
 have key := QbX (step := step) (fun i (out : List α) => ((m, out, ((i : Nat) : Int), ()), (), ())) m.length (QW hm) (fun i out => out.length = m.length ∧ out.take i = m.take i) (fun _ _ => some (.inl ((m, ()), (), ()))) ?_ 0 (List.replicate m.length z) (by omega) ⟨by simp, by simp⟩
 ·exact key
 ·rintro rec i out hi ⟨hl, ht⟩ ih
  rw [hstep, ltN]
  by_cases hlt : i < m.length
  ·obtain ⟨r, h1, h2⟩ := hf m[i] (List.getElem_mem hlt)
   have hb : (0 : Int) ≤ (i : Int) ∧ (i : Int) < ((out.length : Nat) : Int) := by omega
   rw [if_pos (by simpa using hlt), if_pos nat0, Ql hlt, h1, Obn, if_pos hb, Ql (by omega), QK (by omega), Int.toNat_natCast]
   refine ih _ hlt ⟨by simp [hl], ?_⟩
   rw [List.take_add_one, List.take_set_of_le (Nat.le_refl _), List.getElem?_set_self (by omega), h2, ht, List.take_add_one, List.getElem?_eq_getElem hlt]
  ·rw [if_neg (by simpa using hlt)]
   have : out = m := by
    rw [List.take_of_length_le (by omega), List.take_of_length_le (by omega)] at ht
    exact ht
   rw [this]
theorem Qfo {α β E : Type} {z : α} {by_ : Nat} {F : List α × Unit → Option ((List α × Unit) × Unit)} {step : ((List α × List α × Int × Unit) × Unit × Unit → Option (((List α × Unit) × Unit × Unit) ⊕ E)) → (List α × List α × Int × Unit) × Unit × Unit → Option (((List α × Unit) × Unit × Unit) ⊕ E)}
  {f : α → Option β} {g : β → α} {K : (((List α × Unit) × Unit × Unit) ⊕ E) → Option ((List α × Unit) × Unit)}
  (hF : ∀ m, F (m, ()) = if ((m.length : Nat) : Int) = ((m.length : Nat) : Int) ∧ 0 ≤ ((m.length : Nat) : Int) ∧ ((m.length : Nat) : Int) * (by_ : Int) ≤ 140737488355328 ∧ ((m.length : Nat) : Int) ≤ 9223372036854775807 then
   (Qc step lots ((m, List.replicate ((m.length : Nat) : Int).toNat z, 0, ()), (), ())).bind K else none)
  (hK : ∀ x, K (.inl x) = some ((x.1.1, ()), ()))
  (hstep : ∀ rec m out i, step rec ((m, out, i, ()), (), ()) = if ltI i ((m.length : Nat) : Int) = true then (if 0 ≤ i then (m[i.toNat]?).bind fun y => (f y).bind fun r =>
   if 0 ≤ i ∧ i < ((out.length : Nat) : Int) then (out[i.toNat]?).bind fun _ => rec ((m, out.set i.toNat (g r), IntKind.i64.wrap (i + 1), ()), (), ()) else none else none) else some (.inl ((out, ()), (), ())))
  (hb : by_ ≤ 1000) (m : List α) (hm : m.length ≤ 1048576) (hf : ∀ y ∈ m, ∃ r, f y = some r ∧ g r = y) : F (m, ()) = some ((m, ()), ()) := by
 have h1 : ((m.length : Nat) : Int) * (by_ : Int) ≤ 140737488355328 := by
  have : m.length * by_ ≤ 1048576 * 1000 := Nat.mul_le_mul hm hb
  have h2 : ((m.length * by_ : Nat) : Int) ≤ 1048576 * 1000 := by omega
  rw [Int.natCast_mul] at h2
  omega
 rw [hF, if_pos ⟨rfl, by omega, h1, by omega⟩, Int.toNat_natCast, QsS hstep m (by omega) hf, Obn, hK]
theorem QrU {α E : Type} {step : ((List α × List α × Int × Unit) × Unit × Unit → Option ((Unit × Unit × Unit) ⊕ E)) → (List α × List α × Int × Unit) × Unit × Unit → Option ((Unit × Unit × Unit) ⊕ E)} {f : α → α → Option ((Bool × Unit) × Unit)} {no : Option ((Unit × Unit × Unit) ⊕ E)}
  (hstep : ∀ rec a b i, step rec ((a, b, i, ()), (), ()) = if ltI i ((a.length : Nat) : Int) = true then (if 0 ≤ i then (a[i.toNat]?).bind fun y => if 0 ≤ i then (b[i.toNat]?).bind fun y' => (f y y').bind fun r =>
   if (!r.1.1) = true then no else rec ((a, b, IntKind.i64.wrap (i + 1), ()), (), ()) else none else none) else some (.inl ((), (), ())))
  (m : List α) (hm : m.length ≤ 9223372036854775807) (hf : ∀ y ∈ m, f y y = some ((true, ()), ())) : Qc step lots ((m, m, 0, ()), (), ()) = some (.inl ((), (), ())) := by
 have key := QbX (step := step) (fun i (_ : Unit) => ((m, m, ((i : Nat) : Int), ()), (), ())) m.length (QW hm) (fun _ _ => True) (fun _ _ => some (.inl ((), (), ()))) ?_ 0 () (by omega) trivial
 ·exact key
 ·rintro rec i _ hi _ ih
  rw [hstep, ltN]
  by_cases hlt : i < m.length
  ·rw [if_pos (by simpa using hlt), if_pos nat0, Ql hlt, if_pos nat0, Ql hlt, hf _ (List.getElem_mem hlt), Obn, if_neg (by simp), QK (by omega)]
   exact ih () hlt trivial
  ·rw [if_neg (by simpa using hlt)]
theorem Qfa {α E : Type} {F : List α × List α × Unit → Option ((Bool × Unit) × Unit)} {step : ((List α × List α × Int × Unit) × Unit × Unit → Option ((Unit × Unit × Unit) ⊕ E)) → (List α × List α × Int × Unit) × Unit × Unit → Option ((Unit × Unit × Unit) ⊕ E)}
  {f : α → α → Option ((Bool × Unit) × Unit)} {no : Option ((Unit × Unit × Unit) ⊕ E)} {K : (Unit × Unit × Unit) ⊕ E → Option ((Bool × Unit) × Unit)}
  (hF : ∀ m, F (m, m, ()) = if (((m.length : Nat) : Int) != ((m.length : Nat) : Int)) = true then some ((false, ()), ()) else (Qc step lots ((m, m, 0, ()), (), ())).bind K)
  (hK : ∀ x, K (.inl x) = some ((true, ()), ()))
  (hstep : ∀ rec a b i, step rec ((a, b, i, ()), (), ()) = if ltI i ((a.length : Nat) : Int) = true then (if 0 ≤ i then (a[i.toNat]?).bind fun y => if 0 ≤ i then (b[i.toNat]?).bind fun y' => (f y y').bind fun r =>
   if (!r.1.1) = true then no else rec ((a, b, IntKind.i64.wrap (i + 1), ()), (), ()) else none else none) else some (.inl ((), (), ())))
  (m : List α) (hm : m.length ≤ 9223372036854775807) (hf : ∀ y ∈ m, f y y = some ((true, ()), ())) : F (m, m, ()) = some ((true, ()), ()) := by
 rw [hF, if_neg (by simp), QrU hstep m hm hf, Obn, hK]
theorem QsN {α E : Type} {step : ((List α × Int × Int × Unit) × Unit × Unit → Option (((Int × Unit) × Unit × Unit) ⊕ (((Int × Unit) × Unit × Unit) ⊕ E))) → (List α × Int × Int × Unit) × Unit × Unit → Option (((Int × Unit) × Unit × Unit) ⊕ (((Int × Unit) × Unit × Unit) ⊕ E))}
  {f : α → Int → Option ((Int × Unit) × Unit)} {ok : α → Prop}
  (hstep : ∀ rec m k i, step rec ((m, k, i, ()), (), ()) = if ltI i ((m.length : Nat) : Int) = true then (if 0 ≤ i then (m[i.toNat]?).bind fun y => (f y k).bind fun r =>
   if ltI r.1.1 0 = true then some (.inr (.inl ((-1, ()), (), ()))) else rec ((m, r.1.1, IntKind.i64.wrap (i + 1), ()), (), ()) else none) else some (.inl ((k, ()), (), ())))
  (m : List α) (hm : m.length ≤ 9223372036854775807) (hf : ∀ y ∈ m, ∀ k : Int, 0 ≤ k → k ≤ 1048576 → ∃ r : Int, f y k = some ((r, ()), ()) ∧ (r < 0 ∨ (0 ≤ r ∧ r ≤ k ∧ ok y))) (k : Int) (h0 : 0 ≤ k) (h1 : k ≤ 1048576) :
  Qc step lots ((m, k, 0, ()), (), ()) = some (.inr (.inl ((-1, ()), (), ()))) ∨ ∃ r : Int, Qc step lots ((m, k, 0, ()), (), ()) = some (.inl ((r, ()), (), ())) ∧ 0 ≤ r ∧ r ≤ k ∧ ∀ y ∈ m, ok y := by
 have key : ∀ n (i : Nat) (k : Int), m.length - i < n → i ≤ m.length → 0 ≤ k → k ≤ 1048576 → (Qc step n ((m, k, ((i : Nat) : Int), ()), (), ()) = some (.inr (.inl ((-1, ()), (), ()))) ∨
   ∃ r : Int, Qc step n ((m, k, ((i : Nat) : Int), ()), (), ()) = some (.inl ((r, ()), (), ())) ∧ 0 ≤ r ∧ r ≤ k ∧ ∀ y ∈ m.drop i, ok y) := by
  intro n
  induction n with
  | zero => intro i k h; omega
  | succ n ih =>
   intro i k hn hi h0 h1
   simp only [Qc, hstep, ltN]
   by_cases hlt : i < m.length
   ·obtain ⟨r, e1, e2⟩ := hf m[i] (List.getElem_mem hlt) k h0 h1
    rw [if_pos (by simpa using hlt), if_pos nat0, Ql hlt, e1, Obn]
    simp only
    by_cases hr : r < 0
    ·left; rw [if_pos (QU.2 hr)]
    ·rw [if_neg (by rw [QU]; exact hr), QK (by omega)]
     have e2 := e2.resolve_left hr
     rcases ih (i + 1) r (by omega) (by omega) e2.1 (by omega) with h | ⟨q, g1, g2, g3, g4⟩
     ·exact .inl h
     ·refine .inr ⟨q, g1, g2, by omega, ?_⟩
      rw [QaB hlt]
      intro y hy
      rcases List.mem_cons.1 hy with rfl | hy
      ·exact e2.2.2
      ·exact g4 y hy
   ·right
    refine ⟨k, by rw [if_neg (by simpa using hlt)], h0, by omega, ?_⟩
    rw [QaJ hlt]; simp
 simpa using key lots 0 k (by have := QW hm; omega) (by omega) h0 h1
theorem QpY {α E : Type} {F : List α × Int × Unit → Option ((Int × Unit) × Unit)} {step : ((List α × Int × Int × Unit) × Unit × Unit → Option (((Int × Unit) × Unit × Unit) ⊕ (((Int × Unit) × Unit × Unit) ⊕ E))) → (List α × Int × Int × Unit) × Unit × Unit → Option (((Int × Unit) × Unit × Unit) ⊕ (((Int × Unit) × Unit × Unit) ⊕ E))}
  {f : α → Int → Option ((Int × Unit) × Unit)} {ok : α → Prop} {K : (((Int × Unit) × Unit × Unit) ⊕ (((Int × Unit) × Unit × Unit) ⊕ E)) → Option ((Int × Unit) × Unit)}
  (hF : ∀ m k, F (m, k, ()) = if ltI (IntKind.i64.wrap (k - ((m.length : Nat) : Int))) 0 = true then some ((-1, ()), ()) else (Qc step lots ((m, IntKind.i64.wrap (k - ((m.length : Nat) : Int)), 0, ()), (), ())).bind K)
  (hK1 : ∀ x, K (.inl x) = some ((x.1.1, ()), ())) (hK2 : ∀ x, K (.inr (.inl x)) = some ((x.1.1, ()), ()))
  (hstep : ∀ rec m k i, step rec ((m, k, i, ()), (), ()) = if ltI i ((m.length : Nat) : Int) = true then (if 0 ≤ i then (m[i.toNat]?).bind fun y => (f y k).bind fun r =>
   if ltI r.1.1 0 = true then some (.inr (.inl ((-1, ()), (), ()))) else rec ((m, r.1.1, IntKind.i64.wrap (i + 1), ()), (), ()) else none) else some (.inl ((k, ()), (), ())))
  (m : List α) (hm : m.length ≤ maxLen) (hf : ∀ y ∈ m, ∀ k : Int, 0 ≤ k → k ≤ 1048576 → ∃ r : Int, f y k = some ((r, ()), ()) ∧ (r < 0 ∨ (0 ≤ r ∧ r ≤ k ∧ ok y))) (k : Int) (h0 : 0 ≤ k) (h1 : k ≤ 1048576) :
  ∃ r : Int, F (m, k, ()) = some ((r, ()), ()) ∧ (r < 0 ∨ (0 ≤ r ∧ r ≤ k ∧ m.length ≤ 1048576 ∧ ∀ y ∈ m, ok y)) := by
 rw [QaA] at hm
 rw [hF, QP (by omega) (by omega)]
 by_cases hlt : k - ((m.length : Nat) : Int) < 0
 ·exact ⟨-1, by rw [if_pos (QU.2 hlt)], .inl (by omega)⟩
 ·rw [if_neg (by rw [QU]; exact hlt)]
  rcases QsN hstep m hm hf (k - ((m.length : Nat) : Int)) (by omega) (by omega) with h | ⟨r, g1, g2, g3, g4⟩
  ·exact ⟨-1, by rw [h, Obn, hK2], .inl (by omega)⟩
  ·exact ⟨r, by rw [g1, Obn, hK1], .inr ⟨g2, by omega, by omega, g4⟩⟩
theorem QhY {α : Type} {F : List α × Int × Unit → Option ((Int × Unit) × Unit)}
  (hF : ∀ m k, F (m, k, ()) = if ltI (IntKind.i64.wrap (k - ((m.length : Nat) : Int))) 0 = true then some ((-1, ()), ()) else some ((IntKind.i64.wrap (k - ((m.length : Nat) : Int)), ()), ()))
  (m : List α) (hm : m.length ≤ maxLen) (k : Int) (h0 : 0 ≤ k) (h1 : k ≤ 1048576) : ∃ r : Int, F (m, k, ()) = some ((r, ()), ()) ∧ (r < 0 ∨ (0 ≤ r ∧ r ≤ k ∧ m.length ≤ 1048576)) := by
 rw [QaA] at hm
 rw [hF, QP (by omega) (by omega)]
 by_cases hlt : k - ((m.length : Nat) : Int) < 0
 ·exact ⟨-1, by rw [if_pos (QU.2 hlt)], .inl (by omega)⟩
 ·exact ⟨_, by rw [if_neg (by rw [QU]; exact hlt)], .inr ⟨by omega, by omega, by omega⟩⟩
def scan {α β : Type} (f : Nat → α → Option β) : Nat → List α → Option β
 | _, [] => none
 | i, x :: r => match f i x with
  | some c => some c
  | none => scan f (i + 1) r
theorem QQ {X α γ β : Type} {step : (X → Option γ) → X → Option γ} (emb : Nat → X) (m : List α) (f : Nat → α → Option β) (bad : β → Option γ) (done : Option γ) (hm : m.length ≤ 9223372036854775807)
  (h1 : ∀ rec i (h : i < m.length), step rec (emb i) = match f i m[i] with | some c => bad c | none => rec (emb (i + 1)))
  (h2 : ∀ rec, step rec (emb m.length) = done) : Qc step lots (emb 0) = match scan f 0 m with | some c => bad c | none => done := by
 have key := QbX (step := step) (fun i (_ : Unit) => emb i) m.length (QW hm) (fun _ _ => True) (fun i _ => match scan f i (m.drop i) with | some c => bad c | none => done) ?_ 0 () (by omega) trivial
 ·simpa using key
 ·intro rec i _ hi _ ih
  by_cases hlt : i < m.length
  ·rw [h1 rec i hlt, QaB hlt]
   simp only [scan]
   cases hf : f i m[i] with
   | some c => rfl
   | none => exact ih () hlt trivial
  ·have : i = m.length := by omega
   subst this
   rw [h2, List.drop_length]
   rfl
theorem QdM {α β : Type} {f : Nat → α → Option β} {p : α → Bool} : ∀ {m : List α} {i : Nat}, (∀ j (h : j < m.length), (f (i + j) m[j]).isSome = p m[j]) → (scan f i m).isSome = m.any p
 | [], _, _ => rfl
 | x :: r, i, h => by
  have h0 := h 0 (by simp)
  simp only [Nat.add_zero, List.getElem_cons_zero] at h0
  have := QdM (f := f) (p := p) (m := r) (i := i + 1) fun j hj => by
   have := h (j + 1) (by simpa using hj)
   simpa [Nat.add_assoc, Nat.add_comm, Nat.add_left_comm] using this
  simp only [scan, List.any_cons, ← h0, ← this]
  cases f i x <;> rfl
theorem lt_t {i n : Nat} (h : i < n) : ltI (i : Int) (n : Int) = true := by rw [ltN]; simpa using h
theorem lt_f {i n : Nat} (h : ¬ i < n) : ¬ ltI (i : Int) (n : Int) = true := by rw [ltN]; simpa using h
theorem Qak {n : Nat} : ¬ ltI (n : Int) (n : Int) = true := lt_f (Nat.lt_irrefl n)
theorem lt1 {α : Type} {i : Nat} {m : List α} (h : i < m.length) (hm : m.length ≤ 1048576) : i < 9223372036854775807 := by omega
theorem Qsj {X γ : Type} (step : (X → Option γ) → X → Option γ) (n : Nat) (x : X) : Qc step (n + 1) x = step (Qc step n) x := rfl
theorem QuA : lots = 18446744073709551613 + 1 + 1 + 1 := rfl
abbrev Qay := Int × Int × Int × Int × Int × Unit
abbrev TwoD := Int × Int × Unit
abbrev PolD := List (List Int) × List Qay × List TwoD × List TwoD × Unit
def QfH (n : Nat) (p : PolD) : Prop := (p.1.length ≤ n ∧ ∀ l ∈ p.1, l.length ≤ n) ∧ p.2.1.length ≤ n ∧ p.2.2.1.length ≤ n ∧ p.2.2.2.1.length ≤ n
theorem Qrt (m : List (List Int)) (n : Int) (h0 : 0 ≤ n) (h1 : n ≤ 1048576) (h2 : m.length ≤ maxLen) (h3 : ∀ l ∈ m, l.length ≤ maxLen) :
  ∃ r : Int, F_b (m, n, ()) = some ((r, ()), ()) ∧ (r < 0 ∨ (0 ≤ r ∧ r ≤ n ∧ m.length ≤ 1048576 ∧ ∀ l ∈ m, l.length ≤ 1048576)) :=
 QpY (F := F_b) (step := l_b_5) (f := fun y k => F_a (y, k, ())) (ok := fun l => l.length ≤ 1048576) (fun _ _ => rfl) (fun _ => rfl) (fun _ => rfl) (fun _ _ _ _ => rfl) m h2 (fun y hy k g0 g1 => Qdd y k g0 g1 (h3 y hy)) n h0 h1
theorem QoY (m : List Qay) (n : Int) (h0 : 0 ≤ n) (h1 : n ≤ 1048576) (h2 : m.length ≤ maxLen) : ∃ r : Int, F_c (m, n, ()) = some ((r, ()), ()) ∧ (r < 0 ∨ (0 ≤ r ∧ r ≤ n ∧ m.length ≤ 1048576)) :=
 QhY (F := F_c) (fun _ _ => rfl) m h2 n h0 h1
theorem QoW (m : List TwoD) (n : Int) (h0 : 0 ≤ n) (h1 : n ≤ 1048576) (h2 : m.length ≤ maxLen) : ∃ r : Int, F_d (m, n, ()) = some ((r, ()), ()) ∧ (r < 0 ∨ (0 ≤ r ∧ r ≤ n ∧ m.length ≤ 1048576)) :=
 QhY (F := F_d) (fun _ _ => rfl) m h2 n h0 h1
theorem Qpa (m : List TwoD) (n : Int) (h0 : 0 ≤ n) (h1 : n ≤ 1048576) (h2 : m.length ≤ maxLen) : ∃ r : Int, F_e (m, n, ()) = some ((r, ()), ()) ∧ (r < 0 ∨ (0 ≤ r ∧ r ≤ n ∧ m.length ≤ 1048576)) :=
 QhY (F := F_e) (fun _ _ => rfl) m h2 n h0 h1
theorem QsM (p : PolD) (n : Int) (h0 : 0 ≤ n) (h1 : n ≤ 1048576) (h2 : QfH maxLen p) : ∃ r : Int, F_f (p, n, ()) = some ((r, ()), ()) ∧ (r < 0 ∨ (0 ≤ r ∧ r ≤ n ∧ QfH 1048576 p)) := by
 obtain ⟨⟨a1, a2⟩, a3, a4, a5⟩ := h2
 unfold F_f
 simp only [QT, decide_eq_true_eq]
 obtain ⟨r1, e1, c1⟩ := Qrt p.1 n h0 h1 a1 a2
 rw [e1, Obn]
 by_cases d1 : r1 < 0
 ·exact ⟨-1, by rw [if_pos d1], .inl (by omega)⟩
 rw [if_neg d1]
 have c1 := c1.resolve_left d1
 obtain ⟨r2, e2, c2⟩ := QoY p.2.1 r1 (by omega) (by omega) a3
 rw [e2, Obn]
 by_cases d2 : r2 < 0
 ·exact ⟨-1, by rw [if_pos d2], .inl (by omega)⟩
 rw [if_neg d2]
 have c2 := c2.resolve_left d2
 obtain ⟨r3, e3, c3⟩ := QoW p.2.2.1 r2 (by omega) (by omega) a4
 rw [e3, Obn]
 by_cases d3 : r3 < 0
 ·exact ⟨-1, by rw [if_pos d3], .inl (by omega)⟩
 rw [if_neg d3]
 have c3 := c3.resolve_left d3
 obtain ⟨r4, e4, c4⟩ := Qpa p.2.2.2.1 r3 (by omega) (by omega) a5
 rw [e4, Obn]
 by_cases d4 : r4 < 0
 ·exact ⟨-1, by rw [if_pos d4], .inl (by omega)⟩
 rw [if_neg d4]
 have c4 := c4.resolve_left d4
 exact ⟨r4, rfl, .inr ⟨by omega, by omega, ⟨c1.2.2.1, c1.2.2.2⟩, c2.2.2, c3.2.2, c4.2.2⟩⟩
theorem Qrx (m : List (List Int)) (h : m.length ≤ 1048576) (h2 : ∀ l ∈ m, l.length ≤ 1048576) : F_m (m, ()) = some ((m, ()), ()) :=
 Qfo (by_ := 24) (F := F_m) (step := l_m_3) (f := fun y => F_l (y, ())) (g := fun r => r.1.1) (fun _ => rfl) (fun _ => rfl) (fun _ _ _ _ => rfl) (by omega) m h fun y hy => ⟨_, Qbj y (le8 (h2 y hy)), rfl⟩
theorem Qpd (m : List Qay) (h : m.length ≤ 1048576) : F_o (m, ()) = some ((m, ()), ()) :=
 Qfo (by_ := 40) (F := F_o) (step := l_o_3) (f := fun y => F_n (y, ())) (g := fun r => r.1.1) (fun _ => rfl) (fun _ => rfl) (fun _ _ _ _ => rfl) (by omega) m h fun y hy => ⟨_, rfl, rfl⟩
theorem Qpb (m : List TwoD) (h : m.length ≤ 1048576) : F_q (m, ()) = some ((m, ()), ()) :=
 Qfo (by_ := 16) (F := F_q) (step := l_q_3) (f := fun y => F_p (y, ())) (g := fun r => r.1.1) (fun _ => rfl) (fun _ => rfl) (fun _ _ _ _ => rfl) (by omega) m h fun y hy => ⟨_, rfl, rfl⟩
theorem Qpf (m : List TwoD) (h : m.length ≤ 1048576) : F_s (m, ()) = some ((m, ()), ()) :=
 Qfo (by_ := 16) (F := F_s) (step := l_s_3) (f := fun y => F_r (y, ())) (g := fun r => r.1.1) (fun _ => rfl) (fun _ => rfl) (fun _ _ _ _ => rfl) (by omega) m h fun y hy => ⟨_, rfl, rfl⟩
theorem QsR (p : PolD) (h : QfH 1048576 p) : F_t (p, ()) = some (((p.1, p.2.1, p.2.2.1, p.2.2.2.1, ()), ()), ()) := by
 obtain ⟨⟨a1, a2⟩, a3, a4, a5⟩ := h
 unfold F_t
 rw [Qrx p.1 a1 a2, Obn, Qpd p.2.1 a3, Obn, Qpb p.2.2.1 a4, Obn, Qpf p.2.2.2.1 a5, Obn]
theorem QaC {n : Nat} (h : n ≤ 1048576) : n ≤ 9223372036854775807 := by omega
theorem QnX (m : List (List Int)) (h : m.length ≤ 1048576) (h2 : ∀ l ∈ m, l.length ≤ 1048576) : F_gz (m, m, ()) = some ((true, ()), ()) :=
 Qfa (F := F_gz) (step := l_gz_4) (f := fun y y' => F_gy (y, y', ())) (fun _ => rfl) (fun _ => rfl) (fun _ _ _ _ => rfl) m (QaC h) fun y hy => Qbe y (leM (h2 y hy))
theorem Qtk (y : Qay) : F_ha (y, y, ()) = some ((true, ()), ()) := by
 unfold F_ha; simp
theorem Qtj (y : TwoD) : F_hc (y, y, ()) = some ((true, ()), ()) := by
 unfold F_hc; simp
theorem Qtm (y : TwoD) : F_he (y, y, ()) = some ((true, ()), ()) := by
 unfold F_he; simp
theorem QnY (m : List Qay) (h : m.length ≤ 1048576) : F_hb (m, m, ()) = some ((true, ()), ()) :=
 Qfa (F := F_hb) (step := l_hb_4) (f := fun y y' => F_ha (y, y', ())) (fun _ => rfl) (fun _ => rfl) (fun _ _ _ _ => rfl) m (QaC h) fun y hy => Qtk y
theorem QnV (m : List TwoD) (h : m.length ≤ 1048576) : F_hd (m, m, ()) = some ((true, ()), ()) :=
 Qfa (F := F_hd) (step := l_hd_4) (f := fun y y' => F_hc (y, y', ())) (fun _ => rfl) (fun _ => rfl) (fun _ _ _ _ => rfl) m (QaC h) fun y hy => Qtj y
theorem Qoa (m : List TwoD) (h : m.length ≤ 1048576) : F_hf (m, m, ()) = some ((true, ()), ()) :=
 Qfa (F := F_hf) (step := l_hf_4) (f := fun y y' => F_he (y, y', ())) (fun _ => rfl) (fun _ => rfl) (fun _ _ _ _ => rfl) m (QaC h) fun y hy => Qtm y
theorem QrT (p : PolD) (h : QfH 1048576 p) : F_hg (p, p, ()) = some ((true, ()), ()) := by
 obtain ⟨⟨a1, a2⟩, a3, a4, a5⟩ := h
 unfold F_hg
 rw [QnX p.1 a1 a2, Obn, if_neg (by simp), QnY p.2.1 a3, Obn, if_neg (by simp), QnV p.2.2.1 a4, Obn, if_neg (by simp), Qoa p.2.2.2.1 a5, Obn, if_neg (by simp)]
theorem Qdt {α β : Type} {f : Nat → α → Option β} {P : β → Prop} : ∀ {m : List α} {i : Nat}, (∀ j (h : j < m.length) c, f (i + j) m[j] = some c → P c) → ∀ c, scan f i m = some c → P c
 | [], _, _, c, h => by simp [scan] at h
 | x :: r, i, h, c, hc => by
  have h0 := h 0 (by simp)
  simp only [Nat.add_zero, List.getElem_cons_zero] at h0
  simp only [scan] at hc
  split at hc
  ·rename_i d hd
   obtain rfl := Osj hc
   exact h0 _ hd
  ·exact Qdt (m := r) (i := i + 1) (fun j hj c' hc' => h (j + 1) (by simpa using hj) c' (by simpa [Nat.add_assoc, Nat.add_comm, Nat.add_left_comm] using hc')) c hc
theorem QmL (m : List Int) (v : Int) (hm : m.length ≤ 1048576) : F_ab (m, v, ()) = some ((m.contains v, ()), ()) := by
 have key := QQ (step := l_ab_2) (γ := denO o_ab_2) (fun i => ((m, v, ((i : Nat) : Int), ()), (), ())) m (fun _ y => if (y == v) = true then some () else none) (fun _ => some (.inr (.inl ((true, ()), (), ())))) (some (.inl ((), (), ()))) (QaC hm) ?_ ?_
 ·unfold F_ab
  show (Qc l_ab_2 lots ((m, v, ((0 : Nat) : Int), ()), (), ())).bind _ = _
  rw [key]
  have := QdM (f := fun (_ : Nat) y => if (y == v) = true then some () else none) (p := fun y => y == v) (m := m) (i := 0) (fun j hj => by cases m[j] == v <;> rfl)
  have e : m.any (fun y => y == v) = m.contains v := by
   rw [Bool.eq_iff_iff, List.any_eq_true, List.contains_iff_mem]
   exact ⟨fun ⟨y, hy, e⟩ => by rw [← beq_iff_eq.1 e]; exact hy, fun h => ⟨v, h, by simp⟩⟩
  rw [e] at this
  rw [← this]
  cases scan (fun (_ : Nat) y => if (y == v) = true then some () else none) 0 m <;> rfl
 ·intro rec i h
  unfold l_ab_2
  dsimp only
  rw [if_pos (lt_t h), if_pos nat0, Ql h, QK (lt1 h hm)]
  cases m[i] == v <;> rfl
 ·intro rec
  unfold l_ab_2
  dsimp only
  rw [if_neg Qak]
def isG (p : PolD) (g : Int) : Bool := decide (g ≥ 0) && decide (g ≤ (p.1.length : Int) - 1)
theorem QcT (p : PolD) (g : Int) (h : p.1.length ≤ 1048576) : F_ad (p, g, ()) = some ((isG p g, ()), ()) := by
 unfold F_ad isG
 dsimp only
 rw [QP (by omega) (by omega), Qbv, Obn]
theorem Qec (p : PolD) (g : Int) (h : p.1.length ≤ 1048576) : F_db (p, g, ()) = some ((isG p g, ()), ()) := by
 unfold F_db isG
 dsimp only
 rw [QP (by omega) (by omega), QaY, Obn]
def Qcy (p : PolD) (a b : Int) : Int := if isG p a = true then (if isG p b = true then (if a = b then 1 else 0) else 4) else 4
theorem QpD (p : PolD) (a b : Int) (h : p.1.length ≤ 1048576) : F_ae (p, a, b, ()) = some ((Qcy p a b, ()), ()) := by
 unfold F_ae Qcy
 rw [QcT p a h, QcT p b h]
 simp only [Obn]
 cases isG p a <;> cases isG p b <;> by_cases e : a = b <;> simp [e]
theorem QpI (p : PolD) (a b : Int) (h : p.1.length ≤ 1048576) : F_dc (p, a, b, ()) = some ((Qcy p a b, ()), ()) := by
 unfold F_dc Qcy
 rw [Qec p a h, Qec p b h]
 simp only [Obn]
 cases isG p a <;> cases isG p b <;> by_cases e : a = b <;> simp [e]
def QhW : Option Int → Int
 | some c => c
 | none => -1
def QfX (own : List (List Int)) (page : Int) : Int := QhW (scan (fun i (l : List Int) => if l.contains page = true then some ((i : Nat) : Int) else none) 0 own)
theorem QsA (p : PolD) (page : Int) (h : p.1.length ≤ 1048576) (h2 : ∀ l ∈ p.1, l.length ≤ 1048576) : F_af (p, page, ()) = some ((QfX p.1 page, ()), ()) := by
 have key := QQ (step := l_af_2) (γ := denO o_af_2) (fun i => ((p, page, ((i : Nat) : Int), ()), (), ())) p.1 (fun i (l : List Int) => if l.contains page = true then some ((i : Nat) : Int) else none)
  (fun c => some (.inr (.inl ((c, ()), (), ())))) (some (.inl ((), (), ()))) (QaC h) ?_ ?_
 ·unfold F_af QfX
  show (Qc l_af_2 lots ((p, page, ((0 : Nat) : Int), ()), (), ())).bind _ = _
  rw [key]
  cases scan (fun i (l : List Int) => if l.contains page = true then some ((i : Nat) : Int) else none) 0 p.1 <;> rfl
 ·intro rec i hi
  unfold l_af_2
  dsimp only
  rw [if_pos (lt_t hi), if_pos nat0, Ql hi, QK (lt1 hi h), QmL _ _ (h2 _ (List.getElem_mem hi)), Obn]
  dsimp only
  cases (p.1[i]).contains page <;> rfl
 ·intro rec
  unfold l_af_2
  dsimp only
  rw [if_neg Qak]
theorem QtG {α : Type} {P : Nat → α → Bool} {m : List α} {c : Int} (h : scan (fun i y => if P i y = true then some ((i : Nat) : Int) else none) 0 m = some c) : 0 ≤ c := by
 refine Qdt (P := fun c => 0 ≤ c) ?_ c h
 intro j hj c hc
 split at hc
 ·obtain rfl := Osj hc; omega
 ·cases hc
theorem Qet {α : Type} {P : α → Bool} {m : List α} {f : Nat → α → Option Int} (hf : ∀ i y, f i y = if P y = true then some ((i : Nat) : Int) else none) : leI 0 (QhW (scan f 0 m)) = m.any P := by
 have e : f = fun i y => if P y = true then some ((i : Nat) : Int) else none := by funext i y; exact hf i y
 subst e
 have h1 := QdM (f := fun i y => if P y = true then some ((i : Nat) : Int) else none) (p := P) (m := m) (i := 0) (fun j hj => by cases P m[j] <;> rfl)
 rw [← h1, Qad]
 cases hs : scan (fun i y => if P y = true then some ((i : Nat) : Int) else none) 0 m with
 | none => rfl
 | some c => have := QtG (P := fun _ y => P y) hs; simp [QhW, this]
theorem Qsh (m : List Int) (v : Int) (hm : m.length ≤ 1048576) : F_dd (m, v, ()) = some ((QhW (scan (fun i y => if (v == y) = true then some ((i : Nat) : Int) else none) 0 m), ()), ()) := by
 have key := QQ (step := l_dd_2) (γ := denO o_af_2) (fun i => ((m, v, ((m.length : Nat) : Int), ((i : Nat) : Int), ()), (), ())) m (fun i y => if (v == y) = true then some ((i : Nat) : Int) else none)
  (fun c => some (.inr (.inl ((c, ()), (), ())))) (some (.inl ((), (), ()))) (QaC hm) ?_ ?_
 ·unfold F_dd
  show (Qc l_dd_2 lots ((m, v, ((m.length : Nat) : Int), ((0 : Nat) : Int), ()), (), ())).bind _ = _
  rw [key]
  cases scan (fun i y => if (v == y) = true then some ((i : Nat) : Int) else none) 0 m <;> rfl
 ·intro rec i hi
  unfold l_dd_2
  dsimp only
  rw [if_pos (lt_t hi), if_pos nat0, Ql hi, QK (lt1 hi hm)]
  cases v == m[i] <;> rfl
 ·intro rec
  unfold l_dd_2
  dsimp only
  rw [if_neg Qak]
theorem Qlg (m : List Int) (v : Int) : m.any (fun y => v == y) = m.contains v := by
 rw [Bool.eq_iff_iff, List.any_eq_true, List.contains_iff_mem]
 exact ⟨fun ⟨y, hy, e⟩ => by rw [beq_iff_eq.1 e]; exact hy, fun h => ⟨v, h, by simp⟩⟩
theorem Qmh (m : List Int) (v : Int) (hm : m.length ≤ 1048576) : F_de (m, v, ()) = some ((m.contains v, ()), ()) := by
 unfold F_de
 rw [Qsh m v hm, Obn]
 dsimp only
 rw [Qet (P := fun y => v == y) (fun _ _ => rfl), Qlg]
theorem Qlq (p : PolD) (page : Int) (h : p.1.length ≤ 1048576) (h2 : ∀ l ∈ p.1, l.length ≤ 1048576) : F_df (p, page, ()) = some ((QfX p.1 page, ()), ()) := by
 have key := QQ (step := l_dh_2) (γ := denO o_af_2) (fun i => ((p.1, (page, ()), ((p.1.length : Nat) : Int), ((i : Nat) : Int), ()), (), ())) p.1
  (fun i (l : List Int) => if l.contains page = true then some ((i : Nat) : Int) else none) (fun c => some (.inr (.inl ((c, ()), (), ())))) (some (.inl ((), (), ()))) (QaC h) ?_ ?_
 ·unfold F_df QfX F_dg_1
  show ((Qc l_dh_2 lots ((p.1, (page, ()), ((p.1.length : Nat) : Int), ((0 : Nat) : Int), ()), (), ())).bind _).bind _ = _
  rw [key]
  cases scan (fun i (l : List Int) => if l.contains page = true then some ((i : Nat) : Int) else none) 0 p.1 <;> rfl
 ·intro rec i hi
  unfold l_dh_2
  dsimp only
  rw [if_pos (lt_t hi), if_pos nat0, Ql hi, QK (lt1 hi h)]
  unfold F_df_1
  rw [Qmh _ _ (h2 _ (List.getElem_mem hi)), Obn, Obn]
  dsimp only
  cases (p.1[i]).contains page <;> rfl
 ·intro rec
  unfold l_dh_2
  dsimp only
  rw [if_neg Qak]
def Qee (l : Qay) (g page : Int) : Bool := (l.1 == g && l.2.2.2.1 == page) || (l.2.1 == g && l.2.2.2.2.1 == page)
theorem QpH (l : Qay) (g page : Int) : F_ag (l, g, page, ()) = some ((Qee l g page, ()), ()) := by
 unfold F_ag Qee
 cases l.1 == g <;> cases l.2.2.2.1 == page <;> cases l.2.1 == g <;> rfl
theorem QpV (l : Qay) (g page : Int) : F_di (l, g, page, ()) = some ((Qee l g page, ()), ()) := by
 unfold F_di Qee
 cases l.1 == g <;> cases l.2.2.2.1 == page <;> cases l.2.1 == g <;> rfl
def clash (l o : Qay) : Bool := o.2.2.1 == l.2.2.1 || (Qee o l.1 l.2.2.2.1 || Qee o l.2.1 l.2.2.2.2.1)
def inB (n a b : Int) : Bool := decide (n ≥ a) && decide (n ≤ b)
theorem Qaa (n a b : Int) : F_cz (n, a, b, ()) = some ((inB n a b, ()), ()) := QaY n a b
theorem QaV (n a b : Int) : F_aa (n, a, b, ()) = some ((inB n a b, ()), ()) := Qbv n a b
def Qfz (p : PolD) (l : Qay) (ahead : List Qay) : Int :=
 if Qcy p l.1 l.2.1 ≠ 0 then Qcy p l.1 l.2.1
 else if inB l.2.2.1 0 23 = true ∧ inB l.2.2.2.1 5 6 = true ∧ inB l.2.2.2.2.1 5 6 = true then
  (if leI 0 (QfX p.1 l.2.2.1) = true then 6 else if ahead.any (clash l) = true then 6 else 0) else 3
theorem Qsm (l o : Qay) : F_dj_1 (o, l, ()) = some ((clash l o, ()), ()) := by
 unfold F_dj_1 clash
 dsimp only
 rw [QpV, QpV]
 simp only [Obn]
 cases o.2.2.1 == l.2.2.1 <;> cases Qee o l.1 l.2.2.2.1 <;> rfl
theorem QmM (l : Qay) (m : List Qay) (hm : m.length ≤ 1048576) : F_dm_1 (m, (l, ()), ()) = some ((m.any (clash l), ()), ()) := by
 have key := QQ (step := l_dl_2) (γ := denO o_af_2) (fun i => ((m, (l, ()), ((m.length : Nat) : Int), ((i : Nat) : Int), ()), (), ())) m
  (fun i o => if clash l o = true then some ((i : Nat) : Int) else none) (fun c => some (.inr (.inl ((c, ()), (), ())))) (some (.inl ((), (), ()))) (QaC hm) ?_ ?_
 ·unfold F_dm_1 F_dk_1
  show ((Qc l_dl_2 lots ((m, (l, ()), ((m.length : Nat) : Int), ((0 : Nat) : Int), ()), (), ())).bind _).bind _ = _
  rw [key, ← Qet (P := clash l) (m := m) (f := fun i o => if clash l o = true then some ((i : Nat) : Int) else none) (fun _ _ => rfl)]
  cases scan (fun i o => if clash l o = true then some ((i : Nat) : Int) else none) 0 m <;> rfl
 ·intro rec i hi
  unfold l_dl_2
  dsimp only
  rw [if_pos (lt_t hi), if_pos nat0, Ql hi, QK (lt1 hi hm), Qsm, Obn]
  dsimp only
  cases clash l m[i] <;> rfl
 ·intro rec
  unfold l_dl_2
  dsimp only
  rw [if_neg Qak]
theorem Qlw (p : PolD) (l : Qay) (ahead : List Qay) (h : p.1.length ≤ 1048576) (h2 : ∀ l ∈ p.1, l.length ≤ 1048576) (hm : ahead.length ≤ 1048576) : F_dj (p, l, ahead, ()) = some ((Qfz p l ahead, ()), ()) := by
 unfold F_dj Qfz
 dsimp only
 rw [QpI p _ _ h, Qaa, Qaa, Qaa, Qlq p _ h h2, QmM l ahead hm]
 simp only [Obn]
 by_cases h0 : Qcy p l.1 l.2.1 = 0
 ·rw [h0]
  cases b1 : inB l.2.2.1 0 23 <;> cases b2 : inB l.2.2.2.1 5 6 <;> cases b3 : inB l.2.2.2.2.1 5 6 <;> cases b4 : leI 0 (QfX p.1 l.2.2.1) <;> cases b5 : ahead.any (clash l) <;> simp
 ·simp [h0]
def nz (c : Int) : Option Int := if c ≠ 0 then some c else none
def QeD (p : PolD) : Option Int := scan (fun i l => nz (Qfz p l (p.2.1.take i))) 0 p.2.1
theorem QlF (p : PolD) (i : Nat) (hi : i < p.2.1.length) (hm : p.2.1.length ≤ 1048576) (l : Qay) (a1 : Int) (a2 a3 : Bool) (a4 : Int) (a5 a6 : Bool) :
  (((p.2.1.take i).any (clash l) = true ∧ Qc l_ah_15 lots ((p, (i : Int), (), 0, (), a1, a2, a3, (), a4, a5, a6, ()), ((l.1, l.2.1, l.2.2.1, l.2.2.2.1, l.2.2.2.2.1, ()), ()), ()) = some (.inr (.inl ((6, ()), (), ())))) ∨
   ((p.2.1.take i).any (clash l) = false ∧ ∃ x, Qc l_ah_15 lots ((p, (i : Int), (), 0, (), a1, a2, a3, (), a4, a5, a6, ()), ((l.1, l.2.1, l.2.2.1, l.2.2.2.1, l.2.2.2.2.1, ()), ()), ()) = some (.inl x) ∧ x.1.1 = p ∧ x.1.2.1 = (i : Int))) := by
 have hl : (p.2.1.take i).length = i := by simp; omega
 obtain ⟨x, hx, hx1, hx2⟩ : ∃ x, (∀ rec, l_ah_15 rec ((p, (i : Int), (), (i : Int), (), a1, a2, a3, (), a4, a5, a6, ()), ((l.1, l.2.1, l.2.2.1, l.2.2.2.1, l.2.2.2.2.1, ()), ()), ()) = some (.inl x)) ∧ x.1.1 = p ∧ x.1.2.1 = (i : Int) := by
  refine ⟨((p, (i : Int), (), a1, a2, a3, (), a4, a5, a6, ()), ((l.1, l.2.1, l.2.2.1, l.2.2.2.1, l.2.2.2.2.1, ()), ()), ()), fun rec => ?_, rfl, rfl⟩
  unfold l_ah_15
  dsimp only
  rw [if_neg Qak]
 have key := QQ (step := l_ah_15) (γ := denO o_ah_15) (fun k => ((p, (i : Int), (), ((k : Nat) : Int), (), a1, a2, a3, (), a4, a5, a6, ()), ((l.1, l.2.1, l.2.2.1, l.2.2.2.1, l.2.2.2.2.1, ()), ()), ())) (p.2.1.take i)
  (fun _ o => if clash l o = true then some () else none) (fun _ => some (.inr (.inl ((6, ()), (), ())))) (some (.inl x)) (QaC (by omega)) ?_ ?_
 ·have h1 := QdM (f := fun (_ : Nat) o => if clash l o = true then some () else none) (p := clash l) (m := p.2.1.take i) (i := 0) (fun j hj => by cases clash l (p.2.1.take i)[j] <;> rfl)
  have e0 : ((0 : Nat) : Int) = 0 := rfl
  rw [e0] at key
  rw [key, ← h1]
  cases scan (fun (_ : Nat) o => if clash l o = true then some () else none) 0 (p.2.1.take i) with
  | some c => exact .inl ⟨rfl, rfl⟩
  | none => exact .inr ⟨rfl, x, rfl, hx1, hx2⟩
 ·intro rec k hk
  have hk' : k < i := by omega
  unfold l_ah_15
  dsimp only
  rw [if_pos (lt_t hk'), if_pos nat0, Ql (by omega), QK (by omega), QpH, QpH, List.getElem_take]
  simp only [Obn, clash]
  rcases Bool.eq_false_or_eq_true ((p.2.1[k]).2.2.1 == l.2.2.1) with c1 | c1 <;> rcases Bool.eq_false_or_eq_true (Qee p.2.1[k] l.1 l.2.2.2.1) with c2 | c2 <;> rcases Bool.eq_false_or_eq_true (Qee p.2.1[k] l.2.1 l.2.2.2.2.1) with c3 | c3 <;> simp [c1, c2, c3]
 ·intro rec
  rw [hl]
  exact hx rec
theorem QlG (p : PolD) (h : p.1.length ≤ 1048576) (h2 : ∀ l ∈ p.1, l.length ≤ 1048576) (hm : p.2.1.length ≤ 1048576) :
  F_ah (p, ()) = some ((if p.2.1.length ≤ 4 ∧ p.2.2.1.length ≤ 4 then (match QeD p with | some c => c | none => 0) else 2, ()), ()) := by
 have key := QQ (step := l_ah_4) (γ := denO o_ah_4) (fun i => ((p, ((i : Nat) : Int), ()), (), ())) p.2.1 (fun i l => nz (Qfz p l (p.2.1.take i)))
  (fun c => some (.inr (.inl ((c, ()), (), ())))) (some (.inl ((), (), ()))) (QaC hm) ?_ ?_
 ·have e0 : ((0 : Nat) : Int) = 0 := rfl
  rw [e0] at key
  unfold F_ah QeD
  dsimp only
  by_cases h1 : p.2.1.length ≤ 4
  ·rw [if_pos (by rw [QaQ]; omega)]
   by_cases h3 : p.2.2.1.length ≤ 4
   ·rw [if_neg (by rw [QU]; omega), if_pos ⟨h1, h3⟩]
    show (Qc l_ah_4 lots ((p, 0, ()), (), ())).bind _ = _
    rw [key]
    cases scan (fun i l => nz (Qfz p l (p.2.1.take i))) 0 p.2.1 <;> rfl
   ·rw [if_pos (by rw [QU]; omega), if_neg (by omega)]
  ·rw [if_neg (by rw [QaQ]; omega), if_neg (by omega)]
 ·intro rec i hi
  unfold l_ah_4
  dsimp only
  rw [if_pos (lt_t hi), if_pos nat0, Ql hi, QpD p _ _ h, QaV, QaV, QaV, QsA p _ h h2]
  simp only [Obn]
  generalize p.2.1[i] = l
  unfold Qfz
  by_cases h0 : Qcy p l.1 l.2.1 = 0
  ·rw [h0]
   cases b1 : inB l.2.2.1 0 23
   ·simp [nz]
   cases b2 : inB l.2.2.2.1 5 6
   ·simp [nz]
   cases b3 : inB l.2.2.2.2.1 5 6
   ·simp [nz]
   cases b4 : leI 0 (QfX p.1 l.2.2.1)
   ·rw [if_neg (by simp), if_pos (by simp), if_pos (by simp), if_neg (by simp), if_neg (by simp), if_neg (by simp), if_pos (by simp), if_neg (by simp)]
    rcases QlF p i hi hm l l.2.2.2.1 true (!true) l.2.2.2.2.1 true (!true) with ⟨g1, g2⟩ | ⟨g1, x, g2, g3, g4⟩
    ·show (Qc l_ah_15 lots ((p, (i : Int), (), 0, (), l.2.2.2.1, true, (!true), (), l.2.2.2.2.1, true, (!true), ()), ((l.1, l.2.1, l.2.2.1, l.2.2.2.1, l.2.2.2.2.1, ()), ()), ())).bind _ = _
     rw [g1, g2]
     rfl
    ·show (Qc l_ah_15 lots ((p, (i : Int), (), 0, (), l.2.2.2.1, true, (!true), (), l.2.2.2.2.1, true, (!true), ()), ((l.1, l.2.1, l.2.2.1, l.2.2.2.1, l.2.2.2.2.1, ()), ()), ())).bind _ = _
     rw [g1, g2, Obn]
     dsimp only
     rw [g3, g4, QK (lt1 hi hm)]
     rfl
   ·simp [nz]
  ·simp [h0, nz]
 ·intro rec
  unfold l_ah_4
  dsimp only
  rw [if_neg Qak]
def Qaq (b o : TwoD) : Bool := (b.1 == o.1) && ((b.2.1 == o.2.1) && true)
def Qfw (p : PolD) (b : TwoD) (ahead : List TwoD) : Int := if Qcy p b.1 b.2.1 ≠ 0 then Qcy p b.1 b.2.1 else if ahead.any (Qaq b) = true then 6 else 0
def Qer (p : PolD) : Option Int := scan (fun i b => nz (Qfw p b (p.2.2.1.take i))) 0 p.2.2.1
def Qky (p : PolD) : Int := if 1 ≤ p.2.2.2.1.length ∧ p.2.2.2.1.length ≤ 8 then
 (match scan (fun (_ : Nat) (s : TwoD) => if isG p s.1 = true then (if inB s.2.1 1 50 = true then none else some (3 : Int)) else some 4) 0 p.2.2.2.1 with | some c => c | none => 0) else 2
theorem QoC (b o : TwoD) : Qaq b o = Qaq o b := by
 unfold Qaq
 rw [Bool.eq_iff_iff]
 simp
 constructor <;> rintro ⟨h1, h2⟩ <;> exact ⟨h1.symm, h2.symm⟩
theorem Qhv (b : TwoD) (m : List TwoD) (hm : m.length ≤ 1048576) : F_do (m, b, ()) = some ((m.any (Qaq b), ()), ()) := by
 have key := QQ (step := l_dn_2) (γ := denO o_af_2) (fun i => ((m, (), ((m.length : Nat) : Int), ((i : Nat) : Int), ()), ((b.1, b.2.1, ()), ()), ())) m
  (fun i o => if Qaq b o = true then some ((i : Nat) : Int) else none) (fun c => some (.inr (.inl ((c, ()), (), ())))) (some (.inl ((), (), ()))) (QaC hm) ?_ ?_
 ·unfold F_do F_dn
  show ((Qc l_dn_2 lots ((m, (), ((m.length : Nat) : Int), ((0 : Nat) : Int), ()), ((b.1, b.2.1, ()), ()), ())).bind _).bind _ = _
  rw [key, ← Qet (P := Qaq b) (m := m) (f := fun i o => if Qaq b o = true then some ((i : Nat) : Int) else none) (fun _ _ => rfl)]
  cases scan (fun i o => if Qaq b o = true then some ((i : Nat) : Int) else none) 0 m <;> rfl
 ·intro rec i hi
  unfold l_dn_2
  dsimp only
  rw [if_pos (lt_t hi), if_pos nat0, Ql hi, QK (lt1 hi hm)]
  show (if Qaq b m[i] = true then _ else _) = _
  cases Qaq b m[i] <;> rfl
 ·intro rec
  unfold l_dn_2
  dsimp only
  rw [if_neg Qak]
theorem Qlj (p : PolD) (b : TwoD) (ahead : List TwoD) (h : p.1.length ≤ 1048576) (hm : ahead.length ≤ 1048576) : F_dp (p, b, ahead, ()) = some ((Qfw p b ahead, ()), ()) := by
 unfold F_dp Qfw
 dsimp only
 rw [QpI p _ _ h, Qhv b ahead hm]
 simp only [Obn]
 by_cases h0 : Qcy p b.1 b.2.1 = 0
 ·rw [h0]
  cases ahead.any (Qaq b) <;> simp
 ·simp [h0]
theorem Qhm (p : PolD) (i : Nat) (hi : i < p.2.2.1.length) (hm : p.2.2.1.length ≤ 1048576) (b : TwoD) :
  Qc l_ai_9 lots ((p, (i : Int), (), 0, ()), ((b.1, b.2.1, ()), ()), ()) = if (p.2.2.1.take i).any (Qaq b) = true then some (.inr (.inl ((6, ()), (), ()))) else some (.inl ((p, (i : Int), ()), (), ())) := by
 have hl : (p.2.2.1.take i).length = i := by simp; omega
 have key := QQ (step := l_ai_9) (γ := denO o_ai_9) (fun k => ((p, (i : Int), (), ((k : Nat) : Int), ()), ((b.1, b.2.1, ()), ()), ())) (p.2.2.1.take i)
  (fun _ o => if Qaq b o = true then some () else none) (fun _ => some (.inr (.inl ((6, ()), (), ())))) (some (.inl ((p, (i : Int), ()), (), ()))) (QaC (by omega)) ?_ ?_
 ·have h1 := QdM (f := fun (_ : Nat) o => if Qaq b o = true then some () else none) (p := Qaq b) (m := p.2.2.1.take i) (i := 0) (fun j hj => by cases Qaq b (p.2.2.1.take i)[j] <;> rfl)
  have e0 : ((0 : Nat) : Int) = 0 := rfl
  rw [e0] at key
  rw [key, ← h1]
  cases scan (fun (_ : Nat) o => if Qaq b o = true then some () else none) 0 (p.2.2.1.take i) <;> rfl
 ·intro rec k hk
  have hk' : k < i := by omega
  unfold l_ai_9
  dsimp only
  rw [if_pos (lt_t hk'), if_pos nat0, Ql (by omega), QK (by omega), List.getElem_take]
  show (if Qaq p.2.2.1[k] b = true then _ else _) = _
  rw [QoC]
  cases Qaq b p.2.2.1[k] <;> rfl
 ·intro rec
  unfold l_ai_9
  dsimp only
  rw [hl, if_neg Qak]
theorem QjD (p : PolD) (h : p.1.length ≤ 1048576) (hm : p.2.2.2.1.length ≤ 1048576) :
  Qc l_ai_16 lots ((p, 0, ()), (), ()) = match scan (fun (_ : Nat) (s : TwoD) => if isG p s.1 = true then (if inB s.2.1 1 50 = true then none else some (3 : Int)) else some 4) 0 p.2.2.2.1 with
   | some c => some (.inr (.inl ((c, ()), (), ()))) | none => some (.inl ((), (), ())) := by
 have key := QQ (step := l_ai_16) (γ := denO o_ac_15) (fun i => ((p, ((i : Nat) : Int), ()), (), ())) p.2.2.2.1 (fun (_ : Nat) (s : TwoD) => if isG p s.1 = true then (if inB s.2.1 1 50 = true then none else some (3 : Int)) else some 4) (fun c => some (.inr (.inl ((c, ()), (), ())))) (some (.inl ((), (), ()))) (QaC hm) ?_ ?_
 ·have e0 : ((0 : Nat) : Int) = 0 := rfl
  rw [e0] at key
  rw [key]
  cases scan (fun (_ : Nat) (s : TwoD) => if isG p s.1 = true then (if inB s.2.1 1 50 = true then none else some (3 : Int)) else some 4) 0 p.2.2.2.1 <;> rfl
 ·intro rec i hi
  unfold l_ai_16
  dsimp only
  rw [if_pos (lt_t hi), if_pos nat0, Ql hi, QcT p _ h, Obn]
  cases b1 : isG p (p.2.2.2.1[i]).1
  ·simp
  ·rw [if_neg (by simp), if_pos nat0, Ql hi, QaV, Obn]
   cases b2 : inB (p.2.2.2.1[i]).2.1 1 50
   ·simp
   ·rw [if_neg (by simp), QK (lt1 hi hm)]; simp
 ·intro rec
  unfold l_ai_16
  dsimp only
  rw [if_neg Qak]
theorem Qno (p : PolD) (h : p.1.length ≤ 1048576) (h3 : p.2.2.1.length ≤ 1048576) (h4 : p.2.2.2.1.length ≤ 1048576) :
  F_ai (p, ()) = some ((match Qer p with | some c => c | none => Qky p, ()), ()) := by
 have key := QQ (step := l_ai_2) (γ := denO o_ac_4) (fun i => ((p, ((i : Nat) : Int), ()), (), ())) p.2.2.1 (fun i b => nz (Qfw p b (p.2.2.1.take i)))
  (fun c => some (.inr (.inl ((c, ()), (), ())))) (some (.inl ((p, ()), (), ()))) (QaC h3) ?_ ?_
 ·have e0 : ((0 : Nat) : Int) = 0 := rfl
  rw [e0] at key
  unfold F_ai Qer
  show (Qc l_ai_2 lots ((p, 0, ()), (), ())).bind _ = _
  rw [key]
  cases scan (fun i b => nz (Qfw p b (p.2.2.1.take i))) 0 p.2.2.1 with
  | some c => rfl
  | none =>
   rw [Obn]
   dsimp only
   unfold Qky
   by_cases g1 : 1 ≤ p.2.2.2.1.length
   ·rw [if_pos (by rw [QaQ]; omega)]
    by_cases g2 : p.2.2.2.1.length ≤ 8
    ·rw [if_neg (by rw [QU]; omega), if_pos ⟨g1, g2⟩]
     show (Qc l_ai_16 lots ((p, 0, ()), (), ())).bind _ = _
     rw [QjD p h h4]
     cases scan (fun (_ : Nat) (s : TwoD) => if isG p s.1 = true then (if inB s.2.1 1 50 = true then none else some (3 : Int)) else some 4) 0 p.2.2.2.1 <;> rfl
    ·rw [if_pos (by rw [QU]; omega), if_neg (by omega)]
   ·rw [if_neg (by rw [QaQ]; omega), if_neg (by omega)]
 ·intro rec i hi
  unfold l_ai_2
  dsimp only
  rw [if_pos (lt_t hi), if_pos nat0, Ql hi, QpD p _ _ h, Obn]
  generalize p.2.2.1[i] = b
  unfold Qfw
  by_cases h0 : Qcy p b.1 b.2.1 = 0
  ·rw [h0, if_neg (by simp)]
   show (Qc l_ai_9 lots ((p, (i : Int), (), 0, ()), ((b.1, b.2.1, ()), ()), ())).bind _ = _
   rw [Qhm p i hi h3 b]
   cases (p.2.2.1.take i).any (Qaq b)
   ·rw [if_neg (by simp), Obn]
    dsimp only
    rw [QK (lt1 hi h3)]
    rfl
   ·rfl
  ·simp [h0, nz]
 ·intro rec
  unfold l_ai_2
  dsimp only
  rw [if_neg Qak]
theorem QmA (p : PolD) (h : p.1.length ≤ 1048576) (hm : p.2.2.2.1.length ≤ 1048576) : F_dq (p, ()) = some ((Qky p, ()), ()) := by
 have key := QQ (step := l_dq_4) (γ := denO o_ah_4) (fun i => ((p, p.2.2.2.1, ((p.2.2.2.1.length : Nat) : Int), ((i : Nat) : Int), ()), (), ())) p.2.2.2.1
  (fun (_ : Nat) (s : TwoD) => if isG p s.1 = true then (if inB s.2.1 1 50 = true then none else some (3 : Int)) else some 4) (fun c => some (.inr (.inl ((c, ()), (), ())))) (some (.inl ((), (), ()))) (QaC hm) ?_ ?_
 ·have e0 : ((0 : Nat) : Int) = 0 := rfl
  rw [e0] at key
  unfold F_dq Qky
  dsimp only
  rw [Qaa, Obn]
  by_cases g : 1 ≤ p.2.2.2.1.length ∧ p.2.2.2.1.length ≤ 8
  ·have : inB ((p.2.2.2.1.length : Nat) : Int) 1 8 = true := by unfold inB; simp; omega
   rw [this, if_neg (by simp), if_pos g]
   show (Qc l_dq_4 lots ((p, p.2.2.2.1, ((p.2.2.2.1.length : Nat) : Int), 0, ()), (), ())).bind _ = _
   rw [key]
   cases scan (fun (_ : Nat) (s : TwoD) => if isG p s.1 = true then (if inB s.2.1 1 50 = true then none else some (3 : Int)) else some 4) 0 p.2.2.2.1 <;> rfl
  ·have : inB ((p.2.2.2.1.length : Nat) : Int) 1 8 = false := by unfold inB; simp; omega
   rw [this, if_pos (by simp), if_neg g]
 ·intro rec i hi
  unfold l_dq_4
  dsimp only
  rw [if_pos (lt_t hi), if_pos nat0, Ql hi, Qec p _ h, Obn, Qaa, Obn, QK (lt1 hi hm)]
  cases b1 : isG p (p.2.2.2.1[i]).1
  ·simp
  ·cases b2 : inB (p.2.2.2.1[i]).2.1 1 50 <;> simp
 ·intro rec
  unfold l_dq_4
  dsimp only
  rw [if_neg Qak]
def own1 (l : List Int) : Option Int := if 1 ≤ l.length ∧ l.length ≤ 5 then scan (fun (_ : Nat) x => if inB x 0 23 = true then none else some (3 : Int)) 0 l else some 2
def dupM : List Int → List Int → Bool
 | _, [] => false
 | seen, x :: r => seen.contains x || dupM (seen ++ [x]) r
def QfD (own : List (List Int)) : Int := if 1 ≤ own.length ∧ own.length ≤ 3 then (match scan (fun (_ : Nat) l => own1 l) 0 own with | some c => c | none => if dupM [] own.flatten = true then 6 else 0) else 2
theorem Qnl {T : Type} (p : PolD) (i : Nat) (hi : i < p.1.length) (hl : (p.1[i]).length ≤ 1048576) (a1 a2 : PolD) (b1 b2 : List (List Int)) (c : Int) (d1 d2 : List Int) (e1 : Int) (e2 : Bool) :
  ((scan (fun (_ : Nat) x => if inB x 0 23 = true then none else some (3 : Int)) 0 p.1[i] = none ∧ ∃ x, Qc l_ac_9 lots ((p, (i : Int), 0, a1, a2, b1, b2, c, d1, d2, e1, e2, ()), (), ()) = some (.inl x) ∧ x.1.1 = p ∧ x.1.2.1 = (i : Int)) ∨
   (scan (fun (_ : Nat) x => if inB x 0 23 = true then none else some (3 : Int)) 0 p.1[i] = some 3 ∧ Qc l_ac_9 lots ((p, (i : Int), 0, a1, a2, b1, b2, c, d1, d2, e1, e2, ()), (), ()) = some (.inr (.inl ((3, ()), (), ()))))) := by
 have key := QQ (step := l_ac_9) (γ := denO o_ac_9) (fun k => ((p, (i : Int), ((k : Nat) : Int), a1, a2, b1, b2, c, d1, d2, e1, e2, ()), (), ())) p.1[i]
  (fun (_ : Nat) x => if inB x 0 23 = true then none else some (3 : Int)) (fun c => some (.inr (.inl ((c, ()), (), ())))) (some (.inl ((p, (i : Int), a1, a2, b1, b2, c, d1, d2, e1, e2, ()), (), ()))) (QaC hl) ?_ ?_
 ·have e0 : ((0 : Nat) : Int) = 0 := rfl
  rw [e0] at key
  rw [key]
  cases hs : scan (fun (_ : Nat) x => if inB x 0 23 = true then none else some (3 : Int)) 0 p.1[i] with
  | none => exact .inl ⟨rfl, _, rfl, rfl, rfl⟩
  | some c =>
   have : c = 3 := Qdt (P := fun c => c = 3) (fun j hj c hc => by
    split at hc
    ·cases hc
    ·exact (Osj hc).symm) c hs
   subst this
   exact .inr ⟨rfl, rfl⟩
 ·intro rec k hk
  unfold l_ac_9
  dsimp only
  rw [if_pos nat0, Ql hi, if_pos (lt_t hk), if_pos nat0, Ql hi, if_pos nat0, Ql hk, QaV, Obn, QK (lt1 hk hl)]
  cases inB (p.1[i])[k] 0 23 <;> rfl
 ·intro rec
  unfold l_ac_9
  dsimp only
  rw [if_pos nat0, Ql hi, if_neg Qak]
theorem Qeu : ∀ (l seen r : List Int), dupM seen (l ++ r) = (dupM seen l || dupM (seen ++ l) r)
 | [], seen, r => by simp [dupM]
 | x :: l, seen, r => by
  simp only [List.cons_append, dupM, Qeu l (seen ++ [x]) r, Bool.or_assoc, List.append_assoc, List.singleton_append, List.nil_append]
theorem Qnp (p : PolD) (seen : List Int) (i : Nat) (hi : i < p.1.length) (hl : (p.1[i]).length ≤ 1048576) (hs : seen.length ≤ 4194304) (hs2 : seen.length + (p.1[i]).length ≤ 1048576) :
  Qc l_ac_18 lots ((p, seen, (i : Int), 0, ()), (), ()) = if dupM seen p.1[i] = true then some (.inr (.inl ((6, ()), (), ()))) else some (.inl ((p, seen ++ p.1[i], (i : Int), ()), (), ())) := by
 have key := QbX (step := l_ac_18) (γ := denO o_ac_18) (fun k (s : List Int) => ((p, s, (i : Int), ((k : Nat) : Int), ()), (), ())) (p.1[i]).length (QW (QaC hl)) (fun k s => s = seen ++ (p.1[i]).take k)
  (fun k s => if dupM s ((p.1[i]).drop k) = true then some (.inr (.inl ((6, ()), (), ()))) else some (.inl ((p, seen ++ p.1[i], (i : Int), ()), (), ()))) ?_ 0 seen (by omega) (by simp)
 ·exact key
 ·rintro rec k s hk hsk ih
  unfold l_ac_18
  dsimp only
  rw [if_pos nat0, Ql hi]
  by_cases hlt : k < (p.1[i]).length
  ·have hsl : s.length = seen.length + k := by rw [hsk]; simp; omega
   rw [if_pos (lt_t hlt), if_pos nat0, Ql hi, if_pos nat0, Ql hlt, QmL _ _ (by omega), Obn, QaB hlt]
   rw [show dupM s ((p.1[i])[k] :: (p.1[i]).drop (k + 1)) = (s.contains (p.1[i])[k] || dupM (s ++ [(p.1[i])[k]]) ((p.1[i]).drop (k + 1))) from rfl]
   by_cases hc : s.contains (p.1[i])[k] = true
   ·rw [if_pos hc, hc]
    simp
   ·rw [if_neg hc, if_pos nat0, Ql hi, if_pos nat0, Ql hlt, if_pos (by simp; omega), QK (lt1 hlt hl)]
    have hc' : s.contains (p.1[i])[k] = false := by simpa using hc
    rw [hc', Bool.false_or]
    refine ih _ hlt ?_
    rw [hsk, List.append_assoc, List.take_add_one, List.getElem?_eq_getElem hlt]
    rfl
  ·rw [if_neg (lt_f hlt), QaJ hlt]
   rw [show dupM s [] = false from rfl]
   rw [hsk, List.take_of_length_le (by omega)]
   simp
theorem Qke {own : List (List Int)} {i : Nat} (hi : i < own.length) : (own.take (i + 1)).flatten = (own.take i).flatten ++ own[i] := by
 have e : own.take (i + 1) = own.take i ++ [own[i]] := by rw [List.take_add_one, List.getElem?_eq_getElem hi]; rfl
 rw [e, List.flatten_append]
 simp
theorem Qsz {l : List Int} (h : own1 l = none) : l.length ≤ 5 := by
 unfold own1 at h
 split at h
 ·rename_i h'; exact h'.2
 ·cases h
theorem Qhl {α β : Type} {f : Nat → α → Option β} : ∀ {m : List α} {i : Nat}, scan f i m = none → ∀ j (h : j < m.length), f (i + j) m[j] = none
 | [], _, _, j, h => by simp at h
 | x :: r, i, hs, j, h => by
  simp only [scan] at hs
  split at hs
  ·cases hs
  ·rename_i h0
   cases j with
   | zero => simpa using h0
   | succ j =>
    have := Qhl hs j (by simpa using h)
    simpa [Nat.add_assoc, Nat.add_comm, Nat.add_left_comm] using this
theorem Qml {own : List (List Int)} (h : ∀ j (hj : j < own.length), (own[j]).length ≤ 5) : ∀ i, i ≤ own.length → (own.take i).flatten.length ≤ 5 * i
 | 0, _ => by simp
 | i + 1, hi => by
  rw [Qke (by omega), List.length_append]
  have := Qml h i (by omega)
  have := h i (by omega)
  omega
theorem Qnm (p : PolD) (h : p.1.length ≤ 1048576) (h2 : ∀ l ∈ p.1, l.length ≤ 1048576) : F_ac (p, ()) = some ((QfD p.1, ()), ()) := by
 unfold F_ac QfD
 dsimp only
 by_cases g1 : 1 ≤ p.1.length
 case neg => rw [if_neg (by rw [QaQ]; omega), if_neg (by omega)]
 rw [if_pos (by rw [QaQ]; omega)]
 by_cases g2 : p.1.length ≤ 3
 case neg => rw [if_pos (by rw [QU]; omega), if_neg (by omega)]
 rw [if_neg (by rw [QU]; omega), if_pos ⟨g1, g2⟩]
 have key := QQ (step := l_ac_4) (γ := denO o_ac_4) (fun i => ((p, ((i : Nat) : Int), ()), (), ())) p.1 (fun (_ : Nat) l => own1 l)
  (fun c => some (.inr (.inl ((c, ()), (), ())))) (some (.inl ((p, ()), (), ()))) (QaC h) ?_ ?_
 ·have e0 : ((0 : Nat) : Int) = 0 := rfl
  rw [e0] at key
  show (Qc l_ac_4 lots ((p, 0, ()), (), ())).bind _ = _
  rw [key]
  cases hs : scan (fun (_ : Nat) l => own1 l) 0 p.1 with
  | some c => rfl
  | none =>
   rw [Obn]
   dsimp only
   have h5 : ∀ j (hj : j < p.1.length), (p.1[j]).length ≤ 5 := fun j hj => Qsz (Qhl hs j hj)
   have key2 := QbX (step := l_ac_15) (γ := denO o_ac_15) (fun k (s : List Int) => ((p, s, ((k : Nat) : Int), ()), (), ())) p.1.length (QW (QaC h)) (fun k s => s = (p.1.take k).flatten)
    (fun k s => if dupM s ((p.1.drop k).flatten) = true then some (.inr (.inl ((6, ()), (), ()))) else some (.inl ((), (), ()))) ?_ 0 [] (by omega) (by simp)
   ·show (Qc l_ac_15 lots ((p, [], 0, ()), (), ())).bind _ = _
    rw [e0] at key2
    rw [key2, List.drop_zero]
    cases dupM [] p.1.flatten <;> rfl
   ·rintro rec k s hk hsk ih
    unfold l_ac_15
    dsimp only
    by_cases hlt : k < p.1.length
    ·have hfl := Qml h5 k hk
     rw [← hsk] at hfl
     have := h5 k hlt
     rw [if_pos (lt_t hlt), QaB hlt, List.flatten_cons, Qeu]
     show (Qc l_ac_18 lots ((p, s, (k : Int), 0, ()), (), ())).bind _ = _
     rw [Qnp p s k hlt (by omega) (by omega) (by omega)]
     cases hd : dupM s p.1[k]
     ·rw [if_neg (by simp), Obn]
      dsimp only
      rw [QK (lt1 hlt h), Bool.false_or]
      exact ih _ hlt (by rw [hsk, Qke hlt])
     ·rfl
    ·rw [if_neg (lt_f hlt), QaJ hlt]
     rfl
 ·intro rec i hi
  unfold l_ac_4
  dsimp only
  have hl := h2 _ (List.getElem_mem hi)
  rw [if_pos (lt_t hi), if_pos nat0, Ql hi]
  unfold own1
  by_cases k1 : 1 ≤ (p.1[i]).length
  case neg => rw [if_neg (by rw [QaQ]; omega), if_neg (by omega)]
  rw [if_pos (by rw [QaQ]; omega), if_pos nat0, Ql hi]
  by_cases k2 : (p.1[i]).length ≤ 5
  case neg => rw [if_pos (by rw [QU]; omega), if_neg (by omega)]
  rw [if_neg (by rw [QU]; omega), if_pos ⟨k1, k2⟩]
  rcases Qnl (T := Unit) p i hi hl p p p.1 p.1 (i : Int) p.1[i] p.1[i] (((p.1[i]).length : Nat) : Int) (ltI 5 (((p.1[i]).length : Nat) : Int)) with ⟨g, x, g3, g4, g5⟩ | ⟨g, g3⟩
  ·show (Qc l_ac_9 lots _).bind _ = _
   rw [g, g3, Obn]
   dsimp only
   rw [g4, g5, QK (lt1 hi h)]
  ·show (Qc l_ac_9 lots _).bind _ = _
   rw [g, g3]
   rfl
 ·intro rec
  unfold l_ac_4
  dsimp only
  rw [if_neg Qak]
theorem QqD (es : List (Int × Bool)) (x y : Int) : getM (setM es x true) y = (y == x || getM es y) := by
 induction es with
 | nil =>
  simp only [setM, getM]
  by_cases e : x = y
  ·subst e; simp
  ·rw [if_neg e]; simp [Ne.symm e]
 | cons a r ih =>
  simp only [setM, getM]
  by_cases e : a.1 = x
  ·rw [if_pos e]
   simp only [getM]
   by_cases e2 : x = y
   ·subst e2; simp
   ·rw [if_neg e2, if_neg (by rw [e]; exact e2)]; simp [Ne.symm e2]
  ·rw [if_neg e]
   simp only [getM]
   by_cases e2 : a.1 = y
   ·subst e2; rw [if_pos rfl, if_pos rfl]; simp [e]
   ·rw [if_neg e2, if_neg e2, ih]
theorem Qlr {T1 T2 T3 : Int} (es : List (Int × Bool)) (t : Bool) (own : List (List Int)) (a b : Int) (l : List Int) (hl : l.length ≤ 1048576) (seen : List Int) (hes : ∀ y, getM es y = seen.contains y) :
  (∃ es', scan (fun (_ : Nat) x => if inB x 0 23 = true then none else some (3 : Int)) 0 l = none ∧ (∀ y, getM es' y = (seen ++ l).contains y) ∧
   Qc l_da_10 lots ((es, t, own, a, b, l, ((l.length : Nat) : Int), 0, ()), (), ()) = some (.inl ((es', t || dupM seen l, own, a, b, ()), (), ()))) ∨
  (scan (fun (_ : Nat) x => if inB x 0 23 = true then none else some (3 : Int)) 0 l = some 3 ∧ Qc l_da_10 lots ((es, t, own, a, b, l, ((l.length : Nat) : Int), 0, ()), (), ()) = some (.inr (.inl ((3, ()), (), ())))) := by
 have key : ∀ n (k : Nat) (es : List (Int × Bool)) (t : Bool) (seen : List Int), l.length - k < n → k ≤ l.length → (∀ y, getM es y = seen.contains y) →
   (∃ es', scan (fun (_ : Nat) x => if inB x 0 23 = true then none else some (3 : Int)) k (l.drop k) = none ∧ (∀ y, getM es' y = (seen ++ l.drop k).contains y) ∧
   Qc l_da_10 n ((es, t, own, a, b, l, ((l.length : Nat) : Int), ((k : Nat) : Int), ()), (), ()) = some (.inl ((es', t || dupM seen (l.drop k), own, a, b, ()), (), ()))) ∨
   (scan (fun (_ : Nat) x => if inB x 0 23 = true then none else some (3 : Int)) k (l.drop k) = some 3 ∧ Qc l_da_10 n ((es, t, own, a, b, l, ((l.length : Nat) : Int), ((k : Nat) : Int), ()), (), ()) = some (.inr (.inl ((3, ()), (), ())))) := by
  intro n
  induction n with
  | zero => intro k _ _ _ h; omega
  | succ n ih =>
   intro k es t seen hn hk hes
   simp only [Qc]
   generalize Qc l_da_10 n = rec at ih ⊢
   by_cases hlt : k < l.length
   ·have hw : IntKind.i64.wrap ((k : Int) + 1) = ((k + 1 : Nat) : Int) := QK (lt1 hlt hl)
    rw [QaB hlt]
    simp only [scan, dupM]
    have hes2 : ∀ y, getM (setM es l[k] true) y = (seen ++ [l[k]]).contains y := by
     intro y
     rw [QqD, hes]
     rw [Bool.eq_iff_iff]
     simp [or_comm]
    cases hb : inB l[k] 0 23
    ·right
     refine ⟨by simp, ?_⟩
     unfold l_da_10
     dsimp only
     rw [if_pos (lt_t hlt), if_pos nat0, Ql hlt, Qaa, Obn, hb]
     rfl
    ·have go : l_da_10 rec ((es, t, own, a, b, l, ((l.length : Nat) : Int), ((k : Nat) : Int), ()), (), ()) = rec ((setM es l[k] true, t || seen.contains l[k], own, a, b, l, ((l.length : Nat) : Int), ((k + 1 : Nat) : Int), ()), (), ()) := by
      unfold l_da_10
      dsimp only
      rw [if_pos (lt_t hlt), if_pos nat0, Ql hlt, Qaa, Obn, hb, if_neg (by simp), hw, ← hes]
      cases t <;> rfl
     rw [go]
     rcases ih (k + 1) (setM es l[k] true) (t || seen.contains l[k]) (seen ++ [l[k]]) (by omega) (by omega) hes2 with ⟨es', g1, g2, g3⟩ | ⟨g1, g2⟩
     ·left
      refine ⟨es', by simpa using g1, fun y => by rw [g2]; simp, ?_⟩
      rw [g3, Bool.or_assoc]
     ·right
      exact ⟨by simpa using g1, g2⟩
   ·left
    rw [QaJ hlt]
    refine ⟨es, rfl, by simpa using hes, ?_⟩
    unfold l_da_10
    dsimp only
    rw [if_neg (lt_f hlt)]
    simp [dupM]
 simpa using key lots 0 es t seen (by have := QW (QaC hl); omega) (by omega) hes
theorem Qmy (p : PolD) (h : p.1.length ≤ 1048576) (h2 : ∀ l ∈ p.1, l.length ≤ 1048576) : F_da (p, ()) = some ((QfD p.1, ()), ()) := by
 unfold F_da QfD
 dsimp only
 rw [Qaa, Obn]
 by_cases g : 1 ≤ p.1.length ∧ p.1.length ≤ 3
 case neg =>
  have : inB ((p.1.length : Nat) : Int) 1 3 = false := by unfold inB; simp; omega
  rw [this, if_pos (by simp), if_neg g]
 have : inB ((p.1.length : Nat) : Int) 1 3 = true := by unfold inB; simp; omega
 rw [this, if_neg (by simp), if_pos g]
 have key : ∀ n (k : Nat) (es : List (Int × Bool)) (t : Bool) (seen : List Int), p.1.length - k < n → k ≤ p.1.length → (∀ y, getM es y = seen.contains y) →
   (Qc l_da_5 n ((es, t, p.1, ((p.1.length : Nat) : Int), ((k : Nat) : Int), ()), (), ()) = match scan (fun (_ : Nat) l => own1 l) k (p.1.drop k) with
    | some c => some (.inr (.inl ((c, ()), (), ()))) | none => some (.inl ((t || dupM seen (p.1.drop k).flatten, ()), (), ()))) := by
  intro n
  induction n with
  | zero => intro k _ _ _ h; omega
  | succ n ih =>
   intro k es t seen hn hk hes
   simp only [Qc]
   generalize Qc l_da_5 n = rec at ih ⊢
   by_cases hlt : k < p.1.length
   ·have hl := h2 _ (List.getElem_mem hlt)
    rw [QaB hlt]
    simp only [scan, List.flatten_cons, Qeu]
    unfold l_da_5 own1
    dsimp only
    rw [if_pos (lt_t hlt), if_pos nat0, Ql hlt, Qaa, Obn]
    by_cases g1 : 1 ≤ (p.1[k]).length ∧ (p.1[k]).length ≤ 5
    ·have : inB (((p.1[k]).length : Nat) : Int) 1 5 = true := by unfold inB; simp; omega
     rw [this, if_neg (by simp), if_pos g1]
     rcases Qlr (T1 := 0) (T2 := 0) (T3 := 0) es t p.1 ((p.1.length : Nat) : Int) ((k : Nat) : Int) p.1[k] hl seen hes with ⟨es', q1, q2, q3⟩ | ⟨q1, q2⟩
     ·show (Qc l_da_10 lots _).bind _ = _
      rw [q1, q3, Obn]
      dsimp only
      rw [QK (lt1 hlt h), ih (k + 1) es' _ (seen ++ p.1[k]) (by omega) (by omega) q2, Bool.or_assoc]
      rfl
     ·show (Qc l_da_10 lots _).bind _ = _
      rw [q1, q2]
      rfl
    ·have : inB (((p.1[k]).length : Nat) : Int) 1 5 = false := by unfold inB; simp; omega
     rw [this, if_pos (by simp), if_neg g1]
   ·rw [QaJ hlt]
    unfold l_da_5
    dsimp only
    rw [if_neg (lt_f hlt)]
    simp [scan, dupM]
 have k0 := key lots 0 [] false [] (by have := QW (QaC h); omega) (by omega) (fun y => by simp [getM])
 have e0 : ((0 : Nat) : Int) = 0 := rfl
 rw [e0, List.drop_zero] at k0
 show (Qc l_da_5 lots (([], false, p.1, ((p.1.length : Nat) : Int), 0, ()), (), ())).bind _ = _
 rw [k0]
 cases scan (fun (_ : Nat) l => own1 l) 0 p.1 with
 | some c => rfl
 | none =>
  rw [Obn]
  dsimp only
  cases dupM [] p.1.flatten <;> rfl
def polM (p : PolD) : Int :=
 if QfD p.1 ≠ 0 then QfD p.1
 else if p.2.1.length ≤ 4 ∧ p.2.2.1.length ≤ 4 then (match QeD p with | some c => c | none => match Qer p with | some c => c | none => Qky p) else 2
theorem QtU {c d : Int} (h : nz c = some d) : d ≠ 0 := by
 unfold nz at h
 split at h
 ·rename_i h'; rw [← Osj h]; exact h'
 ·cases h
theorem Qkj {p : PolD} {c : Int} (h : QeD p = some c) : c ≠ 0 := Qdt (P := fun c => c ≠ 0) (fun j hj c hc => QtU hc) c h
theorem Qqo {p : PolD} {c : Int} (h : Qer p = some c) : c ≠ 0 := Qdt (P := fun c => c ≠ 0) (fun j hj c hc => QtU hc) c h
theorem QiY (p : PolD) (h : QfH 1048576 p) : F_aj (p, ()) = some ((polM p, ()), ()) := by
 obtain ⟨⟨a1, a2⟩, a3, a4, a5⟩ := h
 unfold F_aj polM
 rw [Qnm p a1 a2, QlG p a1 a2 a3, Qno p a1 a4 a5]
 simp only [Obn]
 by_cases h0 : QfD p.1 = 0
 ·simp only [h0, bne_self_eq_false, Bool.false_eq_true, if_false, ne_eq, not_true_eq_false]
  by_cases h4 : p.2.1.length ≤ 4 ∧ p.2.2.1.length ≤ 4
  ·simp only [if_pos h4]
   cases hl : QeD p with
   | some c => have := Qkj hl; simp [this]
   | none => simp <;> (cases Qer p <;> rfl)
  ·simp [if_neg h4]
 ·rw [if_pos (by simpa using h0), if_pos h0]
theorem Qoh (p : PolD) (h : QfH 1048576 p) : F_dr (p, ()) = some ((polM p, ()), ()) := by
 obtain ⟨⟨a1, a2⟩, a3, a4, a5⟩ := h
 unfold F_dr polM
 dsimp only
 rw [Qmy p a1 a2, Obn]
 dsimp only
 by_cases h0 : QfD p.1 = 0
 case neg => rw [if_pos (by simpa using h0), if_pos h0]
 simp only [h0, bne_self_eq_false, Bool.false_eq_true, if_false, ne_eq, not_true_eq_false]
 by_cases h1 : p.2.1.length ≤ 4
 case neg => rw [if_neg (by rw [QaQ]; omega), if_neg (by omega)]
 rw [if_pos (by rw [QaQ]; omega)]
 by_cases h3 : p.2.2.1.length ≤ 4
 case neg => rw [if_pos (by rw [QU]; omega), if_neg (by omega)]
 rw [if_neg (by rw [QU]; omega), if_pos ⟨h1, h3⟩]
 have key1 := QQ (step := l_dr_7) (γ := denO o_dr_7) (fun i => (((), p.2.1, ((p.2.1.length : Nat) : Int), ((i : Nat) : Int), ()), (p, ()), ())) p.2.1 (fun i l => nz (Qfz p l (p.2.1.take i)))
  (fun c => some (.inr (.inl ((c, ()), (), ())))) (some (.inl (((), ()), (p, ()), ()))) (QaC a3) ?_ ?_
 ·have key2 := QQ (step := l_dr_14) (γ := denO o_dr_14) (fun i => (((), p.2.2.1, ((p.2.2.1.length : Nat) : Int), ((i : Nat) : Int), ()), (p, ()), ())) p.2.2.1 (fun i b => nz (Qfw p b (p.2.2.1.take i)))
   (fun c => some (.inr (.inl ((c, ()), (), ())))) (some (.inl (((), ()), (p, ()), ()))) (QaC a4) ?_ ?_
  ·have e0 : ((0 : Nat) : Int) = 0 := rfl
   rw [e0] at key1 key2
   show (Qc l_dr_7 lots (((), p.2.1, ((p.2.1.length : Nat) : Int), 0, ()), (p, ()), ())).bind _ = _
   rw [key1]
   unfold QeD
   cases scan (fun i l => nz (Qfz p l (p.2.1.take i))) 0 p.2.1 with
   | some c => rfl
   | none =>
    rw [Obn]
    dsimp only
    show (Qc l_dr_14 lots (((), p.2.2.1, ((p.2.2.1.length : Nat) : Int), 0, ()), (p, ()), ())).bind _ = _
    rw [key2]
    unfold Qer
    cases scan (fun i b => nz (Qfw p b (p.2.2.1.take i))) 0 p.2.2.1 with
    | some c => rfl
    | none =>
     rw [Obn]
     dsimp only
     rw [QmA p a1 a5, Obn]
  ·intro rec i hi
   unfold l_dr_14
   dsimp only
   rw [if_pos (lt_t hi), if_pos nat0, Ql hi, if_pos (show (0 : Int) ≤ 0 ∧ (0 : Int) ≤ (i : Int) ∧ (i : Int) ≤ ((p.2.2.1.length : Nat) : Int) from ⟨by omega, by omega, by omega⟩), QK (lt1 hi a4)]
   have e : (p.2.2.1.drop (0 : Int).toNat).take (((i : Nat) : Int).toNat - (0 : Int).toNat) = p.2.2.1.take i := by simp
   rw [e, Qlj p _ _ a1 (by simp; omega), Obn]
   dsimp only
   unfold nz
   by_cases g : Qfw p p.2.2.1[i] (p.2.2.1.take i) = 0
   ·rw [if_neg (by simpa using g), if_neg (by simpa using g)]
   ·rw [if_pos (by simpa using g), if_pos (by simpa using g)]
  ·intro rec
   unfold l_dr_14
   dsimp only
   rw [if_neg Qak]
 ·intro rec i hi
  unfold l_dr_7
  dsimp only
  rw [if_pos (lt_t hi), if_pos nat0, Ql hi, if_pos (show (0 : Int) ≤ 0 ∧ (0 : Int) ≤ (i : Int) ∧ (i : Int) ≤ ((p.2.1.length : Nat) : Int) from ⟨by omega, by omega, by omega⟩), QK (lt1 hi a3)]
  have e : (p.2.1.drop (0 : Int).toNat).take (((i : Nat) : Int).toNat - (0 : Int).toNat) = p.2.1.take i := by simp
  rw [e, Qlw p _ _ a1 a2 (by simp; omega), Obn]
  dsimp only
  unfold nz
  by_cases g : Qfz p p.2.1[i] (p.2.1.take i) = 0
  ·rw [if_neg (by simpa using g), if_neg (by simpa using g)]
  ·rw [if_pos (by simpa using g), if_pos (by simpa using g)]
 ·intro rec
  unfold l_dr_7
  dsimp only
  rw [if_neg Qak]
def askM (p : PolD) (g : Int) : Int := if polM p ≠ 0 then polM p else if isG p g = true then 0 else 4
theorem QoI (p : PolD) (g : Int) (h : QfH 1048576 p) : F_bd (p, g, ()) = some ((askM p g, ()), ()) := by
 unfold F_bd askM
 rw [QiY p h, QcT p g h.1.1]
 simp only [Obn]
 by_cases h0 : polM p = 0
 ·rw [h0]; cases isG p g <;> simp
 ·rw [if_pos (by simpa using h0), if_pos h0]
theorem Qbq {α β : Type} {f : Nat → α → Option β} {m : List α} (h : scan f 0 m = none) : ∀ x ∈ m, ∃ i, f i x = none := by
 intro x hx
 obtain ⟨i, hi, rfl⟩ := List.mem_iff_getElem.1 hx
 exact ⟨_, Qhl h i hi⟩
structure OkPol (p : PolD) : Prop where
 own : 1 ≤ p.1.length ∧ p.1.length ≤ 3
 own1 : ∀ l ∈ p.1, 1 ≤ l.length ∧ l.length ≤ 5 ∧ ∀ x ∈ l, 0 ≤ x ∧ x ≤ 23
 nodup : dupM [] p.1.flatten = false
 lanes : p.2.1.length ≤ 4 ∧ QeD p = none
 bells : p.2.2.1.length ≤ 4 ∧ Qer p = none
 plan : 1 ≤ p.2.2.2.1.length ∧ p.2.2.2.1.length ≤ 8
 slots : ∀ s ∈ p.2.2.2.1, isG p s.1 = true ∧ 1 ≤ s.2.1 ∧ s.2.1 ≤ 50
theorem QcS {n a b : Int} : inB n a b = true ↔ a ≤ n ∧ n ≤ b := by unfold inB; simp
theorem Qku {p : PolD} (h : polM p = 0) : OkPol p := by
 unfold polM at h
 split at h
 ·rename_i h'; exact absurd h h'
 rename_i h0
 have h0 : QfD p.1 = 0 := by simpa using h0
 split at h
 case isFalse => cases h
 rename_i h4
 cases hl : QeD p with
 | some c => rw [hl] at h; exact absurd h (Qkj hl)
 | none =>
 rw [hl] at h
 dsimp only at h
 cases hb : Qer p with
 | some c => rw [hb] at h; exact absurd h (Qqo hb)
 | none =>
 rw [hb] at h
 dsimp only at h
 unfold QfD at h0
 split at h0
 case isFalse => cases h0
 rename_i g1
 unfold Qky at h
 split at h
 case isFalse => cases h
 rename_i g2
 cases ho : scan (fun (_ : Nat) l => Go.Proofs.YtopmpmbdkieenaaGreatDoor.own1 l) 0 p.1 with
 | some c =>
  rw [ho] at h0
  dsimp only at h0
  subst h0
  have : (0 : Int) ≠ 0 := Qdt (P := fun c => c ≠ 0) (fun j hj c hc => by
   unfold Go.Proofs.YtopmpmbdkieenaaGreatDoor.own1 at hc
   split at hc
   ·exact Qdt (P := fun c => c ≠ 0) (fun j hj c hc => by
     split at hc
     ·cases hc
     ·rw [← Osj hc]; decide) c hc
   ·rw [← Osj hc]; decide) _ ho
  exact absurd rfl this
 | none =>
  rw [ho] at h0
  dsimp only at h0
  have hd : dupM [] p.1.flatten = false := by
   split at h0
   ·cases h0
   ·rename_i h'; simpa using h'
  refine ⟨g1, ?_, hd, ⟨h4.1, hl⟩, ⟨h4.2, hb⟩, g2, ?_⟩
  ·intro l hl'
   obtain ⟨_, e⟩ := Qbq ho l hl'
   unfold Go.Proofs.YtopmpmbdkieenaaGreatDoor.own1 at e
   split at e
   ·rename_i g
    refine ⟨g.1, g.2, fun x hx => ?_⟩
    obtain ⟨_, e2⟩ := Qbq e x hx
    split at e2
    ·rename_i g3; exact QcS.1 g3
    ·cases e2
   ·cases e
  ·intro s hs
   cases hp : scan (fun (_ : Nat) (s : TwoD) => if isG p s.1 = true then (if inB s.2.1 1 50 = true then none else some (3 : Int)) else some 4) 0 p.2.2.2.1 with
   | some c =>
    rw [hp] at h
    dsimp only at h
    subst h
    have : (0 : Int) ≠ 0 := Qdt (P := fun c => c ≠ 0) (fun j hj c hc => by
     split at hc
     ·split at hc
      ·cases hc
      ·rw [← Osj hc]; decide
     ·rw [← Osj hc]; decide) _ hp
    exact absurd rfl this
   | none =>
    obtain ⟨_, e⟩ := Qbq hp s hs
    split at e
    ·rename_i g
     split at e
     ·rename_i g3; exact ⟨g, QcS.1 g3⟩
     ·cases e
    ·cases e
def QrC (m : List TwoD) : Prop := m.length ≤ 8 ∧ ∀ s ∈ m, 1 ≤ s.2.1 ∧ s.2.1 ≤ 50
theorem OkPol.okPlan {p : PolD} (h : OkPol p) : QrC p.2.2.2.1 := ⟨h.plan.2, fun s hs => (h.slots s hs).2⟩
def QD (g : Int) : List TwoD → Int
 | [] => 0
 | s :: r => (if g < 0 ∨ s.1 = g then s.2.1 else 0) + QD g r
theorem QcM {g : Int} : ∀ {m : List TwoD}, (∀ s ∈ m, 1 ≤ s.2.1 ∧ s.2.1 ≤ 50) → 0 ≤ QD g m ∧ QD g m ≤ 50 * (m.length : Int)
 | [], _ => by simp [QD]
 | s :: r, h => by
  have h1 := h s (by simp)
  have := QcM (g := g) (m := r) fun s hs => h s (List.mem_cons_of_mem _ hs)
  simp only [QD, List.length_cons]
  split <;> omega
theorem QqX {α : Type} {m : List α} {i : Nat} {P : α → Prop} (h : ∀ s ∈ m, P s) : ∀ s ∈ m.drop i, P s := fun s hs => h s (List.mem_of_mem_drop hs)
theorem QoV (p : PolD) (g : Int) (h : QrC p.2.2.2.1) : F_ea (p, g, ()) = some ((QD g p.2.2.2.1, ()), ()) := by
 obtain ⟨hl, hs⟩ := h
 have key := QbX (step := l_ea_3) (γ := denO o_ea_3) (fun k (a : Int) => ((g, a, p.2.2.2.1, ((p.2.2.2.1.length : Nat) : Int), ((k : Nat) : Int), ()), (), ())) p.2.2.2.1.length (QW (by omega)) (fun k a => 0 ≤ a ∧ a ≤ 50 * (k : Int))
  (fun k a => some (.inl ((a + QD g (p.2.2.2.1.drop k), ()), (), ()))) ?_ 0 0 (by omega) (by omega)
 ·have e0 : ((0 : Nat) : Int) = 0 := rfl
  rw [e0] at key
  unfold F_ea
  show (Qc l_ea_3 lots ((g, 0, p.2.2.2.1, ((p.2.2.2.1.length : Nat) : Int), 0, ()), (), ())).bind _ = _
  rw [key, Obn]
  simp
 ·rintro rec k a hk ha ih
  unfold l_ea_3
  dsimp only
  by_cases hlt : k < p.2.2.2.1.length
  ·have hb := hs _ (List.getElem_mem hlt)
   rw [if_pos (lt_t hlt), if_pos nat0, Ql hlt, QP (n := a + (p.2.2.2.1[k]).2.1) (by omega) (by omega), QK (by omega), QaB hlt]
   rw [show QD g (p.2.2.2.1[k] :: p.2.2.2.1.drop (k + 1)) = (if g < 0 ∨ (p.2.2.2.1[k]).1 = g then (p.2.2.2.1[k]).2.1 else 0) + QD g (p.2.2.2.1.drop (k + 1)) from rfl]
   by_cases hg : g < 0
   ·rw [if_neg (by rw [QaQ]; omega), ih _ hlt (by omega), if_pos (.inl hg), Int.add_assoc]
   ·rw [if_pos (by rw [QaQ]; omega)]
    by_cases hg2 : (p.2.2.2.1[k]).1 = g
    ·rw [if_pos (by simpa using hg2), ih _ hlt (by omega), if_pos (.inr hg2), Int.add_assoc]
    ·rw [if_neg (by simpa using hg2), ih _ hlt (by omega), if_neg (by omega), Int.zero_add]
  ·rw [if_neg (lt_f hlt), QaJ hlt]
   simp [QD]
theorem Quf {p : PolD} {g : Int} (h0 : askM p g = 0) : OkPol p ∧ 0 ≤ g ∧ g < (p.1.length : Int) := by
 unfold askM at h0
 split at h0
 ·rename_i h'; exact absurd h0 h'
 ·rename_i h'
  split at h0
  ·rename_i h2
   unfold isG at h2
   simp at h2
   exact ⟨Qku (by simpa using h'), by omega, by omega⟩
  ·cases h0
abbrev Qx := PolD × List Int × List QJ × Int × Int × Int × Unit
theorem QgQ {γ : Type} {m : List Int} {z : Int} (n : Nat) (hz : z.toNat = n) (h : n < m.length) (K : Int → Option γ) : (m[z.toNat]?).bind K = K (m.getD n 0) := by
 rw [hz, List.getElem?_eq_getElem h, Obn, List.getD_eq_getElem?_getD, List.getElem?_eq_getElem h]
 rfl
theorem Qhd (n : Int) : F_am (n, ()) = some ((okW n, ()), ()) := by
 unfold F_am
 rw [Qbv, Obn]
 rfl
theorem Qpy {α : Type} {p : α → Bool} : ∀ (m : List α), m.any (fun y => !p y) = !m.all p
 | [] => rfl
 | x :: r => by simp only [List.any_cons, List.all_cons, Qpy r, Bool.not_and]
theorem Qco (m : List Int) (hm : m.length ≤ 1048576) : F_an (m, ()) = some ((allW m, ()), ()) := by
 have key := QQ (step := l_an_2) (γ := denO o_an_2) (fun i => ((m, ((i : Nat) : Int), ()), (), ())) m (fun _ y => if okW y = true then none else some ())
  (fun _ => some (.inr (.inl ((false, ()), (), ())))) (some (.inl ((), (), ()))) (QaC hm) ?_ ?_
 ·have e0 : ((0 : Nat) : Int) = 0 := rfl
  rw [e0] at key
  have := QdM (f := fun (_ : Nat) y => if okW y = true then none else some ()) (p := fun y => !okW y) (m := m) (i := 0) (fun j hj => by cases okW m[j] <;> rfl)
  rw [Qpy] at this
  have e : allW m = !(scan (fun (_ : Nat) y => if okW y = true then none else some ()) 0 m).isSome := by rw [this, Bool.not_not]; rfl
  unfold F_an
  show (Qc l_an_2 lots ((m, 0, ()), (), ())).bind _ = _
  rw [key, e]
  cases scan (fun (_ : Nat) y => if okW y = true then none else some ()) 0 m <;> rfl
 ·intro rec i h
  unfold l_an_2
  dsimp only
  rw [if_pos (lt_t h), if_pos nat0, Ql h, Qhd, Obn, QK (lt1 h hm)]
  cases okW m[i] <;> rfl
 ·intro rec
  unfold l_an_2
  dsimp only
  rw [if_neg Qak]
def hartM (h : QJ) : Int :=
 if h.1.length = 16 ∧ h.2.2.1.length = 11 ∧ h.1.getD 0 0 = 0 then
  (if allW h.1 = true ∧ okW h.2.1 = true ∧ allW h.2.2.1 = true ∧ allW h.2.2.2.2.2.2.2.1 = true ∧ allW h.2.2.2.2.2.2.2.2.1 = true then
   (if h.2.2.2.2.2.2.2.1.length ≤ 40 ∧ h.2.2.2.2.2.2.2.2.1.length ≤ 40 then
    (if inB h.2.2.2.2.2.2.1 0 1000000000 = true then
     (if h.2.2.1.getD 0 0 ≤ 3 ∧ h.2.2.1.getD 7 0 ≤ 7 ∧ h.2.2.1.getD 10 0 ≤ 8 ∧ h.2.2.1.getD 6 0 = 0 ∧ h.2.2.1.getD 8 0 = 0 then 0 else 1) else 3) else 2) else 3) else 1
theorem QeQ (h : QJ) (hl : Qam 1048576 h) : F_ao (h, ()) = some ((hartM h, ()), ()) := by
 obtain ⟨l1, l2, l3, l4⟩ := hl
 unfold F_ao hartM
 dsimp only
 by_cases a1 : h.1.length = 16
 case neg =>
  have : ¬ ((h.1.length : Nat) : Int) = 16 := by omega
  simp [a1, this]
 rw [if_pos (by rw [a1]; rfl)]
 by_cases a2 : h.2.2.1.length = 11
 case neg =>
  have : ¬ ((h.2.2.1.length : Nat) : Int) = 11 := by omega
  simp [a2, this]
 rw [if_pos (by rw [a2]; rfl), QgQ (z := 0) 0 rfl (by omega)]
 by_cases a3 : h.1.getD 0 0 = 0
 case neg => rw [if_pos (by simpa using a3), if_neg (fun g => a3 g.2.2)]
 have hA : h.1.length = 16 ∧ h.2.2.1.length = 11 ∧ h.1.getD 0 0 = 0 := ⟨a1, a2, a3⟩
 rw [if_neg (by simpa using a3), if_pos hA, Qco _ l1, Qhd, Qco _ l2, Qco _ l3, Qco _ l4]
 simp only [Obn]
 cases b1 : allW h.1
 ·simp
 cases b2 : okW h.2.1
 ·simp
 cases b3 : allW h.2.2.1
 ·simp
 cases b4 : allW h.2.2.2.2.2.2.2.1
 ·simp
 cases b5 : allW h.2.2.2.2.2.2.2.2.1
 ·simp
 simp only [Bool.not_true, and_self, if_true, Bool.false_eq_true, if_false]
 by_cases c1 : h.2.2.2.2.2.2.2.1.length ≤ 40
 case neg => rw [if_neg (by rw [QaQ]; omega), if_neg (fun g => c1 g.1)]
 rw [if_pos (by rw [QaQ]; omega)]
 by_cases c2 : h.2.2.2.2.2.2.2.2.1.length ≤ 40
 case neg => rw [if_pos (by rw [QU]; omega), if_neg (fun g => c2 g.2)]
 have hC : h.2.2.2.2.2.2.2.1.length ≤ 40 ∧ h.2.2.2.2.2.2.2.2.1.length ≤ 40 := ⟨c1, c2⟩
 rw [if_neg (by rw [QU]; omega), if_pos hC, QaV, Obn]
 dsimp only
 cases b6 : inB h.2.2.2.2.2.2.1 0 1000000000
 ·simp
 rw [if_neg (by simp), if_pos rfl, QgQ (z := 0) 0 rfl (by omega)]
 by_cases d1 : h.2.2.1.getD 0 0 ≤ 3
 case neg => rw [if_neg (by rw [QaQ]; exact fun g => g (Int.not_le.1 d1)), if_neg (fun g => d1 g.1)]
 rw [if_pos (by rw [QaQ]; exact Int.not_lt.2 d1), QgQ (z := 7) 7 rfl (by omega)]
 by_cases d2 : h.2.2.1.getD 7 0 ≤ 7
 case neg => rw [if_neg (by rw [QaQ]; exact fun g => g (Int.not_le.1 d2)), if_neg (fun g => d2 g.2.1)]
 rw [if_pos (by rw [QaQ]; exact Int.not_lt.2 d2), QgQ (z := 10) 10 rfl (by omega)]
 by_cases d3 : h.2.2.1.getD 10 0 ≤ 8
 case neg => rw [if_neg (by rw [QaQ]; exact fun g => g (Int.not_le.1 d3)), if_neg (fun g => d3 g.2.2.1)]
 rw [if_pos (by rw [QaQ]; exact Int.not_lt.2 d3), QgQ (z := 6) 6 rfl (by omega)]
 by_cases d4 : h.2.2.1.getD 6 0 = 0
 case neg => rw [if_neg (by simpa using d4), if_neg (fun g => d4 g.2.2.2.1)]
 rw [if_pos (by simpa using d4), QgQ (z := 8) 8 rfl (by omega)]
 by_cases d5 : h.2.2.1.getD 8 0 = 0
 case neg => rw [if_pos (by simpa using d5), if_neg (fun g => d5 g.2.2.2.2)]
 have hD : h.2.2.1.getD 0 0 ≤ 3 ∧ h.2.2.1.getD 7 0 ≤ 7 ∧ h.2.2.1.getD 10 0 ≤ 8 ∧ h.2.2.1.getD 6 0 = 0 ∧ h.2.2.1.getD 8 0 = 0 := ⟨d1, d2, d3, d4, d5⟩
 rw [if_neg (by simpa using d5), if_pos hD]
theorem QhA (h : QJ) (hl : Qam 1048576 h) : F_dz (h, ()) = some ((hartM h, ()), ()) := by
 rw [← QeQ h hl]
 obtain ⟨l1, l2, l3, l4⟩ := hl
 unfold F_dz F_ao
 rw [QbB _ (leM l1), Qki, QbB _ (leM l2), QbB _ (leM l3), QbB _ (leM l4), Qaa]
 rw [Qco _ l1, Qhd, Qco _ l2, Qco _ l3, Qco _ l4, QaV]
def Qz : Nat → List TwoD → Int → Nat × Int × Int
 | k, [], at_ => (k, at_, 0)
 | k, s :: r, at_ => if s.2.1 ≤ at_ then Qz (k + 1) r (at_ - s.2.1) else (k, at_, s.2.1 - at_)
theorem QaT : ∀ {m : List TwoD} {k : Nat} {a : Int}, (∀ s ∈ m, 1 ≤ s.2.1 ∧ s.2.1 ≤ 50) → 0 ≤ a → a < QD (-1) m →
  k ≤ (Qz k m a).1 ∧ ∃ s, m[(Qz k m a).1 - k]? = some s ∧ (Qz k m a).2.2 = s.2.1 - (Qz k m a).2.1 ∧ 0 ≤ (Qz k m a).2.1 ∧ (Qz k m a).2.1 < s.2.1
 | [], k, a, _, h0, h1 => by simp [QD] at h1; omega
 | s :: r, k, a, hs, h0, h1 => by
  simp only [QD] at h1
  rw [if_pos (.inl (by decide))] at h1
  simp only [Qz]
  by_cases h : s.2.1 ≤ a
  ·rw [if_pos h]
   obtain ⟨g0, q, g1, g2⟩ := QaT (m := r) (k := k + 1) (a := a - s.2.1) (fun s hs' => hs s (List.mem_cons_of_mem _ hs')) (by omega) (by omega)
   refine ⟨by omega, q, ?_, g2⟩
   have e : (Qz (k + 1) r (a - s.2.1)).1 - k = ((Qz (k + 1) r (a - s.2.1)).1 - (k + 1)) + 1 := by omega
   rw [e, List.getElem?_cons_succ]
   exact g1
  ·rw [if_neg h]
   exact ⟨Nat.le_refl _, s, by simp, rfl, h0, by show a < s.2.1; omega⟩
def Qbk (p : PolD) (clock : Int) : Int × Int := let e := Qz 0 p.2.2.2.1 (clock % QD (-1) p.2.2.2.1); ((e.1 : Int), e.2.2)
theorem Qdc {m : List TwoD} (h : ∀ s ∈ m, 1 ≤ s.2.1 ∧ s.2.1 ≤ 50) (hl : 1 ≤ m.length) : 1 ≤ QD (-1) m := by
 cases m with
 | nil => simp at hl
 | cons s r =>
  have := QcM (g := -1) (m := r) fun s hs => h s (List.mem_cons_of_mem _ hs)
  have := h s (by simp)
  simp only [QD]
  rw [if_pos (.inl (by decide))]
  omega
theorem QnC {a b : Int} (h : 0 ≤ a) : a.tmod b = a % b := by
 rw [Int.tmod_eq_emod_of_nonneg h]
theorem QkR {γ : Type} {p : PolD} (hok : OkPol p) {step : ((PolD × Int × Int × Unit) × Unit × Unit → Option (((PolD × Int × Int × Unit) × Unit × Unit) ⊕ γ)) → (PolD × Int × Int × Unit) × Unit × Unit → Option (((PolD × Int × Int × Unit) × Unit × Unit) ⊕ γ)}
  (hstep : ∀ rec p a i, step rec ((p, a, i, ()), (), ()) = if 0 ≤ i then (p.2.2.2.1[i.toNat]?).bind fun y => if leI y.2.1 a = true then (if 0 ≤ i then (p.2.2.2.1[i.toNat]?).bind fun y =>
   rec ((p, IntKind.i64.wrap (a - y.2.1), IntKind.i64.wrap (i + 1), ()), (), ()) else none) else some (.inl ((p, a, i, ()), (), ())) else none)
  (a : Int) (h0 : 0 ≤ a) (h1 : a < QD (-1) p.2.2.2.1) : Qc step lots ((p, a, 0, ()), (), ()) = some (.inl ((p, (Qz 0 p.2.2.2.1 a).2.1, ((Qz 0 p.2.2.2.1 a).1 : Int), ()), (), ())) := by
 obtain ⟨hl, hs⟩ := hok.okPlan
 have key := QbX (step := step) (fun k (a : Int) => ((p, a, ((k : Nat) : Int), ()), (), ())) p.2.2.2.1.length (QW (by omega)) (fun k a => 0 ≤ a ∧ a < QD (-1) (p.2.2.2.1.drop k))
  (fun k a => some (.inl ((p, (Qz k (p.2.2.2.1.drop k) a).2.1, ((Qz k (p.2.2.2.1.drop k) a).1 : Int), ()), (), ()))) ?_ 0 a (by omega) ⟨h0, by simpa using h1⟩
 ·exact key
 ·rintro rec k a hk ⟨g0, g1⟩ ih
  by_cases hlt : k < p.2.2.2.1.length
  ·have hb := hs _ (List.getElem_mem hlt)
   have hle := (QcM (g := -1) (QqX (i := k) hs)).2
   rw [List.length_drop] at hle
   rw [hstep, if_pos nat0, Ql hlt, if_pos nat0, Ql hlt, QK (by omega), QP (n := a - (p.2.2.2.1[k]).2.1) (by omega) (by omega)]
   rw [QaB hlt] at g1
   simp only [QD] at g1
   rw [if_pos (.inl (by decide))] at g1
   by_cases h : (p.2.2.2.1[k]).2.1 ≤ a
   ·have e : Qz k (p.2.2.2.1.drop k) a = Qz (k + 1) (p.2.2.2.1.drop (k + 1)) (a - (p.2.2.2.1[k]).2.1) := by
     rw [QaB hlt]; simp only [Qz]; rw [if_pos h]
    rw [if_pos (QaZ.2 h), e]
    exact ih _ hlt ⟨by omega, by omega⟩
   ·have e : Qz k (p.2.2.2.1.drop k) a = (k, a, (p.2.2.2.1[k]).2.1 - a) := by
     rw [QaB hlt]; simp only [Qz]; rw [if_neg h]
    rw [if_neg (by rw [QaZ]; exact h), e]
  ·rw [QaJ hlt] at g1
   simp [QD] at g1
   omega
theorem QmF (p : PolD) (clock : Int) (hok : OkPol p) (h0 : 0 ≤ clock) : F_eb (p, clock, ()) = some (((Qbk p clock).1, (Qbk p clock).2, ()), ()) := by
 obtain ⟨hl, hs⟩ := hok.okPlan
 have hpos := Qdc hs hok.plan.1
 have hle := (QcM (g := -1) hs).2
 unfold F_eb
 dsimp only
 rw [QoV p (-1) hok.okPlan, Obn]
 dsimp only
 have a0 : 0 ≤ clock % QD (-1) p.2.2.2.1 := Int.emod_nonneg _ (by omega)
 have a1 : clock % QD (-1) p.2.2.2.1 < QD (-1) p.2.2.2.1 := Int.emod_lt_of_pos _ (by omega)
 have hne : ¬ QD (-1) p.2.2.2.1 = 0 := by omega
 rw [if_neg hne, QnC h0]
 show (Qc l_eb_3 lots ((p, clock % QD (-1) p.2.2.2.1, 0, ()), (), ())).bind _ = _
 rw [QkR hok (step := l_eb_3) (fun _ _ _ _ => rfl) _ a0 a1, Obn]
 dsimp only
 obtain ⟨_, s, g1, g2, g3, g4⟩ := QaT (k := 0) hs a0 a1
 rw [Nat.sub_zero] at g1
 have hb := hs s (List.mem_of_getElem? g1)
 rw [if_pos nat0, Int.toNat_natCast, g1, Obn, QP (by omega) (by omega), ← g2]
 rfl
theorem Qnt (p : PolD) (clock : Int) (hok : OkPol p) (h0 : 0 ≤ clock) : F_ap (p, clock, ()) = some (((Qbk p clock).1, (Qbk p clock).2, ()), ()) := by
 obtain ⟨hl, hs⟩ := hok.okPlan
 have hpos := Qdc hs hok.plan.1
 have hle := (QcM (g := -1) hs).2
 have a0 : 0 ≤ clock % QD (-1) p.2.2.2.1 := Int.emod_nonneg _ (by omega)
 have a1 : clock % QD (-1) p.2.2.2.1 < QD (-1) p.2.2.2.1 := Int.emod_lt_of_pos _ (by omega)
 have key := QbX (step := l_ap_3) (γ := denO o_ap_3) (fun k (a : Int) => ((p, clock, a, ((k : Nat) : Int), ()), (), ())) p.2.2.2.1.length (QW (by omega)) (fun k a => 0 ≤ a ∧ a ≤ 50 * (k : Int))
  (fun k a => some (.inl ((p, clock, a + QD (-1) (p.2.2.2.1.drop k), ()), (), ()))) ?_ 0 0 (by omega) (by omega)
 ·have e0 : ((0 : Nat) : Int) = 0 := rfl
  rw [e0, List.drop_zero, Int.zero_add] at key
  unfold F_ap
  show (Qc l_ap_3 lots ((p, clock, 0, 0, ()), (), ())).bind _ = _
  rw [key, Obn]
  dsimp only
  have hne : ¬ QD (-1) p.2.2.2.1 = 0 := by omega
  rw [if_neg hne, QnC h0]
  show (Qc l_ap_8 lots ((p, clock % QD (-1) p.2.2.2.1, 0, ()), (), ())).bind _ = _
  rw [QkR hok (step := l_ap_8) (fun _ _ _ _ => rfl) _ a0 a1, Obn]
  dsimp only
  obtain ⟨_, s, g1, g2, g3, g4⟩ := QaT (k := 0) hs a0 a1
  rw [Nat.sub_zero] at g1
  have hb := hs s (List.mem_of_getElem? g1)
  rw [if_pos nat0, Int.toNat_natCast, g1, Obn, QP (by omega) (by omega), ← g2]
  rfl
 ·rintro rec k a hk ha ih
  unfold l_ap_3
  dsimp only
  by_cases hlt : k < p.2.2.2.1.length
  ·have hb := hs _ (List.getElem_mem hlt)
   rw [if_pos (lt_t hlt), if_pos nat0, Ql hlt, QP (n := a + (p.2.2.2.1[k]).2.1) (by omega) (by omega), QK (by omega), QaB hlt]
   rw [show QD (-1) (p.2.2.2.1[k] :: p.2.2.2.1.drop (k + 1)) = (p.2.2.2.1[k]).2.1 + QD (-1) (p.2.2.2.1.drop (k + 1)) from by simp only [QD]; rw [if_pos (.inl (by decide))], ← Int.add_assoc]
   exact ih _ hlt (by omega)
  ·rw [if_neg (lt_f hlt), QaJ hlt]
   simp [QD]
def Qcv (n : Nat) (x : Qx) : Prop := QfH n x.1 ∧ x.2.1.length ≤ n ∧ x.2.2.1.length ≤ n ∧ ∀ h ∈ x.2.2.1, Qam n h
def QgZ (m : List QJ) : Option Int := scan (fun (_ : Nat) h => nz (hartM h)) 0 m
def Qbn (x : Qx) : Int :=
 if polM x.1 ≠ 0 then polM x.1
 else if (QC x.2.1 = 0 ∧ x.2.1.length = 192) ∧ x.2.2.1.length = x.1.1.length then
  (match QgZ x.2.2.1 with
   | some c => c
   | none => if inB x.2.2.2.2.2.1 0 1000000 = true then (if x.2.2.2.1 = (Qbk x.1 x.2.2.2.2.2.1).1 ∧ x.2.2.2.2.1 = (Qbk x.1 x.2.2.2.2.2.1).2 then 0 else 1) else 3)
 else 1
theorem QlJ (m : List Int) (h : m.length ≤ 1048576) : F_al (m, ()) = some ((decide (QC m = 0 ∧ m.length = 192), ()), ()) := by
 unfold F_al
 rw [QgJ m (leM h), Obn]
 dsimp only
 by_cases h0 : QC m = 0
 ·rw [if_pos (by simpa using h0)]
  by_cases h1 : m.length = 192
  ·simp [h0, h1]
  ·have : ¬ ((m.length : Nat) : Int) = 192 := by omega
   simp [h0, h1, this]
 ·rw [if_neg (by simpa using h0)]
  simp [h0]
theorem Qlu (m : List Int) (h : m.length ≤ 1048576) : F_dy (m, ()) = some ((decide (QC m = 0 ∧ m.length = 192), ()), ()) := by
 unfold F_dy
 rw [Qgw m (leM h), Obn]
 dsimp only
 by_cases h0 : QC m = 0
 ·rw [if_pos (by simpa using h0)]
  by_cases h1 : m.length = 192
  ·simp [h0, h1]
  ·have : ¬ ((m.length : Nat) : Int) = 192 := by omega
   simp [h0, h1, this]
 ·rw [if_neg (by simpa using h0)]
  simp [h0]
theorem Qnk (x : Qx) (h : Qcv 1048576 x) : F_aq (x, ()) = some ((Qbn x, ()), ()) := by
 obtain ⟨hp, h1, h2, h3⟩ := h
 have key := QQ (step := l_aq_7) (γ := denO o_aq_7) (fun i => ((x, ((i : Nat) : Int), ()), (), ())) x.2.2.1 (fun (_ : Nat) h => nz (hartM h))
  (fun c => some (.inr (.inl ((c, ()), (), ())))) (some (.inl ((x, ()), (), ()))) (QaC h2) ?_ ?_
 ·have e0 : ((0 : Nat) : Int) = 0 := rfl
  rw [e0] at key
  unfold F_aq Qbn
  dsimp only
  rw [QiY x.1 hp, Obn]
  dsimp only
  by_cases g0 : polM x.1 = 0
  case neg => rw [if_pos (by simpa using g0), if_pos g0]
  have n0 : ¬ polM x.1 ≠ 0 := by simpa using g0
  have hG : ∀ P : Prop, ¬ P → ¬ (P ∧ x.2.2.1.length = x.1.1.length) := fun P h g => h g.1
  rw [if_neg (by simpa using g0), if_neg n0, QlJ _ h1, Obn]
  dsimp only
  by_cases g1 : QC x.2.1 = 0 ∧ x.2.1.length = 192
  case neg => rw [if_neg (by simpa using g1), if_neg (hG _ g1)]
  rw [if_pos (by simpa using g1)]
  by_cases g2 : x.2.2.1.length = x.1.1.length
  case neg =>
   have : ¬ ((x.2.2.1.length : Nat) : Int) = ((x.1.1.length : Nat) : Int) := by omega
   rw [if_pos (by simpa using this), if_neg (fun g : (QC x.2.1 = 0 ∧ x.2.1.length = 192) ∧ x.2.2.1.length = x.1.1.length => g2 g.2)]
  have hH : (QC x.2.1 = 0 ∧ x.2.1.length = 192) ∧ x.2.2.1.length = x.1.1.length := ⟨g1, g2⟩
  rw [if_neg (by rw [g2]; simp), if_pos hH]
  show (Qc l_aq_7 lots ((x, 0, ()), (), ())).bind _ = _
  rw [key]
  unfold QgZ
  cases scan (fun (_ : Nat) h => nz (hartM h)) 0 x.2.2.1 with
  | some c => rfl
  | none =>
   rw [Obn]
   dsimp only
   rw [QaV, Obn]
   dsimp only
   cases g3 : inB x.2.2.2.2.2.1 0 1000000
   ·simp
   ·rw [if_neg (by simp), if_pos rfl, Qnt x.1 _ (Qku g0) (QcS.1 g3).1, Obn]
    dsimp only
    by_cases g4 : x.2.2.2.1 = (Qbk x.1 x.2.2.2.2.2.1).1
    ·by_cases g5 : x.2.2.2.2.1 = (Qbk x.1 x.2.2.2.2.2.1).2
     ·rw [if_pos (by simpa using g4), if_neg (by simpa using g5), if_pos ⟨g4, g5⟩]
     ·rw [if_pos (by simpa using g4), if_pos (by simpa using g5), if_neg (fun h => g5 h.2)]
    ·rw [if_neg (by simpa using g4), if_neg (fun h => g4 h.1)]
 ·intro rec i hi
  unfold l_aq_7
  dsimp only
  rw [if_pos (lt_t hi), if_pos nat0, Ql hi, QeQ _ (h3 _ (List.getElem_mem hi)), Obn, QK (lt1 hi h2)]
  dsimp only
  unfold nz
  by_cases g : hartM x.2.2.1[i] = 0
  ·rw [if_neg (by simpa using g), if_neg (by simpa using g)]
  ·rw [if_pos (by simpa using g), if_pos (by simpa using g)]
 ·intro rec
  unfold l_aq_7
  dsimp only
  rw [if_neg Qak]
end Go.Proofs.YtopmpmbdkieenaaGreatDoor
