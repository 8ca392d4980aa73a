/- Plain laws: what the functions compute, and that both programs compute the same. -/
import Derived.Test.YtajnommlfjfgpaaGreatDoorGa4
namespace Go.Proofs.YtajnommlfjfgpaaGreatDoor
open Go Go.RowKit S Go.Proofs
set_option maxRecDepth 100000
set_option linter.unusedVariables false
set_option linter.unusedSimpArgs false
theorem Qro {m out : List Int} {i : Int} {y : Int} (h0 : 0 ≤ i) (h : i < (m.length : Int)) (hl : out.length = m.length) (hy : m.drop i.toNat = y :: m.drop (i + 1).toNat) :
  (out.set i.toNat y).take (i + 1).toNat ++ m.drop (i + 1).toNat = out.take i.toNat ++ m.drop i.toNat := by
 have e : (i + 1).toNat = i.toNat + 1 := by omega
 rw [hy, e, List.take_add_one, List.take_set_of_le (Nat.le_refl _)]
 rw [List.getElem?_set_self (by omega)]
 simp
theorem QiV (m out : List Int) (i : Int) (h0 : 0 ≤ i) (h1 : i ≤ (m.length : Int)) (h2 : out.length = m.length) (h3 : m.length ≤ maxLen) :
  L_eh_3 ((m, out, i, ()), (), ()) = some (.inl ((out.take i.toNat ++ m.drop i.toNat, ()), (), ())) := by
 refine Qdy (γ := denO o_eh_3) (step := l_eh_3) (β := List Int × Int) (fun b => ((m, b.1, b.2, ()), (), ())) (fun b => 0 ≤ b.2 ∧ b.2 ≤ (m.length : Int) ∧ b.1.length = m.length)
  (fun b => some (.inl ((b.1.take b.2.toNat ++ m.drop b.2.toNat, ()), (), ()))) (fun b => (m.length - b.2).toNat) ?_ lots (out, i) ⟨h0, h1, h2⟩ (by rw [Qax] at h3; rw [Qat]; simp only; omega)
 rintro rec ⟨out, i⟩ ⟨h0, h1, h2⟩ ih
 simp only at h0 h1 h2 ih ⊢
 unfold l_eh_3
 simp only [QP, QX, decide_eq_true_eq, ge_iff_le, gt_iff_lt]
 by_cases hlt : i < (m.length : Int)
 ·obtain ⟨y, hy, _, hd⟩ := QgS h0 hlt
  have ho : i.toNat < out.length := by omega
  have hb : 0 ≤ i ∧ i < (out.length : Int) := by omega
  rw [if_pos hlt, if_pos h0, hy, Option.bind_some, if_pos hb, List.getElem?_eq_getElem ho, Option.bind_some, QgM h0 hlt h3]
  rw [ih (_, _) ⟨by simp only; omega, by simp only; omega, by simp only [List.length_set]; exact h2⟩ (by simp only; omega)]
  simp only
  rw [Qro h0 hlt h2 hd]
 ·rw [if_neg hlt, QcL hlt, List.append_nil, List.take_of_length_le (by omega)]
theorem QbE (m : List Int) (h : m.length * 8 ≤ 140737488355328) : F_eh (m, ()) = some ((m, ()), ()) := by
 unfold F_eh
 simp only
 rw [if_pos ?_, QiV _ _ _ (by simp) (by simp) (by simp) (by rw [Qax]; omega)]
 ·simp
 ·refine ⟨trivial, ?_, ?_, ?_⟩ <;> omega
theorem QiI (m : List Int) (i : Int) (h0 : 0 ≤ i) (h1 : i ≤ (m.length : Int)) (h3 : m.length ≤ maxLen) :
  L_hn_4 ((m, m, i, ()), (), ()) = some (.inl ((), ((), ()))) := by
 refine Qdy (γ := denO o_hn_4) (step := l_hn_4) (β := Int) (fun i => ((m, m, i, ()), (), ())) (fun i => 0 ≤ i ∧ i ≤ (m.length : Int)) (fun _ => some (.inl ((), ((), ()))))
  (fun i => (m.length - i).toNat) ?_ lots _ ⟨h0, h1⟩ (by rw [Qax] at h3; rw [Qat]; omega)
 rintro rec i ⟨h0, h1⟩ ih
 simp only at h0 h1 ih ⊢
 unfold l_hn_4
 simp only [QP, QX, decide_eq_true_eq, ge_iff_le, gt_iff_lt]
 by_cases hlt : i < (m.length : Int)
 ·obtain ⟨y, hy, _, hd⟩ := QgS h0 hlt
  rw [if_pos hlt, if_pos h0, hy, Option.bind_some, if_pos h0, Option.bind_some, if_neg (by simp), QgM h0 hlt h3]
  exact ih _ ⟨by omega, by omega⟩ (by omega)
 ·rw [if_neg hlt]
theorem Qbw (m : List Int) (h : m.length ≤ maxLen) : F_hn (m, m, ()) = some ((true, ()), ()) := by
 unfold F_hn
 simp only
 rw [if_neg (by simp), QiI _ _ (by simp) (by simp) h]
 simp
def okW (w : Int) : Bool := decide (w ≥ 0) && decide (w ≤ 4294967295)
def allW (m : List Int) : Bool := m.all okW
theorem QbM (n a b : Int) : F_d (n, a, b, ()) = some ((decide (n ≥ a) && decide (n ≤ b), ()), ()) := by
 unfold F_d
 simp only [QP, QX, decide_eq_true_eq, ge_iff_le, gt_iff_lt]
 split
 ·rename_i h; simp [h]
 ·rename_i h; simp [h]
theorem QaW (n a b : Int) : F_ab (n, a, b, ()) = some ((decide (n ≥ a) && decide (n ≤ b), ()), ()) := by
 unfold F_ab
 simp only [QP, QX, decide_eq_true_eq, ge_iff_le, gt_iff_lt]
 split
 ·rename_i h; simp [h]
 ·rename_i h; simp [h]
theorem Qjt (n : Int) : F_ac (n, ()) = some ((okW n, ()), ()) := by
 unfold F_ac
 rw [QaW, Option.bind_some]
 rfl
theorem Qkr (n : Int) : F_ad_1 (n, ()) = some ((!okW n, ()), ()) := by
 unfold F_ad_1
 rw [Qjt, Option.bind_some]
theorem Qjd {y : Int} {r : List Int} : allW (y :: r) = (okW y && allW r) := rfl
theorem Qoa (m : List Int) (i : Int) (h0 : 0 ≤ i) (h1 : i ≤ (m.length : Int)) (h3 : m.length ≤ maxLen) :
  (allW (m.drop i.toNat) = true ∧ L_af_2 ((m, (), ((m.length : Nat) : Int), i, ()), (), ()) = some (.inl ((), (), ()))) ∨
  (allW (m.drop i.toNat) = false ∧ ∃ k : Int, 0 ≤ k ∧ L_af_2 ((m, (), ((m.length : Nat) : Int), i, ()), (), ()) = some (.inr (.inl ((k, ()), (), ())))) := by
 have key : ∀ (n : Nat) (i : Int), (m.length - i).toNat < n → 0 ≤ i → i ≤ (m.length : Int) →
   (allW (m.drop i.toNat) = true ∧ Qd l_af_2 n ((m, (), ((m.length : Nat) : Int), i, ()), (), ()) = some (.inl ((), (), ()))) ∨
   (allW (m.drop i.toNat) = false ∧ ∃ k : Int, 0 ≤ k ∧ Qd l_af_2 n ((m, (), ((m.length : Nat) : Int), i, ()), (), ()) = some (.inr (.inl ((k, ()), (), ())))) := by
  intro n
  induction n with
  | zero => intro i h; omega
  | succ n ih =>
   intro i hm h0 h1
   simp only [Qd]
   generalize Qd l_af_2 n = rec at ih ⊢
   unfold l_af_2
   simp only [QP, QX, decide_eq_true_eq, ge_iff_le, gt_iff_lt]
   by_cases hlt : i < (m.length : Int)
   ·obtain ⟨y, hy, _, hd⟩ := QgS h0 hlt
    rw [if_pos hlt, if_pos h0, hy, Option.bind_some, Qkr, Option.bind_some, QgM h0 hlt h3, hd, Qjd]
    cases hw : okW y with
    | true => simpa using ih (i + 1) (by omega) (by omega) (by omega)
    | false => exact .inr ⟨by simp, i, h0, by simp⟩
   ·rw [if_neg hlt, QcL hlt]
    exact .inl ⟨rfl, rfl⟩
 exact key lots i (by rw [Qax] at h3; rw [Qat]; omega) h0 h1
theorem Qbt (m : List Int) (h : m.length ≤ maxLen) : F_ad (m, ()) = some ((allW m, ()), ()) := by
 unfold F_ad F_ag_1 F_ae_1
 simp only
 rcases Qoa m 0 (by simp) (by simp) h with ⟨h1, h2⟩ | ⟨h1, k, h2, h3⟩
 ·simp only [Int.toNat_zero, List.drop_zero] at h1
  rw [h2, h1]; rfl
 ·simp only [Int.toNat_zero, List.drop_zero] at h1
  rw [h3, h1]
  simp [h2, QX]
def QT (m : List Int) : Int := if m.length % 8 = 0 ∧ 8 ≤ m.length ∧ m.length ≤ 192 then (if allW m = true then 0 else 3) else 1
theorem QkA (m : List Int) (h : m.length ≤ maxLen) : F_ak (m, ()) = some ((QT m, ()), ()) := by
 unfold F_ak QT
 rw [Qbt m h]
 simp only [Option.bind_some, QP, QX, beq_eq_false_iff_ne, decide_eq_false_iff_not, bne_iff_ne]
 have e : ((m.length : Nat) : Int).tmod 8 = ((m.length % 8 : Nat) : Int) := rfl
 rw [e]
 by_cases h1 : ((m.length : Nat) : Int) ≠ 0
 ·rw [if_pos h1]
  by_cases h2 : ¬ ((m.length : Nat) : Int) > 192
  ·rw [if_pos h2]
   by_cases h3 : ((m.length % 8 : Nat) : Int) ≠ 0
   ·rw [if_pos h3, if_neg (by omega)]
   ·have hc : m.length % 8 = 0 ∧ 8 ≤ m.length ∧ m.length ≤ 192 := by omega
    rw [if_neg h3, if_pos hc]
    cases allW m <;> rfl
  ·rw [if_neg h2, if_neg (by omega)]
 ·rw [if_neg h1, if_neg (by omega)]
theorem Qir (m : List Int) (i : Int) (h0 : 0 ≤ i) (h1 : i ≤ (m.length : Int)) (h3 : m.length ≤ maxLen) :
  L_cg_4 ((m, i, ()), (), ()) = some (if allW (m.drop i.toNat) = true then .inl ((), (), ()) else .inr (.inl ((3, ()), (), ()))) := by
 refine Qdy (γ := denO o_cg_4) (step := l_cg_4) (β := Int) (fun i => ((m, i, ()), (), ())) (fun i => 0 ≤ i ∧ i ≤ (m.length : Int)) (fun i => some (if allW (m.drop i.toNat) = true then .inl ((), (), ()) else .inr (.inl ((3, ()), (), ()))))
  (fun i => (m.length - i).toNat) ?_ lots _ ⟨h0, h1⟩ (by rw [Qax] at h3; rw [Qat]; omega)
 rintro rec i ⟨h0, h1⟩ ih
 simp only at h0 h1 ih ⊢
 unfold l_cg_4
 simp only [QP, QX, decide_eq_true_eq, ge_iff_le, gt_iff_lt]
 by_cases hlt : i < (m.length : Int)
 ·obtain ⟨y, hy, _, hd⟩ := QgS h0 hlt
  rw [if_pos hlt, if_pos h0, hy, Option.bind_some, QbM, Option.bind_some, QgM h0 hlt h3, hd, Qjd]
  show (if (!okW y) = true then _ else _) = _
  cases hw : okW y with
  | true => simpa using ih (i + 1) ⟨by omega, by omega⟩ (by omega)
  | false => simp
 ·rw [if_neg hlt, QcL hlt]
  rfl
theorem QkR (m : List Int) (h : m.length ≤ maxLen) : F_cg (m, ()) = some ((QT m, ()), ()) := by
 unfold F_cg QT
 simp only [QP, QX, beq_eq_false_iff_ne, decide_eq_false_iff_not, bne_eq_false_iff_eq, decide_eq_true_eq]
 have e : ((m.length : Nat) : Int).tmod 8 = ((m.length % 8 : Nat) : Int) := rfl
 rw [e]
 by_cases h1 : ((m.length % 8 : Nat) : Int) = 0
 ·rw [if_pos h1]
  by_cases h2 : ¬ ((m.length : Nat) : Int) < 8
  ·rw [if_pos h2]
   by_cases h3 : ((m.length : Nat) : Int) > 192
   ·rw [if_pos h3, if_neg (by omega)]
   ·rw [if_neg h3, if_pos (by omega), Qir m 0 (by simp) (by simp) h]
    simp only [Int.toNat_zero, List.drop_zero]
    cases allW m <;> rfl
  ·rw [if_neg h2, if_neg (by omega)]
 ·rw [if_neg h1, if_neg (by omega)]
theorem QiU (m m2 : List Int) (i : Int) (h0 : 0 ≤ i) (h1 : i ≤ (m.length : Int)) (h2 : m2.length = m.length) (h3 : m.length ≤ maxLen) :
  L_fm_4 ((m, m2, i, ()), (), ()) = some (if m.drop i.toNat = m2.drop i.toNat then .inl ((), (), ()) else .inr (.inl ((false, ()), (), ()))) := by
 refine Qdy (γ := denO o_fm_4) (step := l_fm_4) (β := Int) (fun i => ((m, m2, i, ()), (), ())) (fun i => 0 ≤ i ∧ i ≤ (m.length : Int)) (fun i => some (if m.drop i.toNat = m2.drop i.toNat then .inl ((), (), ()) else .inr (.inl ((false, ()), (), ()))))
  (fun i => (m.length - i).toNat) ?_ lots _ ⟨h0, h1⟩ (by rw [Qax] at h3; rw [Qat]; omega)
 rintro rec i ⟨h0, h1⟩ ih
 simp only at h0 h1 ih ⊢
 unfold l_fm_4
 simp only [QP, decide_eq_true_eq]
 by_cases hlt : i < (m.length : Int)
 ·obtain ⟨y, hy, _, hd⟩ := QgS h0 hlt
  obtain ⟨z, hz, _, hd2⟩ := QgS (m := m2) h0 (by omega)
  rw [if_pos hlt, if_pos h0, hy, Option.bind_some, if_pos h0, hz, Option.bind_some, QgM h0 hlt h3, hd, hd2]
  by_cases e : y = z
  ·subst e
   rw [if_neg (by simp), ih _ ⟨by omega, by omega⟩ (by omega)]
   simp
  ·rw [if_pos (by simpa using e)]
   simp [e]
 ·rw [if_neg hlt, QcL hlt, QcL (by omega)]
  simp
theorem QbD (x : denP P_fm) (h : x.1.length ≤ maxLen) : F_fm x = some ((decide (x.1 = x.2.1), ()), ()) := by
 obtain ⟨m, m2, _⟩ := x
 unfold F_fm
 simp only at h ⊢
 by_cases e : m.length = m2.length
 ·have e' : ((m.length : Nat) : Int) = (m2.length : Nat) := by omega
  rw [if_neg (by simp; exact e'), QiU m m2 0 (by simp) (by simp) e.symm h]
  simp only [Int.toNat_zero, List.drop_zero]
  by_cases e2 : m = m2
  ·simp [e2]
  ·simp [e2]
 ·have e' : ¬ ((m.length : Nat) : Int) = (m2.length : Nat) := by omega
  rw [if_pos (by simp; exact e')]
  have : m ≠ m2 := fun e2 => e (by rw [e2])
  simp [this]
theorem QiM (m m2 : List Int) (i : Int) (h0 : 0 ≤ i) (h1 : i ≤ (m.length : Int)) (h2 : m2.length = m.length) (h3 : m.length ≤ maxLen) :
  L_hc_4 ((m, m2, ((m.length : Nat) : Int), i, ()), (), ()) = some (if m.drop i.toNat = m2.drop i.toNat then .inl ((), (), ()) else .inr (.inl ((false, ()), (), ()))) := by
 refine Qdy (γ := denO o_hc_4) (step := l_hc_4) (β := Int) (fun i => ((m, m2, ((m.length : Nat) : Int), i, ()), (), ())) (fun i => 0 ≤ i ∧ i ≤ (m.length : Int)) (fun i => some (if m.drop i.toNat = m2.drop i.toNat then .inl ((), (), ()) else .inr (.inl ((false, ()), (), ()))))
  (fun i => (m.length - i).toNat) ?_ lots _ ⟨h0, h1⟩ (by rw [Qax] at h3; rw [Qat]; omega)
 rintro rec i ⟨h0, h1⟩ ih
 simp only at h0 h1 ih ⊢
 unfold l_hc_4
 simp only [QP, decide_eq_true_eq]
 by_cases hlt : i < (m.length : Int)
 ·obtain ⟨y, hy, _, hd⟩ := QgS h0 hlt
  obtain ⟨z, hz, _, hd2⟩ := QgS (m := m2) h0 (by omega)
  rw [if_pos hlt, if_pos h0, hy, Option.bind_some, if_pos h0, hz, Option.bind_some, QgM h0 hlt h3, hd, hd2]
  by_cases e : y = z
  ·subst e
   rw [if_neg (by simp), ih _ ⟨by omega, by omega⟩ (by omega)]
   simp
  ·rw [if_pos (by simpa using e)]
   simp [e]
 ·rw [if_neg hlt, QcL hlt, QcL (by omega)]
  simp
theorem Qbx (x : denP P_hc) (h : x.1.length ≤ maxLen) : F_hc x = some ((decide (x.1 = x.2.1), ()), ()) := by
 obtain ⟨m, m2, _⟩ := x
 unfold F_hc
 simp only at h ⊢
 by_cases e : m.length = m2.length
 ·have e' : ((m.length : Nat) : Int) = (m2.length : Nat) := by omega
  rw [if_neg (by simp; exact e'), QiM m m2 0 (by simp) (by simp) e.symm h]
  simp only [Int.toNat_zero, List.drop_zero]
  by_cases e2 : m = m2
  ·simp [e2]
  ·simp [e2]
 ·have e' : ¬ ((m.length : Nat) : Int) = (m2.length : Nat) := by omega
  rw [if_pos (by simp; exact e')]
  have : m ≠ m2 := fun e2 => e (by rw [e2])
  simp [this]
abbrev QK := den (.pair (.slice (.int .i64)) (.pair (.int .i64) (.pair (.slice (.int .i64)) (.pair .bool (.pair .bool (.pair .bool (.pair (.int .i64) (.pair (.slice (.int .i64)) (.pair (.slice (.int .i64)) .unit)))))))))
abbrev Qss := QK × List Int × List Int × Unit
def Qal (n : Nat) (h : QK) : Prop := h.1.length ≤ n ∧ h.2.2.1.length ≤ n ∧ h.2.2.2.2.2.2.2.1.length ≤ n ∧ h.2.2.2.2.2.2.2.2.1.length ≤ n
def QnZ (n : Nat) (v : Qss) : Prop := Qal n v.1 ∧ v.2.1.length ≤ n ∧ v.2.2.1.length ≤ n
theorem QqK (x : denP P_fn) (h : Qal maxLen x.1) : ∃ b, F_fn x = some ((b, ()), ()) ∧ F_hd x = some ((b, ()), ()) := by
 obtain ⟨h1, h2, h3, h4⟩ := h
 unfold F_fn F_hd
 rw [QbD (x.1.1, x.2.1.1, ()) h1, QbD (x.1.2.2.1, x.2.1.2.2.1, ()) h2, QbD (x.1.2.2.2.2.2.2.2.1, x.2.1.2.2.2.2.2.2.2.1, ()) h3, QbD (x.1.2.2.2.2.2.2.2.2.1, x.2.1.2.2.2.2.2.2.2.2.1, ()) h4]
 rw [Qbx (x.1.1, x.2.1.1, ()) h1, Qbx (x.1.2.2.1, x.2.1.2.2.1, ()) h2, Qbx (x.1.2.2.2.2.2.2.2.1, x.2.1.2.2.2.2.2.2.2.1, ()) h3, Qbx (x.1.2.2.2.2.2.2.2.2.1, x.2.1.2.2.2.2.2.2.2.2.1, ()) h4]
 simp only [Option.bind_some]
 repeat' split
 all_goals exact ⟨_, rfl, rfl⟩
theorem QrE (x : denP P_fo) (h : QnZ maxLen x.1) : ∃ b, F_fo x = some ((b, ()), ()) ∧ F_he x = some ((b, ()), ()) := by
 obtain ⟨h1, h2, h3⟩ := h
 obtain ⟨b, e1, e2⟩ := QqK (x.1.1, x.2.1.1, ()) h1
 unfold F_fo F_he
 rw [e1, e2, QbD (x.1.2.1, x.2.1.2.1, ()) h2, QbD (x.1.2.2.1, x.2.1.2.2.1, ()) h3, Qbx (x.1.2.1, x.2.1.2.1, ()) h2, Qbx (x.1.2.2.1, x.2.1.2.2.1, ()) h3]
 simp only [Option.bind_some]
 repeat' split
 all_goals exact ⟨_, rfl, rfl⟩
theorem QdF (m : List Int) (n : Int) (h0 : 0 ≤ n) (h1 : n ≤ 1048576) (h2 : m.length ≤ maxLen) : ∃ r : Int, F_dy (m, n, ()) = some ((r, ()), ()) ∧ (r < 0 ∨ (0 ≤ r ∧ r ≤ n ∧ m.length ≤ 1048576)) := by
 unfold F_dy
 have hw : IntKind.i64.wrap (n - (m.length : Int)) = n - (m.length : Int) := by
  rw [Qax] at h2
  exact QZ (by omega) (by omega)
 simp only [QP, decide_eq_true_eq]
 by_cases hlt : n - (m.length : Int) < 0
 ·exact ⟨-1, by rw [if_pos (show IntKind.i64.wrap (n - (m.length : Int)) < 0 by rw [hw]; exact hlt)], .inl (by omega)⟩
 ·exact ⟨n - (m.length : Int), by rw [if_neg (show ¬ IntKind.i64.wrap (n - (m.length : Int)) < 0 by rw [hw]; exact hlt), hw], .inr ⟨by omega, by omega, by omega⟩⟩
theorem Qqf (h : QK) (n : Int) (h0 : 0 ≤ n) (h1 : n ≤ 1048576) (h2 : Qal maxLen h) : ∃ r : Int, F_ee (h, n, ()) = some ((r, ()), ()) ∧ (r < 0 ∨ (0 ≤ r ∧ r ≤ n ∧ Qal 1048576 h)) := by
 obtain ⟨a1, a2, a3, a4⟩ := h2
 unfold F_ee
 simp only [QP, decide_eq_true_eq]
 obtain ⟨r1, e1, c1⟩ := QdF h.1 n h0 h1 a1
 rw [e1, Option.bind_some]
 by_cases d1 : r1 < 0
 ·exact ⟨-1, by rw [if_pos d1], .inl (by omega)⟩
 rw [if_neg d1]
 have c1 := c1.resolve_left d1
 obtain ⟨r2, e2, c2⟩ := QdF h.2.2.1 r1 (by omega) (by omega) a2
 rw [e2, Option.bind_some]
 by_cases d2 : r2 < 0
 ·exact ⟨-1, by rw [if_pos d2], .inl (by omega)⟩
 rw [if_neg d2]
 have c2 := c2.resolve_left d2
 obtain ⟨r3, e3, c3⟩ := QdF h.2.2.2.2.2.2.2.1 r2 (by omega) (by omega) a3
 rw [e3, Option.bind_some]
 by_cases d3 : r3 < 0
 ·exact ⟨-1, by rw [if_pos d3], .inl (by omega)⟩
 rw [if_neg d3]
 have c3 := c3.resolve_left d3
 obtain ⟨r4, e4, c4⟩ := QdF h.2.2.2.2.2.2.2.2.1 r3 (by omega) (by omega) a4
 rw [e4, Option.bind_some]
 by_cases d4 : r4 < 0
 ·exact ⟨-1, by rw [if_pos d4], .inl (by omega)⟩
 rw [if_neg d4]
 have c4 := c4.resolve_left d4
 exact ⟨r4, rfl, .inr ⟨by omega, by omega, c1.2.2, c2.2.2, c3.2.2, c4.2.2⟩⟩
theorem le8 {n : Nat} (h : n ≤ 1048576) : n * 8 ≤ 140737488355328 := by omega
theorem leM {n : Nat} (h : n ≤ 1048576) : n ≤ maxLen := by rw [Qax]; omega
theorem Qqh (h : QK) (hl : Qal 1048576 h) : F_eq (h, ()) = some ((h, ()), ()) := by
 obtain ⟨a1, a2, a3, a4⟩ := hl
 unfold F_eq
 rw [QbE h.1 (le8 a1), Option.bind_some, QbE h.2.2.1 (le8 a2), Option.bind_some, QbE h.2.2.2.2.2.2.2.1 (le8 a3), Option.bind_some, QbE h.2.2.2.2.2.2.2.2.1 (le8 a4), Option.bind_some]
theorem Qpk (h : QK) (hl : Qal 1048576 h) : F_hw (h, h, ()) = some ((true, ()), ()) := by
 obtain ⟨a1, a2, a3, a4⟩ := hl
 unfold F_hw
 rw [Qbw h.1 (leM a1), Option.bind_some, if_neg (by simp), if_neg (by simp), Qbw h.2.2.1 (leM a2), Option.bind_some, if_neg (by simp), if_neg (by simp), if_neg (by simp), if_neg (by simp), if_neg (by simp),
  Qbw h.2.2.2.2.2.2.2.1 (leM a3), Option.bind_some, if_neg (by simp), Qbw h.2.2.2.2.2.2.2.2.1 (leM a4), Option.bind_some, if_neg (by simp)]
theorem QjI (m : List Int) (p : Nat) (h : 8 * p + 8 ≤ m.length) (h2 : m.length ≤ 192) : F_aw (m, (p : Int), ()) = some (((m.drop (8 * p)).take 8, ()), ()) := by
 unfold F_aw F_ap
 simp only
 rw [QZ (n := (p : Int) * 8) (by omega) (by omega), QZ (n := (p : Int) + 1) (by omega) (by omega), QZ (n := ((p : Int) + 1) * 8) (by omega) (by omega)]
 rw [if_pos ⟨by omega, by omega, by omega⟩]
 have e1 : ((p : Int) * 8).toNat = 8 * p := by omega
 have e2 : (((p : Int) + 1) * 8).toNat - 8 * p = 8 := by omega
 rw [e1, e2, if_pos (by simp; omega), Option.bind_some]
 simp
theorem QbV (x y : Int) : F_aj ([x, y], ()) = some ((if x ≠ 0 then x else y, ()), ()) := by
 have key : L_aj_2 (([x, y], 2, 0, ()), (), ()) = some (if x ≠ 0 then .inr (.inl ((x, ()), (), ())) else if y ≠ 0 then .inr (.inl ((y, ()), (), ())) else .inl ((), (), ())) := by
  have e : lots = (18446744073709551613 + 1) + 1 + 1 := rfl
  show Qd l_aj_2 lots _ = _
  rw [e]
  generalize 18446744073709551613 = n
  have w1 : IntKind.i64.wrap ((0 : Int) + 1) = 1 := QZ (by omega) (by omega)
  have w2 : IntKind.i64.wrap ((1 : Int) + 1) = 2 := QZ (by omega) (by omega)
  have s3 : Qd l_aj_2 (n + 1) (([x, y], 2, 2, ()), (), ()) = some (.inl ((), (), ())) := by
   simp only [Qd]
   generalize Qd l_aj_2 n = rec
   unfold l_aj_2
   simp [QP]
  have s2 : Qd l_aj_2 (n + 1 + 1) (([x, y], 2, 1, ()), (), ()) = some (if y ≠ 0 then .inr (.inl ((y, ()), (), ())) else .inl ((), (), ())) := by
   rw [show Qd l_aj_2 (n + 1 + 1) (([x, y], 2, 1, ()), (), ()) = l_aj_2 (Qd l_aj_2 (n + 1)) (([x, y], 2, 1, ()), (), ()) from rfl]
   generalize Qd l_aj_2 (n + 1) = rec at s3 ⊢
   unfold l_aj_2
   simp only [QP]
   rw [if_pos (by decide), if_pos (by decide)]
   show (some y).bind _ = _
   rw [Option.bind_some, w2, s3]
   by_cases h : y = 0
   ·subst h; simp
   ·rw [if_pos (by simp; exact h)]; simp [h]
  rw [show Qd l_aj_2 (n + 1 + 1 + 1) (([x, y], 2, 0, ()), (), ()) = l_aj_2 (Qd l_aj_2 (n + 1 + 1)) (([x, y], 2, 0, ()), (), ()) from rfl]
  generalize Qd l_aj_2 (n + 1 + 1) = rec at s2 ⊢
  unfold l_aj_2
  simp only [QP]
  rw [if_pos (by decide), if_pos (by decide)]
  show (some x).bind _ = _
  rw [Option.bind_some, w1, s2]
  by_cases h : x = 0
  ·subst h; simp
  ·rw [if_pos (by simp; exact h)]; simp [h]
 unfold F_aj
 simp only
 show (L_aj_2 (([x, y], 2, 0, ()), (), ())).bind _ = _
 rw [key, Option.bind_some]
 by_cases h : x = 0
 ·subst h
  by_cases h2 : y = 0
  ·subst h2; simp
  ·simp [h2]
 ·simp [h]
theorem QiO {m : List Int} (h : QT m = 0) : m.length % 8 = 0 ∧ 8 ≤ m.length ∧ m.length ≤ 192 := by
 unfold QT at h
 split at h
 ·assumption
 ·omega
theorem QcR {X γ σ : Type} {step : (X → Option γ) → X → Option γ} (emb : Nat → σ → X) (N : Nat) (hN : N < lots) (I : Nat → σ → Prop) (out : Nat → σ → Option γ)
  (h : ∀ rec i s, i ≤ N → I i s → (∀ s', i < N → I (i + 1) s' → rec (emb (i + 1) s') = out (i + 1) s') → step rec (emb i s) = out i s) :
  ∀ i s, i ≤ N → I i s → Qd step lots (emb i s) = out i s := by
 have key : ∀ n i s, N - i < n → i ≤ N → I i s → Qd step n (emb i s) = out i s := by
  intro n
  induction n with
  | zero => intro i s h; omega
  | succ n ih =>
   intro i s hn hi hI
   simp only [Qd]
   exact h _ i s hi hI fun s' hlt hI' => ih (i + 1) s' (by omega) (by omega) hI'
 intro i s hi hI
 exact key lots i s (by omega) hi hI
theorem Qae {n : Nat} (h : n ≤ 9223372036854775807) : n < lots := by rw [Qat]; omega
theorem QO {i : Nat} (h : i < 9223372036854775807) : IntKind.i64.wrap ((i : Int) + 1) = ((i + 1 : Nat) : Int) := by rw [QZ (by omega) (by omega)]; rfl
theorem nat0 {i : Nat} : (0 : Int) ≤ (i : Int) := Int.natCast_nonneg i
theorem Qs {α γ : Type} {m : List α} {i : Nat} (h : i < m.length) (K : α → Option γ) : (m[((i : Nat) : Int).toNat]?).bind K = K m[i] := by
 rw [Int.toNat_natCast, List.getElem?_eq_getElem h, Option.bind_some]
theorem QaB {α : Type} {m : List α} {i : Nat} (h : i < m.length) : m.drop i = m[i] :: m.drop (i + 1) := List.drop_eq_getElem_cons h
theorem QaS {α : Type} {m : List α} {i : Nat} (h : ¬ i < m.length) : m.drop i = [] := List.drop_of_length_le (by omega)
theorem ltN {a b : Nat} : ltI (a : Int) (b : Int) = decide (a < b) := by
 rw [QP]; by_cases h : a < b
 ·have : (a : Int) < b := by omega
  simp [h, this]
 ·have : ¬ (a : Int) < b := by omega
  simp [h, this]
theorem QS {a b : Int} : ltI a b = true ↔ a < b := by rw [QP]; simp
theorem QaX {a b : Int} : leI a b = true ↔ a ≤ b := by rw [QX]; simp
theorem QaN {a b : Int} : ltI a b = false ↔ ¬ a < b := by rw [QP]; simp
theorem Qrx {α β E : Type} {step : ((List α × List α × Int × Unit) × Unit × Unit → Option (((List α × Unit) × Unit × Unit) ⊕ E)) → (List α × List α × Int × Unit) × Unit × Unit → Option (((List α × Unit) × Unit × Unit) ⊕ E)}
  {f : α → Option β} {g : β → α}
  (hstep : ∀ rec m out i, step rec ((m, out, i, ()), (), ()) = if ltI i ((m.length : Nat) : Int) = true then (if 0 ≤ i then (m[i.toNat]?).bind fun y => (f y).bind fun r =>
   if 0 ≤ i ∧ i < ((out.length : Nat) : Int) then (out[i.toNat]?).bind fun _ => rec ((m, out.set i.toNat (g r), IntKind.i64.wrap (i + 1), ()), (), ()) else none else none) else some (.inl ((out, ()), (), ())))
  (m : List α) (hm : m.length ≤ 9223372036854775807) (hf : ∀ y ∈ m, ∃ r, f y = some r ∧ g r = y) (z : α) :
  Qd step lots ((m, List.replicate m.length z, 0, ()), (), ()) = some (.inl ((m, ()), (), ())) := by
 have key := QcR (step := step) (fun i (out : List α) => ((m, out, ((i : Nat) : Int), ()), (), ())) m.length (Qae hm) (fun i out => out.length = m.length ∧ out.take i = m.take i) (fun _ _ => some (.inl ((m, ()), (), ()))) ?_ 0 (List.replicate m.length z) (by omega) ⟨by simp, by simp⟩
 ·exact key
 ·rintro rec i out hi ⟨hl, ht⟩ ih
  rw [hstep, ltN]
  by_cases hlt : i < m.length
  ·obtain ⟨r, h1, h2⟩ := hf m[i] (List.getElem_mem hlt)
   have hb : (0 : Int) ≤ (i : Int) ∧ (i : Int) < ((out.length : Nat) : Int) := by omega
   rw [if_pos (by simpa using hlt), if_pos nat0, Qs hlt, h1, Option.bind_some, if_pos hb, Qs (by omega), QO (by omega), Int.toNat_natCast]
   refine ih _ hlt ⟨by simp [hl], ?_⟩
   rw [List.take_add_one, List.take_set_of_le (Nat.le_refl _), List.getElem?_set_self (by omega), h2, ht, List.take_add_one, List.getElem?_eq_getElem hlt]
  ·rw [if_neg (by simpa using hlt)]
   have : out = m := by
    rw [List.take_of_length_le (by omega), List.take_of_length_le (by omega)] at ht
    exact ht
   rw [this]
theorem Qgl {α β E : Type} {z : α} {by_ : Nat} {F : List α × Unit → Option ((List α × Unit) × Unit)} {step : ((List α × List α × Int × Unit) × Unit × Unit → Option (((List α × Unit) × Unit × Unit) ⊕ E)) → (List α × List α × Int × Unit) × Unit × Unit → Option (((List α × Unit) × Unit × Unit) ⊕ E)}
  {f : α → Option β} {g : β → α} {K : (((List α × Unit) × Unit × Unit) ⊕ E) → Option ((List α × Unit) × Unit)}
  (hF : ∀ m, F (m, ()) = if ((m.length : Nat) : Int) = ((m.length : Nat) : Int) ∧ 0 ≤ ((m.length : Nat) : Int) ∧ ((m.length : Nat) : Int) * (by_ : Int) ≤ 140737488355328 ∧ ((m.length : Nat) : Int) ≤ 9223372036854775807 then
   (Qd step lots ((m, List.replicate ((m.length : Nat) : Int).toNat z, 0, ()), (), ())).bind K else none)
  (hK : ∀ x, K (.inl x) = some ((x.1.1, ()), ()))
  (hstep : ∀ rec m out i, step rec ((m, out, i, ()), (), ()) = if ltI i ((m.length : Nat) : Int) = true then (if 0 ≤ i then (m[i.toNat]?).bind fun y => (f y).bind fun r =>
   if 0 ≤ i ∧ i < ((out.length : Nat) : Int) then (out[i.toNat]?).bind fun _ => rec ((m, out.set i.toNat (g r), IntKind.i64.wrap (i + 1), ()), (), ()) else none else none) else some (.inl ((out, ()), (), ())))
  (hb : by_ ≤ 1000) (m : List α) (hm : m.length ≤ 1048576) (hf : ∀ y ∈ m, ∃ r, f y = some r ∧ g r = y) : F (m, ()) = some ((m, ()), ()) := by
 have h1 : ((m.length : Nat) : Int) * (by_ : Int) ≤ 140737488355328 := by
  have : m.length * by_ ≤ 1048576 * 1000 := Nat.mul_le_mul hm hb
  have h2 : ((m.length * by_ : Nat) : Int) ≤ 1048576 * 1000 := by omega
  rw [Int.natCast_mul] at h2
  omega
 rw [hF, if_pos ⟨rfl, by omega, h1, by omega⟩, Int.toNat_natCast, Qrx hstep m (by omega) hf, Option.bind_some, hK]
theorem QqF {α E : Type} {step : ((List α × List α × Int × Unit) × Unit × Unit → Option ((Unit × Unit × Unit) ⊕ E)) → (List α × List α × Int × Unit) × Unit × Unit → Option ((Unit × Unit × Unit) ⊕ E)} {f : α → α → Option ((Bool × Unit) × Unit)} {no : Option ((Unit × Unit × Unit) ⊕ E)}
  (hstep : ∀ rec a b i, step rec ((a, b, i, ()), (), ()) = if ltI i ((a.length : Nat) : Int) = true then (if 0 ≤ i then (a[i.toNat]?).bind fun y => if 0 ≤ i then (b[i.toNat]?).bind fun y' => (f y y').bind fun r =>
   if (!r.1.1) = true then no else rec ((a, b, IntKind.i64.wrap (i + 1), ()), (), ()) else none else none) else some (.inl ((), (), ())))
  (m : List α) (hm : m.length ≤ 9223372036854775807) (hf : ∀ y ∈ m, f y y = some ((true, ()), ())) : Qd step lots ((m, m, 0, ()), (), ()) = some (.inl ((), (), ())) := by
 have key := QcR (step := step) (fun i (_ : Unit) => ((m, m, ((i : Nat) : Int), ()), (), ())) m.length (Qae hm) (fun _ _ => True) (fun _ _ => some (.inl ((), (), ()))) ?_ 0 () (by omega) trivial
 ·exact key
 ·rintro rec i _ hi _ ih
  rw [hstep, ltN]
  by_cases hlt : i < m.length
  ·rw [if_pos (by simpa using hlt), if_pos nat0, Qs hlt, if_pos nat0, Qs hlt, hf _ (List.getElem_mem hlt), Option.bind_some, if_neg (by simp), QO (by omega)]
   exact ih () hlt trivial
  ·rw [if_neg (by simpa using hlt)]
theorem QfS {α E : Type} {F : List α × List α × Unit → Option ((Bool × Unit) × Unit)} {step : ((List α × List α × Int × Unit) × Unit × Unit → Option ((Unit × Unit × Unit) ⊕ E)) → (List α × List α × Int × Unit) × Unit × Unit → Option ((Unit × Unit × Unit) ⊕ E)}
  {f : α → α → Option ((Bool × Unit) × Unit)} {no : Option ((Unit × Unit × Unit) ⊕ E)} {K : (Unit × Unit × Unit) ⊕ E → Option ((Bool × Unit) × Unit)}
  (hF : ∀ m, F (m, m, ()) = if (((m.length : Nat) : Int) != ((m.length : Nat) : Int)) = true then some ((false, ()), ()) else (Qd step lots ((m, m, 0, ()), (), ())).bind K)
  (hK : ∀ x, K (.inl x) = some ((true, ()), ()))
  (hstep : ∀ rec a b i, step rec ((a, b, i, ()), (), ()) = if ltI i ((a.length : Nat) : Int) = true then (if 0 ≤ i then (a[i.toNat]?).bind fun y => if 0 ≤ i then (b[i.toNat]?).bind fun y' => (f y y').bind fun r =>
   if (!r.1.1) = true then no else rec ((a, b, IntKind.i64.wrap (i + 1), ()), (), ()) else none else none) else some (.inl ((), (), ())))
  (m : List α) (hm : m.length ≤ 9223372036854775807) (hf : ∀ y ∈ m, f y y = some ((true, ()), ())) : F (m, m, ()) = some ((true, ()), ()) := by
 rw [hF, if_neg (by simp), QqF hstep m hm hf, Option.bind_some, hK]
theorem Qrs {α E : Type} {step : ((List α × Int × Int × Unit) × Unit × Unit → Option (((Int × Unit) × Unit × Unit) ⊕ (((Int × Unit) × Unit × Unit) ⊕ E))) → (List α × Int × Int × Unit) × Unit × Unit → Option (((Int × Unit) × Unit × Unit) ⊕ (((Int × Unit) × Unit × Unit) ⊕ E))}
  {f : α → Int → Option ((Int × Unit) × Unit)} {ok : α → Prop}
  (hstep : ∀ rec m k i, step rec ((m, k, i, ()), (), ()) = if ltI i ((m.length : Nat) : Int) = true then (if 0 ≤ i then (m[i.toNat]?).bind fun y => (f y k).bind fun r =>
   if ltI r.1.1 0 = true then some (.inr (.inl ((-1, ()), (), ()))) else rec ((m, r.1.1, IntKind.i64.wrap (i + 1), ()), (), ()) else none) else some (.inl ((k, ()), (), ())))
  (m : List α) (hm : m.length ≤ 9223372036854775807) (hf : ∀ y ∈ m, ∀ k : Int, 0 ≤ k → k ≤ 1048576 → ∃ r : Int, f y k = some ((r, ()), ()) ∧ (r < 0 ∨ (0 ≤ r ∧ r ≤ k ∧ ok y))) (k : Int) (h0 : 0 ≤ k) (h1 : k ≤ 1048576) :
  Qd step lots ((m, k, 0, ()), (), ()) = some (.inr (.inl ((-1, ()), (), ()))) ∨ ∃ r : Int, Qd step lots ((m, k, 0, ()), (), ()) = some (.inl ((r, ()), (), ())) ∧ 0 ≤ r ∧ r ≤ k ∧ ∀ y ∈ m, ok y := by
 have key : ∀ n (i : Nat) (k : Int), m.length - i < n → i ≤ m.length → 0 ≤ k → k ≤ 1048576 → (Qd step n ((m, k, ((i : Nat) : Int), ()), (), ()) = some (.inr (.inl ((-1, ()), (), ()))) ∨
   ∃ r : Int, Qd step n ((m, k, ((i : Nat) : Int), ()), (), ()) = some (.inl ((r, ()), (), ())) ∧ 0 ≤ r ∧ r ≤ k ∧ ∀ y ∈ m.drop i, ok y) := by
  intro n
  induction n with
  | zero => intro i k h; omega
  | succ n ih =>
   intro i k hn hi h0 h1
   simp only [Qd, hstep, ltN]
   by_cases hlt : i < m.length
   ·obtain ⟨r, e1, e2⟩ := hf m[i] (List.getElem_mem hlt) k h0 h1
    rw [if_pos (by simpa using hlt), if_pos nat0, Qs hlt, e1, Option.bind_some]
    simp only
    by_cases hr : r < 0
    ·left; rw [if_pos (QS.2 hr)]
    ·rw [if_neg (by rw [QS]; exact hr), QO (by omega)]
     have e2 := e2.resolve_left hr
     rcases ih (i + 1) r (by omega) (by omega) e2.1 (by omega) with h | ⟨q, g1, g2, g3, g4⟩
     ·exact .inl h
     ·refine .inr ⟨q, g1, g2, by omega, ?_⟩
      rw [QaB hlt]
      intro y hy
      rcases List.mem_cons.1 hy with rfl | hy
      ·exact e2.2.2
      ·exact g4 y hy
   ·right
    refine ⟨k, by rw [if_neg (by simpa using hlt)], h0, by omega, ?_⟩
    rw [QaS hlt]; simp
 simpa using key lots 0 k (by have := Qae hm; omega) (by omega) h0 h1
theorem QoN {α E : Type} {F : List α × Int × Unit → Option ((Int × Unit) × Unit)} {step : ((List α × Int × Int × Unit) × Unit × Unit → Option (((Int × Unit) × Unit × Unit) ⊕ (((Int × Unit) × Unit × Unit) ⊕ E))) → (List α × Int × Int × Unit) × Unit × Unit → Option (((Int × Unit) × Unit × Unit) ⊕ (((Int × Unit) × Unit × Unit) ⊕ E))}
  {f : α → Int → Option ((Int × Unit) × Unit)} {ok : α → Prop} {K : (((Int × Unit) × Unit × Unit) ⊕ (((Int × Unit) × Unit × Unit) ⊕ E)) → Option ((Int × Unit) × Unit)}
  (hF : ∀ m k, F (m, k, ()) = if ltI (IntKind.i64.wrap (k - ((m.length : Nat) : Int))) 0 = true then some ((-1, ()), ()) else (Qd step lots ((m, IntKind.i64.wrap (k - ((m.length : Nat) : Int)), 0, ()), (), ())).bind K)
  (hK1 : ∀ x, K (.inl x) = some ((x.1.1, ()), ())) (hK2 : ∀ x, K (.inr (.inl x)) = some ((x.1.1, ()), ()))
  (hstep : ∀ rec m k i, step rec ((m, k, i, ()), (), ()) = if ltI i ((m.length : Nat) : Int) = true then (if 0 ≤ i then (m[i.toNat]?).bind fun y => (f y k).bind fun r =>
   if ltI r.1.1 0 = true then some (.inr (.inl ((-1, ()), (), ()))) else rec ((m, r.1.1, IntKind.i64.wrap (i + 1), ()), (), ()) else none) else some (.inl ((k, ()), (), ())))
  (m : List α) (hm : m.length ≤ maxLen) (hf : ∀ y ∈ m, ∀ k : Int, 0 ≤ k → k ≤ 1048576 → ∃ r : Int, f y k = some ((r, ()), ()) ∧ (r < 0 ∨ (0 ≤ r ∧ r ≤ k ∧ ok y))) (k : Int) (h0 : 0 ≤ k) (h1 : k ≤ 1048576) :
  ∃ r : Int, F (m, k, ()) = some ((r, ()), ()) ∧ (r < 0 ∨ (0 ≤ r ∧ r ≤ k ∧ m.length ≤ 1048576 ∧ ∀ y ∈ m, ok y)) := by
 rw [Qax] at hm
 rw [hF, QZ (by omega) (by omega)]
 by_cases hlt : k - ((m.length : Nat) : Int) < 0
 ·exact ⟨-1, by rw [if_pos (QS.2 hlt)], .inl (by omega)⟩
 ·rw [if_neg (by rw [QS]; exact hlt)]
  rcases Qrs hstep m hm hf (k - ((m.length : Nat) : Int)) (by omega) (by omega) with h | ⟨r, g1, g2, g3, g4⟩
  ·exact ⟨-1, by rw [h, Option.bind_some, hK2], .inl (by omega)⟩
  ·exact ⟨r, by rw [g1, Option.bind_some, hK1], .inr ⟨g2, by omega, by omega, g4⟩⟩
theorem QkV {α : Type} {F : List α × Int × Unit → Option ((Int × Unit) × Unit)}
  (hF : ∀ m k, F (m, k, ()) = if ltI (IntKind.i64.wrap (k - ((m.length : Nat) : Int))) 0 = true then some ((-1, ()), ()) else some ((IntKind.i64.wrap (k - ((m.length : Nat) : Int)), ()), ()))
  (m : List α) (hm : m.length ≤ maxLen) (k : Int) (h0 : 0 ≤ k) (h1 : k ≤ 1048576) : ∃ r : Int, F (m, k, ()) = some ((r, ()), ()) ∧ (r < 0 ∨ (0 ≤ r ∧ r ≤ k ∧ m.length ≤ 1048576)) := by
 rw [Qax] at hm
 rw [hF, QZ (by omega) (by omega)]
 by_cases hlt : k - ((m.length : Nat) : Int) < 0
 ·exact ⟨-1, by rw [if_pos (QS.2 hlt)], .inl (by omega)⟩
 ·exact ⟨_, by rw [if_neg (by rw [QS]; exact hlt)], .inr ⟨by omega, by omega, by omega⟩⟩
def scan {α β : Type} (f : Nat → α → Option β) : Nat → List α → Option β
 | _, [] => none
 | i, x :: r => match f i x with
  | some c => some c
  | none => scan f (i + 1) r
theorem QQ {X α γ β : Type} {step : (X → Option γ) → X → Option γ} (emb : Nat → X) (m : List α) (f : Nat → α → Option β) (bad : β → Option γ) (done : Option γ) (hm : m.length ≤ 9223372036854775807)
  (h1 : ∀ rec i (h : i < m.length), step rec (emb i) = match f i m[i] with | some c => bad c | none => rec (emb (i + 1)))
  (h2 : ∀ rec, step rec (emb m.length) = done) : Qd step lots (emb 0) = match scan f 0 m with | some c => bad c | none => done := by
 have key := QcR (step := step) (fun i (_ : Unit) => emb i) m.length (Qae hm) (fun _ _ => True) (fun i _ => match scan f i (m.drop i) with | some c => bad c | none => done) ?_ 0 () (by omega) trivial
 ·simpa using key
 ·intro rec i _ hi _ ih
  by_cases hlt : i < m.length
  ·rw [h1 rec i hlt, QaB hlt]
   simp only [scan]
   cases hf : f i m[i] with
   | some c => rfl
   | none => exact ih () hlt trivial
  ·have : i = m.length := by omega
   subst this
   rw [h2, List.drop_length]
   rfl
theorem QdC {α β : Type} {f : Nat → α → Option β} {p : α → Bool} : ∀ {m : List α} {i : Nat}, (∀ j (h : j < m.length), (f (i + j) m[j]).isSome = p m[j]) → (scan f i m).isSome = m.any p
 | [], _, _ => rfl
 | x :: r, i, h => by
  have h0 := h 0 (by simp)
  simp only [Nat.add_zero, List.getElem_cons_zero] at h0
  have := QdC (f := f) (p := p) (m := r) (i := i + 1) fun j hj => by
   have := h (j + 1) (by simpa using hj)
   simpa [Nat.add_assoc, Nat.add_comm, Nat.add_left_comm] using this
  simp only [scan, List.any_cons, ← h0, ← this]
  cases f i x <;> rfl
theorem lt_t {i n : Nat} (h : i < n) : ltI (i : Int) (n : Int) = true := by rw [ltN]; simpa using h
theorem lt_f {i n : Nat} (h : ¬ i < n) : ¬ ltI (i : Int) (n : Int) = true := by rw [ltN]; simpa using h
theorem Qau {n : Nat} : ¬ ltI (n : Int) (n : Int) = true := lt_f (Nat.lt_irrefl n)
theorem lt1 {α : Type} {i : Nat} {m : List α} (h : i < m.length) (hm : m.length ≤ 1048576) : i < 9223372036854775807 := by omega
abbrev QaA := Int × Int × Int × Int × Int × Unit
abbrev TwoD := Int × Int × Unit
abbrev PolD := List (List Int) × List QaA × List TwoD × List TwoD × Unit
def Qhh (n : Nat) (p : PolD) : Prop := (p.1.length ≤ n ∧ ∀ l ∈ p.1, l.length ≤ n) ∧ p.2.1.length ≤ n ∧ p.2.2.1.length ≤ n ∧ p.2.2.2.1.length ≤ n
theorem Qqg (m : List (List Int)) (n : Int) (h0 : 0 ≤ n) (h1 : n ≤ 1048576) (h2 : m.length ≤ maxLen) (h3 : ∀ l ∈ m, l.length ≤ maxLen) :
  ∃ r : Int, F_dz (m, n, ()) = some ((r, ()), ()) ∧ (r < 0 ∨ (0 ≤ r ∧ r ≤ n ∧ m.length ≤ 1048576 ∧ ∀ l ∈ m, l.length ≤ 1048576)) :=
 QoN (F := F_dz) (step := l_dz_5) (f := fun y k => F_dy (y, k, ())) (ok := fun l => l.length ≤ 1048576) (fun _ _ => rfl) (fun _ => rfl) (fun _ => rfl) (fun _ _ _ _ => rfl) m h2 (fun y hy k g0 g1 => QdF y k g0 g1 (h3 y hy)) n h0 h1
theorem QnR (m : List QaA) (n : Int) (h0 : 0 ≤ n) (h1 : n ≤ 1048576) (h2 : m.length ≤ maxLen) : ∃ r : Int, F_ea (m, n, ()) = some ((r, ()), ()) ∧ (r < 0 ∨ (0 ≤ r ∧ r ≤ n ∧ m.length ≤ 1048576)) :=
 QkV (F := F_ea) (fun _ _ => rfl) m h2 n h0 h1
theorem QnP (m : List TwoD) (n : Int) (h0 : 0 ≤ n) (h1 : n ≤ 1048576) (h2 : m.length ≤ maxLen) : ∃ r : Int, F_eb (m, n, ()) = some ((r, ()), ()) ∧ (r < 0 ∨ (0 ≤ r ∧ r ≤ n ∧ m.length ≤ 1048576)) :=
 QkV (F := F_eb) (fun _ _ => rfl) m h2 n h0 h1
theorem QnS (m : List TwoD) (n : Int) (h0 : 0 ≤ n) (h1 : n ≤ 1048576) (h2 : m.length ≤ maxLen) : ∃ r : Int, F_ec (m, n, ()) = some ((r, ()), ()) ∧ (r < 0 ∨ (0 ≤ r ∧ r ≤ n ∧ m.length ≤ 1048576)) :=
 QkV (F := F_ec) (fun _ _ => rfl) m h2 n h0 h1
theorem Qrr (p : PolD) (n : Int) (h0 : 0 ≤ n) (h1 : n ≤ 1048576) (h2 : Qhh maxLen p) : ∃ r : Int, F_ed (p, n, ()) = some ((r, ()), ()) ∧ (r < 0 ∨ (0 ≤ r ∧ r ≤ n ∧ Qhh 1048576 p)) := by
 obtain ⟨⟨a1, a2⟩, a3, a4, a5⟩ := h2
 unfold F_ed
 simp only [QP, decide_eq_true_eq]
 obtain ⟨r1, e1, c1⟩ := Qqg p.1 n h0 h1 a1 a2
 rw [e1, Option.bind_some]
 by_cases d1 : r1 < 0
 ·exact ⟨-1, by rw [if_pos d1], .inl (by omega)⟩
 rw [if_neg d1]
 have c1 := c1.resolve_left d1
 obtain ⟨r2, e2, c2⟩ := QnR p.2.1 r1 (by omega) (by omega) a3
 rw [e2, Option.bind_some]
 by_cases d2 : r2 < 0
 ·exact ⟨-1, by rw [if_pos d2], .inl (by omega)⟩
 rw [if_neg d2]
 have c2 := c2.resolve_left d2
 obtain ⟨r3, e3, c3⟩ := QnP p.2.2.1 r2 (by omega) (by omega) a4
 rw [e3, Option.bind_some]
 by_cases d3 : r3 < 0
 ·exact ⟨-1, by rw [if_pos d3], .inl (by omega)⟩
 rw [if_neg d3]
 have c3 := c3.resolve_left d3
 obtain ⟨r4, e4, c4⟩ := QnS p.2.2.2.1 r3 (by omega) (by omega) a5
 rw [e4, Option.bind_some]
 by_cases d4 : r4 < 0
 ·exact ⟨-1, by rw [if_pos d4], .inl (by omega)⟩
 rw [if_neg d4]
 have c4 := c4.resolve_left d4
 exact ⟨r4, rfl, .inr ⟨by omega, by omega, ⟨c1.2.2.1, c1.2.2.2⟩, c2.2.2, c3.2.2, c4.2.2⟩⟩
theorem Qqi (m : List (List Int)) (h : m.length ≤ 1048576) (h2 : ∀ l ∈ m, l.length ≤ 1048576) : F_ei (m, ()) = some ((m, ()), ()) :=
 Qgl (by_ := 24) (F := F_ei) (step := l_ei_3) (f := fun y => F_eh (y, ())) (g := fun r => r.1.1) (fun _ => rfl) (fun _ => rfl) (fun _ _ _ _ => rfl) (by omega) m h fun y hy => ⟨_, QbE y (le8 (h2 y hy)), rfl⟩
theorem QnV (m : List QaA) (h : m.length ≤ 1048576) : F_ek (m, ()) = some ((m, ()), ()) :=
 Qgl (by_ := 40) (F := F_ek) (step := l_ek_3) (f := fun y => F_ej (y, ())) (g := fun r => r.1.1) (fun _ => rfl) (fun _ => rfl) (fun _ _ _ _ => rfl) (by omega) m h fun y hy => ⟨_, rfl, rfl⟩
theorem QnT (m : List TwoD) (h : m.length ≤ 1048576) : F_em (m, ()) = some ((m, ()), ()) :=
 Qgl (by_ := 16) (F := F_em) (step := l_em_3) (f := fun y => F_el (y, ())) (g := fun r => r.1.1) (fun _ => rfl) (fun _ => rfl) (fun _ _ _ _ => rfl) (by omega) m h fun y hy => ⟨_, rfl, rfl⟩
theorem QnW (m : List TwoD) (h : m.length ≤ 1048576) : F_eo (m, ()) = some ((m, ()), ()) :=
 Qgl (by_ := 16) (F := F_eo) (step := l_eo_3) (f := fun y => F_en (y, ())) (g := fun r => r.1.1) (fun _ => rfl) (fun _ => rfl) (fun _ _ _ _ => rfl) (by omega) m h fun y hy => ⟨_, rfl, rfl⟩
theorem Qrw (p : PolD) (h : Qhh 1048576 p) : F_ep (p, ()) = some (((p.1, p.2.1, p.2.2.1, p.2.2.2.1, ()), ()), ()) := by
 obtain ⟨⟨a1, a2⟩, a3, a4, a5⟩ := h
 unfold F_ep
 rw [Qqi p.1 a1 a2, Option.bind_some, QnV p.2.1 a3, Option.bind_some, QnT p.2.2.1 a4, Option.bind_some, QnW p.2.2.2.1 a5, Option.bind_some]
theorem QaD {n : Nat} (h : n ≤ 1048576) : n ≤ 9223372036854775807 := by omega
theorem QmU (m : List (List Int)) (h : m.length ≤ 1048576) (h2 : ∀ l ∈ m, l.length ≤ 1048576) : F_ho (m, m, ()) = some ((true, ()), ()) :=
 QfS (F := F_ho) (step := l_ho_4) (f := fun y y' => F_hn (y, y', ())) (fun _ => rfl) (fun _ => rfl) (fun _ _ _ _ => rfl) m (QaD h) fun y hy => Qbw y (leM (h2 y hy))
theorem QrP (y : QaA) : F_hp (y, y, ()) = some ((true, ()), ()) := by
 unfold F_hp; simp
theorem QrO (y : TwoD) : F_hr (y, y, ()) = some ((true, ()), ()) := by
 unfold F_hr; simp
theorem QrQ (y : TwoD) : F_ht (y, y, ()) = some ((true, ()), ()) := by
 unfold F_ht; simp
theorem QmV (m : List QaA) (h : m.length ≤ 1048576) : F_hq (m, m, ()) = some ((true, ()), ()) :=
 QfS (F := F_hq) (step := l_hq_4) (f := fun y y' => F_hp (y, y', ())) (fun _ => rfl) (fun _ => rfl) (fun _ _ _ _ => rfl) m (QaD h) fun y hy => QrP y
theorem QmS (m : List TwoD) (h : m.length ≤ 1048576) : F_hs (m, m, ()) = some ((true, ()), ()) :=
 QfS (F := F_hs) (step := l_hs_4) (f := fun y y' => F_hr (y, y', ())) (fun _ => rfl) (fun _ => rfl) (fun _ _ _ _ => rfl) m (QaD h) fun y hy => QrO y
theorem QmW (m : List TwoD) (h : m.length ≤ 1048576) : F_hu (m, m, ()) = some ((true, ()), ()) :=
 QfS (F := F_hu) (step := l_hu_4) (f := fun y y' => F_ht (y, y', ())) (fun _ => rfl) (fun _ => rfl) (fun _ _ _ _ => rfl) m (QaD h) fun y hy => QrQ y
theorem QqE (p : PolD) (h : Qhh 1048576 p) : F_hv (p, p, ()) = some ((true, ()), ()) := by
 obtain ⟨⟨a1, a2⟩, a3, a4, a5⟩ := h
 unfold F_hv
 rw [QmU p.1 a1 a2, Option.bind_some, if_neg (by simp), QmV p.2.1 a3, Option.bind_some, if_neg (by simp), QmS p.2.2.1 a4, Option.bind_some, if_neg (by simp), QmW p.2.2.2.1 a5, Option.bind_some, if_neg (by simp)]
theorem Qdl {α β : Type} {f : Nat → α → Option β} {P : β → Prop} : ∀ {m : List α} {i : Nat}, (∀ j (h : j < m.length) c, f (i + j) m[j] = some c → P c) → ∀ c, scan f i m = some c → P c
 | [], _, _, c, h => by simp [scan] at h
 | x :: r, i, h, c, hc => by
  have h0 := h 0 (by simp)
  simp only [Nat.add_zero, List.getElem_cons_zero] at h0
  simp only [scan] at hc
  split at hc
  ·rename_i d hd
   obtain rfl := Option.some.inj hc
   exact h0 _ hd
  ·exact Qdl (m := r) (i := i + 1) (fun j hj c' hc' => h (j + 1) (by simpa using hj) c' (by simpa [Nat.add_assoc, Nat.add_comm, Nat.add_left_comm] using hc')) c hc
theorem QlR (m : List Int) (v : Int) (hm : m.length ≤ 1048576) : F_et (m, v, ()) = some ((m.contains v, ()), ()) := by
 have key := QQ (step := l_et_2) (γ := denO o_et_2) (fun i => ((m, v, ((i : Nat) : Int), ()), (), ())) m (fun _ y => if (y == v) = true then some () else none) (fun _ => some (.inr (.inl ((true, ()), (), ())))) (some (.inl ((), (), ()))) (QaD hm) ?_ ?_
 ·unfold F_et
  show (Qd l_et_2 lots ((m, v, ((0 : Nat) : Int), ()), (), ())).bind _ = _
  rw [key]
  have := QdC (f := fun (_ : Nat) y => if (y == v) = true then some () else none) (p := fun y => y == v) (m := m) (i := 0) (fun j hj => by cases m[j] == v <;> rfl)
  have e : m.any (fun y => y == v) = m.contains v := by
   rw [Bool.eq_iff_iff, List.any_eq_true, List.contains_iff_mem]
   exact ⟨fun ⟨y, hy, e⟩ => by rw [← beq_iff_eq.1 e]; exact hy, fun h => ⟨v, h, by simp⟩⟩
  rw [e] at this
  rw [← this]
  cases scan (fun (_ : Nat) y => if (y == v) = true then some () else none) 0 m <;> rfl
 ·intro rec i h
  unfold l_et_2
  dsimp only
  rw [if_pos (lt_t h), if_pos nat0, Qs h, QO (lt1 h hm)]
  cases m[i] == v <;> rfl
 ·intro rec
  unfold l_et_2
  dsimp only
  rw [if_neg Qau]
def isG (p : PolD) (g : Int) : Bool := decide (g ≥ 0) && decide (g ≤ (p.1.length : Int) - 1)
theorem QcP (p : PolD) (g : Int) (h : p.1.length ≤ 1048576) : F_ev (p, g, ()) = some ((isG p g, ()), ()) := by
 unfold F_ev isG
 dsimp only
 rw [QZ (by omega) (by omega), QbM, Option.bind_some]
theorem QcO (p : PolD) (g : Int) (h : p.1.length ≤ 1048576) : F_fu (p, g, ()) = some ((isG p g, ()), ()) := by
 unfold F_fu isG
 dsimp only
 rw [QZ (by omega) (by omega), QaW, Option.bind_some]
def Qcr (p : PolD) (a b : Int) : Int := if isG p a = true then (if isG p b = true then (if a = b then 1 else 0) else 4) else 4
theorem Qot (p : PolD) (a b : Int) (h : p.1.length ≤ 1048576) : F_ew (p, a, b, ()) = some ((Qcr p a b, ()), ()) := by
 unfold F_ew Qcr
 rw [QcP p a h, QcP p b h]
 simp only [Option.bind_some]
 cases isG p a <;> cases isG p b <;> by_cases e : a = b <;> simp [e]
theorem Qoy (p : PolD) (a b : Int) (h : p.1.length ≤ 1048576) : F_fv (p, a, b, ()) = some ((Qcr p a b, ()), ()) := by
 unfold F_fv Qcr
 rw [QcO p a h, QcO p b h]
 simp only [Option.bind_some]
 cases isG p a <;> cases isG p b <;> by_cases e : a = b <;> simp [e]
def Qhv : Option Int → Int
 | some c => c
 | none => -1
def Qfz (own : List (List Int)) (page : Int) : Int := Qhv (scan (fun i (l : List Int) => if l.contains page = true then some ((i : Nat) : Int) else none) 0 own)
theorem Qri (p : PolD) (page : Int) (h : p.1.length ≤ 1048576) (h2 : ∀ l ∈ p.1, l.length ≤ 1048576) : F_ex (p, page, ()) = some ((Qfz p.1 page, ()), ()) := by
 have key := QQ (step := l_ex_2) (γ := denO o_ex_2) (fun i => ((p, page, ((i : Nat) : Int), ()), (), ())) p.1 (fun i (l : List Int) => if l.contains page = true then some ((i : Nat) : Int) else none)
  (fun c => some (.inr (.inl ((c, ()), (), ())))) (some (.inl ((), (), ()))) (QaD h) ?_ ?_
 ·unfold F_ex Qfz
  show (Qd l_ex_2 lots ((p, page, ((0 : Nat) : Int), ()), (), ())).bind _ = _
  rw [key]
  cases scan (fun i (l : List Int) => if l.contains page = true then some ((i : Nat) : Int) else none) 0 p.1 <;> rfl
 ·intro rec i hi
  unfold l_ex_2
  dsimp only
  rw [if_pos (lt_t hi), if_pos nat0, Qs hi, QO (lt1 hi h), QlR _ _ (h2 _ (List.getElem_mem hi)), Option.bind_some]
  dsimp only
  cases (p.1[i]).contains page <;> rfl
 ·intro rec
  unfold l_ex_2
  dsimp only
  rw [if_neg Qau]
theorem Qsi {α : Type} {P : Nat → α → Bool} {m : List α} {c : Int} (h : scan (fun i y => if P i y = true then some ((i : Nat) : Int) else none) 0 m = some c) : 0 ≤ c := by
 refine Qdl (P := fun c => 0 ≤ c) ?_ c h
 intro j hj c hc
 split at hc
 ·obtain rfl := Option.some.inj hc; omega
 ·cases hc
theorem Qef {α : Type} {P : α → Bool} {m : List α} {f : Nat → α → Option Int} (hf : ∀ i y, f i y = if P y = true then some ((i : Nat) : Int) else none) : leI 0 (Qhv (scan f 0 m)) = m.any P := by
 have e : f = fun i y => if P y = true then some ((i : Nat) : Int) else none := by funext i y; exact hf i y
 subst e
 have h1 := QdC (f := fun i y => if P y = true then some ((i : Nat) : Int) else none) (p := P) (m := m) (i := 0) (fun j hj => by cases P m[j] <;> rfl)
 rw [← h1, QX]
 cases hs : scan (fun i y => if P y = true then some ((i : Nat) : Int) else none) 0 m with
 | none => rfl
 | some c => have := Qsi (P := fun _ y => P y) hs; simp [Qhv, this]
theorem QqQ (m : List Int) (v : Int) (hm : m.length ≤ 1048576) : F_fw (m, v, ()) = some ((Qhv (scan (fun i y => if (v == y) = true then some ((i : Nat) : Int) else none) 0 m), ()), ()) := by
 have key := QQ (step := l_fw_2) (γ := denO o_fw_2) (fun i => ((m, v, ((m.length : Nat) : Int), ((i : Nat) : Int), ()), (), ())) m (fun i y => if (v == y) = true then some ((i : Nat) : Int) else none)
  (fun c => some (.inr (.inl ((c, ()), (), ())))) (some (.inl ((), (), ()))) (QaD hm) ?_ ?_
 ·unfold F_fw
  show (Qd l_fw_2 lots ((m, v, ((m.length : Nat) : Int), ((0 : Nat) : Int), ()), (), ())).bind _ = _
  rw [key]
  cases scan (fun i y => if (v == y) = true then some ((i : Nat) : Int) else none) 0 m <;> rfl
 ·intro rec i hi
  unfold l_fw_2
  dsimp only
  rw [if_pos (lt_t hi), if_pos nat0, Qs hi, QO (lt1 hi hm)]
  cases v == m[i] <;> rfl
 ·intro rec
  unfold l_fw_2
  dsimp only
  rw [if_neg Qau]
theorem Qkp (m : List Int) (v : Int) : m.any (fun y => v == y) = m.contains v := by
 rw [Bool.eq_iff_iff, List.any_eq_true, List.contains_iff_mem]
 exact ⟨fun ⟨y, hy, e⟩ => by rw [beq_iff_eq.1 e]; exact hy, fun h => ⟨v, h, by simp⟩⟩
theorem Qlr (m : List Int) (v : Int) (hm : m.length ≤ 1048576) : F_fx (m, v, ()) = some ((m.contains v, ()), ()) := by
 unfold F_fx
 rw [QqQ m v hm, Option.bind_some]
 dsimp only
 rw [Qef (P := fun y => v == y) (fun _ _ => rfl), Qkp]
theorem QkB (p : PolD) (page : Int) (h : p.1.length ≤ 1048576) (h2 : ∀ l ∈ p.1, l.length ≤ 1048576) : F_fy (p, page, ()) = some ((Qfz p.1 page, ()), ()) := by
 have key := QQ (step := l_ga_2) (γ := denO o_ga_2) (fun i => ((p.1, (page, ()), ((p.1.length : Nat) : Int), ((i : Nat) : Int), ()), (), ())) p.1
  (fun i (l : List Int) => if l.contains page = true then some ((i : Nat) : Int) else none) (fun c => some (.inr (.inl ((c, ()), (), ())))) (some (.inl ((), (), ()))) (QaD h) ?_ ?_
 ·unfold F_fy Qfz F_fz_1
  show ((Qd l_ga_2 lots ((p.1, (page, ()), ((p.1.length : Nat) : Int), ((0 : Nat) : Int), ()), (), ())).bind _).bind _ = _
  rw [key]
  cases scan (fun i (l : List Int) => if l.contains page = true then some ((i : Nat) : Int) else none) 0 p.1 <;> rfl
 ·intro rec i hi
  unfold l_ga_2
  dsimp only
  rw [if_pos (lt_t hi), if_pos nat0, Qs hi, QO (lt1 hi h)]
  unfold F_fy_1
  rw [Qlr _ _ (h2 _ (List.getElem_mem hi)), Option.bind_some, Option.bind_some]
  dsimp only
  cases (p.1[i]).contains page <;> rfl
 ·intro rec
  unfold l_ga_2
  dsimp only
  rw [if_neg Qau]
def QdR (l : QaA) (g page : Int) : Bool := (l.1 == g && l.2.2.2.1 == page) || (l.2.1 == g && l.2.2.2.2.1 == page)
theorem Qox (l : QaA) (g page : Int) : F_ey (l, g, page, ()) = some ((QdR l g page, ()), ()) := by
 unfold F_ey QdR
 cases l.1 == g <;> cases l.2.2.2.1 == page <;> cases l.2.1 == g <;> rfl
theorem QoK (l : QaA) (g page : Int) : F_gb (l, g, page, ()) = some ((QdR l g page, ()), ()) := by
 unfold F_gb QdR
 cases l.1 == g <;> cases l.2.2.2.1 == page <;> cases l.2.1 == g <;> rfl
def clash (l o : QaA) : Bool := o.2.2.1 == l.2.2.1 || (QdR o l.1 l.2.2.2.1 || QdR o l.2.1 l.2.2.2.2.1)
def inB (n a b : Int) : Bool := decide (n ≥ a) && decide (n ≤ b)
theorem Qan (n a b : Int) : F_ab (n, a, b, ()) = some ((inB n a b, ()), ()) := QaW n a b
theorem QbN (n a b : Int) : F_d (n, a, b, ()) = some ((inB n a b, ()), ()) := QbM n a b
def Qfd (p : PolD) (l : QaA) (ahead : List QaA) : Int :=
 if Qcr p l.1 l.2.1 ≠ 0 then Qcr p l.1 l.2.1
 else if inB l.2.2.1 0 23 = true ∧ inB l.2.2.2.1 5 6 = true ∧ inB l.2.2.2.2.1 5 6 = true then
  (if leI 0 (Qfz p.1 l.2.2.1) = true then 6 else if ahead.any (clash l) = true then 6 else 0) else 3
theorem QqU (l o : QaA) : F_gc_1 (o, l, ()) = some ((clash l o, ()), ()) := by
 unfold F_gc_1 clash
 dsimp only
 rw [QoK, QoK]
 simp only [Option.bind_some]
 cases o.2.2.1 == l.2.2.1 <;> cases QdR o l.1 l.2.2.2.1 <;> rfl
theorem QlS (l : QaA) (m : List QaA) (hm : m.length ≤ 1048576) : F_gf_1 (m, (l, ()), ()) = some ((m.any (clash l), ()), ()) := by
 have key := QQ (step := l_ge_2) (γ := denO o_ge_2) (fun i => ((m, (l, ()), ((m.length : Nat) : Int), ((i : Nat) : Int), ()), (), ())) m
  (fun i o => if clash l o = true then some ((i : Nat) : Int) else none) (fun c => some (.inr (.inl ((c, ()), (), ())))) (some (.inl ((), (), ()))) (QaD hm) ?_ ?_
 ·unfold F_gf_1 F_gd_1
  show ((Qd l_ge_2 lots ((m, (l, ()), ((m.length : Nat) : Int), ((0 : Nat) : Int), ()), (), ())).bind _).bind _ = _
  rw [key, ← Qef (P := clash l) (m := m) (f := fun i o => if clash l o = true then some ((i : Nat) : Int) else none) (fun _ _ => rfl)]
  cases scan (fun i o => if clash l o = true then some ((i : Nat) : Int) else none) 0 m <;> rfl
 ·intro rec i hi
  unfold l_ge_2
  dsimp only
  rw [if_pos (lt_t hi), if_pos nat0, Qs hi, QO (lt1 hi hm), QqU, Option.bind_some]
  dsimp only
  cases clash l m[i] <;> rfl
 ·intro rec
  unfold l_ge_2
  dsimp only
  rw [if_neg Qau]
theorem QkG (p : PolD) (l : QaA) (ahead : List QaA) (h : p.1.length ≤ 1048576) (h2 : ∀ l ∈ p.1, l.length ≤ 1048576) (hm : ahead.length ≤ 1048576) : F_gc (p, l, ahead, ()) = some ((Qfd p l ahead, ()), ()) := by
 unfold F_gc Qfd
 dsimp only
 rw [Qoy p _ _ h, Qan, Qan, Qan, QkB p _ h h2, QlS l ahead hm]
 simp only [Option.bind_some]
 by_cases h0 : Qcr p l.1 l.2.1 = 0
 ·rw [h0]
  cases b1 : inB l.2.2.1 0 23 <;> cases b2 : inB l.2.2.2.1 5 6 <;> cases b3 : inB l.2.2.2.2.1 5 6 <;> cases b4 : leI 0 (Qfz p.1 l.2.2.1) <;> cases b5 : ahead.any (clash l) <;> simp
 ·simp [h0]
def nz (c : Int) : Option Int := if c ≠ 0 then some c else none
def Qep (p : PolD) : Option Int := scan (fun i l => nz (Qfd p l (p.2.1.take i))) 0 p.2.1
theorem QkP (p : PolD) (i : Nat) (hi : i < p.2.1.length) (hm : p.2.1.length ≤ 1048576) (l : QaA) (a1 : Int) (a2 a3 : Bool) (a4 : Int) (a5 a6 : Bool) :
  (((p.2.1.take i).any (clash l) = true ∧ Qd l_ez_15 lots ((p, (i : Int), (), 0, (), a1, a2, a3, (), a4, a5, a6, ()), ((l.1, l.2.1, l.2.2.1, l.2.2.2.1, l.2.2.2.2.1, ()), ()), ()) = some (.inr (.inl ((6, ()), (), ())))) ∨
   ((p.2.1.take i).any (clash l) = false ∧ ∃ x, Qd l_ez_15 lots ((p, (i : Int), (), 0, (), a1, a2, a3, (), a4, a5, a6, ()), ((l.1, l.2.1, l.2.2.1, l.2.2.2.1, l.2.2.2.2.1, ()), ()), ()) = some (.inl x) ∧ x.1.1 = p ∧ x.1.2.1 = (i : Int))) := by
 have hl : (p.2.1.take i).length = i := by simp; omega
 obtain ⟨x, hx, hx1, hx2⟩ : ∃ x, (∀ rec, l_ez_15 rec ((p, (i : Int), (), (i : Int), (), a1, a2, a3, (), a4, a5, a6, ()), ((l.1, l.2.1, l.2.2.1, l.2.2.2.1, l.2.2.2.2.1, ()), ()), ()) = some (.inl x)) ∧ x.1.1 = p ∧ x.1.2.1 = (i : Int) := by
  refine ⟨((p, (i : Int), (), a1, a2, a3, (), a4, a5, a6, ()), ((l.1, l.2.1, l.2.2.1, l.2.2.2.1, l.2.2.2.2.1, ()), ()), ()), fun rec => ?_, rfl, rfl⟩
  unfold l_ez_15
  dsimp only
  rw [if_neg Qau]
 have key := QQ (step := l_ez_15) (γ := denO o_ez_15) (fun k => ((p, (i : Int), (), ((k : Nat) : Int), (), a1, a2, a3, (), a4, a5, a6, ()), ((l.1, l.2.1, l.2.2.1, l.2.2.2.1, l.2.2.2.2.1, ()), ()), ())) (p.2.1.take i)
  (fun _ o => if clash l o = true then some () else none) (fun _ => some (.inr (.inl ((6, ()), (), ())))) (some (.inl x)) (QaD (by omega)) ?_ ?_
 ·have h1 := QdC (f := fun (_ : Nat) o => if clash l o = true then some () else none) (p := clash l) (m := p.2.1.take i) (i := 0) (fun j hj => by cases clash l (p.2.1.take i)[j] <;> rfl)
  have e0 : ((0 : Nat) : Int) = 0 := rfl
  rw [e0] at key
  rw [key, ← h1]
  cases scan (fun (_ : Nat) o => if clash l o = true then some () else none) 0 (p.2.1.take i) with
  | some c => exact .inl ⟨rfl, rfl⟩
  | none => exact .inr ⟨rfl, x, rfl, hx1, hx2⟩
 ·intro rec k hk
  have hk' : k < i := by omega
  unfold l_ez_15
  dsimp only
  rw [if_pos (lt_t hk'), if_pos nat0, Qs (by omega), QO (by omega), Qox, Qox, List.getElem_take]
  simp only [Option.bind_some, clash]
  rcases Bool.eq_false_or_eq_true ((p.2.1[k]).2.2.1 == l.2.2.1) with c1 | c1 <;> rcases Bool.eq_false_or_eq_true (QdR p.2.1[k] l.1 l.2.2.2.1) with c2 | c2 <;> rcases Bool.eq_false_or_eq_true (QdR p.2.1[k] l.2.1 l.2.2.2.2.1) with c3 | c3 <;> simp [c1, c2, c3]
 ·intro rec
  rw [hl]
  exact hx rec
theorem QkS (p : PolD) (h : p.1.length ≤ 1048576) (h2 : ∀ l ∈ p.1, l.length ≤ 1048576) (hm : p.2.1.length ≤ 1048576) :
  F_ez (p, ()) = some ((if p.2.1.length ≤ 4 ∧ p.2.2.1.length ≤ 4 then (match Qep p with | some c => c | none => 0) else 2, ()), ()) := by
 have key := QQ (step := l_ez_4) (γ := denO o_ez_4) (fun i => ((p, ((i : Nat) : Int), ()), (), ())) p.2.1 (fun i l => nz (Qfd p l (p.2.1.take i)))
  (fun c => some (.inr (.inl ((c, ()), (), ())))) (some (.inl ((), (), ()))) (QaD hm) ?_ ?_
 ·have e0 : ((0 : Nat) : Int) = 0 := rfl
  rw [e0] at key
  unfold F_ez Qep
  dsimp only
  by_cases h1 : p.2.1.length ≤ 4
  ·rw [if_pos (by rw [QaN]; omega)]
   by_cases h3 : p.2.2.1.length ≤ 4
   ·rw [if_neg (by rw [QS]; omega), if_pos ⟨h1, h3⟩]
    show (Qd l_ez_4 lots ((p, 0, ()), (), ())).bind _ = _
    rw [key]
    cases scan (fun i l => nz (Qfd p l (p.2.1.take i))) 0 p.2.1 <;> rfl
   ·rw [if_pos (by rw [QS]; omega), if_neg (by omega)]
  ·rw [if_neg (by rw [QaN]; omega), if_neg (by omega)]
 ·intro rec i hi
  unfold l_ez_4
  dsimp only
  rw [if_pos (lt_t hi), if_pos nat0, Qs hi, Qot p _ _ h, QbN, QbN, QbN, Qri p _ h h2]
  simp only [Option.bind_some]
  generalize p.2.1[i] = l
  unfold Qfd
  by_cases h0 : Qcr p l.1 l.2.1 = 0
  ·rw [h0]
   cases b1 : inB l.2.2.1 0 23
   ·simp [nz]
   cases b2 : inB l.2.2.2.1 5 6
   ·simp [nz]
   cases b3 : inB l.2.2.2.2.1 5 6
   ·simp [nz]
   cases b4 : leI 0 (Qfz p.1 l.2.2.1)
   ·rw [if_neg (by simp), if_pos (by simp), if_pos (by simp), if_neg (by simp), if_neg (by simp), if_neg (by simp), if_pos (by simp), if_neg (by simp)]
    rcases QkP p i hi hm l l.2.2.2.1 true (!true) l.2.2.2.2.1 true (!true) with ⟨g1, g2⟩ | ⟨g1, x, g2, g3, g4⟩
    ·show (Qd l_ez_15 lots ((p, (i : Int), (), 0, (), l.2.2.2.1, true, (!true), (), l.2.2.2.2.1, true, (!true), ()), ((l.1, l.2.1, l.2.2.1, l.2.2.2.1, l.2.2.2.2.1, ()), ()), ())).bind _ = _
     rw [g1, g2]
     rfl
    ·show (Qd l_ez_15 lots ((p, (i : Int), (), 0, (), l.2.2.2.1, true, (!true), (), l.2.2.2.2.1, true, (!true), ()), ((l.1, l.2.1, l.2.2.1, l.2.2.2.1, l.2.2.2.2.1, ()), ()), ())).bind _ = _
     rw [g1, g2, Option.bind_some]
     dsimp only
     rw [g3, g4, QO (lt1 hi hm)]
     rfl
   ·simp [nz]
  ·simp [h0, nz]
 ·intro rec
  unfold l_ez_4
  dsimp only
  rw [if_neg Qau]
def Qak (b o : TwoD) : Bool := (b.1 == o.1) && ((b.2.1 == o.2.1) && true)
def Qfb (p : PolD) (b : TwoD) (ahead : List TwoD) : Int := if Qcr p b.1 b.2.1 ≠ 0 then Qcr p b.1 b.2.1 else if ahead.any (Qak b) = true then 6 else 0
def Qee (p : PolD) : Option Int := scan (fun i b => nz (Qfb p b (p.2.2.1.take i))) 0 p.2.2.1
def QjJ (p : PolD) : Int := if 1 ≤ p.2.2.2.1.length ∧ p.2.2.2.1.length ≤ 8 then
 (match scan (fun (_ : Nat) (s : TwoD) => if isG p s.1 = true then (if inB s.2.1 1 50 = true then none else some (3 : Int)) else some 4) 0 p.2.2.2.1 with | some c => c | none => 0) else 2
theorem Qnw (b o : TwoD) : Qak b o = Qak o b := by
 unfold Qak
 rw [Bool.eq_iff_iff]
 simp
 constructor <;> rintro ⟨h1, h2⟩ <;> exact ⟨h1.symm, h2.symm⟩
theorem QgT (b : TwoD) (m : List TwoD) (hm : m.length ≤ 1048576) : F_gh (m, b, ()) = some ((m.any (Qak b), ()), ()) := by
 have key := QQ (step := l_gg_2) (γ := denO o_gg_2) (fun i => ((m, (), ((m.length : Nat) : Int), ((i : Nat) : Int), ()), ((b.1, b.2.1, ()), ()), ())) m
  (fun i o => if Qak b o = true then some ((i : Nat) : Int) else none) (fun c => some (.inr (.inl ((c, ()), (), ())))) (some (.inl ((), (), ()))) (QaD hm) ?_ ?_
 ·unfold F_gh F_gg
  show ((Qd l_gg_2 lots ((m, (), ((m.length : Nat) : Int), ((0 : Nat) : Int), ()), ((b.1, b.2.1, ()), ()), ())).bind _).bind _ = _
  rw [key, ← Qef (P := Qak b) (m := m) (f := fun i o => if Qak b o = true then some ((i : Nat) : Int) else none) (fun _ _ => rfl)]
  cases scan (fun i o => if Qak b o = true then some ((i : Nat) : Int) else none) 0 m <;> rfl
 ·intro rec i hi
  unfold l_gg_2
  dsimp only
  rw [if_pos (lt_t hi), if_pos nat0, Qs hi, QO (lt1 hi hm)]
  show (if Qak b m[i] = true then _ else _) = _
  cases Qak b m[i] <;> rfl
 ·intro rec
  unfold l_gg_2
  dsimp only
  rw [if_neg Qau]
theorem Qks (p : PolD) (b : TwoD) (ahead : List TwoD) (h : p.1.length ≤ 1048576) (hm : ahead.length ≤ 1048576) : F_gi (p, b, ahead, ()) = some ((Qfb p b ahead, ()), ()) := by
 unfold F_gi Qfb
 dsimp only
 rw [Qoy p _ _ h, QgT b ahead hm]
 simp only [Option.bind_some]
 by_cases h0 : Qcr p b.1 b.2.1 = 0
 ·rw [h0]
  cases ahead.any (Qak b) <;> simp
 ·simp [h0]
theorem QgK (p : PolD) (i : Nat) (hi : i < p.2.2.1.length) (hm : p.2.2.1.length ≤ 1048576) (b : TwoD) :
  Qd l_fa_9 lots ((p, (i : Int), (), 0, ()), ((b.1, b.2.1, ()), ()), ()) = if (p.2.2.1.take i).any (Qak b) = true then some (.inr (.inl ((6, ()), (), ()))) else some (.inl ((p, (i : Int), ()), (), ())) := by
 have hl : (p.2.2.1.take i).length = i := by simp; omega
 have key := QQ (step := l_fa_9) (γ := denO o_fa_9) (fun k => ((p, (i : Int), (), ((k : Nat) : Int), ()), ((b.1, b.2.1, ()), ()), ())) (p.2.2.1.take i)
  (fun _ o => if Qak b o = true then some () else none) (fun _ => some (.inr (.inl ((6, ()), (), ())))) (some (.inl ((p, (i : Int), ()), (), ()))) (QaD (by omega)) ?_ ?_
 ·have h1 := QdC (f := fun (_ : Nat) o => if Qak b o = true then some () else none) (p := Qak b) (m := p.2.2.1.take i) (i := 0) (fun j hj => by cases Qak b (p.2.2.1.take i)[j] <;> rfl)
  have e0 : ((0 : Nat) : Int) = 0 := rfl
  rw [e0] at key
  rw [key, ← h1]
  cases scan (fun (_ : Nat) o => if Qak b o = true then some () else none) 0 (p.2.2.1.take i) <;> rfl
 ·intro rec k hk
  have hk' : k < i := by omega
  unfold l_fa_9
  dsimp only
  rw [if_pos (lt_t hk'), if_pos nat0, Qs (by omega), QO (by omega), List.getElem_take]
  show (if Qak p.2.2.1[k] b = true then _ else _) = _
  rw [Qnw]
  cases Qak b p.2.2.1[k] <;> rfl
 ·intro rec
  unfold l_fa_9
  dsimp only
  rw [hl, if_neg Qau]
theorem QiS (p : PolD) (h : p.1.length ≤ 1048576) (hm : p.2.2.2.1.length ≤ 1048576) :
  Qd l_fa_16 lots ((p, 0, ()), (), ()) = match scan (fun (_ : Nat) (s : TwoD) => if isG p s.1 = true then (if inB s.2.1 1 50 = true then none else some (3 : Int)) else some 4) 0 p.2.2.2.1 with
   | some c => some (.inr (.inl ((c, ()), (), ()))) | none => some (.inl ((), (), ())) := by
 have key := QQ (step := l_fa_16) (γ := denO o_fa_16) (fun i => ((p, ((i : Nat) : Int), ()), (), ())) p.2.2.2.1 (fun (_ : Nat) (s : TwoD) => if isG p s.1 = true then (if inB s.2.1 1 50 = true then none else some (3 : Int)) else some 4) (fun c => some (.inr (.inl ((c, ()), (), ())))) (some (.inl ((), (), ()))) (QaD hm) ?_ ?_
 ·have e0 : ((0 : Nat) : Int) = 0 := rfl
  rw [e0] at key
  rw [key]
  cases scan (fun (_ : Nat) (s : TwoD) => if isG p s.1 = true then (if inB s.2.1 1 50 = true then none else some (3 : Int)) else some 4) 0 p.2.2.2.1 <;> rfl
 ·intro rec i hi
  unfold l_fa_16
  dsimp only
  rw [if_pos (lt_t hi), if_pos nat0, Qs hi, QcP p _ h, Option.bind_some]
  cases b1 : isG p (p.2.2.2.1[i]).1
  ·simp
  ·rw [if_neg (by simp), if_pos nat0, Qs hi, QbN, Option.bind_some]
   cases b2 : inB (p.2.2.2.1[i]).2.1 1 50
   ·simp
   ·rw [if_neg (by simp), QO (lt1 hi hm)]; simp
 ·intro rec
  unfold l_fa_16
  dsimp only
  rw [if_neg Qau]
theorem Qmm (p : PolD) (h : p.1.length ≤ 1048576) (h3 : p.2.2.1.length ≤ 1048576) (h4 : p.2.2.2.1.length ≤ 1048576) :
  F_fa (p, ()) = some ((match Qee p with | some c => c | none => QjJ p, ()), ()) := by
 have key := QQ (step := l_fa_2) (γ := denO o_fa_2) (fun i => ((p, ((i : Nat) : Int), ()), (), ())) p.2.2.1 (fun i b => nz (Qfb p b (p.2.2.1.take i)))
  (fun c => some (.inr (.inl ((c, ()), (), ())))) (some (.inl ((p, ()), (), ()))) (QaD h3) ?_ ?_
 ·have e0 : ((0 : Nat) : Int) = 0 := rfl
  rw [e0] at key
  unfold F_fa Qee
  show (Qd l_fa_2 lots ((p, 0, ()), (), ())).bind _ = _
  rw [key]
  cases scan (fun i b => nz (Qfb p b (p.2.2.1.take i))) 0 p.2.2.1 with
  | some c => rfl
  | none =>
   rw [Option.bind_some]
   dsimp only
   unfold QjJ
   by_cases g1 : 1 ≤ p.2.2.2.1.length
   ·rw [if_pos (by rw [QaN]; omega)]
    by_cases g2 : p.2.2.2.1.length ≤ 8
    ·rw [if_neg (by rw [QS]; omega), if_pos ⟨g1, g2⟩]
     show (Qd l_fa_16 lots ((p, 0, ()), (), ())).bind _ = _
     rw [QiS p h h4]
     cases scan (fun (_ : Nat) (s : TwoD) => if isG p s.1 = true then (if inB s.2.1 1 50 = true then none else some (3 : Int)) else some 4) 0 p.2.2.2.1 <;> rfl
    ·rw [if_pos (by rw [QS]; omega), if_neg (by omega)]
   ·rw [if_neg (by rw [QaN]; omega), if_neg (by omega)]
 ·intro rec i hi
  unfold l_fa_2
  dsimp only
  rw [if_pos (lt_t hi), if_pos nat0, Qs hi, Qot p _ _ h, Option.bind_some]
  generalize p.2.2.1[i] = b
  unfold Qfb
  by_cases h0 : Qcr p b.1 b.2.1 = 0
  ·rw [h0, if_neg (by simp)]
   show (Qd l_fa_9 lots ((p, (i : Int), (), 0, ()), ((b.1, b.2.1, ()), ()), ())).bind _ = _
   rw [QgK p i hi h3 b]
   cases (p.2.2.1.take i).any (Qak b)
   ·rw [if_neg (by simp), Option.bind_some]
    dsimp only
    rw [QO (lt1 hi h3)]
    rfl
   ·rfl
  ·simp [h0, nz]
 ·intro rec
  unfold l_fa_2
  dsimp only
  rw [if_neg Qau]
theorem QlI (p : PolD) (h : p.1.length ≤ 1048576) (hm : p.2.2.2.1.length ≤ 1048576) : F_gj (p, ()) = some ((QjJ p, ()), ()) := by
 have key := QQ (step := l_gj_4) (γ := denO o_gj_4) (fun i => ((p, p.2.2.2.1, ((p.2.2.2.1.length : Nat) : Int), ((i : Nat) : Int), ()), (), ())) p.2.2.2.1
  (fun (_ : Nat) (s : TwoD) => if isG p s.1 = true then (if inB s.2.1 1 50 = true then none else some (3 : Int)) else some 4) (fun c => some (.inr (.inl ((c, ()), (), ())))) (some (.inl ((), (), ()))) (QaD hm) ?_ ?_
 ·have e0 : ((0 : Nat) : Int) = 0 := rfl
  rw [e0] at key
  unfold F_gj QjJ
  dsimp only
  rw [Qan, Option.bind_some]
  by_cases g : 1 ≤ p.2.2.2.1.length ∧ p.2.2.2.1.length ≤ 8
  ·have : inB ((p.2.2.2.1.length : Nat) : Int) 1 8 = true := by unfold inB; simp; omega
   rw [this, if_neg (by simp), if_pos g]
   show (Qd l_gj_4 lots ((p, p.2.2.2.1, ((p.2.2.2.1.length : Nat) : Int), 0, ()), (), ())).bind _ = _
   rw [key]
   cases scan (fun (_ : Nat) (s : TwoD) => if isG p s.1 = true then (if inB s.2.1 1 50 = true then none else some (3 : Int)) else some 4) 0 p.2.2.2.1 <;> rfl
  ·have : inB ((p.2.2.2.1.length : Nat) : Int) 1 8 = false := by unfold inB; simp; omega
   rw [this, if_pos (by simp), if_neg g]
 ·intro rec i hi
  unfold l_gj_4
  dsimp only
  rw [if_pos (lt_t hi), if_pos nat0, Qs hi, QcO p _ h, Option.bind_some, Qan, Option.bind_some, QO (lt1 hi hm)]
  cases b1 : isG p (p.2.2.2.1[i]).1
  ·simp
  ·cases b2 : inB (p.2.2.2.1[i]).2.1 1 50 <;> simp
 ·intro rec
  unfold l_gj_4
  dsimp only
  rw [if_neg Qau]
def own1 (l : List Int) : Option Int := if 1 ≤ l.length ∧ l.length ≤ 5 then scan (fun (_ : Nat) x => if inB x 0 23 = true then none else some (3 : Int)) 0 l else some 2
def dupM : List Int → List Int → Bool
 | _, [] => false
 | seen, x :: r => seen.contains x || dupM (seen ++ [x]) r
def Qfg (own : List (List Int)) : Int := if 1 ≤ own.length ∧ own.length ≤ 3 then (match scan (fun (_ : Nat) l => own1 l) 0 own with | some c => c | none => if dupM [] own.flatten = true then 6 else 0) else 2
theorem Qmj {T : Type} (p : PolD) (i : Nat) (hi : i < p.1.length) (hl : (p.1[i]).length ≤ 1048576) (a1 a2 : PolD) (b1 b2 : List (List Int)) (c : Int) (d1 d2 : List Int) (e1 : Int) (e2 : Bool) :
  ((scan (fun (_ : Nat) x => if inB x 0 23 = true then none else some (3 : Int)) 0 p.1[i] = none ∧ ∃ x, Qd l_eu_9 lots ((p, (i : Int), 0, a1, a2, b1, b2, c, d1, d2, e1, e2, ()), (), ()) = some (.inl x) ∧ x.1.1 = p ∧ x.1.2.1 = (i : Int)) ∨
   (scan (fun (_ : Nat) x => if inB x 0 23 = true then none else some (3 : Int)) 0 p.1[i] = some 3 ∧ Qd l_eu_9 lots ((p, (i : Int), 0, a1, a2, b1, b2, c, d1, d2, e1, e2, ()), (), ()) = some (.inr (.inl ((3, ()), (), ()))))) := by
 have key := QQ (step := l_eu_9) (γ := denO o_eu_9) (fun k => ((p, (i : Int), ((k : Nat) : Int), a1, a2, b1, b2, c, d1, d2, e1, e2, ()), (), ())) p.1[i]
  (fun (_ : Nat) x => if inB x 0 23 = true then none else some (3 : Int)) (fun c => some (.inr (.inl ((c, ()), (), ())))) (some (.inl ((p, (i : Int), a1, a2, b1, b2, c, d1, d2, e1, e2, ()), (), ()))) (QaD hl) ?_ ?_
 ·have e0 : ((0 : Nat) : Int) = 0 := rfl
  rw [e0] at key
  rw [key]
  cases hs : scan (fun (_ : Nat) x => if inB x 0 23 = true then none else some (3 : Int)) 0 p.1[i] with
  | none => exact .inl ⟨rfl, _, rfl, rfl, rfl⟩
  | some c =>
   have : c = 3 := Qdl (P := fun c => c = 3) (fun j hj c hc => by
    split at hc
    ·cases hc
    ·exact (Option.some.inj hc).symm) c hs
   subst this
   exact .inr ⟨rfl, rfl⟩
 ·intro rec k hk
  unfold l_eu_9
  dsimp only
  rw [if_pos nat0, Qs hi, if_pos (lt_t hk), if_pos nat0, Qs hi, if_pos nat0, Qs hk, QbN, Option.bind_some, QO (lt1 hk hl)]
  cases inB (p.1[i])[k] 0 23 <;> rfl
 ·intro rec
  unfold l_eu_9
  dsimp only
  rw [if_pos nat0, Qs hi, if_neg Qau]
theorem Qeg : ∀ (l seen r : List Int), dupM seen (l ++ r) = (dupM seen l || dupM (seen ++ l) r)
 | [], seen, r => by simp [dupM]
 | x :: l, seen, r => by
  simp only [List.cons_append, dupM, Qeg l (seen ++ [x]) r, Bool.or_assoc, List.append_assoc, List.singleton_append, List.nil_append]
theorem Qmn (p : PolD) (seen : List Int) (i : Nat) (hi : i < p.1.length) (hl : (p.1[i]).length ≤ 1048576) (hs : seen.length ≤ 4194304) (hs2 : seen.length + (p.1[i]).length ≤ 1048576) :
  Qd l_eu_18 lots ((p, seen, (i : Int), 0, ()), (), ()) = if dupM seen p.1[i] = true then some (.inr (.inl ((6, ()), (), ()))) else some (.inl ((p, seen ++ p.1[i], (i : Int), ()), (), ())) := by
 have key := QcR (step := l_eu_18) (γ := denO o_eu_18) (fun k (s : List Int) => ((p, s, (i : Int), ((k : Nat) : Int), ()), (), ())) (p.1[i]).length (Qae (QaD hl)) (fun k s => s = seen ++ (p.1[i]).take k)
  (fun k s => if dupM s ((p.1[i]).drop k) = true then some (.inr (.inl ((6, ()), (), ()))) else some (.inl ((p, seen ++ p.1[i], (i : Int), ()), (), ()))) ?_ 0 seen (by omega) (by simp)
 ·exact key
 ·rintro rec k s hk hsk ih
  unfold l_eu_18
  dsimp only
  rw [if_pos nat0, Qs hi]
  by_cases hlt : k < (p.1[i]).length
  ·have hsl : s.length = seen.length + k := by rw [hsk]; simp; omega
   rw [if_pos (lt_t hlt), if_pos nat0, Qs hi, if_pos nat0, Qs hlt, QlR _ _ (by omega), Option.bind_some, QaB hlt]
   rw [show dupM s ((p.1[i])[k] :: (p.1[i]).drop (k + 1)) = (s.contains (p.1[i])[k] || dupM (s ++ [(p.1[i])[k]]) ((p.1[i]).drop (k + 1))) from rfl]
   by_cases hc : s.contains (p.1[i])[k] = true
   ·rw [if_pos hc, hc]
    simp
   ·rw [if_neg hc, if_pos nat0, Qs hi, if_pos nat0, Qs hlt, if_pos (by simp; omega), QO (lt1 hlt hl)]
    have hc' : s.contains (p.1[i])[k] = false := by simpa using hc
    rw [hc', Bool.false_or]
    refine ih _ hlt ?_
    rw [hsk, List.append_assoc, List.take_add_one, List.getElem?_eq_getElem hlt]
    rfl
  ·rw [if_neg (lt_f hlt), QaS hlt]
   rw [show dupM s [] = false from rfl]
   rw [hsk, List.take_of_length_le (by omega)]
   simp
theorem Qjp {own : List (List Int)} {i : Nat} (hi : i < own.length) : (own.take (i + 1)).flatten = (own.take i).flatten ++ own[i] := by
 have e : own.take (i + 1) = own.take i ++ [own[i]] := by rw [List.take_add_one, List.getElem?_eq_getElem hi]; rfl
 rw [e, List.flatten_append]
 simp
theorem Qrh {l : List Int} (h : own1 l = none) : l.length ≤ 5 := by
 unfold own1 at h
 split at h
 ·rename_i h'; exact h'.2
 ·cases h
theorem QgJ {α β : Type} {f : Nat → α → Option β} : ∀ {m : List α} {i : Nat}, scan f i m = none → ∀ j (h : j < m.length), f (i + j) m[j] = none
 | [], _, _, j, h => by simp at h
 | x :: r, i, hs, j, h => by
  simp only [scan] at hs
  split at hs
  ·cases hs
  ·rename_i h0
   cases j with
   | zero => simpa using h0
   | succ j =>
    have := QgJ hs j (by simpa using h)
    simpa [Nat.add_assoc, Nat.add_comm, Nat.add_left_comm] using this
theorem Qlw {own : List (List Int)} (h : ∀ j (hj : j < own.length), (own[j]).length ≤ 5) : ∀ i, i ≤ own.length → (own.take i).flatten.length ≤ 5 * i
 | 0, _ => by simp
 | i + 1, hi => by
  rw [Qjp (by omega), List.length_append]
  have := Qlw h i (by omega)
  have := h i (by omega)
  omega
theorem Qmk (p : PolD) (h : p.1.length ≤ 1048576) (h2 : ∀ l ∈ p.1, l.length ≤ 1048576) : F_eu (p, ()) = some ((Qfg p.1, ()), ()) := by
 unfold F_eu Qfg
 dsimp only
 by_cases g1 : 1 ≤ p.1.length
 case neg => rw [if_neg (by rw [QaN]; omega), if_neg (by omega)]
 rw [if_pos (by rw [QaN]; omega)]
 by_cases g2 : p.1.length ≤ 3
 case neg => rw [if_pos (by rw [QS]; omega), if_neg (by omega)]
 rw [if_neg (by rw [QS]; omega), if_pos ⟨g1, g2⟩]
 have key := QQ (step := l_eu_4) (γ := denO o_eu_4) (fun i => ((p, ((i : Nat) : Int), ()), (), ())) p.1 (fun (_ : Nat) l => own1 l)
  (fun c => some (.inr (.inl ((c, ()), (), ())))) (some (.inl ((p, ()), (), ()))) (QaD h) ?_ ?_
 ·have e0 : ((0 : Nat) : Int) = 0 := rfl
  rw [e0] at key
  show (Qd l_eu_4 lots ((p, 0, ()), (), ())).bind _ = _
  rw [key]
  cases hs : scan (fun (_ : Nat) l => own1 l) 0 p.1 with
  | some c => rfl
  | none =>
   rw [Option.bind_some]
   dsimp only
   have h5 : ∀ j (hj : j < p.1.length), (p.1[j]).length ≤ 5 := fun j hj => Qrh (QgJ hs j hj)
   have key2 := QcR (step := l_eu_15) (γ := denO o_eu_15) (fun k (s : List Int) => ((p, s, ((k : Nat) : Int), ()), (), ())) p.1.length (Qae (QaD h)) (fun k s => s = (p.1.take k).flatten)
    (fun k s => if dupM s ((p.1.drop k).flatten) = true then some (.inr (.inl ((6, ()), (), ()))) else some (.inl ((), (), ()))) ?_ 0 [] (by omega) (by simp)
   ·show (Qd l_eu_15 lots ((p, [], 0, ()), (), ())).bind _ = _
    rw [e0] at key2
    rw [key2, List.drop_zero]
    cases dupM [] p.1.flatten <;> rfl
   ·rintro rec k s hk hsk ih
    unfold l_eu_15
    dsimp only
    by_cases hlt : k < p.1.length
    ·have hfl := Qlw h5 k hk
     rw [← hsk] at hfl
     have := h5 k hlt
     rw [if_pos (lt_t hlt), QaB hlt, List.flatten_cons, Qeg]
     show (Qd l_eu_18 lots ((p, s, (k : Int), 0, ()), (), ())).bind _ = _
     rw [Qmn p s k hlt (by omega) (by omega) (by omega)]
     cases hd : dupM s p.1[k]
     ·rw [if_neg (by simp), Option.bind_some]
      dsimp only
      rw [QO (lt1 hlt h), Bool.false_or]
      exact ih _ hlt (by rw [hsk, Qjp hlt])
     ·rfl
    ·rw [if_neg (lt_f hlt), QaS hlt]
     rfl
 ·intro rec i hi
  unfold l_eu_4
  dsimp only
  have hl := h2 _ (List.getElem_mem hi)
  rw [if_pos (lt_t hi), if_pos nat0, Qs hi]
  unfold own1
  by_cases k1 : 1 ≤ (p.1[i]).length
  case neg => rw [if_neg (by rw [QaN]; omega), if_neg (by omega)]
  rw [if_pos (by rw [QaN]; omega), if_pos nat0, Qs hi]
  by_cases k2 : (p.1[i]).length ≤ 5
  case neg => rw [if_pos (by rw [QS]; omega), if_neg (by omega)]
  rw [if_neg (by rw [QS]; omega), if_pos ⟨k1, k2⟩]
  rcases Qmj (T := Unit) p i hi hl p p p.1 p.1 (i : Int) p.1[i] p.1[i] (((p.1[i]).length : Nat) : Int) (ltI 5 (((p.1[i]).length : Nat) : Int)) with ⟨g, x, g3, g4, g5⟩ | ⟨g, g3⟩
  ·show (Qd l_eu_9 lots _).bind _ = _
   rw [g, g3, Option.bind_some]
   dsimp only
   rw [g4, g5, QO (lt1 hi h)]
  ·show (Qd l_eu_9 lots _).bind _ = _
   rw [g, g3]
   rfl
 ·intro rec
  unfold l_eu_4
  dsimp only
  rw [if_neg Qau]
theorem Qpp (es : List (Int × Bool)) (x y : Int) : getM (setM es x true) y = (y == x || getM es y) := by
 induction es with
 | nil =>
  simp only [setM, getM]
  by_cases e : x = y
  ·subst e; simp
  ·rw [if_neg e]; simp [Ne.symm e]
 | cons a r ih =>
  simp only [setM, getM]
  by_cases e : a.1 = x
  ·rw [if_pos e]
   simp only [getM]
   by_cases e2 : x = y
   ·subst e2; simp
   ·rw [if_neg e2, if_neg (by rw [e]; exact e2)]; simp [Ne.symm e2]
  ·rw [if_neg e]
   simp only [getM]
   by_cases e2 : a.1 = y
   ·subst e2; rw [if_pos rfl, if_pos rfl]; simp [e]
   ·rw [if_neg e2, if_neg e2, ih]
theorem QkC {T1 T2 T3 : Int} (es : List (Int × Bool)) (t : Bool) (own : List (List Int)) (a b : Int) (l : List Int) (hl : l.length ≤ 1048576) (seen : List Int) (hes : ∀ y, getM es y = seen.contains y) :
  (∃ es', scan (fun (_ : Nat) x => if inB x 0 23 = true then none else some (3 : Int)) 0 l = none ∧ (∀ y, getM es' y = (seen ++ l).contains y) ∧
   Qd l_ft_10 lots ((es, t, own, a, b, l, ((l.length : Nat) : Int), 0, ()), (), ()) = some (.inl ((es', t || dupM seen l, own, a, b, ()), (), ()))) ∨
  (scan (fun (_ : Nat) x => if inB x 0 23 = true then none else some (3 : Int)) 0 l = some 3 ∧ Qd l_ft_10 lots ((es, t, own, a, b, l, ((l.length : Nat) : Int), 0, ()), (), ()) = some (.inr (.inl ((3, ()), (), ())))) := by
 have key : ∀ n (k : Nat) (es : List (Int × Bool)) (t : Bool) (seen : List Int), l.length - k < n → k ≤ l.length → (∀ y, getM es y = seen.contains y) →
   (∃ es', scan (fun (_ : Nat) x => if inB x 0 23 = true then none else some (3 : Int)) k (l.drop k) = none ∧ (∀ y, getM es' y = (seen ++ l.drop k).contains y) ∧
   Qd l_ft_10 n ((es, t, own, a, b, l, ((l.length : Nat) : Int), ((k : Nat) : Int), ()), (), ()) = some (.inl ((es', t || dupM seen (l.drop k), own, a, b, ()), (), ()))) ∨
   (scan (fun (_ : Nat) x => if inB x 0 23 = true then none else some (3 : Int)) k (l.drop k) = some 3 ∧ Qd l_ft_10 n ((es, t, own, a, b, l, ((l.length : Nat) : Int), ((k : Nat) : Int), ()), (), ()) = some (.inr (.inl ((3, ()), (), ())))) := by
  intro n
  induction n with
  | zero => intro k _ _ _ h; omega
  | succ n ih =>
   intro k es t seen hn hk hes
   simp only [Qd]
   generalize Qd l_ft_10 n = rec at ih ⊢
   by_cases hlt : k < l.length
   ·have hw : IntKind.i64.wrap ((k : Int) + 1) = ((k + 1 : Nat) : Int) := QO (lt1 hlt hl)
    rw [QaB hlt]
    simp only [scan, dupM]
    have hes2 : ∀ y, getM (setM es l[k] true) y = (seen ++ [l[k]]).contains y := by
     intro y
     rw [Qpp, hes]
     rw [Bool.eq_iff_iff]
     simp [or_comm]
    cases hb : inB l[k] 0 23
    ·right
     refine ⟨by simp, ?_⟩
     unfold l_ft_10
     dsimp only
     rw [if_pos (lt_t hlt), if_pos nat0, Qs hlt, Qan, Option.bind_some, hb]
     rfl
    ·have go : l_ft_10 rec ((es, t, own, a, b, l, ((l.length : Nat) : Int), ((k : Nat) : Int), ()), (), ()) = rec ((setM es l[k] true, t || seen.contains l[k], own, a, b, l, ((l.length : Nat) : Int), ((k + 1 : Nat) : Int), ()), (), ()) := by
      unfold l_ft_10
      dsimp only
      rw [if_pos (lt_t hlt), if_pos nat0, Qs hlt, Qan, Option.bind_some, hb, if_neg (by simp), hw, ← hes]
      cases t <;> rfl
     rw [go]
     rcases ih (k + 1) (setM es l[k] true) (t || seen.contains l[k]) (seen ++ [l[k]]) (by omega) (by omega) hes2 with ⟨es', g1, g2, g3⟩ | ⟨g1, g2⟩
     ·left
      refine ⟨es', by simpa using g1, fun y => by rw [g2]; simp, ?_⟩
      rw [g3, Bool.or_assoc]
     ·right
      exact ⟨by simpa using g1, g2⟩
   ·left
    rw [QaS hlt]
    refine ⟨es, rfl, by simpa using hes, ?_⟩
    unfold l_ft_10
    dsimp only
    rw [if_neg (lt_f hlt)]
    simp [dupM]
 simpa using key lots 0 es t seen (by have := Qae (QaD hl); omega) (by omega) hes
theorem QlG (p : PolD) (h : p.1.length ≤ 1048576) (h2 : ∀ l ∈ p.1, l.length ≤ 1048576) : F_ft (p, ()) = some ((Qfg p.1, ()), ()) := by
 unfold F_ft Qfg
 dsimp only
 rw [Qan, Option.bind_some]
 by_cases g : 1 ≤ p.1.length ∧ p.1.length ≤ 3
 case neg =>
  have : inB ((p.1.length : Nat) : Int) 1 3 = false := by unfold inB; simp; omega
  rw [this, if_pos (by simp), if_neg g]
 have : inB ((p.1.length : Nat) : Int) 1 3 = true := by unfold inB; simp; omega
 rw [this, if_neg (by simp), if_pos g]
 have key : ∀ n (k : Nat) (es : List (Int × Bool)) (t : Bool) (seen : List Int), p.1.length - k < n → k ≤ p.1.length → (∀ y, getM es y = seen.contains y) →
   (Qd l_ft_5 n ((es, t, p.1, ((p.1.length : Nat) : Int), ((k : Nat) : Int), ()), (), ()) = match scan (fun (_ : Nat) l => own1 l) k (p.1.drop k) with
    | some c => some (.inr (.inl ((c, ()), (), ()))) | none => some (.inl ((t || dupM seen (p.1.drop k).flatten, ()), (), ()))) := by
  intro n
  induction n with
  | zero => intro k _ _ _ h; omega
  | succ n ih =>
   intro k es t seen hn hk hes
   simp only [Qd]
   generalize Qd l_ft_5 n = rec at ih ⊢
   by_cases hlt : k < p.1.length
   ·have hl := h2 _ (List.getElem_mem hlt)
    rw [QaB hlt]
    simp only [scan, List.flatten_cons, Qeg]
    unfold l_ft_5 own1
    dsimp only
    rw [if_pos (lt_t hlt), if_pos nat0, Qs hlt, Qan, Option.bind_some]
    by_cases g1 : 1 ≤ (p.1[k]).length ∧ (p.1[k]).length ≤ 5
    ·have : inB (((p.1[k]).length : Nat) : Int) 1 5 = true := by unfold inB; simp; omega
     rw [this, if_neg (by simp), if_pos g1]
     rcases QkC (T1 := 0) (T2 := 0) (T3 := 0) es t p.1 ((p.1.length : Nat) : Int) ((k : Nat) : Int) p.1[k] hl seen hes with ⟨es', q1, q2, q3⟩ | ⟨q1, q2⟩
     ·show (Qd l_ft_10 lots _).bind _ = _
      rw [q1, q3, Option.bind_some]
      dsimp only
      rw [QO (lt1 hlt h), ih (k + 1) es' _ (seen ++ p.1[k]) (by omega) (by omega) q2, Bool.or_assoc]
      rfl
     ·show (Qd l_ft_10 lots _).bind _ = _
      rw [q1, q2]
      rfl
    ·have : inB (((p.1[k]).length : Nat) : Int) 1 5 = false := by unfold inB; simp; omega
     rw [this, if_pos (by simp), if_neg g1]
   ·rw [QaS hlt]
    unfold l_ft_5
    dsimp only
    rw [if_neg (lt_f hlt)]
    simp [scan, dupM]
 have k0 := key lots 0 [] false [] (by have := Qae (QaD h); omega) (by omega) (fun y => by simp [getM])
 have e0 : ((0 : Nat) : Int) = 0 := rfl
 rw [e0, List.drop_zero] at k0
 show (Qd l_ft_5 lots (([], false, p.1, ((p.1.length : Nat) : Int), 0, ()), (), ())).bind _ = _
 rw [k0]
 cases scan (fun (_ : Nat) l => own1 l) 0 p.1 with
 | some c => rfl
 | none =>
  rw [Option.bind_some]
  dsimp only
  cases dupM [] p.1.flatten <;> rfl
def polM (p : PolD) : Int :=
 if Qfg p.1 ≠ 0 then Qfg p.1
 else if p.2.1.length ≤ 4 ∧ p.2.2.1.length ≤ 4 then (match Qep p with | some c => c | none => match Qee p with | some c => c | none => QjJ p) else 2
theorem Qsw {c d : Int} (h : nz c = some d) : d ≠ 0 := by
 unfold nz at h
 split at h
 ·rename_i h'; rw [← Option.some.inj h]; exact h'
 ·cases h
theorem Qjv {p : PolD} {c : Int} (h : Qep p = some c) : c ≠ 0 := Qdl (P := fun c => c ≠ 0) (fun j hj c hc => Qsw hc) c h
theorem Qpb {p : PolD} {c : Int} (h : Qee p = some c) : c ≠ 0 := Qdl (P := fun c => c ≠ 0) (fun j hj c hc => Qsw hc) c h
theorem QnH (p : PolD) (h : Qhh 1048576 p) : F_fb (p, ()) = some ((polM p, ()), ()) := by
 obtain ⟨⟨a1, a2⟩, a3, a4, a5⟩ := h
 unfold F_fb polM
 rw [Qmk p a1 a2, QkS p a1 a2 a3, Qmm p a1 a4 a5]
 simp only [Option.bind_some]
 by_cases h0 : Qfg p.1 = 0
 ·simp only [h0, bne_self_eq_false, Bool.false_eq_true, if_false, ne_eq, not_true_eq_false]
  by_cases h4 : p.2.1.length ≤ 4 ∧ p.2.2.1.length ≤ 4
  ·simp only [if_pos h4]
   cases hl : Qep p with
   | some c => have := Qjv hl; simp [this]
   | none => simp <;> (cases Qee p <;> rfl)
  ·simp [if_neg h4]
 ·rw [if_pos (by simpa using h0), if_pos h0]
theorem Qne (p : PolD) (h : Qhh 1048576 p) : F_gk (p, ()) = some ((polM p, ()), ()) := by
 obtain ⟨⟨a1, a2⟩, a3, a4, a5⟩ := h
 unfold F_gk polM
 dsimp only
 rw [QlG p a1 a2, Option.bind_some]
 dsimp only
 by_cases h0 : Qfg p.1 = 0
 case neg => rw [if_pos (by simpa using h0), if_pos h0]
 simp only [h0, bne_self_eq_false, Bool.false_eq_true, if_false, ne_eq, not_true_eq_false]
 by_cases h1 : p.2.1.length ≤ 4
 case neg => rw [if_neg (by rw [QaN]; omega), if_neg (by omega)]
 rw [if_pos (by rw [QaN]; omega)]
 by_cases h3 : p.2.2.1.length ≤ 4
 case neg => rw [if_pos (by rw [QS]; omega), if_neg (by omega)]
 rw [if_neg (by rw [QS]; omega), if_pos ⟨h1, h3⟩]
 have key1 := QQ (step := l_gk_7) (γ := denO o_gk_7) (fun i => (((), p.2.1, ((p.2.1.length : Nat) : Int), ((i : Nat) : Int), ()), (p, ()), ())) p.2.1 (fun i l => nz (Qfd p l (p.2.1.take i)))
  (fun c => some (.inr (.inl ((c, ()), (), ())))) (some (.inl (((), ()), (p, ()), ()))) (QaD a3) ?_ ?_
 ·have key2 := QQ (step := l_gk_14) (γ := denO o_gk_14) (fun i => (((), p.2.2.1, ((p.2.2.1.length : Nat) : Int), ((i : Nat) : Int), ()), (p, ()), ())) p.2.2.1 (fun i b => nz (Qfb p b (p.2.2.1.take i)))
   (fun c => some (.inr (.inl ((c, ()), (), ())))) (some (.inl (((), ()), (p, ()), ()))) (QaD a4) ?_ ?_
  ·have e0 : ((0 : Nat) : Int) = 0 := rfl
   rw [e0] at key1 key2
   show (Qd l_gk_7 lots (((), p.2.1, ((p.2.1.length : Nat) : Int), 0, ()), (p, ()), ())).bind _ = _
   rw [key1]
   unfold Qep
   cases scan (fun i l => nz (Qfd p l (p.2.1.take i))) 0 p.2.1 with
   | some c => rfl
   | none =>
    rw [Option.bind_some]
    dsimp only
    show (Qd l_gk_14 lots (((), p.2.2.1, ((p.2.2.1.length : Nat) : Int), 0, ()), (p, ()), ())).bind _ = _
    rw [key2]
    unfold Qee
    cases scan (fun i b => nz (Qfb p b (p.2.2.1.take i))) 0 p.2.2.1 with
    | some c => rfl
    | none =>
     rw [Option.bind_some]
     dsimp only
     rw [QlI p a1 a5, Option.bind_some]
  ·intro rec i hi
   unfold l_gk_14
   dsimp only
   rw [if_pos (lt_t hi), if_pos nat0, Qs hi, if_pos (show (0 : Int) ≤ 0 ∧ (0 : Int) ≤ (i : Int) ∧ (i : Int) ≤ ((p.2.2.1.length : Nat) : Int) from ⟨by omega, by omega, by omega⟩), QO (lt1 hi a4)]
   have e : (p.2.2.1.drop (0 : Int).toNat).take (((i : Nat) : Int).toNat - (0 : Int).toNat) = p.2.2.1.take i := by simp
   rw [e, Qks p _ _ a1 (by simp; omega), Option.bind_some]
   dsimp only
   unfold nz
   by_cases g : Qfb p p.2.2.1[i] (p.2.2.1.take i) = 0
   ·rw [if_neg (by simpa using g), if_neg (by simpa using g)]
   ·rw [if_pos (by simpa using g), if_pos (by simpa using g)]
  ·intro rec
   unfold l_gk_14
   dsimp only
   rw [if_neg Qau]
 ·intro rec i hi
  unfold l_gk_7
  dsimp only
  rw [if_pos (lt_t hi), if_pos nat0, Qs hi, if_pos (show (0 : Int) ≤ 0 ∧ (0 : Int) ≤ (i : Int) ∧ (i : Int) ≤ ((p.2.1.length : Nat) : Int) from ⟨by omega, by omega, by omega⟩), QO (lt1 hi a3)]
  have e : (p.2.1.drop (0 : Int).toNat).take (((i : Nat) : Int).toNat - (0 : Int).toNat) = p.2.1.take i := by simp
  rw [e, QkG p _ _ a1 a2 (by simp; omega), Option.bind_some]
  dsimp only
  unfold nz
  by_cases g : Qfd p p.2.1[i] (p.2.1.take i) = 0
  ·rw [if_neg (by simpa using g), if_neg (by simpa using g)]
  ·rw [if_pos (by simpa using g), if_pos (by simpa using g)]
 ·intro rec
  unfold l_gk_7
  dsimp only
  rw [if_neg Qau]
theorem Qbn {α β : Type} {f : Nat → α → Option β} {m : List α} (h : scan f 0 m = none) : ∀ x ∈ m, ∃ i, f i x = none := by
 intro x hx
 obtain ⟨i, hi, rfl⟩ := List.mem_iff_getElem.1 hx
 exact ⟨_, QgJ h i hi⟩
structure OkPol (p : PolD) : Prop where
 own : 1 ≤ p.1.length ∧ p.1.length ≤ 3
 own1 : ∀ l ∈ p.1, 1 ≤ l.length ∧ l.length ≤ 5 ∧ ∀ x ∈ l, 0 ≤ x ∧ x ≤ 23
 nodup : dupM [] p.1.flatten = false
 lanes : p.2.1.length ≤ 4 ∧ Qep p = none
 bells : p.2.2.1.length ≤ 4 ∧ Qee p = none
 plan : 1 ≤ p.2.2.2.1.length ∧ p.2.2.2.1.length ≤ 8
 slots : ∀ s ∈ p.2.2.2.1, isG p s.1 = true ∧ 1 ≤ s.2.1 ∧ s.2.1 ≤ 50
theorem Qen {n a b : Int} : inB n a b = true ↔ a ≤ n ∧ n ≤ b := by unfold inB; simp
theorem QlV {p : PolD} (h : polM p = 0) : OkPol p := by
 unfold polM at h
 split at h
 ·rename_i h'; exact absurd h h'
 rename_i h0
 have h0 : Qfg p.1 = 0 := by simpa using h0
 split at h
 case isFalse => cases h
 rename_i h4
 cases hl : Qep p with
 | some c => rw [hl] at h; exact absurd h (Qjv hl)
 | none =>
 rw [hl] at h
 dsimp only at h
 cases hb : Qee p with
 | some c => rw [hb] at h; exact absurd h (Qpb hb)
 | none =>
 rw [hb] at h
 dsimp only at h
 unfold Qfg at h0
 split at h0
 case isFalse => cases h0
 rename_i g1
 unfold QjJ at h
 split at h
 case isFalse => cases h
 rename_i g2
 cases ho : scan (fun (_ : Nat) l => Go.Proofs.YtajnommlfjfgpaaGreatDoor.own1 l) 0 p.1 with
 | some c =>
  rw [ho] at h0
  dsimp only at h0
  subst h0
  have : (0 : Int) ≠ 0 := Qdl (P := fun c => c ≠ 0) (fun j hj c hc => by
   unfold Go.Proofs.YtajnommlfjfgpaaGreatDoor.own1 at hc
   split at hc
   ·exact Qdl (P := fun c => c ≠ 0) (fun j hj c hc => by
     split at hc
     ·cases hc
     ·rw [← Option.some.inj hc]; decide) c hc
   ·rw [← Option.some.inj hc]; decide) _ ho
  exact absurd rfl this
 | none =>
  rw [ho] at h0
  dsimp only at h0
  have hd : dupM [] p.1.flatten = false := by
   split at h0
   ·cases h0
   ·rename_i h'; simpa using h'
  refine ⟨g1, ?_, hd, ⟨h4.1, hl⟩, ⟨h4.2, hb⟩, g2, ?_⟩
  ·intro l hl'
   obtain ⟨_, e⟩ := Qbn ho l hl'
   unfold Go.Proofs.YtajnommlfjfgpaaGreatDoor.own1 at e
   split at e
   ·rename_i g
    refine ⟨g.1, g.2, fun x hx => ?_⟩
    obtain ⟨_, e2⟩ := Qbn e x hx
    split at e2
    ·rename_i g3; exact Qen.1 g3
    ·cases e2
   ·cases e
  ·intro s hs
   cases hp : scan (fun (_ : Nat) (s : TwoD) => if isG p s.1 = true then (if inB s.2.1 1 50 = true then none else some (3 : Int)) else some 4) 0 p.2.2.2.1 with
   | some c =>
    rw [hp] at h
    dsimp only at h
    subst h
    have : (0 : Int) ≠ 0 := Qdl (P := fun c => c ≠ 0) (fun j hj c hc => by
     split at hc
     ·split at hc
      ·cases hc
      ·rw [← Option.some.inj hc]; decide
     ·rw [← Option.some.inj hc]; decide) _ hp
    exact absurd rfl this
   | none =>
    obtain ⟨_, e⟩ := Qbn hp s hs
    split at e
    ·rename_i g
     split at e
     ·rename_i g3; exact ⟨g, Qen.1 g3⟩
     ·cases e
    ·cases e
def Qqm (m : List TwoD) : Prop := m.length ≤ 8 ∧ ∀ s ∈ m, 1 ≤ s.2.1 ∧ s.2.1 ≤ 50
theorem OkPol.okPlan {p : PolD} (h : OkPol p) : Qqm p.2.2.2.1 := ⟨h.plan.2, fun s hs => (h.slots s hs).2⟩
def QC (g : Int) : List TwoD → Int
 | [] => 0
 | s :: r => (if g < 0 ∨ s.1 = g then s.2.1 else 0) + QC g r
theorem QcH {g : Int} : ∀ {m : List TwoD}, (∀ s ∈ m, 1 ≤ s.2.1 ∧ s.2.1 ≤ 50) → 0 ≤ QC g m ∧ QC g m ≤ 50 * (m.length : Int)
 | [], _ => by simp [QC]
 | s :: r, h => by
  have h1 := h s (by simp)
  have := QcH (g := g) (m := r) fun s hs => h s (List.mem_cons_of_mem _ hs)
  simp only [QC, List.length_cons]
  split <;> omega
theorem QpJ {α : Type} {m : List α} {i : Nat} {P : α → Prop} (h : ∀ s ∈ m, P s) : ∀ s ∈ m.drop i, P s := fun s hs => h s (List.mem_of_mem_drop hs)
theorem QnO (p : PolD) (g : Int) (h : Qqm p.2.2.2.1) : F_gm (p, g, ()) = some ((QC g p.2.2.2.1, ()), ()) := by
 obtain ⟨hl, hs⟩ := h
 have key := QcR (step := l_gm_3) (γ := denO o_gm_3) (fun k (a : Int) => ((g, a, p.2.2.2.1, ((p.2.2.2.1.length : Nat) : Int), ((k : Nat) : Int), ()), (), ())) p.2.2.2.1.length (Qae (by omega)) (fun k a => 0 ≤ a ∧ a ≤ 50 * (k : Int))
  (fun k a => some (.inl ((a + QC g (p.2.2.2.1.drop k), ()), (), ()))) ?_ 0 0 (by omega) (by omega)
 ·have e0 : ((0 : Nat) : Int) = 0 := rfl
  rw [e0] at key
  unfold F_gm
  show (Qd l_gm_3 lots ((g, 0, p.2.2.2.1, ((p.2.2.2.1.length : Nat) : Int), 0, ()), (), ())).bind _ = _
  rw [key, Option.bind_some]
  simp
 ·rintro rec k a hk ha ih
  unfold l_gm_3
  dsimp only
  by_cases hlt : k < p.2.2.2.1.length
  ·have hb := hs _ (List.getElem_mem hlt)
   rw [if_pos (lt_t hlt), if_pos nat0, Qs hlt, QZ (n := a + (p.2.2.2.1[k]).2.1) (by omega) (by omega), QO (by omega), QaB hlt]
   rw [show QC g (p.2.2.2.1[k] :: p.2.2.2.1.drop (k + 1)) = (if g < 0 ∨ (p.2.2.2.1[k]).1 = g then (p.2.2.2.1[k]).2.1 else 0) + QC g (p.2.2.2.1.drop (k + 1)) from rfl]
   by_cases hg : g < 0
   ·rw [if_neg (by rw [QaN]; omega), ih _ hlt (by omega), if_pos (.inl hg), Int.add_assoc]
   ·rw [if_pos (by rw [QaN]; omega)]
    by_cases hg2 : (p.2.2.2.1[k]).1 = g
    ·rw [if_pos (by simpa using hg2), ih _ hlt (by omega), if_pos (.inr hg2), Int.add_assoc]
    ·rw [if_neg (by simpa using hg2), ih _ hlt (by omega), if_neg (by omega), Int.zero_add]
  ·rw [if_neg (lt_f hlt), QaS hlt]
   simp [QC]
abbrev QH := PolD × List Int × List QK × Int × Int × Int × Unit
theorem Qgp {γ : Type} {m : List Int} {z : Int} (n : Nat) (hz : z.toNat = n) (h : n < m.length) (K : Int → Option γ) : (m[z.toNat]?).bind K = K (m.getD n 0) := by
 rw [hz, List.getElem?_eq_getElem h, Option.bind_some, List.getD_eq_getElem?_getD, List.getElem?_eq_getElem h]
 rfl
theorem QgB (n : Int) : F_e (n, ()) = some ((okW n, ()), ()) := by
 unfold F_e
 rw [QbM, Option.bind_some]
 rfl
theorem Qon {α : Type} {p : α → Bool} : ∀ (m : List α), m.any (fun y => !p y) = !m.all p
 | [] => rfl
 | x :: r => by simp only [List.any_cons, List.all_cons, Qon r, Bool.not_and]
theorem Qch (m : List Int) (hm : m.length ≤ 1048576) : F_f (m, ()) = some ((allW m, ()), ()) := by
 have key := QQ (step := l_f_2) (γ := denO o_f_2) (fun i => ((m, ((i : Nat) : Int), ()), (), ())) m (fun _ y => if okW y = true then none else some ())
  (fun _ => some (.inr (.inl ((false, ()), (), ())))) (some (.inl ((), (), ()))) (QaD hm) ?_ ?_
 ·have e0 : ((0 : Nat) : Int) = 0 := rfl
  rw [e0] at key
  have := QdC (f := fun (_ : Nat) y => if okW y = true then none else some ()) (p := fun y => !okW y) (m := m) (i := 0) (fun j hj => by cases okW m[j] <;> rfl)
  rw [Qon] at this
  have e : allW m = !(scan (fun (_ : Nat) y => if okW y = true then none else some ()) 0 m).isSome := by rw [this, Bool.not_not]; rfl
  unfold F_f
  show (Qd l_f_2 lots ((m, 0, ()), (), ())).bind _ = _
  rw [key, e]
  cases scan (fun (_ : Nat) y => if okW y = true then none else some ()) 0 m <;> rfl
 ·intro rec i h
  unfold l_f_2
  dsimp only
  rw [if_pos (lt_t h), if_pos nat0, Qs h, QgB, Option.bind_some, QO (lt1 h hm)]
  cases okW m[i] <;> rfl
 ·intro rec
  unfold l_f_2
  dsimp only
  rw [if_neg Qau]
def hartM (h : QK) : Int :=
 if h.1.length = 16 ∧ h.2.2.1.length = 11 ∧ h.1.getD 0 0 = 0 then
  (if allW h.1 = true ∧ okW h.2.1 = true ∧ allW h.2.2.1 = true ∧ allW h.2.2.2.2.2.2.2.1 = true ∧ allW h.2.2.2.2.2.2.2.2.1 = true then
   (if h.2.2.2.2.2.2.2.1.length ≤ 40 ∧ h.2.2.2.2.2.2.2.2.1.length ≤ 40 then
    (if inB h.2.2.2.2.2.2.1 0 1000000000 = true then
     (if h.2.2.1.getD 0 0 ≤ 3 ∧ h.2.2.1.getD 7 0 ≤ 7 ∧ h.2.2.1.getD 10 0 ≤ 8 ∧ h.2.2.1.getD 6 0 = 0 ∧ h.2.2.1.getD 8 0 = 0 then 0 else 1) else 3) else 2) else 3) else 1
theorem Qhk (h : QK) (hl : Qal 1048576 h) : F_ce (h, ()) = some ((hartM h, ()), ()) := by
 obtain ⟨l1, l2, l3, l4⟩ := hl
 unfold F_ce hartM
 dsimp only
 by_cases a1 : h.1.length = 16
 case neg =>
  have : ¬ ((h.1.length : Nat) : Int) = 16 := by omega
  simp [a1, this]
 rw [if_pos (by rw [a1]; rfl)]
 by_cases a2 : h.2.2.1.length = 11
 case neg =>
  have : ¬ ((h.2.2.1.length : Nat) : Int) = 11 := by omega
  simp [a2, this]
 rw [if_pos (by rw [a2]; rfl), Qgp (z := 0) 0 rfl (by omega)]
 by_cases a3 : h.1.getD 0 0 = 0
 case neg => rw [if_pos (by simpa using a3), if_neg (fun g => a3 g.2.2)]
 have hA : h.1.length = 16 ∧ h.2.2.1.length = 11 ∧ h.1.getD 0 0 = 0 := ⟨a1, a2, a3⟩
 rw [if_neg (by simpa using a3), if_pos hA, Qch _ l1, QgB, Qch _ l2, Qch _ l3, Qch _ l4]
 simp only [Option.bind_some]
 cases b1 : allW h.1
 ·simp
 cases b2 : okW h.2.1
 ·simp
 cases b3 : allW h.2.2.1
 ·simp
 cases b4 : allW h.2.2.2.2.2.2.2.1
 ·simp
 cases b5 : allW h.2.2.2.2.2.2.2.2.1
 ·simp
 simp only [Bool.not_true, and_self, if_true, Bool.false_eq_true, if_false]
 by_cases c1 : h.2.2.2.2.2.2.2.1.length ≤ 40
 case neg => rw [if_neg (by rw [QaN]; omega), if_neg (fun g => c1 g.1)]
 rw [if_pos (by rw [QaN]; omega)]
 by_cases c2 : h.2.2.2.2.2.2.2.2.1.length ≤ 40
 case neg => rw [if_pos (by rw [QS]; omega), if_neg (fun g => c2 g.2)]
 have hC : h.2.2.2.2.2.2.2.1.length ≤ 40 ∧ h.2.2.2.2.2.2.2.2.1.length ≤ 40 := ⟨c1, c2⟩
 rw [if_neg (by rw [QS]; omega), if_pos hC, QbN, Option.bind_some]
 dsimp only
 cases b6 : inB h.2.2.2.2.2.2.1 0 1000000000
 ·simp
 rw [if_neg (by simp), if_pos rfl, Qgp (z := 0) 0 rfl (by omega)]
 by_cases d1 : h.2.2.1.getD 0 0 ≤ 3
 case neg => rw [if_neg (by rw [QaN]; exact fun g => g (Int.not_le.1 d1)), if_neg (fun g => d1 g.1)]
 rw [if_pos (by rw [QaN]; exact Int.not_lt.2 d1), Qgp (z := 7) 7 rfl (by omega)]
 by_cases d2 : h.2.2.1.getD 7 0 ≤ 7
 case neg => rw [if_neg (by rw [QaN]; exact fun g => g (Int.not_le.1 d2)), if_neg (fun g => d2 g.2.1)]
 rw [if_pos (by rw [QaN]; exact Int.not_lt.2 d2), Qgp (z := 10) 10 rfl (by omega)]
 by_cases d3 : h.2.2.1.getD 10 0 ≤ 8
 case neg => rw [if_neg (by rw [QaN]; exact fun g => g (Int.not_le.1 d3)), if_neg (fun g => d3 g.2.2.1)]
 rw [if_pos (by rw [QaN]; exact Int.not_lt.2 d3), Qgp (z := 6) 6 rfl (by omega)]
 by_cases d4 : h.2.2.1.getD 6 0 = 0
 case neg => rw [if_neg (by simpa using d4), if_neg (fun g => d4 g.2.2.2.1)]
 rw [if_pos (by simpa using d4), Qgp (z := 8) 8 rfl (by omega)]
 by_cases d5 : h.2.2.1.getD 8 0 = 0
 case neg => rw [if_pos (by simpa using d5), if_neg (fun g => d5 g.2.2.2.2)]
 have hD : h.2.2.1.getD 0 0 ≤ 3 ∧ h.2.2.1.getD 7 0 ≤ 7 ∧ h.2.2.1.getD 10 0 ≤ 8 ∧ h.2.2.1.getD 6 0 = 0 ∧ h.2.2.1.getD 8 0 = 0 := ⟨d1, d2, d3, d4, d5⟩
 rw [if_neg (by simpa using d5), if_pos hD]
theorem QlF (h : QK) (hl : Qal 1048576 h) : F_ah (h, ()) = some ((hartM h, ()), ()) := by
 rw [← Qhk h hl]
 obtain ⟨l1, l2, l3, l4⟩ := hl
 unfold F_ah F_ce
 rw [Qbt _ (leM l1), Qjt, Qbt _ (leM l2), Qbt _ (leM l3), Qbt _ (leM l4), Qan]
 rw [Qch _ l1, QgB, Qch _ l2, Qch _ l3, Qch _ l4, QbN]
def Qz : Nat → List TwoD → Int → Nat × Int × Int
 | k, [], at_ => (k, at_, 0)
 | k, s :: r, at_ => if s.2.1 ≤ at_ then Qz (k + 1) r (at_ - s.2.1) else (k, at_, s.2.1 - at_)
theorem QaR : ∀ {m : List TwoD} {k : Nat} {a : Int}, (∀ s ∈ m, 1 ≤ s.2.1 ∧ s.2.1 ≤ 50) → 0 ≤ a → a < QC (-1) m →
  k ≤ (Qz k m a).1 ∧ ∃ s, m[(Qz k m a).1 - k]? = some s ∧ (Qz k m a).2.2 = s.2.1 - (Qz k m a).2.1 ∧ 0 ≤ (Qz k m a).2.1 ∧ (Qz k m a).2.1 < s.2.1
 | [], k, a, _, h0, h1 => by simp [QC] at h1; omega
 | s :: r, k, a, hs, h0, h1 => by
  simp only [QC] at h1
  rw [if_pos (.inl (by decide))] at h1
  simp only [Qz]
  by_cases h : s.2.1 ≤ a
  ·rw [if_pos h]
   obtain ⟨g0, q, g1, g2⟩ := QaR (m := r) (k := k + 1) (a := a - s.2.1) (fun s hs' => hs s (List.mem_cons_of_mem _ hs')) (by omega) (by omega)
   refine ⟨by omega, q, ?_, g2⟩
   have e : (Qz (k + 1) r (a - s.2.1)).1 - k = ((Qz (k + 1) r (a - s.2.1)).1 - (k + 1)) + 1 := by omega
   rw [e, List.getElem?_cons_succ]
   exact g1
  ·rw [if_neg h]
   exact ⟨Nat.le_refl _, s, by simp, rfl, h0, by show a < s.2.1; omega⟩
def Qbh (p : PolD) (clock : Int) : Int × Int := let e := Qz 0 p.2.2.2.1 (clock % QC (-1) p.2.2.2.1); ((e.1 : Int), e.2.2)
theorem QcZ {m : List TwoD} (h : ∀ s ∈ m, 1 ≤ s.2.1 ∧ s.2.1 ≤ 50) (hl : 1 ≤ m.length) : 1 ≤ QC (-1) m := by
 cases m with
 | nil => simp at hl
 | cons s r =>
  have := QcH (g := -1) (m := r) fun s hs => h s (List.mem_cons_of_mem _ hs)
  have := h s (by simp)
  simp only [QC]
  rw [if_pos (.inl (by decide))]
  omega
theorem Qmz {a b : Int} (h : 0 ≤ a) : a.tmod b = a % b := by
 rw [Int.tmod_eq_emod_of_nonneg h]
theorem Qka {γ : Type} {p : PolD} (hok : OkPol p) {step : ((PolD × Int × Int × Unit) × Unit × Unit → Option (((PolD × Int × Int × Unit) × Unit × Unit) ⊕ γ)) → (PolD × Int × Int × Unit) × Unit × Unit → Option (((PolD × Int × Int × Unit) × Unit × Unit) ⊕ γ)}
  (hstep : ∀ rec p a i, step rec ((p, a, i, ()), (), ()) = if 0 ≤ i then (p.2.2.2.1[i.toNat]?).bind fun y => if leI y.2.1 a = true then (if 0 ≤ i then (p.2.2.2.1[i.toNat]?).bind fun y =>
   rec ((p, IntKind.i64.wrap (a - y.2.1), IntKind.i64.wrap (i + 1), ()), (), ()) else none) else some (.inl ((p, a, i, ()), (), ())) else none)
  (a : Int) (h0 : 0 ≤ a) (h1 : a < QC (-1) p.2.2.2.1) : Qd step lots ((p, a, 0, ()), (), ()) = some (.inl ((p, (Qz 0 p.2.2.2.1 a).2.1, ((Qz 0 p.2.2.2.1 a).1 : Int), ()), (), ())) := by
 obtain ⟨hl, hs⟩ := hok.okPlan
 have key := QcR (step := step) (fun k (a : Int) => ((p, a, ((k : Nat) : Int), ()), (), ())) p.2.2.2.1.length (Qae (by omega)) (fun k a => 0 ≤ a ∧ a < QC (-1) (p.2.2.2.1.drop k))
  (fun k a => some (.inl ((p, (Qz k (p.2.2.2.1.drop k) a).2.1, ((Qz k (p.2.2.2.1.drop k) a).1 : Int), ()), (), ()))) ?_ 0 a (by omega) ⟨h0, by simpa using h1⟩
 ·exact key
 ·rintro rec k a hk ⟨g0, g1⟩ ih
  by_cases hlt : k < p.2.2.2.1.length
  ·have hb := hs _ (List.getElem_mem hlt)
   have hle := (QcH (g := -1) (QpJ (i := k) hs)).2
   rw [List.length_drop] at hle
   rw [hstep, if_pos nat0, Qs hlt, if_pos nat0, Qs hlt, QO (by omega), QZ (n := a - (p.2.2.2.1[k]).2.1) (by omega) (by omega)]
   rw [QaB hlt] at g1
   simp only [QC] at g1
   rw [if_pos (.inl (by decide))] at g1
   by_cases h : (p.2.2.2.1[k]).2.1 ≤ a
   ·have e : Qz k (p.2.2.2.1.drop k) a = Qz (k + 1) (p.2.2.2.1.drop (k + 1)) (a - (p.2.2.2.1[k]).2.1) := by
     rw [QaB hlt]; simp only [Qz]; rw [if_pos h]
    rw [if_pos (QaX.2 h), e]
    exact ih _ hlt ⟨by omega, by omega⟩
   ·have e : Qz k (p.2.2.2.1.drop k) a = (k, a, (p.2.2.2.1[k]).2.1 - a) := by
     rw [QaB hlt]; simp only [Qz]; rw [if_neg h]
    rw [if_neg (by rw [QaX]; exact h), e]
  ·rw [QaS hlt] at g1
   simp [QC] at g1
   omega
theorem QlM (p : PolD) (clock : Int) (hok : OkPol p) (h0 : 0 ≤ clock) : F_gn (p, clock, ()) = some (((Qbh p clock).1, (Qbh p clock).2, ()), ()) := by
 obtain ⟨hl, hs⟩ := hok.okPlan
 have hpos := QcZ hs hok.plan.1
 have hle := (QcH (g := -1) hs).2
 unfold F_gn
 dsimp only
 rw [QnO p (-1) hok.okPlan, Option.bind_some]
 dsimp only
 have a0 : 0 ≤ clock % QC (-1) p.2.2.2.1 := Int.emod_nonneg _ (by omega)
 have a1 : clock % QC (-1) p.2.2.2.1 < QC (-1) p.2.2.2.1 := Int.emod_lt_of_pos _ (by omega)
 have hne : ¬ QC (-1) p.2.2.2.1 = 0 := by omega
 rw [if_neg hne, Qmz h0]
 show (Qd l_gn_3 lots ((p, clock % QC (-1) p.2.2.2.1, 0, ()), (), ())).bind _ = _
 rw [Qka hok (step := l_gn_3) (fun _ _ _ _ => rfl) _ a0 a1, Option.bind_some]
 dsimp only
 obtain ⟨_, s, g1, g2, g3, g4⟩ := QaR (k := 0) hs a0 a1
 rw [Nat.sub_zero] at g1
 have hb := hs s (List.mem_of_getElem? g1)
 rw [if_pos nat0, Int.toNat_natCast, g1, Option.bind_some, QZ (by omega) (by omega), ← g2]
 rfl
theorem Qmr (p : PolD) (clock : Int) (hok : OkPol p) (h0 : 0 ≤ clock) : F_fd (p, clock, ()) = some (((Qbh p clock).1, (Qbh p clock).2, ()), ()) := by
 obtain ⟨hl, hs⟩ := hok.okPlan
 have hpos := QcZ hs hok.plan.1
 have hle := (QcH (g := -1) hs).2
 have a0 : 0 ≤ clock % QC (-1) p.2.2.2.1 := Int.emod_nonneg _ (by omega)
 have a1 : clock % QC (-1) p.2.2.2.1 < QC (-1) p.2.2.2.1 := Int.emod_lt_of_pos _ (by omega)
 have key := QcR (step := l_fd_3) (γ := denO o_fd_3) (fun k (a : Int) => ((p, clock, a, ((k : Nat) : Int), ()), (), ())) p.2.2.2.1.length (Qae (by omega)) (fun k a => 0 ≤ a ∧ a ≤ 50 * (k : Int))
  (fun k a => some (.inl ((p, clock, a + QC (-1) (p.2.2.2.1.drop k), ()), (), ()))) ?_ 0 0 (by omega) (by omega)
 ·have e0 : ((0 : Nat) : Int) = 0 := rfl
  rw [e0, List.drop_zero, Int.zero_add] at key
  unfold F_fd
  show (Qd l_fd_3 lots ((p, clock, 0, 0, ()), (), ())).bind _ = _
  rw [key, Option.bind_some]
  dsimp only
  have hne : ¬ QC (-1) p.2.2.2.1 = 0 := by omega
  rw [if_neg hne, Qmz h0]
  show (Qd l_fd_8 lots ((p, clock % QC (-1) p.2.2.2.1, 0, ()), (), ())).bind _ = _
  rw [Qka hok (step := l_fd_8) (fun _ _ _ _ => rfl) _ a0 a1, Option.bind_some]
  dsimp only
  obtain ⟨_, s, g1, g2, g3, g4⟩ := QaR (k := 0) hs a0 a1
  rw [Nat.sub_zero] at g1
  have hb := hs s (List.mem_of_getElem? g1)
  rw [if_pos nat0, Int.toNat_natCast, g1, Option.bind_some, QZ (by omega) (by omega), ← g2]
  rfl
 ·rintro rec k a hk ha ih
  unfold l_fd_3
  dsimp only
  by_cases hlt : k < p.2.2.2.1.length
  ·have hb := hs _ (List.getElem_mem hlt)
   rw [if_pos (lt_t hlt), if_pos nat0, Qs hlt, QZ (n := a + (p.2.2.2.1[k]).2.1) (by omega) (by omega), QO (by omega), QaB hlt]
   rw [show QC (-1) (p.2.2.2.1[k] :: p.2.2.2.1.drop (k + 1)) = (p.2.2.2.1[k]).2.1 + QC (-1) (p.2.2.2.1.drop (k + 1)) from by simp only [QC]; rw [if_pos (.inl (by decide))], ← Int.add_assoc]
   exact ih _ hlt (by omega)
  ·rw [if_neg (lt_f hlt), QaS hlt]
   simp [QC]
def Qbp (n : Nat) (x : QH) : Prop := Qhh n x.1 ∧ x.2.1.length ≤ n ∧ x.2.2.1.length ≤ n ∧ ∀ h ∈ x.2.2.1, Qal n h
def Qgy (m : List QK) : Option Int := scan (fun (_ : Nat) h => nz (hartM h)) 0 m
def Qay (x : QH) : Int :=
 if polM x.1 ≠ 0 then polM x.1
 else if (QT x.2.1 = 0 ∧ x.2.1.length = 192) ∧ x.2.2.1.length = x.1.1.length then
  (match Qgy x.2.2.1 with
   | some c => c
   | none => if inB x.2.2.2.2.2.1 0 1000000 = true then (if x.2.2.2.1 = (Qbh x.1 x.2.2.2.2.2.1).1 ∧ x.2.2.2.2.1 = (Qbh x.1 x.2.2.2.2.2.1).2 then 0 else 1) else 3)
 else 1
theorem QkU (m : List Int) (h : m.length ≤ 1048576) : F_fc (m, ()) = some ((decide (QT m = 0 ∧ m.length = 192), ()), ()) := by
 unfold F_fc
 rw [QkR m (leM h), Option.bind_some]
 dsimp only
 by_cases h0 : QT m = 0
 ·rw [if_pos (by simpa using h0)]
  by_cases h1 : m.length = 192
  ·simp [h0, h1]
  ·have : ¬ ((m.length : Nat) : Int) = 192 := by omega
   simp [h0, h1, this]
 ·rw [if_neg (by simpa using h0)]
  simp [h0]
theorem QkE (m : List Int) (h : m.length ≤ 1048576) : F_gl (m, ()) = some ((decide (QT m = 0 ∧ m.length = 192), ()), ()) := by
 unfold F_gl
 rw [QkA m (leM h), Option.bind_some]
 dsimp only
 by_cases h0 : QT m = 0
 ·rw [if_pos (by simpa using h0)]
  by_cases h1 : m.length = 192
  ·simp [h0, h1]
  ·have : ¬ ((m.length : Nat) : Int) = 192 := by omega
   simp [h0, h1, this]
 ·rw [if_neg (by simpa using h0)]
  simp [h0]
theorem Qhl (x : QH) (h : Qbp 1048576 x) : F_fe (x, ()) = some ((Qay x, ()), ()) := by
 obtain ⟨hp, h1, h2, h3⟩ := h
 have key := QQ (step := l_fe_7) (γ := denO o_fe_7) (fun i => ((x, ((i : Nat) : Int), ()), (), ())) x.2.2.1 (fun (_ : Nat) h => nz (hartM h))
  (fun c => some (.inr (.inl ((c, ()), (), ())))) (some (.inl ((x, ()), (), ()))) (QaD h2) ?_ ?_
 ·have e0 : ((0 : Nat) : Int) = 0 := rfl
  rw [e0] at key
  unfold F_fe Qay
  dsimp only
  rw [QnH x.1 hp, Option.bind_some]
  dsimp only
  by_cases g0 : polM x.1 = 0
  case neg => rw [if_pos (by simpa using g0), if_pos g0]
  have n0 : ¬ polM x.1 ≠ 0 := by simpa using g0
  have hG : ∀ P : Prop, ¬ P → ¬ (P ∧ x.2.2.1.length = x.1.1.length) := fun P h g => h g.1
  rw [if_neg (by simpa using g0), if_neg n0, QkU _ h1, Option.bind_some]
  dsimp only
  by_cases g1 : QT x.2.1 = 0 ∧ x.2.1.length = 192
  case neg => rw [if_neg (by simpa using g1), if_neg (hG _ g1)]
  rw [if_pos (by simpa using g1)]
  by_cases g2 : x.2.2.1.length = x.1.1.length
  case neg =>
   have : ¬ ((x.2.2.1.length : Nat) : Int) = ((x.1.1.length : Nat) : Int) := by omega
   rw [if_pos (by simpa using this), if_neg (fun g : (QT x.2.1 = 0 ∧ x.2.1.length = 192) ∧ x.2.2.1.length = x.1.1.length => g2 g.2)]
  have hH : (QT x.2.1 = 0 ∧ x.2.1.length = 192) ∧ x.2.2.1.length = x.1.1.length := ⟨g1, g2⟩
  rw [if_neg (by rw [g2]; simp), if_pos hH]
  show (Qd l_fe_7 lots ((x, 0, ()), (), ())).bind _ = _
  rw [key]
  unfold Qgy
  cases scan (fun (_ : Nat) h => nz (hartM h)) 0 x.2.2.1 with
  | some c => rfl
  | none =>
   rw [Option.bind_some]
   dsimp only
   rw [QbN, Option.bind_some]
   dsimp only
   cases g3 : inB x.2.2.2.2.2.1 0 1000000
   ·simp
   ·rw [if_neg (by simp), if_pos rfl, Qmr x.1 _ (QlV g0) (Qen.1 g3).1, Option.bind_some]
    dsimp only
    by_cases g4 : x.2.2.2.1 = (Qbh x.1 x.2.2.2.2.2.1).1
    ·by_cases g5 : x.2.2.2.2.1 = (Qbh x.1 x.2.2.2.2.2.1).2
     ·rw [if_pos (by simpa using g4), if_neg (by simpa using g5), if_pos ⟨g4, g5⟩]
     ·rw [if_pos (by simpa using g4), if_pos (by simpa using g5), if_neg (fun h => g5 h.2)]
    ·rw [if_neg (by simpa using g4), if_neg (fun h => g4 h.1)]
 ·intro rec i hi
  unfold l_fe_7
  dsimp only
  rw [if_pos (lt_t hi), if_pos nat0, Qs hi, Qhk _ (h3 _ (List.getElem_mem hi)), Option.bind_some, QO (lt1 hi h2)]
  dsimp only
  unfold nz
  by_cases g : hartM x.2.2.1[i] = 0
  ·rw [if_neg (by simpa using g), if_neg (by simpa using g)]
  ·rw [if_pos (by simpa using g), if_pos (by simpa using g)]
 ·intro rec
  unfold l_fe_7
  dsimp only
  rw [if_neg Qau]
end Go.Proofs.YtajnommlfjfgpaaGreatDoor
