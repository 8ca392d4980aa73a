/- Plain laws: what the functions compute, and that both programs compute the same. -/
import Derived.Test.YtmoninjbahccoaaGreatDoorGa3
namespace Go.Proofs.YtmoninjbahccoaaGreatDoor
open Go Go.RowKit S Go.Proofs
set_option maxRecDepth 100000
set_option linter.unusedVariables false
set_option linter.unusedSimpArgs false
def okW (w : Int) : Bool := decide (w ≥ 0) && decide (w ≤ 4294967295)
def allW (m : List Int) : Bool := m.all okW
theorem Qpc (n a b : Int) : F_e (n, a, b, ()) = some ((decide (n ≥ a) && decide (n ≤ b), ()), ()) := by
 unfold F_e
 simp only [Qbo, Qbd, decide_eq_true_eq, ge_iff_le, gt_iff_lt]
 split
 ·rename_i h; simp [h]
 ·rename_i h; simp [h]
theorem QaT (n a b : Int) : F_z (n, a, b, ()) = some ((decide (n ≥ a) && decide (n ≤ b), ()), ()) := by
 unfold F_z
 simp only [Qbo, Qbd, decide_eq_true_eq, ge_iff_le, gt_iff_lt]
 split
 ·rename_i h; simp [h]
 ·rename_i h; simp [h]
theorem Qkj (n : Int) : F_ba (n, ()) = some ((okW n, ()), ()) := by
 unfold F_ba
 rw [QaT, Obn]
 rfl
theorem Qli (n : Int) : F_bb_1 (n, ()) = some ((!okW n, ()), ()) := by
 unfold F_bb_1
 rw [Qkj, Obn]
theorem QpG {y : Int} {r : List Int} : allW (y :: r) = (okW y && allW r) := rfl
theorem QoF (m : List Int) (i : Int) (h0 : 0 ≤ i) (h1 : i ≤ (m.length : Int)) (h3 : m.length ≤ maxLen) :
  (allW (m.drop i.toNat) = true ∧ L_bd_2 ((m, (), ((m.length : Nat) : Int), i, ()), (), ()) = some (.inl ((), (), ()))) ∨
  (allW (m.drop i.toNat) = false ∧ ∃ k : Int, 0 ≤ k ∧ L_bd_2 ((m, (), ((m.length : Nat) : Int), i, ()), (), ()) = some (.inr (.inl ((k, ()), (), ())))) := by
 have key : ∀ (n : Nat) (i : Int), (m.length - i).toNat < n → 0 ≤ i → i ≤ (m.length : Int) →
   (allW (m.drop i.toNat) = true ∧ Qc l_bd_2 n ((m, (), ((m.length : Nat) : Int), i, ()), (), ()) = some (.inl ((), (), ()))) ∨
   (allW (m.drop i.toNat) = false ∧ ∃ k : Int, 0 ≤ k ∧ Qc l_bd_2 n ((m, (), ((m.length : Nat) : Int), i, ()), (), ()) = some (.inr (.inl ((k, ()), (), ())))) := by
  intro n
  induction n with
  | zero => intro i h; omega
  | succ n ih =>
   intro i hm h0 h1
   simp only [Qc]
   generalize Qc l_bd_2 n = rec at ih ⊢
   unfold l_bd_2
   simp only [Qbo, Qbd, decide_eq_true_eq, ge_iff_le, gt_iff_lt]
   by_cases hlt : i < (m.length : Int)
   ·obtain ⟨y, hy, _, hd⟩ := Qri h0 hlt
    rw [if_pos hlt, if_pos h0, hy, Obn, Qli, Obn, Qsu h0 hlt h3, hd, QpG]
    cases hw : okW y with
    | true => simpa using ih (i + 1) (by omega) (by omega) (by omega)
    | false => exact .inr ⟨by simp, i, h0, by simp⟩
   ·rw [if_neg hlt, Qii hlt]
    exact .inl ⟨rfl, rfl⟩
 exact key lots i (by rw [QcH] at h3; rw [QK]; omega) h0 h1
theorem QaY (m : List Int) (h : m.length ≤ maxLen) : F_bb (m, ()) = some ((allW m, ()), ()) := by
 unfold F_bb F_be_1 F_bc_1
 simp only
 rcases QoF m 0 (by simp) (by simp) h with ⟨h1, h2⟩ | ⟨h1, k, h2, h3⟩
 ·simp only [Int.toNat_zero, List.drop_zero] at h1
  rw [h2, h1]; rfl
 ·simp only [Int.toNat_zero, List.drop_zero] at h1
  rw [h3, h1]
  simp [h2, Qbd]
def QN (m : List Int) : Int := if m.length % 8 = 0 ∧ 8 ≤ m.length ∧ m.length ≤ 192 then (if allW m = true then 0 else 3) else 1
theorem Qlq (m : List Int) (h : m.length ≤ maxLen) : F_bz (m, ()) = some ((QN m, ()), ()) := by
 unfold F_bz QN
 rw [QaY m h]
 simp only [Obn, Qbo, Qbd, beq_eq_false_iff_ne, decide_eq_false_iff_not, bne_iff_ne]
 have e : ((m.length : Nat) : Int).tmod 8 = ((m.length % 8 : Nat) : Int) := rfl
 rw [e]
 by_cases h1 : ((m.length : Nat) : Int) ≠ 0
 ·rw [if_pos h1]
  by_cases h2 : ¬ ((m.length : Nat) : Int) > 192
  ·rw [if_pos h2]
   by_cases h3 : ((m.length % 8 : Nat) : Int) ≠ 0
   ·rw [if_pos h3, if_neg (by omega)]
   ·have hc : m.length % 8 = 0 ∧ 8 ≤ m.length ∧ m.length ≤ 192 := by omega
    rw [if_neg h3, if_pos hc]
    cases allW m <;> rfl
  ·rw [if_neg h2, if_neg (by omega)]
 ·rw [if_neg h1, if_neg (by omega)]
theorem QjD (m m2 : List Int) (i : Int) (h0 : 0 ≤ i) (h1 : i ≤ (m.length : Int)) (h2 : m2.length = m.length) (h3 : m.length ≤ maxLen) :
  L_cq_4 ((m, m2, ((m.length : Nat) : Int), i, ()), (), ()) = some (if m.drop i.toNat = m2.drop i.toNat then .inl ((), (), ()) else .inr (.inl ((false, ()), (), ()))) := by
 refine QmN (γ := denO o_f_2) (step := l_cq_4) (β := Int) (fun i => ((m, m2, ((m.length : Nat) : Int), i, ()), (), ())) (fun i => 0 ≤ i ∧ i ≤ (m.length : Int)) (fun i => some (if m.drop i.toNat = m2.drop i.toNat then .inl ((), (), ()) else .inr (.inl ((false, ()), (), ()))))
  (fun i => (m.length - i).toNat) ?_ lots _ ⟨h0, h1⟩ (by rw [QcH] at h3; rw [QK]; omega)
 rintro rec i ⟨h0, h1⟩ ih
 simp only at h0 h1 ih ⊢
 unfold l_cq_4
 simp only [Qbo, decide_eq_true_eq]
 by_cases hlt : i < (m.length : Int)
 ·obtain ⟨y, hy, _, hd⟩ := Qri h0 hlt
  obtain ⟨z, hz, _, hd2⟩ := Qri (m := m2) h0 (by omega)
  rw [if_pos hlt, if_pos h0, hy, Obn, if_pos h0, hz, Obn, Qsu h0 hlt h3, hd, hd2]
  by_cases e : y = z
  ·subst e
   rw [if_neg (by simp), ih _ ⟨by omega, by omega⟩ (by omega)]
   simp
  ·rw [if_pos (by simpa using e)]
   simp [e]
 ·rw [if_neg hlt, Qii hlt, Qii (by omega)]
  simp
theorem Qah (x : denP P_co) (h : x.1.length ≤ maxLen) : F_cq x = some ((decide (x.1 = x.2.1), ()), ()) := by
 obtain ⟨m, m2, _⟩ := x
 unfold F_cq
 simp only at h ⊢
 by_cases e : m.length = m2.length
 ·have e' : ((m.length : Nat) : Int) = (m2.length : Nat) := by omega
  rw [if_neg (by simp; exact e'), QjD m m2 0 (by simp) (by simp) e.symm h]
  simp only [Int.toNat_zero, List.drop_zero]
  by_cases e2 : m = m2
  ·simp [e2]
  ·simp [e2]
 ·have e' : ¬ ((m.length : Nat) : Int) = (m2.length : Nat) := by omega
  rw [if_pos (by simp; exact e')]
  have : m ≠ m2 := fun e2 => e (by rw [e2])
  simp [this]
abbrev QY := den (.pair (.slice (.int .i64)) (.pair (.int .i64) (.pair (.slice (.int .i64)) (.pair .bool (.pair .bool (.pair .bool (.pair (.int .i64) (.pair (.slice (.int .i64)) (.pair (.slice (.int .i64)) .unit)))))))))
abbrev QtQ := QY × List Int × List Int × Unit
def QcS (n : Nat) (h : QY) : Prop := h.1.length ≤ n ∧ h.2.2.1.length ≤ n ∧ h.2.2.2.2.2.2.2.1.length ≤ n ∧ h.2.2.2.2.2.2.2.2.1.length ≤ n
def QlQ (n : Nat) (v : QtQ) : Prop := QcS n v.1 ∧ v.2.1.length ≤ n ∧ v.2.2.1.length ≤ n
theorem Qrz (x : denP P_cr) (h : QcS maxLen x.1) : ∃ b, True ∧ F_cr x = some ((b, ()), ()) := by
 obtain ⟨h1, h2, h3, h4⟩ := h
 unfold F_cr
 rw [Qah (x.1.1, x.2.1.1, ()) h1, Qah (x.1.2.2.1, x.2.1.2.2.1, ()) h2, Qah (x.1.2.2.2.2.2.2.2.1, x.2.1.2.2.2.2.2.2.2.1, ()) h3, Qah (x.1.2.2.2.2.2.2.2.2.1, x.2.1.2.2.2.2.2.2.2.2.1, ()) h4]
 simp only [Obn]
 repeat' split
 all_goals exact ⟨_, trivial, rfl⟩
theorem QsG (x : denP P_cs) (h : QlQ maxLen x.1) : ∃ b, True ∧ F_cs x = some ((b, ()), ()) := by
 obtain ⟨h1, h2, h3⟩ := h
 obtain ⟨b, _, e2⟩ := Qrz (x.1.1, x.2.1.1, ()) h1
 unfold F_cs
 rw [e2, Qah (x.1.2.1, x.2.1.2.1, ()) h2, Qah (x.1.2.2.1, x.2.1.2.2.1, ()) h3]
 simp only [Obn]
 repeat' split
 all_goals exact ⟨_, trivial, rfl⟩
theorem leM {n : Nat} (h : n ≤ 1048576) : n ≤ maxLen := by rw [QcH]; omega
theorem Qkz (m : List Int) (p : Nat) (h : 8 * p + 8 ≤ m.length) (h2 : m.length ≤ 192) : F_cn (m, (p : Int), ()) = some (((m.drop (8 * p)).take 8, ()), ()) := by
 unfold F_cn F_av
 simp only
 rw [Qu (n := (p : Int) * 8) (by omega) (by omega), Qu (n := (p : Int) + 1) (by omega) (by omega), Qu (n := ((p : Int) + 1) * 8) (by omega) (by omega)]
 rw [if_pos ⟨by omega, by omega, by omega⟩]
 have e1 : ((p : Int) * 8).toNat = 8 * p := by omega
 have e2 : (((p : Int) + 1) * 8).toNat - 8 * p = 8 := by omega
 rw [e1, e2, if_pos (by simp; omega), Obn]
 simp
theorem QbR (x y : Int) : F_cf ([x, y], ()) = some ((if x ≠ 0 then x else y, ()), ()) := by
 have key : L_cf_2 (([x, y], 2, 0, ()), (), ()) = some (if x ≠ 0 then .inr (.inl ((x, ()), (), ())) else if y ≠ 0 then .inr (.inl ((y, ()), (), ())) else .inl ((), (), ())) := by
  have e : lots = (18446744073709551613 + 1) + 1 + 1 := rfl
  show Qc l_cf_2 lots _ = _
  rw [e]
  generalize 18446744073709551613 = n
  have w1 : IntKind.i64.wrap ((0 : Int) + 1) = 1 := Qu (by omega) (by omega)
  have w2 : IntKind.i64.wrap ((1 : Int) + 1) = 2 := Qu (by omega) (by omega)
  have s3 : Qc l_cf_2 (n + 1) (([x, y], 2, 2, ()), (), ()) = some (.inl ((), (), ())) := by
   simp only [Qc]
   generalize Qc l_cf_2 n = rec
   unfold l_cf_2
   simp [Qbo]
  have s2 : Qc l_cf_2 (n + 1 + 1) (([x, y], 2, 1, ()), (), ()) = some (if y ≠ 0 then .inr (.inl ((y, ()), (), ())) else .inl ((), (), ())) := by
   rw [show Qc l_cf_2 (n + 1 + 1) (([x, y], 2, 1, ()), (), ()) = l_cf_2 (Qc l_cf_2 (n + 1)) (([x, y], 2, 1, ()), (), ()) from rfl]
   generalize Qc l_cf_2 (n + 1) = rec at s3 ⊢
   unfold l_cf_2
   simp only [Qbo]
   rw [if_pos (by decide), if_pos (by decide)]
   show (some y).bind _ = _
   rw [Obn, w2, s3]
   by_cases h : y = 0
   ·subst h; simp
   ·rw [if_pos (by simp; exact h)]; simp [h]
  rw [show Qc l_cf_2 (n + 1 + 1 + 1) (([x, y], 2, 0, ()), (), ()) = l_cf_2 (Qc l_cf_2 (n + 1 + 1)) (([x, y], 2, 0, ()), (), ()) from rfl]
  generalize Qc l_cf_2 (n + 1 + 1) = rec at s2 ⊢
  unfold l_cf_2
  simp only [Qbo]
  rw [if_pos (by decide), if_pos (by decide)]
  show (some x).bind _ = _
  rw [Obn, w1, s2]
  by_cases h : x = 0
  ·subst h; simp
  ·rw [if_pos (by simp; exact h)]; simp [h]
 unfold F_cf
 simp only
 show (L_cf_2 (([x, y], 2, 0, ()), (), ())).bind _ = _
 rw [key, Obn]
 by_cases h : x = 0
 ·subst h
  by_cases h2 : y = 0
  ·subst h2; simp
  ·simp [h2]
 ·simp [h]
theorem QfC {m : List Int} (h : QN m = 0) : m.length % 8 = 0 ∧ 8 ≤ m.length ∧ m.length ≤ 192 := by
 unfold QN at h
 split at h
 ·assumption
 ·omega
theorem QgE {X γ σ : Type} {step : (X → Option γ) → X → Option γ} (emb : Nat → σ → X) (N : Nat) (hN : N < lots) (I : Nat → σ → Prop) (out : Nat → σ → Option γ)
  (h : ∀ rec i s, i ≤ N → I i s → (∀ s', i < N → I (i + 1) s' → rec (emb (i + 1) s') = out (i + 1) s') → step rec (emb i s) = out i s) :
  ∀ i s, i ≤ N → I i s → Qc step lots (emb i s) = out i s := by
 have key : ∀ n i s, N - i < n → i ≤ N → I i s → Qc step n (emb i s) = out i s := by
  intro n
  induction n with
  | zero => intro i s h; omega
  | succ n ih =>
   intro i s hn hi hI
   simp only [Qc]
   exact h _ i s hi hI fun s' hlt hI' => ih (i + 1) s' (by omega) (by omega) hI'
 intro i s hi hI
 exact key lots i s (by omega) hi hI
theorem Qbf {n : Nat} (h : n ≤ 9223372036854775807) : n < lots := by rw [QK]; omega
theorem QW {i : Nat} (h : i < 9223372036854775807) : IntKind.i64.wrap ((i : Int) + 1) = ((i + 1 : Nat) : Int) := by rw [Qu (by omega) (by omega)]; rfl
theorem nat0 {i : Nat} : (0 : Int) ≤ (i : Int) := Int.natCast_nonneg i
theorem Qr {α γ : Type} {m : List α} {i : Nat} (h : i < m.length) (K : α → Option γ) : (m[((i : Nat) : Int).toNat]?).bind K = K m[i] := by
 rw [Int.toNat_natCast, List.getElem?_eq_getElem h, Obn]
theorem Qba {α : Type} {m : List α} {i : Nat} (h : i < m.length) : m.drop i = m[i] :: m.drop (i + 1) := List.drop_eq_getElem_cons h
theorem Qce {α : Type} {m : List α} {i : Nat} (h : ¬ i < m.length) : m.drop i = [] := List.drop_of_length_le (by omega)
theorem ltN {a b : Nat} : ltI (a : Int) (b : Int) = decide (a < b) := by
 rw [Qbo]; by_cases h : a < b
 ·have : (a : Int) < b := by omega
  simp [h, this]
 ·have : ¬ (a : Int) < b := by omega
  simp [h, this]
theorem QM {a b : Int} : ltI a b = true ↔ a < b := by rw [Qbo]; simp
theorem QbH {a b : Int} : leI a b = true ↔ a ≤ b := by rw [Qbd]; simp
theorem Qbn {a b : Int} : ltI a b = false ↔ ¬ a < b := by rw [Qbo]; simp
def scan {α β : Type} (f : Nat → α → Option β) : Nat → List α → Option β
 | _, [] => none
 | i, x :: r => match f i x with
  | some c => some c
  | none => scan f (i + 1) r
theorem Qak {X α γ β : Type} {step : (X → Option γ) → X → Option γ} (emb : Nat → X) (m : List α) (f : Nat → α → Option β) (bad : β → Option γ) (done : Option γ) (hm : m.length ≤ 9223372036854775807)
  (h1 : ∀ rec i (h : i < m.length), step rec (emb i) = match f i m[i] with | some c => bad c | none => rec (emb (i + 1)))
  (h2 : ∀ rec, step rec (emb m.length) = done) : Qc step lots (emb 0) = match scan f 0 m with | some c => bad c | none => done := by
 have key := QgE (step := step) (fun i (_ : Unit) => emb i) m.length (Qbf hm) (fun _ _ => True) (fun i _ => match scan f i (m.drop i) with | some c => bad c | none => done) ?_ 0 () (by omega) trivial
 ·simpa using key
 ·intro rec i _ hi _ ih
  by_cases hlt : i < m.length
  ·rw [h1 rec i hlt, Qba hlt]
   simp only [scan]
   cases hf : f i m[i] with
   | some c => rfl
   | none => exact ih () hlt trivial
  ·have : i = m.length := by omega
   subst this
   rw [h2, List.drop_length]
   rfl
theorem QgM {α β : Type} {f : Nat → α → Option β} {p : α → Bool} : ∀ {m : List α} {i : Nat}, (∀ j (h : j < m.length), (f (i + j) m[j]).isSome = p m[j]) → (scan f i m).isSome = m.any p
 | [], _, _ => rfl
 | x :: r, i, h => by
  have h0 := h 0 (by simp)
  simp only [Nat.add_zero, List.getElem_cons_zero] at h0
  have := QgM (f := f) (p := p) (m := r) (i := i + 1) fun j hj => by
   have := h (j + 1) (by simpa using hj)
   simpa [Nat.add_assoc, Nat.add_comm, Nat.add_left_comm] using this
  simp only [scan, List.any_cons, ← h0, ← this]
  cases f i x <;> rfl
theorem lt_t {i n : Nat} (h : i < n) : ltI (i : Int) (n : Int) = true := by rw [ltN]; simpa using h
theorem lt_f {i n : Nat} (h : ¬ i < n) : ¬ ltI (i : Int) (n : Int) = true := by rw [ltN]; simpa using h
theorem QaP {n : Nat} : ¬ ltI (n : Int) (n : Int) = true := lt_f (Nat.lt_irrefl n)
theorem lt1 {α : Type} {i : Nat} {m : List α} (h : i < m.length) (hm : m.length ≤ 1048576) : i < 9223372036854775807 := by omega
theorem Quo {X γ : Type} (step : (X → Option γ) → X → Option γ) (n : Nat) (x : X) : Qc step (n + 1) x = step (Qc step n) x := rfl
theorem QuT : lots = 18446744073709551613 + 1 + 1 + 1 := rfl
abbrev QA := Int × Int × Int × Int × Int × Unit
abbrev TwoD := Int × Int × Unit
abbrev PolD := List (List Int) × List QA × List TwoD × List TwoD × Unit
def Qnc (n : Nat) (p : PolD) : Prop := (p.1.length ≤ n ∧ ∀ l ∈ p.1, l.length ≤ n) ∧ p.2.1.length ≤ n ∧ p.2.2.1.length ≤ n ∧ p.2.2.2.1.length ≤ n
theorem QbI {n : Nat} (h : n ≤ 1048576) : n ≤ 9223372036854775807 := by omega
theorem QcE {α β : Type} {f : Nat → α → Option β} {P : β → Prop} : ∀ {m : List α} {i : Nat}, (∀ j (h : j < m.length) c, f (i + j) m[j] = some c → P c) → ∀ c, scan f i m = some c → P c
 | [], _, _, c, h => by simp [scan] at h
 | x :: r, i, h, c, hc => by
  have h0 := h 0 (by simp)
  simp only [Nat.add_zero, List.getElem_cons_zero] at h0
  simp only [scan] at hc
  split at hc
  ·rename_i d hd
   obtain rfl := Osj hc
   exact h0 _ hd
  ·exact QcE (m := r) (i := i + 1) (fun j hj c' hc' => h (j + 1) (by simpa using hj) c' (by simpa [Nat.add_assoc, Nat.add_comm, Nat.add_left_comm] using hc')) c hc
theorem QmO (m : List Int) (v : Int) (hm : m.length ≤ 1048576) : F_f (m, v, ()) = some ((m.contains v, ()), ()) := by
 have key := Qak (step := l_f_2) (γ := denO o_f_2) (fun i => ((m, v, ((i : Nat) : Int), ()), (), ())) m (fun _ y => if (y == v) = true then some () else none) (fun _ => some (.inr (.inl ((true, ()), (), ())))) (some (.inl ((), (), ()))) (QbI hm) ?_ ?_
 ·unfold F_f
  show (Qc l_f_2 lots ((m, v, ((0 : Nat) : Int), ()), (), ())).bind _ = _
  rw [key]
  have := QgM (f := fun (_ : Nat) y => if (y == v) = true then some () else none) (p := fun y => y == v) (m := m) (i := 0) (fun j hj => by cases m[j] == v <;> rfl)
  have e : m.any (fun y => y == v) = m.contains v := by
   rw [Bool.eq_iff_iff, List.any_eq_true, List.contains_iff_mem]
   exact ⟨fun ⟨y, hy, e⟩ => by rw [← beq_iff_eq.1 e]; exact hy, fun h => ⟨v, h, by simp⟩⟩
  rw [e] at this
  rw [← this]
  cases scan (fun (_ : Nat) y => if (y == v) = true then some () else none) 0 m <;> rfl
 ·intro rec i h
  unfold l_f_2
  dsimp only
  rw [if_pos (lt_t h), if_pos nat0, Qr h, QW (lt1 h hm)]
  cases m[i] == v <;> rfl
 ·intro rec
  unfold l_f_2
  dsimp only
  rw [if_neg QaP]
def isG (p : PolD) (g : Int) : Bool := decide (g ≥ 0) && decide (g ≤ (p.1.length : Int) - 1)
theorem QiD (p : PolD) (g : Int) (h : p.1.length ≤ 1048576) : F_h (p, g, ()) = some ((isG p g, ()), ()) := by
 unfold F_h isG
 dsimp only
 rw [Qu (by omega) (by omega), Qpc, Obn]
theorem QbU (p : PolD) (g : Int) (h : p.1.length ≤ 1048576) : F_ab (p, g, ()) = some ((isG p g, ()), ()) := by
 unfold F_ab isG
 dsimp only
 rw [Qu (by omega) (by omega), QaT, Obn]
def Qcu (p : PolD) (a b : Int) : Int := if isG p a = true then (if isG p b = true then (if a = b then 1 else 0) else 4) else 4
theorem QsW (p : PolD) (a b : Int) (h : p.1.length ≤ 1048576) : F_i (p, a, b, ()) = some ((Qcu p a b, ()), ()) := by
 unfold F_i Qcu
 rw [QiD p a h, QiD p b h]
 simp only [Obn]
 cases isG p a <;> cases isG p b <;> by_cases e : a = b <;> simp [e]
theorem Qpf (p : PolD) (a b : Int) (h : p.1.length ≤ 1048576) : F_ac (p, a, b, ()) = some ((Qcu p a b, ()), ()) := by
 unfold F_ac Qcu
 rw [QbU p a h, QbU p b h]
 simp only [Obn]
 cases isG p a <;> cases isG p b <;> by_cases e : a = b <;> simp [e]
def QhR : Option Int → Int
 | some c => c
 | none => -1
def QeO (own : List (List Int)) (page : Int) : Int := QhR (scan (fun i (l : List Int) => if l.contains page = true then some ((i : Nat) : Int) else none) 0 own)
theorem Qsg (p : PolD) (page : Int) (h : p.1.length ≤ 1048576) (h2 : ∀ l ∈ p.1, l.length ≤ 1048576) : F_j (p, page, ()) = some ((QeO p.1 page, ()), ()) := by
 have key := Qak (step := l_j_2) (γ := denO o_j_2) (fun i => ((p, page, ((i : Nat) : Int), ()), (), ())) p.1 (fun i (l : List Int) => if l.contains page = true then some ((i : Nat) : Int) else none)
  (fun c => some (.inr (.inl ((c, ()), (), ())))) (some (.inl ((), (), ()))) (QbI h) ?_ ?_
 ·unfold F_j QeO
  show (Qc l_j_2 lots ((p, page, ((0 : Nat) : Int), ()), (), ())).bind _ = _
  rw [key]
  cases scan (fun i (l : List Int) => if l.contains page = true then some ((i : Nat) : Int) else none) 0 p.1 <;> rfl
 ·intro rec i hi
  unfold l_j_2
  dsimp only
  rw [if_pos (lt_t hi), if_pos nat0, Qr hi, QW (lt1 hi h), QmO _ _ (h2 _ (List.getElem_mem hi)), Obn]
  dsimp only
  cases (p.1[i]).contains page <;> rfl
 ·intro rec
  unfold l_j_2
  dsimp only
  rw [if_neg QaP]
theorem Qtz {α : Type} {P : Nat → α → Bool} {m : List α} {c : Int} (h : scan (fun i y => if P i y = true then some ((i : Nat) : Int) else none) 0 m = some c) : 0 ≤ c := by
 refine QcE (P := fun c => 0 ≤ c) ?_ c h
 intro j hj c hc
 split at hc
 ·obtain rfl := Osj hc; omega
 ·cases hc
theorem Qdn {α : Type} {P : α → Bool} {m : List α} {f : Nat → α → Option Int} (hf : ∀ i y, f i y = if P y = true then some ((i : Nat) : Int) else none) : leI 0 (QhR (scan f 0 m)) = m.any P := by
 have e : f = fun i y => if P y = true then some ((i : Nat) : Int) else none := by funext i y; exact hf i y
 subst e
 have h1 := QgM (f := fun i y => if P y = true then some ((i : Nat) : Int) else none) (p := P) (m := m) (i := 0) (fun j hj => by cases P m[j] <;> rfl)
 rw [← h1, Qbd]
 cases hs : scan (fun i y => if P y = true then some ((i : Nat) : Int) else none) 0 m with
 | none => rfl
 | some c => have := Qtz (P := fun _ y => P y) hs; simp [QhR, this]
theorem QrF (m : List Int) (v : Int) (hm : m.length ≤ 1048576) : F_ad (m, v, ()) = some ((QhR (scan (fun i y => if (v == y) = true then some ((i : Nat) : Int) else none) 0 m), ()), ()) := by
 have key := Qak (step := l_ad_2) (γ := denO o_j_2) (fun i => ((m, v, ((m.length : Nat) : Int), ((i : Nat) : Int), ()), (), ())) m (fun i y => if (v == y) = true then some ((i : Nat) : Int) else none)
  (fun c => some (.inr (.inl ((c, ()), (), ())))) (some (.inl ((), (), ()))) (QbI hm) ?_ ?_
 ·unfold F_ad
  show (Qc l_ad_2 lots ((m, v, ((m.length : Nat) : Int), ((0 : Nat) : Int), ()), (), ())).bind _ = _
  rw [key]
  cases scan (fun i y => if (v == y) = true then some ((i : Nat) : Int) else none) 0 m <;> rfl
 ·intro rec i hi
  unfold l_ad_2
  dsimp only
  rw [if_pos (lt_t hi), if_pos nat0, Qr hi, QW (lt1 hi hm)]
  cases v == m[i] <;> rfl
 ·intro rec
  unfold l_ad_2
  dsimp only
  rw [if_neg QaP]
theorem Qlg (m : List Int) (v : Int) : m.any (fun y => v == y) = m.contains v := by
 rw [Bool.eq_iff_iff, List.any_eq_true, List.contains_iff_mem]
 exact ⟨fun ⟨y, hy, e⟩ => by rw [beq_iff_eq.1 e]; exact hy, fun h => ⟨v, h, by simp⟩⟩
theorem Qey (m : List Int) (v : Int) (hm : m.length ≤ 1048576) : F_ae (m, v, ()) = some ((m.contains v, ()), ()) := by
 unfold F_ae
 rw [QrF m v hm, Obn]
 dsimp only
 rw [Qdn (P := fun y => v == y) (fun _ _ => rfl), Qlg]
theorem Qls (p : PolD) (page : Int) (h : p.1.length ≤ 1048576) (h2 : ∀ l ∈ p.1, l.length ≤ 1048576) : F_af (p, page, ()) = some ((QeO p.1 page, ()), ()) := by
 have key := Qak (step := l_ah_2) (γ := denO o_j_2) (fun i => ((p.1, (page, ()), ((p.1.length : Nat) : Int), ((i : Nat) : Int), ()), (), ())) p.1
  (fun i (l : List Int) => if l.contains page = true then some ((i : Nat) : Int) else none) (fun c => some (.inr (.inl ((c, ()), (), ())))) (some (.inl ((), (), ()))) (QbI h) ?_ ?_
 ·unfold F_af QeO F_ag_1
  show ((Qc l_ah_2 lots ((p.1, (page, ()), ((p.1.length : Nat) : Int), ((0 : Nat) : Int), ()), (), ())).bind _).bind _ = _
  rw [key]
  cases scan (fun i (l : List Int) => if l.contains page = true then some ((i : Nat) : Int) else none) 0 p.1 <;> rfl
 ·intro rec i hi
  unfold l_ah_2
  dsimp only
  rw [if_pos (lt_t hi), if_pos nat0, Qr hi, QW (lt1 hi h)]
  unfold F_af_1
  rw [Qey _ _ (h2 _ (List.getElem_mem hi)), Obn, Obn]
  dsimp only
  cases (p.1[i]).contains page <;> rfl
 ·intro rec
  unfold l_ah_2
  dsimp only
  rw [if_neg QaP]
def Qbc (l : QA) (g page : Int) : Bool := (l.1 == g && l.2.2.2.1 == page) || (l.2.1 == g && l.2.2.2.2.1 == page)
theorem Qpd (l : QA) (g page : Int) : F_k (l, g, page, ()) = some ((Qbc l g page, ()), ()) := by
 unfold F_k Qbc
 cases l.1 == g <;> cases l.2.2.2.1 == page <;> cases l.2.1 == g <;> rfl
theorem Qpt (l : QA) (g page : Int) : F_ai (l, g, page, ()) = some ((Qbc l g page, ()), ()) := by
 unfold F_ai Qbc
 cases l.1 == g <;> cases l.2.2.2.1 == page <;> cases l.2.1 == g <;> rfl
def clash (l o : QA) : Bool := o.2.2.1 == l.2.2.1 || (Qbc o l.1 l.2.2.2.1 || Qbc o l.2.1 l.2.2.2.2.1)
def inB (n a b : Int) : Bool := decide (n ≥ a) && decide (n ≤ b)
theorem Qaq (n a b : Int) : F_z (n, a, b, ()) = some ((inB n a b, ()), ()) := QaT n a b
theorem Qcg (n a b : Int) : F_e (n, a, b, ()) = some ((inB n a b, ()), ()) := Qpc n a b
def QdG (p : PolD) (l : QA) (ahead : List QA) : Int :=
 if Qcu p l.1 l.2.1 ≠ 0 then Qcu p l.1 l.2.1
 else if inB l.2.2.1 0 23 = true ∧ inB l.2.2.2.1 5 6 = true ∧ inB l.2.2.2.2.1 5 6 = true then
  (if leI 0 (QeO p.1 l.2.2.1) = true then 6 else if ahead.any (clash l) = true then 6 else 0) else 3
theorem QrM (l o : QA) : F_aj_1 (o, l, ()) = some ((clash l o, ()), ()) := by
 unfold F_aj_1 clash
 dsimp only
 rw [Qpt, Qpt]
 simp only [Obn]
 cases o.2.2.1 == l.2.2.1 <;> cases Qbc o l.1 l.2.2.2.1 <;> rfl
theorem QmQ (l : QA) (m : List QA) (hm : m.length ≤ 1048576) : F_am_1 (m, (l, ()), ()) = some ((m.any (clash l), ()), ()) := by
 have key := Qak (step := l_al_2) (γ := denO o_j_2) (fun i => ((m, (l, ()), ((m.length : Nat) : Int), ((i : Nat) : Int), ()), (), ())) m
  (fun i o => if clash l o = true then some ((i : Nat) : Int) else none) (fun c => some (.inr (.inl ((c, ()), (), ())))) (some (.inl ((), (), ()))) (QbI hm) ?_ ?_
 ·unfold F_am_1 F_ak_1
  show ((Qc l_al_2 lots ((m, (l, ()), ((m.length : Nat) : Int), ((0 : Nat) : Int), ()), (), ())).bind _).bind _ = _
  rw [key, ← Qdn (P := clash l) (m := m) (f := fun i o => if clash l o = true then some ((i : Nat) : Int) else none) (fun _ _ => rfl)]
  cases scan (fun i o => if clash l o = true then some ((i : Nat) : Int) else none) 0 m <;> rfl
 ·intro rec i hi
  unfold l_al_2
  dsimp only
  rw [if_pos (lt_t hi), if_pos nat0, Qr hi, QW (lt1 hi hm), QrM, Obn]
  dsimp only
  cases clash l m[i] <;> rfl
 ·intro rec
  unfold l_al_2
  dsimp only
  rw [if_neg QaP]
theorem Qly (p : PolD) (l : QA) (ahead : List QA) (h : p.1.length ≤ 1048576) (h2 : ∀ l ∈ p.1, l.length ≤ 1048576) (hm : ahead.length ≤ 1048576) : F_aj (p, l, ahead, ()) = some ((QdG p l ahead, ()), ()) := by
 unfold F_aj QdG
 dsimp only
 rw [Qpf p _ _ h, Qaq, Qaq, Qaq, Qls p _ h h2, QmQ l ahead hm]
 simp only [Obn]
 by_cases h0 : Qcu p l.1 l.2.1 = 0
 ·rw [h0]
  cases b1 : inB l.2.2.1 0 23 <;> cases b2 : inB l.2.2.2.1 5 6 <;> cases b3 : inB l.2.2.2.2.1 5 6 <;> cases b4 : leI 0 (QeO p.1 l.2.2.1) <;> cases b5 : ahead.any (clash l) <;> simp
 ·simp [h0]
def nz (c : Int) : Option Int := if c ≠ 0 then some c else none
def QbF (p : PolD) : Option Int := scan (fun i l => nz (QdG p l (p.2.1.take i))) 0 p.2.1
theorem QlL (p : PolD) (i : Nat) (hi : i < p.2.1.length) (hm : p.2.1.length ≤ 1048576) (l : QA) (a1 : Int) (a2 a3 : Bool) (a4 : Int) (a5 a6 : Bool) :
  (((p.2.1.take i).any (clash l) = true ∧ Qc l_l_15 lots ((p, (i : Int), (), 0, (), a1, a2, a3, (), a4, a5, a6, ()), ((l.1, l.2.1, l.2.2.1, l.2.2.2.1, l.2.2.2.2.1, ()), ()), ()) = some (.inr (.inl ((6, ()), (), ())))) ∨
   ((p.2.1.take i).any (clash l) = false ∧ ∃ x, Qc l_l_15 lots ((p, (i : Int), (), 0, (), a1, a2, a3, (), a4, a5, a6, ()), ((l.1, l.2.1, l.2.2.1, l.2.2.2.1, l.2.2.2.2.1, ()), ()), ()) = some (.inl x) ∧ x.1.1 = p ∧ x.1.2.1 = (i : Int))) := by
 have hl : (p.2.1.take i).length = i := by simp; omega
 obtain ⟨x, hx, hx1, hx2⟩ : ∃ x, (∀ rec, l_l_15 rec ((p, (i : Int), (), (i : Int), (), a1, a2, a3, (), a4, a5, a6, ()), ((l.1, l.2.1, l.2.2.1, l.2.2.2.1, l.2.2.2.2.1, ()), ()), ()) = some (.inl x)) ∧ x.1.1 = p ∧ x.1.2.1 = (i : Int) := by
  refine ⟨((p, (i : Int), (), a1, a2, a3, (), a4, a5, a6, ()), ((l.1, l.2.1, l.2.2.1, l.2.2.2.1, l.2.2.2.2.1, ()), ()), ()), fun rec => ?_, rfl, rfl⟩
  unfold l_l_15
  dsimp only
  rw [if_neg QaP]
 have key := Qak (step := l_l_15) (γ := denO o_l_15) (fun k => ((p, (i : Int), (), ((k : Nat) : Int), (), a1, a2, a3, (), a4, a5, a6, ()), ((l.1, l.2.1, l.2.2.1, l.2.2.2.1, l.2.2.2.2.1, ()), ()), ())) (p.2.1.take i)
  (fun _ o => if clash l o = true then some () else none) (fun _ => some (.inr (.inl ((6, ()), (), ())))) (some (.inl x)) (QbI (by omega)) ?_ ?_
 ·have h1 := QgM (f := fun (_ : Nat) o => if clash l o = true then some () else none) (p := clash l) (m := p.2.1.take i) (i := 0) (fun j hj => by cases clash l (p.2.1.take i)[j] <;> rfl)
  have e0 : ((0 : Nat) : Int) = 0 := rfl
  rw [e0] at key
  rw [key, ← h1]
  cases scan (fun (_ : Nat) o => if clash l o = true then some () else none) 0 (p.2.1.take i) with
  | some c => exact .inl ⟨rfl, rfl⟩
  | none => exact .inr ⟨rfl, x, rfl, hx1, hx2⟩
 ·intro rec k hk
  have hk' : k < i := by omega
  unfold l_l_15
  dsimp only
  rw [if_pos (lt_t hk'), if_pos nat0, Qr (by omega), QW (by omega), Qpd, Qpd, List.getElem_take]
  simp only [Obn, clash]
  rcases Bool.eq_false_or_eq_true ((p.2.1[k]).2.2.1 == l.2.2.1) with c1 | c1 <;> rcases Bool.eq_false_or_eq_true (Qbc p.2.1[k] l.1 l.2.2.2.1) with c2 | c2 <;> rcases Bool.eq_false_or_eq_true (Qbc p.2.1[k] l.2.1 l.2.2.2.2.1) with c3 | c3 <;> simp [c1, c2, c3]
 ·intro rec
  rw [hl]
  exact hx rec
theorem QlM (p : PolD) (h : p.1.length ≤ 1048576) (h2 : ∀ l ∈ p.1, l.length ≤ 1048576) (hm : p.2.1.length ≤ 1048576) :
  F_l (p, ()) = some ((if p.2.1.length ≤ 4 ∧ p.2.2.1.length ≤ 4 then (match QbF p with | some c => c | none => 0) else 2, ()), ()) := by
 have key := Qak (step := l_l_4) (γ := denO o_l_4) (fun i => ((p, ((i : Nat) : Int), ()), (), ())) p.2.1 (fun i l => nz (QdG p l (p.2.1.take i)))
  (fun c => some (.inr (.inl ((c, ()), (), ())))) (some (.inl ((), (), ()))) (QbI hm) ?_ ?_
 ·have e0 : ((0 : Nat) : Int) = 0 := rfl
  rw [e0] at key
  unfold F_l QbF
  dsimp only
  by_cases h1 : p.2.1.length ≤ 4
  ·rw [if_pos (by rw [Qbn]; omega)]
   by_cases h3 : p.2.2.1.length ≤ 4
   ·rw [if_neg (by rw [QM]; omega), if_pos ⟨h1, h3⟩]
    show (Qc l_l_4 lots ((p, 0, ()), (), ())).bind _ = _
    rw [key]
    cases scan (fun i l => nz (QdG p l (p.2.1.take i))) 0 p.2.1 <;> rfl
   ·rw [if_pos (by rw [QM]; omega), if_neg (by omega)]
  ·rw [if_neg (by rw [Qbn]; omega), if_neg (by omega)]
 ·intro rec i hi
  unfold l_l_4
  dsimp only
  rw [if_pos (lt_t hi), if_pos nat0, Qr hi, QsW p _ _ h, Qcg, Qcg, Qcg, Qsg p _ h h2]
  simp only [Obn]
  generalize p.2.1[i] = l
  unfold QdG
  by_cases h0 : Qcu p l.1 l.2.1 = 0
  ·rw [h0]
   cases b1 : inB l.2.2.1 0 23
   ·simp [nz]
   cases b2 : inB l.2.2.2.1 5 6
   ·simp [nz]
   cases b3 : inB l.2.2.2.2.1 5 6
   ·simp [nz]
   cases b4 : leI 0 (QeO p.1 l.2.2.1)
   ·rw [if_neg (by simp), if_pos (by simp), if_pos (by simp), if_neg (by simp), if_neg (by simp), if_neg (by simp), if_pos (by simp), if_neg (by simp)]
    rcases QlL p i hi hm l l.2.2.2.1 true (!true) l.2.2.2.2.1 true (!true) with ⟨g1, g2⟩ | ⟨g1, x, g2, g3, g4⟩
    ·show (Qc l_l_15 lots ((p, (i : Int), (), 0, (), l.2.2.2.1, true, (!true), (), l.2.2.2.2.1, true, (!true), ()), ((l.1, l.2.1, l.2.2.1, l.2.2.2.1, l.2.2.2.2.1, ()), ()), ())).bind _ = _
     rw [g1, g2]
     rfl
    ·show (Qc l_l_15 lots ((p, (i : Int), (), 0, (), l.2.2.2.1, true, (!true), (), l.2.2.2.2.1, true, (!true), ()), ((l.1, l.2.1, l.2.2.1, l.2.2.2.1, l.2.2.2.2.1, ()), ()), ())).bind _ = _
     rw [g1, g2, Obn]
     dsimp only
     rw [g3, g4, QW (lt1 hi hm)]
     rfl
   ·simp [nz]
  ·simp [h0, nz]
 ·intro rec
  unfold l_l_4
  dsimp only
  rw [if_neg QaP]
def Qde (b o : TwoD) : Bool := (b.1 == o.1) && ((b.2.1 == o.2.1) && true)
def Qht (p : PolD) (b : TwoD) (ahead : List TwoD) : Int := if Qcu p b.1 b.2.1 ≠ 0 then Qcu p b.1 b.2.1 else if ahead.any (Qde b) = true then 6 else 0
def QfT (p : PolD) : Option Int := scan (fun i b => nz (Qht p b (p.2.2.1.take i))) 0 p.2.2.1
def QkB (p : PolD) : Int := if 1 ≤ p.2.2.2.1.length ∧ p.2.2.2.1.length ≤ 8 then
 (match scan (fun (_ : Nat) (s : TwoD) => if isG p s.1 = true then (if inB s.2.1 1 50 = true then none else some (3 : Int)) else some 4) 0 p.2.2.2.1 with | some c => c | none => 0) else 2
theorem Qex (b : TwoD) (m : List TwoD) (hm : m.length ≤ 1048576) : F_ao (m, b, ()) = some ((m.any (Qde b), ()), ()) := by
 have key := Qak (step := l_an_2) (γ := denO o_j_2) (fun i => ((m, (), ((m.length : Nat) : Int), ((i : Nat) : Int), ()), ((b.1, b.2.1, ()), ()), ())) m
  (fun i o => if Qde b o = true then some ((i : Nat) : Int) else none) (fun c => some (.inr (.inl ((c, ()), (), ())))) (some (.inl ((), (), ()))) (QbI hm) ?_ ?_
 ·unfold F_ao F_an
  show ((Qc l_an_2 lots ((m, (), ((m.length : Nat) : Int), ((0 : Nat) : Int), ()), ((b.1, b.2.1, ()), ()), ())).bind _).bind _ = _
  rw [key, ← Qdn (P := Qde b) (m := m) (f := fun i o => if Qde b o = true then some ((i : Nat) : Int) else none) (fun _ _ => rfl)]
  cases scan (fun i o => if Qde b o = true then some ((i : Nat) : Int) else none) 0 m <;> rfl
 ·intro rec i hi
  unfold l_an_2
  dsimp only
  rw [if_pos (lt_t hi), if_pos nat0, Qr hi, QW (lt1 hi hm)]
  show (if Qde b m[i] = true then _ else _) = _
  cases Qde b m[i] <;> rfl
 ·intro rec
  unfold l_an_2
  dsimp only
  rw [if_neg QaP]
theorem Qlj (p : PolD) (b : TwoD) (ahead : List TwoD) (h : p.1.length ≤ 1048576) (hm : ahead.length ≤ 1048576) : F_ap (p, b, ahead, ()) = some ((Qht p b ahead, ()), ()) := by
 unfold F_ap Qht
 dsimp only
 rw [Qpf p _ _ h, Qex b ahead hm]
 simp only [Obn]
 by_cases h0 : Qcu p b.1 b.2.1 = 0
 ·rw [h0]
  cases ahead.any (Qde b) <;> simp
 ·simp [h0]
theorem QmE (p : PolD) (h : p.1.length ≤ 1048576) (hm : p.2.2.2.1.length ≤ 1048576) : F_aq (p, ()) = some ((QkB p, ()), ()) := by
 have key := Qak (step := l_aq_4) (γ := denO o_l_4) (fun i => ((p, p.2.2.2.1, ((p.2.2.2.1.length : Nat) : Int), ((i : Nat) : Int), ()), (), ())) p.2.2.2.1
  (fun (_ : Nat) (s : TwoD) => if isG p s.1 = true then (if inB s.2.1 1 50 = true then none else some (3 : Int)) else some 4) (fun c => some (.inr (.inl ((c, ()), (), ())))) (some (.inl ((), (), ()))) (QbI hm) ?_ ?_
 ·have e0 : ((0 : Nat) : Int) = 0 := rfl
  rw [e0] at key
  unfold F_aq QkB
  dsimp only
  rw [Qaq, Obn]
  by_cases g : 1 ≤ p.2.2.2.1.length ∧ p.2.2.2.1.length ≤ 8
  ·have : inB ((p.2.2.2.1.length : Nat) : Int) 1 8 = true := by unfold inB; simp; omega
   rw [this, if_neg (by simp), if_pos g]
   show (Qc l_aq_4 lots ((p, p.2.2.2.1, ((p.2.2.2.1.length : Nat) : Int), 0, ()), (), ())).bind _ = _
   rw [key]
   cases scan (fun (_ : Nat) (s : TwoD) => if isG p s.1 = true then (if inB s.2.1 1 50 = true then none else some (3 : Int)) else some 4) 0 p.2.2.2.1 <;> rfl
  ·have : inB ((p.2.2.2.1.length : Nat) : Int) 1 8 = false := by unfold inB; simp; omega
   rw [this, if_pos (by simp), if_neg g]
 ·intro rec i hi
  unfold l_aq_4
  dsimp only
  rw [if_pos (lt_t hi), if_pos nat0, Qr hi, QbU p _ h, Obn, Qaq, Obn, QW (lt1 hi hm)]
  cases b1 : isG p (p.2.2.2.1[i]).1
  ·simp
  ·cases b2 : inB (p.2.2.2.1[i]).2.1 1 50 <;> simp
 ·intro rec
  unfold l_aq_4
  dsimp only
  rw [if_neg QaP]
def own1 (l : List Int) : Option Int := if 1 ≤ l.length ∧ l.length ≤ 5 then scan (fun (_ : Nat) x => if inB x 0 23 = true then none else some (3 : Int)) 0 l else some 2
def dupM : List Int → List Int → Bool
 | _, [] => false
 | seen, x :: r => seen.contains x || dupM (seen ++ [x]) r
def QdO (own : List (List Int)) : Int := if 1 ≤ own.length ∧ own.length ≤ 3 then (match scan (fun (_ : Nat) l => own1 l) 0 own with | some c => c | none => if dupM [] own.flatten = true then 6 else 0) else 2
theorem Qnl {T : Type} (p : PolD) (i : Nat) (hi : i < p.1.length) (hl : (p.1[i]).length ≤ 1048576) (a1 a2 : PolD) (b1 b2 : List (List Int)) (c : Int) (d1 d2 : List Int) (e1 : Int) (e2 : Bool) :
  ((scan (fun (_ : Nat) x => if inB x 0 23 = true then none else some (3 : Int)) 0 p.1[i] = none ∧ ∃ x, Qc l_g_9 lots ((p, (i : Int), 0, a1, a2, b1, b2, c, d1, d2, e1, e2, ()), (), ()) = some (.inl x) ∧ x.1.1 = p ∧ x.1.2.1 = (i : Int)) ∨
   (scan (fun (_ : Nat) x => if inB x 0 23 = true then none else some (3 : Int)) 0 p.1[i] = some 3 ∧ Qc l_g_9 lots ((p, (i : Int), 0, a1, a2, b1, b2, c, d1, d2, e1, e2, ()), (), ()) = some (.inr (.inl ((3, ()), (), ()))))) := by
 have key := Qak (step := l_g_9) (γ := denO o_g_9) (fun k => ((p, (i : Int), ((k : Nat) : Int), a1, a2, b1, b2, c, d1, d2, e1, e2, ()), (), ())) p.1[i]
  (fun (_ : Nat) x => if inB x 0 23 = true then none else some (3 : Int)) (fun c => some (.inr (.inl ((c, ()), (), ())))) (some (.inl ((p, (i : Int), a1, a2, b1, b2, c, d1, d2, e1, e2, ()), (), ()))) (QbI hl) ?_ ?_
 ·have e0 : ((0 : Nat) : Int) = 0 := rfl
  rw [e0] at key
  rw [key]
  cases hs : scan (fun (_ : Nat) x => if inB x 0 23 = true then none else some (3 : Int)) 0 p.1[i] with
  | none => exact .inl ⟨rfl, _, rfl, rfl, rfl⟩
  | some c =>
   have : c = 3 := QcE (P := fun c => c = 3) (fun j hj c hc => by
    split at hc
    ·cases hc
    ·exact (Osj hc).symm) c hs
   subst this
   exact .inr ⟨rfl, rfl⟩
 ·intro rec k hk
  unfold l_g_9
  dsimp only
  rw [if_pos nat0, Qr hi, if_pos (lt_t hk), if_pos nat0, Qr hi, if_pos nat0, Qr hk, Qcg, Obn, QW (lt1 hk hl)]
  cases inB (p.1[i])[k] 0 23 <;> rfl
 ·intro rec
  unfold l_g_9
  dsimp only
  rw [if_pos nat0, Qr hi, if_neg QaP]
theorem QeA : ∀ (l seen r : List Int), dupM seen (l ++ r) = (dupM seen l || dupM (seen ++ l) r)
 | [], seen, r => by simp [dupM]
 | x :: l, seen, r => by
  simp only [List.cons_append, dupM, QeA l (seen ++ [x]) r, Bool.or_assoc, List.append_assoc, List.singleton_append, List.nil_append]
theorem Qnn (p : PolD) (seen : List Int) (i : Nat) (hi : i < p.1.length) (hl : (p.1[i]).length ≤ 1048576) (hs : seen.length ≤ 4194304) (hs2 : seen.length + (p.1[i]).length ≤ 1048576) :
  Qc l_g_18 lots ((p, seen, (i : Int), 0, ()), (), ()) = if dupM seen p.1[i] = true then some (.inr (.inl ((6, ()), (), ()))) else some (.inl ((p, seen ++ p.1[i], (i : Int), ()), (), ())) := by
 have key := QgE (step := l_g_18) (γ := denO o_g_18) (fun k (s : List Int) => ((p, s, (i : Int), ((k : Nat) : Int), ()), (), ())) (p.1[i]).length (Qbf (QbI hl)) (fun k s => s = seen ++ (p.1[i]).take k)
  (fun k s => if dupM s ((p.1[i]).drop k) = true then some (.inr (.inl ((6, ()), (), ()))) else some (.inl ((p, seen ++ p.1[i], (i : Int), ()), (), ()))) ?_ 0 seen (by omega) (by simp)
 ·exact key
 ·rintro rec k s hk hsk ih
  unfold l_g_18
  dsimp only
  rw [if_pos nat0, Qr hi]
  by_cases hlt : k < (p.1[i]).length
  ·have hsl : s.length = seen.length + k := by rw [hsk]; simp; omega
   rw [if_pos (lt_t hlt), if_pos nat0, Qr hi, if_pos nat0, Qr hlt, QmO _ _ (by omega), Obn, Qba hlt]
   rw [show dupM s ((p.1[i])[k] :: (p.1[i]).drop (k + 1)) = (s.contains (p.1[i])[k] || dupM (s ++ [(p.1[i])[k]]) ((p.1[i]).drop (k + 1))) from rfl]
   by_cases hc : s.contains (p.1[i])[k] = true
   ·rw [if_pos hc, hc]
    simp
   ·rw [if_neg hc, if_pos nat0, Qr hi, if_pos nat0, Qr hlt, if_pos (by simp; omega), QW (lt1 hlt hl)]
    have hc' : s.contains (p.1[i])[k] = false := by simpa using hc
    rw [hc', Bool.false_or]
    refine ih _ hlt ?_
    rw [hsk, List.append_assoc, List.take_add_one, List.getElem?_eq_getElem hlt]
    rfl
  ·rw [if_neg (lt_f hlt), Qce hlt]
   rw [show dupM s [] = false from rfl]
   rw [hsk, List.take_of_length_le (by omega)]
   simp
theorem Qkd {own : List (List Int)} {i : Nat} (hi : i < own.length) : (own.take (i + 1)).flatten = (own.take i).flatten ++ own[i] := by
 have e : own.take (i + 1) = own.take i ++ [own[i]] := by rw [List.take_add_one, List.getElem?_eq_getElem hi]; rfl
 rw [e, List.flatten_append]
 simp
theorem Qsf {l : List Int} (h : own1 l = none) : l.length ≤ 5 := by
 unfold own1 at h
 split at h
 ·rename_i h'; exact h'.2
 ·cases h
theorem Qfq {α β : Type} {f : Nat → α → Option β} : ∀ {m : List α} {i : Nat}, scan f i m = none → ∀ j (h : j < m.length), f (i + j) m[j] = none
 | [], _, _, j, h => by simp at h
 | x :: r, i, hs, j, h => by
  simp only [scan] at hs
  split at hs
  ·cases hs
  ·rename_i h0
   cases j with
   | zero => simpa using h0
   | succ j =>
    have := Qfq hs j (by simpa using h)
    simpa [Nat.add_assoc, Nat.add_comm, Nat.add_left_comm] using this
theorem Qmp {own : List (List Int)} (h : ∀ j (hj : j < own.length), (own[j]).length ≤ 5) : ∀ i, i ≤ own.length → (own.take i).flatten.length ≤ 5 * i
 | 0, _ => by simp
 | i + 1, hi => by
  rw [Qkd (by omega), List.length_append]
  have := Qmp h i (by omega)
  have := h i (by omega)
  omega
theorem Qnm (p : PolD) (h : p.1.length ≤ 1048576) (h2 : ∀ l ∈ p.1, l.length ≤ 1048576) : F_g (p, ()) = some ((QdO p.1, ()), ()) := by
 unfold F_g QdO
 dsimp only
 by_cases g1 : 1 ≤ p.1.length
 case neg => rw [if_neg (by rw [Qbn]; omega), if_neg (by omega)]
 rw [if_pos (by rw [Qbn]; omega)]
 by_cases g2 : p.1.length ≤ 3
 case neg => rw [if_pos (by rw [QM]; omega), if_neg (by omega)]
 rw [if_neg (by rw [QM]; omega), if_pos ⟨g1, g2⟩]
 have key := Qak (step := l_g_4) (γ := denO o_g_4) (fun i => ((p, ((i : Nat) : Int), ()), (), ())) p.1 (fun (_ : Nat) l => own1 l)
  (fun c => some (.inr (.inl ((c, ()), (), ())))) (some (.inl ((p, ()), (), ()))) (QbI h) ?_ ?_
 ·have e0 : ((0 : Nat) : Int) = 0 := rfl
  rw [e0] at key
  show (Qc l_g_4 lots ((p, 0, ()), (), ())).bind _ = _
  rw [key]
  cases hs : scan (fun (_ : Nat) l => own1 l) 0 p.1 with
  | some c => rfl
  | none =>
   rw [Obn]
   dsimp only
   have h5 : ∀ j (hj : j < p.1.length), (p.1[j]).length ≤ 5 := fun j hj => Qsf (Qfq hs j hj)
   have key2 := QgE (step := l_g_15) (γ := denO o_g_15) (fun k (s : List Int) => ((p, s, ((k : Nat) : Int), ()), (), ())) p.1.length (Qbf (QbI h)) (fun k s => s = (p.1.take k).flatten)
    (fun k s => if dupM s ((p.1.drop k).flatten) = true then some (.inr (.inl ((6, ()), (), ()))) else some (.inl ((), (), ()))) ?_ 0 [] (by omega) (by simp)
   ·show (Qc l_g_15 lots ((p, [], 0, ()), (), ())).bind _ = _
    rw [e0] at key2
    rw [key2, List.drop_zero]
    cases dupM [] p.1.flatten <;> rfl
   ·rintro rec k s hk hsk ih
    unfold l_g_15
    dsimp only
    by_cases hlt : k < p.1.length
    ·have hfl := Qmp h5 k hk
     rw [← hsk] at hfl
     have := h5 k hlt
     rw [if_pos (lt_t hlt), Qba hlt, List.flatten_cons, QeA]
     show (Qc l_g_18 lots ((p, s, (k : Int), 0, ()), (), ())).bind _ = _
     rw [Qnn p s k hlt (by omega) (by omega) (by omega)]
     cases hd : dupM s p.1[k]
     ·rw [if_neg (by simp), Obn]
      dsimp only
      rw [QW (lt1 hlt h), Bool.false_or]
      exact ih _ hlt (by rw [hsk, Qkd hlt])
     ·rfl
    ·rw [if_neg (lt_f hlt), Qce hlt]
     rfl
 ·intro rec i hi
  unfold l_g_4
  dsimp only
  have hl := h2 _ (List.getElem_mem hi)
  rw [if_pos (lt_t hi), if_pos nat0, Qr hi]
  unfold own1
  by_cases k1 : 1 ≤ (p.1[i]).length
  case neg => rw [if_neg (by rw [Qbn]; omega), if_neg (by omega)]
  rw [if_pos (by rw [Qbn]; omega), if_pos nat0, Qr hi]
  by_cases k2 : (p.1[i]).length ≤ 5
  case neg => rw [if_pos (by rw [QM]; omega), if_neg (by omega)]
  rw [if_neg (by rw [QM]; omega), if_pos ⟨k1, k2⟩]
  rcases Qnl (T := Unit) p i hi hl p p p.1 p.1 (i : Int) p.1[i] p.1[i] (((p.1[i]).length : Nat) : Int) (ltI 5 (((p.1[i]).length : Nat) : Int)) with ⟨g, x, g3, g4, g5⟩ | ⟨g, g3⟩
  ·show (Qc l_g_9 lots _).bind _ = _
   rw [g, g3, Obn]
   dsimp only
   rw [g4, g5, QW (lt1 hi h)]
  ·show (Qc l_g_9 lots _).bind _ = _
   rw [g, g3]
   rfl
 ·intro rec
  unfold l_g_4
  dsimp only
  rw [if_neg QaP]
theorem Qqb (es : List (Int × Bool)) (x y : Int) : getM (setM es x true) y = (y == x || getM es y) := by
 induction es with
 | nil =>
  simp only [setM, getM]
  by_cases e : x = y
  ·subst e; simp
  ·rw [if_neg e]; simp [Ne.symm e]
 | cons a r ih =>
  simp only [setM, getM]
  by_cases e : a.1 = x
  ·rw [if_pos e]
   simp only [getM]
   by_cases e2 : x = y
   ·subst e2; simp
   ·rw [if_neg e2, if_neg (by rw [e]; exact e2)]; simp [Ne.symm e2]
  ·rw [if_neg e]
   simp only [getM]
   by_cases e2 : a.1 = y
   ·subst e2; rw [if_pos rfl, if_pos rfl]; simp [e]
   ·rw [if_neg e2, if_neg e2, ih]
theorem Qlt {T1 T2 T3 : Int} (es : List (Int × Bool)) (t : Bool) (own : List (List Int)) (a b : Int) (l : List Int) (hl : l.length ≤ 1048576) (seen : List Int) (hes : ∀ y, getM es y = seen.contains y) :
  (∃ es', scan (fun (_ : Nat) x => if inB x 0 23 = true then none else some (3 : Int)) 0 l = none ∧ (∀ y, getM es' y = (seen ++ l).contains y) ∧
   Qc l_aa_10 lots ((es, t, own, a, b, l, ((l.length : Nat) : Int), 0, ()), (), ()) = some (.inl ((es', t || dupM seen l, own, a, b, ()), (), ()))) ∨
  (scan (fun (_ : Nat) x => if inB x 0 23 = true then none else some (3 : Int)) 0 l = some 3 ∧ Qc l_aa_10 lots ((es, t, own, a, b, l, ((l.length : Nat) : Int), 0, ()), (), ()) = some (.inr (.inl ((3, ()), (), ())))) := by
 have key : ∀ n (k : Nat) (es : List (Int × Bool)) (t : Bool) (seen : List Int), l.length - k < n → k ≤ l.length → (∀ y, getM es y = seen.contains y) →
   (∃ es', scan (fun (_ : Nat) x => if inB x 0 23 = true then none else some (3 : Int)) k (l.drop k) = none ∧ (∀ y, getM es' y = (seen ++ l.drop k).contains y) ∧
   Qc l_aa_10 n ((es, t, own, a, b, l, ((l.length : Nat) : Int), ((k : Nat) : Int), ()), (), ()) = some (.inl ((es', t || dupM seen (l.drop k), own, a, b, ()), (), ()))) ∨
   (scan (fun (_ : Nat) x => if inB x 0 23 = true then none else some (3 : Int)) k (l.drop k) = some 3 ∧ Qc l_aa_10 n ((es, t, own, a, b, l, ((l.length : Nat) : Int), ((k : Nat) : Int), ()), (), ()) = some (.inr (.inl ((3, ()), (), ())))) := by
  intro n
  induction n with
  | zero => intro k _ _ _ h; omega
  | succ n ih =>
   intro k es t seen hn hk hes
   simp only [Qc]
   generalize Qc l_aa_10 n = rec at ih ⊢
   by_cases hlt : k < l.length
   ·have hw : IntKind.i64.wrap ((k : Int) + 1) = ((k + 1 : Nat) : Int) := QW (lt1 hlt hl)
    rw [Qba hlt]
    simp only [scan, dupM]
    have hes2 : ∀ y, getM (setM es l[k] true) y = (seen ++ [l[k]]).contains y := by
     intro y
     rw [Qqb, hes]
     rw [Bool.eq_iff_iff]
     simp [or_comm]
    cases hb : inB l[k] 0 23
    ·right
     refine ⟨by simp, ?_⟩
     unfold l_aa_10
     dsimp only
     rw [if_pos (lt_t hlt), if_pos nat0, Qr hlt, Qaq, Obn, hb]
     rfl
    ·have go : l_aa_10 rec ((es, t, own, a, b, l, ((l.length : Nat) : Int), ((k : Nat) : Int), ()), (), ()) = rec ((setM es l[k] true, t || seen.contains l[k], own, a, b, l, ((l.length : Nat) : Int), ((k + 1 : Nat) : Int), ()), (), ()) := by
      unfold l_aa_10
      dsimp only
      rw [if_pos (lt_t hlt), if_pos nat0, Qr hlt, Qaq, Obn, hb, if_neg (by simp), hw, ← hes]
      cases t <;> rfl
     rw [go]
     rcases ih (k + 1) (setM es l[k] true) (t || seen.contains l[k]) (seen ++ [l[k]]) (by omega) (by omega) hes2 with ⟨es', g1, g2, g3⟩ | ⟨g1, g2⟩
     ·left
      refine ⟨es', by simpa using g1, fun y => by rw [g2]; simp, ?_⟩
      rw [g3, Bool.or_assoc]
     ·right
      exact ⟨by simpa using g1, g2⟩
   ·left
    rw [Qce hlt]
    refine ⟨es, rfl, by simpa using hes, ?_⟩
    unfold l_aa_10
    dsimp only
    rw [if_neg (lt_f hlt)]
    simp [dupM]
 simpa using key lots 0 es t seen (by have := Qbf (QbI hl); omega) (by omega) hes
theorem QmC (p : PolD) (h : p.1.length ≤ 1048576) (h2 : ∀ l ∈ p.1, l.length ≤ 1048576) : F_aa (p, ()) = some ((QdO p.1, ()), ()) := by
 unfold F_aa QdO
 dsimp only
 rw [Qaq, Obn]
 by_cases g : 1 ≤ p.1.length ∧ p.1.length ≤ 3
 case neg =>
  have : inB ((p.1.length : Nat) : Int) 1 3 = false := by unfold inB; simp; omega
  rw [this, if_pos (by simp), if_neg g]
 have : inB ((p.1.length : Nat) : Int) 1 3 = true := by unfold inB; simp; omega
 rw [this, if_neg (by simp), if_pos g]
 have key : ∀ n (k : Nat) (es : List (Int × Bool)) (t : Bool) (seen : List Int), p.1.length - k < n → k ≤ p.1.length → (∀ y, getM es y = seen.contains y) →
   (Qc l_aa_5 n ((es, t, p.1, ((p.1.length : Nat) : Int), ((k : Nat) : Int), ()), (), ()) = match scan (fun (_ : Nat) l => own1 l) k (p.1.drop k) with
    | some c => some (.inr (.inl ((c, ()), (), ()))) | none => some (.inl ((t || dupM seen (p.1.drop k).flatten, ()), (), ()))) := by
  intro n
  induction n with
  | zero => intro k _ _ _ h; omega
  | succ n ih =>
   intro k es t seen hn hk hes
   simp only [Qc]
   generalize Qc l_aa_5 n = rec at ih ⊢
   by_cases hlt : k < p.1.length
   ·have hl := h2 _ (List.getElem_mem hlt)
    rw [Qba hlt]
    simp only [scan, List.flatten_cons, QeA]
    unfold l_aa_5 own1
    dsimp only
    rw [if_pos (lt_t hlt), if_pos nat0, Qr hlt, Qaq, Obn]
    by_cases g1 : 1 ≤ (p.1[k]).length ∧ (p.1[k]).length ≤ 5
    ·have : inB (((p.1[k]).length : Nat) : Int) 1 5 = true := by unfold inB; simp; omega
     rw [this, if_neg (by simp), if_pos g1]
     rcases Qlt (T1 := 0) (T2 := 0) (T3 := 0) es t p.1 ((p.1.length : Nat) : Int) ((k : Nat) : Int) p.1[k] hl seen hes with ⟨es', q1, q2, q3⟩ | ⟨q1, q2⟩
     ·show (Qc l_aa_10 lots _).bind _ = _
      rw [q1, q3, Obn]
      dsimp only
      rw [QW (lt1 hlt h), ih (k + 1) es' _ (seen ++ p.1[k]) (by omega) (by omega) q2, Bool.or_assoc]
      rfl
     ·show (Qc l_aa_10 lots _).bind _ = _
      rw [q1, q2]
      rfl
    ·have : inB (((p.1[k]).length : Nat) : Int) 1 5 = false := by unfold inB; simp; omega
     rw [this, if_pos (by simp), if_neg g1]
   ·rw [Qce hlt]
    unfold l_aa_5
    dsimp only
    rw [if_neg (lt_f hlt)]
    simp [scan, dupM]
 have k0 := key lots 0 [] false [] (by have := Qbf (QbI h); omega) (by omega) (fun y => by simp [getM])
 have e0 : ((0 : Nat) : Int) = 0 := rfl
 rw [e0, List.drop_zero] at k0
 show (Qc l_aa_5 lots (([], false, p.1, ((p.1.length : Nat) : Int), 0, ()), (), ())).bind _ = _
 rw [k0]
 cases scan (fun (_ : Nat) l => own1 l) 0 p.1 with
 | some c => rfl
 | none =>
  rw [Obn]
  dsimp only
  cases dupM [] p.1.flatten <;> rfl
def polM (p : PolD) : Int :=
 if QdO p.1 ≠ 0 then QdO p.1
 else if p.2.1.length ≤ 4 ∧ p.2.2.1.length ≤ 4 then (match QbF p with | some c => c | none => match QfT p with | some c => c | none => QkB p) else 2
theorem QtW {c d : Int} (h : nz c = some d) : d ≠ 0 := by
 unfold nz at h
 split at h
 ·rename_i h'; rw [← Osj h]; exact h'
 ·cases h
theorem Qkm {p : PolD} {c : Int} (h : QbF p = some c) : c ≠ 0 := QcE (P := fun c => c ≠ 0) (fun j hj c hc => QtW hc) c h
theorem QpN {p : PolD} {c : Int} (h : QfT p = some c) : c ≠ 0 := QcE (P := fun c => c ≠ 0) (fun j hj c hc => QtW hc) c h
theorem Qgd (p : PolD) (h : Qnc 1048576 p) : F_ar (p, ()) = some ((polM p, ()), ()) := by
 obtain ⟨⟨a1, a2⟩, a3, a4, a5⟩ := h
 unfold F_ar polM
 dsimp only
 rw [QmC p a1 a2, Obn]
 dsimp only
 by_cases h0 : QdO p.1 = 0
 case neg => rw [if_pos (by simpa using h0), if_pos h0]
 simp only [h0, bne_self_eq_false, Bool.false_eq_true, if_false, ne_eq, not_true_eq_false]
 by_cases h1 : p.2.1.length ≤ 4
 case neg => rw [if_neg (by rw [Qbn]; omega), if_neg (by omega)]
 rw [if_pos (by rw [Qbn]; omega)]
 by_cases h3 : p.2.2.1.length ≤ 4
 case neg => rw [if_pos (by rw [QM]; omega), if_neg (by omega)]
 rw [if_neg (by rw [QM]; omega), if_pos ⟨h1, h3⟩]
 have key1 := Qak (step := l_ar_7) (γ := denO o_ar_7) (fun i => (((), p.2.1, ((p.2.1.length : Nat) : Int), ((i : Nat) : Int), ()), (p, ()), ())) p.2.1 (fun i l => nz (QdG p l (p.2.1.take i)))
  (fun c => some (.inr (.inl ((c, ()), (), ())))) (some (.inl (((), ()), (p, ()), ()))) (QbI a3) ?_ ?_
 ·have key2 := Qak (step := l_ar_14) (γ := denO o_ar_14) (fun i => (((), p.2.2.1, ((p.2.2.1.length : Nat) : Int), ((i : Nat) : Int), ()), (p, ()), ())) p.2.2.1 (fun i b => nz (Qht p b (p.2.2.1.take i)))
   (fun c => some (.inr (.inl ((c, ()), (), ())))) (some (.inl (((), ()), (p, ()), ()))) (QbI a4) ?_ ?_
  ·have e0 : ((0 : Nat) : Int) = 0 := rfl
   rw [e0] at key1 key2
   show (Qc l_ar_7 lots (((), p.2.1, ((p.2.1.length : Nat) : Int), 0, ()), (p, ()), ())).bind _ = _
   rw [key1]
   unfold QbF
   cases scan (fun i l => nz (QdG p l (p.2.1.take i))) 0 p.2.1 with
   | some c => rfl
   | none =>
    rw [Obn]
    dsimp only
    show (Qc l_ar_14 lots (((), p.2.2.1, ((p.2.2.1.length : Nat) : Int), 0, ()), (p, ()), ())).bind _ = _
    rw [key2]
    unfold QfT
    cases scan (fun i b => nz (Qht p b (p.2.2.1.take i))) 0 p.2.2.1 with
    | some c => rfl
    | none =>
     rw [Obn]
     dsimp only
     rw [QmE p a1 a5, Obn]
  ·intro rec i hi
   unfold l_ar_14
   dsimp only
   rw [if_pos (lt_t hi), if_pos nat0, Qr hi, if_pos (show (0 : Int) ≤ 0 ∧ (0 : Int) ≤ (i : Int) ∧ (i : Int) ≤ ((p.2.2.1.length : Nat) : Int) from ⟨by omega, by omega, by omega⟩), QW (lt1 hi a4)]
   have e : (p.2.2.1.drop (0 : Int).toNat).take (((i : Nat) : Int).toNat - (0 : Int).toNat) = p.2.2.1.take i := by simp
   rw [e, Qlj p _ _ a1 (by simp; omega), Obn]
   dsimp only
   unfold nz
   by_cases g : Qht p p.2.2.1[i] (p.2.2.1.take i) = 0
   ·rw [if_neg (by simpa using g), if_neg (by simpa using g)]
   ·rw [if_pos (by simpa using g), if_pos (by simpa using g)]
  ·intro rec
   unfold l_ar_14
   dsimp only
   rw [if_neg QaP]
 ·intro rec i hi
  unfold l_ar_7
  dsimp only
  rw [if_pos (lt_t hi), if_pos nat0, Qr hi, if_pos (show (0 : Int) ≤ 0 ∧ (0 : Int) ≤ (i : Int) ∧ (i : Int) ≤ ((p.2.1.length : Nat) : Int) from ⟨by omega, by omega, by omega⟩), QW (lt1 hi a3)]
  have e : (p.2.1.drop (0 : Int).toNat).take (((i : Nat) : Int).toNat - (0 : Int).toNat) = p.2.1.take i := by simp
  rw [e, Qly p _ _ a1 a2 (by simp; omega), Obn]
  dsimp only
  unfold nz
  by_cases g : QdG p p.2.1[i] (p.2.1.take i) = 0
  ·rw [if_neg (by simpa using g), if_neg (by simpa using g)]
  ·rw [if_pos (by simpa using g), if_pos (by simpa using g)]
 ·intro rec
  unfold l_ar_7
  dsimp only
  rw [if_neg QaP]
def askM (p : PolD) (g : Int) : Int := if polM p ≠ 0 then polM p else if isG p g = true then 0 else 4
theorem Qgc (p : PolD) (g : Int) (h : Qnc 1048576 p) : F_bh (p, g, ()) = some ((askM p g, ()), ()) := by
 unfold F_bh askM
 rw [Qgd p h, QbU p g h.1.1]
 simp only [Obn]
 by_cases h0 : polM p = 0
 ·rw [h0]; cases isG p g <;> simp
 ·rw [if_neg (by simpa using h0), if_pos h0]
theorem QaS {α β : Type} {f : Nat → α → Option β} {m : List α} (h : scan f 0 m = none) : ∀ x ∈ m, ∃ i, f i x = none := by
 intro x hx
 obtain ⟨i, hi, rfl⟩ := List.mem_iff_getElem.1 hx
 exact ⟨_, Qfq h i hi⟩
structure OkPol (p : PolD) : Prop where
 own : 1 ≤ p.1.length ∧ p.1.length ≤ 3
 own1 : ∀ l ∈ p.1, 1 ≤ l.length ∧ l.length ≤ 5 ∧ ∀ x ∈ l, 0 ≤ x ∧ x ≤ 23
 nodup : dupM [] p.1.flatten = false
 lanes : p.2.1.length ≤ 4 ∧ QbF p = none
 bells : p.2.2.1.length ≤ 4 ∧ QfT p = none
 plan : 1 ≤ p.2.2.2.1.length ∧ p.2.2.2.1.length ≤ 8
 slots : ∀ s ∈ p.2.2.2.1, isG p s.1 = true ∧ 1 ≤ s.2.1 ∧ s.2.1 ≤ 50
theorem QdE {n a b : Int} : inB n a b = true ↔ a ≤ n ∧ n ≤ b := by unfold inB; simp
theorem QdM {p : PolD} (h : polM p = 0) : OkPol p := by
 unfold polM at h
 split at h
 ·rename_i h'; exact absurd h h'
 rename_i h0
 have h0 : QdO p.1 = 0 := by simpa using h0
 split at h
 case isFalse => cases h
 rename_i h4
 cases hl : QbF p with
 | some c => rw [hl] at h; exact absurd h (Qkm hl)
 | none =>
 rw [hl] at h
 dsimp only at h
 cases hb : QfT p with
 | some c => rw [hb] at h; exact absurd h (QpN hb)
 | none =>
 rw [hb] at h
 dsimp only at h
 unfold QdO at h0
 split at h0
 case isFalse => cases h0
 rename_i g1
 unfold QkB at h
 split at h
 case isFalse => cases h
 rename_i g2
 cases ho : scan (fun (_ : Nat) l => Go.Proofs.YtmoninjbahccoaaGreatDoor.own1 l) 0 p.1 with
 | some c =>
  rw [ho] at h0
  dsimp only at h0
  subst h0
  have : (0 : Int) ≠ 0 := QcE (P := fun c => c ≠ 0) (fun j hj c hc => by
   unfold Go.Proofs.YtmoninjbahccoaaGreatDoor.own1 at hc
   split at hc
   ·exact QcE (P := fun c => c ≠ 0) (fun j hj c hc => by
     split at hc
     ·cases hc
     ·rw [← Osj hc]; decide) c hc
   ·rw [← Osj hc]; decide) _ ho
  exact absurd rfl this
 | none =>
  rw [ho] at h0
  dsimp only at h0
  have hd : dupM [] p.1.flatten = false := by
   split at h0
   ·cases h0
   ·rename_i h'; simpa using h'
  refine ⟨g1, ?_, hd, ⟨h4.1, hl⟩, ⟨h4.2, hb⟩, g2, ?_⟩
  ·intro l hl'
   obtain ⟨_, e⟩ := QaS ho l hl'
   unfold Go.Proofs.YtmoninjbahccoaaGreatDoor.own1 at e
   split at e
   ·rename_i g
    refine ⟨g.1, g.2, fun x hx => ?_⟩
    obtain ⟨_, e2⟩ := QaS e x hx
    split at e2
    ·rename_i g3; exact QdE.1 g3
    ·cases e2
   ·cases e
  ·intro s hs
   cases hp : scan (fun (_ : Nat) (s : TwoD) => if isG p s.1 = true then (if inB s.2.1 1 50 = true then none else some (3 : Int)) else some 4) 0 p.2.2.2.1 with
   | some c =>
    rw [hp] at h
    dsimp only at h
    subst h
    have : (0 : Int) ≠ 0 := QcE (P := fun c => c ≠ 0) (fun j hj c hc => by
     split at hc
     ·split at hc
      ·cases hc
      ·rw [← Osj hc]; decide
     ·rw [← Osj hc]; decide) _ hp
    exact absurd rfl this
   | none =>
    obtain ⟨_, e⟩ := QaS hp s hs
    split at e
    ·rename_i g
     split at e
     ·rename_i g3; exact ⟨g, QdE.1 g3⟩
     ·cases e
    ·cases e
def QqW (m : List TwoD) : Prop := m.length ≤ 8 ∧ ∀ s ∈ m, 1 ≤ s.2.1 ∧ s.2.1 ≤ 50
theorem OkPol.okPlan {p : PolD} (h : OkPol p) : QqW p.2.2.2.1 := ⟨h.plan.2, fun s hs => (h.slots s hs).2⟩
def QJ (g : Int) : List TwoD → Int
 | [] => 0
 | s :: r => (if g < 0 ∨ s.1 = g then s.2.1 else 0) + QJ g r
theorem QdV {g : Int} : ∀ {m : List TwoD}, (∀ s ∈ m, 1 ≤ s.2.1 ∧ s.2.1 ≤ 50) → 0 ≤ QJ g m ∧ QJ g m ≤ 50 * (m.length : Int)
 | [], _ => by simp [QJ]
 | s :: r, h => by
  have h1 := h s (by simp)
  have := QdV (g := g) (m := r) fun s hs => h s (List.mem_cons_of_mem _ hs)
  simp only [QJ, List.length_cons]
  split <;> omega
theorem Qqz {α : Type} {m : List α} {i : Nat} {P : α → Prop} (h : ∀ s ∈ m, P s) : ∀ s ∈ m.drop i, P s := fun s hs => h s (List.mem_of_mem_drop hs)
theorem QoA (p : PolD) (g : Int) (h : QqW p.2.2.2.1) : F_cc (p, g, ()) = some ((QJ g p.2.2.2.1, ()), ()) := by
 obtain ⟨hl, hs⟩ := h
 have key := QgE (step := l_cc_3) (γ := denO o_cc_3) (fun k (a : Int) => ((g, a, p.2.2.2.1, ((p.2.2.2.1.length : Nat) : Int), ((k : Nat) : Int), ()), (), ())) p.2.2.2.1.length (Qbf (by omega)) (fun k a => 0 ≤ a ∧ a ≤ 50 * (k : Int))
  (fun k a => some (.inl ((a + QJ g (p.2.2.2.1.drop k), ()), (), ()))) ?_ 0 0 (by omega) (by omega)
 ·have e0 : ((0 : Nat) : Int) = 0 := rfl
  rw [e0] at key
  unfold F_cc
  show (Qc l_cc_3 lots ((g, 0, p.2.2.2.1, ((p.2.2.2.1.length : Nat) : Int), 0, ()), (), ())).bind _ = _
  rw [key, Obn]
  simp
 ·rintro rec k a hk ha ih
  unfold l_cc_3
  dsimp only
  by_cases hlt : k < p.2.2.2.1.length
  ·have hb := hs _ (List.getElem_mem hlt)
   rw [if_pos (lt_t hlt), if_pos nat0, Qr hlt, Qu (n := a + (p.2.2.2.1[k]).2.1) (by omega) (by omega), QW (by omega), Qba hlt]
   rw [show QJ g (p.2.2.2.1[k] :: p.2.2.2.1.drop (k + 1)) = (if g < 0 ∨ (p.2.2.2.1[k]).1 = g then (p.2.2.2.1[k]).2.1 else 0) + QJ g (p.2.2.2.1.drop (k + 1)) from rfl]
   by_cases hg : g < 0
   ·rw [if_neg (by rw [Qbn]; omega), ih _ hlt (by omega), if_pos (.inl hg), Int.add_assoc]
   ·rw [if_pos (by rw [Qbn]; omega)]
    by_cases hg2 : (p.2.2.2.1[k]).1 = g
    ·rw [if_pos (by simpa using hg2), ih _ hlt (by omega), if_pos (.inr hg2), Int.add_assoc]
    ·rw [if_neg (by simpa using hg2), ih _ hlt (by omega), if_neg (by omega), Int.zero_add]
  ·rw [if_neg (lt_f hlt), Qce hlt]
   simp [QJ]
abbrev Qx := PolD × List Int × List QY × Int × Int × Int × Unit
theorem QgU {γ : Type} {m : List Int} {z : Int} (n : Nat) (hz : z.toNat = n) (h : n < m.length) (K : Int → Option γ) : (m[z.toNat]?).bind K = K (m.getD n 0) := by
 rw [hz, List.getElem?_eq_getElem h, Obn, List.getD_eq_getElem?_getD, List.getElem?_eq_getElem h]
 rfl
def hartM (h : QY) : Int :=
 if h.1.length = 16 ∧ h.2.2.1.length = 11 ∧ h.1.getD 0 0 = 0 then
  (if allW h.1 = true ∧ okW h.2.1 = true ∧ allW h.2.2.1 = true ∧ allW h.2.2.2.2.2.2.2.1 = true ∧ allW h.2.2.2.2.2.2.2.2.1 = true then
   (if h.2.2.2.2.2.2.2.1.length ≤ 40 ∧ h.2.2.2.2.2.2.2.2.1.length ≤ 40 then
    (if inB h.2.2.2.2.2.2.1 0 1000000000 = true then
     (if h.2.2.1.getD 0 0 ≤ 3 ∧ h.2.2.1.getD 7 0 ≤ 7 ∧ h.2.2.1.getD 10 0 ≤ 8 ∧ h.2.2.1.getD 6 0 = 0 ∧ h.2.2.1.getD 8 0 = 0 then 0 else 1) else 3) else 2) else 3) else 1
theorem QmA (h : QY) (hl : QcS 1048576 h) : F_cb (h, ()) = some ((hartM h, ()), ()) := by
 obtain ⟨l1, l2, l3, l4⟩ := hl
 unfold F_cb hartM
 dsimp only
 by_cases a1 : h.1.length = 16
 case neg =>
  have : ¬ ((h.1.length : Nat) : Int) = 16 := by omega
  simp [a1, this]
 rw [if_pos (by rw [a1]; rfl)]
 by_cases a2 : h.2.2.1.length = 11
 case neg =>
  have : ¬ ((h.2.2.1.length : Nat) : Int) = 11 := by omega
  simp [a2, this]
 rw [if_pos (by rw [a2]; rfl), QgU (z := 0) 0 rfl (by omega)]
 by_cases a3 : h.1.getD 0 0 = 0
 case neg => rw [if_pos (by simpa using a3), if_neg (fun g => a3 g.2.2)]
 have hA : h.1.length = 16 ∧ h.2.2.1.length = 11 ∧ h.1.getD 0 0 = 0 := ⟨a1, a2, a3⟩
 rw [if_neg (by simpa using a3), if_pos hA, QaY _ (leM l1), Qkj, QaY _ (leM l2), QaY _ (leM l3), QaY _ (leM l4)]
 simp only [Obn]
 cases b1 : allW h.1
 ·simp
 cases b2 : okW h.2.1
 ·simp
 cases b3 : allW h.2.2.1
 ·simp
 cases b4 : allW h.2.2.2.2.2.2.2.1
 ·simp
 cases b5 : allW h.2.2.2.2.2.2.2.2.1
 ·simp
 simp only [Bool.not_true, and_self, if_true, Bool.false_eq_true, if_false]
 by_cases c1 : h.2.2.2.2.2.2.2.1.length ≤ 40
 case neg => rw [if_neg (by rw [Qbn]; omega), if_neg (fun g => c1 g.1)]
 rw [if_pos (by rw [Qbn]; omega)]
 by_cases c2 : h.2.2.2.2.2.2.2.2.1.length ≤ 40
 case neg => rw [if_pos (by rw [QM]; omega), if_neg (fun g => c2 g.2)]
 have hC : h.2.2.2.2.2.2.2.1.length ≤ 40 ∧ h.2.2.2.2.2.2.2.2.1.length ≤ 40 := ⟨c1, c2⟩
 rw [if_neg (by rw [QM]; omega), if_pos hC, Qaq, Obn]
 dsimp only
 cases b6 : inB h.2.2.2.2.2.2.1 0 1000000000
 ·simp
 rw [if_neg (by simp), if_pos rfl, QgU (z := 0) 0 rfl (by omega)]
 by_cases d1 : h.2.2.1.getD 0 0 ≤ 3
 case neg => rw [if_neg (by rw [Qbn]; exact fun g => g (Int.not_le.1 d1)), if_neg (fun g => d1 g.1)]
 rw [if_pos (by rw [Qbn]; exact Int.not_lt.2 d1), QgU (z := 7) 7 rfl (by omega)]
 by_cases d2 : h.2.2.1.getD 7 0 ≤ 7
 case neg => rw [if_neg (by rw [Qbn]; exact fun g => g (Int.not_le.1 d2)), if_neg (fun g => d2 g.2.1)]
 rw [if_pos (by rw [Qbn]; exact Int.not_lt.2 d2), QgU (z := 10) 10 rfl (by omega)]
 by_cases d3 : h.2.2.1.getD 10 0 ≤ 8
 case neg => rw [if_neg (by rw [Qbn]; exact fun g => g (Int.not_le.1 d3)), if_neg (fun g => d3 g.2.2.1)]
 rw [if_pos (by rw [Qbn]; exact Int.not_lt.2 d3), QgU (z := 6) 6 rfl (by omega)]
 by_cases d4 : h.2.2.1.getD 6 0 = 0
 case neg => rw [if_neg (by simpa using d4), if_neg (fun g => d4 g.2.2.2.1)]
 rw [if_pos (by simpa using d4), QgU (z := 8) 8 rfl (by omega)]
 by_cases d5 : h.2.2.1.getD 8 0 = 0
 case neg => rw [if_pos (by simpa using d5), if_neg (fun g => d5 g.2.2.2.2)]
 have hD : h.2.2.1.getD 0 0 ≤ 3 ∧ h.2.2.1.getD 7 0 ≤ 7 ∧ h.2.2.1.getD 10 0 ≤ 8 ∧ h.2.2.1.getD 6 0 = 0 ∧ h.2.2.1.getD 8 0 = 0 := ⟨d1, d2, d3, d4, d5⟩
 rw [if_neg (by simpa using d5), if_pos hD]
def Qw : Nat → List TwoD → Int → Nat × Int × Int
 | k, [], at_ => (k, at_, 0)
 | k, s :: r, at_ => if s.2.1 ≤ at_ then Qw (k + 1) r (at_ - s.2.1) else (k, at_, s.2.1 - at_)
theorem Qbm : ∀ {m : List TwoD} {k : Nat} {a : Int}, (∀ s ∈ m, 1 ≤ s.2.1 ∧ s.2.1 ≤ 50) → 0 ≤ a → a < QJ (-1) m →
  k ≤ (Qw k m a).1 ∧ ∃ s, m[(Qw k m a).1 - k]? = some s ∧ (Qw k m a).2.2 = s.2.1 - (Qw k m a).2.1 ∧ 0 ≤ (Qw k m a).2.1 ∧ (Qw k m a).2.1 < s.2.1
 | [], k, a, _, h0, h1 => by simp [QJ] at h1; omega
 | s :: r, k, a, hs, h0, h1 => by
  simp only [QJ] at h1
  rw [if_pos (.inl (by decide))] at h1
  simp only [Qw]
  by_cases h : s.2.1 ≤ a
  ·rw [if_pos h]
   obtain ⟨g0, q, g1, g2⟩ := Qbm (m := r) (k := k + 1) (a := a - s.2.1) (fun s hs' => hs s (List.mem_cons_of_mem _ hs')) (by omega) (by omega)
   refine ⟨by omega, q, ?_, g2⟩
   have e : (Qw (k + 1) r (a - s.2.1)).1 - k = ((Qw (k + 1) r (a - s.2.1)).1 - (k + 1)) + 1 := by omega
   rw [e, List.getElem?_cons_succ]
   exact g1
  ·rw [if_neg h]
   exact ⟨Nat.le_refl _, s, by simp, rfl, h0, by show a < s.2.1; omega⟩
def Qbj (p : PolD) (clock : Int) : Int × Int := let e := Qw 0 p.2.2.2.1 (clock % QJ (-1) p.2.2.2.1); ((e.1 : Int), e.2.2)
theorem Qep {m : List TwoD} (h : ∀ s ∈ m, 1 ≤ s.2.1 ∧ s.2.1 ≤ 50) (hl : 1 ≤ m.length) : 1 ≤ QJ (-1) m := by
 cases m with
 | nil => simp at hl
 | cons s r =>
  have := QdV (g := -1) (m := r) fun s hs => h s (List.mem_cons_of_mem _ hs)
  have := h s (by simp)
  simp only [QJ]
  rw [if_pos (.inl (by decide))]
  omega
theorem Qsx {a b : Int} (h : 0 ≤ a) : a.tmod b = a % b := by
 rw [Int.tmod_eq_emod_of_nonneg h]
theorem QqT {γ : Type} {p : PolD} (hok : OkPol p) {step : ((PolD × Int × Int × Unit) × Unit × Unit → Option (((PolD × Int × Int × Unit) × Unit × Unit) ⊕ γ)) → (PolD × Int × Int × Unit) × Unit × Unit → Option (((PolD × Int × Int × Unit) × Unit × Unit) ⊕ γ)}
  (hstep : ∀ rec p a i, step rec ((p, a, i, ()), (), ()) = if 0 ≤ i then (p.2.2.2.1[i.toNat]?).bind fun y => if leI y.2.1 a = true then (if 0 ≤ i then (p.2.2.2.1[i.toNat]?).bind fun y =>
   rec ((p, IntKind.i64.wrap (a - y.2.1), IntKind.i64.wrap (i + 1), ()), (), ()) else none) else some (.inl ((p, a, i, ()), (), ())) else none)
  (a : Int) (h0 : 0 ≤ a) (h1 : a < QJ (-1) p.2.2.2.1) : Qc step lots ((p, a, 0, ()), (), ()) = some (.inl ((p, (Qw 0 p.2.2.2.1 a).2.1, ((Qw 0 p.2.2.2.1 a).1 : Int), ()), (), ())) := by
 obtain ⟨hl, hs⟩ := hok.okPlan
 have key := QgE (step := step) (fun k (a : Int) => ((p, a, ((k : Nat) : Int), ()), (), ())) p.2.2.2.1.length (Qbf (by omega)) (fun k a => 0 ≤ a ∧ a < QJ (-1) (p.2.2.2.1.drop k))
  (fun k a => some (.inl ((p, (Qw k (p.2.2.2.1.drop k) a).2.1, ((Qw k (p.2.2.2.1.drop k) a).1 : Int), ()), (), ()))) ?_ 0 a (by omega) ⟨h0, by simpa using h1⟩
 ·exact key
 ·rintro rec k a hk ⟨g0, g1⟩ ih
  by_cases hlt : k < p.2.2.2.1.length
  ·have hb := hs _ (List.getElem_mem hlt)
   have hle := (QdV (g := -1) (Qqz (i := k) hs)).2
   rw [List.length_drop] at hle
   rw [hstep, if_pos nat0, Qr hlt, if_pos nat0, Qr hlt, QW (by omega), Qu (n := a - (p.2.2.2.1[k]).2.1) (by omega) (by omega)]
   rw [Qba hlt] at g1
   simp only [QJ] at g1
   rw [if_pos (.inl (by decide))] at g1
   by_cases h : (p.2.2.2.1[k]).2.1 ≤ a
   ·have e : Qw k (p.2.2.2.1.drop k) a = Qw (k + 1) (p.2.2.2.1.drop (k + 1)) (a - (p.2.2.2.1[k]).2.1) := by
     rw [Qba hlt]; simp only [Qw]; rw [if_pos h]
    rw [if_pos (QbH.2 h), e]
    exact ih _ hlt ⟨by omega, by omega⟩
   ·have e : Qw k (p.2.2.2.1.drop k) a = (k, a, (p.2.2.2.1[k]).2.1 - a) := by
     rw [Qba hlt]; simp only [Qw]; rw [if_neg h]
    rw [if_neg (by rw [QbH]; exact h), e]
  ·rw [Qce hlt] at g1
   simp [QJ] at g1
   omega
theorem QmJ (p : PolD) (clock : Int) (hok : OkPol p) (h0 : 0 ≤ clock) : F_cd (p, clock, ()) = some (((Qbj p clock).1, (Qbj p clock).2, ()), ()) := by
 obtain ⟨hl, hs⟩ := hok.okPlan
 have hpos := Qep hs hok.plan.1
 have hle := (QdV (g := -1) hs).2
 unfold F_cd
 dsimp only
 rw [QoA p (-1) hok.okPlan, Obn]
 dsimp only
 have a0 : 0 ≤ clock % QJ (-1) p.2.2.2.1 := Int.emod_nonneg _ (by omega)
 have a1 : clock % QJ (-1) p.2.2.2.1 < QJ (-1) p.2.2.2.1 := Int.emod_lt_of_pos _ (by omega)
 have hne : ¬ QJ (-1) p.2.2.2.1 = 0 := by omega
 rw [if_neg hne, Qsx h0]
 show (Qc l_cd_3 lots ((p, clock % QJ (-1) p.2.2.2.1, 0, ()), (), ())).bind _ = _
 rw [QqT hok (step := l_cd_3) (fun _ _ _ _ => rfl) _ a0 a1, Obn]
 dsimp only
 obtain ⟨_, s, g1, g2, g3, g4⟩ := Qbm (k := 0) hs a0 a1
 rw [Nat.sub_zero] at g1
 have hb := hs s (List.mem_of_getElem? g1)
 rw [if_pos nat0, Int.toNat_natCast, g1, Obn, Qu (by omega) (by omega), ← g2]
 rfl
def Qhe (n : Nat) (x : Qx) : Prop := Qnc n x.1 ∧ x.2.1.length ≤ n ∧ x.2.2.1.length ≤ n ∧ ∀ h ∈ x.2.2.1, QcS n h
def Qiv (m : List QY) : Option Int := scan (fun (_ : Nat) h => nz (hartM h)) 0 m
def QaM (x : Qx) : Int :=
 if polM x.1 ≠ 0 then polM x.1
 else if (QN x.2.1 = 0 ∧ x.2.1.length = 192) ∧ x.2.2.1.length = x.1.1.length then
  (match Qiv x.2.2.1 with
   | some c => c
   | none => if inB x.2.2.2.2.2.1 0 1000000 = true then (if x.2.2.2.1 = (Qbj x.1 x.2.2.2.2.2.1).1 ∧ x.2.2.2.2.1 = (Qbj x.1 x.2.2.2.2.2.1).2 then 0 else 1) else 3)
 else 1
theorem Qlw (m : List Int) (h : m.length ≤ 1048576) : F_ca (m, ()) = some ((decide (QN m = 0 ∧ m.length = 192), ()), ()) := by
 unfold F_ca
 rw [Qlq m (leM h), Obn]
 dsimp only
 by_cases h0 : QN m = 0
 ·rw [if_pos (by simpa using h0)]
  by_cases h1 : m.length = 192
  ·simp [h0, h1]
  ·have : ¬ ((m.length : Nat) : Int) = 192 := by omega
   simp [h0, h1, this]
 ·rw [if_neg (by simpa using h0)]
  simp [h0]
theorem Qhy (x : Qx) (h : Qhe 1048576 x) : F_ce (x, ()) = some ((QaM x, ()), ()) := by
 obtain ⟨hp, h1, h2, h3⟩ := h
 let bx : (den (.slice (.slice (.int .i64)))) × List QA × List TwoD × List TwoD × List Int × List QY × Int × Int × Int × Unit := (x.1.1, x.1.2.1, x.1.2.2.1, x.1.2.2.2.1, x.2.1, x.2.2.1, x.2.2.2.1, x.2.2.2.2.1, x.2.2.2.2.2.1, ())
 have key := Qak (step := l_ce_7) (γ := denO o_ce_7) (fun i => (((), x.2.2.1, ((x.2.2.1.length : Nat) : Int), ((i : Nat) : Int), ()), (bx, ()), ())) x.2.2.1 (fun (_ : Nat) h => nz (hartM h))
  (fun c => some (.inr (.inl ((c, ()), (), ())))) (some (.inl (((), ()), (bx, ()), ()))) (QbI h2) ?_ ?_
 ·have e0 : ((0 : Nat) : Int) = 0 := rfl
  rw [e0] at key
  unfold F_ce QaM
  dsimp only
  rw [Qgd x.1 hp, Obn]
  dsimp only
  by_cases g0 : polM x.1 = 0
  case neg => rw [if_pos (by simpa using g0), if_pos g0]
  have n0 : ¬ polM x.1 ≠ 0 := by simpa using g0
  have hG : ∀ P : Prop, ¬ P → ¬ (P ∧ x.2.2.1.length = x.1.1.length) := fun P h g => h g.1
  rw [if_neg (by simpa using g0), if_neg n0, Qlw _ h1, Obn]
  dsimp only
  by_cases g1 : QN x.2.1 = 0 ∧ x.2.1.length = 192
  case neg => rw [if_neg (by simpa using g1), if_neg (hG _ g1)]
  rw [if_pos (by simpa using g1)]
  by_cases g2 : x.2.2.1.length = x.1.1.length
  case neg =>
   have : ¬ ((x.2.2.1.length : Nat) : Int) = ((x.1.1.length : Nat) : Int) := by omega
   rw [if_pos (by simpa using this), if_neg (fun g : (QN x.2.1 = 0 ∧ x.2.1.length = 192) ∧ x.2.2.1.length = x.1.1.length => g2 g.2)]
  have hH : (QN x.2.1 = 0 ∧ x.2.1.length = 192) ∧ x.2.2.1.length = x.1.1.length := ⟨g1, g2⟩
  rw [if_neg (by rw [g2]; simp), if_pos hH]
  show (Qc l_ce_7 lots (((), x.2.2.1, ((x.2.2.1.length : Nat) : Int), 0, ()), (bx, ()), ())).bind _ = _
  rw [key]
  unfold Qiv
  cases scan (fun (_ : Nat) h => nz (hartM h)) 0 x.2.2.1 with
  | some c => rfl
  | none =>
   rw [Obn]
   dsimp only [bx]
   rw [Qaq, Obn]
   dsimp only
   cases g3 : inB x.2.2.2.2.2.1 0 1000000
   ·simp
   ·rw [if_neg (by simp), if_pos rfl]
    show (F_cd (x.1, x.2.2.2.2.2.1, ())).bind _ = _
    rw [QmJ x.1 _ (QdM g0) (QdE.1 g3).1, Obn]
    dsimp only
    by_cases g4 : x.2.2.2.1 = (Qbj x.1 x.2.2.2.2.2.1).1
    ·by_cases g5 : x.2.2.2.2.1 = (Qbj x.1 x.2.2.2.2.2.1).2
     ·rw [if_pos (by simpa using g4), if_neg (by simpa using g5), if_pos ⟨g4, g5⟩]
     ·rw [if_pos (by simpa using g4), if_pos (by simpa using g5), if_neg (fun h => g5 h.2)]
    ·rw [if_neg (by simpa using g4), if_neg (fun h => g4 h.1)]
 ·intro rec i hi
  unfold l_ce_7
  dsimp only
  rw [if_pos (lt_t hi), if_pos nat0, Qr hi, QmA _ (h3 _ (List.getElem_mem hi)), Obn, QW (lt1 hi h2)]
  dsimp only
  unfold nz
  by_cases g : hartM x.2.2.1[i] = 0
  ·rw [if_neg (by simpa using g), if_neg (by simpa using g)]
  ·rw [if_pos (by simpa using g), if_pos (by simpa using g)]
 ·intro rec
  unfold l_ce_7
  dsimp only
  rw [if_neg QaP]
theorem Qgz {x : Qx} (h : QaM x = 0) : polM x.1 = 0 := by
 unfold QaM at h
 split at h
 ·rename_i h'; exact absurd h h'
 ·rename_i h'; simpa using h'
def Byt (c : List Int) : Prop := (∀ b ∈ c, 0 ≤ b ∧ b ≤ 255) ∧ c.length ≤ 1048580
theorem Qdu {c : List Int} (hc : Byt c) (a n : Int) (ha : 0 ≤ a ∧ a ≤ 1099511627776) :
  ∃ v : Int, F_c ((c, a, ()), n, ()) = some ((v, ()), ((c, a + 1, ()), ())) ∧ 0 ≤ v ∧ (v < n ∨ v = 0) := by
 unfold F_c
 dsimp only
 rw [Qu (n := a + 1) (by omega) (by omega), Qu (n := a + 1 - 1) (by omega) (by omega)]
 have e1 : a + 1 - 1 = a := by omega
 rw [e1]
 by_cases h1 : n < 1
 ·exact ⟨0, by rw [if_pos (QM.2 h1)], Int.le_refl 0, .inr rfl⟩
 rw [if_neg (by rw [QM]; exact h1)]
 have hn : ¬ n = 0 := by omega
 by_cases h2 : c.length = 0
 ·rw [if_pos (by rw [h2]; rfl), if_neg hn, Qu (n := a * 7) (by omega) (by omega)]
  exact ⟨(a * 7).tmod n, rfl, Int.tmod_nonneg _ (by omega), .inl (Int.tmod_lt_of_pos _ (by omega))⟩
 have h3 : ¬ ((c.length : Nat) : Int) = 0 := by omega
 have p1 : 0 ≤ a.tmod ((c.length : Nat) : Int) := Int.tmod_nonneg _ ha.1
 have p2 : a.tmod ((c.length : Nat) : Int) < ((c.length : Nat) : Int) := Int.tmod_lt_of_pos _ (by omega)
 have p3 : 0 ≤ (a + 1).tmod ((c.length : Nat) : Int) := Int.tmod_nonneg _ (by omega)
 have p4 : (a + 1).tmod ((c.length : Nat) : Int) < ((c.length : Nat) : Int) := Int.tmod_lt_of_pos _ (by omega)
 have p5 : 0 ≤ a.tdiv ((c.length : Nat) : Int) := Int.tdiv_nonneg ha.1 (by omega)
 have p6 : a.tdiv ((c.length : Nat) : Int) ≤ a := Int.tdiv_le_self _ ha.1
 obtain ⟨y, hy⟩ : ∃ y, c[(a.tmod ((c.length : Nat) : Int)).toNat]? = some y := ⟨_, List.getElem?_eq_getElem (by omega)⟩
 obtain ⟨z, hz⟩ : ∃ z, c[((a + 1).tmod ((c.length : Nat) : Int)).toNat]? = some z := ⟨_, List.getElem?_eq_getElem (by omega)⟩
 have by_ := hc.1 y (List.mem_of_getElem? hy)
 have bz := hc.1 z (List.mem_of_getElem? hz)
 rw [if_neg (by simpa using h3), if_neg h3, if_pos p1, hy, Obn]
 generalize a.tdiv ((c.length : Nat) : Int) = d at p5 p6 ⊢
 rw [Qu (n := y) (by omega) (by omega), Qu (n := d) (by omega) (by omega), Qu (n := d * 37) (by omega) (by omega), Qu (n := y + d * 37) (by omega) (by omega)]
 by_cases h4 : (200 : Int) < n
 ·rw [if_neg h3, if_pos (QM.2 h4), if_neg h3]
  rw [Qu (n := (y + d * 37) * 251) (by omega) (by omega), Qu (n := a + 1) (by omega) (by omega), if_pos p3, hz, Obn, Qu (n := z) (by omega) (by omega), Qu (n := z * 13) (by omega) (by omega),
   Qu (n := (y + d * 37) * 251 + z * 13) (by omega) (by omega), Qu (n := (y + d * 37) * 251 + z * 13 + a) (by omega) (by omega), if_neg hn]
  exact ⟨_, rfl, Int.tmod_nonneg _ (by omega), .inl (Int.tmod_lt_of_pos _ (by omega))⟩
 ·rw [if_neg h3, if_neg (by rw [QM]; exact h4), if_neg hn]
  exact ⟨_, rfl, Int.tmod_nonneg _ (by omega), .inl (Int.tmod_lt_of_pos _ (by omega))⟩
def QcX (x : denP P_c) : Int := match F_c x with | some r => r.1.1 | none => 0
def QkA (x : denP P_d) : Int := match F_d x with | some r => r.1.1 | none => 0
def Qlm (x : denP P_c) : Bool := match F_t x with | some r => r.1.1 | none => false
def QpF (x : denP P_m) : Int := match F_u x with | some r => r.1.1 | none => 0
theorem Qpg (x : denP P_c) (hc : Byt x.1.1) (ha : 0 ≤ x.1.2.1 ∧ x.1.2.1 ≤ 1099511627776) : F_c x = some ((QcX x, ()), ((x.1.1, x.1.2.1 + 1, ()), ())) := by
 obtain ⟨⟨c, a, _⟩, n, _⟩ := x
 obtain ⟨v, e, h0, h1⟩ := Qdu hc a n ha
 unfold QcX
 rw [e]
theorem Qus (x : denP P_c) (hc : Byt x.1.1) (ha : 0 ≤ x.1.2.1 ∧ x.1.2.1 ≤ 1099511627776) : 0 ≤ QcX x ∧ (QcX x < x.2.1 ∨ QcX x = 0) := by
 obtain ⟨⟨c, a, _⟩, n, _⟩ := x
 obtain ⟨v, e, h0, h1⟩ := Qdu hc a n ha
 unfold QcX
 rw [e]
 exact ⟨h0, h1⟩
theorem QlI {c : List Int} (hc : Byt c) (a : Int) (l : List Int) (ha : 0 ≤ a ∧ a ≤ 1099511627776) (hl : l ≠ []) :
  ∃ v : Int, F_d ((c, a, ()), l, ()) = some ((v, ()), ((c, a + 1, ()), ())) ∧ v ∈ l := by
 have hpos : 0 < l.length := List.length_pos_iff.2 hl
 obtain ⟨v, e, h0, h1⟩ := Qdu hc a ((l.length : Nat) : Int) ha
 unfold F_d
 dsimp only
 rw [e, Obn]
 dsimp only
 have hv : v.toNat < l.length := by omega
 rw [if_pos h0, List.getElem?_eq_getElem hv, Obn]
 exact ⟨_, rfl, List.getElem_mem hv⟩
theorem Qpm (x : denP P_d) (hl : x.2.1.isEmpty = false) (hc : Byt x.1.1) (ha : 0 ≤ x.1.2.1 ∧ x.1.2.1 ≤ 1099511627776) : F_d x = some ((QkA x, ()), ((x.1.1, x.1.2.1 + 1, ()), ())) := by
 obtain ⟨⟨c, a, _⟩, l, _⟩ := x
 obtain ⟨v, e, h0⟩ := QlI hc a l ha (by rintro rfl; cases hl)
 unfold QkA
 rw [e]
theorem Quz (x : denP P_d) (hl : x.2.1.isEmpty = false) (hc : Byt x.1.1) (ha : 0 ≤ x.1.2.1 ∧ x.1.2.1 ≤ 1099511627776) : QkA x ∈ x.2.1 := by
 obtain ⟨⟨c, a, _⟩, l, _⟩ := x
 obtain ⟨v, e, h0⟩ := QlI hc a l ha (by rintro rfl; cases hl)
 unfold QkA
 rw [e]
 exact h0
theorem QpT (x : denP P_c) (hc : Byt x.1.1) (ha : 0 ≤ x.1.2.1 ∧ x.1.2.1 ≤ 1099511627776) : F_t x = some ((Qlm x, ()), ((x.1.1, x.1.2.1 + 1, ()), ())) := by
 obtain ⟨⟨c, a, _⟩, n, _⟩ := x
 obtain ⟨v, e, h0, h1⟩ := Qdu hc a n ha
 have : F_t ((c, a, ()), n, ()) = some ((v == 0, ()), ((c, a + 1, ()), ())) := by
  unfold F_t
  dsimp only
  rw [e, Obn]
 unfold Qlm
 rw [this]
theorem QtK {c : List Int} (hc : Byt c) (a : Int) (ha : 0 ≤ a ∧ a ≤ 1073741824) : ∃ v : Int, F_u ((c, a, ()), ()) = some ((v, ()), ((c, a + 5, ()), ())) ∧ 0 ≤ v ∧ v ≤ 4294967295 := by
 obtain ⟨v1, e1, a1, b1⟩ := Qdu hc a 90 (by omega)
 obtain ⟨v2, e2, a2, b2⟩ := Qdu hc (a + 1) 9 (by omega)
 obtain ⟨v3, e3, a3, b3⟩ := Qdu hc (a + 1 + 1) 9 (by omega)
 obtain ⟨v4, e4, a4, b4⟩ := Qdu hc (a + 1 + 1 + 1) 60000 (by omega)
 unfold F_u
 dsimp only
 rw [e1, Obn, e2, Obn, e3, Obn]
 dsimp only
 rw [e4, Obn]
 dsimp only
 rw [Qu (n := 4294967295 - v3) (by omega) (by omega), Qu (n := v4 * 70000) (by omega) (by omega)]
 obtain ⟨v, e, hv⟩ := QlI hc (a + 1 + 1 + 1 + 1) [v1, v2, 4294967295 - v3, 2147483648, 2147483647, 0, v4 * 70000] (by omega) (by simp)
 rw [e, Obn]
 refine ⟨v, ?_, ?_⟩
 ·have : a + 1 + 1 + 1 + 1 + 1 = a + 5 := by omega
  rw [this]
 ·simp at hv
  omega
theorem QtL (x : denP P_m) (hc : Byt x.1.1) (ha : 0 ≤ x.1.2.1 ∧ x.1.2.1 ≤ 1073741824) : F_u x = some ((QpF x, ()), ((x.1.1, x.1.2.1 + 5, ()), ())) := by
 obtain ⟨⟨c, a, _⟩, _⟩ := x
 obtain ⟨v, e, h0⟩ := QtK hc a ha
 unfold QpF
 rw [e]
theorem QcA {c : List Int} (hc : Byt c) (a n : Int) (ha : 0 ≤ a ∧ a ≤ 1099511627776) : F_c ((c, a, ()), n, ()) = some ((QcX ((c, a, ()), n, ()), ()), ((c, a + 1, ()), ())) := Qpg _ hc ha
theorem Qpn {c : List Int} (hc : Byt c) (a : Int) (x : Int) (l : List Int) (ha : 0 ≤ a ∧ a ≤ 1099511627776) : F_d ((c, a, ()), x :: l, ()) = some ((QkA ((c, a, ()), x :: l, ()), ()), ((c, a + 1, ()), ())) := Qpm _ rfl hc ha
theorem QpU {c : List Int} (hc : Byt c) (a n : Int) (ha : 0 ≤ a ∧ a ≤ 1099511627776) : F_t ((c, a, ()), n, ()) = some ((Qlm ((c, a, ()), n, ()), ()), ((c, a + 1, ()), ())) := QpT _ hc ha
theorem QtM {c : List Int} (hc : Byt c) (a : Int) (ha : 0 ≤ a ∧ a ≤ 1073741824) : F_u ((c, a, ()), ()) = some ((QpF ((c, a, ()), ()), ()), ((c, a + 5, ()), ())) := QtL _ hc ha
abbrev InsD := Int × Int × Int × Int × Unit
theorem QoO (op : Int) : ∃ b1 b2 b3 : Bool, F_o (op, ()) = some ((b1, b2, b3, ()), ()) := by
 unfold F_o
 dsimp only
 repeat' split
 all_goals exact ⟨_, _, _, rfl⟩
theorem Qrt {α β : Type} {P : α → β} {c : Prop} [Decidable c] {a b : β} (ha : ∃ v, a = P v) (hb : ∃ v, b = P v) : ∃ v, (if c then a else b) = P v := by split <;> assumption
theorem QmL (x : InsD) : ∃ v : Int, F_r (x, ()) = some ((v, ()), ()) := by
 obtain ⟨b1, b2, b3, e⟩ := QoO x.1
 unfold F_r
 dsimp only
 rw [Qcg, Qcg, Qcg, Qcg, e]
 simp only [Obn]
 repeat' (first | exact ⟨_, rfl⟩ | refine Qrt (P := fun v : Int => some ((v, ()), ())) ?_ ?_)
theorem QpX (x : InsD) : ∃ v : Int × Int × Unit, F_s (x, ()) = some ((v, ()), ()) := by
 obtain ⟨v, e⟩ := QmL x
 unfold F_s
 dsimp only
 rw [e, Obn]
 dsimp only
 split <;> exact ⟨_, rfl⟩
theorem QrK {c : List Int} (hc : Byt c) (a : Int) (ha : 0 ≤ a ∧ a ≤ 1000000000) : ∃ v : InsD, F_p ((c, a, ()), ()) = some ((v, ()), ((c, a + 1 + 1 + 1 + 1 + 1 + 1 + 1, ()), ())) := by
 unfold F_p
 dsimp only
 rw [QcA hc, Obn]
 dsimp only
 generalize QcX _ = v1
 rw [QcA hc, Obn]
 dsimp only
 generalize QcX _ = v2
 rw [QcA hc, Obn]
 dsimp only
 generalize QcX _ = v3
 rw [QcA hc, Obn]
 dsimp only
 generalize QcX _ = v4
 rw [QcA hc, Obn]
 dsimp only
 generalize QcX _ = v5
 rw [QcA hc, Obn]
 dsimp only
 generalize QcX _ = v6
 rw [Qpn hc, Obn]
 dsimp only
 generalize QkA _ = v7
 obtain ⟨b1, b2, b3, e⟩ := QoO (IntKind.i64.wrap (1 + v1))
 rw [e, Obn]
 dsimp only
 repeat' (first | exact ⟨_, rfl⟩ | refine Qrt (P := fun v : InsD => some ((v, ()), ((c, a + 1 + 1 + 1 + 1 + 1 + 1 + 1, ()), ()))) ?_ ?_)
 all_goals omega
def Drew {T : Type} (o : Option ((T × Unit) × (List Int × Int × Unit) × Unit)) (c : List Int) (a k : Int) : Prop := ∃ (v : T) (a' : Int), o = some ((v, ()), ((c, a', ()), ())) ∧ a ≤ a' ∧ a' ≤ a + k
theorem Drew.ite {T : Type} {p : Prop} [Decidable p] {x y : Option ((T × Unit) × (List Int × Int × Unit) × Unit)} {c : List Int} {a k : Int} (hx : Drew x c a k) (hy : Drew y c a k) : Drew (if p then x else y) c a k := by split <;> assumption
theorem QrL {c : List Int} (hc : Byt c) (a : Int) (ha : 0 ≤ a ∧ a ≤ 100000000) : Drew (T := InsD) (F_q ((c, a, ()), ())) c a 20 := by
 unfold F_q
 dsimp only
 rw [QcA hc, Obn]
 dsimp only
 generalize IntKind.i64.wrap (1 + QcX _) = v1
 rw [QcA hc, Obn]
 dsimp only
 generalize QcX _ = v2
 obtain ⟨v, e⟩ := QrK hc (a + 1 + 1) (by omega)
 rw [e]
 repeat' (first
  | refine Drew.ite ?_ ?_
  | (rw [QcA hc, Obn]; dsimp only)
  | (rw [Qpn hc, Obn]; dsimp only)
  | exact ⟨_, _, rfl, by omega, by omega⟩
  | omega
  | (rw [Obn]; dsimp only))
theorem QrB {c : List Int} (hc : Byt c) (n a : Int) (ha : 0 ≤ a ∧ a ≤ 10000000) (hn : n ≤ 1000) : ∃ (m : List Int) (a' : Int), F_v ((c, a, ()), n, ()) = some ((m, ()), ((c, a', ()), ())) ∧ (m.length : Int) = (if n < 0 then 0 else n) ∧ a ≤ a' ∧ a' ≤ a + 26 * (if n < 0 then 0 else n) := by
 have key : ∀ f (k : Nat) (m : List Int) (a : Int), k < f → k ≤ 1000 → 0 ≤ a ∧ a ≤ 100000000 - 26 * (k : Int) → m.length ≤ 1000 - k →
   ∃ (m' : List Int) (a' : Int), Qc l_v_2 f (((), (k : Int), m, ()), ((c, a, ()), ()), ()) = some (.inl ((m', ()), ((c, a', ()), ()), ())) ∧ m'.length = m.length + k ∧ a ≤ a' ∧ a' ≤ a + 26 * (k : Int) := by
  intro f
  induction f with
  | zero => intro k _ _ h; omega
  | succ f ih =>
   intro k m a hk hk2 ha hm
   simp only [Qc]
   generalize Qc l_v_2 f = rec at ih ⊢
   unfold l_v_2
   dsimp only
   by_cases h0 : 0 < k
   ·obtain ⟨x, a1, e1, g1, g2⟩ := QrL hc a (by omega)
    obtain ⟨w, e2⟩ := QpX x
    rw [if_pos (by rw [QM]; omega), e1, Obn, e2, Obn]
    dsimp only
    rw [QpU hc _ _ (by omega), Obn]
    dsimp only
    have ew : IntKind.i64.wrap ((k : Int) - 1) = ((k - 1 : Nat) : Int) := by rw [Qu (by omega) (by omega)]; omega
    rw [ew]
    split
    ·rw [QtM hc _ (by omega), Obn]
     dsimp only
     rw [if_pos (by simp; omega)]
     obtain ⟨m', a', i1, i2, i3, i4⟩ := ih (k - 1) (m ++ [QpF ((c, a1 + 1, ()), ())]) (a1 + 1 + 5) (by omega) (by omega) (by omega) (by simp; omega)
     exact ⟨m', a', i1, by rw [i2]; simp; omega, by omega, by omega⟩
    ·rw [if_pos (by simp; omega)]
     obtain ⟨m', a', i1, i2, i3, i4⟩ := ih (k - 1) (m ++ [w.2.1]) (a1 + 1) (by omega) (by omega) (by omega) (by simp; omega)
     exact ⟨m', a', i1, by rw [i2]; simp; omega, by omega, by omega⟩
   ·have : k = 0 := by omega
    subst this
    rw [if_neg (by rw [QM]; omega)]
    exact ⟨m, a, rfl, by omega, by omega, by omega⟩
 unfold F_v
 dsimp only
 by_cases h0 : n < 0
 ·have : L_v_2 (((), n, [], ()), ((c, a, ()), ()), ()) = some (.inl (([], ()), ((c, a, ()), ()), ())) := by
   show Qc l_v_2 lots _ = _
   rw [QuT, Quo]
   unfold l_v_2
   dsimp only
   rw [if_neg (by rw [QM]; omega)]
  rw [this, Obn, if_pos h0]
  exact ⟨[], a, rfl, rfl, by omega, by omega⟩
 ·obtain ⟨m', a', i1, i2, i3, i4⟩ := key lots n.toNat [] a (by rw [QK]; omega) (by omega) (by omega) (by simp)
  have en : ((n.toNat : Nat) : Int) = n := by omega
  rw [en] at i1 i4
  rw [if_neg h0]
  show ∃ m a', (Qc l_v_2 lots (((), n, [], ()), ((c, a, ()), ()), ())).bind _ = _ ∧ _
  rw [i1, Obn]
  exact ⟨m', a', rfl, by rw [i2]; simp; omega, i3, i4⟩
def QaA (x : Qx) (n : Int) : Bool := inB n 0 200 && leI (IntKind.i64.wrap (x.2.2.2.2.2.1 + n)) 1000000
theorem Qlz {c : Int} (h : nz c = none) : c = 0 := by
 unfold nz at h
 split at h
 ·cases h
 ·rename_i h'; simpa using h'
theorem Qcq {p : PolD} (hok : OkPol p) : ∀ l ∈ p.2.1, (isG p l.1 = true ∧ isG p l.2.1 = true ∧ l.1 ≠ l.2.1) ∧ (0 ≤ l.2.2.1 ∧ l.2.2.1 ≤ 23) ∧ (5 ≤ l.2.2.2.1 ∧ l.2.2.2.1 ≤ 6) ∧ 5 ≤ l.2.2.2.2.1 ∧ l.2.2.2.2.1 ≤ 6 := by
 intro l hl
 obtain ⟨i, e⟩ := QaS hok.lanes.2 l hl
 have e := Qlz e
 unfold QdG at e
 split at e
 ·rename_i h; exact absurd e h
 ·rename_i h0
  split at e
  ·rename_i h1
   refine ⟨?_, QdE.1 h1.1, QdE.1 h1.2.1, QdE.1 h1.2.2⟩
   have h0 : Qcu p l.1 l.2.1 = 0 := by simpa using h0
   unfold Qcu at h0
   split at h0
   ·rename_i g1
    split at h0
    ·rename_i g2
     split at h0
     ·cases h0
     ·rename_i g3; exact ⟨g1, g2, g3⟩
    ·cases h0
   ·cases h0
  ·cases e
theorem Qaz {p : PolD} {g : Int} : isG p g = true ↔ 0 ≤ g ∧ g < (p.1.length : Int) := by unfold isG; simp; omega
def pg (m : List Int) (p : Int) : List Int := (m.drop (8 * p.toNat)).take 8
def Qaf (m : List Int) (l : List Int) : List Int := l.flatMap (pg m)
theorem QlF (m : List Int) (p : Int) : (pg m p).length ≤ 8 := by unfold pg; simp; omega
theorem Qgj (m : List Int) : ∀ l : List Int, (Qaf m l).length ≤ 8 * l.length
 | [] => by simp [Qaf]
 | p :: r => by
  have h1 := Qgj m r
  have h2 := QlF m p
  unfold Qaf at h1 ⊢
  rw [List.flatMap_cons, List.length_append, List.length_cons]; omega
theorem QoE (m : List Int) {l : List Int} {k : Nat} (h : k < l.length) : Qaf m (l.drop k) = pg m l[k] ++ Qaf m (l.drop (k + 1)) := by
 rw [Qba h]; rfl
theorem Qhz (m : List Int) (p : Int) (hm : m.length ≤ 192) (hp : 0 ≤ p ∧ 8 * p + 8 ≤ (m.length : Int)) : F_cn (m, p, ()) = some ((pg m p, ()), ()) := by
 obtain ⟨P, rfl⟩ : ∃ P : Nat, p = (P : Int) := ⟨p.toNat, by omega⟩
 rw [Qkz m P (by omega) hm]
 unfold pg
 rw [Int.toNat_natCast]
theorem Qlx (m l : List Int) (hm : m.length ≤ 192) (hp : ∀ p ∈ l, 0 ≤ p ∧ 8 * p + 8 ≤ (m.length : Int)) (hl : l.length ≤ 1000) : F_co (m, l, ()) = some ((Qaf m l, ()), ()) := by
 have key := QgE (step := l_co_3) (γ := denO o_bo_3) (fun k (out : List Int) => ((m, out, l, ((l.length : Nat) : Int), ((k : Nat) : Int), ()), (), ())) l.length (Qbf (by omega)) (fun k out => out.length ≤ 8 * k)
  (fun k out => some (.inl ((out ++ Qaf m (l.drop k), ()), (), ()))) ?_ 0 [] (by omega) (by simp)
 ·have e0 : ((0 : Nat) : Int) = 0 := rfl
  rw [e0, List.drop_zero, List.nil_append] at key
  unfold F_co
  show (Qc l_co_3 lots _).bind _ = _
  rw [key, Obn]
 ·rintro rec k out hk ho ih
  unfold l_co_3
  dsimp only
  by_cases hlt : k < l.length
  ·have hy := hp _ (List.getElem_mem hlt)
   rw [if_pos (lt_t hlt), if_pos nat0, Qr hlt, Qhz m _ hm hy, Obn]
   dsimp only
   rw [if_pos (by have := QlF m l[k]; omega), QW (by omega), QoE m hlt]
   rw [ih (out ++ pg m l[k]) hlt (by have := QlF m l[k]; rw [List.length_append]; omega), List.append_assoc]
  ·rw [if_neg (lt_f hlt), Qce hlt]
   simp [Qaf]
def Qaw (g : Int) (b : Bool) : List QA → List Int
 | [] => []
 | l :: r => if l.1 = g then (if b = true then l.2.2.1 else l.2.2.2.1) :: Qaw g b r else Qaw g b r
theorem Qir (g : Int) (b : Bool) : ∀ ls : List QA, (Qaw g b ls).length ≤ ls.length
 | [] => by simp [Qaw]
 | l :: r => by
  have := Qir g b r
  simp only [Qaw]
  split
  ·simp only [List.length_cons]; omega
  ·simp only [List.length_cons]; omega
theorem Qga {g : Int} {b : Bool} : ∀ {ls : List QA}, ∀ v ∈ Qaw g b ls, ∃ l ∈ ls, l.1 = g ∧ v = if b = true then l.2.2.1 else l.2.2.2.1
 | [], v, h => by simp [Qaw] at h
 | l :: r, v, h => by
  simp only [Qaw] at h
  split at h
  ·rename_i hg
   rcases List.mem_cons.1 h with h | h
   ·exact ⟨l, by simp, hg, h⟩
   ·obtain ⟨l', h1, h2⟩ := Qga v h
    exact ⟨l', by simp [h1], h2⟩
  ·obtain ⟨l', h1, h2⟩ := Qga v h
   exact ⟨l', by simp [h1], h2⟩
def Qag : QY := ([], 0, [], false, false, false, 0, [], [], ())
theorem Qgs (m : List Int) (h : m.length ≤ 1048576) : F_av (m, ()) = some ((m, ()), ()) := by
 unfold F_av
 rw [if_pos (by simp only [List.length_nil]; omega)]
 rfl
theorem Qiu (h : QY) (hl : QcS 1048576 h) : F_cl (h, ()) = some ((h, ()), ()) := by
 obtain ⟨l1, l2, l3, l4⟩ := hl
 unfold F_cl
 dsimp only
 rw [Qgs _ l1, Obn, Qgs _ l2, Obn, Qgs _ l3, Obn, Qgs _ l4, Obn]
abbrev Qre := Int × List Int × Int × List Int × Bool × Bool × Bool × Int × List Int × List Int × List Int × List Int × Unit
def Qjv (c : Int) (h : QY) (o g : List Int) : Qre := (c, h.1, h.2.1, h.2.2.1, h.2.2.2.1, h.2.2.2.2.1, h.2.2.2.2.2.1, h.2.2.2.2.2.2.1, h.2.2.2.2.2.2.2.1, h.2.2.2.2.2.2.2.2.1, o, g, ())
def QpE (x : Qx) (g : Int) : Qre :=
 if QaM x ≠ 0 then Qjv (QaM x) Qag [] []
 else if isG x.1 g = true then Qjv 0 (x.2.2.1.getD g.toNat Qag) (Qaf x.2.1 (x.1.1.getD g.toNat [])) (Qaf x.2.1 (Qaw g true x.1.2.1))
 else Qjv 4 Qag [] []
theorem QrA {x : Qx} (h : QaM x = 0) : x.2.1.length = 192 ∧ x.2.2.1.length = x.1.1.length := by
 have hp := Qgz h
 unfold QaM at h
 rw [if_neg (by simpa using hp)] at h
 split at h
 ·rename_i g; exact ⟨g.1.2, g.2⟩
 ·cases h
theorem Qmx {x : Qx} {g : Int} (hx : Qhe 1048576 x) (h : QaM x = 0) (hg : isG x.1 g = true) :
  (0 ≤ g ∧ x.2.2.1[g.toNat]? = some (x.2.2.1.getD g.toNat Qag) ∧ x.1.1[g.toNat]? = some (x.1.1.getD g.toNat [])) ∧ QcS 1048576 (x.2.2.1.getD g.toNat Qag) ∧
   ((x.1.1.getD g.toNat []).length ≤ 5 ∧ ∀ p ∈ x.1.1.getD g.toNat [], 0 ≤ p ∧ 8 * p + 8 ≤ (x.2.1.length : Int)) ∧ ∀ p ∈ Qaw g true x.1.2.1, 0 ≤ p ∧ 8 * p + 8 ≤ (x.2.1.length : Int) := by
 obtain ⟨g0, g1⟩ := Qaz.1 hg
 obtain ⟨hm, hh⟩ := QrA h
 have hok := QdM (Qgz h)
 have hk1 : g.toNat < x.1.1.length := by omega
 have hk2 : g.toNat < x.2.2.1.length := by omega
 have e1 : x.1.1[g.toNat]? = some (x.1.1.getD g.toNat []) := by rw [List.getD_eq_getElem?_getD, List.getElem?_eq_getElem hk1]; rfl
 have e2 : x.2.2.1[g.toNat]? = some (x.2.2.1.getD g.toNat Qag) := by rw [List.getD_eq_getElem?_getD, List.getElem?_eq_getElem hk2]; rfl
 refine ⟨⟨g0, e2, e1⟩, hx.2.2.2 _ (List.mem_of_getElem? e2), ⟨(hok.own1 _ (List.mem_of_getElem? e1)).2.1, fun p hp => ?_⟩, fun p hp => ?_⟩
 ·have := (hok.own1 _ (List.mem_of_getElem? e1)).2.2 p hp
  omega
 ·obtain ⟨l, hl, _, e⟩ := Qga p hp
  rw [if_pos rfl] at e
  have := (Qcq hok l hl).2.1
  omega
def vrLe (r : Qre) : Prop := r.2.1.length ≤ 1048576 ∧ r.2.2.2.1.length ≤ 1048576 ∧ r.2.2.2.2.2.2.2.2.1.length ≤ 1048576 ∧ r.2.2.2.2.2.2.2.2.2.1.length ≤ 1048576 ∧ r.2.2.2.2.2.2.2.2.2.2.1.length ≤ 1048576 ∧ r.2.2.2.2.2.2.2.2.2.2.2.1.length ≤ 1048576
theorem QkX (c : Int) : vrLe (Qjv c Qag [] []) := by unfold vrLe Qjv Qag; simp
theorem QsE (x : Qx) (g : Int) (hx : Qhe 1048576 x) : vrLe (QpE x g) := by
 unfold QpE
 split
 ·exact QkX _
 ·rename_i h0
  have h0 : QaM x = 0 := by simpa using h0
  split
  ·rename_i hg
   obtain ⟨_, a1, ⟨a2, a3⟩, a4⟩ := Qmx hx h0 hg
   have w1 := Qgj x.2.1 (x.1.1.getD g.toNat [])
   have w2 := Qgj x.2.1 (Qaw g true x.1.2.1)
   have w3 := Qir g true x.1.2.1
   have w4 := (QdM (Qgz h0)).lanes.1
   exact ⟨a1.1, a1.2.1, a1.2.2.1, a1.2.2.2, by show (Qaf _ _).length ≤ _; omega, by show (Qaf _ _).length ≤ _; omega⟩
  ·exact QkX _
abbrev QaU := QY × List TwoD × List Int × Unit
def QmZ (top : Int) (p : TwoD) : Option Int := if inB p.1 (-1) (top - 1) = true then (if inB p.2.1 0 7 = true then (if p.1 = -1 then nz (if p.2.1 = 0 then 0 else 1) else none) else some 3) else some 3
def Qhm (l : List TwoD) (top : Int) : Int := if inB top 1 24 = true then (if l.length = 8 then (match scan (fun (_ : Nat) p => QmZ top p) 0 l with | some c => c | none => 0) else 1) else 3
def Qcw (x : QaU) : Int := if hartM x.1 ≠ 0 then hartM x.1 else if Qhm x.2.1 8 ≠ 0 then Qhm x.2.1 8 else if QN x.2.2.1 = 0 ∧ x.2.2.1.length = 64 then 0 else 1
theorem Qeo {x : QaU} (h : Qcw x = 0) : hartM x.1 = 0 ∧ Qhm x.2.1 8 = 0 ∧ QN x.2.2.1 = 0 ∧ x.2.2.1.length = 64 := by
 unfold Qcw at h
 split at h
 ·rename_i g; exact absurd h g
 ·rename_i g0
  split at h
  ·rename_i g; exact absurd h g
  ·rename_i g1
   split at h
   ·rename_i g2; exact ⟨by simpa using g0, by simpa using g1, g2⟩
   ·cases h
def WW (n : Int) : Prop := 0 ≤ n ∧ n ≤ 4294967295
theorem Quq (n : Int) : iand .i64 n 4294967295 = n % 4294967296 := by
 have h1 : (BitVec.ofInt 64 4294967295).toNat = 2 ^ 32 - 1 := by decide
 have key : (BitVec.ofInt 64 n &&& BitVec.ofInt 64 4294967295).toNat = (n % ((2 ^ 64 : Nat) : Int)).toNat % 2 ^ 32 := by
  rw [BitVec.toNat_and, BitVec.toNat_ofInt, h1, Nat.and_two_pow_sub_one_eq_mod]
 show IntKind.i64.wrap ((BitVec.ofInt 64 n &&& BitVec.ofInt 64 4294967295).toNat : Nat) = _
 rw [key, IntKind.wrap_i64]
 omega
theorem QrQ (n : Int) : iand .i64 n 65535 = n % 65536 := by
 have h1 : (BitVec.ofInt 64 65535).toNat = 2 ^ 16 - 1 := by decide
 have key : (BitVec.ofInt 64 n &&& BitVec.ofInt 64 65535).toNat = (n % ((2 ^ 64 : Nat) : Int)).toNat % 2 ^ 16 := by
  rw [BitVec.toNat_and, BitVec.toNat_ofInt, h1, Nat.and_two_pow_sub_one_eq_mod]
 show IntKind.i64.wrap ((BitVec.ofInt 64 n &&& BitVec.ofInt 64 65535).toNat : Nat) = _
 rw [key, IntKind.wrap_i64]
 omega
theorem QtU (n : Int) : iand .i64 n 15 = n % 16 := by
 have h1 : (BitVec.ofInt 64 15).toNat = 2 ^ 4 - 1 := by decide
 have key : (BitVec.ofInt 64 n &&& BitVec.ofInt 64 15).toNat = (n % ((2 ^ 64 : Nat) : Int)).toNat % 2 ^ 4 := by
  rw [BitVec.toNat_and, BitVec.toNat_ofInt, h1, Nat.and_two_pow_sub_one_eq_mod]
 show IntKind.i64.wrap ((BitVec.ofInt 64 n &&& BitVec.ofInt 64 15).toNat : Nat) = _
 rw [key, IntKind.wrap_i64]
 omega
def wd (n : Int) : Int := n % 4294967296
theorem Qaj (n : Int) : WW (wd n) := by unfold wd WW; omega
theorem QlS {n : Int} (h : WW n) : wd n = n := by unfold wd WW at *; omega
theorem QuZ (n : Int) : wd (wd n) = wd n := QlS (Qaj n)
theorem QuG (n : Int) : IntKind.u32.wrap n = wd n := by rw [IntKind.wrap_u32]; rfl
theorem Qum (n : Int) : IntKind.i64.wrap (wd n) = wd n := by rw [IntKind.wrap_i64]; unfold wd; omega
theorem QG {n : Int} (h0 : -9223372036854775808 ≤ n) (h1 : n ≤ 9223372036854775807) : IntKind.i64.wrap n = n := Qu h0 h1
theorem Qeg (n : Int) : F_as (n, ()) = some ((wd n, ()), ()) := by
 unfold F_as; simp only [Quq]; rfl
theorem Qbb (x) : F_as x = some ((wd x.1, ()), ()) := Qeg x.1
def sg (n : Int) : Int := if wd n < 2147483648 then wd n else wd n - 4294967296
theorem Qef (n : Int) : F_du (n, ()) = some ((sg n, ()), ()) := by
 unfold F_du sg
 simp only [Qbb, Obn]
 have h := Qaj n
 generalize wd n = w at *
 unfold WW at h
 by_cases hw : w < 2147483648
 ·rw [if_pos (QM.2 hw), if_pos hw]
 ·rw [if_neg (by rw [QM]; exact hw), if_neg hw, QG (n := w - 4294967295) (by omega) (by omega), QG (n := w - 4294967295 - 1) (by omega) (by omega), show w - 4294967295 - 1 = w - 4294967296 by omega]
theorem Qdz (x) : F_du x = some ((sg x.1, ()), ()) := Qef x.1
theorem QuY (n : Int) : -2147483648 ≤ sg n ∧ sg n ≤ 2147483647 := by
 unfold sg; have := Qaj n; unfold WW at this; split <;> omega
theorem QhS (n : Int) : sg n = 0 ↔ wd n = 0 := by
 unfold sg; have := Qaj n; unfold WW at this; split <;> omega
def addW (a b : Int) : Int := wd (a + b)
theorem Qfg (a b : Int) : F_dn (a, b, ()) = some ((addW a b, ()), ()) := by
 unfold F_dn addW
 simp only [Qbb, Obn]
 have ha := Qaj a; have hb := Qaj b
 unfold WW at ha hb
 rw [QG (by omega) (by omega), show wd (wd a + wd b) = wd (a + b) by unfold wd; omega]
theorem QnO (x) : F_dn x = some ((addW x.1 x.2.1, ()), ()) := Qfg x.1 x.2.1
theorem QjM (a b : Int) : WW (addW a b) := Qaj _
def off (n : Int) : Int := if 32768 ≤ n % 65536 then n % 65536 - 65536 else n % 65536
theorem Qqo (n : Int) : F_do (n, ()) = some ((off n, ()), ()) := by
 unfold F_do off
 simp only [QrQ]
 by_cases h : 32768 ≤ n % 65536
 ·rw [if_pos (QbH.2 h), if_pos h, QG (by omega) (by omega)]
 ·rw [if_neg (by rw [QbH]; exact h), if_neg h]
def mulW (a b : Int) : Int := wd (wd a * wd b)
theorem Qqm (a b : Int) : F_dx (a, b, ()) = some ((mulW a b, ()), ()) := by
 unfold F_dx mulW; simp only [QuG, Qum]
theorem QnU (x) : F_dx x = some ((mulW x.1 x.2.1, ()), ()) := Qqm x.1 x.2.1
theorem QtF (a b : Int) (h : -2147483648 ≤ a ∧ a ≤ 2147483647) : -2147483648 ≤ a.tdiv b ∧ a.tdiv b ≤ 2147483648 := by
 have h1 : (a.tdiv b).natAbs = a.natAbs / b.natAbs := Int.natAbs_tdiv a b
 have h2 : a.natAbs / b.natAbs ≤ a.natAbs := Nat.div_le_self _ _
 omega
def divW (a b : Int) : Int := if wd b = 0 then 4294967295 else wd ((sg a).tdiv (sg b))
theorem Qqh (a b : Int) : F_dy (a, b, ()) = some ((divW a b, ()), ()) := by
 unfold F_dy divW
 simp only [Qbb, Qdz, Obn]
 by_cases h : wd b = 0
 ·rw [if_pos (by simpa using (QhS b).2 h), if_pos h]
 ·have hs : ¬ sg b = 0 := fun e => h ((QhS b).1 e)
  have := QtF (sg a) (sg b) (QuY a)
  rw [if_neg (by simpa using hs), if_neg h, if_neg hs, QG (by omega) (by omega)]
theorem QnS (x) : F_dy x = some ((divW x.1 x.2.1, ()), ()) := Qqh x.1 x.2.1
def remW (a b : Int) : Int := if wd b = 0 then wd a else wd ((sg a).tmod (sg b))
theorem Qqq (a b : Int) : F_dz (a, b, ()) = some ((remW a b, ()), ()) := by
 unfold F_dz remW
 simp only [Qbb, Qdz, Obn]
 by_cases h : wd b = 0
 ·rw [if_pos (by simpa using (QhS b).2 h), if_pos h]
 ·have hs : ¬ sg b = 0 := fun e => h ((QhS b).1 e)
  rw [if_neg (by simpa using hs), if_neg h, if_neg hs]
theorem QnW (x) : F_dz x = some ((remW x.1 x.2.1, ()), ()) := Qqq x.1 x.2.1
theorem QlR (n : Int) : ∃ k : Nat, wd n = (k : Int) ∧ k < 4294967296 := ⟨(wd n).toNat, by have := Qaj n; unfold WW at this; omega, by have := Qaj n; unfold WW at this; omega⟩
theorem Qfk {k : Nat} (h : k < 4294967296) : (BitVec.ofInt 64 (k : Int)).toNat = k := by
 rw [BitVec.ofInt_natCast, BitVec.toNat_ofNat]; exact Nat.mod_eq_of_lt (by omega)
def bitN (op : Int) (a b : Nat) : Nat := if op = 1 then a &&& b else if op = 2 then a ||| b else a ^^^ b
def bitW (op a b : Int) : Int := (bitN op (wd a).toNat (wd b).toNat : Int)
theorem QoP (op : Int) {a b : Nat} (ha : a < 4294967296) (hb : b < 4294967296) : bitN op a b < 4294967296 := by
 unfold bitN
 split
 ·exact Nat.and_lt_two_pow (n := 32) _ (by omega)
 ·split
  ·exact Nat.or_lt_two_pow (n := 32) (by omega) (by omega)
  ·exact Nat.xor_lt_two_pow (n := 32) (by omega) (by omega)
theorem QpP (op a b : Int) : WW (bitW op a b) := by
 obtain ⟨x, hx, hx2⟩ := QlR a
 obtain ⟨y, hy, hy2⟩ := QlR b
 unfold bitW WW
 rw [hx, hy]
 have := QoP op hx2 hy2
 simp only [Int.toNat_natCast]
 omega
theorem Qhf (op a b : Int) (h : op = 1 ∨ op = 2 ∨ op = 3) : F_ea (op, a, b, ()) = some (((0, bitW op a b, ()), ()), ()) := by
 unfold F_ea bitW
 simp only [Qbb, Obn]
 obtain ⟨x, hx, hx2⟩ := QlR a
 obtain ⟨y, hy, hy2⟩ := QlR b
 rw [hx, hy]
 simp only [Int.toNat_natCast]
 have hlt := QoP op hx2 hy2
 rcases h with rfl | rfl | rfl
 ·rw [if_pos (by decide)]
  show some (((0, IntKind.i64.wrap ((BitVec.ofInt 64 (x : Int) &&& BitVec.ofInt 64 (y : Int)).toNat : Int), ()), ()), ()) = _
  have : bitN 1 x y = x &&& y := rfl
  rw [BitVec.toNat_and, Qfk hx2, Qfk hy2, ← this, QG (by omega) (by omega)]
 ·rw [if_neg (by decide), if_pos (by decide)]
  show some (((0, IntKind.i64.wrap ((BitVec.ofInt 64 (x : Int) ||| BitVec.ofInt 64 (y : Int)).toNat : Int), ()), ()), ()) = _
  have : bitN 2 x y = x ||| y := rfl
  rw [BitVec.toNat_or, Qfk hx2, Qfk hy2, ← this, QG (by omega) (by omega)]
 ·rw [if_neg (by decide), if_neg (by decide), if_pos (by decide)]
  show some (((0, IntKind.i64.wrap ((BitVec.ofInt 64 (x : Int) ^^^ BitVec.ofInt 64 (y : Int)).toNat : Int), ()), ()), ()) = _
  have : bitN 3 x y = x ^^^ y := rfl
  rw [BitVec.toNat_xor, Qfk hx2, Qfk hy2, ← this, QG (by omega) (by omega)]
def shW (a b : Int) (left : Bool) : Int := if left = true then wd (wd a * 2 ^ (wd b % 32).toNat) else wd a / 2 ^ (wd b % 32).toNat
theorem Qsr {a : Int} (h : WW a) (k : Nat) : WW (a / 2 ^ k) := by
 unfold WW at *
 have h2 : (0 : Int) < 2 ^ k := Int.pow_pos (by omega)
 exact ⟨Int.ediv_nonneg h.1 (by omega), Int.le_trans (Int.ediv_le_self _ h.1) h.2⟩
theorem Qsq (a b : Int) (l : Bool) : WW (shW a b l) := by
 unfold shW; split
 ·exact Qaj _
 ·exact Qsr (Qaj a) _
theorem Qsj {k : Nat} (h : k < 32) : (2 : Int) ^ k ≤ 2147483648 := by
 have : (2 : Nat) ^ k ≤ 2 ^ 31 := Nat.pow_le_pow_right (by omega) (by omega)
 have h2 : ((2 ^ k : Nat) : Int) ≤ ((2 ^ 31 : Nat) : Int) := Int.ofNat_le.2 this
 simpa using h2
theorem QuF {w : Int} (h : WW w) : w.tmod 32 = w % 32 := Int.tmod_eq_emod_of_nonneg h.1
theorem Qgv {a : Int} (h : 0 ≤ a) (k : Nat) : a.fdiv (2 ^ k) = a / 2 ^ k := Int.fdiv_eq_ediv_of_nonneg _ (Int.le_of_lt (Int.pow_pos (by omega)))
theorem QmF (a b : Int) (l : Bool) : F_eb (a, b, l, ()) = some ((shW a b l, ()), ()) := by
 unfold F_eb shW
 simp only [Qbb, Obn, QuF (Qaj b)]
 have hw := Qaj a
 have hb : 0 ≤ wd b % 32 ∧ wd b % 32 < 32 := by omega
 have e2 : min (wd b % 32).toNat 64 = (wd b % 32).toNat := by omega
 rw [e2]
 cases l
 ·rw [if_neg (by decide), if_neg (by omega), if_neg (by decide), Qgv hw.1]
 ·rw [if_pos rfl, if_neg (by omega), if_pos rfl]
  have h1 := Qsj (k := (wd b % 32).toNat) (by omega)
  have h0 : (0 : Int) < 2 ^ (wd b % 32).toNat := Int.pow_pos (by omega)
  unfold WW at hw
  generalize (2 : Int) ^ (wd b % 32).toNat = p at *
  have q0 : 0 ≤ wd a * p := Int.mul_nonneg hw.1 (by omega)
  have q1 : wd a * p ≤ 4294967295 * 2147483648 := Int.mul_le_mul hw.2 h1 (by omega) (by omega)
  rw [QG (by omega) (by omega)]
theorem Qlu (x) : F_eb x = some ((shW x.1 x.2.1 x.2.2.1, ()), ()) := QmF x.1 x.2.1 x.2.2.1
def aluW (op a b : Int) : Int :=
 if op = 1 then addW a b else if op = 2 then wd (wd a - wd b) else if op = 3 then mulW a b else if op = 4 then divW a b else if op = 5 then remW a b
 else if op = 6 then bitW 1 a b else if op = 7 then bitW 2 a b else if op = 8 then bitW 3 a b else if op = 9 then shW a b true else if op = 10 then shW a b false
 else if sg a < sg b then 1 else 0
theorem QpI (op a b : Int) : WW (aluW op a b) := by
 unfold aluW
 have hd : WW (divW a b) := by unfold divW; split; unfold WW; omega; exact Qaj _
 have hr : WW (remW a b) := by unfold remW; split <;> exact Qaj _
 repeat' split
 all_goals first | exact QjM _ _ | exact Qaj _ | exact hd | exact hr | exact QpP _ _ _ | exact Qsq _ _ _ | (unfold WW; omega)
theorem Qqf (op a b : Int) (ha : WW a) (hb : WW b) (h : 1 ≤ op ∧ op ≤ 11) : F_ec (op, a, b, ()) = some (((0, aluW op a b, ()), ()), ()) := by
 unfold F_ec aluW
 simp only [Qbb, Obn, QlS ha, QlS hb, QnO, QnU, QnS, QnW, Qlu, Qdz]
 by_cases h1 : op = 1
 ·subst h1; rfl
 rw [if_neg (by simpa using h1), if_neg h1]
 by_cases h2 : op = 2
 ·subst h2
  unfold WW at ha hb
  rw [if_pos (by decide), if_pos rfl, QG (by omega) (by omega)]
 rw [if_neg (by simpa using h2), if_neg h2]
 by_cases h3 : op = 3
 ·subst h3; rfl
 rw [if_neg (by simpa using h3), if_neg h3]
 by_cases h4 : op = 4
 ·subst h4; rfl
 rw [if_neg (by simpa using h4), if_neg h4]
 by_cases h5 : op = 5
 ·subst h5; rfl
 rw [if_neg (by simpa using h5), if_neg h5]
 by_cases h6 : op = 6
 ·subst h6
  rw [if_pos (by decide), if_pos rfl, show IntKind.i64.wrap (IntKind.i64.wrap ((6 : Int) - 6) + 1) = 1 from by decide +kernel, Qhf 1 a b (by omega)]; rfl
 rw [if_neg (by simpa using h6), if_neg h6]
 by_cases h7 : op = 7
 ·subst h7
  rw [if_pos (by decide), if_pos rfl, show IntKind.i64.wrap (IntKind.i64.wrap ((7 : Int) - 6) + 1) = 2 from by decide +kernel, Qhf 2 a b (by omega)]; rfl
 rw [if_neg (by simpa using h7), if_neg h7]
 by_cases h8 : op = 8
 ·subst h8
  rw [if_pos (by decide), if_pos rfl, show IntKind.i64.wrap (IntKind.i64.wrap ((8 : Int) - 6) + 1) = 3 from by decide +kernel, Qhf 3 a b (by omega)]; rfl
 rw [if_neg (by simpa using h8), if_neg h8]
 by_cases h9 : op = 9
 ·subst h9; rfl
 rw [if_neg (by simpa using h9), if_neg h9]
 by_cases h10 : op = 10
 ·subst h10; rfl
 rw [if_neg (by simpa using h10), if_neg h10, if_pos (by simpa using (show op = 11 by omega))]
 by_cases h : sg a < sg b
 ·rw [if_pos (QM.2 h), if_pos h]
 ·rw [if_neg (by rw [QM]; exact h), if_neg h]
structure OkC (cs : List Int) : Prop where
 len : cs.length = 11
 words : ∀ w ∈ cs, WW w
 st : cs.getD 0 0 ≤ 3
 msk : cs.getD 7 0 ≤ 7
 tb : cs.getD 10 0 ≤ 8
 pd : cs.getD 6 0 = 0
 tm : cs.getD 8 0 = 0
structure OkR (r : List Int) : Prop where
 len : r.length = 16
 words : ∀ w ∈ r, WW w
 zero : r.getD 0 0 = 0
structure OkQ (q : List Int) : Prop where
 len : q.length ≤ 40
 words : ∀ w ∈ q, WW w
structure OkL (l : List TwoD) (m : List Int) : Prop where
 len : l.length = 8
 pgs : ∀ p ∈ l, (-1 ≤ p.1 ∧ p.1 ≤ 23) ∧ (0 ≤ p.2.1 ∧ p.2.1 ≤ 7) ∧ 8 * p.1 + 8 ≤ (m.length : Int)
 words : ∀ w ∈ m, WW w
 mlen : m.length ≤ 192
theorem QT {α : Type} {l : List α} {k : Nat} {d : α} (h : k < l.length) : l.getD k d ∈ l := by
 rw [List.getD_eq_getElem?_getD, List.getElem?_eq_getElem h]; exact List.getElem_mem h
theorem QcR {α : Type} {l : List α} {k : Nat} (d : α) (h : k < l.length) : l[k]? = some (l.getD k d) := by
 rw [List.getD_eq_getElem?_getD, List.getElem?_eq_getElem h]; rfl
theorem QU {α γ : Type} {l : List α} {i : Int} (d : α) (h : i.toNat < l.length) (K : α → Option γ) : (l[i.toNat]?).bind K = K (l.getD i.toNat d) := by
 rw [QcR d h]; rfl
theorem OkC.w {cs : List Int} (h : OkC cs) {k : Nat} (hk : k < 11) : WW (cs.getD k 0) := h.words _ (QT (by rw [h.len]; exact hk))
theorem OkR.w {cs : List Int} (h : OkR cs) {k : Nat} (hk : k < 16) : WW (cs.getD k 0) := h.words _ (QT (by rw [h.len]; exact hk))
def QeQ (cs : List Int) (ru : Bool) (dn : Int) (iq : List Int) : Int :=
 (if cs.getD 9 0 ≠ 0 ∧ cs.getD 9 0 ≤ dn then 1 else 0) + (if ru = true then 2 else 0) + (if 0 < iq.length then 4 else 0)
theorem QiQ (cs : List Int) (ru : Bool) (dn : Int) (iq : List Int) : 0 ≤ QeQ cs ru dn iq ∧ QeQ cs ru dn iq ≤ 7 := by
 unfold QeQ; repeat' split
 all_goals omega
section
variable {r cs iq oq : List Int} {pc dn : Int} {ha wa ru : Bool}
theorem Qee (hc : OkC cs) : F_cz ((r, pc, cs, ha, wa, ru, dn, iq, oq, ()), ()) = some ((QeQ cs ru dn iq, ()), ()) := by
 have o1 : ior .i64 0 1 = 1 := by decide +kernel
 have o2 : ior .i64 1 2 = 3 := by decide +kernel
 have o3 : ior .i64 3 4 = 7 := by decide +kernel
 have o4 : ior .i64 1 4 = 5 := by decide +kernel
 have o5 : ior .i64 0 2 = 2 := by decide +kernel
 have o6 : ior .i64 2 4 = 6 := by decide +kernel
 have o7 : ior .i64 0 4 = 4 := by decide +kernel
 unfold F_cz QeQ
 dsimp only
 have e3 : ltI 0 ((iq.length : Nat) : Int) = decide (0 < iq.length) := by
  have := ltN (a := 0) (b := iq.length)
  simpa using this
 rw [QU 0 (by rw [hc.len]; decide)]
 simp only [e3, show ((9 : Int)).toNat = 9 from rfl, QcR (l := cs) (k := 9) 0 (by rw [hc.len]; decide), Obn, o1, o2, o3, o4, o5, o6, o7]
 generalize cs.getD 9 0 = a
 by_cases h1 : a = 0
 ·cases ru <;> by_cases h3 : 0 < iq.length <;> simp [h1, h3]
 ·by_cases h2 : a ≤ dn <;> cases ru <;> by_cases h3 : 0 < iq.length <;> simp [h1, h2, h3, Qbd]
def lowB (v : Int) : Int := if v % 2 = 1 then 0 else if v / 2 % 2 = 1 then 1 else if v / 4 % 2 = 1 then 2 else -1
def dueM (cs : List Int) (ru : Bool) (dn : Int) (iq : List Int) : Int := if cs.getD 0 0 % 2 = 0 then -1 else lowB (iand .i64 (QeQ cs ru dn iq) (cs.getD 7 0))
theorem QpJ : ∀ p : Fin 8, ∀ m : Fin 8, 0 ≤ iand .i64 ((p.val : Nat) : Int) ((m.val : Nat) : Int) ∧ iand .i64 ((p.val : Nat) : Int) ((m.val : Nat) : Int) ≤ 7 := by decide +kernel
theorem QsP {p m : Int} (h : 0 ≤ p ∧ p ≤ 7) (h2 : 0 ≤ m ∧ m ≤ 7) : 0 ≤ iand .i64 p m ∧ iand .i64 p m ≤ 7 := by
 have := QpJ ⟨p.toNat, by omega⟩ ⟨m.toNat, by omega⟩
 simp only [show ((p.toNat : Nat) : Int) = p from by omega, show ((m.toNat : Nat) : Int) = m from by omega] at this
 exact this
theorem Qti : ∀ v : Fin 8, v.val ≠ 0 → tzF (IntKind.u64.wrap ((v.val : Nat) : Int)) = some (lowB ((v.val : Nat) : Int)) ∧ lowB ((v.val : Nat) : Int) ≠ -1 := by decide +kernel
theorem Qth (v : Int) : -1 ≤ lowB v ∧ lowB v ≤ 2 := by
 unfold lowB; repeat' split
 all_goals omega
theorem Qqi (hc : OkC cs) : F_db ((r, pc, cs, ha, wa, ru, dn, iq, oq, ()), ()) = some ((dueM cs ru dn iq, ()), ()) := by
 unfold F_db dueM
 dsimp only
 rw [Qee hc, Obn]
 dsimp only
 rw [QU 0 (by rw [hc.len]; decide), QU 0 (by rw [hc.len]; decide)]
 have hst := hc.w (k := 0) (by decide)
 have hmk := hc.w (k := 7) (by decide)
 have hmk2 := hc.msk
 have hb := QsP (QiQ cs ru dn iq) ⟨hmk.1, hmk2⟩
 simp only [show ((7 : Int)).toNat = 7 from rfl, show ((0 : Int)).toNat = 0 from rfl, Int.tmod_eq_emod_of_nonneg hst.1]
 generalize iand .i64 (QeQ cs ru dn iq) (cs.getD 7 0) = v at *
 by_cases h : cs.getD 0 0 % 2 = 0
 ·rw [if_neg (by simpa using h), if_pos h]
 ·rw [if_pos (by simpa using h), if_neg h]
  by_cases hv : v = 0
  ·subst hv; rfl
  ·rw [if_neg (by simpa using hv)]
   have := Qti ⟨v.toNat, by omega⟩ (by simp only; omega)
   simp only [show ((v.toNat : Nat) : Int) = v from by omega] at this
   unfold F_da
   dsimp only
   rw [this.1]
   rfl
end
end Go.Proofs.YtmoninjbahccoaaGreatDoor
