/- Plain laws: what the functions compute, and that both programs compute the same. -/
import Derived.Test.YtmoninjbahccoaaGreatDoorGa3
namespace Go.Proofs.YtmoninjbahccoaaGreatDoor
open Go Go.RowKit S Go.Proofs
set_option maxRecDepth 100000
set_option linter.unusedVariables false
set_option linter.unusedSimpArgs false
def okW (w : Int) : Bool := decide (w ≥ 0) && decide (w ≤ 4294967295)
def allW (m : List Int) : Bool := m.all okW
theorem QnW (n a b : Int) : F_e (n, a, b, ()) = some ((decide (n ≥ a) && decide (n ≤ b), ()), ()) := by
 unfold F_e
 simp only [Qbn, Qbm, decide_eq_true_eq, ge_iff_le, gt_iff_lt]
 split
 ·rename_i h; simp [h]
 ·rename_i h; simp [h]
theorem QaM (n a b : Int) : F_z (n, a, b, ()) = some ((decide (n ≥ a) && decide (n ≤ b), ()), ()) := by
 unfold F_z
 simp only [Qbn, Qbm, decide_eq_true_eq, ge_iff_le, gt_iff_lt]
 split
 ·rename_i h; simp [h]
 ·rename_i h; simp [h]
theorem Qjy (n : Int) : F_ba (n, ()) = some ((okW n, ()), ()) := by
 unfold F_ba
 rw [QaM, Obn]
 rfl
theorem Qku (n : Int) : F_bb_1 (n, ()) = some ((!okW n, ()), ()) := by
 unfold F_bb_1
 rw [Qjy, Obn]
theorem Qow {y : Int} {r : List Int} : allW (y :: r) = (okW y && allW r) := rfl
theorem QnA (m : List Int) (i : Int) (h0 : 0 ≤ i) (h1 : i ≤ (m.length : Int)) (h3 : m.length ≤ maxLen) :
  (allW (m.drop i.toNat) = true ∧ L_bd_2 ((m, (), ((m.length : Nat) : Int), i, ()), (), ()) = some (.inl ((), (), ()))) ∨
  (allW (m.drop i.toNat) = false ∧ ∃ k : Int, 0 ≤ k ∧ L_bd_2 ((m, (), ((m.length : Nat) : Int), i, ()), (), ()) = some (.inr (.inl ((k, ()), (), ())))) := by
 have key : ∀ (n : Nat) (i : Int), (m.length - i).toNat < n → 0 ≤ i → i ≤ (m.length : Int) →
   (allW (m.drop i.toNat) = true ∧ Qc l_bd_2 n ((m, (), ((m.length : Nat) : Int), i, ()), (), ()) = some (.inl ((), (), ()))) ∨
   (allW (m.drop i.toNat) = false ∧ ∃ k : Int, 0 ≤ k ∧ Qc l_bd_2 n ((m, (), ((m.length : Nat) : Int), i, ()), (), ()) = some (.inr (.inl ((k, ()), (), ())))) := by
  intro n
  induction n with
  | zero => intro i h; omega
  | succ n ih =>
   intro i hm h0 h1
   simp only [Qc]
   generalize Qc l_bd_2 n = rec at ih ⊢
   unfold l_bd_2
   simp only [Qbn, Qbm, decide_eq_true_eq, ge_iff_le, gt_iff_lt]
   by_cases hlt : i < (m.length : Int)
   ·obtain ⟨y, hy, _, hd⟩ := Qto h0 hlt
    rw [if_pos hlt, if_pos h0, hy, Obn, Qku, Obn, Qtc h0 hlt h3, hd, Qow]
    cases hw : okW y with
    | true => simpa using ih (i + 1) (by omega) (by omega) (by omega)
    | false => exact .inr ⟨by simp, i, h0, by simp⟩
   ·rw [if_neg hlt, Qqa hlt]
    exact .inl ⟨rfl, rfl⟩
 exact key lots i (by rw [Qdx] at h3; rw [Qai]; omega) h0 h1
theorem QaS (m : List Int) (h : m.length ≤ maxLen) : F_bb (m, ()) = some ((allW m, ()), ()) := by
 unfold F_bb F_be_1 F_bc_1
 simp only
 rcases QnA m 0 (by simp) (by simp) h with ⟨h1, h2⟩ | ⟨h1, k, h2, h3⟩
 ·simp only [Int.toNat_zero, List.drop_zero] at h1
  rw [h2, h1]; rfl
 ·simp only [Int.toNat_zero, List.drop_zero] at h1
  rw [h3, h1]
  simp [h2, Qbm]
def QG (m : List Int) : Int := if m.length % 8 = 0 ∧ 8 ≤ m.length ∧ m.length ≤ 192 then (if allW m = true then 0 else 3) else 1
theorem QfX (m : List Int) (h : m.length ≤ maxLen) : F_bi (m, ()) = some ((QG m, ()), ()) := by
 unfold F_bi QG
 rw [QaS m h]
 simp only [Obn, Qbn, Qbm, beq_eq_false_iff_ne, decide_eq_false_iff_not, bne_iff_ne]
 have e : ((m.length : Nat) : Int).tmod 8 = ((m.length % 8 : Nat) : Int) := rfl
 rw [e]
 by_cases h1 : ((m.length : Nat) : Int) ≠ 0
 ·rw [if_pos h1]
  by_cases h2 : ¬ ((m.length : Nat) : Int) > 192
  ·rw [if_pos h2]
   by_cases h3 : ((m.length % 8 : Nat) : Int) ≠ 0
   ·rw [if_pos h3, if_neg (by omega)]
   ·have hc : m.length % 8 = 0 ∧ 8 ≤ m.length ∧ m.length ≤ 192 := by omega
    rw [if_neg h3, if_pos hc]
    cases allW m <;> rfl
  ·rw [if_neg h2, if_neg (by omega)]
 ·rw [if_neg h1, if_neg (by omega)]
abbrev QX := den (.pair (.slice (.int .i64)) (.pair (.int .i64) (.pair (.slice (.int .i64)) (.pair .bool (.pair .bool (.pair .bool (.pair (.int .i64) (.pair (.slice (.int .i64)) (.pair (.slice (.int .i64)) .unit)))))))))
def QcJ (n : Nat) (h : QX) : Prop := h.1.length ≤ n ∧ h.2.2.1.length ≤ n ∧ h.2.2.2.2.2.2.2.1.length ≤ n ∧ h.2.2.2.2.2.2.2.2.1.length ≤ n
theorem leM {n : Nat} (h : n ≤ 1048576) : n ≤ maxLen := by rw [Qdx]; omega
theorem QjP (m : List Int) (p : Nat) (h : 8 * p + 8 ≤ m.length) (h2 : m.length ≤ 192) : F_cc (m, (p : Int), ()) = some (((m.drop (8 * p)).take 8, ()), ()) := by
 unfold F_cc F_av
 simp only
 rw [Qq (n := (p : Int) * 8) (by omega) (by omega), Qq (n := (p : Int) + 1) (by omega) (by omega), Qq (n := ((p : Int) + 1) * 8) (by omega) (by omega)]
 rw [if_pos ⟨by omega, by omega, by omega⟩]
 have e1 : ((p : Int) * 8).toNat = 8 * p := by omega
 have e2 : (((p : Int) + 1) * 8).toNat - 8 * p = 8 := by omega
 rw [e1, e2, if_pos (by simp; omega), Obn]
 simp
theorem QmN (x y : Int) : F_dm ([x, y], ()) = some ((if x ≠ 0 then x else y, ()), ()) := by
 have key : L_dm_2 (([x, y], 2, 0, ()), (), ()) = some (if x ≠ 0 then .inr (.inl ((x, ()), (), ())) else if y ≠ 0 then .inr (.inl ((y, ()), (), ())) else .inl ((), (), ())) := by
  have e : lots = (18446744073709551613 + 1) + 1 + 1 := rfl
  show Qc l_dm_2 lots _ = _
  rw [e]
  generalize 18446744073709551613 = n
  have w1 : IntKind.i64.wrap ((0 : Int) + 1) = 1 := Qq (by omega) (by omega)
  have w2 : IntKind.i64.wrap ((1 : Int) + 1) = 2 := Qq (by omega) (by omega)
  have s3 : Qc l_dm_2 (n + 1) (([x, y], 2, 2, ()), (), ()) = some (.inl ((), (), ())) := by
   simp only [Qc]
   generalize Qc l_dm_2 n = rec
   unfold l_dm_2
   simp [Qbn]
  have s2 : Qc l_dm_2 (n + 1 + 1) (([x, y], 2, 1, ()), (), ()) = some (if y ≠ 0 then .inr (.inl ((y, ()), (), ())) else .inl ((), (), ())) := by
   rw [show Qc l_dm_2 (n + 1 + 1) (([x, y], 2, 1, ()), (), ()) = l_dm_2 (Qc l_dm_2 (n + 1)) (([x, y], 2, 1, ()), (), ()) from rfl]
   generalize Qc l_dm_2 (n + 1) = rec at s3 ⊢
   unfold l_dm_2
   simp only [Qbn]
   rw [if_pos (by decide), if_pos (by decide)]
   show (some y).bind _ = _
   rw [Obn, w2, s3]
   by_cases h : y = 0
   ·subst h; simp
   ·rw [if_pos (by simp; exact h)]; simp [h]
  rw [show Qc l_dm_2 (n + 1 + 1 + 1) (([x, y], 2, 0, ()), (), ()) = l_dm_2 (Qc l_dm_2 (n + 1 + 1)) (([x, y], 2, 0, ()), (), ()) from rfl]
  generalize Qc l_dm_2 (n + 1 + 1) = rec at s2 ⊢
  unfold l_dm_2
  simp only [Qbn]
  rw [if_pos (by decide), if_pos (by decide)]
  show (some x).bind _ = _
  rw [Obn, w1, s2]
  by_cases h : x = 0
  ·subst h; simp
  ·rw [if_pos (by simp; exact h)]; simp [h]
 unfold F_dm
 simp only
 show (L_dm_2 (([x, y], 2, 0, ()), (), ())).bind _ = _
 rw [key, Obn]
 by_cases h : x = 0
 ·subst h
  by_cases h2 : y = 0
  ·subst h2; simp
  ·simp [h2]
 ·simp [h]
theorem Qfh {m : List Int} (h : QG m = 0) : m.length % 8 = 0 ∧ 8 ≤ m.length ∧ m.length ≤ 192 := by
 unfold QG at h
 split at h
 ·assumption
 ·omega
theorem Qie {X γ σ : Type} {step : (X → Option γ) → X → Option γ} (emb : Nat → σ → X) (N : Nat) (hN : N < lots) (I : Nat → σ → Prop) (out : Nat → σ → Option γ)
  (h : ∀ rec i s, i ≤ N → I i s → (∀ s', i < N → I (i + 1) s' → rec (emb (i + 1) s') = out (i + 1) s') → step rec (emb i s) = out i s) :
  ∀ i s, i ≤ N → I i s → Qc step lots (emb i s) = out i s := by
 have key : ∀ n i s, N - i < n → i ≤ N → I i s → Qc step n (emb i s) = out i s := by
  intro n
  induction n with
  | zero => intro i s h; omega
  | succ n ih =>
   intro i s hn hi hI
   simp only [Qc]
   exact h _ i s hi hI fun s' hlt hI' => ih (i + 1) s' (by omega) (by omega) hI'
 intro i s hi hI
 exact key lots i s (by omega) hi hI
theorem QbD {n : Nat} (h : n ≤ 9223372036854775807) : n < lots := by rw [Qai]; omega
theorem Qah {i : Nat} (h : i < 9223372036854775807) : IntKind.i64.wrap ((i : Int) + 1) = ((i + 1 : Nat) : Int) := by rw [Qq (by omega) (by omega)]; rfl
theorem nat0 {i : Nat} : (0 : Int) ≤ (i : Int) := Int.natCast_nonneg i
theorem Qy {α γ : Type} {m : List α} {i : Nat} (h : i < m.length) (K : α → Option γ) : (m[((i : Nat) : Int).toNat]?).bind K = K m[i] := by
 rw [Int.toNat_natCast, List.getElem?_eq_getElem h, Obn]
theorem Qbz {α : Type} {m : List α} {i : Nat} (h : i < m.length) : m.drop i = m[i] :: m.drop (i + 1) := List.drop_eq_getElem_cons h
theorem Qds {α : Type} {m : List α} {i : Nat} (h : ¬ i < m.length) : m.drop i = [] := List.drop_of_length_le (by omega)
theorem ltN {a b : Nat} : ltI (a : Int) (b : Int) = decide (a < b) := by
 rw [Qbn]; by_cases h : a < b
 ·have : (a : Int) < b := by omega
  simp [h, this]
 ·have : ¬ (a : Int) < b := by omega
  simp [h, this]
theorem QL {a b : Int} : ltI a b = true ↔ a < b := by rw [Qbn]; simp
theorem Qbg {a b : Int} : leI a b = true ↔ a ≤ b := by rw [Qbm]; simp
theorem Qbd {a b : Int} : ltI a b = false ↔ ¬ a < b := by rw [Qbn]; simp
def scan {α β : Type} (f : Nat → α → Option β) : Nat → List α → Option β
 | _, [] => none
 | i, x :: r => match f i x with
  | some c => some c
  | none => scan f (i + 1) r
theorem Qae {X α γ β : Type} {step : (X → Option γ) → X → Option γ} (emb : Nat → X) (m : List α) (f : Nat → α → Option β) (bad : β → Option γ) (done : Option γ) (hm : m.length ≤ 9223372036854775807)
  (h1 : ∀ rec i (h : i < m.length), step rec (emb i) = match f i m[i] with | some c => bad c | none => rec (emb (i + 1)))
  (h2 : ∀ rec, step rec (emb m.length) = done) : Qc step lots (emb 0) = match scan f 0 m with | some c => bad c | none => done := by
 have key := Qie (step := step) (fun i (_ : Unit) => emb i) m.length (QbD hm) (fun _ _ => True) (fun i _ => match scan f i (m.drop i) with | some c => bad c | none => done) ?_ 0 () (by omega) trivial
 ·simpa using key
 ·intro rec i _ hi _ ih
  by_cases hlt : i < m.length
  ·rw [h1 rec i hlt, Qbz hlt]
   simp only [scan]
   cases hf : f i m[i] with
   | some c => rfl
   | none => exact ih () hlt trivial
  ·have : i = m.length := by omega
   subst this
   rw [h2, List.drop_length]
   rfl
theorem Qgk {α β : Type} {f : Nat → α → Option β} {p : α → Bool} : ∀ {m : List α} {i : Nat}, (∀ j (h : j < m.length), (f (i + j) m[j]).isSome = p m[j]) → (scan f i m).isSome = m.any p
 | [], _, _ => rfl
 | x :: r, i, h => by
  have h0 := h 0 (by simp)
  simp only [Nat.add_zero, List.getElem_cons_zero] at h0
  have := Qgk (f := f) (p := p) (m := r) (i := i + 1) fun j hj => by
   have := h (j + 1) (by simpa using hj)
   simpa [Nat.add_assoc, Nat.add_comm, Nat.add_left_comm] using this
  simp only [scan, List.any_cons, ← h0, ← this]
  cases f i x <;> rfl
theorem lt_t {i n : Nat} (h : i < n) : ltI (i : Int) (n : Int) = true := by rw [ltN]; simpa using h
theorem lt_f {i n : Nat} (h : ¬ i < n) : ¬ ltI (i : Int) (n : Int) = true := by rw [ltN]; simpa using h
theorem Qaz {n : Nat} : ¬ ltI (n : Int) (n : Int) = true := lt_f (Nat.lt_irrefl n)
theorem lt1 {α : Type} {i : Nat} {m : List α} (h : i < m.length) (hm : m.length ≤ 1048576) : i < 9223372036854775807 := by omega
theorem QsL {X γ : Type} (step : (X → Option γ) → X → Option γ) (n : Nat) (x : X) : Qc step (n + 1) x = step (Qc step n) x := rfl
theorem Qtt : lots = 18446744073709551613 + 1 + 1 + 1 := rfl
abbrev QE := Int × Int × Int × Int × Int × Unit
abbrev TwoD := Int × Int × Unit
abbrev PolD := List (List Int) × List QE × List TwoD × List TwoD × Unit
def QqP (n : Nat) (p : PolD) : Prop := (p.1.length ≤ n ∧ ∀ l ∈ p.1, l.length ≤ n) ∧ p.2.1.length ≤ n ∧ p.2.2.1.length ≤ n ∧ p.2.2.2.1.length ≤ n
theorem QbC {n : Nat} (h : n ≤ 1048576) : n ≤ 9223372036854775807 := by omega
theorem Qcv {α β : Type} {f : Nat → α → Option β} {P : β → Prop} : ∀ {m : List α} {i : Nat}, (∀ j (h : j < m.length) c, f (i + j) m[j] = some c → P c) → ∀ c, scan f i m = some c → P c
 | [], _, _, c, h => by simp [scan] at h
 | x :: r, i, h, c, hc => by
  have h0 := h 0 (by simp)
  simp only [Nat.add_zero, List.getElem_cons_zero] at h0
  simp only [scan] at hc
  split at hc
  ·rename_i d hd
   obtain rfl := Osj hc
   exact h0 _ hd
  ·exact Qcv (m := r) (i := i + 1) (fun j hj c' hc' => h (j + 1) (by simpa using hj) c' (by simpa [Nat.add_assoc, Nat.add_comm, Nat.add_left_comm] using hc')) c hc
theorem QlR (m : List Int) (v : Int) (hm : m.length ≤ 1048576) : F_f (m, v, ()) = some ((m.contains v, ()), ()) := by
 have key := Qae (step := l_f_2) (γ := denO o_f_2) (fun i => ((m, v, ((i : Nat) : Int), ()), (), ())) m (fun _ y => if (y == v) = true then some () else none) (fun _ => some (.inr (.inl ((true, ()), (), ())))) (some (.inl ((), (), ()))) (QbC hm) ?_ ?_
 ·unfold F_f
  show (Qc l_f_2 lots ((m, v, ((0 : Nat) : Int), ()), (), ())).bind _ = _
  rw [key]
  have := Qgk (f := fun (_ : Nat) y => if (y == v) = true then some () else none) (p := fun y => y == v) (m := m) (i := 0) (fun j hj => by cases m[j] == v <;> rfl)
  have e : m.any (fun y => y == v) = m.contains v := by
   rw [Bool.eq_iff_iff, List.any_eq_true, List.contains_iff_mem]
   exact ⟨fun ⟨y, hy, e⟩ => by rw [← beq_iff_eq.1 e]; exact hy, fun h => ⟨v, h, by simp⟩⟩
  rw [e] at this
  rw [← this]
  cases scan (fun (_ : Nat) y => if (y == v) = true then some () else none) 0 m <;> rfl
 ·intro rec i h
  unfold l_f_2
  dsimp only
  rw [if_pos (lt_t h), if_pos nat0, Qy h, Qah (lt1 h hm)]
  cases m[i] == v <;> rfl
 ·intro rec
  unfold l_f_2
  dsimp only
  rw [if_neg Qaz]
def isG (p : PolD) (g : Int) : Bool := decide (g ≥ 0) && decide (g ≤ (p.1.length : Int) - 1)
theorem Qia (p : PolD) (g : Int) (h : p.1.length ≤ 1048576) : F_h (p, g, ()) = some ((isG p g, ()), ()) := by
 unfold F_h isG
 dsimp only
 rw [Qq (by omega) (by omega), QnW, Obn]
theorem QdT (p : PolD) (g : Int) (h : p.1.length ≤ 1048576) : F_ab (p, g, ()) = some ((isG p g, ()), ()) := by
 unfold F_ab isG
 dsimp only
 rw [Qq (by omega) (by omega), QaM, Obn]
def Qcj (p : PolD) (a b : Int) : Int := if isG p a = true then (if isG p b = true then (if a = b then 1 else 0) else 4) else 4
theorem Qrw (p : PolD) (a b : Int) (h : p.1.length ≤ 1048576) : F_i (p, a, b, ()) = some ((Qcj p a b, ()), ()) := by
 unfold F_i Qcj
 rw [Qia p a h, Qia p b h]
 simp only [Obn]
 cases isG p a <;> cases isG p b <;> by_cases e : a = b <;> simp [e]
theorem QnZ (p : PolD) (a b : Int) (h : p.1.length ≤ 1048576) : F_ac (p, a, b, ()) = some ((Qcj p a b, ()), ()) := by
 unfold F_ac Qcj
 rw [QdT p a h, QdT p b h]
 simp only [Obn]
 cases isG p a <;> cases isG p b <;> by_cases e : a = b <;> simp [e]
def Qhq : Option Int → Int
 | some c => c
 | none => -1
def Qez (own : List (List Int)) (page : Int) : Int := Qhq (scan (fun i (l : List Int) => if l.contains page = true then some ((i : Nat) : Int) else none) 0 own)
theorem QqM (p : PolD) (page : Int) (h : p.1.length ≤ 1048576) (h2 : ∀ l ∈ p.1, l.length ≤ 1048576) : F_j (p, page, ()) = some ((Qez p.1 page, ()), ()) := by
 have key := Qae (step := l_j_2) (γ := denO o_j_2) (fun i => ((p, page, ((i : Nat) : Int), ()), (), ())) p.1 (fun i (l : List Int) => if l.contains page = true then some ((i : Nat) : Int) else none)
  (fun c => some (.inr (.inl ((c, ()), (), ())))) (some (.inl ((), (), ()))) (QbC h) ?_ ?_
 ·unfold F_j Qez
  show (Qc l_j_2 lots ((p, page, ((0 : Nat) : Int), ()), (), ())).bind _ = _
  rw [key]
  cases scan (fun i (l : List Int) => if l.contains page = true then some ((i : Nat) : Int) else none) 0 p.1 <;> rfl
 ·intro rec i hi
  unfold l_j_2
  dsimp only
  rw [if_pos (lt_t hi), if_pos nat0, Qy hi, Qah (lt1 hi h), QlR _ _ (h2 _ (List.getElem_mem hi)), Obn]
  dsimp only
  cases (p.1[i]).contains page <;> rfl
 ·intro rec
  unfold l_j_2
  dsimp only
  rw [if_neg Qaz]
theorem QrX {α : Type} {P : Nat → α → Bool} {m : List α} {c : Int} (h : scan (fun i y => if P i y = true then some ((i : Nat) : Int) else none) 0 m = some c) : 0 ≤ c := by
 refine Qcv (P := fun c => 0 ≤ c) ?_ c h
 intro j hj c hc
 split at hc
 ·obtain rfl := Osj hc; omega
 ·cases hc
theorem Qel {α : Type} {P : α → Bool} {m : List α} {f : Nat → α → Option Int} (hf : ∀ i y, f i y = if P y = true then some ((i : Nat) : Int) else none) : leI 0 (Qhq (scan f 0 m)) = m.any P := by
 have e : f = fun i y => if P y = true then some ((i : Nat) : Int) else none := by funext i y; exact hf i y
 subst e
 have h1 := Qgk (f := fun i y => if P y = true then some ((i : Nat) : Int) else none) (p := P) (m := m) (i := 0) (fun j hj => by cases P m[j] <;> rfl)
 rw [← h1, Qbm]
 cases hs : scan (fun i y => if P y = true then some ((i : Nat) : Int) else none) 0 m with
 | none => rfl
 | some c => have := QrX (P := fun _ y => P y) hs; simp [Qhq, this]
theorem Qqo (m : List Int) (v : Int) (hm : m.length ≤ 1048576) : F_ad (m, v, ()) = some ((Qhq (scan (fun i y => if (v == y) = true then some ((i : Nat) : Int) else none) 0 m), ()), ()) := by
 have key := Qae (step := l_ad_2) (γ := denO o_j_2) (fun i => ((m, v, ((m.length : Nat) : Int), ((i : Nat) : Int), ()), (), ())) m (fun i y => if (v == y) = true then some ((i : Nat) : Int) else none)
  (fun c => some (.inr (.inl ((c, ()), (), ())))) (some (.inl ((), (), ()))) (QbC hm) ?_ ?_
 ·unfold F_ad
  show (Qc l_ad_2 lots ((m, v, ((m.length : Nat) : Int), ((0 : Nat) : Int), ()), (), ())).bind _ = _
  rw [key]
  cases scan (fun i y => if (v == y) = true then some ((i : Nat) : Int) else none) 0 m <;> rfl
 ·intro rec i hi
  unfold l_ad_2
  dsimp only
  rw [if_pos (lt_t hi), if_pos nat0, Qy hi, Qah (lt1 hi hm)]
  cases v == m[i] <;> rfl
 ·intro rec
  unfold l_ad_2
  dsimp only
  rw [if_neg Qaz]
theorem Qks (m : List Int) (v : Int) : m.any (fun y => v == y) = m.contains v := by
 rw [Bool.eq_iff_iff, List.any_eq_true, List.contains_iff_mem]
 exact ⟨fun ⟨y, hy, e⟩ => by rw [beq_iff_eq.1 e]; exact hy, fun h => ⟨v, h, by simp⟩⟩
theorem Qlp (m : List Int) (v : Int) (hm : m.length ≤ 1048576) : F_ae (m, v, ()) = some ((m.contains v, ()), ()) := by
 unfold F_ae
 rw [Qqo m v hm, Obn]
 dsimp only
 rw [Qel (P := fun y => v == y) (fun _ _ => rfl), Qks]
theorem QkC (p : PolD) (page : Int) (h : p.1.length ≤ 1048576) (h2 : ∀ l ∈ p.1, l.length ≤ 1048576) : F_af (p, page, ()) = some ((Qez p.1 page, ()), ()) := by
 have key := Qae (step := l_ah_2) (γ := denO o_j_2) (fun i => ((p.1, (page, ()), ((p.1.length : Nat) : Int), ((i : Nat) : Int), ()), (), ())) p.1
  (fun i (l : List Int) => if l.contains page = true then some ((i : Nat) : Int) else none) (fun c => some (.inr (.inl ((c, ()), (), ())))) (some (.inl ((), (), ()))) (QbC h) ?_ ?_
 ·unfold F_af Qez F_ag_1
  show ((Qc l_ah_2 lots ((p.1, (page, ()), ((p.1.length : Nat) : Int), ((0 : Nat) : Int), ()), (), ())).bind _).bind _ = _
  rw [key]
  cases scan (fun i (l : List Int) => if l.contains page = true then some ((i : Nat) : Int) else none) 0 p.1 <;> rfl
 ·intro rec i hi
  unfold l_ah_2
  dsimp only
  rw [if_pos (lt_t hi), if_pos nat0, Qy hi, Qah (lt1 hi h)]
  unfold F_af_1
  rw [Qlp _ _ (h2 _ (List.getElem_mem hi)), Obn, Obn]
  dsimp only
  cases (p.1[i]).contains page <;> rfl
 ·intro rec
  unfold l_ah_2
  dsimp only
  rw [if_neg Qaz]
def QaU (l : QE) (g page : Int) : Bool := (l.1 == g && l.2.2.2.1 == page) || (l.2.1 == g && l.2.2.2.2.1 == page)
theorem QnX (l : QE) (g page : Int) : F_k (l, g, page, ()) = some ((QaU l g page, ()), ()) := by
 unfold F_k QaU
 cases l.1 == g <;> cases l.2.2.2.1 == page <;> cases l.2.1 == g <;> rfl
theorem Qol (l : QE) (g page : Int) : F_ai (l, g, page, ()) = some ((QaU l g page, ()), ()) := by
 unfold F_ai QaU
 cases l.1 == g <;> cases l.2.2.2.1 == page <;> cases l.2.1 == g <;> rfl
def clash (l o : QE) : Bool := o.2.2.1 == l.2.2.1 || (QaU o l.1 l.2.2.2.1 || QaU o l.2.1 l.2.2.2.2.1)
def inB (n a b : Int) : Bool := decide (n ≥ a) && decide (n ≤ b)
theorem QM (n a b : Int) : F_z (n, a, b, ()) = some ((inB n a b, ()), ()) := QaM n a b
theorem QbY (n a b : Int) : F_e (n, a, b, ()) = some ((inB n a b, ()), ()) := QnW n a b
def Qdu (p : PolD) (l : QE) (ahead : List QE) : Int :=
 if Qcj p l.1 l.2.1 ≠ 0 then Qcj p l.1 l.2.1
 else if inB l.2.2.1 0 23 = true ∧ inB l.2.2.2.1 5 6 = true ∧ inB l.2.2.2.2.1 5 6 = true then
  (if leI 0 (Qez p.1 l.2.2.1) = true then 6 else if ahead.any (clash l) = true then 6 else 0) else 3
theorem Qqu (l o : QE) : F_aj_1 (o, l, ()) = some ((clash l o, ()), ()) := by
 unfold F_aj_1 clash
 dsimp only
 rw [Qol, Qol]
 simp only [Obn]
 cases o.2.2.1 == l.2.2.1 <;> cases QaU o l.1 l.2.2.2.1 <;> rfl
theorem QlT (l : QE) (m : List QE) (hm : m.length ≤ 1048576) : F_am_1 (m, (l, ()), ()) = some ((m.any (clash l), ()), ()) := by
 have key := Qae (step := l_al_2) (γ := denO o_j_2) (fun i => ((m, (l, ()), ((m.length : Nat) : Int), ((i : Nat) : Int), ()), (), ())) m
  (fun i o => if clash l o = true then some ((i : Nat) : Int) else none) (fun c => some (.inr (.inl ((c, ()), (), ())))) (some (.inl ((), (), ()))) (QbC hm) ?_ ?_
 ·unfold F_am_1 F_ak_1
  show ((Qc l_al_2 lots ((m, (l, ()), ((m.length : Nat) : Int), ((0 : Nat) : Int), ()), (), ())).bind _).bind _ = _
  rw [key, ← Qel (P := clash l) (m := m) (f := fun i o => if clash l o = true then some ((i : Nat) : Int) else none) (fun _ _ => rfl)]
  cases scan (fun i o => if clash l o = true then some ((i : Nat) : Int) else none) 0 m <;> rfl
 ·intro rec i hi
  unfold l_al_2
  dsimp only
  rw [if_pos (lt_t hi), if_pos nat0, Qy hi, Qah (lt1 hi hm), Qqu, Obn]
  dsimp only
  cases clash l m[i] <;> rfl
 ·intro rec
  unfold l_al_2
  dsimp only
  rw [if_neg Qaz]
theorem QkG (p : PolD) (l : QE) (ahead : List QE) (h : p.1.length ≤ 1048576) (h2 : ∀ l ∈ p.1, l.length ≤ 1048576) (hm : ahead.length ≤ 1048576) : F_aj (p, l, ahead, ()) = some ((Qdu p l ahead, ()), ()) := by
 unfold F_aj Qdu
 dsimp only
 rw [QnZ p _ _ h, QM, QM, QM, QkC p _ h h2, QlT l ahead hm]
 simp only [Obn]
 by_cases h0 : Qcj p l.1 l.2.1 = 0
 ·rw [h0]
  cases b1 : inB l.2.2.1 0 23 <;> cases b2 : inB l.2.2.2.1 5 6 <;> cases b3 : inB l.2.2.2.2.1 5 6 <;> cases b4 : leI 0 (Qez p.1 l.2.2.1) <;> cases b5 : ahead.any (clash l) <;> simp
 ·simp [h0]
def nz (c : Int) : Option Int := if c ≠ 0 then some c else none
def QbB (p : PolD) : Option Int := scan (fun i l => nz (Qdu p l (p.2.1.take i))) 0 p.2.1
theorem QkS (p : PolD) (i : Nat) (hi : i < p.2.1.length) (hm : p.2.1.length ≤ 1048576) (l : QE) (a1 : Int) (a2 a3 : Bool) (a4 : Int) (a5 a6 : Bool) :
  (((p.2.1.take i).any (clash l) = true ∧ Qc l_l_15 lots ((p, (i : Int), (), 0, (), a1, a2, a3, (), a4, a5, a6, ()), ((l.1, l.2.1, l.2.2.1, l.2.2.2.1, l.2.2.2.2.1, ()), ()), ()) = some (.inr (.inl ((6, ()), (), ())))) ∨
   ((p.2.1.take i).any (clash l) = false ∧ ∃ x, Qc l_l_15 lots ((p, (i : Int), (), 0, (), a1, a2, a3, (), a4, a5, a6, ()), ((l.1, l.2.1, l.2.2.1, l.2.2.2.1, l.2.2.2.2.1, ()), ()), ()) = some (.inl x) ∧ x.1.1 = p ∧ x.1.2.1 = (i : Int))) := by
 have hl : (p.2.1.take i).length = i := by simp; omega
 obtain ⟨x, hx, hx1, hx2⟩ : ∃ x, (∀ rec, l_l_15 rec ((p, (i : Int), (), (i : Int), (), a1, a2, a3, (), a4, a5, a6, ()), ((l.1, l.2.1, l.2.2.1, l.2.2.2.1, l.2.2.2.2.1, ()), ()), ()) = some (.inl x)) ∧ x.1.1 = p ∧ x.1.2.1 = (i : Int) := by
  refine ⟨((p, (i : Int), (), a1, a2, a3, (), a4, a5, a6, ()), ((l.1, l.2.1, l.2.2.1, l.2.2.2.1, l.2.2.2.2.1, ()), ()), ()), fun rec => ?_, rfl, rfl⟩
  unfold l_l_15
  dsimp only
  rw [if_neg Qaz]
 have key := Qae (step := l_l_15) (γ := denO o_l_15) (fun k => ((p, (i : Int), (), ((k : Nat) : Int), (), a1, a2, a3, (), a4, a5, a6, ()), ((l.1, l.2.1, l.2.2.1, l.2.2.2.1, l.2.2.2.2.1, ()), ()), ())) (p.2.1.take i)
  (fun _ o => if clash l o = true then some () else none) (fun _ => some (.inr (.inl ((6, ()), (), ())))) (some (.inl x)) (QbC (by omega)) ?_ ?_
 ·have h1 := Qgk (f := fun (_ : Nat) o => if clash l o = true then some () else none) (p := clash l) (m := p.2.1.take i) (i := 0) (fun j hj => by cases clash l (p.2.1.take i)[j] <;> rfl)
  have e0 : ((0 : Nat) : Int) = 0 := rfl
  rw [e0] at key
  rw [key, ← h1]
  cases scan (fun (_ : Nat) o => if clash l o = true then some () else none) 0 (p.2.1.take i) with
  | some c => exact .inl ⟨rfl, rfl⟩
  | none => exact .inr ⟨rfl, x, rfl, hx1, hx2⟩
 ·intro rec k hk
  have hk' : k < i := by omega
  unfold l_l_15
  dsimp only
  rw [if_pos (lt_t hk'), if_pos nat0, Qy (by omega), Qah (by omega), QnX, QnX, List.getElem_take]
  simp only [Obn, clash]
  rcases Bool.eq_false_or_eq_true ((p.2.1[k]).2.2.1 == l.2.2.1) with c1 | c1 <;> rcases Bool.eq_false_or_eq_true (QaU p.2.1[k] l.1 l.2.2.2.1) with c2 | c2 <;> rcases Bool.eq_false_or_eq_true (QaU p.2.1[k] l.2.1 l.2.2.2.2.1) with c3 | c3 <;> simp [c1, c2, c3]
 ·intro rec
  rw [hl]
  exact hx rec
theorem QkT (p : PolD) (h : p.1.length ≤ 1048576) (h2 : ∀ l ∈ p.1, l.length ≤ 1048576) (hm : p.2.1.length ≤ 1048576) :
  F_l (p, ()) = some ((if p.2.1.length ≤ 4 ∧ p.2.2.1.length ≤ 4 then (match QbB p with | some c => c | none => 0) else 2, ()), ()) := by
 have key := Qae (step := l_l_4) (γ := denO o_l_4) (fun i => ((p, ((i : Nat) : Int), ()), (), ())) p.2.1 (fun i l => nz (Qdu p l (p.2.1.take i)))
  (fun c => some (.inr (.inl ((c, ()), (), ())))) (some (.inl ((), (), ()))) (QbC hm) ?_ ?_
 ·have e0 : ((0 : Nat) : Int) = 0 := rfl
  rw [e0] at key
  unfold F_l QbB
  dsimp only
  by_cases h1 : p.2.1.length ≤ 4
  ·rw [if_pos (by rw [Qbd]; omega)]
   by_cases h3 : p.2.2.1.length ≤ 4
   ·rw [if_neg (by rw [QL]; omega), if_pos ⟨h1, h3⟩]
    show (Qc l_l_4 lots ((p, 0, ()), (), ())).bind _ = _
    rw [key]
    cases scan (fun i l => nz (Qdu p l (p.2.1.take i))) 0 p.2.1 <;> rfl
   ·rw [if_pos (by rw [QL]; omega), if_neg (by omega)]
  ·rw [if_neg (by rw [Qbd]; omega), if_neg (by omega)]
 ·intro rec i hi
  unfold l_l_4
  dsimp only
  rw [if_pos (lt_t hi), if_pos nat0, Qy hi, Qrw p _ _ h, QbY, QbY, QbY, QqM p _ h h2]
  simp only [Obn]
  generalize p.2.1[i] = l
  unfold Qdu
  by_cases h0 : Qcj p l.1 l.2.1 = 0
  ·rw [h0]
   cases b1 : inB l.2.2.1 0 23
   ·simp [nz]
   cases b2 : inB l.2.2.2.1 5 6
   ·simp [nz]
   cases b3 : inB l.2.2.2.2.1 5 6
   ·simp [nz]
   cases b4 : leI 0 (Qez p.1 l.2.2.1)
   ·rw [if_neg (by simp), if_pos (by simp), if_pos (by simp), if_neg (by simp), if_neg (by simp), if_neg (by simp), if_pos (by simp), if_neg (by simp)]
    rcases QkS p i hi hm l l.2.2.2.1 true (!true) l.2.2.2.2.1 true (!true) with ⟨g1, g2⟩ | ⟨g1, x, g2, g3, g4⟩
    ·show (Qc l_l_15 lots ((p, (i : Int), (), 0, (), l.2.2.2.1, true, (!true), (), l.2.2.2.2.1, true, (!true), ()), ((l.1, l.2.1, l.2.2.1, l.2.2.2.1, l.2.2.2.2.1, ()), ()), ())).bind _ = _
     rw [g1, g2]
     rfl
    ·show (Qc l_l_15 lots ((p, (i : Int), (), 0, (), l.2.2.2.1, true, (!true), (), l.2.2.2.2.1, true, (!true), ()), ((l.1, l.2.1, l.2.2.1, l.2.2.2.1, l.2.2.2.2.1, ()), ()), ())).bind _ = _
     rw [g1, g2, Obn]
     dsimp only
     rw [g3, g4, Qah (lt1 hi hm)]
     rfl
   ·simp [nz]
  ·simp [h0, nz]
 ·intro rec
  unfold l_l_4
  dsimp only
  rw [if_neg Qaz]
def Qeh (b o : TwoD) : Bool := (b.1 == o.1) && ((b.2.1 == o.2.1) && true)
def QgU (p : PolD) (b : TwoD) (ahead : List TwoD) : Int := if Qcj p b.1 b.2.1 ≠ 0 then Qcj p b.1 b.2.1 else if ahead.any (Qeh b) = true then 6 else 0
def Qfv (p : PolD) : Option Int := scan (fun i b => nz (QgU p b (p.2.2.1.take i))) 0 p.2.2.1
def QjR (p : PolD) : Int := if 1 ≤ p.2.2.2.1.length ∧ p.2.2.2.1.length ≤ 8 then
 (match scan (fun (_ : Nat) (s : TwoD) => if isG p s.1 = true then (if inB s.2.1 1 50 = true then none else some (3 : Int)) else some 4) 0 p.2.2.2.1 with | some c => c | none => 0) else 2
theorem QgV (b : TwoD) (m : List TwoD) (hm : m.length ≤ 1048576) : F_ao (m, b, ()) = some ((m.any (Qeh b), ()), ()) := by
 have key := Qae (step := l_an_2) (γ := denO o_j_2) (fun i => ((m, (), ((m.length : Nat) : Int), ((i : Nat) : Int), ()), ((b.1, b.2.1, ()), ()), ())) m
  (fun i o => if Qeh b o = true then some ((i : Nat) : Int) else none) (fun c => some (.inr (.inl ((c, ()), (), ())))) (some (.inl ((), (), ()))) (QbC hm) ?_ ?_
 ·unfold F_ao F_an
  show ((Qc l_an_2 lots ((m, (), ((m.length : Nat) : Int), ((0 : Nat) : Int), ()), ((b.1, b.2.1, ()), ()), ())).bind _).bind _ = _
  rw [key, ← Qel (P := Qeh b) (m := m) (f := fun i o => if Qeh b o = true then some ((i : Nat) : Int) else none) (fun _ _ => rfl)]
  cases scan (fun i o => if Qeh b o = true then some ((i : Nat) : Int) else none) 0 m <;> rfl
 ·intro rec i hi
  unfold l_an_2
  dsimp only
  rw [if_pos (lt_t hi), if_pos nat0, Qy hi, Qah (lt1 hi hm)]
  show (if Qeh b m[i] = true then _ else _) = _
  cases Qeh b m[i] <;> rfl
 ·intro rec
  unfold l_an_2
  dsimp only
  rw [if_neg Qaz]
theorem Qkv (p : PolD) (b : TwoD) (ahead : List TwoD) (h : p.1.length ≤ 1048576) (hm : ahead.length ≤ 1048576) : F_ap (p, b, ahead, ()) = some ((QgU p b ahead, ()), ()) := by
 unfold F_ap QgU
 dsimp only
 rw [QnZ p _ _ h, QgV b ahead hm]
 simp only [Obn]
 by_cases h0 : Qcj p b.1 b.2.1 = 0
 ·rw [h0]
  cases ahead.any (Qeh b) <;> simp
 ·simp [h0]
theorem QlH (p : PolD) (h : p.1.length ≤ 1048576) (hm : p.2.2.2.1.length ≤ 1048576) : F_aq (p, ()) = some ((QjR p, ()), ()) := by
 have key := Qae (step := l_aq_4) (γ := denO o_l_4) (fun i => ((p, p.2.2.2.1, ((p.2.2.2.1.length : Nat) : Int), ((i : Nat) : Int), ()), (), ())) p.2.2.2.1
  (fun (_ : Nat) (s : TwoD) => if isG p s.1 = true then (if inB s.2.1 1 50 = true then none else some (3 : Int)) else some 4) (fun c => some (.inr (.inl ((c, ()), (), ())))) (some (.inl ((), (), ()))) (QbC hm) ?_ ?_
 ·have e0 : ((0 : Nat) : Int) = 0 := rfl
  rw [e0] at key
  unfold F_aq QjR
  dsimp only
  rw [QM, Obn]
  by_cases g : 1 ≤ p.2.2.2.1.length ∧ p.2.2.2.1.length ≤ 8
  ·have : inB ((p.2.2.2.1.length : Nat) : Int) 1 8 = true := by unfold inB; simp; omega
   rw [this, if_neg (by simp), if_pos g]
   show (Qc l_aq_4 lots ((p, p.2.2.2.1, ((p.2.2.2.1.length : Nat) : Int), 0, ()), (), ())).bind _ = _
   rw [key]
   cases scan (fun (_ : Nat) (s : TwoD) => if isG p s.1 = true then (if inB s.2.1 1 50 = true then none else some (3 : Int)) else some 4) 0 p.2.2.2.1 <;> rfl
  ·have : inB ((p.2.2.2.1.length : Nat) : Int) 1 8 = false := by unfold inB; simp; omega
   rw [this, if_pos (by simp), if_neg g]
 ·intro rec i hi
  unfold l_aq_4
  dsimp only
  rw [if_pos (lt_t hi), if_pos nat0, Qy hi, QdT p _ h, Obn, QM, Obn, Qah (lt1 hi hm)]
  cases b1 : isG p (p.2.2.2.1[i]).1
  ·simp
  ·cases b2 : inB (p.2.2.2.1[i]).2.1 1 50 <;> simp
 ·intro rec
  unfold l_aq_4
  dsimp only
  rw [if_neg Qaz]
def own1 (l : List Int) : Option Int := if 1 ≤ l.length ∧ l.length ≤ 5 then scan (fun (_ : Nat) x => if inB x 0 23 = true then none else some (3 : Int)) 0 l else some 2
def dupM : List Int → List Int → Bool
 | _, [] => false
 | seen, x :: r => seen.contains x || dupM (seen ++ [x]) r
def QdA (own : List (List Int)) : Int := if 1 ≤ own.length ∧ own.length ≤ 3 then (match scan (fun (_ : Nat) l => own1 l) 0 own with | some c => c | none => if dupM [] own.flatten = true then 6 else 0) else 2
theorem Qmn {T : Type} (p : PolD) (i : Nat) (hi : i < p.1.length) (hl : (p.1[i]).length ≤ 1048576) (a1 a2 : PolD) (b1 b2 : List (List Int)) (c : Int) (d1 d2 : List Int) (e1 : Int) (e2 : Bool) :
  ((scan (fun (_ : Nat) x => if inB x 0 23 = true then none else some (3 : Int)) 0 p.1[i] = none ∧ ∃ x, Qc l_g_9 lots ((p, (i : Int), 0, a1, a2, b1, b2, c, d1, d2, e1, e2, ()), (), ()) = some (.inl x) ∧ x.1.1 = p ∧ x.1.2.1 = (i : Int)) ∨
   (scan (fun (_ : Nat) x => if inB x 0 23 = true then none else some (3 : Int)) 0 p.1[i] = some 3 ∧ Qc l_g_9 lots ((p, (i : Int), 0, a1, a2, b1, b2, c, d1, d2, e1, e2, ()), (), ()) = some (.inr (.inl ((3, ()), (), ()))))) := by
 have key := Qae (step := l_g_9) (γ := denO o_g_9) (fun k => ((p, (i : Int), ((k : Nat) : Int), a1, a2, b1, b2, c, d1, d2, e1, e2, ()), (), ())) p.1[i]
  (fun (_ : Nat) x => if inB x 0 23 = true then none else some (3 : Int)) (fun c => some (.inr (.inl ((c, ()), (), ())))) (some (.inl ((p, (i : Int), a1, a2, b1, b2, c, d1, d2, e1, e2, ()), (), ()))) (QbC hl) ?_ ?_
 ·have e0 : ((0 : Nat) : Int) = 0 := rfl
  rw [e0] at key
  rw [key]
  cases hs : scan (fun (_ : Nat) x => if inB x 0 23 = true then none else some (3 : Int)) 0 p.1[i] with
  | none => exact .inl ⟨rfl, _, rfl, rfl, rfl⟩
  | some c =>
   have : c = 3 := Qcv (P := fun c => c = 3) (fun j hj c hc => by
    split at hc
    ·cases hc
    ·exact (Osj hc).symm) c hs
   subst this
   exact .inr ⟨rfl, rfl⟩
 ·intro rec k hk
  unfold l_g_9
  dsimp only
  rw [if_pos nat0, Qy hi, if_pos (lt_t hk), if_pos nat0, Qy hi, if_pos nat0, Qy hk, QbY, Obn, Qah (lt1 hk hl)]
  cases inB (p.1[i])[k] 0 23 <;> rfl
 ·intro rec
  unfold l_g_9
  dsimp only
  rw [if_pos nat0, Qy hi, if_neg Qaz]
theorem Qem : ∀ (l seen r : List Int), dupM seen (l ++ r) = (dupM seen l || dupM (seen ++ l) r)
 | [], seen, r => by simp [dupM]
 | x :: l, seen, r => by
  simp only [List.cons_append, dupM, Qem l (seen ++ [x]) r, Bool.or_assoc, List.append_assoc, List.singleton_append, List.nil_append]
theorem Qmp (p : PolD) (seen : List Int) (i : Nat) (hi : i < p.1.length) (hl : (p.1[i]).length ≤ 1048576) (hs : seen.length ≤ 4194304) (hs2 : seen.length + (p.1[i]).length ≤ 1048576) :
  Qc l_g_18 lots ((p, seen, (i : Int), 0, ()), (), ()) = if dupM seen p.1[i] = true then some (.inr (.inl ((6, ()), (), ()))) else some (.inl ((p, seen ++ p.1[i], (i : Int), ()), (), ())) := by
 have key := Qie (step := l_g_18) (γ := denO o_g_18) (fun k (s : List Int) => ((p, s, (i : Int), ((k : Nat) : Int), ()), (), ())) (p.1[i]).length (QbD (QbC hl)) (fun k s => s = seen ++ (p.1[i]).take k)
  (fun k s => if dupM s ((p.1[i]).drop k) = true then some (.inr (.inl ((6, ()), (), ()))) else some (.inl ((p, seen ++ p.1[i], (i : Int), ()), (), ()))) ?_ 0 seen (by omega) (by simp)
 ·exact key
 ·rintro rec k s hk hsk ih
  unfold l_g_18
  dsimp only
  rw [if_pos nat0, Qy hi]
  by_cases hlt : k < (p.1[i]).length
  ·have hsl : s.length = seen.length + k := by rw [hsk]; simp; omega
   rw [if_pos (lt_t hlt), if_pos nat0, Qy hi, if_pos nat0, Qy hlt, QlR _ _ (by omega), Obn, Qbz hlt]
   rw [show dupM s ((p.1[i])[k] :: (p.1[i]).drop (k + 1)) = (s.contains (p.1[i])[k] || dupM (s ++ [(p.1[i])[k]]) ((p.1[i]).drop (k + 1))) from rfl]
   by_cases hc : s.contains (p.1[i])[k] = true
   ·rw [if_pos hc, hc]
    simp
   ·rw [if_neg hc, if_pos nat0, Qy hi, if_pos nat0, Qy hlt, if_pos (by simp; omega), Qah (lt1 hlt hl)]
    have hc' : s.contains (p.1[i])[k] = false := by simpa using hc
    rw [hc', Bool.false_or]
    refine ih _ hlt ?_
    rw [hsk, List.append_assoc, List.take_add_one, List.getElem?_eq_getElem hlt]
    rfl
  ·rw [if_neg (lt_f hlt), Qds hlt]
   rw [show dupM s [] = false from rfl]
   rw [hsk, List.take_of_length_le (by omega)]
   simp
theorem Qjt {own : List (List Int)} {i : Nat} (hi : i < own.length) : (own.take (i + 1)).flatten = (own.take i).flatten ++ own[i] := by
 have e : own.take (i + 1) = own.take i ++ [own[i]] := by rw [List.take_add_one, List.getElem?_eq_getElem hi]; rfl
 rw [e, List.flatten_append]
 simp
theorem QqL {l : List Int} (h : own1 l = none) : l.length ≤ 5 := by
 unfold own1 at h
 split at h
 ·rename_i h'; exact h'.2
 ·cases h
theorem QeX {α β : Type} {f : Nat → α → Option β} : ∀ {m : List α} {i : Nat}, scan f i m = none → ∀ j (h : j < m.length), f (i + j) m[j] = none
 | [], _, _, j, h => by simp at h
 | x :: r, i, hs, j, h => by
  simp only [scan] at hs
  split at hs
  ·cases hs
  ·rename_i h0
   cases j with
   | zero => simpa using h0
   | succ j =>
    have := QeX hs j (by simpa using h)
    simpa [Nat.add_assoc, Nat.add_comm, Nat.add_left_comm] using this
theorem Qlu {own : List (List Int)} (h : ∀ j (hj : j < own.length), (own[j]).length ≤ 5) : ∀ i, i ≤ own.length → (own.take i).flatten.length ≤ 5 * i
 | 0, _ => by simp
 | i + 1, hi => by
  rw [Qjt (by omega), List.length_append]
  have := Qlu h i (by omega)
  have := h i (by omega)
  omega
theorem Qmo (p : PolD) (h : p.1.length ≤ 1048576) (h2 : ∀ l ∈ p.1, l.length ≤ 1048576) : F_g (p, ()) = some ((QdA p.1, ()), ()) := by
 unfold F_g QdA
 dsimp only
 by_cases g1 : 1 ≤ p.1.length
 case neg => rw [if_neg (by rw [Qbd]; omega), if_neg (by omega)]
 rw [if_pos (by rw [Qbd]; omega)]
 by_cases g2 : p.1.length ≤ 3
 case neg => rw [if_pos (by rw [QL]; omega), if_neg (by omega)]
 rw [if_neg (by rw [QL]; omega), if_pos ⟨g1, g2⟩]
 have key := Qae (step := l_g_4) (γ := denO o_g_4) (fun i => ((p, ((i : Nat) : Int), ()), (), ())) p.1 (fun (_ : Nat) l => own1 l)
  (fun c => some (.inr (.inl ((c, ()), (), ())))) (some (.inl ((p, ()), (), ()))) (QbC h) ?_ ?_
 ·have e0 : ((0 : Nat) : Int) = 0 := rfl
  rw [e0] at key
  show (Qc l_g_4 lots ((p, 0, ()), (), ())).bind _ = _
  rw [key]
  cases hs : scan (fun (_ : Nat) l => own1 l) 0 p.1 with
  | some c => rfl
  | none =>
   rw [Obn]
   dsimp only
   have h5 : ∀ j (hj : j < p.1.length), (p.1[j]).length ≤ 5 := fun j hj => QqL (QeX hs j hj)
   have key2 := Qie (step := l_g_15) (γ := denO o_g_15) (fun k (s : List Int) => ((p, s, ((k : Nat) : Int), ()), (), ())) p.1.length (QbD (QbC h)) (fun k s => s = (p.1.take k).flatten)
    (fun k s => if dupM s ((p.1.drop k).flatten) = true then some (.inr (.inl ((6, ()), (), ()))) else some (.inl ((), (), ()))) ?_ 0 [] (by omega) (by simp)
   ·show (Qc l_g_15 lots ((p, [], 0, ()), (), ())).bind _ = _
    rw [e0] at key2
    rw [key2, List.drop_zero]
    cases dupM [] p.1.flatten <;> rfl
   ·rintro rec k s hk hsk ih
    unfold l_g_15
    dsimp only
    by_cases hlt : k < p.1.length
    ·have hfl := Qlu h5 k hk
     rw [← hsk] at hfl
     have := h5 k hlt
     rw [if_pos (lt_t hlt), Qbz hlt, List.flatten_cons, Qem]
     show (Qc l_g_18 lots ((p, s, (k : Int), 0, ()), (), ())).bind _ = _
     rw [Qmp p s k hlt (by omega) (by omega) (by omega)]
     cases hd : dupM s p.1[k]
     ·rw [if_neg (by simp), Obn]
      dsimp only
      rw [Qah (lt1 hlt h), Bool.false_or]
      exact ih _ hlt (by rw [hsk, Qjt hlt])
     ·rfl
    ·rw [if_neg (lt_f hlt), Qds hlt]
     rfl
 ·intro rec i hi
  unfold l_g_4
  dsimp only
  have hl := h2 _ (List.getElem_mem hi)
  rw [if_pos (lt_t hi), if_pos nat0, Qy hi]
  unfold own1
  by_cases k1 : 1 ≤ (p.1[i]).length
  case neg => rw [if_neg (by rw [Qbd]; omega), if_neg (by omega)]
  rw [if_pos (by rw [Qbd]; omega), if_pos nat0, Qy hi]
  by_cases k2 : (p.1[i]).length ≤ 5
  case neg => rw [if_pos (by rw [QL]; omega), if_neg (by omega)]
  rw [if_neg (by rw [QL]; omega), if_pos ⟨k1, k2⟩]
  rcases Qmn (T := Unit) p i hi hl p p p.1 p.1 (i : Int) p.1[i] p.1[i] (((p.1[i]).length : Nat) : Int) (ltI 5 (((p.1[i]).length : Nat) : Int)) with ⟨g, x, g3, g4, g5⟩ | ⟨g, g3⟩
  ·show (Qc l_g_9 lots _).bind _ = _
   rw [g, g3, Obn]
   dsimp only
   rw [g4, g5, Qah (lt1 hi h)]
  ·show (Qc l_g_9 lots _).bind _ = _
   rw [g, g3]
   rfl
 ·intro rec
  unfold l_g_4
  dsimp only
  rw [if_neg Qaz]
theorem QoP (es : List (Int × Bool)) (x y : Int) : getM (setM es x true) y = (y == x || getM es y) := by
 induction es with
 | nil =>
  simp only [setM, getM]
  by_cases e : x = y
  ·subst e; simp
  ·rw [if_neg e]; simp [Ne.symm e]
 | cons a r ih =>
  simp only [setM, getM]
  by_cases e : a.1 = x
  ·rw [if_pos e]
   simp only [getM]
   by_cases e2 : x = y
   ·subst e2; simp
   ·rw [if_neg e2, if_neg (by rw [e]; exact e2)]; simp [Ne.symm e2]
  ·rw [if_neg e]
   simp only [getM]
   by_cases e2 : a.1 = y
   ·subst e2; rw [if_pos rfl, if_pos rfl]; simp [e]
   ·rw [if_neg e2, if_neg e2, ih]
theorem QkD {T1 T2 T3 : Int} (es : List (Int × Bool)) (t : Bool) (own : List (List Int)) (a b : Int) (l : List Int) (hl : l.length ≤ 1048576) (seen : List Int) (hes : ∀ y, getM es y = seen.contains y) :
  (∃ es', scan (fun (_ : Nat) x => if inB x 0 23 = true then none else some (3 : Int)) 0 l = none ∧ (∀ y, getM es' y = (seen ++ l).contains y) ∧
   Qc l_aa_10 lots ((es, t, own, a, b, l, ((l.length : Nat) : Int), 0, ()), (), ()) = some (.inl ((es', t || dupM seen l, own, a, b, ()), (), ()))) ∨
  (scan (fun (_ : Nat) x => if inB x 0 23 = true then none else some (3 : Int)) 0 l = some 3 ∧ Qc l_aa_10 lots ((es, t, own, a, b, l, ((l.length : Nat) : Int), 0, ()), (), ()) = some (.inr (.inl ((3, ()), (), ())))) := by
 have key : ∀ n (k : Nat) (es : List (Int × Bool)) (t : Bool) (seen : List Int), l.length - k < n → k ≤ l.length → (∀ y, getM es y = seen.contains y) →
   (∃ es', scan (fun (_ : Nat) x => if inB x 0 23 = true then none else some (3 : Int)) k (l.drop k) = none ∧ (∀ y, getM es' y = (seen ++ l.drop k).contains y) ∧
   Qc l_aa_10 n ((es, t, own, a, b, l, ((l.length : Nat) : Int), ((k : Nat) : Int), ()), (), ()) = some (.inl ((es', t || dupM seen (l.drop k), own, a, b, ()), (), ()))) ∨
   (scan (fun (_ : Nat) x => if inB x 0 23 = true then none else some (3 : Int)) k (l.drop k) = some 3 ∧ Qc l_aa_10 n ((es, t, own, a, b, l, ((l.length : Nat) : Int), ((k : Nat) : Int), ()), (), ()) = some (.inr (.inl ((3, ()), (), ())))) := by
  intro n
  induction n with
  | zero => intro k _ _ _ h; omega
  | succ n ih =>
   intro k es t seen hn hk hes
   simp only [Qc]
   generalize Qc l_aa_10 n = rec at ih ⊢
   by_cases hlt : k < l.length
   ·have hw : IntKind.i64.wrap ((k : Int) + 1) = ((k + 1 : Nat) : Int) := Qah (lt1 hlt hl)
    rw [Qbz hlt]
    simp only [scan, dupM]
    have hes2 : ∀ y, getM (setM es l[k] true) y = (seen ++ [l[k]]).contains y := by
     intro y
     rw [QoP, hes]
     rw [Bool.eq_iff_iff]
     simp [or_comm]
    cases hb : inB l[k] 0 23
    ·right
     refine ⟨by simp, ?_⟩
     unfold l_aa_10
     dsimp only
     rw [if_pos (lt_t hlt), if_pos nat0, Qy hlt, QM, Obn, hb]
     rfl
    ·have go : l_aa_10 rec ((es, t, own, a, b, l, ((l.length : Nat) : Int), ((k : Nat) : Int), ()), (), ()) = rec ((setM es l[k] true, t || seen.contains l[k], own, a, b, l, ((l.length : Nat) : Int), ((k + 1 : Nat) : Int), ()), (), ()) := by
      unfold l_aa_10
      dsimp only
      rw [if_pos (lt_t hlt), if_pos nat0, Qy hlt, QM, Obn, hb, if_neg (by simp), hw, ← hes]
      cases t <;> rfl
     rw [go]
     rcases ih (k + 1) (setM es l[k] true) (t || seen.contains l[k]) (seen ++ [l[k]]) (by omega) (by omega) hes2 with ⟨es', g1, g2, g3⟩ | ⟨g1, g2⟩
     ·left
      refine ⟨es', by simpa using g1, fun y => by rw [g2]; simp, ?_⟩
      rw [g3, Bool.or_assoc]
     ·right
      exact ⟨by simpa using g1, g2⟩
   ·left
    rw [Qds hlt]
    refine ⟨es, rfl, by simpa using hes, ?_⟩
    unfold l_aa_10
    dsimp only
    rw [if_neg (lt_f hlt)]
    simp [dupM]
 simpa using key lots 0 es t seen (by have := QbD (QbC hl); omega) (by omega) hes
theorem QlG (p : PolD) (h : p.1.length ≤ 1048576) (h2 : ∀ l ∈ p.1, l.length ≤ 1048576) : F_aa (p, ()) = some ((QdA p.1, ()), ()) := by
 unfold F_aa QdA
 dsimp only
 rw [QM, Obn]
 by_cases g : 1 ≤ p.1.length ∧ p.1.length ≤ 3
 case neg =>
  have : inB ((p.1.length : Nat) : Int) 1 3 = false := by unfold inB; simp; omega
  rw [this, if_pos (by simp), if_neg g]
 have : inB ((p.1.length : Nat) : Int) 1 3 = true := by unfold inB; simp; omega
 rw [this, if_neg (by simp), if_pos g]
 have key : ∀ n (k : Nat) (es : List (Int × Bool)) (t : Bool) (seen : List Int), p.1.length - k < n → k ≤ p.1.length → (∀ y, getM es y = seen.contains y) →
   (Qc l_aa_5 n ((es, t, p.1, ((p.1.length : Nat) : Int), ((k : Nat) : Int), ()), (), ()) = match scan (fun (_ : Nat) l => own1 l) k (p.1.drop k) with
    | some c => some (.inr (.inl ((c, ()), (), ()))) | none => some (.inl ((t || dupM seen (p.1.drop k).flatten, ()), (), ()))) := by
  intro n
  induction n with
  | zero => intro k _ _ _ h; omega
  | succ n ih =>
   intro k es t seen hn hk hes
   simp only [Qc]
   generalize Qc l_aa_5 n = rec at ih ⊢
   by_cases hlt : k < p.1.length
   ·have hl := h2 _ (List.getElem_mem hlt)
    rw [Qbz hlt]
    simp only [scan, List.flatten_cons, Qem]
    unfold l_aa_5 own1
    dsimp only
    rw [if_pos (lt_t hlt), if_pos nat0, Qy hlt, QM, Obn]
    by_cases g1 : 1 ≤ (p.1[k]).length ∧ (p.1[k]).length ≤ 5
    ·have : inB (((p.1[k]).length : Nat) : Int) 1 5 = true := by unfold inB; simp; omega
     rw [this, if_neg (by simp), if_pos g1]
     rcases QkD (T1 := 0) (T2 := 0) (T3 := 0) es t p.1 ((p.1.length : Nat) : Int) ((k : Nat) : Int) p.1[k] hl seen hes with ⟨es', q1, q2, q3⟩ | ⟨q1, q2⟩
     ·show (Qc l_aa_10 lots _).bind _ = _
      rw [q1, q3, Obn]
      dsimp only
      rw [Qah (lt1 hlt h), ih (k + 1) es' _ (seen ++ p.1[k]) (by omega) (by omega) q2, Bool.or_assoc]
      rfl
     ·show (Qc l_aa_10 lots _).bind _ = _
      rw [q1, q2]
      rfl
    ·have : inB (((p.1[k]).length : Nat) : Int) 1 5 = false := by unfold inB; simp; omega
     rw [this, if_pos (by simp), if_neg g1]
   ·rw [Qds hlt]
    unfold l_aa_5
    dsimp only
    rw [if_neg (lt_f hlt)]
    simp [scan, dupM]
 have k0 := key lots 0 [] false [] (by have := QbD (QbC h); omega) (by omega) (fun y => by simp [getM])
 have e0 : ((0 : Nat) : Int) = 0 := rfl
 rw [e0, List.drop_zero] at k0
 show (Qc l_aa_5 lots (([], false, p.1, ((p.1.length : Nat) : Int), 0, ()), (), ())).bind _ = _
 rw [k0]
 cases scan (fun (_ : Nat) l => own1 l) 0 p.1 with
 | some c => rfl
 | none =>
  rw [Obn]
  dsimp only
  cases dupM [] p.1.flatten <;> rfl
def polM (p : PolD) : Int :=
 if QdA p.1 ≠ 0 then QdA p.1
 else if p.2.1.length ≤ 4 ∧ p.2.2.1.length ≤ 4 then (match QbB p with | some c => c | none => match Qfv p with | some c => c | none => QjR p) else 2
theorem Qss {c d : Int} (h : nz c = some d) : d ≠ 0 := by
 unfold nz at h
 split at h
 ·rename_i h'; rw [← Osj h]; exact h'
 ·cases h
theorem QjB {p : PolD} {c : Int} (h : QbB p = some c) : c ≠ 0 := Qcv (P := fun c => c ≠ 0) (fun j hj c hc => Qss hc) c h
theorem QoB {p : PolD} {c : Int} (h : Qfv p = some c) : c ≠ 0 := Qcv (P := fun c => c ≠ 0) (fun j hj c hc => Qss hc) c h
theorem QfA (p : PolD) (h : QqP 1048576 p) : F_ar (p, ()) = some ((polM p, ()), ()) := by
 obtain ⟨⟨a1, a2⟩, a3, a4, a5⟩ := h
 unfold F_ar polM
 dsimp only
 rw [QlG p a1 a2, Obn]
 dsimp only
 by_cases h0 : QdA p.1 = 0
 case neg => rw [if_pos (by simpa using h0), if_pos h0]
 simp only [h0, bne_self_eq_false, Bool.false_eq_true, if_false, ne_eq, not_true_eq_false]
 by_cases h1 : p.2.1.length ≤ 4
 case neg => rw [if_neg (by rw [Qbd]; omega), if_neg (by omega)]
 rw [if_pos (by rw [Qbd]; omega)]
 by_cases h3 : p.2.2.1.length ≤ 4
 case neg => rw [if_pos (by rw [QL]; omega), if_neg (by omega)]
 rw [if_neg (by rw [QL]; omega), if_pos ⟨h1, h3⟩]
 have key1 := Qae (step := l_ar_7) (γ := denO o_ar_7) (fun i => (((), p.2.1, ((p.2.1.length : Nat) : Int), ((i : Nat) : Int), ()), (p, ()), ())) p.2.1 (fun i l => nz (Qdu p l (p.2.1.take i)))
  (fun c => some (.inr (.inl ((c, ()), (), ())))) (some (.inl (((), ()), (p, ()), ()))) (QbC a3) ?_ ?_
 ·have key2 := Qae (step := l_ar_14) (γ := denO o_ar_14) (fun i => (((), p.2.2.1, ((p.2.2.1.length : Nat) : Int), ((i : Nat) : Int), ()), (p, ()), ())) p.2.2.1 (fun i b => nz (QgU p b (p.2.2.1.take i)))
   (fun c => some (.inr (.inl ((c, ()), (), ())))) (some (.inl (((), ()), (p, ()), ()))) (QbC a4) ?_ ?_
  ·have e0 : ((0 : Nat) : Int) = 0 := rfl
   rw [e0] at key1 key2
   show (Qc l_ar_7 lots (((), p.2.1, ((p.2.1.length : Nat) : Int), 0, ()), (p, ()), ())).bind _ = _
   rw [key1]
   unfold QbB
   cases scan (fun i l => nz (Qdu p l (p.2.1.take i))) 0 p.2.1 with
   | some c => rfl
   | none =>
    rw [Obn]
    dsimp only
    show (Qc l_ar_14 lots (((), p.2.2.1, ((p.2.2.1.length : Nat) : Int), 0, ()), (p, ()), ())).bind _ = _
    rw [key2]
    unfold Qfv
    cases scan (fun i b => nz (QgU p b (p.2.2.1.take i))) 0 p.2.2.1 with
    | some c => rfl
    | none =>
     rw [Obn]
     dsimp only
     rw [QlH p a1 a5, Obn]
  ·intro rec i hi
   unfold l_ar_14
   dsimp only
   rw [if_pos (lt_t hi), if_pos nat0, Qy hi, if_pos (show (0 : Int) ≤ 0 ∧ (0 : Int) ≤ (i : Int) ∧ (i : Int) ≤ ((p.2.2.1.length : Nat) : Int) from ⟨by omega, by omega, by omega⟩), Qah (lt1 hi a4)]
   have e : (p.2.2.1.drop (0 : Int).toNat).take (((i : Nat) : Int).toNat - (0 : Int).toNat) = p.2.2.1.take i := by simp
   rw [e, Qkv p _ _ a1 (by simp; omega), Obn]
   dsimp only
   unfold nz
   by_cases g : QgU p p.2.2.1[i] (p.2.2.1.take i) = 0
   ·rw [if_neg (by simpa using g), if_neg (by simpa using g)]
   ·rw [if_pos (by simpa using g), if_pos (by simpa using g)]
  ·intro rec
   unfold l_ar_14
   dsimp only
   rw [if_neg Qaz]
 ·intro rec i hi
  unfold l_ar_7
  dsimp only
  rw [if_pos (lt_t hi), if_pos nat0, Qy hi, if_pos (show (0 : Int) ≤ 0 ∧ (0 : Int) ≤ (i : Int) ∧ (i : Int) ≤ ((p.2.1.length : Nat) : Int) from ⟨by omega, by omega, by omega⟩), Qah (lt1 hi a3)]
  have e : (p.2.1.drop (0 : Int).toNat).take (((i : Nat) : Int).toNat - (0 : Int).toNat) = p.2.1.take i := by simp
  rw [e, QkG p _ _ a1 a2 (by simp; omega), Obn]
  dsimp only
  unfold nz
  by_cases g : Qdu p p.2.1[i] (p.2.1.take i) = 0
  ·rw [if_neg (by simpa using g), if_neg (by simpa using g)]
  ·rw [if_pos (by simpa using g), if_pos (by simpa using g)]
 ·intro rec
  unfold l_ar_7
  dsimp only
  rw [if_neg Qaz]
theorem QaL {α β : Type} {f : Nat → α → Option β} {m : List α} (h : scan f 0 m = none) : ∀ x ∈ m, ∃ i, f i x = none := by
 intro x hx
 obtain ⟨i, hi, rfl⟩ := List.mem_iff_getElem.1 hx
 exact ⟨_, QeX h i hi⟩
structure OkPol (p : PolD) : Prop where
 own : 1 ≤ p.1.length ∧ p.1.length ≤ 3
 own1 : ∀ l ∈ p.1, 1 ≤ l.length ∧ l.length ≤ 5 ∧ ∀ x ∈ l, 0 ≤ x ∧ x ≤ 23
 nodup : dupM [] p.1.flatten = false
 lanes : p.2.1.length ≤ 4 ∧ QbB p = none
 bells : p.2.2.1.length ≤ 4 ∧ Qfv p = none
 plan : 1 ≤ p.2.2.2.1.length ∧ p.2.2.2.1.length ≤ 8
 slots : ∀ s ∈ p.2.2.2.1, isG p s.1 = true ∧ 1 ≤ s.2.1 ∧ s.2.1 ≤ 50
theorem QbK {n a b : Int} : inB n a b = true ↔ a ≤ n ∧ n ≤ b := by unfold inB; simp
theorem Qge {p : PolD} (h : polM p = 0) : OkPol p := by
 unfold polM at h
 split at h
 ·rename_i h'; exact absurd h h'
 rename_i h0
 have h0 : QdA p.1 = 0 := by simpa using h0
 split at h
 case isFalse => cases h
 rename_i h4
 cases hl : QbB p with
 | some c => rw [hl] at h; exact absurd h (QjB hl)
 | none =>
 rw [hl] at h
 dsimp only at h
 cases hb : Qfv p with
 | some c => rw [hb] at h; exact absurd h (QoB hb)
 | none =>
 rw [hb] at h
 dsimp only at h
 unfold QdA at h0
 split at h0
 case isFalse => cases h0
 rename_i g1
 unfold QjR at h
 split at h
 case isFalse => cases h
 rename_i g2
 cases ho : scan (fun (_ : Nat) l => Go.Proofs.YtmoninjbahccoaaGreatDoor.own1 l) 0 p.1 with
 | some c =>
  rw [ho] at h0
  dsimp only at h0
  subst h0
  have : (0 : Int) ≠ 0 := Qcv (P := fun c => c ≠ 0) (fun j hj c hc => by
   unfold Go.Proofs.YtmoninjbahccoaaGreatDoor.own1 at hc
   split at hc
   ·exact Qcv (P := fun c => c ≠ 0) (fun j hj c hc => by
     split at hc
     ·cases hc
     ·rw [← Osj hc]; decide) c hc
   ·rw [← Osj hc]; decide) _ ho
  exact absurd rfl this
 | none =>
  rw [ho] at h0
  dsimp only at h0
  have hd : dupM [] p.1.flatten = false := by
   split at h0
   ·cases h0
   ·rename_i h'; simpa using h'
  refine ⟨g1, ?_, hd, ⟨h4.1, hl⟩, ⟨h4.2, hb⟩, g2, ?_⟩
  ·intro l hl'
   obtain ⟨_, e⟩ := QaL ho l hl'
   unfold Go.Proofs.YtmoninjbahccoaaGreatDoor.own1 at e
   split at e
   ·rename_i g
    refine ⟨g.1, g.2, fun x hx => ?_⟩
    obtain ⟨_, e2⟩ := QaL e x hx
    split at e2
    ·rename_i g3; exact QbK.1 g3
    ·cases e2
   ·cases e
  ·intro s hs
   cases hp : scan (fun (_ : Nat) (s : TwoD) => if isG p s.1 = true then (if inB s.2.1 1 50 = true then none else some (3 : Int)) else some 4) 0 p.2.2.2.1 with
   | some c =>
    rw [hp] at h
    dsimp only at h
    subst h
    have : (0 : Int) ≠ 0 := Qcv (P := fun c => c ≠ 0) (fun j hj c hc => by
     split at hc
     ·split at hc
      ·cases hc
      ·rw [← Osj hc]; decide
     ·rw [← Osj hc]; decide) _ hp
    exact absurd rfl this
   | none =>
    obtain ⟨_, e⟩ := QaL hp s hs
    split at e
    ·rename_i g
     split at e
     ·rename_i g3; exact ⟨g, QbK.1 g3⟩
     ·cases e
    ·cases e
def QpG (m : List TwoD) : Prop := m.length ≤ 8 ∧ ∀ s ∈ m, 1 ≤ s.2.1 ∧ s.2.1 ≤ 50
theorem OkPol.okPlan {p : PolD} (h : OkPol p) : QpG p.2.2.2.1 := ⟨h.plan.2, fun s hs => (h.slots s hs).2⟩
def QK (g : Int) : List TwoD → Int
 | [] => 0
 | s :: r => (if g < 0 ∨ s.1 = g then s.2.1 else 0) + QK g r
theorem QdH {g : Int} : ∀ {m : List TwoD}, (∀ s ∈ m, 1 ≤ s.2.1 ∧ s.2.1 ≤ 50) → 0 ≤ QK g m ∧ QK g m ≤ 50 * (m.length : Int)
 | [], _ => by simp [QK]
 | s :: r, h => by
  have h1 := h s (by simp)
  have := QdH (g := g) (m := r) fun s hs => h s (List.mem_cons_of_mem _ hs)
  simp only [QK, List.length_cons]
  split <;> omega
theorem Qpl {α : Type} {m : List α} {i : Nat} {P : α → Prop} (h : ∀ s ∈ m, P s) : ∀ s ∈ m.drop i, P s := fun s hs => h s (List.mem_of_mem_drop hs)
theorem Qnw (p : PolD) (g : Int) (h : QpG p.2.2.2.1) : F_bl (p, g, ()) = some ((QK g p.2.2.2.1, ()), ()) := by
 obtain ⟨hl, hs⟩ := h
 have key := Qie (step := l_bl_3) (γ := denO o_bl_3) (fun k (a : Int) => ((g, a, p.2.2.2.1, ((p.2.2.2.1.length : Nat) : Int), ((k : Nat) : Int), ()), (), ())) p.2.2.2.1.length (QbD (by omega)) (fun k a => 0 ≤ a ∧ a ≤ 50 * (k : Int))
  (fun k a => some (.inl ((a + QK g (p.2.2.2.1.drop k), ()), (), ()))) ?_ 0 0 (by omega) (by omega)
 ·have e0 : ((0 : Nat) : Int) = 0 := rfl
  rw [e0] at key
  unfold F_bl
  show (Qc l_bl_3 lots ((g, 0, p.2.2.2.1, ((p.2.2.2.1.length : Nat) : Int), 0, ()), (), ())).bind _ = _
  rw [key, Obn]
  simp
 ·rintro rec k a hk ha ih
  unfold l_bl_3
  dsimp only
  by_cases hlt : k < p.2.2.2.1.length
  ·have hb := hs _ (List.getElem_mem hlt)
   rw [if_pos (lt_t hlt), if_pos nat0, Qy hlt, Qq (n := a + (p.2.2.2.1[k]).2.1) (by omega) (by omega), Qah (by omega), Qbz hlt]
   rw [show QK g (p.2.2.2.1[k] :: p.2.2.2.1.drop (k + 1)) = (if g < 0 ∨ (p.2.2.2.1[k]).1 = g then (p.2.2.2.1[k]).2.1 else 0) + QK g (p.2.2.2.1.drop (k + 1)) from rfl]
   by_cases hg : g < 0
   ·rw [if_neg (by rw [Qbd]; omega), ih _ hlt (by omega), if_pos (.inl hg), Int.add_assoc]
   ·rw [if_pos (by rw [Qbd]; omega)]
    by_cases hg2 : (p.2.2.2.1[k]).1 = g
    ·rw [if_pos (by simpa using hg2), ih _ hlt (by omega), if_pos (.inr hg2), Int.add_assoc]
    ·rw [if_neg (by simpa using hg2), ih _ hlt (by omega), if_neg (by omega), Int.zero_add]
  ·rw [if_neg (lt_f hlt), Qds hlt]
   simp [QK]
abbrev QB := PolD × List Int × List QX × Int × Int × Int × Unit
theorem Qgw {γ : Type} {m : List Int} {z : Int} (n : Nat) (hz : z.toNat = n) (h : n < m.length) (K : Int → Option γ) : (m[z.toNat]?).bind K = K (m.getD n 0) := by
 rw [hz, List.getElem?_eq_getElem h, Obn, List.getD_eq_getElem?_getD, List.getElem?_eq_getElem h]
 rfl
def hartM (h : QX) : Int :=
 if h.1.length = 16 ∧ h.2.2.1.length = 11 ∧ h.1.getD 0 0 = 0 then
  (if allW h.1 = true ∧ okW h.2.1 = true ∧ allW h.2.2.1 = true ∧ allW h.2.2.2.2.2.2.2.1 = true ∧ allW h.2.2.2.2.2.2.2.2.1 = true then
   (if h.2.2.2.2.2.2.2.1.length ≤ 40 ∧ h.2.2.2.2.2.2.2.2.1.length ≤ 40 then
    (if inB h.2.2.2.2.2.2.1 0 1000000000 = true then
     (if h.2.2.1.getD 0 0 ≤ 3 ∧ h.2.2.1.getD 7 0 ≤ 7 ∧ h.2.2.1.getD 10 0 ≤ 8 ∧ h.2.2.1.getD 6 0 = 0 ∧ h.2.2.1.getD 8 0 = 0 then 0 else 1) else 3) else 2) else 3) else 1
theorem Qha (h : QX) (hl : QcJ 1048576 h) : F_bk (h, ()) = some ((hartM h, ()), ()) := by
 obtain ⟨l1, l2, l3, l4⟩ := hl
 unfold F_bk hartM
 dsimp only
 by_cases a1 : h.1.length = 16
 case neg =>
  have : ¬ ((h.1.length : Nat) : Int) = 16 := by omega
  simp [a1, this]
 rw [if_pos (by rw [a1]; rfl)]
 by_cases a2 : h.2.2.1.length = 11
 case neg =>
  have : ¬ ((h.2.2.1.length : Nat) : Int) = 11 := by omega
  simp [a2, this]
 rw [if_pos (by rw [a2]; rfl), Qgw (z := 0) 0 rfl (by omega)]
 by_cases a3 : h.1.getD 0 0 = 0
 case neg => rw [if_pos (by simpa using a3), if_neg (fun g => a3 g.2.2)]
 have hA : h.1.length = 16 ∧ h.2.2.1.length = 11 ∧ h.1.getD 0 0 = 0 := ⟨a1, a2, a3⟩
 rw [if_neg (by simpa using a3), if_pos hA, QaS _ (leM l1), Qjy, QaS _ (leM l2), QaS _ (leM l3), QaS _ (leM l4)]
 simp only [Obn]
 cases b1 : allW h.1
 ·simp
 cases b2 : okW h.2.1
 ·simp
 cases b3 : allW h.2.2.1
 ·simp
 cases b4 : allW h.2.2.2.2.2.2.2.1
 ·simp
 cases b5 : allW h.2.2.2.2.2.2.2.2.1
 ·simp
 simp only [Bool.not_true, and_self, if_true, Bool.false_eq_true, if_false]
 by_cases c1 : h.2.2.2.2.2.2.2.1.length ≤ 40
 case neg => rw [if_neg (by rw [Qbd]; omega), if_neg (fun g => c1 g.1)]
 rw [if_pos (by rw [Qbd]; omega)]
 by_cases c2 : h.2.2.2.2.2.2.2.2.1.length ≤ 40
 case neg => rw [if_pos (by rw [QL]; omega), if_neg (fun g => c2 g.2)]
 have hC : h.2.2.2.2.2.2.2.1.length ≤ 40 ∧ h.2.2.2.2.2.2.2.2.1.length ≤ 40 := ⟨c1, c2⟩
 rw [if_neg (by rw [QL]; omega), if_pos hC, QM, Obn]
 dsimp only
 cases b6 : inB h.2.2.2.2.2.2.1 0 1000000000
 ·simp
 rw [if_neg (by simp), if_pos rfl, Qgw (z := 0) 0 rfl (by omega)]
 by_cases d1 : h.2.2.1.getD 0 0 ≤ 3
 case neg => rw [if_neg (by rw [Qbd]; exact fun g => g (Int.not_le.1 d1)), if_neg (fun g => d1 g.1)]
 rw [if_pos (by rw [Qbd]; exact Int.not_lt.2 d1), Qgw (z := 7) 7 rfl (by omega)]
 by_cases d2 : h.2.2.1.getD 7 0 ≤ 7
 case neg => rw [if_neg (by rw [Qbd]; exact fun g => g (Int.not_le.1 d2)), if_neg (fun g => d2 g.2.1)]
 rw [if_pos (by rw [Qbd]; exact Int.not_lt.2 d2), Qgw (z := 10) 10 rfl (by omega)]
 by_cases d3 : h.2.2.1.getD 10 0 ≤ 8
 case neg => rw [if_neg (by rw [Qbd]; exact fun g => g (Int.not_le.1 d3)), if_neg (fun g => d3 g.2.2.1)]
 rw [if_pos (by rw [Qbd]; exact Int.not_lt.2 d3), Qgw (z := 6) 6 rfl (by omega)]
 by_cases d4 : h.2.2.1.getD 6 0 = 0
 case neg => rw [if_neg (by simpa using d4), if_neg (fun g => d4 g.2.2.2.1)]
 rw [if_pos (by simpa using d4), Qgw (z := 8) 8 rfl (by omega)]
 by_cases d5 : h.2.2.1.getD 8 0 = 0
 case neg => rw [if_pos (by simpa using d5), if_neg (fun g => d5 g.2.2.2.2)]
 have hD : h.2.2.1.getD 0 0 ≤ 3 ∧ h.2.2.1.getD 7 0 ≤ 7 ∧ h.2.2.1.getD 10 0 ≤ 8 ∧ h.2.2.1.getD 6 0 = 0 ∧ h.2.2.1.getD 8 0 = 0 := ⟨d1, d2, d3, d4, d5⟩
 rw [if_neg (by simpa using d5), if_pos hD]
def Qv : Nat → List TwoD → Int → Nat × Int × Int
 | k, [], at_ => (k, at_, 0)
 | k, s :: r, at_ => if s.2.1 ≤ at_ then Qv (k + 1) r (at_ - s.2.1) else (k, at_, s.2.1 - at_)
theorem Qbc : ∀ {m : List TwoD} {k : Nat} {a : Int}, (∀ s ∈ m, 1 ≤ s.2.1 ∧ s.2.1 ≤ 50) → 0 ≤ a → a < QK (-1) m →
  k ≤ (Qv k m a).1 ∧ ∃ s, m[(Qv k m a).1 - k]? = some s ∧ (Qv k m a).2.2 = s.2.1 - (Qv k m a).2.1 ∧ 0 ≤ (Qv k m a).2.1 ∧ (Qv k m a).2.1 < s.2.1
 | [], k, a, _, h0, h1 => by simp [QK] at h1; omega
 | s :: r, k, a, hs, h0, h1 => by
  simp only [QK] at h1
  rw [if_pos (.inl (by decide))] at h1
  simp only [Qv]
  by_cases h : s.2.1 ≤ a
  ·rw [if_pos h]
   obtain ⟨g0, q, g1, g2⟩ := Qbc (m := r) (k := k + 1) (a := a - s.2.1) (fun s hs' => hs s (List.mem_cons_of_mem _ hs')) (by omega) (by omega)
   refine ⟨by omega, q, ?_, g2⟩
   have e : (Qv (k + 1) r (a - s.2.1)).1 - k = ((Qv (k + 1) r (a - s.2.1)).1 - (k + 1)) + 1 := by omega
   rw [e, List.getElem?_cons_succ]
   exact g1
  ·rw [if_neg h]
   exact ⟨Nat.le_refl _, s, by simp, rfl, h0, by show a < s.2.1; omega⟩
def QaY (p : PolD) (clock : Int) : Int × Int := let e := Qv 0 p.2.2.2.1 (clock % QK (-1) p.2.2.2.1); ((e.1 : Int), e.2.2)
theorem Qeb {m : List TwoD} (h : ∀ s ∈ m, 1 ≤ s.2.1 ∧ s.2.1 ≤ 50) (hl : 1 ≤ m.length) : 1 ≤ QK (-1) m := by
 cases m with
 | nil => simp at hl
 | cons s r =>
  have := QdH (g := -1) (m := r) fun s hs => h s (List.mem_cons_of_mem _ hs)
  have := h s (by simp)
  simp only [QK]
  rw [if_pos (.inl (by decide))]
  omega
theorem Qrf {a b : Int} (h : 0 ≤ a) : a.tmod b = a % b := by
 rw [Int.tmod_eq_emod_of_nonneg h]
theorem QpD {γ : Type} {p : PolD} (hok : OkPol p) {step : ((PolD × Int × Int × Unit) × Unit × Unit → Option (((PolD × Int × Int × Unit) × Unit × Unit) ⊕ γ)) → (PolD × Int × Int × Unit) × Unit × Unit → Option (((PolD × Int × Int × Unit) × Unit × Unit) ⊕ γ)}
  (hstep : ∀ rec p a i, step rec ((p, a, i, ()), (), ()) = if 0 ≤ i then (p.2.2.2.1[i.toNat]?).bind fun y => if leI y.2.1 a = true then (if 0 ≤ i then (p.2.2.2.1[i.toNat]?).bind fun y =>
   rec ((p, IntKind.i64.wrap (a - y.2.1), IntKind.i64.wrap (i + 1), ()), (), ()) else none) else some (.inl ((p, a, i, ()), (), ())) else none)
  (a : Int) (h0 : 0 ≤ a) (h1 : a < QK (-1) p.2.2.2.1) : Qc step lots ((p, a, 0, ()), (), ()) = some (.inl ((p, (Qv 0 p.2.2.2.1 a).2.1, ((Qv 0 p.2.2.2.1 a).1 : Int), ()), (), ())) := by
 obtain ⟨hl, hs⟩ := hok.okPlan
 have key := Qie (step := step) (fun k (a : Int) => ((p, a, ((k : Nat) : Int), ()), (), ())) p.2.2.2.1.length (QbD (by omega)) (fun k a => 0 ≤ a ∧ a < QK (-1) (p.2.2.2.1.drop k))
  (fun k a => some (.inl ((p, (Qv k (p.2.2.2.1.drop k) a).2.1, ((Qv k (p.2.2.2.1.drop k) a).1 : Int), ()), (), ()))) ?_ 0 a (by omega) ⟨h0, by simpa using h1⟩
 ·exact key
 ·rintro rec k a hk ⟨g0, g1⟩ ih
  by_cases hlt : k < p.2.2.2.1.length
  ·have hb := hs _ (List.getElem_mem hlt)
   have hle := (QdH (g := -1) (Qpl (i := k) hs)).2
   rw [List.length_drop] at hle
   rw [hstep, if_pos nat0, Qy hlt, if_pos nat0, Qy hlt, Qah (by omega), Qq (n := a - (p.2.2.2.1[k]).2.1) (by omega) (by omega)]
   rw [Qbz hlt] at g1
   simp only [QK] at g1
   rw [if_pos (.inl (by decide))] at g1
   by_cases h : (p.2.2.2.1[k]).2.1 ≤ a
   ·have e : Qv k (p.2.2.2.1.drop k) a = Qv (k + 1) (p.2.2.2.1.drop (k + 1)) (a - (p.2.2.2.1[k]).2.1) := by
     rw [Qbz hlt]; simp only [Qv]; rw [if_pos h]
    rw [if_pos (Qbg.2 h), e]
    exact ih _ hlt ⟨by omega, by omega⟩
   ·have e : Qv k (p.2.2.2.1.drop k) a = (k, a, (p.2.2.2.1[k]).2.1 - a) := by
     rw [Qbz hlt]; simp only [Qv]; rw [if_neg h]
    rw [if_neg (by rw [Qbg]; exact h), e]
  ·rw [Qds hlt] at g1
   simp [QK] at g1
   omega
theorem QlN (p : PolD) (clock : Int) (hok : OkPol p) (h0 : 0 ≤ clock) : F_bm (p, clock, ()) = some (((QaY p clock).1, (QaY p clock).2, ()), ()) := by
 obtain ⟨hl, hs⟩ := hok.okPlan
 have hpos := Qeb hs hok.plan.1
 have hle := (QdH (g := -1) hs).2
 unfold F_bm
 dsimp only
 rw [Qnw p (-1) hok.okPlan, Obn]
 dsimp only
 have a0 : 0 ≤ clock % QK (-1) p.2.2.2.1 := Int.emod_nonneg _ (by omega)
 have a1 : clock % QK (-1) p.2.2.2.1 < QK (-1) p.2.2.2.1 := Int.emod_lt_of_pos _ (by omega)
 have hne : ¬ QK (-1) p.2.2.2.1 = 0 := by omega
 rw [if_neg hne, Qrf h0]
 show (Qc l_bm_3 lots ((p, clock % QK (-1) p.2.2.2.1, 0, ()), (), ())).bind _ = _
 rw [QpD hok (step := l_bm_3) (fun _ _ _ _ => rfl) _ a0 a1, Obn]
 dsimp only
 obtain ⟨_, s, g1, g2, g3, g4⟩ := Qbc (k := 0) hs a0 a1
 rw [Nat.sub_zero] at g1
 have hb := hs s (List.mem_of_getElem? g1)
 rw [if_pos nat0, Int.toNat_natCast, g1, Obn, Qq (by omega) (by omega), ← g2]
 rfl
def QmO (n : Nat) (x : QB) : Prop := QqP n x.1 ∧ x.2.1.length ≤ n ∧ x.2.2.1.length ≤ n ∧ ∀ h ∈ x.2.2.1, QcJ n h
def QhQ (m : List QX) : Option Int := scan (fun (_ : Nat) h => nz (hartM h)) 0 m
def Qdc (x : QB) : Int :=
 if polM x.1 ≠ 0 then polM x.1
 else if (QG x.2.1 = 0 ∧ x.2.1.length = 192) ∧ x.2.2.1.length = x.1.1.length then
  (match QhQ x.2.2.1 with
   | some c => c
   | none => if inB x.2.2.2.2.2.1 0 1000000 = true then (if x.2.2.2.1 = (QaY x.1 x.2.2.2.2.2.1).1 ∧ x.2.2.2.2.1 = (QaY x.1 x.2.2.2.2.2.1).2 then 0 else 1) else 3)
 else 1
theorem QfY (m : List Int) (h : m.length ≤ 1048576) : F_bj (m, ()) = some ((decide (QG m = 0 ∧ m.length = 192), ()), ()) := by
 unfold F_bj
 rw [QfX m (leM h), Obn]
 dsimp only
 by_cases h0 : QG m = 0
 ·rw [if_pos (by simpa using h0)]
  by_cases h1 : m.length = 192
  ·simp [h0, h1]
  ·have : ¬ ((m.length : Nat) : Int) = 192 := by omega
   simp [h0, h1, this]
 ·rw [if_neg (by simpa using h0)]
  simp [h0]
theorem Qhb (x : QB) (h : QmO 1048576 x) : F_bn (x, ()) = some ((Qdc x, ()), ()) := by
 obtain ⟨hp, h1, h2, h3⟩ := h
 let bx : (den (.slice (.slice (.int .i64)))) × List QE × List TwoD × List TwoD × List Int × List QX × Int × Int × Int × Unit := (x.1.1, x.1.2.1, x.1.2.2.1, x.1.2.2.2.1, x.2.1, x.2.2.1, x.2.2.2.1, x.2.2.2.2.1, x.2.2.2.2.2.1, ())
 have key := Qae (step := l_bn_7) (γ := denO o_bn_7) (fun i => (((), x.2.2.1, ((x.2.2.1.length : Nat) : Int), ((i : Nat) : Int), ()), (bx, ()), ())) x.2.2.1 (fun (_ : Nat) h => nz (hartM h))
  (fun c => some (.inr (.inl ((c, ()), (), ())))) (some (.inl (((), ()), (bx, ()), ()))) (QbC h2) ?_ ?_
 ·have e0 : ((0 : Nat) : Int) = 0 := rfl
  rw [e0] at key
  unfold F_bn Qdc
  dsimp only
  rw [QfA x.1 hp, Obn]
  dsimp only
  by_cases g0 : polM x.1 = 0
  case neg => rw [if_pos (by simpa using g0), if_pos g0]
  have n0 : ¬ polM x.1 ≠ 0 := by simpa using g0
  have hG : ∀ P : Prop, ¬ P → ¬ (P ∧ x.2.2.1.length = x.1.1.length) := fun P h g => h g.1
  rw [if_neg (by simpa using g0), if_neg n0, QfY _ h1, Obn]
  dsimp only
  by_cases g1 : QG x.2.1 = 0 ∧ x.2.1.length = 192
  case neg => rw [if_neg (by simpa using g1), if_neg (hG _ g1)]
  rw [if_pos (by simpa using g1)]
  by_cases g2 : x.2.2.1.length = x.1.1.length
  case neg =>
   have : ¬ ((x.2.2.1.length : Nat) : Int) = ((x.1.1.length : Nat) : Int) := by omega
   rw [if_pos (by simpa using this), if_neg (fun g : (QG x.2.1 = 0 ∧ x.2.1.length = 192) ∧ x.2.2.1.length = x.1.1.length => g2 g.2)]
  have hH : (QG x.2.1 = 0 ∧ x.2.1.length = 192) ∧ x.2.2.1.length = x.1.1.length := ⟨g1, g2⟩
  rw [if_neg (by rw [g2]; simp), if_pos hH]
  show (Qc l_bn_7 lots (((), x.2.2.1, ((x.2.2.1.length : Nat) : Int), 0, ()), (bx, ()), ())).bind _ = _
  rw [key]
  unfold QhQ
  cases scan (fun (_ : Nat) h => nz (hartM h)) 0 x.2.2.1 with
  | some c => rfl
  | none =>
   rw [Obn]
   dsimp only [bx]
   rw [QM, Obn]
   dsimp only
   cases g3 : inB x.2.2.2.2.2.1 0 1000000
   ·simp
   ·rw [if_neg (by simp), if_pos rfl]
    show (F_bm (x.1, x.2.2.2.2.2.1, ())).bind _ = _
    rw [QlN x.1 _ (Qge g0) (QbK.1 g3).1, Obn]
    dsimp only
    by_cases g4 : x.2.2.2.1 = (QaY x.1 x.2.2.2.2.2.1).1
    ·by_cases g5 : x.2.2.2.2.1 = (QaY x.1 x.2.2.2.2.2.1).2
     ·rw [if_pos (by simpa using g4), if_neg (by simpa using g5), if_pos ⟨g4, g5⟩]
     ·rw [if_pos (by simpa using g4), if_pos (by simpa using g5), if_neg (fun h => g5 h.2)]
    ·rw [if_neg (by simpa using g4), if_neg (fun h => g4 h.1)]
 ·intro rec i hi
  unfold l_bn_7
  dsimp only
  rw [if_pos (lt_t hi), if_pos nat0, Qy hi, Qha _ (h3 _ (List.getElem_mem hi)), Obn, Qah (lt1 hi h2)]
  dsimp only
  unfold nz
  by_cases g : hartM x.2.2.1[i] = 0
  ·rw [if_neg (by simpa using g), if_neg (by simpa using g)]
  ·rw [if_pos (by simpa using g), if_pos (by simpa using g)]
 ·intro rec
  unfold l_bn_7
  dsimp only
  rw [if_neg Qaz]
theorem QhT {x : QB} (h : Qdc x = 0) : polM x.1 = 0 := by
 unfold Qdc at h
 split at h
 ·rename_i h'; exact absurd h h'
 ·rename_i h'; simpa using h'
def Byt (c : List Int) : Prop := (∀ b ∈ c, 0 ≤ b ∧ b ≤ 255) ∧ c.length ≤ 1048577
theorem Qdg {c : List Int} (hc : Byt c) (a n : Int) (ha : 0 ≤ a ∧ a ≤ 1099511627776) :
  ∃ v : Int, F_c ((c, a, ()), n, ()) = some ((v, ()), ((c, a + 1, ()), ())) ∧ 0 ≤ v ∧ (v < n ∨ v = 0) := by
 unfold F_c
 dsimp only
 rw [Qq (n := a + 1) (by omega) (by omega), Qq (n := a + 1 - 1) (by omega) (by omega)]
 have e1 : a + 1 - 1 = a := by omega
 rw [e1]
 by_cases h1 : n < 1
 ·exact ⟨0, by rw [if_pos (QL.2 h1)], Int.le_refl 0, .inr rfl⟩
 rw [if_neg (by rw [QL]; exact h1)]
 have hn : ¬ n = 0 := by omega
 by_cases h2 : c.length = 0
 ·rw [if_pos (by rw [h2]; rfl), if_neg hn, Qq (n := a * 7) (by omega) (by omega)]
  exact ⟨(a * 7).tmod n, rfl, Int.tmod_nonneg _ (by omega), .inl (Int.tmod_lt_of_pos _ (by omega))⟩
 have h3 : ¬ ((c.length : Nat) : Int) = 0 := by omega
 have p1 : 0 ≤ a.tmod ((c.length : Nat) : Int) := Int.tmod_nonneg _ ha.1
 have p2 : a.tmod ((c.length : Nat) : Int) < ((c.length : Nat) : Int) := Int.tmod_lt_of_pos _ (by omega)
 have p3 : 0 ≤ (a + 1).tmod ((c.length : Nat) : Int) := Int.tmod_nonneg _ (by omega)
 have p4 : (a + 1).tmod ((c.length : Nat) : Int) < ((c.length : Nat) : Int) := Int.tmod_lt_of_pos _ (by omega)
 have p5 : 0 ≤ a.tdiv ((c.length : Nat) : Int) := Int.tdiv_nonneg ha.1 (by omega)
 have p6 : a.tdiv ((c.length : Nat) : Int) ≤ a := Int.tdiv_le_self _ ha.1
 obtain ⟨y, hy⟩ : ∃ y, c[(a.tmod ((c.length : Nat) : Int)).toNat]? = some y := ⟨_, List.getElem?_eq_getElem (by omega)⟩
 obtain ⟨z, hz⟩ : ∃ z, c[((a + 1).tmod ((c.length : Nat) : Int)).toNat]? = some z := ⟨_, List.getElem?_eq_getElem (by omega)⟩
 have by_ := hc.1 y (List.mem_of_getElem? hy)
 have bz := hc.1 z (List.mem_of_getElem? hz)
 rw [if_neg (by simpa using h3), if_neg h3, if_pos p1, hy, Obn]
 generalize a.tdiv ((c.length : Nat) : Int) = d at p5 p6 ⊢
 rw [Qq (n := y) (by omega) (by omega), Qq (n := d) (by omega) (by omega), Qq (n := d * 37) (by omega) (by omega), Qq (n := y + d * 37) (by omega) (by omega)]
 by_cases h4 : (200 : Int) < n
 ·rw [if_neg h3, if_pos (QL.2 h4), if_neg h3]
  rw [Qq (n := (y + d * 37) * 251) (by omega) (by omega), Qq (n := a + 1) (by omega) (by omega), if_pos p3, hz, Obn, Qq (n := z) (by omega) (by omega), Qq (n := z * 13) (by omega) (by omega),
   Qq (n := (y + d * 37) * 251 + z * 13) (by omega) (by omega), Qq (n := (y + d * 37) * 251 + z * 13 + a) (by omega) (by omega), if_neg hn]
  exact ⟨_, rfl, Int.tmod_nonneg _ (by omega), .inl (Int.tmod_lt_of_pos _ (by omega))⟩
 ·rw [if_neg h3, if_neg (by rw [QL]; exact h4), if_neg hn]
  exact ⟨_, rfl, Int.tmod_nonneg _ (by omega), .inl (Int.tmod_lt_of_pos _ (by omega))⟩
def QcN (x : denP P_c) : Int := match F_c x with | some r => r.1.1 | none => 0
def QjQ (x : denP P_d) : Int := match F_d x with | some r => r.1.1 | none => 0
def Qky (x : denP P_c) : Bool := match F_t x with | some r => r.1.1 | none => false
def Qov (x : denP P_m) : Int := match F_u x with | some r => r.1.1 | none => 0
theorem Qoa (x : denP P_c) (hc : Byt x.1.1) (ha : 0 ≤ x.1.2.1 ∧ x.1.2.1 ≤ 1099511627776) : F_c x = some ((QcN x, ()), ((x.1.1, x.1.2.1 + 1, ()), ())) := by
 obtain ⟨⟨c, a, _⟩, n, _⟩ := x
 obtain ⟨v, e, h0, h1⟩ := Qdg hc a n ha
 unfold QcN
 rw [e]
theorem QsP (x : denP P_c) (hc : Byt x.1.1) (ha : 0 ≤ x.1.2.1 ∧ x.1.2.1 ≤ 1099511627776) : 0 ≤ QcN x ∧ (QcN x < x.2.1 ∨ QcN x = 0) := by
 obtain ⟨⟨c, a, _⟩, n, _⟩ := x
 obtain ⟨v, e, h0, h1⟩ := Qdg hc a n ha
 unfold QcN
 rw [e]
 exact ⟨h0, h1⟩
theorem QkQ {c : List Int} (hc : Byt c) (a : Int) (l : List Int) (ha : 0 ≤ a ∧ a ≤ 1099511627776) (hl : l ≠ []) :
  ∃ v : Int, F_d ((c, a, ()), l, ()) = some ((v, ()), ((c, a + 1, ()), ())) ∧ v ∈ l := by
 have hpos : 0 < l.length := List.length_pos_iff.2 hl
 obtain ⟨v, e, h0, h1⟩ := Qdg hc a ((l.length : Nat) : Int) ha
 unfold F_d
 dsimp only
 rw [e, Obn]
 dsimp only
 have hv : v.toNat < l.length := by omega
 rw [if_pos h0, List.getElem?_eq_getElem hv, Obn]
 exact ⟨_, rfl, List.getElem_mem hv⟩
theorem Qof (x : denP P_d) (hl : x.2.1.isEmpty = false) (hc : Byt x.1.1) (ha : 0 ≤ x.1.2.1 ∧ x.1.2.1 ≤ 1099511627776) : F_d x = some ((QjQ x, ()), ((x.1.1, x.1.2.1 + 1, ()), ())) := by
 obtain ⟨⟨c, a, _⟩, l, _⟩ := x
 obtain ⟨v, e, h0⟩ := QkQ hc a l ha (by rintro rfl; cases hl)
 unfold QjQ
 rw [e]
theorem QsX (x : denP P_d) (hl : x.2.1.isEmpty = false) (hc : Byt x.1.1) (ha : 0 ≤ x.1.2.1 ∧ x.1.2.1 ≤ 1099511627776) : QjQ x ∈ x.2.1 := by
 obtain ⟨⟨c, a, _⟩, l, _⟩ := x
 obtain ⟨v, e, h0⟩ := QkQ hc a l ha (by rintro rfl; cases hl)
 unfold QjQ
 rw [e]
 exact h0
theorem QoH (x : denP P_c) (hc : Byt x.1.1) (ha : 0 ≤ x.1.2.1 ∧ x.1.2.1 ≤ 1099511627776) : F_t x = some ((Qky x, ()), ((x.1.1, x.1.2.1 + 1, ()), ())) := by
 obtain ⟨⟨c, a, _⟩, n, _⟩ := x
 obtain ⟨v, e, h0, h1⟩ := Qdg hc a n ha
 have : F_t ((c, a, ()), n, ()) = some ((v == 0, ()), ((c, a + 1, ()), ())) := by
  unfold F_t
  dsimp only
  rw [e, Obn]
 unfold Qky
 rw [this]
theorem Qsg {c : List Int} (hc : Byt c) (a : Int) (ha : 0 ≤ a ∧ a ≤ 1073741824) : ∃ v : Int, F_u ((c, a, ()), ()) = some ((v, ()), ((c, a + 5, ()), ())) ∧ 0 ≤ v ∧ v ≤ 4294967295 := by
 obtain ⟨v1, e1, a1, b1⟩ := Qdg hc a 90 (by omega)
 obtain ⟨v2, e2, a2, b2⟩ := Qdg hc (a + 1) 9 (by omega)
 obtain ⟨v3, e3, a3, b3⟩ := Qdg hc (a + 1 + 1) 9 (by omega)
 obtain ⟨v4, e4, a4, b4⟩ := Qdg hc (a + 1 + 1 + 1) 60000 (by omega)
 unfold F_u
 dsimp only
 rw [e1, Obn, e2, Obn, e3, Obn]
 dsimp only
 rw [e4, Obn]
 dsimp only
 rw [Qq (n := 4294967295 - v3) (by omega) (by omega), Qq (n := v4 * 70000) (by omega) (by omega)]
 obtain ⟨v, e, hv⟩ := QkQ hc (a + 1 + 1 + 1 + 1) [v1, v2, 4294967295 - v3, 2147483648, 2147483647, 0, v4 * 70000] (by omega) (by simp)
 rw [e, Obn]
 refine ⟨v, ?_, ?_⟩
 ·have : a + 1 + 1 + 1 + 1 + 1 = a + 5 := by omega
  rw [this]
 ·simp at hv
  omega
theorem Qsh (x : denP P_m) (hc : Byt x.1.1) (ha : 0 ≤ x.1.2.1 ∧ x.1.2.1 ≤ 1073741824) : F_u x = some ((Qov x, ()), ((x.1.1, x.1.2.1 + 5, ()), ())) := by
 obtain ⟨⟨c, a, _⟩, _⟩ := x
 obtain ⟨v, e, h0⟩ := Qsg hc a ha
 unfold Qov
 rw [e]
theorem Qcq {c : List Int} (hc : Byt c) (a n : Int) (ha : 0 ≤ a ∧ a ≤ 1099511627776) : F_c ((c, a, ()), n, ()) = some ((QcN ((c, a, ()), n, ()), ()), ((c, a + 1, ()), ())) := Qoa _ hc ha
theorem Qog {c : List Int} (hc : Byt c) (a : Int) (x : Int) (l : List Int) (ha : 0 ≤ a ∧ a ≤ 1099511627776) : F_d ((c, a, ()), x :: l, ()) = some ((QjQ ((c, a, ()), x :: l, ()), ()), ((c, a + 1, ()), ())) := Qof _ rfl hc ha
theorem QoI {c : List Int} (hc : Byt c) (a n : Int) (ha : 0 ≤ a ∧ a ≤ 1099511627776) : F_t ((c, a, ()), n, ()) = some ((Qky ((c, a, ()), n, ()), ()), ((c, a + 1, ()), ())) := QoH _ hc ha
theorem Qsi {c : List Int} (hc : Byt c) (a : Int) (ha : 0 ≤ a ∧ a ≤ 1073741824) : F_u ((c, a, ()), ()) = some ((Qov ((c, a, ()), ()), ()), ((c, a + 5, ()), ())) := Qsh _ hc ha
abbrev InsD := Int × Int × Int × Int × Unit
theorem QnK (op : Int) : ∃ b1 b2 b3 : Bool, F_o (op, ()) = some ((b1, b2, b3, ()), ()) := by
 unfold F_o
 dsimp only
 repeat' split
 all_goals exact ⟨_, _, _, rfl⟩
theorem Qqd {α β : Type} {P : α → β} {c : Prop} [Decidable c] {a b : β} (ha : ∃ v, a = P v) (hb : ∃ v, b = P v) : ∃ v, (if c then a else b) = P v := by split <;> assumption
theorem QlP (x : InsD) : ∃ v : Int, F_r (x, ()) = some ((v, ()), ()) := by
 obtain ⟨b1, b2, b3, e⟩ := QnK x.1
 unfold F_r
 dsimp only
 rw [QbY, QbY, QbY, QbY, e]
 simp only [Obn]
 repeat' (first | exact ⟨_, rfl⟩ | refine Qqd (P := fun v : Int => some ((v, ()), ())) ?_ ?_)
theorem QoL (x : InsD) : ∃ v : Int × Int × Unit, F_s (x, ()) = some ((v, ()), ()) := by
 obtain ⟨v, e⟩ := QlP x
 unfold F_s
 dsimp only
 rw [e, Obn]
 dsimp only
 split <;> exact ⟨_, rfl⟩
theorem Qqs {c : List Int} (hc : Byt c) (a : Int) (ha : 0 ≤ a ∧ a ≤ 1000000000) : ∃ v : InsD, F_p ((c, a, ()), ()) = some ((v, ()), ((c, a + 1 + 1 + 1 + 1 + 1 + 1 + 1, ()), ())) := by
 unfold F_p
 dsimp only
 rw [Qcq hc, Obn]
 dsimp only
 generalize QcN _ = v1
 rw [Qcq hc, Obn]
 dsimp only
 generalize QcN _ = v2
 rw [Qcq hc, Obn]
 dsimp only
 generalize QcN _ = v3
 rw [Qcq hc, Obn]
 dsimp only
 generalize QcN _ = v4
 rw [Qcq hc, Obn]
 dsimp only
 generalize QcN _ = v5
 rw [Qcq hc, Obn]
 dsimp only
 generalize QcN _ = v6
 rw [Qog hc, Obn]
 dsimp only
 generalize QjQ _ = v7
 obtain ⟨b1, b2, b3, e⟩ := QnK (IntKind.i64.wrap (1 + v1))
 rw [e, Obn]
 dsimp only
 repeat' (first | exact ⟨_, rfl⟩ | refine Qqd (P := fun v : InsD => some ((v, ()), ((c, a + 1 + 1 + 1 + 1 + 1 + 1 + 1, ()), ()))) ?_ ?_)
 all_goals omega
def Drew {T : Type} (o : Option ((T × Unit) × (List Int × Int × Unit) × Unit)) (c : List Int) (a k : Int) : Prop := ∃ (v : T) (a' : Int), o = some ((v, ()), ((c, a', ()), ())) ∧ a ≤ a' ∧ a' ≤ a + k
theorem Drew.ite {T : Type} {p : Prop} [Decidable p] {x y : Option ((T × Unit) × (List Int × Int × Unit) × Unit)} {c : List Int} {a k : Int} (hx : Drew x c a k) (hy : Drew y c a k) : Drew (if p then x else y) c a k := by split <;> assumption
theorem Qqt {c : List Int} (hc : Byt c) (a : Int) (ha : 0 ≤ a ∧ a ≤ 100000000) : Drew (T := InsD) (F_q ((c, a, ()), ())) c a 20 := by
 unfold F_q
 dsimp only
 rw [Qcq hc, Obn]
 dsimp only
 generalize IntKind.i64.wrap (1 + QcN _) = v1
 rw [Qcq hc, Obn]
 dsimp only
 generalize QcN _ = v2
 obtain ⟨v, e⟩ := Qqs hc (a + 1 + 1) (by omega)
 rw [e]
 repeat' (first
  | refine Drew.ite ?_ ?_
  | (rw [Qcq hc, Obn]; dsimp only)
  | (rw [Qog hc, Obn]; dsimp only)
  | exact ⟨_, _, rfl, by omega, by omega⟩
  | omega
  | (rw [Obn]; dsimp only))
theorem Qqk {c : List Int} (hc : Byt c) (n a : Int) (ha : 0 ≤ a ∧ a ≤ 10000000) (hn : n ≤ 1000) : ∃ (m : List Int) (a' : Int), F_v ((c, a, ()), n, ()) = some ((m, ()), ((c, a', ()), ())) ∧ (m.length : Int) = (if n < 0 then 0 else n) ∧ a ≤ a' ∧ a' ≤ a + 26 * (if n < 0 then 0 else n) := by
 have key : ∀ f (k : Nat) (m : List Int) (a : Int), k < f → k ≤ 1000 → 0 ≤ a ∧ a ≤ 100000000 - 26 * (k : Int) → m.length ≤ 1000 - k →
   ∃ (m' : List Int) (a' : Int), Qc l_v_2 f (((), (k : Int), m, ()), ((c, a, ()), ()), ()) = some (.inl ((m', ()), ((c, a', ()), ()), ())) ∧ m'.length = m.length + k ∧ a ≤ a' ∧ a' ≤ a + 26 * (k : Int) := by
  intro f
  induction f with
  | zero => intro k _ _ h; omega
  | succ f ih =>
   intro k m a hk hk2 ha hm
   simp only [Qc]
   generalize Qc l_v_2 f = rec at ih ⊢
   unfold l_v_2
   dsimp only
   by_cases h0 : 0 < k
   ·obtain ⟨x, a1, e1, g1, g2⟩ := Qqt hc a (by omega)
    obtain ⟨w, e2⟩ := QoL x
    rw [if_pos (by rw [QL]; omega), e1, Obn, e2, Obn]
    dsimp only
    rw [QoI hc _ _ (by omega), Obn]
    dsimp only
    have ew : IntKind.i64.wrap ((k : Int) - 1) = ((k - 1 : Nat) : Int) := by rw [Qq (by omega) (by omega)]; omega
    rw [ew]
    split
    ·rw [Qsi hc _ (by omega), Obn]
     dsimp only
     rw [if_pos (by simp; omega)]
     obtain ⟨m', a', i1, i2, i3, i4⟩ := ih (k - 1) (m ++ [Qov ((c, a1 + 1, ()), ())]) (a1 + 1 + 5) (by omega) (by omega) (by omega) (by simp; omega)
     exact ⟨m', a', i1, by rw [i2]; simp; omega, by omega, by omega⟩
    ·rw [if_pos (by simp; omega)]
     obtain ⟨m', a', i1, i2, i3, i4⟩ := ih (k - 1) (m ++ [w.2.1]) (a1 + 1) (by omega) (by omega) (by omega) (by simp; omega)
     exact ⟨m', a', i1, by rw [i2]; simp; omega, by omega, by omega⟩
   ·have : k = 0 := by omega
    subst this
    rw [if_neg (by rw [QL]; omega)]
    exact ⟨m, a, rfl, by omega, by omega, by omega⟩
 unfold F_v
 dsimp only
 by_cases h0 : n < 0
 ·have : L_v_2 (((), n, [], ()), ((c, a, ()), ()), ()) = some (.inl (([], ()), ((c, a, ()), ()), ())) := by
   show Qc l_v_2 lots _ = _
   rw [Qtt, QsL]
   unfold l_v_2
   dsimp only
   rw [if_neg (by rw [QL]; omega)]
  rw [this, Obn, if_pos h0]
  exact ⟨[], a, rfl, rfl, by omega, by omega⟩
 ·obtain ⟨m', a', i1, i2, i3, i4⟩ := key lots n.toNat [] a (by rw [Qai]; omega) (by omega) (by omega) (by simp)
  have en : ((n.toNat : Nat) : Int) = n := by omega
  rw [en] at i1 i4
  rw [if_neg h0]
  show ∃ m a', (Qc l_v_2 lots (((), n, [], ()), ((c, a, ()), ()), ())).bind _ = _ ∧ _
  rw [i1, Obn]
  exact ⟨m', a', rfl, by rw [i2]; simp; omega, i3, i4⟩
theorem QkH {c : Int} (h : nz c = none) : c = 0 := by
 unfold nz at h
 split at h
 ·cases h
 ·rename_i h'; simpa using h'
theorem Qcf {p : PolD} (hok : OkPol p) : ∀ l ∈ p.2.1, (isG p l.1 = true ∧ isG p l.2.1 = true ∧ l.1 ≠ l.2.1) ∧ (0 ≤ l.2.2.1 ∧ l.2.2.1 ≤ 23) ∧ (5 ≤ l.2.2.2.1 ∧ l.2.2.2.1 ≤ 6) ∧ 5 ≤ l.2.2.2.2.1 ∧ l.2.2.2.2.1 ≤ 6 := by
 intro l hl
 obtain ⟨i, e⟩ := QaL hok.lanes.2 l hl
 have e := QkH e
 unfold Qdu at e
 split at e
 ·rename_i h; exact absurd e h
 ·rename_i h0
  split at e
  ·rename_i h1
   refine ⟨?_, QbK.1 h1.1, QbK.1 h1.2.1, QbK.1 h1.2.2⟩
   have h0 : Qcj p l.1 l.2.1 = 0 := by simpa using h0
   unfold Qcj at h0
   split at h0
   ·rename_i g1
    split at h0
    ·rename_i g2
     split at h0
     ·cases h0
     ·rename_i g3; exact ⟨g1, g2, g3⟩
    ·cases h0
   ·cases h0
  ·cases e
theorem QbX {p : PolD} {g : Int} : isG p g = true ↔ 0 ≤ g ∧ g < (p.1.length : Int) := by unfold isG; simp; omega
def pg (m : List Int) (p : Int) : List Int := (m.drop (8 * p.toNat)).take 8
theorem QsV (m : List Int) (p : Int) : (pg m p).length ≤ 8 := by unfold pg; simp; omega
theorem Qet (m : List Int) (p : Int) (hm : m.length ≤ 192) (hp : 0 ≤ p ∧ 8 * p + 8 ≤ (m.length : Int)) : F_cc (m, p, ()) = some ((pg m p, ()), ()) := by
 obtain ⟨P, rfl⟩ : ∃ P : Nat, p = (P : Int) := ⟨p.toNat, by omega⟩
 rw [QjP m P (by omega) hm]
 unfold pg
 rw [Int.toNat_natCast]
def QV : QX := ([], 0, [], false, false, false, 0, [], [], ())
theorem QfO (m : List Int) (h : m.length ≤ 1048576) : F_av (m, ()) = some ((m, ()), ()) := by
 unfold F_av
 rw [if_pos (by simp only [List.length_nil]; omega)]
 rfl
theorem QhP (h : QX) (hl : QcJ 1048576 h) : F_bp (h, ()) = some ((h, ()), ()) := by
 obtain ⟨l1, l2, l3, l4⟩ := hl
 unfold F_bp
 dsimp only
 rw [QfO _ l1, Obn, QfO _ l2, Obn, QfO _ l3, Obn, QfO _ l4, Obn]
theorem Qqj {x : QB} (h : Qdc x = 0) : x.2.1.length = 192 ∧ x.2.2.1.length = x.1.1.length := by
 have hp := QhT h
 unfold Qdc at h
 rw [if_neg (by simpa using hp)] at h
 split at h
 ·rename_i g; exact ⟨g.1.2, g.2⟩
 ·cases h
theorem QlB {m : List QX} {i : Nat} (h : ∀ y ∈ m, QcJ 1048576 y) : QcJ 1048576 (m.getD i QV) := by
 rw [List.getD_eq_getElem?_getD]
 cases e : m[i]? with
 | none => exact ⟨by simp [QV], by simp [QV], by simp [QV], by simp [QV]⟩
 | some y => exact h y (List.mem_of_getElem? e)
abbrev Qav := QX × List TwoD × List Int × Unit
def Qgg (top : Int) (p : TwoD) : Option Int := if inB p.1 (-1) (top - 1) = true then (if inB p.2.1 0 7 = true then (if p.1 = -1 then nz (if p.2.1 = 0 then 0 else 1) else none) else some 3) else some 3
def QaO (l : List TwoD) (top : Int) : Int := if inB top 1 24 = true then (if l.length = 8 then (match scan (fun (_ : Nat) p => Qgg top p) 0 l with | some c => c | none => 0) else 1) else 3
theorem QiQ (l : List TwoD) (top : Int) (hl : l.length ≤ 1048576) : F_dl (l, top, ()) = some ((QaO l top, ()), ()) := by
 unfold F_dl QaO
 dsimp only
 rw [QM, Obn]
 dsimp only
 by_cases ht : inB top 1 24 = true
 case neg => rw [if_pos (by simpa using ht), if_neg ht]
 rw [if_neg (by simpa using ht), if_pos ht]
 by_cases h8 : l.length = 8
 case neg => rw [if_pos (by simp; omega), if_neg h8]
 rw [if_neg (by rw [h8]; decide), if_pos h8]
 have hb := QbK.1 ht
 have key := Qae (step := l_dl_6) (γ := denO o_dl_6) (fun i => ((top, l, ((l.length : Nat) : Int), ((i : Nat) : Int), ()), (), ())) l (fun (_ : Nat) p => Qgg top p) (fun c => some (.inr (.inl ((c, ()), (), ())))) (some (.inl ((), (), ()))) (QbC hl) ?_ ?_
 ·have e0 : ((0 : Nat) : Int) = 0 := rfl
  rw [e0] at key
  show (Qc l_dl_6 lots ((top, l, ((l.length : Nat) : Int), 0, ()), (), ())).bind _ = _
  rw [key]
  cases scan (fun (_ : Nat) p => Qgg top p) 0 l <;> rfl
 ·intro rec i hi
  unfold l_dl_6
  dsimp only
  rw [if_pos (lt_t hi), if_pos nat0, Qy hi, Qq (n := top - 1) (by omega) (by omega), QM, Obn, QM, Obn, Qah (lt1 hi hl)]
  dsimp only
  unfold Qgg
  by_cases c1 : inB (l[i]).1 (-1) (top - 1) = true
  ·have g1 := QbK.1 c1
   rw [if_pos (show (!inB (l[i]).1 (-1) (top - 1)) = false by rw [c1]; rfl), if_pos c1]
   by_cases c2 : inB (l[i]).2.1 0 7 = true
   ·rw [if_neg (by simpa using c2), if_pos c2]
    by_cases c3 : (l[i]).1 = -1
    ·rw [if_pos (by simpa using c3), if_pos c3]
     by_cases c4 : (l[i]).2.1 = 0
     ·rw [if_neg (by simpa using c4), if_pos c4]; rfl
     ·rw [if_pos (by simpa using c4), if_neg c4]; rfl
    ·rw [if_neg (by simpa using c3), if_neg c3]
   ·rw [if_pos (by simpa using c2), if_neg c2]
  ·rw [if_neg (by simpa using c1), if_neg c1]
 ·intro rec
  unfold l_dl_6
  dsimp only
  rw [if_neg Qaz]
def QqZ (n : Nat) (x : Qav) : Prop := QcJ n x.1 ∧ x.2.1.length ≤ n ∧ x.2.2.1.length ≤ n
def Qbj (x : Qav) : Int := if hartM x.1 ≠ 0 then hartM x.1 else if QaO x.2.1 8 ≠ 0 then QaO x.2.1 8 else if QG x.2.2.1 = 0 ∧ x.2.2.1.length = 64 then 0 else 1
theorem Qrc {m : List Int} : (if (QG m != 0) = false then (if (((m.length : Nat) : Int) != 64) = true then some ((((1 : Int), ()), ()) : (Int × Unit) × Unit) else some (((0 : Int), ()), ())) else some (((1 : Int), ()), ())) = some ((if QG m = 0 ∧ m.length = 64 then 0 else 1, ()), ()) := by
 by_cases g2 : QG m = 0
 ·by_cases g3 : m.length = 64
  ·simp [g2, g3]
  ·have : ¬ ((m.length : Nat) : Int) = 64 := by omega
   simp [g2, g3, this]
 ·simp [g2]
theorem QlJ (x : Qav) (h : QqZ 1048576 x) : F_dn (x, ()) = some ((Qbj x, ()), ()) := by
 obtain ⟨h1, h2, h3⟩ := h
 unfold F_dn Qbj
 dsimp only
 rw [Qha _ h1, Obn, QiQ _ _ h2, Obn, QmN, Obn]
 dsimp only
 by_cases g0 : hartM x.1 = 0
 case neg =>
  have e1 : (if hartM x.1 ≠ 0 then hartM x.1 else QaO x.2.1 8) = hartM x.1 := if_pos g0
  rw [e1, if_pos (c := (hartM x.1 != 0) = true) (by simpa using g0), if_pos (c := hartM x.1 ≠ 0) g0]
 have e1 : (if hartM x.1 ≠ 0 then hartM x.1 else QaO x.2.1 8) = QaO x.2.1 8 := if_neg (by simpa using g0)
 rw [e1, if_neg (c := hartM x.1 ≠ 0) (by simpa using g0)]
 by_cases g1 : QaO x.2.1 8 = 0
 case neg => rw [if_pos (c := (QaO x.2.1 8 != 0) = true) (by simpa using g1), if_pos (c := QaO x.2.1 8 ≠ 0) g1]
 rw [if_neg (c := (QaO x.2.1 8 != 0) = true) (by simpa using g1), if_neg (c := QaO x.2.1 8 ≠ 0) (by simpa using g1), QfX _ (leM h3), Obn]
 exact Qrc
theorem Qdl {x : Qav} (h : Qbj x = 0) : hartM x.1 = 0 ∧ QaO x.2.1 8 = 0 ∧ QG x.2.2.1 = 0 ∧ x.2.2.1.length = 64 := by
 unfold Qbj at h
 split at h
 ·rename_i g; exact absurd h g
 ·rename_i g0
  split at h
  ·rename_i g; exact absurd h g
  ·rename_i g1
   split at h
   ·rename_i g2; exact ⟨by simpa using g0, by simpa using g1, g2⟩
   ·cases h
def WW (n : Int) : Prop := 0 ≤ n ∧ n ≤ 4294967295
theorem QsN (n : Int) : iand .i64 n 4294967295 = n % 4294967296 := by
 have h1 : (BitVec.ofInt 64 4294967295).toNat = 2 ^ 32 - 1 := by decide
 have key : (BitVec.ofInt 64 n &&& BitVec.ofInt 64 4294967295).toNat = (n % ((2 ^ 64 : Nat) : Int)).toNat % 2 ^ 32 := by
  rw [BitVec.toNat_and, BitVec.toNat_ofInt, h1, Nat.and_two_pow_sub_one_eq_mod]
 show IntKind.i64.wrap ((BitVec.ofInt 64 n &&& BitVec.ofInt 64 4294967295).toNat : Nat) = _
 rw [key, IntKind.wrap_i64]
 omega
theorem Qqy (n : Int) : iand .i64 n 65535 = n % 65536 := by
 have h1 : (BitVec.ofInt 64 65535).toNat = 2 ^ 16 - 1 := by decide
 have key : (BitVec.ofInt 64 n &&& BitVec.ofInt 64 65535).toNat = (n % ((2 ^ 64 : Nat) : Int)).toNat % 2 ^ 16 := by
  rw [BitVec.toNat_and, BitVec.toNat_ofInt, h1, Nat.and_two_pow_sub_one_eq_mod]
 show IntKind.i64.wrap ((BitVec.ofInt 64 n &&& BitVec.ofInt 64 65535).toNat : Nat) = _
 rw [key, IntKind.wrap_i64]
 omega
theorem Qsq (n : Int) : iand .i64 n 15 = n % 16 := by
 have h1 : (BitVec.ofInt 64 15).toNat = 2 ^ 4 - 1 := by decide
 have key : (BitVec.ofInt 64 n &&& BitVec.ofInt 64 15).toNat = (n % ((2 ^ 64 : Nat) : Int)).toNat % 2 ^ 4 := by
  rw [BitVec.toNat_and, BitVec.toNat_ofInt, h1, Nat.and_two_pow_sub_one_eq_mod]
 show IntKind.i64.wrap ((BitVec.ofInt 64 n &&& BitVec.ofInt 64 15).toNat : Nat) = _
 rw [key, IntKind.wrap_i64]
 omega
def wd (n : Int) : Int := n % 4294967296
theorem Qag (n : Int) : WW (wd n) := by unfold wd WW; omega
theorem QkY {n : Int} (h : WW n) : wd n = n := by unfold wd WW at *; omega
theorem Qty (n : Int) : wd (wd n) = wd n := QkY (Qag n)
theorem Qth (n : Int) : IntKind.u32.wrap n = wd n := by rw [IntKind.wrap_u32]; rfl
theorem QsJ (n : Int) : IntKind.i64.wrap (wd n) = wd n := by rw [IntKind.wrap_i64]; unfold wd; omega
theorem QH {n : Int} (h0 : -9223372036854775808 ≤ n) (h1 : n ≤ 9223372036854775807) : IntKind.i64.wrap n = n := Qq h0 h1
theorem QdS (n : Int) : F_as (n, ()) = some ((wd n, ()), ()) := by
 unfold F_as; simp only [QsN]; rfl
theorem QaT (x) : F_as x = some ((wd x.1, ()), ()) := QdS x.1
def sg (n : Int) : Int := if wd n < 2147483648 then wd n else wd n - 4294967296
theorem QdR (n : Int) : F_ct (n, ()) = some ((sg n, ()), ()) := by
 unfold F_ct sg
 simp only [QaT, Obn]
 have h := Qag n
 generalize wd n = w at *
 unfold WW at h
 by_cases hw : w < 2147483648
 ·rw [if_pos (QL.2 hw), if_pos hw]
 ·rw [if_neg (by rw [QL]; exact hw), if_neg hw, QH (n := w - 4294967295) (by omega) (by omega), QH (n := w - 4294967295 - 1) (by omega) (by omega), show w - 4294967295 - 1 = w - 4294967296 by omega]
theorem Qdn (x) : F_ct x = some ((sg x.1, ()), ()) := QdR x.1
theorem Qtx (n : Int) : -2147483648 ≤ sg n ∧ sg n ≤ 2147483647 := by
 unfold sg; have := Qag n; unfold WW at this; split <;> omega
theorem Qhs (n : Int) : sg n = 0 ↔ wd n = 0 := by
 unfold sg; have := Qag n; unfold WW at this; split <;> omega
def addW (a b : Int) : Int := wd (a + b)
theorem QeO (a b : Int) : F_cm (a, b, ()) = some ((addW a b, ()), ()) := by
 unfold F_cm addW
 simp only [QaT, Obn]
 have ha := Qag a; have hb := Qag b
 unfold WW at ha hb
 rw [QH (by omega) (by omega), show wd (wd a + wd b) = wd (a + b) by unfold wd; omega]
theorem QmP (x) : F_cm x = some ((addW x.1 x.2.1, ()), ()) := QeO x.1 x.2.1
theorem Qjc (a b : Int) : WW (addW a b) := Qag _
def off (n : Int) : Int := if 32768 ≤ n % 65536 then n % 65536 - 65536 else n % 65536
theorem Qpc (n : Int) : F_cn (n, ()) = some ((off n, ()), ()) := by
 unfold F_cn off
 simp only [Qqy]
 by_cases h : 32768 ≤ n % 65536
 ·rw [if_pos (Qbg.2 h), if_pos h, QH (by omega) (by omega)]
 ·rw [if_neg (by rw [Qbg]; exact h), if_neg h]
def mulW (a b : Int) : Int := wd (wd a * wd b)
theorem Qpa (a b : Int) : F_cw (a, b, ()) = some ((mulW a b, ()), ()) := by
 unfold F_cw mulW; simp only [Qth, QsJ]
theorem QmW (x) : F_cw x = some ((mulW x.1 x.2.1, ()), ()) := Qpa x.1 x.2.1
theorem Qsc (a b : Int) (h : -2147483648 ≤ a ∧ a ≤ 2147483647) : -2147483648 ≤ a.tdiv b ∧ a.tdiv b ≤ 2147483648 := by
 have h1 : (a.tdiv b).natAbs = a.natAbs / b.natAbs := Int.natAbs_tdiv a b
 have h2 : a.natAbs / b.natAbs ≤ a.natAbs := Nat.div_le_self _ _
 omega
def divW (a b : Int) : Int := if wd b = 0 then 4294967295 else wd ((sg a).tdiv (sg b))
theorem QoV (a b : Int) : F_cx (a, b, ()) = some ((divW a b, ()), ()) := by
 unfold F_cx divW
 simp only [QaT, Qdn, Obn]
 by_cases h : wd b = 0
 ·rw [if_pos (by simpa using (Qhs b).2 h), if_pos h]
 ·have hs : ¬ sg b = 0 := fun e => h ((Qhs b).1 e)
  have := Qsc (sg a) (sg b) (Qtx a)
  rw [if_neg (by simpa using hs), if_neg h, if_neg hs, QH (by omega) (by omega)]
theorem QmT (x) : F_cx x = some ((divW x.1 x.2.1, ()), ()) := QoV x.1 x.2.1
def remW (a b : Int) : Int := if wd b = 0 then wd a else wd ((sg a).tmod (sg b))
theorem Qpe (a b : Int) : F_cy (a, b, ()) = some ((remW a b, ()), ()) := by
 unfold F_cy remW
 simp only [QaT, Qdn, Obn]
 by_cases h : wd b = 0
 ·rw [if_pos (by simpa using (Qhs b).2 h), if_pos h]
 ·have hs : ¬ sg b = 0 := fun e => h ((Qhs b).1 e)
  rw [if_neg (by simpa using hs), if_neg h, if_neg hs]
theorem QmY (x) : F_cy x = some ((remW x.1 x.2.1, ()), ()) := Qpe x.1 x.2.1
theorem QkX (n : Int) : ∃ k : Nat, wd n = (k : Int) ∧ k < 4294967296 := ⟨(wd n).toNat, by have := Qag n; unfold WW at this; omega, by have := Qag n; unfold WW at this; omega⟩
theorem QeS {k : Nat} (h : k < 4294967296) : (BitVec.ofInt 64 (k : Int)).toNat = k := by
 rw [BitVec.ofInt_natCast, BitVec.toNat_ofNat]; exact Nat.mod_eq_of_lt (by omega)
def bitN (op : Int) (a b : Nat) : Nat := if op = 1 then a &&& b else if op = 2 then a ||| b else a ^^^ b
def bitW (op a b : Int) : Int := (bitN op (wd a).toNat (wd b).toNat : Int)
theorem QnM (op : Int) {a b : Nat} (ha : a < 4294967296) (hb : b < 4294967296) : bitN op a b < 4294967296 := by
 unfold bitN
 split
 ·exact Nat.and_lt_two_pow (n := 32) _ (by omega)
 ·split
  ·exact Nat.or_lt_two_pow (n := 32) (by omega) (by omega)
  ·exact Nat.xor_lt_two_pow (n := 32) (by omega) (by omega)
theorem QoD (op a b : Int) : WW (bitW op a b) := by
 obtain ⟨x, hx, hx2⟩ := QkX a
 obtain ⟨y, hy, hy2⟩ := QkX b
 unfold bitW WW
 rw [hx, hy]
 have := QnM op hx2 hy2
 simp only [Int.toNat_natCast]
 omega
theorem QgG (op a b : Int) (h : op = 1 ∨ op = 2 ∨ op = 3) : F_cz (op, a, b, ()) = some (((0, bitW op a b, ()), ()), ()) := by
 unfold F_cz bitW
 simp only [QaT, Obn]
 obtain ⟨x, hx, hx2⟩ := QkX a
 obtain ⟨y, hy, hy2⟩ := QkX b
 rw [hx, hy]
 simp only [Int.toNat_natCast]
 have hlt := QnM op hx2 hy2
 rcases h with rfl | rfl | rfl
 ·rw [if_pos (by decide)]
  show some (((0, IntKind.i64.wrap ((BitVec.ofInt 64 (x : Int) &&& BitVec.ofInt 64 (y : Int)).toNat : Int), ()), ()), ()) = _
  have : bitN 1 x y = x &&& y := rfl
  rw [BitVec.toNat_and, QeS hx2, QeS hy2, ← this, QH (by omega) (by omega)]
 ·rw [if_neg (by decide), if_pos (by decide)]
  show some (((0, IntKind.i64.wrap ((BitVec.ofInt 64 (x : Int) ||| BitVec.ofInt 64 (y : Int)).toNat : Int), ()), ()), ()) = _
  have : bitN 2 x y = x ||| y := rfl
  rw [BitVec.toNat_or, QeS hx2, QeS hy2, ← this, QH (by omega) (by omega)]
 ·rw [if_neg (by decide), if_neg (by decide), if_pos (by decide)]
  show some (((0, IntKind.i64.wrap ((BitVec.ofInt 64 (x : Int) ^^^ BitVec.ofInt 64 (y : Int)).toNat : Int), ()), ()), ()) = _
  have : bitN 3 x y = x ^^^ y := rfl
  rw [BitVec.toNat_xor, QeS hx2, QeS hy2, ← this, QH (by omega) (by omega)]
def shW (a b : Int) (left : Bool) : Int := if left = true then wd (wd a * 2 ^ (wd b % 32).toNat) else wd a / 2 ^ (wd b % 32).toNat
theorem QqY {a : Int} (h : WW a) (k : Nat) : WW (a / 2 ^ k) := by
 unfold WW at *
 have h2 : (0 : Int) < 2 ^ k := Int.pow_pos (by omega)
 exact ⟨Int.ediv_nonneg h.1 (by omega), Int.le_trans (Int.ediv_le_self _ h.1) h.2⟩
theorem QqX (a b : Int) (l : Bool) : WW (shW a b l) := by
 unfold shW; split
 ·exact Qag _
 ·exact QqY (Qag a) _
theorem QqQ {k : Nat} (h : k < 32) : (2 : Int) ^ k ≤ 2147483648 := by
 have : (2 : Nat) ^ k ≤ 2 ^ 31 := Nat.pow_le_pow_right (by omega) (by omega)
 have h2 : ((2 ^ k : Nat) : Int) ≤ ((2 ^ 31 : Nat) : Int) := Int.ofNat_le.2 this
 simpa using h2
theorem Qtg {w : Int} (h : WW w) : w.tmod 32 = w % 32 := Int.tmod_eq_emod_of_nonneg h.1
theorem QfR {a : Int} (h : 0 ≤ a) (k : Nat) : a.fdiv (2 ^ k) = a / 2 ^ k := Int.fdiv_eq_ediv_of_nonneg _ (Int.le_of_lt (Int.pow_pos (by omega)))
theorem QlI (a b : Int) (l : Bool) : F_da (a, b, l, ()) = some ((shW a b l, ()), ()) := by
 unfold F_da shW
 simp only [QaT, Obn, Qtg (Qag b)]
 have hw := Qag a
 have hb : 0 ≤ wd b % 32 ∧ wd b % 32 < 32 := by omega
 have e2 : min (wd b % 32).toNat 64 = (wd b % 32).toNat := by omega
 rw [e2]
 cases l
 ·rw [if_neg (by decide), if_neg (by omega), if_neg (by decide), QfR hw.1]
 ·rw [if_pos rfl, if_neg (by omega), if_pos rfl]
  have h1 := QqQ (k := (wd b % 32).toNat) (by omega)
  have h0 : (0 : Int) < 2 ^ (wd b % 32).toNat := Int.pow_pos (by omega)
  unfold WW at hw
  generalize (2 : Int) ^ (wd b % 32).toNat = p at *
  have q0 : 0 ≤ wd a * p := Int.mul_nonneg hw.1 (by omega)
  have q1 : wd a * p ≤ 4294967295 * 2147483648 := Int.mul_le_mul hw.2 h1 (by omega) (by omega)
  rw [QH (by omega) (by omega)]
theorem QkF (x) : F_da x = some ((shW x.1 x.2.1 x.2.2.1, ()), ()) := QlI x.1 x.2.1 x.2.2.1
def aluW (op a b : Int) : Int :=
 if op = 1 then addW a b else if op = 2 then wd (wd a - wd b) else if op = 3 then mulW a b else if op = 4 then divW a b else if op = 5 then remW a b
 else if op = 6 then bitW 1 a b else if op = 7 then bitW 2 a b else if op = 8 then bitW 3 a b else if op = 9 then shW a b true else if op = 10 then shW a b false
 else if sg a < sg b then 1 else 0
theorem Qox (op a b : Int) : WW (aluW op a b) := by
 unfold aluW
 have hd : WW (divW a b) := by unfold divW; split; unfold WW; omega; exact Qag _
 have hr : WW (remW a b) := by unfold remW; split <;> exact Qag _
 repeat' split
 all_goals first | exact Qjc _ _ | exact Qag _ | exact hd | exact hr | exact QoD _ _ _ | exact QqX _ _ _ | (unfold WW; omega)
theorem QoT (op a b : Int) (ha : WW a) (hb : WW b) (h : 1 ≤ op ∧ op ≤ 11) : F_db (op, a, b, ()) = some (((0, aluW op a b, ()), ()), ()) := by
 unfold F_db aluW
 simp only [QaT, Obn, QkY ha, QkY hb, QmP, QmW, QmT, QmY, QkF, Qdn]
 by_cases h1 : op = 1
 ·subst h1; rfl
 rw [if_neg (by simpa using h1), if_neg h1]
 by_cases h2 : op = 2
 ·subst h2
  unfold WW at ha hb
  rw [if_pos (by decide), if_pos rfl, QH (by omega) (by omega)]
 rw [if_neg (by simpa using h2), if_neg h2]
 by_cases h3 : op = 3
 ·subst h3; rfl
 rw [if_neg (by simpa using h3), if_neg h3]
 by_cases h4 : op = 4
 ·subst h4; rfl
 rw [if_neg (by simpa using h4), if_neg h4]
 by_cases h5 : op = 5
 ·subst h5; rfl
 rw [if_neg (by simpa using h5), if_neg h5]
 by_cases h6 : op = 6
 ·subst h6
  rw [if_pos (by decide), if_pos rfl, show IntKind.i64.wrap (IntKind.i64.wrap ((6 : Int) - 6) + 1) = 1 from by decide +kernel, QgG 1 a b (by omega)]; rfl
 rw [if_neg (by simpa using h6), if_neg h6]
 by_cases h7 : op = 7
 ·subst h7
  rw [if_pos (by decide), if_pos rfl, show IntKind.i64.wrap (IntKind.i64.wrap ((7 : Int) - 6) + 1) = 2 from by decide +kernel, QgG 2 a b (by omega)]; rfl
 rw [if_neg (by simpa using h7), if_neg h7]
 by_cases h8 : op = 8
 ·subst h8
  rw [if_pos (by decide), if_pos rfl, show IntKind.i64.wrap (IntKind.i64.wrap ((8 : Int) - 6) + 1) = 3 from by decide +kernel, QgG 3 a b (by omega)]; rfl
 rw [if_neg (by simpa using h8), if_neg h8]
 by_cases h9 : op = 9
 ·subst h9; rfl
 rw [if_neg (by simpa using h9), if_neg h9]
 by_cases h10 : op = 10
 ·subst h10; rfl
 rw [if_neg (by simpa using h10), if_neg h10, if_pos (by simpa using (show op = 11 by omega))]
 by_cases h : sg a < sg b
 ·rw [if_pos (QL.2 h), if_pos h]
 ·rw [if_neg (by rw [QL]; exact h), if_neg h]
structure OkC (cs : List Int) : Prop where
 len : cs.length = 11
 words : ∀ w ∈ cs, WW w
 st : cs.getD 0 0 ≤ 3
 msk : cs.getD 7 0 ≤ 7
 tb : cs.getD 10 0 ≤ 8
 pd : cs.getD 6 0 = 0
 tm : cs.getD 8 0 = 0
structure OkR (r : List Int) : Prop where
 len : r.length = 16
 words : ∀ w ∈ r, WW w
 zero : r.getD 0 0 = 0
structure OkQ (q : List Int) : Prop where
 len : q.length ≤ 40
 words : ∀ w ∈ q, WW w
structure OkL (l : List TwoD) (m : List Int) : Prop where
 len : l.length = 8
 pgs : ∀ p ∈ l, (-1 ≤ p.1 ∧ p.1 ≤ 23) ∧ (0 ≤ p.2.1 ∧ p.2.1 ≤ 7) ∧ 8 * p.1 + 8 ≤ (m.length : Int)
 words : ∀ w ∈ m, WW w
 mlen : m.length ≤ 192
theorem Qao {α : Type} {l : List α} {k : Nat} {d : α} (h : k < l.length) : l.getD k d ∈ l := by
 rw [List.getD_eq_getElem?_getD, List.getElem?_eq_getElem h]; exact List.getElem_mem h
theorem QcI {α : Type} {l : List α} {k : Nat} (d : α) (h : k < l.length) : l[k]? = some (l.getD k d) := by
 rw [List.getD_eq_getElem?_getD, List.getElem?_eq_getElem h]; rfl
theorem QR {α γ : Type} {l : List α} {i : Int} (d : α) (h : i.toNat < l.length) (K : α → Option γ) : (l[i.toNat]?).bind K = K (l.getD i.toNat d) := by
 rw [QcI d h]; rfl
theorem OkC.w {cs : List Int} (h : OkC cs) {k : Nat} (hk : k < 11) : WW (cs.getD k 0) := h.words _ (Qao (by rw [h.len]; exact hk))
theorem OkR.w {cs : List Int} (h : OkR cs) {k : Nat} (hk : k < 16) : WW (cs.getD k 0) := h.words _ (Qao (by rw [h.len]; exact hk))
def QeB (cs : List Int) (ru : Bool) (dn : Int) (iq : List Int) : Int :=
 (if cs.getD 9 0 ≠ 0 ∧ cs.getD 9 0 ≤ dn then 1 else 0) + (if ru = true then 2 else 0) + (if 0 < iq.length then 4 else 0)
theorem Qin (cs : List Int) (ru : Bool) (dn : Int) (iq : List Int) : 0 ≤ QeB cs ru dn iq ∧ QeB cs ru dn iq ≤ 7 := by
 unfold QeB; repeat' split
 all_goals omega
section
variable {r cs iq oq : List Int} {pc dn : Int} {ha wa ru : Bool}
theorem QdQ (hc : OkC cs) : F_bx ((r, pc, cs, ha, wa, ru, dn, iq, oq, ()), ()) = some ((QeB cs ru dn iq, ()), ()) := by
 have o1 : ior .i64 0 1 = 1 := by decide +kernel
 have o2 : ior .i64 1 2 = 3 := by decide +kernel
 have o3 : ior .i64 3 4 = 7 := by decide +kernel
 have o4 : ior .i64 1 4 = 5 := by decide +kernel
 have o5 : ior .i64 0 2 = 2 := by decide +kernel
 have o6 : ior .i64 2 4 = 6 := by decide +kernel
 have o7 : ior .i64 0 4 = 4 := by decide +kernel
 unfold F_bx QeB
 dsimp only
 have e3 : ltI 0 ((iq.length : Nat) : Int) = decide (0 < iq.length) := by
  have := ltN (a := 0) (b := iq.length)
  simpa using this
 rw [QR 0 (by rw [hc.len]; decide)]
 simp only [e3, show ((9 : Int)).toNat = 9 from rfl, QcI (l := cs) (k := 9) 0 (by rw [hc.len]; decide), Obn, o1, o2, o3, o4, o5, o6, o7]
 generalize cs.getD 9 0 = a
 by_cases h1 : a = 0
 ·cases ru <;> by_cases h3 : 0 < iq.length <;> simp [h1, h3]
 ·by_cases h2 : a ≤ dn <;> cases ru <;> by_cases h3 : 0 < iq.length <;> simp [h1, h2, h3, Qbm]
def lowB (v : Int) : Int := if v % 2 = 1 then 0 else if v / 2 % 2 = 1 then 1 else if v / 4 % 2 = 1 then 2 else -1
def dueM (cs : List Int) (ru : Bool) (dn : Int) (iq : List Int) : Int := if cs.getD 0 0 % 2 = 0 then -1 else lowB (iand .i64 (QeB cs ru dn iq) (cs.getD 7 0))
theorem Qoy : ∀ p : Fin 8, ∀ m : Fin 8, 0 ≤ iand .i64 ((p.val : Nat) : Int) ((m.val : Nat) : Int) ∧ iand .i64 ((p.val : Nat) : Int) ((m.val : Nat) : Int) ≤ 7 := by decide +kernel
theorem Qrs {p m : Int} (h : 0 ≤ p ∧ p ≤ 7) (h2 : 0 ≤ m ∧ m ≤ 7) : 0 ≤ iand .i64 p m ∧ iand .i64 p m ≤ 7 := by
 have := Qoy ⟨p.toNat, by omega⟩ ⟨m.toNat, by omega⟩
 simp only [show ((p.toNat : Nat) : Int) = p from by omega, show ((m.toNat : Nat) : Int) = m from by omega] at this
 exact this
theorem QrI : ∀ v : Fin 8, v.val ≠ 0 → tzF (IntKind.u64.wrap ((v.val : Nat) : Int)) = some (lowB ((v.val : Nat) : Int)) ∧ lowB ((v.val : Nat) : Int) ≠ -1 := by decide +kernel
theorem QrH (v : Int) : -1 ≤ lowB v ∧ lowB v ≤ 2 := by
 unfold lowB; repeat' split
 all_goals omega
theorem QoW (hc : OkC cs) : F_bz ((r, pc, cs, ha, wa, ru, dn, iq, oq, ()), ()) = some ((dueM cs ru dn iq, ()), ()) := by
 unfold F_bz dueM
 dsimp only
 rw [QdQ hc, Obn]
 dsimp only
 rw [QR 0 (by rw [hc.len]; decide), QR 0 (by rw [hc.len]; decide)]
 have hst := hc.w (k := 0) (by decide)
 have hmk := hc.w (k := 7) (by decide)
 have hmk2 := hc.msk
 have hb := Qrs (Qin cs ru dn iq) ⟨hmk.1, hmk2⟩
 simp only [show ((7 : Int)).toNat = 7 from rfl, show ((0 : Int)).toNat = 0 from rfl, Int.tmod_eq_emod_of_nonneg hst.1]
 generalize iand .i64 (QeB cs ru dn iq) (cs.getD 7 0) = v at *
 by_cases h : cs.getD 0 0 % 2 = 0
 ·rw [if_neg (by simpa using h), if_pos h]
 ·rw [if_pos (by simpa using h), if_neg h]
  by_cases hv : v = 0
  ·subst hv; rfl
  ·rw [if_neg (by simpa using hv)]
   have := QrI ⟨v.toNat, by omega⟩ (by simp only; omega)
   simp only [show ((v.toNat : Nat) : Int) = v from by omega] at this
   unfold F_by
   dsimp only
   rw [this.1]
   rfl
def QiF (cs : List Int) (pc cause tval : Int) : List Int := (((cs.set 2 pc).set 3 cause).set 4 tval).set 0 (cs.getD 0 0 % 2 * 2)
theorem getD_set_ne {l : List Int} {i j : Nat} {y d : Int} (h : i ≠ j) : (l.set i y).getD j d = l.getD j d := by
 simp [List.getD_eq_getElem?_getD, List.getElem?_set_ne h]
theorem Qer {l : List Int} {i : Nat} {y d : Int} (h : i < l.length) : (l.set i y).getD i d = y := by
 simp [List.getD_eq_getElem?_getD, List.getElem?_set_self h]
theorem OkC.set {cs : List Int} (h : OkC cs) {k : Nat} {w : Int} (hw : WW w) (hk : k ≠ 6 ∧ k ≠ 8) (h0 : k = 0 → w ≤ 3) (h7 : k = 7 → w ≤ 7) (h10 : k = 10 → w ≤ 8) : OkC (cs.set k w) := by
 by_cases hlt : k < 11
 ·refine ⟨by simp [h.len], fun z hz => ?_, ?_, ?_, ?_, ?_, ?_⟩
  ·rcases List.mem_or_eq_of_mem_set hz with hz | rfl
   ·exact h.words z hz
   ·exact hw
  ·by_cases e : k = 0
   ·subst e; rw [Qer (by rw [h.len]; decide)]; exact h0 rfl
   ·rw [getD_set_ne e]; exact h.st
  ·by_cases e : k = 7
   ·subst e; rw [Qer (by rw [h.len]; decide)]; exact h7 rfl
   ·rw [getD_set_ne e]; exact h.msk
  ·by_cases e : k = 10
   ·subst e; rw [Qer (by rw [h.len]; decide)]; exact h10 rfl
   ·rw [getD_set_ne e]; exact h.tb
  ·rw [getD_set_ne hk.1]; exact h.pd
  ·rw [getD_set_ne hk.2]; exact h.tm
 ·rw [List.set_eq_of_length_le (by rw [h.len]; omega)]; exact h
theorem Qrh (hc : OkC cs) (hp : WW pc) {cause tval : Int} (h1 : WW cause) (h2 : WW tval) : OkC (QiF cs pc cause tval) := by
 unfold QiF
 have := hc.w (k := 0) (by decide)
 unfold WW at this
 exact (((hc.set hp (by decide) (fun e => absurd e (by decide)) (fun e => absurd e (by decide)) (fun e => absurd e (by decide))).set h1 (by decide) (fun e => absurd e (by decide)) (fun e => absurd e (by decide)) (fun e => absurd e (by decide))).set h2 (by decide) (fun e => absurd e (by decide)) (fun e => absurd e (by decide)) (fun e => absurd e (by decide))).set
  (by unfold WW; omega) (by decide) (fun _ => by omega) (fun e => absurd e (by decide)) (fun e => absurd e (by decide))
theorem Qna (hc : OkC cs) (cause tval : Int) : F_ca ((r, pc, cs, ha, wa, ru, dn, iq, oq, ()), cause, tval, ()) =
  some ((), ((r, cs.getD 1 0, QiF cs pc cause tval, ha, false, ru, dn, iq, oq, ()), ())) := by
 have hst := hc.w (k := 0) (by decide)
 have hl := hc.len
 have hw : IntKind.i64.wrap (cs.getD 0 0 % 2 * 2) = cs.getD 0 0 % 2 * 2 := QH (by omega) (by omega)
 unfold F_ca QiF
 simp only [show ((2 : Int)).toNat = 2 from rfl, show ((3 : Int)).toNat = 3 from rfl, show ((4 : Int)).toNat = 4 from rfl, show ((0 : Int)).toNat = 0 from rfl, show ((1 : Int)).toNat = 1 from rfl,
  List.length_set, hl, show (0 : Int) ≤ 2 ∧ (2 : Int) < ((11 : Nat) : Int) from by decide, show (0 : Int) ≤ 3 ∧ (3 : Int) < ((11 : Nat) : Int) from by decide, show (0 : Int) ≤ 4 ∧ (4 : Int) < ((11 : Nat) : Int) from by decide,
  show (0 : Int) ≤ 0 ∧ (0 : Int) < ((11 : Nat) : Int) from by decide, show (0 : Int) ≤ 1 ∧ (1 : Int) < ((11 : Nat) : Int) from by decide, and_self, if_true]
 rw [QcI (l := cs) (k := 2) 0 (by omega), Obn, QcI (k := 3) 0 (by simp [hl]), Obn, QcI (k := 4) 0 (by simp [hl]), Obn]
 rw [QcI (l := ((cs.set 2 pc).set 3 cause).set 4 tval) (k := 0) 0 (by simp [hl]), Obn, Obn]
 rw [getD_set_ne (by decide), getD_set_ne (by decide), getD_set_ne (by decide), Int.tmod_eq_emod_of_nonneg hst.1, hw]
 rw [QcI (k := 1) 0 (by simp [hl]), Obn]
 rw [getD_set_ne (by decide), getD_set_ne (by decide), getD_set_ne (by decide), getD_set_ne (by decide)]
def Qlm (cs : List Int) : List Int := cs.set 0 (2 + cs.getD 0 0 / 2)
theorem QpQ (hc : OkC cs) : OkC (Qlm cs) := by
 have := hc.w (k := 0) (by decide)
 have h3 := hc.st
 unfold WW at this
 exact hc.set (by unfold WW; omega) (by decide) (fun _ => by omega) (fun e => absurd e (by decide)) (fun e => absurd e (by decide))
theorem QmQ (hc : OkC cs) : F_cv ((r, pc, cs, ha, wa, ru, dn, iq, oq, ()), ()) = some ((), ((r, cs.getD 2 0, Qlm cs, ha, wa, ru, dn, iq, oq, ()), ())) := by
 have hst := hc.w (k := 0) (by decide)
 have hl := hc.len
 unfold WW at hst
 unfold F_cv Qlm
 simp only [show ((2 : Int)).toNat = 2 from rfl, show ((0 : Int)).toNat = 0 from rfl, hl, show (0 : Int) ≤ 2 ∧ (2 : Int) < ((11 : Nat) : Int) from by decide, show (0 : Int) ≤ 0 ∧ (0 : Int) < ((11 : Nat) : Int) from by decide, and_self, if_true]
 rw [QcI (l := cs) (k := 2) 0 (by omega), Obn, QcI (l := cs) (k := 0) 0 (by omega), Obn, Obn]
 rw [Int.tdiv_eq_ediv_of_nonneg hst.1, QH (n := cs.getD 0 0 / 2) (by omega) (by omega), QH (by omega) (by omega)]
def getM (cs : List Int) (ru : Bool) (dn : Int) (iq : List Int) (k : Int) : Int := if k = 6 then QeB cs ru dn iq else if k = 8 then dn else cs.getD k.toNat 0
end
end Go.Proofs.YtmoninjbahccoaaGreatDoor
