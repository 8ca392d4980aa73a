/- Plain laws: what the functions compute, and that both programs compute the same. -/
import Derived.Test.YtajnommlfjfgpaaGreatDoorGs3
namespace Go.Proofs.YtajnommlfjfgpaaGreatDoor
open Go Go.RowKit S Go.Proofs
set_option maxRecDepth 100000
set_option linter.unusedVariables false
set_option linter.unusedSimpArgs false
def okW (w : Int) : Bool := decide (w ≥ 0) && decide (w ≤ 4294967295)
def allW (m : List Int) : Bool := m.all okW
theorem l1In_eq (n a b : Int) : F_d (n, a, b, ()) = some ((decide (n ≥ a) && decide (n ≤ b), ()), ()) := by
 unfold F_d
 simp only [ltI_eq, leI_eq, decide_eq_true_eq, ge_iff_le, gt_iff_lt]
 split
 ·rename_i h; simp [h]
 ·rename_i h; simp [h]
theorem within_eq (n a b : Int) : F_ab (n, a, b, ()) = some ((decide (n ≥ a) && decide (n ≤ b), ()), ()) := by
 unfold F_ab
 simp only [ltI_eq, leI_eq, decide_eq_true_eq, ge_iff_le, gt_iff_lt]
 split
 ·rename_i h; simp [h]
 ·rename_i h; simp [h]
theorem isWord_eq (n : Int) : F_ac (n, ()) = some ((okW n, ()), ()) := by
 unfold F_ac
 rw [within_eq, Option.bind_some]
 rfl
theorem areWords1_eq (n : Int) : F_ad_1 (n, ()) = some ((!okW n, ()), ()) := by
 unfold F_ad_1
 rw [isWord_eq, Option.bind_some]
theorem allW_cons {y : Int} {r : List Int} : allW (y :: r) = (okW y && allW r) := rfl
theorem words_loop (m : List Int) (i : Int) (h0 : 0 ≤ i) (h1 : i ≤ (m.length : Int)) (h3 : m.length ≤ maxLen) :
  (allW (m.drop i.toNat) = true ∧ L_af_2 ((m, (), ((m.length : Nat) : Int), i, ()), (), ()) = some (.inl ((), (), ()))) ∨
  (allW (m.drop i.toNat) = false ∧ ∃ k : Int, 0 ≤ k ∧ L_af_2 ((m, (), ((m.length : Nat) : Int), i, ()), (), ()) = some (.inr (.inl ((k, ()), (), ())))) := by
 have key : ∀ (n : Nat) (i : Int), (m.length - i).toNat < n → 0 ≤ i → i ≤ (m.length : Int) →
   (allW (m.drop i.toNat) = true ∧ iterF l_af_2 n ((m, (), ((m.length : Nat) : Int), i, ()), (), ()) = some (.inl ((), (), ()))) ∨
   (allW (m.drop i.toNat) = false ∧ ∃ k : Int, 0 ≤ k ∧ iterF l_af_2 n ((m, (), ((m.length : Nat) : Int), i, ()), (), ()) = some (.inr (.inl ((k, ()), (), ())))) := by
  intro n
  induction n with
  | zero => intro i h; omega
  | succ n ih =>
   intro i hm h0 h1
   simp only [iterF]
   generalize iterF l_af_2 n = rec at ih ⊢
   unfold l_af_2
   simp only [ltI_eq, leI_eq, decide_eq_true_eq, ge_iff_le, gt_iff_lt]
   by_cases hlt : i < (m.length : Int)
   ·obtain ⟨y, hy, _, hd⟩ := at_lt h0 hlt
    rw [if_pos hlt, if_pos h0, hy, Option.bind_some, areWords1_eq, Option.bind_some, step64 h0 hlt h3, hd, allW_cons]
    cases hw : okW y with
    | true => simpa using ih (i + 1) (by omega) (by omega) (by omega)
    | false => exact .inr ⟨by simp, i, h0, by simp⟩
   ·rw [if_neg hlt, drop_end hlt]
    exact .inl ⟨rfl, rfl⟩
 exact key lots i (by rw [maxLen_eq] at h3; rw [lots_eq]; omega) h0 h1
theorem areWords_eq (m : List Int) (h : m.length ≤ maxLen) : F_ad (m, ()) = some ((allW m, ()), ()) := by
 unfold F_ad F_ag_1 F_ae_1
 simp only
 rcases words_loop m 0 (by simp) (by simp) h with ⟨h1, h2⟩ | ⟨h1, k, h2, h3⟩
 ·simp only [Int.toNat_zero, List.drop_zero] at h1
  rw [h2, h1]; rfl
 ·simp only [Int.toNat_zero, List.drop_zero] at h1
  rw [h3, h1]
  simp [h2, leI_eq]
def memFault (m : List Int) : Int := if m.length % 8 = 0 ∧ 8 ≤ m.length ∧ m.length ≤ 192 then (if allW m = true then 0 else 3) else 1
theorem implFault_eq (m : List Int) (h : m.length ≤ maxLen) : F_ak (m, ()) = some ((memFault m, ()), ()) := by
 unfold F_ak memFault
 rw [areWords_eq m h]
 simp only [Option.bind_some, ltI_eq, leI_eq, beq_eq_false_iff_ne, decide_eq_false_iff_not, bne_iff_ne]
 have e : ((m.length : Nat) : Int).tmod 8 = ((m.length % 8 : Nat) : Int) := rfl
 rw [e]
 by_cases h1 : ((m.length : Nat) : Int) ≠ 0
 ·rw [if_pos h1]
  by_cases h2 : ¬ ((m.length : Nat) : Int) > 192
  ·rw [if_pos h2]
   by_cases h3 : ((m.length % 8 : Nat) : Int) ≠ 0
   ·rw [if_pos h3, if_neg (by omega)]
   ·have hc : m.length % 8 = 0 ∧ 8 ≤ m.length ∧ m.length ≤ 192 := by omega
    rw [if_neg h3, if_pos hc]
    cases allW m <;> rfl
  ·rw [if_neg h2, if_neg (by omega)]
 ·rw [if_neg h1, if_neg (by omega)]
theorem specWords_loop (m : List Int) (i : Int) (h0 : 0 ≤ i) (h1 : i ≤ (m.length : Int)) (h3 : m.length ≤ maxLen) :
  L_cg_4 ((m, i, ()), (), ()) = some (if allW (m.drop i.toNat) = true then .inl ((), (), ()) else .inr (.inl ((3, ()), (), ()))) := by
 refine iter_map (γ := denO o_cg_4) (step := l_cg_4) (β := Int) (fun i => ((m, i, ()), (), ())) (fun i => 0 ≤ i ∧ i ≤ (m.length : Int)) (fun i => some (if allW (m.drop i.toNat) = true then .inl ((), (), ()) else .inr (.inl ((3, ()), (), ()))))
  (fun i => (m.length - i).toNat) ?_ lots _ ⟨h0, h1⟩ (by rw [maxLen_eq] at h3; rw [lots_eq]; omega)
 rintro rec i ⟨h0, h1⟩ ih
 simp only at h0 h1 ih ⊢
 unfold l_cg_4
 simp only [ltI_eq, leI_eq, decide_eq_true_eq, ge_iff_le, gt_iff_lt]
 by_cases hlt : i < (m.length : Int)
 ·obtain ⟨y, hy, _, hd⟩ := at_lt h0 hlt
  rw [if_pos hlt, if_pos h0, hy, Option.bind_some, l1In_eq, Option.bind_some, step64 h0 hlt h3, hd, allW_cons]
  show (if (!okW y) = true then _ else _) = _
  cases hw : okW y with
  | true => simpa using ih (i + 1) ⟨by omega, by omega⟩ (by omega)
  | false => simp
 ·rw [if_neg hlt, drop_end hlt]
  rfl
theorem specFault_eq (m : List Int) (h : m.length ≤ maxLen) : F_cg (m, ()) = some ((memFault m, ()), ()) := by
 unfold F_cg memFault
 simp only [ltI_eq, leI_eq, beq_eq_false_iff_ne, decide_eq_false_iff_not, bne_eq_false_iff_eq, decide_eq_true_eq]
 have e : ((m.length : Nat) : Int).tmod 8 = ((m.length % 8 : Nat) : Int) := rfl
 rw [e]
 by_cases h1 : ((m.length % 8 : Nat) : Int) = 0
 ·rw [if_pos h1]
  by_cases h2 : ¬ ((m.length : Nat) : Int) < 8
  ·rw [if_pos h2]
   by_cases h3 : ((m.length : Nat) : Int) > 192
   ·rw [if_pos h3, if_neg (by omega)]
   ·rw [if_neg h3, if_pos (by omega), specWords_loop m 0 (by simp) (by simp) h]
    simp only [Int.toNat_zero, List.drop_zero]
    cases allW m <;> rfl
  ·rw [if_neg h2, if_neg (by omega)]
 ·rw [if_neg h1, if_neg (by omega)]
abbrev HartD := den (.pair (.slice (.int .i64)) (.pair (.int .i64) (.pair (.slice (.int .i64)) (.pair .bool (.pair .bool (.pair .bool (.pair (.int .i64) (.pair (.slice (.int .i64)) (.pair (.slice (.int .i64)) .unit)))))))))
/-- No list of it is longer. -/
def hartLe (n : Nat) (h : HartD) : Prop := h.1.length ≤ n ∧ h.2.2.1.length ≤ n ∧ h.2.2.2.2.2.2.2.1.length ≤ n ∧ h.2.2.2.2.2.2.2.2.1.length ≤ n
theorem leM {n : Nat} (h : n ≤ 1048576) : n ≤ maxLen := by rw [maxLen_eq]; omega
theorem pageOf_eq (m : List Int) (p : Nat) (h : 8 * p + 8 ≤ m.length) (h2 : m.length ≤ 192) : F_aw (m, (p : Int), ()) = some (((m.drop (8 * p)).take 8, ()), ()) := by
 unfold F_aw F_ap
 simp only
 rw [wrap64 (n := (p : Int) * 8) (by omega) (by omega), wrap64 (n := (p : Int) + 1) (by omega) (by omega), wrap64 (n := ((p : Int) + 1) * 8) (by omega) (by omega)]
 rw [if_pos ⟨by omega, by omega, by omega⟩]
 have e1 : ((p : Int) * 8).toNat = 8 * p := by omega
 have e2 : (((p : Int) + 1) * 8).toNat - 8 * p = 8 := by omega
 rw [e1, e2, if_pos (by simp; omega), Option.bind_some]
 simp
theorem firstOf_eq (x y : Int) : F_aj ([x, y], ()) = some ((if x ≠ 0 then x else y, ()), ()) := by
 have key : L_aj_2 (([x, y], 2, 0, ()), (), ()) = some (if x ≠ 0 then .inr (.inl ((x, ()), (), ())) else if y ≠ 0 then .inr (.inl ((y, ()), (), ())) else .inl ((), (), ())) := by
  have e : lots = (18446744073709551613 + 1) + 1 + 1 := rfl
  show iterF l_aj_2 lots _ = _
  rw [e]
  generalize 18446744073709551613 = n
  have w1 : IntKind.i64.wrap ((0 : Int) + 1) = 1 := wrap64 (by omega) (by omega)
  have w2 : IntKind.i64.wrap ((1 : Int) + 1) = 2 := wrap64 (by omega) (by omega)
  have s3 : iterF l_aj_2 (n + 1) (([x, y], 2, 2, ()), (), ()) = some (.inl ((), (), ())) := by
   simp only [iterF]
   generalize iterF l_aj_2 n = rec
   unfold l_aj_2
   simp [ltI_eq]
  have s2 : iterF l_aj_2 (n + 1 + 1) (([x, y], 2, 1, ()), (), ()) = some (if y ≠ 0 then .inr (.inl ((y, ()), (), ())) else .inl ((), (), ())) := by
   rw [show iterF l_aj_2 (n + 1 + 1) (([x, y], 2, 1, ()), (), ()) = l_aj_2 (iterF l_aj_2 (n + 1)) (([x, y], 2, 1, ()), (), ()) from rfl]
   generalize iterF l_aj_2 (n + 1) = rec at s3 ⊢
   unfold l_aj_2
   simp only [ltI_eq]
   rw [if_pos (by decide), if_pos (by decide)]
   show (some y).bind _ = _
   rw [Option.bind_some, w2, s3]
   by_cases h : y = 0
   ·subst h; simp
   ·rw [if_pos (by simp; exact h)]; simp [h]
  rw [show iterF l_aj_2 (n + 1 + 1 + 1) (([x, y], 2, 0, ()), (), ()) = l_aj_2 (iterF l_aj_2 (n + 1 + 1)) (([x, y], 2, 0, ()), (), ()) from rfl]
  generalize iterF l_aj_2 (n + 1 + 1) = rec at s2 ⊢
  unfold l_aj_2
  simp only [ltI_eq]
  rw [if_pos (by decide), if_pos (by decide)]
  show (some x).bind _ = _
  rw [Option.bind_some, w1, s2]
  by_cases h : x = 0
  ·subst h; simp
  ·rw [if_pos (by simp; exact h)]; simp [h]
 unfold F_aj
 simp only
 show (L_aj_2 (([x, y], 2, 0, ()), (), ())).bind _ = _
 rw [key, Option.bind_some]
 by_cases h : x = 0
 ·subst h
  by_cases h2 : y = 0
  ·subst h2; simp
  ·simp [h2]
 ·simp [h]
theorem memFault_zero {m : List Int} (h : memFault m = 0) : m.length % 8 = 0 ∧ 8 ≤ m.length ∧ m.length ≤ 192 := by
 unfold memFault at h
 split at h
 ·assumption
 ·omega
/-- A loop whose counter goes from i up to N at most. -/
theorem loopN {X γ σ : Type} {step : (X → Option γ) → X → Option γ} (emb : Nat → σ → X) (N : Nat) (hN : N < lots) (I : Nat → σ → Prop) (out : Nat → σ → Option γ)
  (h : ∀ rec i s, i ≤ N → I i s → (∀ s', i < N → I (i + 1) s' → rec (emb (i + 1) s') = out (i + 1) s') → step rec (emb i s) = out i s) :
  ∀ i s, i ≤ N → I i s → iterF step lots (emb i s) = out i s := by
 have key : ∀ n i s, N - i < n → i ≤ N → I i s → iterF step n (emb i s) = out i s := by
  intro n
  induction n with
  | zero => intro i s h; omega
  | succ n ih =>
   intro i s hn hi hI
   simp only [iterF]
   exact h _ i s hi hI fun s' hlt hI' => ih (i + 1) s' (by omega) (by omega) hI'
 intro i s hi hI
 exact key lots i s (by omega) hi hI
theorem lots_gt' {n : Nat} (h : n ≤ 9223372036854775807) : n < lots := by rw [lots_eq]; omega
theorem wrapS {i : Nat} (h : i < 9223372036854775807) : IntKind.i64.wrap ((i : Int) + 1) = ((i + 1 : Nat) : Int) := by rw [wrap64 (by omega) (by omega)]; rfl
theorem nat0 {i : Nat} : (0 : Int) ≤ (i : Int) := Int.natCast_nonneg i
/-- One step at a place of a list. -/
theorem at_get {α γ : Type} {m : List α} {i : Nat} (h : i < m.length) (K : α → Option γ) : (m[((i : Nat) : Int).toNat]?).bind K = K m[i] := by
 rw [Int.toNat_natCast, List.getElem?_eq_getElem h, Option.bind_some]
theorem drop_get {α : Type} {m : List α} {i : Nat} (h : i < m.length) : m.drop i = m[i] :: m.drop (i + 1) := List.drop_eq_getElem_cons h
theorem ltN {a b : Nat} : ltI (a : Int) (b : Int) = decide (a < b) := by
 rw [ltI_eq]; by_cases h : a < b
 ·have : (a : Int) < b := by omega
  simp [h, this]
 ·have : ¬ (a : Int) < b := by omega
  simp [h, this]
theorem ltI_t {a b : Int} : ltI a b = true ↔ a < b := by rw [ltI_eq]; simp
theorem leI_t {a b : Int} : leI a b = true ↔ a ≤ b := by rw [leI_eq]; simp
theorem ltI_f {a b : Int} : ltI a b = false ↔ ¬ a < b := by rw [ltI_eq]; simp
def scan {α β : Type} (f : Nat → α → Option β) : Nat → List α → Option β
 | _, [] => none
 | i, x :: r => match f i x with
  | some c => some c
  | none => scan f (i + 1) r
theorem scan_loop {X α γ β : Type} {step : (X → Option γ) → X → Option γ} (emb : Nat → X) (m : List α) (f : Nat → α → Option β) (bad : β → Option γ) (done : Option γ) (hm : m.length ≤ 9223372036854775807)
  (h1 : ∀ rec i (h : i < m.length), step rec (emb i) = match f i m[i] with | some c => bad c | none => rec (emb (i + 1)))
  (h2 : ∀ rec, step rec (emb m.length) = done) : iterF step lots (emb 0) = match scan f 0 m with | some c => bad c | none => done := by
 have key := loopN (step := step) (fun i (_ : Unit) => emb i) m.length (lots_gt' hm) (fun _ _ => True) (fun i _ => match scan f i (m.drop i) with | some c => bad c | none => done) ?_ 0 () (by omega) trivial
 ·simpa using key
 ·intro rec i _ hi _ ih
  by_cases hlt : i < m.length
  ·rw [h1 rec i hlt, drop_get hlt]
   simp only [scan]
   cases hf : f i m[i] with
   | some c => rfl
   | none => exact ih () hlt trivial
  ·have : i = m.length := by omega
   subst this
   rw [h2, List.drop_length]
   rfl
/-- Is there an element that is so? -/
theorem scan_any {α β : Type} {f : Nat → α → Option β} {p : α → Bool} : ∀ {m : List α} {i : Nat}, (∀ j (h : j < m.length), (f (i + j) m[j]).isSome = p m[j]) → (scan f i m).isSome = m.any p
 | [], _, _ => rfl
 | x :: r, i, h => by
  have h0 := h 0 (by simp)
  simp only [Nat.add_zero, List.getElem_cons_zero] at h0
  have := scan_any (f := f) (p := p) (m := r) (i := i + 1) fun j hj => by
   have := h (j + 1) (by simpa using hj)
   simpa [Nat.add_assoc, Nat.add_comm, Nat.add_left_comm] using this
  simp only [scan, List.any_cons, ← h0, ← this]
  cases f i x <;> rfl
theorem lt_t {i n : Nat} (h : i < n) : ltI (i : Int) (n : Int) = true := by rw [ltN]; simpa using h
theorem lt_f {i n : Nat} (h : ¬ i < n) : ¬ ltI (i : Int) (n : Int) = true := by rw [ltN]; simpa using h
theorem lt_same {n : Nat} : ¬ ltI (n : Int) (n : Int) = true := lt_f (Nat.lt_irrefl n)
theorem lt1 {α : Type} {i : Nat} {m : List α} (h : i < m.length) (hm : m.length ≤ 1048576) : i < 9223372036854775807 := by omega
theorem iter_s {X γ : Type} (step : (X → Option γ) → X → Option γ) (n : Nat) (x : X) : iterF step (n + 1) x = step (iterF step n) x := rfl
theorem lots3 : lots = 18446744073709551613 + 1 + 1 + 1 := rfl
abbrev TwoD := Int × Int × Unit
theorem leMax {n : Nat} (h : n ≤ 1048576) : n ≤ 9223372036854775807 := by omega
def inB (n a b : Int) : Bool := decide (n ≥ a) && decide (n ≤ b)
theorem within_eq2 (n a b : Int) : F_ab (n, a, b, ()) = some ((inB n a b, ()), ()) := within_eq n a b
theorem l1In_eq2 (n a b : Int) : F_d (n, a, b, ()) = some ((inB n a b, ()), ()) := l1In_eq n a b
def nz (c : Int) : Option Int := if c ≠ 0 then some c else none
theorem inB_t {n a b : Int} : inB n a b = true ↔ a ≤ n ∧ n ≤ b := by unfold inB; simp
theorem at_lit {γ : Type} {m : List Int} {z : Int} (n : Nat) (hz : z.toNat = n) (h : n < m.length) (K : Int → Option γ) : (m[z.toNat]?).bind K = K (m.getD n 0) := by
 rw [hz, List.getElem?_eq_getElem h, Option.bind_some, List.getD_eq_getElem?_getD, List.getElem?_eq_getElem h]
 rfl
theorem l8Word_eq (n : Int) : F_e (n, ()) = some ((okW n, ()), ()) := by
 unfold F_e
 rw [l1In_eq, Option.bind_some]
 rfl
theorem any_all {α : Type} {p : α → Bool} : ∀ (m : List α), m.any (fun y => !p y) = !m.all p
 | [] => rfl
 | x :: r => by simp only [List.any_cons, List.all_cons, any_all r, Bool.not_and]
theorem l8All_eq (m : List Int) (hm : m.length ≤ 1048576) : F_f (m, ()) = some ((allW m, ()), ()) := by
 have key := scan_loop (step := l_f_2) (γ := denO o_f_2) (fun i => ((m, ((i : Nat) : Int), ()), (), ())) m (fun _ y => if okW y = true then none else some ())
  (fun _ => some (.inr (.inl ((false, ()), (), ())))) (some (.inl ((), (), ()))) (leMax hm) ?_ ?_
 ·have e0 : ((0 : Nat) : Int) = 0 := rfl
  rw [e0] at key
  have := scan_any (f := fun (_ : Nat) y => if okW y = true then none else some ()) (p := fun y => !okW y) (m := m) (i := 0) (fun j hj => by cases okW m[j] <;> rfl)
  rw [any_all] at this
  have e : allW m = !(scan (fun (_ : Nat) y => if okW y = true then none else some ()) 0 m).isSome := by rw [this, Bool.not_not]; rfl
  unfold F_f
  show (iterF l_f_2 lots ((m, 0, ()), (), ())).bind _ = _
  rw [key, e]
  cases scan (fun (_ : Nat) y => if okW y = true then none else some ()) 0 m <;> rfl
 ·intro rec i h
  unfold l_f_2
  dsimp only
  rw [if_pos (lt_t h), if_pos nat0, at_get h, l8Word_eq, Option.bind_some, wrapS (lt1 h hm)]
  cases okW m[i] <;> rfl
 ·intro rec
  unfold l_f_2
  dsimp only
  rw [if_neg lt_same]
def hartM (h : HartD) : Int :=
 if h.1.length = 16 ∧ h.2.2.1.length = 11 ∧ h.1.getD 0 0 = 0 then
  (if allW h.1 = true ∧ okW h.2.1 = true ∧ allW h.2.2.1 = true ∧ allW h.2.2.2.2.2.2.2.1 = true ∧ allW h.2.2.2.2.2.2.2.2.1 = true then
   (if h.2.2.2.2.2.2.2.1.length ≤ 40 ∧ h.2.2.2.2.2.2.2.2.1.length ≤ 40 then
    (if inB h.2.2.2.2.2.2.1 0 1000000000 = true then
     (if h.2.2.1.getD 0 0 ≤ 3 ∧ h.2.2.1.getD 7 0 ≤ 7 ∧ h.2.2.1.getD 10 0 ≤ 8 ∧ h.2.2.1.getD 6 0 = 0 ∧ h.2.2.1.getD 8 0 = 0 then 0 else 1) else 3) else 2) else 3) else 1
theorem specHart_eq (h : HartD) (hl : hartLe 1048576 h) : F_ce (h, ()) = some ((hartM h, ()), ()) := by
 obtain ⟨l1, l2, l3, l4⟩ := hl
 unfold F_ce hartM
 dsimp only
 by_cases a1 : h.1.length = 16
 case neg =>
  have : ¬ ((h.1.length : Nat) : Int) = 16 := by omega
  simp [a1, this]
 rw [if_pos (by rw [a1]; rfl)]
 by_cases a2 : h.2.2.1.length = 11
 case neg =>
  have : ¬ ((h.2.2.1.length : Nat) : Int) = 11 := by omega
  simp [a2, this]
 rw [if_pos (by rw [a2]; rfl), at_lit (z := 0) 0 rfl (by omega)]
 by_cases a3 : h.1.getD 0 0 = 0
 case neg => rw [if_pos (by simpa using a3), if_neg (fun g => a3 g.2.2)]
 have hA : h.1.length = 16 ∧ h.2.2.1.length = 11 ∧ h.1.getD 0 0 = 0 := ⟨a1, a2, a3⟩
 rw [if_neg (by simpa using a3), if_pos hA, l8All_eq _ l1, l8Word_eq, l8All_eq _ l2, l8All_eq _ l3, l8All_eq _ l4]
 simp only [Option.bind_some]
 cases b1 : allW h.1
 ·simp
 cases b2 : okW h.2.1
 ·simp
 cases b3 : allW h.2.2.1
 ·simp
 cases b4 : allW h.2.2.2.2.2.2.2.1
 ·simp
 cases b5 : allW h.2.2.2.2.2.2.2.2.1
 ·simp
 simp only [Bool.not_true, and_self, if_true, Bool.false_eq_true, if_false]
 by_cases c1 : h.2.2.2.2.2.2.2.1.length ≤ 40
 case neg => rw [if_neg (by rw [ltI_f]; omega), if_neg (fun g => c1 g.1)]
 rw [if_pos (by rw [ltI_f]; omega)]
 by_cases c2 : h.2.2.2.2.2.2.2.2.1.length ≤ 40
 case neg => rw [if_pos (by rw [ltI_t]; omega), if_neg (fun g => c2 g.2)]
 have hC : h.2.2.2.2.2.2.2.1.length ≤ 40 ∧ h.2.2.2.2.2.2.2.2.1.length ≤ 40 := ⟨c1, c2⟩
 rw [if_neg (by rw [ltI_t]; omega), if_pos hC, l1In_eq2, Option.bind_some]
 dsimp only
 cases b6 : inB h.2.2.2.2.2.2.1 0 1000000000
 ·simp
 rw [if_neg (by simp), if_pos rfl, at_lit (z := 0) 0 rfl (by omega)]
 by_cases d1 : h.2.2.1.getD 0 0 ≤ 3
 case neg => rw [if_neg (by rw [ltI_f]; exact fun g => g (Int.not_le.1 d1)), if_neg (fun g => d1 g.1)]
 rw [if_pos (by rw [ltI_f]; exact Int.not_lt.2 d1), at_lit (z := 7) 7 rfl (by omega)]
 by_cases d2 : h.2.2.1.getD 7 0 ≤ 7
 case neg => rw [if_neg (by rw [ltI_f]; exact fun g => g (Int.not_le.1 d2)), if_neg (fun g => d2 g.2.1)]
 rw [if_pos (by rw [ltI_f]; exact Int.not_lt.2 d2), at_lit (z := 10) 10 rfl (by omega)]
 by_cases d3 : h.2.2.1.getD 10 0 ≤ 8
 case neg => rw [if_neg (by rw [ltI_f]; exact fun g => g (Int.not_le.1 d3)), if_neg (fun g => d3 g.2.2.1)]
 rw [if_pos (by rw [ltI_f]; exact Int.not_lt.2 d3), at_lit (z := 6) 6 rfl (by omega)]
 by_cases d4 : h.2.2.1.getD 6 0 = 0
 case neg => rw [if_neg (by simpa using d4), if_neg (fun g => d4 g.2.2.2.1)]
 rw [if_pos (by simpa using d4), at_lit (z := 8) 8 rfl (by omega)]
 by_cases d5 : h.2.2.1.getD 8 0 = 0
 case neg => rw [if_pos (by simpa using d5), if_neg (fun g => d5 g.2.2.2.2)]
 have hD : h.2.2.1.getD 0 0 ≤ 3 ∧ h.2.2.1.getD 7 0 ≤ 7 ∧ h.2.2.1.getD 10 0 ≤ 8 ∧ h.2.2.1.getD 6 0 = 0 ∧ h.2.2.1.getD 8 0 = 0 := ⟨d1, d2, d3, d4, d5⟩
 rw [if_neg (by simpa using d5), if_pos hD]
theorem implHart_eq (h : HartD) (hl : hartLe 1048576 h) : F_ah (h, ()) = some ((hartM h, ()), ()) := by
 rw [← specHart_eq h hl]
 obtain ⟨l1, l2, l3, l4⟩ := hl
 unfold F_ah F_ce
 rw [areWords_eq _ (leM l1), isWord_eq, areWords_eq _ (leM l2), areWords_eq _ (leM l3), areWords_eq _ (leM l4), within_eq2]
 rw [l8All_eq _ l1, l8Word_eq, l8All_eq _ l2, l8All_eq _ l3, l8All_eq _ l4, l1In_eq2]
/-- Bytes. -/
def Byt (c : List Int) : Prop := (∀ b ∈ c, 0 ≤ b ∧ b ≤ 255) ∧ c.length ≤ 1048577
theorem next_ok {c : List Int} (hc : Byt c) (a n : Int) (ha : 0 ≤ a ∧ a ≤ 1099511627776) :
  ∃ v : Int, F_c ((c, a, ()), n, ()) = some ((v, ()), ((c, a + 1, ()), ())) ∧ 0 ≤ v ∧ (v < n ∨ v = 0) := by
 unfold F_c
 dsimp only
 rw [wrap64 (n := a + 1) (by omega) (by omega), wrap64 (n := a + 1 - 1) (by omega) (by omega)]
 have e1 : a + 1 - 1 = a := by omega
 rw [e1]
 by_cases h1 : n < 1
 ·exact ⟨0, by rw [if_pos (ltI_t.2 h1)], Int.le_refl 0, .inr rfl⟩
 rw [if_neg (by rw [ltI_t]; exact h1)]
 have hn : ¬ n = 0 := by omega
 by_cases h2 : c.length = 0
 ·rw [if_pos (by rw [h2]; rfl), if_neg hn, wrap64 (n := a * 7) (by omega) (by omega)]
  exact ⟨(a * 7).tmod n, rfl, Int.tmod_nonneg _ (by omega), .inl (Int.tmod_lt_of_pos _ (by omega))⟩
 have h3 : ¬ ((c.length : Nat) : Int) = 0 := by omega
 have p1 : 0 ≤ a.tmod ((c.length : Nat) : Int) := Int.tmod_nonneg _ ha.1
 have p2 : a.tmod ((c.length : Nat) : Int) < ((c.length : Nat) : Int) := Int.tmod_lt_of_pos _ (by omega)
 have p3 : 0 ≤ (a + 1).tmod ((c.length : Nat) : Int) := Int.tmod_nonneg _ (by omega)
 have p4 : (a + 1).tmod ((c.length : Nat) : Int) < ((c.length : Nat) : Int) := Int.tmod_lt_of_pos _ (by omega)
 have p5 : 0 ≤ a.tdiv ((c.length : Nat) : Int) := Int.tdiv_nonneg ha.1 (by omega)
 have p6 : a.tdiv ((c.length : Nat) : Int) ≤ a := Int.tdiv_le_self _ ha.1
 obtain ⟨y, hy⟩ : ∃ y, c[(a.tmod ((c.length : Nat) : Int)).toNat]? = some y := ⟨_, List.getElem?_eq_getElem (by omega)⟩
 obtain ⟨z, hz⟩ : ∃ z, c[((a + 1).tmod ((c.length : Nat) : Int)).toNat]? = some z := ⟨_, List.getElem?_eq_getElem (by omega)⟩
 have by_ := hc.1 y (List.mem_of_getElem? hy)
 have bz := hc.1 z (List.mem_of_getElem? hz)
 rw [if_neg (by simpa using h3), if_neg h3, if_pos p1, hy, Option.bind_some]
 generalize a.tdiv ((c.length : Nat) : Int) = d at p5 p6 ⊢
 rw [wrap64 (n := y) (by omega) (by omega), wrap64 (n := d) (by omega) (by omega), wrap64 (n := d * 37) (by omega) (by omega), wrap64 (n := y + d * 37) (by omega) (by omega)]
 by_cases h4 : (200 : Int) < n
 ·rw [if_neg h3, if_pos (ltI_t.2 h4), if_neg h3]
  rw [wrap64 (n := (y + d * 37) * 251) (by omega) (by omega), wrap64 (n := a + 1) (by omega) (by omega), if_pos p3, hz, Option.bind_some, wrap64 (n := z) (by omega) (by omega), wrap64 (n := z * 13) (by omega) (by omega),
   wrap64 (n := (y + d * 37) * 251 + z * 13) (by omega) (by omega), wrap64 (n := (y + d * 37) * 251 + z * 13 + a) (by omega) (by omega), if_neg hn]
  exact ⟨_, rfl, Int.tmod_nonneg _ (by omega), .inl (Int.tmod_lt_of_pos _ (by omega))⟩
 ·rw [if_neg h3, if_neg (by rw [ltI_t]; exact h4), if_neg hn]
  exact ⟨_, rfl, Int.tmod_nonneg _ (by omega), .inl (Int.tmod_lt_of_pos _ (by omega))⟩
/-- What is drawn. -/
def nextV (x : denP P_c) : Int := match F_c x with | some r => r.1.1 | none => 0
def pickV (x : denP P_i) : Int := match F_i x with | some r => r.1.1 | none => 0
def chanceV (x : denP P_h) : Bool := match F_h x with | some r => r.1.1 | none => false
def wordV (x : denP P_j) : Int := match F_j x with | some r => r.1.1 | none => 0
theorem next_rw (x : denP P_c) (hc : Byt x.1.1) (ha : 0 ≤ x.1.2.1 ∧ x.1.2.1 ≤ 1099511627776) : F_c x = some ((nextV x, ()), ((x.1.1, x.1.2.1 + 1, ()), ())) := by
 obtain ⟨⟨c, a, _⟩, n, _⟩ := x
 obtain ⟨v, e, h0, h1⟩ := next_ok hc a n ha
 unfold nextV
 rw [e]
theorem next_b (x : denP P_c) (hc : Byt x.1.1) (ha : 0 ≤ x.1.2.1 ∧ x.1.2.1 ≤ 1099511627776) : 0 ≤ nextV x ∧ (nextV x < x.2.1 ∨ nextV x = 0) := by
 obtain ⟨⟨c, a, _⟩, n, _⟩ := x
 obtain ⟨v, e, h0, h1⟩ := next_ok hc a n ha
 unfold nextV
 rw [e]
 exact ⟨h0, h1⟩
theorem pick_ok {c : List Int} (hc : Byt c) (a : Int) (l : List Int) (ha : 0 ≤ a ∧ a ≤ 1099511627776) (hl : l ≠ []) :
  ∃ v : Int, F_i ((c, a, ()), l, ()) = some ((v, ()), ((c, a + 1, ()), ())) ∧ v ∈ l := by
 have hpos : 0 < l.length := List.length_pos_iff.2 hl
 obtain ⟨v, e, h0, h1⟩ := next_ok hc a ((l.length : Nat) : Int) ha
 unfold F_i
 dsimp only
 rw [e, Option.bind_some]
 dsimp only
 have hv : v.toNat < l.length := by omega
 rw [if_pos h0, List.getElem?_eq_getElem hv, Option.bind_some]
 exact ⟨_, rfl, List.getElem_mem hv⟩
theorem pick_rw (x : denP P_i) (hl : x.2.1.isEmpty = false) (hc : Byt x.1.1) (ha : 0 ≤ x.1.2.1 ∧ x.1.2.1 ≤ 1099511627776) : F_i x = some ((pickV x, ()), ((x.1.1, x.1.2.1 + 1, ()), ())) := by
 obtain ⟨⟨c, a, _⟩, l, _⟩ := x
 obtain ⟨v, e, h0⟩ := pick_ok hc a l ha (by rintro rfl; cases hl)
 unfold pickV
 rw [e]
theorem pick_m (x : denP P_i) (hl : x.2.1.isEmpty = false) (hc : Byt x.1.1) (ha : 0 ≤ x.1.2.1 ∧ x.1.2.1 ≤ 1099511627776) : pickV x ∈ x.2.1 := by
 obtain ⟨⟨c, a, _⟩, l, _⟩ := x
 obtain ⟨v, e, h0⟩ := pick_ok hc a l ha (by rintro rfl; cases hl)
 unfold pickV
 rw [e]
 exact h0
theorem chance_rw (x : denP P_h) (hc : Byt x.1.1) (ha : 0 ≤ x.1.2.1 ∧ x.1.2.1 ≤ 1099511627776) : F_h x = some ((chanceV x, ()), ((x.1.1, x.1.2.1 + 1, ()), ())) := by
 obtain ⟨⟨c, a, _⟩, n, _⟩ := x
 obtain ⟨v, e, h0, h1⟩ := next_ok hc a n ha
 have : F_h ((c, a, ()), n, ()) = some ((v == 0, ()), ((c, a + 1, ()), ())) := by
  unfold F_h
  dsimp only
  rw [e, Option.bind_some]
 unfold chanceV
 rw [this]
theorem word_ok {c : List Int} (hc : Byt c) (a : Int) (ha : 0 ≤ a ∧ a ≤ 1073741824) : ∃ v : Int, F_j ((c, a, ()), ()) = some ((v, ()), ((c, a + 5, ()), ())) ∧ 0 ≤ v ∧ v ≤ 4294967295 := by
 obtain ⟨v1, e1, a1, b1⟩ := next_ok hc a 90 (by omega)
 obtain ⟨v2, e2, a2, b2⟩ := next_ok hc (a + 1) 9 (by omega)
 obtain ⟨v3, e3, a3, b3⟩ := next_ok hc (a + 1 + 1) 9 (by omega)
 obtain ⟨v4, e4, a4, b4⟩ := next_ok hc (a + 1 + 1 + 1) 60000 (by omega)
 unfold F_j
 dsimp only
 rw [e1, Option.bind_some, e2, Option.bind_some, e3, Option.bind_some]
 dsimp only
 rw [e4, Option.bind_some]
 dsimp only
 rw [wrap64 (n := 4294967295 - v3) (by omega) (by omega), wrap64 (n := v4 * 70000) (by omega) (by omega)]
 obtain ⟨v, e, hv⟩ := pick_ok hc (a + 1 + 1 + 1 + 1) [v1, v2, 4294967295 - v3, 2147483648, 2147483647, 0, v4 * 70000] (by omega) (by simp)
 rw [e, Option.bind_some]
 refine ⟨v, ?_, ?_⟩
 ·have : a + 1 + 1 + 1 + 1 + 1 = a + 5 := by omega
  rw [this]
 ·simp at hv
  omega
theorem word_rw (x : denP P_j) (hc : Byt x.1.1) (ha : 0 ≤ x.1.2.1 ∧ x.1.2.1 ≤ 1073741824) : F_j x = some ((wordV x, ()), ((x.1.1, x.1.2.1 + 5, ()), ())) := by
 obtain ⟨⟨c, a, _⟩, _⟩ := x
 obtain ⟨v, e, h0⟩ := word_ok hc a ha
 unfold wordV
 rw [e]
theorem word_b (x : denP P_j) (hc : Byt x.1.1) (ha : 0 ≤ x.1.2.1 ∧ x.1.2.1 ≤ 1073741824) : 0 ≤ wordV x ∧ wordV x ≤ 4294967295 := by
 obtain ⟨⟨c, a, _⟩, _⟩ := x
 obtain ⟨v, e, h0⟩ := word_ok hc a ha
 unfold wordV
 rw [e]
 exact h0
theorem next_rx {c : List Int} (hc : Byt c) (a n : Int) (ha : 0 ≤ a ∧ a ≤ 1099511627776) : F_c ((c, a, ()), n, ()) = some ((nextV ((c, a, ()), n, ()), ()), ((c, a + 1, ()), ())) := next_rw _ hc ha
theorem pick_rx {c : List Int} (hc : Byt c) (a : Int) (x : Int) (l : List Int) (ha : 0 ≤ a ∧ a ≤ 1099511627776) : F_i ((c, a, ()), x :: l, ()) = some ((pickV ((c, a, ()), x :: l, ()), ()), ((c, a + 1, ()), ())) := pick_rw _ rfl hc ha
theorem chance_rx {c : List Int} (hc : Byt c) (a n : Int) (ha : 0 ≤ a ∧ a ≤ 1099511627776) : F_h ((c, a, ()), n, ()) = some ((chanceV ((c, a, ()), n, ()), ()), ((c, a + 1, ()), ())) := chance_rw _ hc ha
theorem word_rx {c : List Int} (hc : Byt c) (a : Int) (ha : 0 ≤ a ∧ a ≤ 1073741824) : F_j ((c, a, ()), ()) = some ((wordV ((c, a, ()), ()), ()), ((c, a + 5, ()), ())) := word_rw _ hc ha
abbrev InsD := Int × Int × Int × Int × Unit
theorem bare_ok (op : Int) : ∃ b1 b2 b3 : Bool, F_s (op, ()) = some ((b1, b2, b3, ()), ()) := by
 unfold F_s
 dsimp only
 repeat' split
 all_goals exact ⟨_, _, _, rfl⟩
theorem ex_ite {α β : Type} {P : α → β} {c : Prop} [Decidable c] {a b : β} (ha : ∃ v, a = P v) (hb : ∃ v, b = P v) : ∃ v, (if c then a else b) = P v := by split <;> assumption
theorem insFault_ok (x : InsD) : ∃ v : Int, F_v (x, ()) = some ((v, ()), ()) := by
 obtain ⟨b1, b2, b3, e⟩ := bare_ok x.1
 unfold F_v
 dsimp only
 rw [l1In_eq2, l1In_eq2, l1In_eq2, l1In_eq2, e]
 simp only [Option.bind_some]
 repeat' (first | exact ⟨_, rfl⟩ | refine ex_ite (P := fun v : Int => some ((v, ()), ())) ?_ ?_)
theorem encode_ok (x : InsD) : ∃ v : Int × Int × Unit, F_w (x, ()) = some ((v, ()), ()) := by
 obtain ⟨v, e⟩ := insFault_ok x
 unfold F_w
 dsimp only
 rw [e, Option.bind_some]
 dsimp only
 split <;> exact ⟨_, rfl⟩
theorem l2Ins_ok {c : List Int} (hc : Byt c) (a : Int) (ha : 0 ≤ a ∧ a ≤ 1000000000) : ∃ v : InsD, F_t ((c, a, ()), ()) = some ((v, ()), ((c, a + 1 + 1 + 1 + 1 + 1 + 1 + 1, ()), ())) := by
 unfold F_t
 dsimp only
 rw [next_rx hc, Option.bind_some]
 dsimp only
 generalize nextV _ = v1
 rw [next_rx hc, Option.bind_some]
 dsimp only
 generalize nextV _ = v2
 rw [next_rx hc, Option.bind_some]
 dsimp only
 generalize nextV _ = v3
 rw [next_rx hc, Option.bind_some]
 dsimp only
 generalize nextV _ = v4
 rw [next_rx hc, Option.bind_some]
 dsimp only
 generalize nextV _ = v5
 rw [next_rx hc, Option.bind_some]
 dsimp only
 generalize nextV _ = v6
 rw [pick_rx hc, Option.bind_some]
 dsimp only
 generalize pickV _ = v7
 obtain ⟨b1, b2, b3, e⟩ := bare_ok (IntKind.i64.wrap (1 + v1))
 rw [e, Option.bind_some]
 dsimp only
 repeat' (first | exact ⟨_, rfl⟩ | refine ex_ite (P := fun v : InsD => some ((v, ()), ((c, a + 1 + 1 + 1 + 1 + 1 + 1 + 1, ()), ()))) ?_ ?_)
 all_goals omega
def Drew {T : Type} (o : Option ((T × Unit) × (List Int × Int × Unit) × Unit)) (c : List Int) (a k : Int) : Prop := ∃ (v : T) (a' : Int), o = some ((v, ()), ((c, a', ()), ())) ∧ a ≤ a' ∧ a' ≤ a + k
theorem Drew.ite {T : Type} {p : Prop} [Decidable p] {x y : Option ((T × Unit) × (List Int × Int × Unit) × Unit)} {c : List Int} {a k : Int} (hx : Drew x c a k) (hy : Drew y c a k) : Drew (if p then x else y) c a k := by split <;> assumption
theorem l7Ins_ok {c : List Int} (hc : Byt c) (a : Int) (ha : 0 ≤ a ∧ a ≤ 100000000) : Drew (T := InsD) (F_u ((c, a, ()), ())) c a 20 := by
 unfold F_u
 dsimp only
 rw [next_rx hc, Option.bind_some]
 dsimp only
 generalize IntKind.i64.wrap (1 + nextV _) = v1
 rw [next_rx hc, Option.bind_some]
 dsimp only
 generalize nextV _ = v2
 obtain ⟨v, e⟩ := l2Ins_ok hc (a + 1 + 1) (by omega)
 rw [e]
 repeat' (first
  | refine Drew.ite ?_ ?_
  | (rw [next_rx hc, Option.bind_some]; dsimp only)
  | (rw [pick_rx hc, Option.bind_some]; dsimp only)
  | exact ⟨_, _, rfl, by omega, by omega⟩
  | omega
  | (rw [Option.bind_some]; dsimp only))
theorem image_ok {c : List Int} (hc : Byt c) (n a : Int) (ha : 0 ≤ a ∧ a ≤ 10000000) (hn : n ≤ 1000) : ∃ (m : List Int) (a' : Int), F_x ((c, a, ()), n, ()) = some ((m, ()), ((c, a', ()), ())) ∧ (m.length : Int) = (if n < 0 then 0 else n) ∧ a ≤ a' ∧ a' ≤ a + 26 * (if n < 0 then 0 else n) := by
 have key : ∀ f (k : Nat) (m : List Int) (a : Int), k < f → k ≤ 1000 → 0 ≤ a ∧ a ≤ 100000000 - 26 * (k : Int) → m.length ≤ 1000 - k →
   ∃ (m' : List Int) (a' : Int), iterF l_x_2 f (((), (k : Int), m, ()), ((c, a, ()), ()), ()) = some (.inl ((m', ()), ((c, a', ()), ()), ())) ∧ m'.length = m.length + k ∧ a ≤ a' ∧ a' ≤ a + 26 * (k : Int) := by
  intro f
  induction f with
  | zero => intro k _ _ h; omega
  | succ f ih =>
   intro k m a hk hk2 ha hm
   simp only [iterF]
   generalize iterF l_x_2 f = rec at ih ⊢
   unfold l_x_2
   dsimp only
   by_cases h0 : 0 < k
   ·obtain ⟨x, a1, e1, g1, g2⟩ := l7Ins_ok hc a (by omega)
    obtain ⟨w, e2⟩ := encode_ok x
    rw [if_pos (by rw [ltI_t]; omega), e1, Option.bind_some, e2, Option.bind_some]
    dsimp only
    rw [chance_rx hc _ _ (by omega), Option.bind_some]
    dsimp only
    have ew : IntKind.i64.wrap ((k : Int) - 1) = ((k - 1 : Nat) : Int) := by rw [wrap64 (by omega) (by omega)]; omega
    rw [ew]
    split
    ·rw [word_rx hc _ (by omega), Option.bind_some]
     dsimp only
     rw [if_pos (by simp; omega)]
     obtain ⟨m', a', i1, i2, i3, i4⟩ := ih (k - 1) (m ++ [wordV ((c, a1 + 1, ()), ())]) (a1 + 1 + 5) (by omega) (by omega) (by omega) (by simp; omega)
     exact ⟨m', a', i1, by rw [i2]; simp; omega, by omega, by omega⟩
    ·rw [if_pos (by simp; omega)]
     obtain ⟨m', a', i1, i2, i3, i4⟩ := ih (k - 1) (m ++ [w.2.1]) (a1 + 1) (by omega) (by omega) (by omega) (by simp; omega)
     exact ⟨m', a', i1, by rw [i2]; simp; omega, by omega, by omega⟩
   ·have : k = 0 := by omega
    subst this
    rw [if_neg (by rw [ltI_t]; omega)]
    exact ⟨m, a, rfl, by omega, by omega, by omega⟩
 unfold F_x
 dsimp only
 by_cases h0 : n < 0
 ·have : L_x_2 (((), n, [], ()), ((c, a, ()), ()), ()) = some (.inl (([], ()), ((c, a, ()), ()), ())) := by
   show iterF l_x_2 lots _ = _
   rw [lots3, iter_s]
   unfold l_x_2
   dsimp only
   rw [if_neg (by rw [ltI_t]; omega)]
  rw [this, Option.bind_some, if_pos h0]
  exact ⟨[], a, rfl, rfl, by omega, by omega⟩
 ·obtain ⟨m', a', i1, i2, i3, i4⟩ := key lots n.toNat [] a (by rw [lots_eq]; omega) (by omega) (by omega) (by simp)
  have en : ((n.toNat : Nat) : Int) = n := by omega
  rw [en] at i1 i4
  rw [if_neg h0]
  show ∃ m a', (iterF l_x_2 lots (((), n, [], ()), ((c, a, ()), ()), ())).bind _ = _ ∧ _
  rw [i1, Option.bind_some]
  exact ⟨m', a', rfl, by rw [i2]; simp; omega, i3, i4⟩
/-- What is not right with an entry of a list of pages. -/
def pageF (top : Int) (p : TwoD) : Option Int := if inB p.1 (-1) (top - 1) = true then (if inB p.2.1 0 7 = true then (if p.1 = -1 then nz (if p.2.1 = 0 then 0 else 1) else none) else some 3) else some 3
def pagesM (l : List TwoD) (top : Int) : Int := if inB top 1 24 = true then (if l.length = 8 then (match scan (fun (_ : Nat) p => pageF top p) 0 l with | some c => c | none => 0) else 1) else 3
theorem specPagesF_eq (l : List TwoD) (top : Int) (hl : l.length ≤ 1048576) : F_cf (l, top, ()) = some ((pagesM l top, ()), ()) := by
 unfold F_cf pagesM
 dsimp only
 rw [l1In_eq2, Option.bind_some]
 dsimp only
 by_cases ht : inB top 1 24 = true
 case neg => rw [if_pos (by simpa using ht), if_neg ht]
 rw [if_neg (by simpa using ht), if_pos ht]
 by_cases h8 : l.length = 8
 case neg => rw [if_pos (by simp; omega), if_neg h8]
 rw [if_neg (by rw [h8]; decide), if_pos h8]
 have hb := inB_t.1 ht
 have key := scan_loop (step := l_cf_6) (γ := denO o_cf_6) (fun i => ((l, top, ((i : Nat) : Int), ()), (), ())) l (fun (_ : Nat) p => pageF top p) (fun c => some (.inr (.inl ((c, ()), (), ())))) (some (.inl ((), (), ()))) (leMax hl) ?_ ?_
 ·have e0 : ((0 : Nat) : Int) = 0 := rfl
  rw [e0] at key
  show (iterF l_cf_6 lots ((l, top, 0, ()), (), ())).bind _ = _
  rw [key]
  cases scan (fun (_ : Nat) p => pageF top p) 0 l <;> rfl
 ·intro rec i hi
  unfold l_cf_6
  dsimp only
  rw [if_pos (lt_t hi), if_pos nat0, at_get hi, wrap64 (n := top - 1) (by omega) (by omega), l1In_eq2, Option.bind_some, if_pos nat0, at_get hi, l1In_eq2, Option.bind_some, if_pos nat0, at_get hi, if_pos nat0, at_get hi, wrapS (lt1 hi hl)]
  dsimp only
  unfold pageF
  by_cases c1 : inB (l[i]).1 (-1) (top - 1) = true
  ·have g1 := inB_t.1 c1
   rw [if_pos (show (!inB (l[i]).1 (-1) (top - 1)) = false by rw [c1]; rfl), if_pos c1]
   by_cases c2 : inB (l[i]).2.1 0 7 = true
   ·rw [if_neg (by simpa using c2), if_pos c2]
    by_cases c3 : (l[i]).1 = -1
    ·rw [if_pos (ltI_t.2 (by omega)), if_pos c3]
     by_cases c4 : (l[i]).2.1 = 0
     ·rw [if_neg (by simpa using c4), if_pos c4]; rfl
     ·rw [if_pos (by simpa using c4), if_neg c4]; rfl
    ·rw [if_neg (by rw [ltI_t]; omega), if_neg c3]
   ·rw [if_pos (by simpa using c2), if_neg c2]
  ·rw [if_neg (by simpa using c1), if_neg c1]
 ·intro rec
  unfold l_cf_6
  dsimp only
  rw [if_neg lt_same]
theorem implPagesF_eq (l : List TwoD) (top : Int) (hl : l.length ≤ 1048576) : F_ai (l, top, ()) = some ((pagesM l top, ()), ()) := by
 unfold F_ai pagesM
 dsimp only
 rw [within_eq2, Option.bind_some]
 dsimp only
 by_cases ht : inB top 1 24 = true
 case neg => rw [if_pos (by simpa using ht), if_neg ht]
 rw [if_neg (by simpa using ht), if_pos ht]
 by_cases h8 : l.length = 8
 case neg => rw [if_pos (by simp; omega), if_neg h8]
 rw [if_neg (by rw [h8]; decide), if_pos h8]
 have hb := inB_t.1 ht
 have key := scan_loop (step := l_ai_6) (γ := denO o_ai_6) (fun i => ((top, l, ((l.length : Nat) : Int), ((i : Nat) : Int), ()), (), ())) l (fun (_ : Nat) p => pageF top p) (fun c => some (.inr (.inl ((c, ()), (), ())))) (some (.inl ((), (), ()))) (leMax hl) ?_ ?_
 ·have e0 : ((0 : Nat) : Int) = 0 := rfl
  rw [e0] at key
  show (iterF l_ai_6 lots ((top, l, ((l.length : Nat) : Int), 0, ()), (), ())).bind _ = _
  rw [key]
  cases scan (fun (_ : Nat) p => pageF top p) 0 l <;> rfl
 ·intro rec i hi
  unfold l_ai_6
  dsimp only
  rw [if_pos (lt_t hi), if_pos nat0, at_get hi, wrap64 (n := top - 1) (by omega) (by omega), within_eq2, Option.bind_some, within_eq2, Option.bind_some, wrapS (lt1 hi hl)]
  dsimp only
  unfold pageF
  by_cases c1 : inB (l[i]).1 (-1) (top - 1) = true
  ·have g1 := inB_t.1 c1
   rw [if_pos (show (!inB (l[i]).1 (-1) (top - 1)) = false by rw [c1]; rfl), if_pos c1]
   by_cases c2 : inB (l[i]).2.1 0 7 = true
   ·rw [if_neg (by simpa using c2), if_pos c2]
    by_cases c3 : (l[i]).1 = -1
    ·rw [if_pos (by simpa using c3), if_pos c3]
     by_cases c4 : (l[i]).2.1 = 0
     ·rw [if_neg (by simpa using c4), if_pos c4]; rfl
     ·rw [if_pos (by simpa using c4), if_neg c4]; rfl
    ·rw [if_neg (by simpa using c3), if_neg c3]
   ·rw [if_pos (by simpa using c2), if_neg c2]
  ·rw [if_neg (by simpa using c1), if_neg c1]
 ·intro rec
  unfold l_ai_6
  dsimp only
  rw [if_neg lt_same]
/-- A word. -/
def WW (n : Int) : Prop := 0 ≤ n ∧ n ≤ 4294967295
theorem mask32 (n : Int) : iand .i64 n 4294967295 = n % 4294967296 := by
 have h1 : (BitVec.ofInt 64 4294967295).toNat = 2 ^ 32 - 1 := by decide
 have key : (BitVec.ofInt 64 n &&& BitVec.ofInt 64 4294967295).toNat = (n % ((2 ^ 64 : Nat) : Int)).toNat % 2 ^ 32 := by
  rw [BitVec.toNat_and, BitVec.toNat_ofInt, h1, Nat.and_two_pow_sub_one_eq_mod]
 show IntKind.i64.wrap ((BitVec.ofInt 64 n &&& BitVec.ofInt 64 4294967295).toNat : Nat) = _
 rw [key, IntKind.wrap_i64]
 omega
theorem mask16 (n : Int) : iand .i64 n 65535 = n % 65536 := by
 have h1 : (BitVec.ofInt 64 65535).toNat = 2 ^ 16 - 1 := by decide
 have key : (BitVec.ofInt 64 n &&& BitVec.ofInt 64 65535).toNat = (n % ((2 ^ 64 : Nat) : Int)).toNat % 2 ^ 16 := by
  rw [BitVec.toNat_and, BitVec.toNat_ofInt, h1, Nat.and_two_pow_sub_one_eq_mod]
 show IntKind.i64.wrap ((BitVec.ofInt 64 n &&& BitVec.ofInt 64 65535).toNat : Nat) = _
 rw [key, IntKind.wrap_i64]
 omega
theorem mask4 (n : Int) : iand .i64 n 15 = n % 16 := by
 have h1 : (BitVec.ofInt 64 15).toNat = 2 ^ 4 - 1 := by decide
 have key : (BitVec.ofInt 64 n &&& BitVec.ofInt 64 15).toNat = (n % ((2 ^ 64 : Nat) : Int)).toNat % 2 ^ 4 := by
  rw [BitVec.toNat_and, BitVec.toNat_ofInt, h1, Nat.and_two_pow_sub_one_eq_mod]
 show IntKind.i64.wrap ((BitVec.ofInt 64 n &&& BitVec.ofInt 64 15).toNat : Nat) = _
 rw [key, IntKind.wrap_i64]
 omega
def wd (n : Int) : Int := n % 4294967296
theorem wd_word (n : Int) : WW (wd n) := by unfold wd WW; omega
theorem wd_same {n : Int} (h : WW n) : wd n = n := by unfold wd WW at *; omega
theorem wd_wd (n : Int) : wd (wd n) = wd n := wd_same (wd_word n)
theorem u32_wd (n : Int) : IntKind.u32.wrap n = wd n := by rw [IntKind.wrap_u32]; rfl
theorem i64_wd (n : Int) : IntKind.i64.wrap (wd n) = wd n := by rw [IntKind.wrap_i64]; unfold wd; omega
theorem i64_same {n : Int} (h0 : -9223372036854775808 ≤ n) (h1 : n ≤ 9223372036854775807) : IntKind.i64.wrap n = n := wrap64 h0 h1
theorem specWrap_e (n : Int) : F_k (n, ()) = some ((wd n, ()), ()) := by
 unfold F_k; simp only [u32_wd, i64_wd]
theorem specWrap_eq (x) : F_k x = some ((wd x.1, ()), ()) := specWrap_e x.1
theorem implWrap_e (n : Int) : F_bh (n, ()) = some ((wd n, ()), ()) := by
 unfold F_bh; simp only [mask32]; rfl
theorem implWrap_eq (x) : F_bh x = some ((wd x.1, ()), ()) := implWrap_e x.1
def sg (n : Int) : Int := if wd n < 2147483648 then wd n else wd n - 4294967296
theorem specSigned_e (n : Int) : F_dc (n, ()) = some ((sg n, ()), ()) := by
 unfold F_dc sg
 simp only [u32_wd]
 have h := wd_word n
 generalize wd n = w at *
 unfold WW at h
 have e : IntKind.i64.wrap (IntKind.i32.wrap w) = if w < 2147483648 then w else w - 4294967296 := by
  rw [IntKind.wrap_i64, IntKind.wrap_i32]
  split <;> omega
 rw [e]
theorem specSigned_eq (x) : F_dc x = some ((sg x.1, ()), ()) := specSigned_e x.1
theorem implSigned_e (n : Int) : F_bp (n, ()) = some ((sg n, ()), ()) := by
 unfold F_bp sg
 simp only [implWrap_eq, Option.bind_some]
 have h := wd_word n
 generalize wd n = w at *
 unfold WW at h
 by_cases hw : w < 2147483648
 ·rw [if_pos (ltI_t.2 hw), if_pos hw]
 ·rw [if_neg (by rw [ltI_t]; exact hw), if_neg hw, i64_same (n := w - 4294967295) (by omega) (by omega), i64_same (n := w - 4294967295 - 1) (by omega) (by omega), show w - 4294967295 - 1 = w - 4294967296 by omega]
theorem implSigned_eq (x) : F_bp x = some ((sg x.1, ()), ()) := implSigned_e x.1
theorem sg_le (n : Int) : -2147483648 ≤ sg n ∧ sg n ≤ 2147483647 := by
 unfold sg; have := wd_word n; unfold WW at this; split <;> omega
theorem sg_zero (n : Int) : sg n = 0 ↔ wd n = 0 := by
 unfold sg; have := wd_word n; unfold WW at this; split <;> omega
def addW (a b : Int) : Int := wd (a + b)
theorem specAdd_e (a b : Int) : F_cw (a, b, ()) = some ((addW a b, ()), ()) := by
 unfold F_cw addW
 simp only [u32_wd, i64_wd, show wd (wd a + wd b) = wd (a + b) by unfold wd; omega]
theorem specAdd_eq (x) : F_cw x = some ((addW x.1 x.2.1, ()), ()) := specAdd_e x.1 x.2.1
theorem implAdd_e (a b : Int) : F_bi (a, b, ()) = some ((addW a b, ()), ()) := by
 unfold F_bi addW
 simp only [implWrap_eq, Option.bind_some]
 have ha := wd_word a; have hb := wd_word b
 unfold WW at ha hb
 rw [i64_same (by omega) (by omega), show wd (wd a + wd b) = wd (a + b) by unfold wd; omega]
theorem implAdd_eq (x) : F_bi x = some ((addW x.1 x.2.1, ()), ()) := implAdd_e x.1 x.2.1
theorem addW_word (a b : Int) : WW (addW a b) := wd_word _
theorem wrap_i16 (n : Int) : IntKind.i16.wrap n = (n + 32768) % 65536 - 32768 := by
 simp only [IntKind.wrap, IntKind.bits, IntKind.signed, Bool.true_and, ge_iff_le, decide_eq_true_eq, Int.reducePow, Nat.reduceSub]
 split <;> omega
def off (n : Int) : Int := if 32768 ≤ n % 65536 then n % 65536 - 65536 else n % 65536
theorem specOff_e (n : Int) : F_cx (n, ()) = some ((off n, ()), ()) := by
 unfold F_cx off
 have e : IntKind.i64.wrap (IntKind.i16.wrap (IntKind.u16.wrap n)) = if 32768 ≤ n % 65536 then n % 65536 - 65536 else n % 65536 := by
  rw [IntKind.wrap_i64, wrap_i16, IntKind.wrap_u16]
  split <;> omega
 simp only [e]
theorem implOff_e (n : Int) : F_bj (n, ()) = some ((off n, ()), ()) := by
 unfold F_bj off
 simp only [mask16]
 by_cases h : 32768 ≤ n % 65536
 ·rw [if_pos (leI_t.2 h), if_pos h, i64_same (by omega) (by omega)]
 ·rw [if_neg (by rw [leI_t]; exact h), if_neg h]
def mulW (a b : Int) : Int := wd (wd a * wd b)
theorem specMul_e (a b : Int) : F_dg (a, b, ()) = some ((mulW a b, ()), ()) := by
 unfold F_dg mulW; simp only [u32_wd, i64_wd]
theorem specMul_eq (x) : F_dg x = some ((mulW x.1 x.2.1, ()), ()) := specMul_e x.1 x.2.1
theorem implMul_e (a b : Int) : F_bs (a, b, ()) = some ((mulW a b, ()), ()) := by
 unfold F_bs mulW; simp only [u32_wd, i64_wd]
theorem implMul_eq (x) : F_bs x = some ((mulW x.1 x.2.1, ()), ()) := implMul_e x.1 x.2.1
theorem tdiv_le (a b : Int) (h : -2147483648 ≤ a ∧ a ≤ 2147483647) : -2147483648 ≤ a.tdiv b ∧ a.tdiv b ≤ 2147483648 := by
 have h1 : (a.tdiv b).natAbs = a.natAbs / b.natAbs := Int.natAbs_tdiv a b
 have h2 : a.natAbs / b.natAbs ≤ a.natAbs := Nat.div_le_self _ _
 omega
def divW (a b : Int) : Int := if wd b = 0 then 4294967295 else wd ((sg a).tdiv (sg b))
theorem specDiv_e (a b : Int) : F_dh (a, b, ()) = some ((divW a b, ()), ()) := by
 unfold F_dh divW
 simp only [specWrap_eq, specSigned_eq, Option.bind_some]
 by_cases h : wd b = 0
 ·rw [if_pos (by simpa using h), if_pos h]
 ·have hs : ¬ sg b = 0 := fun e => h ((sg_zero b).1 e)
  have := tdiv_le (sg a) (sg b) (sg_le a)
  rw [if_neg (by simpa using h), if_neg h, if_neg hs, i64_same (by omega) (by omega)]
theorem specDiv_eq (x) : F_dh x = some ((divW x.1 x.2.1, ()), ()) := specDiv_e x.1 x.2.1
theorem implDiv_e (a b : Int) : F_bt (a, b, ()) = some ((divW a b, ()), ()) := by
 unfold F_bt divW
 simp only [implWrap_eq, implSigned_eq, Option.bind_some]
 by_cases h : wd b = 0
 ·rw [if_pos (by simpa using (sg_zero b).2 h), if_pos h]
 ·have hs : ¬ sg b = 0 := fun e => h ((sg_zero b).1 e)
  have := tdiv_le (sg a) (sg b) (sg_le a)
  rw [if_neg (by simpa using hs), if_neg h, if_neg hs, i64_same (by omega) (by omega)]
theorem implDiv_eq (x) : F_bt x = some ((divW x.1 x.2.1, ()), ()) := implDiv_e x.1 x.2.1
def remW (a b : Int) : Int := if wd b = 0 then wd a else wd ((sg a).tmod (sg b))
theorem specRem_e (a b : Int) : F_di (a, b, ()) = some ((remW a b, ()), ()) := by
 unfold F_di remW
 simp only [specWrap_eq, specSigned_eq, Option.bind_some]
 by_cases h : wd b = 0
 ·rw [if_pos (by simpa using h), if_pos h]
 ·have hs : ¬ sg b = 0 := fun e => h ((sg_zero b).1 e)
  rw [if_neg (by simpa using h), if_neg h, if_neg hs]
theorem specRem_eq (x) : F_di x = some ((remW x.1 x.2.1, ()), ()) := specRem_e x.1 x.2.1
theorem implRem_e (a b : Int) : F_bu (a, b, ()) = some ((remW a b, ()), ()) := by
 unfold F_bu remW
 simp only [implWrap_eq, implSigned_eq, Option.bind_some]
 by_cases h : wd b = 0
 ·rw [if_pos (by simpa using (sg_zero b).2 h), if_pos h]
 ·have hs : ¬ sg b = 0 := fun e => h ((sg_zero b).1 e)
  rw [if_neg (by simpa using hs), if_neg h, if_neg hs]
theorem implRem_eq (x) : F_bu x = some ((remW x.1 x.2.1, ()), ()) := implRem_e x.1 x.2.1
theorem wd_nat (n : Int) : ∃ k : Nat, wd n = (k : Int) ∧ k < 4294967296 := ⟨(wd n).toNat, by have := wd_word n; unfold WW at this; omega, by have := wd_word n; unfold WW at this; omega⟩
theorem ofInt32 {k : Nat} (h : k < 4294967296) : (BitVec.ofInt 32 (k : Int)).toNat = k := by
 rw [BitVec.ofInt_natCast, BitVec.toNat_ofNat]; exact Nat.mod_eq_of_lt (by omega)
theorem ofInt64 {k : Nat} (h : k < 4294967296) : (BitVec.ofInt 64 (k : Int)).toNat = k := by
 rw [BitVec.ofInt_natCast, BitVec.toNat_ofNat]; exact Nat.mod_eq_of_lt (by omega)
/-- The bits of two words. -/
def bitN (op : Int) (a b : Nat) : Nat := if op = 1 then a &&& b else if op = 2 then a ||| b else a ^^^ b
def bitW (op a b : Int) : Int := (bitN op (wd a).toNat (wd b).toNat : Int)
theorem bitN_lt (op : Int) {a b : Nat} (ha : a < 4294967296) (hb : b < 4294967296) : bitN op a b < 4294967296 := by
 unfold bitN
 split
 ·exact Nat.and_lt_two_pow (n := 32) _ (by omega)
 ·split
  ·exact Nat.or_lt_two_pow (n := 32) (by omega) (by omega)
  ·exact Nat.xor_lt_two_pow (n := 32) (by omega) (by omega)
theorem bitW_word (op a b : Int) : WW (bitW op a b) := by
 obtain ⟨x, hx, hx2⟩ := wd_nat a
 obtain ⟨y, hy, hy2⟩ := wd_nat b
 unfold bitW WW
 rw [hx, hy]
 have := bitN_lt op hx2 hy2
 simp only [Int.toNat_natCast]
 omega
theorem specBit_e (op a b : Int) (h : op = 1 ∨ op = 2 ∨ op = 3) : F_dj (op, a, b, ()) = some (((0, bitW op a b, ()), ()), ()) := by
 unfold F_dj bitW
 simp only [u32_wd]
 obtain ⟨x, hx, hx2⟩ := wd_nat a
 obtain ⟨y, hy, hy2⟩ := wd_nat b
 rw [hx, hy]
 simp only [Int.toNat_natCast]
 have hlt := bitN_lt op hx2 hy2
 rcases h with rfl | rfl | rfl
 ·rw [if_pos (by decide)]
  show some (((0, IntKind.i64.wrap (IntKind.u32.wrap ((BitVec.ofInt 32 (x : Int) &&& BitVec.ofInt 32 (y : Int)).toNat : Int)), ()), ()), ()) = _
  have : bitN 1 x y = x &&& y := rfl
  rw [BitVec.toNat_and, ofInt32 hx2, ofInt32 hy2, ← this, u32_wd, i64_wd, wd_same (by unfold WW; omega)]
 ·rw [if_neg (by decide), if_pos (by decide)]
  show some (((0, IntKind.i64.wrap (IntKind.u32.wrap ((BitVec.ofInt 32 (x : Int) ||| BitVec.ofInt 32 (y : Int)).toNat : Int)), ()), ()), ()) = _
  have : bitN 2 x y = x ||| y := rfl
  rw [BitVec.toNat_or, ofInt32 hx2, ofInt32 hy2, ← this, u32_wd, i64_wd, wd_same (by unfold WW; omega)]
 ·rw [if_neg (by decide), if_neg (by decide), if_pos (by decide)]
  show some (((0, IntKind.i64.wrap (IntKind.u32.wrap ((BitVec.ofInt 32 (x : Int) ^^^ BitVec.ofInt 32 (y : Int)).toNat : Int)), ()), ()), ()) = _
  have : bitN 3 x y = x ^^^ y := rfl
  rw [BitVec.toNat_xor, ofInt32 hx2, ofInt32 hy2, ← this, u32_wd, i64_wd, wd_same (by unfold WW; omega)]
theorem implBit_e (op a b : Int) (h : op = 1 ∨ op = 2 ∨ op = 3) : F_bv (op, a, b, ()) = some (((0, bitW op a b, ()), ()), ()) := by
 unfold F_bv bitW
 simp only [implWrap_eq, Option.bind_some]
 obtain ⟨x, hx, hx2⟩ := wd_nat a
 obtain ⟨y, hy, hy2⟩ := wd_nat b
 rw [hx, hy]
 simp only [Int.toNat_natCast]
 have hlt := bitN_lt op hx2 hy2
 rcases h with rfl | rfl | rfl
 ·rw [if_pos (by decide)]
  show some (((0, IntKind.i64.wrap ((BitVec.ofInt 64 (x : Int) &&& BitVec.ofInt 64 (y : Int)).toNat : Int), ()), ()), ()) = _
  have : bitN 1 x y = x &&& y := rfl
  rw [BitVec.toNat_and, ofInt64 hx2, ofInt64 hy2, ← this, i64_same (by omega) (by omega)]
 ·rw [if_neg (by decide), if_pos (by decide)]
  show some (((0, IntKind.i64.wrap ((BitVec.ofInt 64 (x : Int) ||| BitVec.ofInt 64 (y : Int)).toNat : Int), ()), ()), ()) = _
  have : bitN 2 x y = x ||| y := rfl
  rw [BitVec.toNat_or, ofInt64 hx2, ofInt64 hy2, ← this, i64_same (by omega) (by omega)]
 ·rw [if_neg (by decide), if_neg (by decide), if_pos (by decide)]
  show some (((0, IntKind.i64.wrap ((BitVec.ofInt 64 (x : Int) ^^^ BitVec.ofInt 64 (y : Int)).toNat : Int), ()), ()), ()) = _
  have : bitN 3 x y = x ^^^ y := rfl
  rw [BitVec.toNat_xor, ofInt64 hx2, ofInt64 hy2, ← this, i64_same (by omega) (by omega)]
def shW (a b : Int) (left : Bool) : Int := if left = true then wd (wd a * 2 ^ (wd b % 32).toNat) else wd a / 2 ^ (wd b % 32).toNat
theorem shr_word {a : Int} (h : WW a) (k : Nat) : WW (a / 2 ^ k) := by
 unfold WW at *
 have h2 : (0 : Int) < 2 ^ k := Int.pow_pos (by omega)
 exact ⟨Int.ediv_nonneg h.1 (by omega), Int.le_trans (Int.ediv_le_self _ h.1) h.2⟩
theorem shW_word (a b : Int) (l : Bool) : WW (shW a b l) := by
 unfold shW; split
 ·exact wd_word _
 ·exact shr_word (wd_word a) _
theorem pow_le32 {k : Nat} (h : k < 32) : (2 : Int) ^ k ≤ 2147483648 := by
 have : (2 : Nat) ^ k ≤ 2 ^ 31 := Nat.pow_le_pow_right (by omega) (by omega)
 have h2 : ((2 ^ k : Nat) : Int) ≤ ((2 ^ 31 : Nat) : Int) := Int.ofNat_le.2 this
 simpa using h2
theorem tmod32 {w : Int} (h : WW w) : w.tmod 32 = w % 32 := Int.tmod_eq_emod_of_nonneg h.1
theorem fdiv_pow {a : Int} (h : 0 ≤ a) (k : Nat) : a.fdiv (2 ^ k) = a / 2 ^ k := Int.fdiv_eq_ediv_of_nonneg _ (Int.le_of_lt (Int.pow_pos (by omega)))
theorem specShift_e (a b : Int) (l : Bool) : F_dk (a, b, l, ()) = some ((shW a b l, ()), ()) := by
 unfold F_dk shW
 simp only [u32_wd, tmod32 (wd_word b)]
 have hw := wd_word a
 have hb : 0 ≤ wd b % 32 ∧ wd b % 32 < 32 := by omega
 have e : IntKind.u64.wrap (wd b % 32) = wd b % 32 := by rw [IntKind.wrap_u64]; omega
 have e2 : min (wd b % 32).toNat 32 = (wd b % 32).toNat := by omega
 rw [e, e2]
 cases l
 ·rw [if_neg (by decide), if_neg (by omega), if_neg (by decide), fdiv_pow hw.1]
  have := shr_word hw (wd b % 32).toNat
  unfold WW at this
  rw [i64_same (by omega) (by omega)]
 ·rw [if_pos rfl, if_neg (by omega), if_pos rfl, i64_wd]
theorem specShift_eq (x) : F_dk x = some ((shW x.1 x.2.1 x.2.2.1, ()), ()) := specShift_e x.1 x.2.1 x.2.2.1
theorem implShift_e (a b : Int) (l : Bool) : F_bw (a, b, l, ()) = some ((shW a b l, ()), ()) := by
 unfold F_bw shW
 simp only [implWrap_eq, Option.bind_some, tmod32 (wd_word b)]
 have hw := wd_word a
 have hb : 0 ≤ wd b % 32 ∧ wd b % 32 < 32 := by omega
 have e2 : min (wd b % 32).toNat 64 = (wd b % 32).toNat := by omega
 rw [e2]
 cases l
 ·rw [if_neg (by decide), if_neg (by omega), if_neg (by decide), fdiv_pow hw.1]
 ·rw [if_pos rfl, if_neg (by omega), if_pos rfl]
  have h1 := pow_le32 (k := (wd b % 32).toNat) (by omega)
  have h0 : (0 : Int) < 2 ^ (wd b % 32).toNat := Int.pow_pos (by omega)
  unfold WW at hw
  generalize (2 : Int) ^ (wd b % 32).toNat = p at *
  have q0 : 0 ≤ wd a * p := Int.mul_nonneg hw.1 (by omega)
  have q1 : wd a * p ≤ 4294967295 * 2147483648 := Int.mul_le_mul hw.2 h1 (by omega) (by omega)
  rw [i64_same (by omega) (by omega)]
theorem implShift_eq (x) : F_bw x = some ((shW x.1 x.2.1 x.2.2.1, ()), ()) := implShift_e x.1 x.2.1 x.2.2.1
/-- What an op makes of two words. -/
def aluW (op a b : Int) : Int :=
 if op = 1 then addW a b else if op = 2 then wd (wd a - wd b) else if op = 3 then mulW a b else if op = 4 then divW a b else if op = 5 then remW a b
 else if op = 6 then bitW 1 a b else if op = 7 then bitW 2 a b else if op = 8 then bitW 3 a b else if op = 9 then shW a b true else if op = 10 then shW a b false
 else if sg a < sg b then 1 else 0
theorem aluW_word (op a b : Int) : WW (aluW op a b) := by
 unfold aluW
 have hd : WW (divW a b) := by unfold divW; split; unfold WW; omega; exact wd_word _
 have hr : WW (remW a b) := by unfold remW; split <;> exact wd_word _
 repeat' split
 all_goals first | exact addW_word _ _ | exact wd_word _ | exact hd | exact hr | exact bitW_word _ _ _ | exact shW_word _ _ _ | (unfold WW; omega)
theorem specAlu_e (op a b : Int) : F_dl (op, a, b, ()) = some ((aluW op a b, ()), ()) := by
 unfold F_dl aluW
 simp only [specAdd_eq, specMul_eq, specDiv_eq, specRem_eq, specShift_eq, specSigned_eq, Option.bind_some, u32_wd, i64_wd]
 by_cases h1 : op = 1
 ·subst h1; rfl
 rw [if_neg (by simpa using h1), if_neg h1]
 by_cases h2 : op = 2
 ·subst h2; rfl
 rw [if_neg (by simpa using h2), if_neg h2]
 by_cases h3 : op = 3
 ·subst h3; rfl
 rw [if_neg (by simpa using h3), if_neg h3]
 by_cases h4 : op = 4
 ·subst h4; rfl
 rw [if_neg (by simpa using h4), if_neg h4]
 by_cases h5 : op = 5
 ·subst h5; rfl
 rw [if_neg (by simpa using h5), if_neg h5]
 by_cases h6 : op = 6
 ·subst h6
  rw [if_pos (by decide), if_pos rfl, show IntKind.i64.wrap (IntKind.i64.wrap ((6 : Int) - 6) + 1) = 1 from by decide +kernel, specBit_e 1 a b (by omega)]; rfl
 rw [if_neg (by simpa using h6), if_neg h6]
 by_cases h7 : op = 7
 ·subst h7
  rw [if_pos (by decide), if_pos rfl, show IntKind.i64.wrap (IntKind.i64.wrap ((7 : Int) - 6) + 1) = 2 from by decide +kernel, specBit_e 2 a b (by omega)]; rfl
 rw [if_neg (by simpa using h7), if_neg h7]
 by_cases h8 : op = 8
 ·subst h8
  rw [if_pos (by decide), if_pos rfl, show IntKind.i64.wrap (IntKind.i64.wrap ((8 : Int) - 6) + 1) = 3 from by decide +kernel, specBit_e 3 a b (by omega)]; rfl
 rw [if_neg (by simpa using h8), if_neg h8]
 by_cases h9 : op = 9
 ·subst h9; rfl
 rw [if_neg (by simpa using h9), if_neg h9]
 by_cases h10 : op = 10
 ·subst h10; rfl
 rw [if_neg (by simpa using h10), if_neg h10]
 by_cases h : sg a < sg b
 ·rw [if_pos (ltI_t.2 h), if_pos h]
 ·rw [if_neg (by rw [ltI_t]; exact h), if_neg h]
theorem implAlu_e (op a b : Int) (ha : WW a) (hb : WW b) (h : 1 ≤ op ∧ op ≤ 11) : F_bx (op, a, b, ()) = some (((0, aluW op a b, ()), ()), ()) := by
 unfold F_bx aluW
 simp only [implWrap_eq, Option.bind_some, wd_same ha, wd_same hb, implAdd_eq, implMul_eq, implDiv_eq, implRem_eq, implShift_eq, implSigned_eq]
 by_cases h1 : op = 1
 ·subst h1; rfl
 rw [if_neg (by simpa using h1), if_neg h1]
 by_cases h2 : op = 2
 ·subst h2
  unfold WW at ha hb
  rw [if_pos (by decide), if_pos rfl, i64_same (by omega) (by omega)]
 rw [if_neg (by simpa using h2), if_neg h2]
 by_cases h3 : op = 3
 ·subst h3; rfl
 rw [if_neg (by simpa using h3), if_neg h3]
 by_cases h4 : op = 4
 ·subst h4; rfl
 rw [if_neg (by simpa using h4), if_neg h4]
 by_cases h5 : op = 5
 ·subst h5; rfl
 rw [if_neg (by simpa using h5), if_neg h5]
 by_cases h6 : op = 6
 ·subst h6
  rw [if_pos (by decide), if_pos rfl, show IntKind.i64.wrap (IntKind.i64.wrap ((6 : Int) - 6) + 1) = 1 from by decide +kernel, implBit_e 1 a b (by omega)]; rfl
 rw [if_neg (by simpa using h6), if_neg h6]
 by_cases h7 : op = 7
 ·subst h7
  rw [if_pos (by decide), if_pos rfl, show IntKind.i64.wrap (IntKind.i64.wrap ((7 : Int) - 6) + 1) = 2 from by decide +kernel, implBit_e 2 a b (by omega)]; rfl
 rw [if_neg (by simpa using h7), if_neg h7]
 by_cases h8 : op = 8
 ·subst h8
  rw [if_pos (by decide), if_pos rfl, show IntKind.i64.wrap (IntKind.i64.wrap ((8 : Int) - 6) + 1) = 3 from by decide +kernel, implBit_e 3 a b (by omega)]; rfl
 rw [if_neg (by simpa using h8), if_neg h8]
 by_cases h9 : op = 9
 ·subst h9; rfl
 rw [if_neg (by simpa using h9), if_neg h9]
 by_cases h10 : op = 10
 ·subst h10; rfl
 rw [if_neg (by simpa using h10), if_neg h10, if_pos (by simpa using (show op = 11 by omega))]
 by_cases h : sg a < sg b
 ·rw [if_pos (ltI_t.2 h), if_pos h]
 ·rw [if_neg (by rw [ltI_t]; exact h), if_neg h]
structure OkC (cs : List Int) : Prop where
 len : cs.length = 11
 words : ∀ w ∈ cs, WW w
 st : cs.getD 0 0 ≤ 3
 msk : cs.getD 7 0 ≤ 7
 tb : cs.getD 10 0 ≤ 8
 pd : cs.getD 6 0 = 0
 tm : cs.getD 8 0 = 0
structure OkR (r : List Int) : Prop where
 len : r.length = 16
 words : ∀ w ∈ r, WW w
 zero : r.getD 0 0 = 0
structure OkQ (q : List Int) : Prop where
 len : q.length ≤ 40
 words : ∀ w ∈ q, WW w
structure OkL (l : List TwoD) (m : List Int) : Prop where
 len : l.length = 8
 pgs : ∀ p ∈ l, (-1 ≤ p.1 ∧ p.1 ≤ 23) ∧ (0 ≤ p.2.1 ∧ p.2.1 ≤ 7) ∧ 8 * p.1 + 8 ≤ (m.length : Int)
 words : ∀ w ∈ m, WW w
 mlen : m.length ≤ 192
theorem getD_mem {α : Type} {l : List α} {k : Nat} {d : α} (h : k < l.length) : l.getD k d ∈ l := by
 rw [List.getD_eq_getElem?_getD, List.getElem?_eq_getElem h]; exact List.getElem_mem h
theorem get_at {α : Type} {l : List α} {k : Nat} (d : α) (h : k < l.length) : l[k]? = some (l.getD k d) := by
 rw [List.getD_eq_getElem?_getD, List.getElem?_eq_getElem h]; rfl
theorem get_bind {α γ : Type} {l : List α} {i : Int} (d : α) (h : i.toNat < l.length) (K : α → Option γ) : (l[i.toNat]?).bind K = K (l.getD i.toNat d) := by
 rw [get_at d h]; rfl
theorem OkC.w {cs : List Int} (h : OkC cs) {k : Nat} (hk : k < 11) : WW (cs.getD k 0) := h.words _ (getD_mem (by rw [h.len]; exact hk))
theorem OkR.w {cs : List Int} (h : OkR cs) {k : Nat} (hk : k < 16) : WW (cs.getD k 0) := h.words _ (getD_mem (by rw [h.len]; exact hk))
def pendM (cs : List Int) (ru : Bool) (dn : Int) (iq : List Int) : Int :=
 (if cs.getD 9 0 ≠ 0 ∧ cs.getD 9 0 ≤ dn then 1 else 0) + (if ru = true then 2 else 0) + (if 0 < iq.length then 4 else 0)
theorem pendM_le (cs : List Int) (ru : Bool) (dn : Int) (iq : List Int) : 0 ≤ pendM cs ru dn iq ∧ pendM cs ru dn iq ≤ 7 := by
 unfold pendM; repeat' split
 all_goals omega
section
variable {r cs iq oq : List Int} {pc dn : Int} {ha wa ru : Bool}
theorem specPend_e (hc : OkC cs) : F_cl ((r, pc, cs, ha, wa, ru, dn, iq, oq, ()), ()) = some ((pendM cs ru dn iq, ()), ()) := by
 unfold F_cl pendM
 dsimp only
 have e3 : ltI 0 ((iq.length : Nat) : Int) = decide (0 < iq.length) := by
  have := ltN (a := 0) (b := iq.length)
  simpa using this
 rw [get_bind 0 (by rw [hc.len]; decide)]
 simp only [e3, show ((9 : Int)).toNat = 9 from rfl, get_at (l := cs) (k := 9) 0 (by rw [hc.len]; decide), Option.bind_some]
 generalize cs.getD 9 0 = a
 by_cases h1 : a = 0
 ·cases ru <;> by_cases h3 : 0 < iq.length <;> simp [h1, h3]
 ·by_cases h2 : a ≤ dn <;> cases ru <;> by_cases h3 : 0 < iq.length <;> simp [h1, h2, h3, leI_eq]
theorem implPend_e (hc : OkC cs) : F_ar ((r, pc, cs, ha, wa, ru, dn, iq, oq, ()), ()) = some ((pendM cs ru dn iq, ()), ()) := by
 have o1 : ior .i64 0 1 = 1 := by decide +kernel
 have o2 : ior .i64 1 2 = 3 := by decide +kernel
 have o3 : ior .i64 3 4 = 7 := by decide +kernel
 have o4 : ior .i64 1 4 = 5 := by decide +kernel
 have o5 : ior .i64 0 2 = 2 := by decide +kernel
 have o6 : ior .i64 2 4 = 6 := by decide +kernel
 have o7 : ior .i64 0 4 = 4 := by decide +kernel
 unfold F_ar pendM
 dsimp only
 have e3 : ltI 0 ((iq.length : Nat) : Int) = decide (0 < iq.length) := by
  have := ltN (a := 0) (b := iq.length)
  simpa using this
 rw [get_bind 0 (by rw [hc.len]; decide)]
 simp only [e3, show ((9 : Int)).toNat = 9 from rfl, get_at (l := cs) (k := 9) 0 (by rw [hc.len]; decide), Option.bind_some, o1, o2, o3, o4, o5, o6, o7]
 generalize cs.getD 9 0 = a
 by_cases h1 : a = 0
 ·cases ru <;> by_cases h3 : 0 < iq.length <;> simp [h1, h3]
 ·by_cases h2 : a ≤ dn <;> cases ru <;> by_cases h3 : 0 < iq.length <;> simp [h1, h2, h3, leI_eq]
/-- The lowest of three bits. -/
def lowB (v : Int) : Int := if v % 2 = 1 then 0 else if v / 2 % 2 = 1 then 1 else if v / 4 % 2 = 1 then 2 else -1
def dueM (cs : List Int) (ru : Bool) (dn : Int) (iq : List Int) : Int := if cs.getD 0 0 % 2 = 0 then -1 else lowB (iand .i64 (pendM cs ru dn iq) (cs.getD 7 0))
theorem and_small : ∀ p : Fin 8, ∀ m : Fin 8, 0 ≤ iand .i64 ((p.val : Nat) : Int) ((m.val : Nat) : Int) ∧ iand .i64 ((p.val : Nat) : Int) ((m.val : Nat) : Int) ≤ 7 := by decide +kernel
theorem and_le7 {p m : Int} (h : 0 ≤ p ∧ p ≤ 7) (h2 : 0 ≤ m ∧ m ≤ 7) : 0 ≤ iand .i64 p m ∧ iand .i64 p m ≤ 7 := by
 have := and_small ⟨p.toNat, by omega⟩ ⟨m.toNat, by omega⟩
 simp only [show ((p.toNat : Nat) : Int) = p from by omega, show ((m.toNat : Nat) : Int) = m from by omega] at this
 exact this
def lowT (v : Int) : Option (denO o_cm_5) := if lowB v = -1 then some (.inl ((), ((), ()))) else some (.inr (.inl ((lowB v, ()), ((), ()))))
theorem low0 : L_cm_5 (((0 : Int), (0, ())), ((), ())) = lowT 0 := by kernel_rfl
theorem low1 : L_cm_5 (((1 : Int), (0, ())), ((), ())) = lowT 1 := by kernel_rfl
theorem low2 : L_cm_5 (((2 : Int), (0, ())), ((), ())) = lowT 2 := by kernel_rfl
theorem low3 : L_cm_5 (((3 : Int), (0, ())), ((), ())) = lowT 3 := by kernel_rfl
theorem low4 : L_cm_5 (((4 : Int), (0, ())), ((), ())) = lowT 4 := by kernel_rfl
theorem low5 : L_cm_5 (((5 : Int), (0, ())), ((), ())) = lowT 5 := by kernel_rfl
theorem low6 : L_cm_5 (((6 : Int), (0, ())), ((), ())) = lowT 6 := by kernel_rfl
theorem low7 : L_cm_5 (((7 : Int), (0, ())), ((), ())) = lowT 7 := by kernel_rfl
theorem lowSpec {v : Int} (h : 0 ≤ v ∧ v ≤ 7) : L_cm_5 ((v, (0, ())), ((), ())) = lowT v := by
 have : v = 0 ∨ v = 1 ∨ v = 2 ∨ v = 3 ∨ v = 4 ∨ v = 5 ∨ v = 6 ∨ v = 7 := by omega
 rcases this with rfl | rfl | rfl | rfl | rfl | rfl | rfl | rfl
 ·exact low0
 ·exact low1
 ·exact low2
 ·exact low3
 ·exact low4
 ·exact low5
 ·exact low6
 ·exact low7
theorem lowImpl : ∀ v : Fin 8, v.val ≠ 0 → tzF (IntKind.u64.wrap ((v.val : Nat) : Int)) = some (lowB ((v.val : Nat) : Int)) ∧ lowB ((v.val : Nat) : Int) ≠ -1 := by decide +kernel
theorem lowB_le (v : Int) : -1 ≤ lowB v ∧ lowB v ≤ 2 := by
 unfold lowB; repeat' split
 all_goals omega
theorem specDue_e (hc : OkC cs) : F_cm ((r, pc, cs, ha, wa, ru, dn, iq, oq, ()), ()) = some ((dueM cs ru dn iq, ()), ()) := by
 unfold F_cm dueM
 dsimp only
 rw [specPend_e hc, Option.bind_some]
 dsimp only
 rw [get_bind 0 (by rw [hc.len]; decide), get_bind 0 (by rw [hc.len]; decide)]
 have hst := hc.w (k := 0) (by decide)
 have hmk := hc.w (k := 7) (by decide)
 have hmk2 := hc.msk
 have hb := and_le7 (pendM_le cs ru dn iq) ⟨hmk.1, hmk2⟩
 simp only [show ((7 : Int)).toNat = 7 from rfl, show ((0 : Int)).toNat = 0 from rfl, Int.tmod_eq_emod_of_nonneg hst.1]
 generalize iand .i64 (pendM cs ru dn iq) (cs.getD 7 0) = v at *
 by_cases h : cs.getD 0 0 % 2 = 0
 ·rw [if_pos (by simpa using h), if_pos h]
 ·rw [if_neg (by simpa using h), if_neg h]
  rw [lowSpec hb]
  unfold lowT
  by_cases hl : lowB v = -1
  ·rw [if_pos hl, hl]; rfl
  ·rw [if_neg hl]; rfl
theorem implDue_e (hc : OkC cs) : F_at ((r, pc, cs, ha, wa, ru, dn, iq, oq, ()), ()) = some ((dueM cs ru dn iq, ()), ()) := by
 unfold F_at dueM
 dsimp only
 rw [implPend_e hc, Option.bind_some]
 dsimp only
 rw [get_bind 0 (by rw [hc.len]; decide), get_bind 0 (by rw [hc.len]; decide)]
 have hst := hc.w (k := 0) (by decide)
 have hmk := hc.w (k := 7) (by decide)
 have hmk2 := hc.msk
 have hb := and_le7 (pendM_le cs ru dn iq) ⟨hmk.1, hmk2⟩
 simp only [show ((7 : Int)).toNat = 7 from rfl, show ((0 : Int)).toNat = 0 from rfl, Int.tmod_eq_emod_of_nonneg hst.1]
 generalize iand .i64 (pendM cs ru dn iq) (cs.getD 7 0) = v at *
 by_cases h : cs.getD 0 0 % 2 = 0
 ·rw [if_neg (by simpa using h), if_pos h]
 ·rw [if_pos (by simpa using h), if_neg h]
  by_cases hv : v = 0
  ·subst hv; rfl
  ·rw [if_neg (by simpa using hv)]
   have := lowImpl ⟨v.toNat, by omega⟩ (by simp only; omega)
   simp only [show ((v.toNat : Nat) : Int) = v from by omega] at this
   unfold F_as
   dsimp only
   rw [this.1]
   rfl
def trapC (cs : List Int) (pc cause tval : Int) : List Int := (((cs.set 2 pc).set 3 cause).set 4 tval).set 0 (cs.getD 0 0 % 2 * 2)
theorem getD_set_ne {l : List Int} {i j : Nat} {y d : Int} (h : i ≠ j) : (l.set i y).getD j d = l.getD j d := by
 simp [List.getD_eq_getElem?_getD, List.getElem?_set_ne h]
theorem getD_set_eq {l : List Int} {i : Nat} {y d : Int} (h : i < l.length) : (l.set i y).getD i d = y := by
 simp [List.getD_eq_getElem?_getD, List.getElem?_set_self h]
theorem OkC.set {cs : List Int} (h : OkC cs) {k : Nat} {w : Int} (hw : WW w) (hk : k ≠ 6 ∧ k ≠ 8) (h0 : k = 0 → w ≤ 3) (h7 : k = 7 → w ≤ 7) (h10 : k = 10 → w ≤ 8) : OkC (cs.set k w) := by
 by_cases hlt : k < 11
 ·refine ⟨by simp [h.len], fun z hz => ?_, ?_, ?_, ?_, ?_, ?_⟩
  ·rcases List.mem_or_eq_of_mem_set hz with hz | rfl
   ·exact h.words z hz
   ·exact hw
  ·by_cases e : k = 0
   ·subst e; rw [getD_set_eq (by rw [h.len]; decide)]; exact h0 rfl
   ·rw [getD_set_ne e]; exact h.st
  ·by_cases e : k = 7
   ·subst e; rw [getD_set_eq (by rw [h.len]; decide)]; exact h7 rfl
   ·rw [getD_set_ne e]; exact h.msk
  ·by_cases e : k = 10
   ·subst e; rw [getD_set_eq (by rw [h.len]; decide)]; exact h10 rfl
   ·rw [getD_set_ne e]; exact h.tb
  ·rw [getD_set_ne hk.1]; exact h.pd
  ·rw [getD_set_ne hk.2]; exact h.tm
 ·rw [List.set_eq_of_length_le (by rw [h.len]; omega)]; exact h
theorem trapC_ok (hc : OkC cs) (hp : WW pc) {cause tval : Int} (h1 : WW cause) (h2 : WW tval) : OkC (trapC cs pc cause tval) := by
 unfold trapC
 have := hc.w (k := 0) (by decide)
 unfold WW at this
 exact (((hc.set hp (by decide) (fun e => absurd e (by decide)) (fun e => absurd e (by decide)) (fun e => absurd e (by decide))).set h1 (by decide) (fun e => absurd e (by decide)) (fun e => absurd e (by decide)) (fun e => absurd e (by decide))).set h2 (by decide) (fun e => absurd e (by decide)) (fun e => absurd e (by decide)) (fun e => absurd e (by decide))).set
  (by unfold WW; omega) (by decide) (fun _ => by omega) (fun e => absurd e (by decide)) (fun e => absurd e (by decide))
theorem specTrap_e (hc : OkC cs) (cause tval : Int) : F_cn ((r, pc, cs, ha, wa, ru, dn, iq, oq, ()), cause, tval, ()) =
  some ((), ((r, cs.getD 1 0, trapC cs pc cause tval, ha, false, ru, dn, iq, oq, ()), ())) := by
 have hst := hc.w (k := 0) (by decide)
 have hl := hc.len
 have hw : IntKind.i64.wrap (cs.getD 0 0 % 2 * 2) = cs.getD 0 0 % 2 * 2 := i64_same (by omega) (by omega)
 unfold F_cn trapC
 simp only [show ((2 : Int)).toNat = 2 from rfl, show ((3 : Int)).toNat = 3 from rfl, show ((4 : Int)).toNat = 4 from rfl, show ((0 : Int)).toNat = 0 from rfl, show ((1 : Int)).toNat = 1 from rfl,
  List.length_set, hl, show (0 : Int) ≤ 2 ∧ (2 : Int) < ((11 : Nat) : Int) from by decide, show (0 : Int) ≤ 3 ∧ (3 : Int) < ((11 : Nat) : Int) from by decide, show (0 : Int) ≤ 4 ∧ (4 : Int) < ((11 : Nat) : Int) from by decide,
  show (0 : Int) ≤ 0 ∧ (0 : Int) < ((11 : Nat) : Int) from by decide, show (0 : Int) ≤ 1 ∧ (1 : Int) < ((11 : Nat) : Int) from by decide, and_self, if_true]
 rw [get_at (l := cs) (k := 2) 0 (by omega), Option.bind_some, get_at (k := 3) 0 (by simp [hl]), Option.bind_some, get_at (k := 4) 0 (by simp [hl]), Option.bind_some]
 rw [get_at (l := ((cs.set 2 pc).set 3 cause).set 4 tval) (k := 0) 0 (by simp [hl]), Option.bind_some, Option.bind_some]
 rw [getD_set_ne (by decide), getD_set_ne (by decide), getD_set_ne (by decide), Int.tmod_eq_emod_of_nonneg hst.1, hw]
 rw [get_at (k := 1) 0 (by simp [hl]), Option.bind_some]
 rw [getD_set_ne (by decide), getD_set_ne (by decide), getD_set_ne (by decide), getD_set_ne (by decide)]
theorem implTrap_e (hc : OkC cs) (cause tval : Int) : F_au ((r, pc, cs, ha, wa, ru, dn, iq, oq, ()), cause, tval, ()) =
  some ((), ((r, cs.getD 1 0, trapC cs pc cause tval, ha, false, ru, dn, iq, oq, ()), ())) := specTrap_e hc cause tval
def backC (cs : List Int) : List Int := cs.set 0 (2 + cs.getD 0 0 / 2)
theorem backC_ok (hc : OkC cs) : OkC (backC cs) := by
 have := hc.w (k := 0) (by decide)
 have h3 := hc.st
 unfold WW at this
 exact hc.set (by unfold WW; omega) (by decide) (fun _ => by omega) (fun e => absurd e (by decide)) (fun e => absurd e (by decide))
theorem specBack_e (hc : OkC cs) : F_df ((r, pc, cs, ha, wa, ru, dn, iq, oq, ()), ()) = some ((), ((r, cs.getD 2 0, backC cs, ha, wa, ru, dn, iq, oq, ()), ())) := by
 have hst := hc.w (k := 0) (by decide)
 have hl := hc.len
 unfold WW at hst
 unfold F_df backC
 simp only [show ((2 : Int)).toNat = 2 from rfl, show ((0 : Int)).toNat = 0 from rfl, hl, show (0 : Int) ≤ 2 ∧ (2 : Int) < ((11 : Nat) : Int) from by decide, show (0 : Int) ≤ 0 ∧ (0 : Int) < ((11 : Nat) : Int) from by decide, and_self, if_true]
 rw [get_at (l := cs) (k := 2) 0 (by omega), Option.bind_some, get_at (l := cs) (k := 0) 0 (by omega), Option.bind_some, Option.bind_some]
 rw [Int.tdiv_eq_ediv_of_nonneg hst.1, i64_same (n := cs.getD 0 0 / 2) (by omega) (by omega), i64_same (by omega) (by omega)]
theorem implBack_e (hc : OkC cs) : F_br ((r, pc, cs, ha, wa, ru, dn, iq, oq, ()), ()) = some ((), ((r, cs.getD 2 0, backC cs, ha, wa, ru, dn, iq, oq, ()), ())) := specBack_e hc
def getM (cs : List Int) (ru : Bool) (dn : Int) (iq : List Int) (k : Int) : Int := if k = 6 then pendM cs ru dn iq else if k = 8 then dn else cs.getD k.toNat 0
theorem specGet_e (hc : OkC cs) {k : Int} (hk : 0 ≤ k ∧ k ≤ 10) : F_de ((r, pc, cs, ha, wa, ru, dn, iq, oq, ()), k, ()) = some ((getM cs ru dn iq k, ()), ()) := by
 unfold F_de getM
 dsimp only
 rw [specPend_e hc, Option.bind_some]
 by_cases h6 : k = 6
 ·rw [if_pos (by simpa using h6), if_pos h6]
 rw [if_neg (by simpa using h6), if_neg h6]
 by_cases h8 : k = 8
 ·rw [if_pos (by simpa using h8), if_pos h8]
 rw [if_neg (by simpa using h8), if_neg h8, if_pos hk.1, get_bind 0 (by rw [hc.len]; omega)]
theorem implGet_e (hc : OkC cs) {k : Int} (hk : 0 ≤ k ∧ k ≤ 10) : F_bq ((r, pc, cs, ha, wa, ru, dn, iq, oq, ()), k, ()) = some ((getM cs ru dn iq k, ()), ()) := by
 unfold F_bq getM
 dsimp only
 rw [implPend_e hc, Option.bind_some]
 by_cases h6 : k = 6
 ·rw [if_pos (by simpa using h6), if_pos h6]
 rw [if_neg (by simpa using h6), if_neg h6]
 by_cases h8 : k = 8
 ·rw [if_pos (by simpa using h8), if_pos h8]
 rw [if_neg (by simpa using h8), if_neg h8, if_pos hk.1, get_bind 0 (by rw [hc.len]; omega)]
theorem getM_word (hc : OkC cs) {k : Int} (hk : 0 ≤ k ∧ k ≤ 10) (hd : 0 ≤ dn ∧ dn ≤ 1000000000) : WW (getM cs ru dn iq k) := by
 unfold getM
 have := pendM_le cs ru dn iq
 split
 ·unfold WW; omega
 ·split
  ·unfold WW; omega
  ·exact hc.w (by omega)
def setC (cs : List Int) (k w : Int) : List Int :=
 if k = 0 then cs.set 0 (wd w % 4) else if k = 7 then cs.set 7 (wd w % 8) else if k = 10 then cs.set 10 (if wd w ≤ 8 then wd w else 0) else if k = 6 ∨ k = 8 then cs else cs.set k.toNat (wd w)
def setR (ru : Bool) (k w : Int) : Bool := if k = 6 ∧ 2 ≤ wd w % 4 then false else ru
theorem setC_ok (hc : OkC cs) {k w : Int} (hk : 0 ≤ k ∧ k ≤ 10) : OkC (setC cs k w) := by
 have h := wd_word w
 have h' := h
 unfold WW at h'
 unfold setC
 split
 ·exact hc.set (by unfold WW; omega) (by decide) (fun _ => by omega) (fun e => absurd e (by decide)) (fun e => absurd e (by decide))
 split
 ·exact hc.set (by unfold WW; omega) (by decide) (fun e => absurd e (by decide)) (fun _ => by omega) (fun e => absurd e (by decide))
 split
 ·exact hc.set (by split; exact h; unfold WW; omega) (by decide) (fun e => absurd e (by decide)) (fun e => absurd e (by decide)) (fun _ => by split <;> omega)
 split
 ·exact hc
 ·exact hc.set h (by omega) (by omega) (by omega) (by omega)
theorem specSet_e (hc : OkC cs) {k : Int} (hk : 0 ≤ k ∧ k ≤ 10) (w : Int) : F_l ((r, pc, cs, ha, wa, ru, dn, iq, oq, ()), k, w, ()) =
  some ((), ((r, pc, setC cs k w, ha, wa, setR ru k w, dn, iq, oq, ()), ())) := by
 have h := wd_word w
 unfold WW at h
 have hin : 0 ≤ k ∧ k < ((cs.length : Nat) : Int) := by rw [hc.len]; omega
 have e1 : cs[k.toNat]? = some (cs.getD k.toNat 0) := get_at 0 (by rw [hc.len]; omega)
 unfold F_l setC setR
 dsimp only
 rw [specWrap_e, Option.bind_some]
 dsimp only
 generalize wd w = v at *
 rw [Int.tmod_eq_emod_of_nonneg h.1, Int.tmod_eq_emod_of_nonneg h.1, e1]
 by_cases h0 : k = 0
 ·subst h0; simp [hc.len]
 by_cases h7 : k = 7
 ·subst h7; simp [hc.len]
 by_cases h10 : k = 10
 ·subst h10
  by_cases h8 : v ≤ 8 <;> simp [hc.len, leI_eq, h8]
 by_cases h6 : k = 6
 ·subst h6
  cases ru <;> by_cases h2 : 2 ≤ v % 4 <;> simp [h2, ltI_eq, leI_eq] <;> omega
 by_cases h8 : k = 8
 ·subst h8; simp
 have hk11 : k < 11 := by omega
 simp [h0, h7, h10, h6, h8, hc.len, hk.1, hk11]
theorem implSet_e (hc : OkC cs) {k : Int} (hk : 0 ≤ k ∧ k ≤ 10) (w : Int) : F_bm ((r, pc, cs, ha, wa, ru, dn, iq, oq, ()), k, w, ()) =
  some ((), ((r, pc, setC cs k w, ha, wa, setR ru k w, dn, iq, oq, ()), ())) := by
 have h := wd_word w
 unfold WW at h
 have hin : 0 ≤ k ∧ k < ((cs.length : Nat) : Int) := by rw [hc.len]; omega
 have e1 : cs[k.toNat]? = some (cs.getD k.toNat 0) := get_at 0 (by rw [hc.len]; omega)
 unfold F_bm setC setR
 dsimp only
 rw [implWrap_e, Option.bind_some]
 dsimp only
 generalize wd w = v at *
 rw [Int.tmod_eq_emod_of_nonneg h.1, Int.tmod_eq_emod_of_nonneg h.1, e1]
 by_cases h0 : k = 0
 ·subst h0; simp [hc.len]
 by_cases h7 : k = 7
 ·subst h7; simp [hc.len]
 by_cases h10 : k = 10
 ·subst h10
  by_cases h8 : v ≤ 8 <;> simp [hc.len, leI_eq, h8]
 by_cases h6 : k = 6
 ·subst h6
  cases ru <;> by_cases h2 : 2 ≤ v % 4 <;> simp [h2, ltI_eq, leI_eq] <;> omega
 by_cases h8 : k = 8
 ·subst h8; simp
 have hk11 : k < 11 := by omega
 simp [h0, h7, h10, h6, h8, hc.len, hk.1, hk11]
end
/-- Is this page for such a use? -/
def mayP (p : TwoD) (kind : Int) : Bool := decide (0 ≤ p.1) && !(iand .i64 p.2.1 kind == 0)
def walkM (l : List TwoD) (at_ kind : Int) : Int :=
 if 0 ≤ at_ ∧ at_ ≤ 63 then (if mayP (l.getD (at_ / 8).toNat (-1, 0, ())) kind = true then (l.getD (at_ / 8).toNat (-1, 0, ())).1 * 8 + at_ % 8 else -1) else -1
def codeK (kind : Int) : Int := if kind = 1 then 7 else if kind = 2 then 8 else 9
structure OkP (l : List TwoD) : Prop where
 len : l.length = 8
 pgs : ∀ p ∈ l, -1 ≤ p.1 ∧ p.1 ≤ 23
theorem OkP.at {l : List TwoD} (h : OkP l) {k : Nat} (hk : k < 8) : -1 ≤ (l.getD k (-1, 0, ())).1 ∧ (l.getD k (-1, 0, ())).1 ≤ 23 := h.pgs _ (getD_mem (by rw [h.len]; exact hk))
theorem OkL.p {l : List TwoD} {m : List Int} (h : OkL l m) : OkP l := ⟨h.len, fun p hp => (h.pgs p hp).1⟩
theorem walkM_le {l : List TwoD} (h : OkP l) (at_ kind : Int) : -1 ≤ walkM l at_ kind ∧ walkM l at_ kind ≤ 191 := by
 unfold walkM
 split
 ·have := h.at (k := (at_ / 8).toNat) (by omega)
  split
  ·rename_i hm
   simp only [mayP, Bool.and_eq_true, decide_eq_true_eq] at hm
   omega
  ·omega
 ·omega
theorem specCode_e (kind : Int) : F_ct (kind, ()) = some ((codeK kind, ()), ()) := by
 unfold F_ct codeK
 by_cases h1 : kind = 1
 ·simp [h1]
 ·by_cases h2 : kind = 2 <;> simp [h1, h2]
theorem implCode_e {kind : Int} (h : kind = 1 ∨ kind = 2 ∨ kind = 4) : F_bc (kind, ()) = some ((codeK kind, ()), ()) := by
 rcases h with rfl | rfl | rfl <;> rfl
theorem codeK_ne (kind : Int) : codeK kind ≠ 0 := by
 unfold codeK; repeat' split
 all_goals omega
theorem specWalk_e {l : List TwoD} (h : OkP l) (at_ kind : Int) : F_cp (l, at_, kind, ()) = some ((walkM l at_ kind, ()), ()) := by
 unfold F_cp walkM
 dsimp only
 rw [l1In_eq, Option.bind_some]
 dsimp only
 by_cases hin : 0 ≤ at_ ∧ at_ ≤ 63
 ·rw [if_neg (by simp [hin.1, hin.2]), if_pos hin, Int.tdiv_eq_ediv_of_nonneg hin.1, i64_same (by omega) (by omega), if_pos (by omega)]
  rw [get_bind ((-1, 0, ()) : TwoD) (by rw [h.len]; omega)]
  have hp := h.at (k := (at_ / 8).toNat) (by omega)
  generalize l.getD (at_ / 8).toNat (-1, 0, ()) = p at *
  unfold mayP
  by_cases h0 : 0 ≤ p.1
  ·rw [if_pos (ltI_f.2 (by omega))]
   by_cases hk : iand .i64 p.2.1 kind = 0
   ·rw [if_pos (by simpa using hk), if_neg (by simp [hk])]
   ·rw [if_neg (by simpa using hk), if_pos (by simp [hk, h0]), Int.tmod_eq_emod_of_nonneg hin.1, i64_same (n := p.1 * 8) (by omega) (by omega), i64_same (by omega) (by omega)]
  ·rw [if_neg (by rw [ltI_f]; omega), if_neg (by simp [h0])]
 ·rw [if_pos (by simp; omega), if_neg hin]
theorem implWalk_e {l : List TwoD} (h : OkP l) (at_ : Int) {kind : Int} (hkd : kind = 1 ∨ kind = 2 ∨ kind = 4) :
  F_bd (l, at_, kind, ()) = some ((if walkM l at_ kind < 0 then (codeK kind, 0, ()) else (0, walkM l at_ kind, ()), ()), ()) := by
 unfold F_bd F_bb walkM
 dsimp only
 rw [within_eq, Option.bind_some, Option.bind_some, implCode_e hkd, Option.bind_some]
 dsimp only
 by_cases hin : 0 ≤ at_ ∧ at_ ≤ 63
 ·rw [if_pos (by simp [hin.1, hin.2]), if_pos hin, Int.tdiv_eq_ediv_of_nonneg hin.1, i64_same (by omega) (by omega), if_pos (by omega)]
  rw [get_bind ((-1, 0, ()) : TwoD) (by rw [h.len]; omega), get_bind ((-1, 0, ()) : TwoD) (by rw [h.len]; omega), get_bind ((-1, 0, ()) : TwoD) (by rw [h.len]; omega)]
  have hp := h.at (k := (at_ / 8).toNat) (by omega)
  have h8 : 0 ≤ at_ / 8 := by omega
  generalize l.getD (at_ / 8).toNat (-1, 0, ()) = p at *
  unfold mayP
  by_cases h0 : 0 ≤ p.1
  ·rw [if_pos (ltI_f.2 (by omega)), if_pos h8]
   by_cases hk : iand .i64 p.2.1 kind = 0
   ·rw [if_pos (by simpa using hk), if_neg (c := (decide (0 ≤ p.1) && !(iand .i64 p.2.1 kind == 0)) = true) (by simp [hk]), if_pos (by decide)]
   ·rw [if_neg (by simpa using hk), if_pos h8, if_pos (c := (decide (0 ≤ p.1) && !(iand .i64 p.2.1 kind == 0)) = true) (by simp [hk, h0]), Int.tmod_eq_emod_of_nonneg hin.1,
     i64_same (n := p.1 * 8) (by omega) (by omega), i64_same (by omega) (by omega), if_neg (by omega)]
  ·rw [if_neg (by rw [ltI_f]; omega), if_neg (c := (decide (0 ≤ p.1) && !(iand .i64 p.2.1 kind == 0)) = true) (by simp [h0]), if_pos (by decide)]
 ·rw [if_neg (by simp; omega), if_neg hin, if_pos (by decide)]
def entM (w : Int) : TwoD := if w % 8 ≠ 0 ∧ w / 8 < 8 then (w / 8, w % 8, ()) else (-1, 0, ())
theorem specEnt_e {w : Int} (h : WW w) : F_cq (w, ()) = some ((entM w, ()), ()) := by
 unfold WW at h
 unfold F_cq entM F_o
 dsimp only
 rw [Int.tdiv_eq_ediv_of_nonneg h.1, Int.tmod_eq_emod_of_nonneg h.1, i64_same (by omega) (by omega)]
 by_cases h1 : w % 8 = 0
 ·simp [h1]
 ·by_cases h2 : w / 8 < 8
  ·have : ¬ (8 : Int) ≤ w / 8 := by omega
   simp [h1, h2, leI_eq, this]
  ·have : (8 : Int) ≤ w / 8 := by omega
   simp [h1, h2, leI_eq, this]
theorem implEnt_e {w : Int} (h : WW w) : F_ay (w, ()) = some ((entM w, ()), ()) := by
 unfold WW at h
 unfold F_ay entM F_ax
 dsimp only
 rw [Int.tdiv_eq_ediv_of_nonneg h.1, Int.tmod_eq_emod_of_nonneg h.1, i64_same (by omega) (by omega)]
 by_cases h1 : w % 8 = 0
 ·simp [h1]
 ·by_cases h2 : w / 8 < 8
  ·have : ¬ (8 : Int) ≤ w / 8 := by omega
   simp [h1, h2, leI_eq, this]
  ·have : (8 : Int) ≤ w / 8 := by omega
   simp [h1, h2, leI_eq, this]
theorem entM_ok {w : Int} (h : WW w) : -1 ≤ (entM w).1 ∧ (entM w).1 ≤ 7 := by
 unfold WW at h
 unfold entM; split
 ·simp only; omega
 ·simp only; omega
theorem okW_iff {w : Int} : okW w = true ↔ WW w := by unfold okW WW; simp
theorem allW_iff {m : List Int} : allW m = true ↔ ∀ w ∈ m, WW w := by
 unfold allW; rw [List.all_eq_true]; exact ⟨fun h w hw => okW_iff.1 (h w hw), fun h w hw => okW_iff.2 (h w hw)⟩
theorem take_succ' {α : Type} {l : List α} {i : Nat} (h : i < l.length) : l.take (i + 1) = l.take i ++ [l[i]] := by rw [List.take_add_one, List.getElem?_eq_getElem h]; rfl
theorem specPagesFrom_e {ws : List Int} (hl : ws.length = 8) (hw : ∀ w ∈ ws, WW w) : F_cr (ws, ()) = some (((0, ws.map entM, ()), ()), ()) := by
 have key := loopN (step := l_cr_5) (γ := denO o_cr_5) (fun k (s : List TwoD) => ((ws, (), (), ((k : Nat) : Int), ()), ((0, [], ()), ((0, s, ()), ())), ())) 8 (lots_gt' (by omega)) (fun k s => s = (ws.take k).map entM)
  (fun _ _ => some (.inl (((), (), ()), (((0, [], ()), ((0, ws.map entM, ()), ())), ())))) ?_ 0 [] (by omega) (by simp)
 ·unfold F_cr
  dsimp only
  rw [if_neg (by rw [hl]; decide)]
  show (iterF l_cr_5 lots ((ws, (), (), 0, ()), ((0, [], ()), ((0, [], ()), ())), ())).bind _ = _
  rw [show ((0 : Int)) = (((0 : Nat) : Nat) : Int) from rfl] at *
  rw [key]
  rfl
 ·intro rec i s hi hs ih
  unfold l_cr_5
  dsimp only
  by_cases hlt : i < 8
  ·have hlw : i < ws.length := by omega
   have hin : WW ws[i] := hw _ (List.getElem_mem hlw)
   rw [if_pos (lt_t hlw), if_pos nat0, at_get hlw, l1In_eq, Option.bind_some]
   dsimp only
   have hok : (decide (ws[i] ≥ 0) && decide (ws[i] ≤ 4294967295)) = true := okW_iff.2 hin
   rw [if_neg (by rw [hok]; decide), if_pos nat0, at_get hlw, specEnt_e hin, Option.bind_some]
   dsimp only
   have hsl : s.length = i := by rw [hs, List.length_map, List.length_take]; omega
   rw [if_pos (by rw [hsl]; simp; omega), wrapS (by omega)]
   exact ih _ hlt (by rw [hs, take_succ' hlw, List.map_append]; rfl)
  ·have : i = 8 := by omega
   subst this
   rw [if_neg (by rw [hl]; decide)]
   have : s = ws.map entM := by rw [hs, List.take_of_length_le (by omega)]
   rw [this]
theorem implPagesFrom_e {ws : List Int} (hl : ws.length = 8) (hw : ∀ w ∈ ws, WW w) : F_az (ws, ()) = some (((0, ws.map entM, ()), ()), ()) := by
 have key := loopN (step := l_az_7) (γ := denO o_az_7) (fun k (s : List TwoD) => (((), s, ws, 8, ((k : Nat) : Int), ()), ((0, [], ()), ()), ())) 8 (lots_gt' (by omega)) (fun k s => s = (ws.take k).map entM)
  (fun _ _ => some (.inl (((), ws.map entM, ()), ((0, [], ()), ()), ()))) ?_ 0 [] (by omega) (by simp)
 ·unfold F_az
  dsimp only
  rw [if_neg (by rw [hl]; decide), areWords_eq _ (by rw [hl, maxLen_eq]; omega), Option.bind_some]
  dsimp only
  rw [allW_iff.2 hw, if_neg (by decide), hl]
  show (iterF l_az_7 lots (((), [], ws, 8, 0, ()), ((0, [], ()), ()), ())).bind _ = _
  rw [show ((0 : Int)) = (((0 : Nat) : Nat) : Int) from rfl] at *
  rw [key]
  rfl
 ·intro rec i s hi hs ih
  unfold l_az_7
  dsimp only
  by_cases hlt : i < 8
  ·have hlw : i < ws.length := by omega
   have hin : WW ws[i] := hw _ (List.getElem_mem hlw)
   rw [if_pos (ltI_t.2 (by omega)), if_pos nat0, at_get hlw, implEnt_e hin, Option.bind_some]
   dsimp only
   have hsl : s.length = i := by rw [hs, List.length_map, List.length_take]; omega
   rw [if_pos (by rw [hsl]; simp; omega), wrapS (by omega)]
   exact ih _ hlt (by rw [hs, take_succ' hlw, List.map_append]; rfl)
  ·have : i = 8 := by omega
   subst this
   rw [if_neg (by decide)]
   have : s = ws.map entM := by rw [hs, List.take_of_length_le (by omega)]
   rw [this]
def idsM : List TwoD := [(0, 7, ()), (1, 7, ()), (2, 7, ()), (3, 7, ()), (4, 7, ()), (5, 7, ()), (6, 7, ()), (7, 7, ())]
theorem specIds : L_cs_5 ((([] : List TwoD), ((0 : Int), ())), ((), ())) = some (.inl ((idsM, ()), ((), ()))) := by kernel_rfl
theorem implIds : L_ba_5 (((), (([] : List TwoD), ((0 : Int), ()))), ((((0 : Int), (([] : List TwoD), ())), ()), ())) = some (.inl (((), (idsM, ())), ((((0 : Int), (([] : List TwoD), ())), ()), ()))) := by kernel_rfl
theorem idsM_ok : OkP idsM := ⟨rfl, by decide⟩
/-- The list of a guest; none where it cannot be read. -/
def spaceM (cs : List Int) (l : List TwoD) (m : List Int) : Option (List TwoD) :=
 if cs.getD 10 0 = 0 then some idsM else if cs.getD 10 0 = 8 then none
 else if walkM l ((cs.getD 10 0 - 1) * 8) 1 < 0 then none else some (((m.drop (walkM l ((cs.getD 10 0 - 1) * 8) 1).toNat).take 8).map entM)
section
variable {r cs iq oq m : List Int} {pc dn ring fall : Int} {ha wa ru : Bool} {l : List TwoD}
theorem OkL.at {l : List TwoD} {m : List Int} (h : OkL l m) {k : Nat} (hk : k < 8) : (-1 ≤ (l.getD k (-1, 0, ())).1 ∧ (l.getD k (-1, 0, ())).1 ≤ 23) ∧ 8 * (l.getD k (-1, 0, ())).1 + 8 ≤ (m.length : Int) := by
 have := h.pgs _ (getD_mem (l := l) (k := k) (d := (-1, 0, ())) (by rw [h.len]; exact hk)); exact ⟨this.1, this.2.2⟩
/-- Where a list leads there is memory. -/
theorem walkM_in (h : OkL l m) (at_ kind : Int) (h0 : 0 ≤ walkM l at_ kind) : walkM l at_ kind < (m.length : Int) ∧ (at_ % 8 = 0 → walkM l at_ kind + 8 ≤ (m.length : Int)) := by
 unfold walkM at *
 split at h0
 ·have := h.at (k := (at_ / 8).toNat) (by omega)
  rename_i hin
  rw [if_pos hin]
  split at h0
  ·rename_i hm
   rw [if_pos hm]
   omega
  ·omega
 ·omega
theorem page_words (h : OkL l m) {f : Int} (h0 : 0 ≤ f) (h1 : f + 8 ≤ (m.length : Int)) : ((m.drop f.toNat).take 8).length = 8 ∧ ∀ w ∈ (m.drop f.toNat).take 8, WW w :=
 ⟨by rw [List.length_take, List.length_drop]; omega, fun w hw => h.words w (List.mem_of_mem_drop (List.mem_of_mem_take hw))⟩
theorem specSpace_e (hc : OkC cs) (h : OkL l m) : F_cs ((l, m, ring, (r, pc, cs, ha, wa, ru, dn, iq, oq, ()), fall, ()), ()) =
  some ((match spaceM cs l m with | some s => (s, true, ()) | none => ([], false, ())), ()) := by
 have ht := hc.w (k := 10) (by decide)
 have ht2 := hc.tb
 unfold WW at ht
 unfold F_cs spaceM
 dsimp only
 rw [get_bind 0 (by rw [hc.len]; decide)]
 simp only [show ((10 : Int)).toNat = 10 from rfl]
 generalize cs.getD 10 0 = t at *
 by_cases h0 : t = 0
 ·subst h0
  rw [if_pos (by decide), if_pos rfl]
  show (L_cs_5 _).bind _ = _
  rw [specIds]; rfl
 ·rw [if_neg (by simpa using h0), if_neg h0, i64_same (n := t - 1) (by omega) (by omega), i64_same (n := (t - 1) * 8) (by omega) (by omega), specWalk_e h.p, Option.bind_some]
  dsimp only
  by_cases h8 : t = 8
  ·subst h8; rfl
  ·rw [if_pos (by simpa using h8), if_neg h8]
   have hin := walkM_in h ((t - 1) * 8) 1
   have hle := walkM_le h.p ((t - 1) * 8) 1
   generalize walkM l ((t - 1) * 8) 1 = f at *
   by_cases hf : f < 0
   ·rw [if_pos (ltI_t.2 hf), if_pos hf]
   ·have h2 := (hin (by omega)).2 (by omega)
    rw [if_neg (by rw [ltI_t]; exact hf), if_neg hf, i64_same (by omega) (by omega), if_pos (c := (0 : Int) ≤ f ∧ f ≤ f + 8 ∧ f + 8 ≤ ((m.length : Nat) : Int)) ⟨Int.not_lt.1 hf, by omega, h2⟩, show (f + 8).toNat - f.toNat = 8 by omega]
    have hp := page_words h (f := f) (by omega) h2
    rw [specPagesFrom_e hp.1 hp.2]; rfl
theorem implSpace_e (hc : OkC cs) (h : OkL l m) : F_ba ((r, pc, cs, ha, wa, ru, dn, iq, oq, ()), l, m, ()) =
  some ((match spaceM cs l m with | some s => (0, s, ()) | none => (7, [], ()), ()), ()) := by
 have ht := hc.w (k := 10) (by decide)
 have ht2 := hc.tb
 unfold WW at ht
 unfold F_ba spaceM
 dsimp only
 rw [get_bind 0 (by rw [hc.len]; decide)]
 simp only [show ((10 : Int)).toNat = 10 from rfl]
 generalize cs.getD 10 0 = t at *
 rw [i64_same (n := t - 1) (by omega) (by omega)]
 by_cases h0 : t = 0
 ·subst h0
  rw [if_pos (by decide), if_pos rfl]
  show (L_ba_5 _).bind _ = _
  rw [implIds]; rfl
 ·have ht1 : 0 ≤ t - 1 := by omega
  rw [if_neg (by rw [ltI_t]; omega), if_neg h0, if_pos ht1]
  have hlen : (t - 1).toNat < l.length := by rw [h.len]; omega
  rw [get_bind ((-1, 0, ()) : TwoD) hlen, get_bind ((-1, 0, ()) : TwoD) hlen, get_bind ((-1, 0, ()) : TwoD) hlen]
  have hat := h.at (k := (t - 1).toNat) (by omega)
  have hw : walkM l ((t - 1) * 8) 1 = if mayP (l.getD (t - 1).toNat (-1, 0, ())) 1 = true then (l.getD (t - 1).toNat (-1, 0, ())).1 * 8 else -1 := by
   unfold walkM
   rw [if_pos (by omega), show (t - 1) * 8 / 8 = t - 1 by omega, show (t - 1) * 8 % 8 = 0 by omega, Int.add_zero]
  rw [hw]
  generalize l.getD (t - 1).toNat (-1, 0, ()) = p at *
  unfold mayP
  by_cases hp0 : 0 ≤ p.1
  ·rw [if_pos (ltI_f.2 (by omega)), if_pos ht1]
   by_cases hk : iand .i64 p.2.1 1 = 0
   ·rw [if_neg (by simp [hk])]
    by_cases h8 : t = 8
    ·rw [if_pos h8]
    ·rw [if_neg h8, if_neg (c := (decide (0 ≤ p.1) && !(iand .i64 p.2.1 1 == 0)) = true) (by simp [hk]), if_pos (by decide)]
   ·rw [if_pos (by simpa using hk)]
    by_cases h8 : t = 8
    ·subst h8; rfl
    ·have hne : ¬ t - 1 = 7 := by omega
     rw [if_neg (by simpa using hne), if_pos ht1, if_neg h8, if_pos (c := (decide (0 ≤ p.1) && !(iand .i64 p.2.1 1 == 0)) = true) (by simp [hk, hp0]), if_neg (by omega)]
     have hpo := pageOf_eq m p.1.toNat (by omega) h.mlen
     rw [show ((p.1.toNat : Nat) : Int) = p.1 by omega] at hpo
     rw [hpo, Option.bind_some]
     dsimp only
     rw [show (p.1 * 8).toNat = 8 * p.1.toNat by omega]
     have hpw := page_words h (f := p.1 * 8) (by omega) (by omega)
     rw [show (p.1 * 8).toNat = 8 * p.1.toNat by omega] at hpw
     rw [implPagesFrom_e hpw.1 hpw.2]; rfl
  ·rw [if_neg (by rw [ltI_f]; omega)]
   by_cases h8 : t = 8
   ·rw [if_pos h8]
   ·rw [if_neg h8, if_neg (c := (decide (0 ≤ p.1) && !(iand .i64 p.2.1 1 == 0)) = true) (by simp [hp0]), if_pos (by decide)]
theorem spaceM_ok (hc : OkC cs) (h : OkL l m) {s : List TwoD} (hs : spaceM cs l m = some s) : OkP s ∧ ∀ p ∈ s, p.1 ≤ 7 := by
 have ht := hc.w (k := 10) (by decide)
 have ht2 := hc.tb
 unfold WW at ht
 unfold spaceM at hs
 split at hs
 ·obtain rfl := Option.some.inj hs; exact ⟨idsM_ok, by decide⟩
 ·split at hs
  ·cases hs
  ·split at hs
   ·cases hs
   ·rename_i h8 hf
    obtain rfl := Option.some.inj hs
    have h2 := (walkM_in h ((cs.getD 10 0 - 1) * 8) 1 (by omega)).2 (by omega)
    have hp := page_words h (f := walkM l ((cs.getD 10 0 - 1) * 8) 1) (by omega) h2
    have key : ∀ p ∈ List.map entM (((m.drop (walkM l ((cs.getD 10 0 - 1) * 8) 1).toNat).take 8)), -1 ≤ p.1 ∧ p.1 ≤ 7 := by
     intro p hpm
     obtain ⟨w, hw, rfl⟩ := List.mem_map.1 hpm
     exact entM_ok (hp.2 w hw)
    exact ⟨⟨by rw [List.length_map]; exact hp.1, fun p hm => ⟨(key p hm).1, by have := (key p hm).2; omega⟩⟩, fun p hm => (key p hm).2⟩
/-- Where a place leads: a value, or a code. -/
def placeM (cs : List Int) (l : List TwoD) (m : List Int) (at_ kind : Int) : Int × Int :=
 match spaceM cs l m with
 | none => (0, 7)
 | some s => if walkM s at_ kind < 0 then (0, codeK kind) else if walkM s at_ kind / 8 = 7 then (if kind = 4 then (0, 9) else (1000 + walkM s at_ kind % 8, 0))
  else if walkM l (walkM s at_ kind) kind < 0 then (0, codeK kind) else (walkM l (walkM s at_ kind) kind, 0)
theorem placeM_in (hc : OkC cs) (h : OkL l m) (at_ : Int) (kind : Int) (h0 : (placeM cs l m at_ kind).2 = 0) :
  (1000 ≤ (placeM cs l m at_ kind).1 ∧ (placeM cs l m at_ kind).1 ≤ 1007 ∧ kind ≠ 4) ∨ (0 ≤ (placeM cs l m at_ kind).1 ∧ (placeM cs l m at_ kind).1 < (m.length : Int)) := by
 unfold placeM at *
 cases hs : spaceM cs l m with
 | none => rw [hs] at h0; simp at h0
 | some s =>
  rw [hs] at h0
  simp only at h0 ⊢
  split at h0
  ·exact absurd h0 (codeK_ne kind)
  ·rename_i h1
   rw [if_neg h1]
   split at h0
   ·rename_i h7
    rw [if_pos h7]
    split at h0
    ·simp at h0
    ·rename_i h4
     rw [if_neg h4]
     left
     simp only
     omega
   ·rename_i h7
    rw [if_neg h7]
    split at h0
    ·exact absurd h0 (codeK_ne kind)
    ·rename_i h2
     rw [if_neg h2]
     right
     exact ⟨by simp only; omega, (walkM_in h _ _ (by omega)).1⟩
theorem specPlace_e (hc : OkC cs) (h : OkL l m) (at_ kind : Int) : F_cu ((l, m, ring, (r, pc, cs, ha, wa, ru, dn, iq, oq, ()), fall, ()), at_, kind, ()) =
  some (((placeM cs l m at_ kind).1, (placeM cs l m at_ kind).2, ()), ()) := by
 unfold F_cu placeM
 dsimp only
 rw [specSpace_e hc h, Option.bind_some]
 cases hs : spaceM cs l m with
 | none => rfl
 | some s =>
  have hp := (spaceM_ok hc h hs).1
  dsimp only
  rw [if_neg (by decide), specWalk_e hp, Option.bind_some, specCode_e, Option.bind_some]
  dsimp only
  have hle := walkM_le hp at_ kind
  generalize walkM s at_ kind = g at *
  by_cases hg : g < 0
  ·rw [if_pos (ltI_t.2 hg), if_pos hg]
  ·rw [if_neg (by rw [ltI_t]; exact hg), if_neg hg, Int.tdiv_eq_ediv_of_nonneg (by omega), Int.tmod_eq_emod_of_nonneg (by omega), i64_same (n := g / 8) (by omega) (by omega)]
   by_cases h7 : g / 8 = 7
   ·rw [if_pos (by simpa using h7), if_pos h7]
    by_cases h4 : kind = 4
    ·rw [if_pos (by simpa using h4), if_pos h4]
    ·rw [if_neg (by simpa using h4), if_neg h4, i64_same (by omega) (by omega)]
   ·rw [if_neg (by simpa using h7), if_neg h7, specWalk_e h.p, Option.bind_some]
    dsimp only
    by_cases hf : walkM l g kind < 0
    ·rw [if_pos (ltI_t.2 hf), if_pos hf]
    ·rw [if_neg (by rw [ltI_t]; exact hf), if_neg hf]
theorem implPlace_e (hc : OkC cs) (h : OkL l m) (at_ : Int) {kind : Int} (hk : kind = 1 ∨ kind = 2 ∨ kind = 4) : F_be ((r, pc, cs, ha, wa, ru, dn, iq, oq, ()), l, m, at_, kind, ()) =
  some ((((placeM cs l m at_ kind).2, (placeM cs l m at_ kind).1, ()), ()), ()) := by
 unfold F_be placeM
 dsimp only
 rw [implSpace_e hc h, Option.bind_some]
 cases hs : spaceM cs l m with
 | none => rfl
 | some s =>
  have hp := (spaceM_ok hc h hs).1
  dsimp only
  rw [if_neg (by decide), implWalk_e hp _ hk, Option.bind_some]
  dsimp only
  have hle := walkM_le hp at_ kind
  have hcn := codeK_ne kind
  generalize walkM s at_ kind = g at *
  by_cases hg : g < 0
  ·rw [if_pos hg]; dsimp only; rw [if_pos (by simpa using hcn), if_pos hg]
  ·rw [if_neg hg]; dsimp only
   rw [if_neg (by decide), if_neg hg, Int.tdiv_eq_ediv_of_nonneg (by omega), Int.tmod_eq_emod_of_nonneg (by omega), i64_same (n := g / 8) (by omega) (by omega)]
   by_cases h7 : g / 8 = 7
   ·rw [if_neg (by simpa using h7), if_pos h7]
    by_cases h4 : kind = 4
    ·rw [if_pos (by simpa using h4), if_pos h4]
    ·rw [if_neg (by simpa using h4), if_neg h4, i64_same (by omega) (by omega)]
   ·rw [if_pos (by simpa using h7), if_neg h7, implWalk_e h.p _ hk, Option.bind_some]
    by_cases hf : walkM l g kind < 0
    ·rw [if_pos hf, if_pos hf]
    ·rw [if_neg hf, if_neg hf]
theorem clone_e {q : List Int} (h : q.length ≤ 1048576) : F_ap (q, ()) = some ((q, ()), ()) := by
 unfold F_ap
 dsimp only
 rw [if_pos (by simp; omega)]
 rfl
def readM (cs : List Int) (ru : Bool) (dn : Int) (iq : List Int) (k : Int) : Int × List Int :=
 if k = 1 then (iq.getD 0 0, iq.drop 1) else if k = 2 then (dn, iq) else if k = 3 then (cs.getD 9 0, iq) else if k = 4 then (pendM cs ru dn iq, iq) else if k = 6 then ((iq.length : Int), iq) else (0, iq)
theorem specRead_e (hc : OkC cs) (hq : OkQ iq) (k : Int) : F_cz ((r, pc, cs, ha, wa, ru, dn, iq, oq, ()), k, ()) =
  some (((readM cs ru dn iq k).1, ()), ((r, pc, cs, ha, wa, ru, dn, (readM cs ru dn iq k).2, oq, ()), ())) := by
 unfold F_cz readM
 dsimp only
 rw [specPend_e hc, Option.bind_some]
 by_cases h1 : k = 1
 ·subst h1
  rw [if_pos (by decide), if_pos rfl]
  cases iq with
  | nil => rfl
  | cons w t =>
   rw [if_neg (by simp; omega)]
   simp only [show ((0 : Int)).toNat = 0 from rfl, show ((1 : Int)).toNat = 1 from rfl, List.getElem?_cons_zero, Option.bind_some]
   rw [if_pos (by simp; omega)]
   simp
 rw [if_neg (by simpa using h1), if_neg h1]
 by_cases h2 : k = 2
 ·subst h2; rfl
 rw [if_neg (by simpa using h2), if_neg h2]
 by_cases h3 : k = 3
 ·subst h3
  rw [if_pos (by decide), if_pos rfl, if_pos (by rw [hc.len]; decide), get_bind 0 (by rw [hc.len]; decide)]; rfl
 rw [if_neg (by simpa using h3), if_neg h3]
 by_cases h4 : k = 4
 ·subst h4; rfl
 rw [if_neg (by simpa using h4), if_neg h4]
 by_cases h6 : k = 6
 ·subst h6; rfl
 rw [if_neg (by simpa using h6), if_neg h6]
theorem implRead_e (hc : OkC cs) (hq : OkQ iq) (k : Int) : F_bk ((r, pc, cs, ha, wa, ru, dn, iq, oq, ()), k, ()) =
  some (((readM cs ru dn iq k).1, ()), ((r, pc, cs, ha, wa, ru, dn, (readM cs ru dn iq k).2, oq, ()), ())) := by
 unfold F_bk readM
 dsimp only
 rw [implPend_e hc, Option.bind_some]
 have hl := hq.len
 by_cases h1 : k = 1
 ·subst h1
  rw [if_pos (by decide), if_pos rfl]
  cases iq with
  | nil => rfl
  | cons w t =>
   have hlt : ltI 0 (((w :: t).length : Nat) : Int) = true := ltI_t.2 (by simp only [List.length_cons]; omega)
   rw [if_pos hlt, if_pos (by simp only [List.length_cons]; omega)]
   simp only [show ((0 : Int)).toNat = 0 from rfl, show ((1 : Int)).toNat = 1 from rfl, List.getElem?_cons_zero, Option.bind_some]
   rw [if_pos (by simp only [List.length_cons]; omega)]
   have e : ((w :: t).drop 1).take ((((w :: t).length : Nat) : Int).toNat - 1) = t := by simp
   rw [e, clone_e (by simp at hl; omega), Option.bind_some]
   rfl
 rw [if_neg (by simpa using h1), if_neg h1]
 by_cases h2 : k = 2
 ·subst h2; rfl
 rw [if_neg (by simpa using h2), if_neg h2]
 by_cases h3 : k = 3
 ·subst h3
  rw [if_pos (by decide), if_pos rfl, if_pos (by rw [hc.len]; decide), get_bind 0 (by rw [hc.len]; decide)]; rfl
 rw [if_neg (by simpa using h3), if_neg h3]
 by_cases h4 : k = 4
 ·subst h4; rfl
 rw [if_neg (by simpa using h4), if_neg h4]
 by_cases h6 : k = 6
 ·subst h6; rfl
 rw [if_neg (by simpa using h6), if_neg h6]
theorem readM_ok (hc : OkC cs) (hq : OkQ iq) (hd : 0 ≤ dn ∧ dn ≤ 1000000000) (k : Int) : WW (readM cs ru dn iq k).1 ∧ OkQ (readM cs ru dn iq k).2 := by
 have hp := pendM_le cs ru dn iq
 have hl := hq.len
 have h9 := hc.w (k := 9) (by decide)
 unfold readM
 repeat' split
 ·refine ⟨?_, ⟨by simp only [List.length_drop]; omega, fun w hw => hq.words w (List.mem_of_mem_drop hw)⟩⟩
  cases iq with
  | nil => unfold WW; simp
  | cons w t => exact hq.words w (by simp)
 all_goals refine ⟨?_, hq⟩
 ·unfold WW; simp only; omega
 ·exact h9
 ·unfold WW; simp only; omega
 ·unfold WW; simp only; omega
 ·unfold WW; simp
/-- What a write to a device's word turns: the ring, the csrs, whether it is rung, what is out. -/
def ringM (k w : Int) : Int := if k = 5 then wd w else -1
def wrC (cs : List Int) (k w : Int) : List Int := if k = 3 then cs.set 9 (wd w) else cs
def wrR (ru : Bool) (k w : Int) : Bool := if k = 4 then setR ru 6 (wd w) else ru
def wrO (oq : List Int) (k w : Int) : List Int := if k = 0 ∧ oq.length < 40 then oq ++ [wd w] else oq
theorem setC6 (w : Int) : setC cs 6 w = cs := by unfold setC; simp
theorem setC9 (w : Int) : setC cs 9 w = cs.set 9 (wd w) := by unfold setC; simp
theorem setR9 (w : Int) : setR ru 9 w = ru := by unfold setR; simp
theorem specWrite_e (hc : OkC cs) (hq : OkQ oq) (k w : Int) : F_da ((r, pc, cs, ha, wa, ru, dn, iq, oq, ()), k, w, ()) =
  some ((ringM k w, ()), ((r, pc, wrC cs k w, ha, wa, wrR ru k w, dn, iq, wrO oq k w, ()), ())) := by
 unfold F_da ringM wrC wrR wrO
 dsimp only
 rw [specWrap_e, Option.bind_some, specSet_e hc (by omega), Option.bind_some, setC6]
 dsimp only
 have hl := hq.len
 by_cases h0 : k = 0
 ·subst h0
  by_cases h40 : oq.length < 40
  ·have : ltI ((oq.length : Nat) : Int) 40 = true := ltI_t.2 (by omega)
   rw [if_pos (by decide), if_pos this, if_pos (by simp; omega), if_neg (by decide), if_neg (by decide), if_neg (by decide), if_pos ⟨rfl, h40⟩]
  ·have : ¬ ltI ((oq.length : Nat) : Int) 40 = true := by rw [ltI_t]; omega
   rw [if_pos (by decide), if_neg this, if_neg (by decide), if_neg (by decide), if_neg (by decide), if_neg (by omega)]
 rw [if_neg (by simpa using h0), if_neg (c := k = 0 ∧ oq.length < 40) (by omega)]
 by_cases h3 : k = 3
 ·subst h3
  rw [if_pos (by decide), if_pos (by rw [hc.len]; decide), get_bind 0 (by rw [hc.len]; decide)]; rfl
 rw [if_neg (by simpa using h3), if_neg h3]
 by_cases h4 : k = 4
 ·subst h4; rfl
 rw [if_neg (by simpa using h4), if_neg h4]
 by_cases h5 : k = 5
 ·subst h5; rfl
 rw [if_neg (by simpa using h5), if_neg h5]
theorem implWrite_e (hc : OkC cs) (hq : OkQ oq) (k w : Int) : F_bn ((r, pc, cs, ha, wa, ru, dn, iq, oq, ()), k, w, ()) =
  some ((ringM k w, ()), ((r, pc, wrC cs k w, ha, wa, wrR ru k w, dn, iq, wrO oq k w, ()), ())) := by
 have hl := hq.len
 unfold F_bn ringM wrC wrR wrO
 dsimp only
 rw [implWrap_e, Option.bind_some, clone_e (by omega), Option.bind_some]
 dsimp only
 rw [implSet_e hc (by omega), Option.bind_some, implSet_e hc (by omega), Option.bind_some, setC6, setC9, setR9, wd_wd]
 by_cases h0 : k = 0
 ·subst h0
  by_cases h40 : oq.length < 40
  ·have : ltI ((oq.length : Nat) : Int) 40 = true := ltI_t.2 (by omega)
   rw [if_pos (by decide), if_pos this, if_pos (by simp; omega), if_neg (by decide), if_neg (by decide), if_neg (by decide), if_pos ⟨rfl, h40⟩]
  ·have : ¬ ltI ((oq.length : Nat) : Int) 40 = true := by rw [ltI_t]; omega
   rw [if_pos (by decide), if_neg this, if_neg (by decide), if_neg (by decide), if_neg (by decide), if_neg (by omega)]
 rw [if_neg (by simpa using h0), if_neg (c := k = 0 ∧ oq.length < 40) (by omega)]
 by_cases h3 : k = 3
 ·subst h3; rfl
 rw [if_neg (by simpa using h3), if_neg h3]
 by_cases h4 : k = 4
 ·subst h4; rfl
 rw [if_neg (by simpa using h4), if_neg h4]
 by_cases h5 : k = 5
 ·subst h5; rfl
 rw [if_neg (by simpa using h5), if_neg h5]
theorem wrC_ok (hc : OkC cs) (k w : Int) : OkC (wrC cs k w) := by
 unfold wrC; split
 ·exact hc.set (wd_word w) (by decide) (fun e => absurd e (by decide)) (fun e => absurd e (by decide)) (fun e => absurd e (by decide))
 ·exact hc
theorem wrO_ok (hq : OkQ oq) (k w : Int) : OkQ (wrO oq k w) := by
 unfold wrO; split
 ·rename_i h
  refine ⟨by simp; omega, fun z hz => ?_⟩
  rcases List.mem_append.1 hz with hz | hz
  ·exact hq.words z hz
  ·rw [List.mem_singleton.1 hz]; exact wd_word w
 ·exact hq
def badI (op d a i : Int) : Bool :=
 if op ≤ 11 then decide (15 < i) else if op = 13 ∨ op = 19 then decide (a ≠ 0) else if op = 21 then decide (10 < i ∨ a ≠ 0) else if op = 22 then decide (10 < i ∨ d ≠ 0)
 else if 23 ≤ op then decide (d ≠ 0 ∨ a ≠ 0 ∨ i ≠ 0) else false
def insM (op d a i : Int) : Int :=
 if (1 ≤ op ∧ op ≤ 26) ∧ (0 ≤ d ∧ d ≤ 15) ∧ (0 ≤ a ∧ a ≤ 15) ∧ (0 ≤ i ∧ i ≤ 65535) then (if badI op d a i = true then 1 else 0) else 3
theorem implIns_e (op d a i : Int) : F_bf ((op, d, a, i, ()), ()) = some ((insM op d a i, ()), ()) := by
 unfold F_bf insM
 dsimp only
 rw [within_eq, Option.bind_some, within_eq, Option.bind_some, within_eq, Option.bind_some, within_eq, Option.bind_some]
 dsimp only
 by_cases h1 : 1 ≤ op ∧ op ≤ 26
 ·by_cases h2 : 0 ≤ d ∧ d ≤ 15
  ·by_cases h3 : 0 ≤ a ∧ a ≤ 15
   ·by_cases h4 : 0 ≤ i ∧ i ≤ 65535
    ·rw [if_pos (c := (1 ≤ op ∧ op ≤ 26) ∧ (0 ≤ d ∧ d ≤ 15) ∧ (0 ≤ a ∧ a ≤ 15) ∧ (0 ≤ i ∧ i ≤ 65535)) ⟨h1, h2, h3, h4⟩, if_pos (by simp [h1]), if_pos (by simp [h2]), if_pos (by simp [h3]), if_neg (by simp [h4])]
     unfold badI
     simp only [leI_eq, ltI_eq, beq_iff_eq, bne_iff_ne, decide_eq_true_eq, decide_eq_false_iff_not, Bool.not_eq_true, bne_eq_false_iff_eq, ne_eq]
     repeat' split
     all_goals first | rfl | (exfalso; simp_all; done) | (exfalso; simp_all; omega) | (exfalso; omega)
    ·rw [if_neg (c := (1 ≤ op ∧ op ≤ 26) ∧ (0 ≤ d ∧ d ≤ 15) ∧ (0 ≤ a ∧ a ≤ 15) ∧ (0 ≤ i ∧ i ≤ 65535)) (by omega), if_pos (by simp [h1]), if_pos (by simp [h2]), if_pos (by simp [h3]), if_pos (by simp; omega)]
   ·rw [if_neg (c := (1 ≤ op ∧ op ≤ 26) ∧ (0 ≤ d ∧ d ≤ 15) ∧ (0 ≤ a ∧ a ≤ 15) ∧ (0 ≤ i ∧ i ≤ 65535)) (by omega), if_pos (by simp [h1]), if_pos (by simp [h2]), if_neg (by simp; omega)]
  ·rw [if_neg (c := (1 ≤ op ∧ op ≤ 26) ∧ (0 ≤ d ∧ d ≤ 15) ∧ (0 ≤ a ∧ a ≤ 15) ∧ (0 ≤ i ∧ i ≤ 65535)) (by omega), if_pos (by simp [h1]), if_neg (by simp; omega)]
 ·rw [if_neg (c := (1 ≤ op ∧ op ≤ 26) ∧ (0 ≤ d ∧ d ≤ 15) ∧ (0 ≤ a ∧ a ≤ 15) ∧ (0 ≤ i ∧ i ≤ 65535)) (by omega), if_neg (by simp; omega)]
def bareD (op : Int) : Bool := decide (op = 22 ∨ 23 ≤ op)
def bareA (op : Int) : Bool := decide (op = 13 ∨ op = 19 ∨ op = 21 ∨ 23 ≤ op)
def bareI (op : Int) : Bool := decide (23 ≤ op)
theorem specBare_e {op : Int} (h : op ≤ 26) : F_s (op, ()) = some ((bareD op, bareA op, bareI op, ()), ()) := by
 have hc : op = 13 ∨ op = 19 ∨ op = 21 ∨ op = 22 ∨ op = 23 ∨ op = 24 ∨ op = 25 ∨ op = 26 ∨ (¬ op = 13 ∧ ¬ op = 19 ∧ ¬ op = 21 ∧ ¬ op = 22 ∧ ¬ op = 23 ∧ ¬ op = 24 ∧ ¬ op = 25 ∧ ¬ op = 26) := by omega
 rcases hc with rfl | rfl | rfl | rfl | rfl | rfl | rfl | rfl | ⟨n1, n2, n3, n4, n5, n6, n7, n8⟩
 iterate 8 rfl
 have e3 : ¬ 23 ≤ op := by omega
 unfold F_s bareD bareA bareI
 simp [n1, n2, n3, n4, n5, n6, n7, n8, e3]
theorem specIns_e (op d a i : Int) : F_v ((op, d, a, i, ()), ()) = some ((insM op d a i, ()), ()) := by
 unfold F_v insM
 dsimp only
 rw [l1In_eq, Option.bind_some, l1In_eq, Option.bind_some, l1In_eq, Option.bind_some, l1In_eq, Option.bind_some]
 dsimp only
 by_cases h1 : 1 ≤ op ∧ op ≤ 26
 ·by_cases h2 : 0 ≤ d ∧ d ≤ 15
  ·by_cases h3 : 0 ≤ a ∧ a ≤ 15
   ·by_cases h4 : 0 ≤ i ∧ i ≤ 65535
    ·rw [if_pos (c := (1 ≤ op ∧ op ≤ 26) ∧ (0 ≤ d ∧ d ≤ 15) ∧ (0 ≤ a ∧ a ≤ 15) ∧ (0 ≤ i ∧ i ≤ 65535)) ⟨h1, h2, h3, h4⟩, if_pos (by simp [h1]), if_pos (by simp [h2]), if_pos (by simp [h3]), if_neg (by simp [h4]), specBare_e h1.2, Option.bind_some]
     unfold badI
     dsimp only
     have hb : (bareD op = true ↔ (op = 22 ∨ 23 ≤ op)) ∧ (bareA op = true ↔ (op = 13 ∨ op = 19 ∨ op = 21 ∨ 23 ≤ op)) ∧ (bareI op = true ↔ 23 ≤ op) := by
      unfold bareD bareA bareI; simp
     generalize bareD op = bd at *
     generalize bareA op = ba at *
     generalize bareI op = bi at *
     by_cases c1 : op ≤ 11
     ·have q1 : bd = false := by rw [Bool.eq_false_iff]; intro e; have := hb.1.1 e; omega
      have q2 : ba = false := by rw [Bool.eq_false_iff]; intro e; have := hb.2.1.1 e; omega
      have q3 : bi = false := by rw [Bool.eq_false_iff]; intro e; have := hb.2.2.1 e; omega
      have n1 : ¬ op = 21 := by omega
      have n2 : ¬ op = 22 := by omega
      by_cases hi : 15 < i <;> simp [q1, q2, q3, c1, hi, leI_eq, ltI_eq, n1, n2]
     ·by_cases c2 : 23 ≤ op
      ·have q1 : bd = true := hb.1.2 (.inr c2)
       have q2 : ba = true := hb.2.1.2 (.inr (.inr (.inr c2)))
       have q3 : bi = true := hb.2.2.2 c2
       have n1 : ¬ op = 21 := by omega
       have n2 : ¬ op = 22 := by omega
       have n3 : ¬ op = 13 := by omega
       have n4 : ¬ op = 19 := by omega
       by_cases hd : d = 0 <;> by_cases ha' : a = 0 <;> by_cases hi : i = 0 <;> simp [q1, q2, q3, c1, c2, hd, ha', hi, leI_eq, ltI_eq, n1, n2, n3, n4]
      ·have q3 : bi = false := by rw [Bool.eq_false_iff]; intro e; have := hb.2.2.1 e; omega
       by_cases c3 : op = 22
       ·have q1 : bd = true := hb.1.2 (.inl c3)
        have q2 : ba = false := by rw [Bool.eq_false_iff]; intro e; have := hb.2.1.1 e; omega
        subst c3
        by_cases hd : d = 0 <;> by_cases hi : 10 < i <;> simp [q1, q2, q3, hd, hi, leI_eq, ltI_eq]
       ·have q1 : bd = false := by rw [Bool.eq_false_iff]; intro e; have := hb.1.1 e; omega
        by_cases c4 : op = 21
        ·have q2 : ba = true := hb.2.1.2 (by omega)
         subst c4
         by_cases ha' : a = 0 <;> by_cases hi : 10 < i <;> simp [q1, q2, q3, ha', hi, leI_eq, ltI_eq]
        ·by_cases c5 : op = 13 ∨ op = 19
         ·have q2 : ba = true := hb.2.1.2 (by omega)
          by_cases ha' : a = 0 <;> simp [q1, q2, q3, ha', c1, c3, c4, c5, leI_eq, ltI_eq]
         ·have q2 : ba = false := by rw [Bool.eq_false_iff]; intro e; have := hb.2.1.1 e; omega
          simp [q1, q2, q3, c1, c2, c3, c4, c5, leI_eq, ltI_eq]
    ·rw [if_neg (c := (1 ≤ op ∧ op ≤ 26) ∧ (0 ≤ d ∧ d ≤ 15) ∧ (0 ≤ a ∧ a ≤ 15) ∧ (0 ≤ i ∧ i ≤ 65535)) (by omega), if_pos (by simp [h1]), if_pos (by simp [h2]), if_pos (by simp [h3]), if_pos (by simp; omega)]
   ·rw [if_neg (c := (1 ≤ op ∧ op ≤ 26) ∧ (0 ≤ d ∧ d ≤ 15) ∧ (0 ≤ a ∧ a ≤ 15) ∧ (0 ≤ i ∧ i ≤ 65535)) (by omega), if_pos (by simp [h1]), if_pos (by simp [h2]), if_neg (by simp; omega)]
  ·rw [if_neg (c := (1 ≤ op ∧ op ≤ 26) ∧ (0 ≤ d ∧ d ≤ 15) ∧ (0 ≤ a ∧ a ≤ 15) ∧ (0 ≤ i ∧ i ≤ 65535)) (by omega), if_pos (by simp [h1]), if_neg (by simp; omega)]
 ·rw [if_neg (c := (1 ≤ op ∧ op ≤ 26) ∧ (0 ≤ d ∧ d ≤ 15) ∧ (0 ≤ a ∧ a ≤ 15) ∧ (0 ≤ i ∧ i ≤ 65535)) (by omega), if_neg (by simp; omega)]
abbrev InsW := Int × Int × Int × Int × Unit
def decM (w : Int) : InsW := (w / 16777216, w / 1048576 % 16, w / 65536 % 16, w % 65536, ())
def decF (w : Int) : Int := insM (decM w).1 (decM w).2.1 (decM w).2.2.1 (decM w).2.2.2.1
theorem specDec_e {w : Int} (h : WW w) : F_cv (w, ()) = some ((decM w, decide (decF w = 0), ()), ()) := by
 unfold F_cv
 dsimp only
 rw [l1In_eq, Option.bind_some]
 dsimp only
 have hok : (decide (w ≥ 0) && decide (w ≤ 4294967295)) = true := okW_iff.2 h
 rw [if_neg (by rw [hok]; decide), mask4, mask4, mask16, fdiv_pow h.1, fdiv_pow h.1, fdiv_pow h.1, specIns_e, Option.bind_some]
 rfl
theorem implDec_e {w : Int} (h : WW w) : F_bg (w, ()) = some ((if decF w = 0 then (0, decM w, ()) else (5, (0, 0, 0, 0, ()), ()), ()), ()) := by
 unfold F_bg
 dsimp only
 rw [mask4, mask4, mask16, fdiv_pow h.1, fdiv_pow h.1, fdiv_pow h.1, implIns_e, Option.bind_some]
 dsimp only
 have e : insM (w / 2 ^ 24) (w / 2 ^ 20 % 16) (w / 2 ^ 16 % 16) (w % 65536) = decF w := rfl
 rw [e]
 by_cases h0 : decF w = 0
 ·rw [if_neg (by simpa using h0), if_pos h0]; rfl
 ·rw [if_pos (by simpa using h0), if_neg h0]
theorem decF_ok {w : Int} (h : decF w = 0) : (1 ≤ (decM w).1 ∧ (decM w).1 ≤ 26) ∧ (0 ≤ (decM w).2.1 ∧ (decM w).2.1 ≤ 15) ∧ (0 ≤ (decM w).2.2.1 ∧ (decM w).2.2.1 ≤ 15) ∧ (0 ≤ (decM w).2.2.2.1 ∧ (decM w).2.2.2.1 ≤ 65535) ∧
  ((decM w).1 ≤ 11 → (decM w).2.2.2.1 ≤ 15) ∧ ((decM w).1 = 21 ∨ (decM w).1 = 22 → (decM w).2.2.2.1 ≤ 10) := by
 unfold decF insM at h
 generalize decM w = x at *
 obtain ⟨op, d, a, i, _⟩ := x
 simp only at *
 split at h
 ·rename_i hin
  split at h
  ·omega
  ·rename_i hb
   refine ⟨hin.1, hin.2.1, hin.2.2.1, hin.2.2.2, fun h11 => ?_, fun h2 => ?_⟩
   ·unfold badI at hb
    rw [if_pos h11] at hb
    simpa using hb
   ·unfold badI at hb
    rw [if_neg (by omega), if_neg (by omega)] at hb
    rcases h2 with h2 | h2
    ·rw [if_pos h2] at hb; simp at hb; omega
    ·rw [if_neg (by omega), if_pos h2] at hb; simp at hb; omega
 ·omega
end
/-- A machine. -/
structure Mc where
 r : List Int
 pc : Int
 cs : List Int
 ha : Bool
 wa : Bool
 ru : Bool
 dn : Int
 iq : List Int
 oq : List Int
 m : List Int
 ring : Int
 fall : Int
abbrev BusD := List TwoD × List Int × Int × List Int × Int × List Int × Bool × Bool × Bool × Int × List Int × List Int × Int × Unit
abbrev CoreD := List Int × Int × List Int × Bool × Bool × Bool × Int × List Int × List Int × List TwoD × List Int × Int × Int × Unit
def Mc.bus (s : Mc) (l : List TwoD) : BusD := (l, s.m, s.ring, s.r, s.pc, s.cs, s.ha, s.wa, s.ru, s.dn, s.iq, s.oq, s.fall, ())
def Mc.core (s : Mc) (l : List TwoD) : CoreD := (s.r, s.pc, s.cs, s.ha, s.wa, s.ru, s.dn, s.iq, s.oq, l, s.m, s.fall, s.ring, ())
def Mc.trap (s : Mc) (cause tval : Int) : Mc := { s with pc := s.cs.getD 1 0, cs := trapC s.cs s.pc cause tval, wa := false, fall := cause }
structure OkS (s : Mc) (l : List TwoD) : Prop where
 r : OkR s.r
 pc : WW s.pc
 c : OkC s.cs
 i : OkQ s.iq
 o : OkQ s.oq
 d : 0 ≤ s.dn ∧ s.dn ≤ 1000000000
 l : OkL l s.m
section
variable {r cs iq oq m : List Int} {pc dn ring fall : Int} {ha wa ru : Bool} {l : List TwoD} {s : Mc}
theorem trap_ok (h : OkS s l) {cause tval : Int} (h1 : WW cause) (h2 : WW tval) : OkS (s.trap cause tval) l :=
 ⟨h.r, h.c.w (by decide), trapC_ok h.c h.pc h1 h2, h.i, h.o, h.d, h.l⟩
theorem specFall_e (hc : OkC cs) (cause tval : Int) : F_co ((l, m, ring, r, pc, cs, ha, wa, ru, dn, iq, oq, fall, ()), cause, tval, ()) =
  some ((), ((l, m, ring, r, cs.getD 1 0, trapC cs pc cause tval, ha, false, ru, dn, iq, oq, cause, ()), ())) := by
 unfold F_co
 dsimp only
 rw [specTrap_e hc, Option.bind_some]
theorem implFail_e (hc : OkC cs) (cause tval : Int) : F_av ((r, pc, cs, ha, wa, ru, dn, iq, oq, l, m, fall, ring, ()), cause, tval, ()) =
  some ((), ((r, cs.getD 1 0, trapC cs pc cause tval, ha, false, ru, dn, iq, oq, l, m, cause, ring, ()), ())) := by
 unfold F_av
 dsimp only
 rw [implTrap_e hc, Option.bind_some]
def takenM (op d a : Int) : Bool := if op = 16 then decide (d = a) else if op = 17 then decide (d ≠ a) else decide (sg d < sg a)
/-- Goes it on? where, with which result, and what has become of the machine. -/
def exM (s : Mc) (l : List TwoD) (op d a i : Int) : Bool × Int × Int × Mc :=
 let next := addW s.pc 1
 let far := addW s.pc (off i)
 let rd := s.r.getD d.toNat 0
 let ra := s.r.getD a.toNat 0
 let p := addW ra (off i)
 if op = 12 then (true, next, p, s)
 else if op = 13 then (true, next, i * 65536, s)
 else if op = 14 then
  (if (placeM s.cs l s.m p 1).2 ≠ 0 then (false, 0, 0, s.trap 3 p)
   else if 1000 ≤ (placeM s.cs l s.m p 1).1 then (true, next, (readM s.cs s.ru s.dn s.iq ((placeM s.cs l s.m p 1).1 - 1000)).1, { s with iq := (readM s.cs s.ru s.dn s.iq ((placeM s.cs l s.m p 1).1 - 1000)).2 })
   else (true, next, s.m.getD (placeM s.cs l s.m p 1).1.toNat 0, s))
 else if op = 15 then
  (if (placeM s.cs l s.m p 2).2 ≠ 0 then (false, 0, 0, s.trap 4 p)
   else if 1000 ≤ (placeM s.cs l s.m p 2).1 then (true, next, 0, { s with ring := ringM ((placeM s.cs l s.m p 2).1 - 1000) rd, cs := wrC s.cs ((placeM s.cs l s.m p 2).1 - 1000) rd, ru := wrR s.ru ((placeM s.cs l s.m p 2).1 - 1000) rd, oq := wrO s.oq ((placeM s.cs l s.m p 2).1 - 1000) rd })
   else (true, next, 0, { s with m := s.m.set (placeM s.cs l s.m p 2).1.toNat rd }))
 else if op = 16 ∨ op = 17 ∨ op = 18 then (true, if takenM op rd ra = true then far else next, 0, s)
 else if op = 19 then (true, far, next, s)
 else if op = 20 then (true, p, next, s)
 else if op = 21 then (true, next, getM s.cs s.ru s.dn s.iq i, s)
 else if op = 22 then (true, next, 0, { s with cs := setC s.cs i ra, ru := setR s.ru i ra })
 else if op = 23 then (false, 0, 0, s.trap 5 0)
 else if op = 24 then (true, s.cs.getD 2 0, 0, { s with pc := s.cs.getD 2 0, cs := backC s.cs })
 else if op = 25 then (true, next, 0, { s with wa := true })
 else if op = 26 then (true, s.pc, 0, { s with ha := true })
 else (true, next, aluW op ra (s.r.getD i.toNat 0), s)
def wrD (op : Int) : Bool := decide ((1 ≤ op ∧ op ≤ 14) ∨ (19 ≤ op ∧ op ≤ 21))
def doM (s : Mc) (l : List TwoD) (op d a i : Int) : Bool × Mc :=
 let e := exM s l op d a i
 if e.1 = true then (true, { e.2.2.2 with pc := e.2.1, r := if wrD op = true ∧ 0 < d then e.2.2.2.r.set d.toNat e.2.2.1 else e.2.2.2.r }) else (false, e.2.2.2)
structure OkI (op d a i : Int) : Prop where
 hop : 1 ≤ op ∧ op ≤ 26
 hd : 0 ≤ d ∧ d ≤ 15
 ha : 0 ≤ a ∧ a ≤ 15
 hi : 0 ≤ i ∧ i ≤ 65535
 i11 : op ≤ 11 → i ≤ 15
 i21 : op = 21 ∨ op = 22 → i ≤ 10
theorem specPut_e (hr : OkR r) {d : Int} (hd : 0 ≤ d ∧ d ≤ 15) (w : Int) : F_cy ((l, m, ring, r, pc, cs, ha, wa, ru, dn, iq, oq, fall, ()), d, w, ()) =
  some ((), ((l, m, ring, if 0 < d then r.set d.toNat w else r, pc, cs, ha, wa, ru, dn, iq, oq, fall, ()), ())) := by
 unfold F_cy
 dsimp only
 by_cases h0 : d = 0
 ·subst h0; rfl
 ·have hin : 0 ≤ d ∧ d < ((r.length : Nat) : Int) := by rw [hr.len]; omega
  rw [if_pos (by simpa using h0), if_pos hin, get_bind 0 (by rw [hr.len]; omega), if_pos (c := 0 < d) (by omega)]
end
end Go.Proofs.YtajnommlfjfgpaaGreatDoor
