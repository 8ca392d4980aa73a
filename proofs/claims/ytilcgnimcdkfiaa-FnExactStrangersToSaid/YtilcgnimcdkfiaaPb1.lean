/- Plain laws: what the functions compute, and that both programs compute the same. -/
import Derived.Test.YtilcgnimcdkfiaaGa2
namespace Go.Proofs.Ytilcgnimcdkfiaa
open Go Go.RowKit S Go.Proofs
set_option maxRecDepth 100000
set_option linter.unusedVariables false
set_option linter.unusedSimpArgs false
theorem set_take {m out : List Int} {i : Int} {y : Int} (h0 : 0 ≤ i) (h : i < (m.length : Int)) (hl : out.length = m.length) (hy : m.drop i.toNat = y :: m.drop (i + 1).toNat) :
  (out.set i.toNat y).take (i + 1).toNat ++ m.drop (i + 1).toNat = out.take i.toNat ++ m.drop i.toNat := by
 have e : (i + 1).toNat = i.toNat + 1 := by omega
 rw [hy, e, List.take_add_one, List.take_set_of_le (Nat.le_refl _)]
 rw [List.getElem?_set_self (by omega)]
 simp
theorem toInt64S_loop (m out : List Int) (i : Int) (h0 : 0 ≤ i) (h1 : i ≤ (m.length : Int)) (h2 : out.length = m.length) (h3 : m.length ≤ maxLen) :
  L_g_3 ((m, out, i, ()), (), ()) = some (.inl ((out.take i.toNat ++ m.drop i.toNat, ()), (), ())) := by
 refine iter_map (γ := denO o_g_3) (step := l_g_3) (β := List Int × Int) (fun b => ((m, b.1, b.2, ()), (), ())) (fun b => 0 ≤ b.2 ∧ b.2 ≤ (m.length : Int) ∧ b.1.length = m.length)
  (fun b => some (.inl ((b.1.take b.2.toNat ++ m.drop b.2.toNat, ()), (), ()))) (fun b => (m.length - b.2).toNat) ?_ lots (out, i) ⟨h0, h1, h2⟩ (by rw [maxLen_eq] at h3; rw [lots_eq]; simp only; omega)
 rintro rec ⟨out, i⟩ ⟨h0, h1, h2⟩ ih
 simp only at h0 h1 h2 ih ⊢
 unfold l_g_3
 simp only [ltI_eq, leI_eq, decide_eq_true_eq, ge_iff_le, gt_iff_lt]
 by_cases hlt : i < (m.length : Int)
 ·obtain ⟨y, hy, _, hd⟩ := at_lt h0 hlt
  have ho : i.toNat < out.length := by omega
  have hb : 0 ≤ i ∧ i < (out.length : Int) := by omega
  rw [if_pos hlt, if_pos h0, hy, Option.bind_some, if_pos hb, List.getElem?_eq_getElem ho, Option.bind_some, step64 h0 hlt h3]
  rw [ih (_, _) ⟨by simp only; omega, by simp only; omega, by simp only [List.length_set]; exact h2⟩ (by simp only; omega)]
  simp only
  rw [set_take h0 hlt h2 hd]
 ·rw [if_neg hlt, drop_end hlt, List.append_nil, List.take_of_length_le (by omega)]
theorem toInt64S_eq (m : List Int) (h : m.length * 8 ≤ 140737488355328) : F_g (m, ()) = some ((m, ()), ()) := by
 unfold F_g
 simp only
 rw [if_pos ?_, toInt64S_loop _ _ _ (by simp) (by simp) (by simp) (by rw [maxLen_eq]; omega)]
 ·simp
 ·refine ⟨trivial, ?_, ?_, ?_⟩ <;> omega
theorem eqInt64S_loop (m : List Int) (i : Int) (h0 : 0 ≤ i) (h1 : i ≤ (m.length : Int)) (h3 : m.length ≤ maxLen) :
  L_bo_4 ((m, m, i, ()), (), ()) = some (.inl ((), ((), ()))) := by
 refine iter_map (γ := denO o_bo_4) (step := l_bo_4) (β := Int) (fun i => ((m, m, i, ()), (), ())) (fun i => 0 ≤ i ∧ i ≤ (m.length : Int)) (fun _ => some (.inl ((), ((), ()))))
  (fun i => (m.length - i).toNat) ?_ lots _ ⟨h0, h1⟩ (by rw [maxLen_eq] at h3; rw [lots_eq]; omega)
 rintro rec i ⟨h0, h1⟩ ih
 simp only at h0 h1 ih ⊢
 unfold l_bo_4
 simp only [ltI_eq, leI_eq, decide_eq_true_eq, ge_iff_le, gt_iff_lt]
 by_cases hlt : i < (m.length : Int)
 ·obtain ⟨y, hy, _, hd⟩ := at_lt h0 hlt
  rw [if_pos hlt, if_pos h0, hy, Option.bind_some, if_pos h0, Option.bind_some, if_neg (by simp), step64 h0 hlt h3]
  exact ih _ ⟨by omega, by omega⟩ (by omega)
 ·rw [if_neg hlt]
theorem eqInt64S_eq (m : List Int) (h : m.length ≤ maxLen) : F_bo (m, m, ()) = some ((true, ()), ()) := by
 unfold F_bo
 simp only
 rw [if_neg (by simp), eqInt64S_loop _ _ (by simp) (by simp) h]
 simp
def okW (w : Int) : Bool := decide (w ≥ 0) && decide (w ≤ 4294967295)
def allW (m : List Int) : Bool := m.all okW
theorem l1In_eq (n a b : Int) : F_p (n, a, b, ()) = some ((decide (n ≥ a) && decide (n ≤ b), ()), ()) := by
 unfold F_p
 simp only [ltI_eq, leI_eq, decide_eq_true_eq, ge_iff_le, gt_iff_lt]
 split
 ·rename_i h; simp [h]
 ·rename_i h; simp [h]
theorem within_eq (n a b : Int) : F_ae (n, a, b, ()) = some ((decide (n ≥ a) && decide (n ≤ b), ()), ()) := by
 unfold F_ae
 simp only [ltI_eq, leI_eq, decide_eq_true_eq, ge_iff_le, gt_iff_lt]
 split
 ·rename_i h; simp [h]
 ·rename_i h; simp [h]
def memFault (m : List Int) : Int := if m.length % 8 = 0 ∧ 8 ≤ m.length ∧ m.length ≤ 192 then (if allW m = true then 0 else 3) else 1
abbrev HartD := den (.pair (.slice (.int .i64)) (.pair (.int .i64) (.pair (.slice (.int .i64)) (.pair .bool (.pair .bool (.pair .bool (.pair (.int .i64) (.pair (.slice (.int .i64)) (.pair (.slice (.int .i64)) .unit)))))))))
/-- No list of it is longer. -/
def hartLe (n : Nat) (h : HartD) : Prop := h.1.length ≤ n ∧ h.2.2.1.length ≤ n ∧ h.2.2.2.2.2.2.2.1.length ≤ n ∧ h.2.2.2.2.2.2.2.2.1.length ≤ n
theorem szInt_eq (m : List Int) (n : Int) (h0 : 0 ≤ n) (h1 : n ≤ 1048576) (h2 : m.length ≤ maxLen) : ∃ r : Int, F_a (m, n, ()) = some ((r, ()), ()) ∧ (r < 0 ∨ (0 ≤ r ∧ r ≤ n ∧ m.length ≤ 1048576)) := by
 unfold F_a
 have hw : IntKind.i64.wrap (n - (m.length : Int)) = n - (m.length : Int) := by
  rw [maxLen_eq] at h2
  exact wrap64 (by omega) (by omega)
 simp only [ltI_eq, decide_eq_true_eq]
 by_cases hlt : n - (m.length : Int) < 0
 ·exact ⟨-1, by rw [if_pos (show IntKind.i64.wrap (n - (m.length : Int)) < 0 by rw [hw]; exact hlt)], .inl (by omega)⟩
 ·exact ⟨n - (m.length : Int), by rw [if_neg (show ¬ IntKind.i64.wrap (n - (m.length : Int)) < 0 by rw [hw]; exact hlt), hw], .inr ⟨by omega, by omega, by omega⟩⟩
theorem le8 {n : Nat} (h : n ≤ 1048576) : n * 8 ≤ 140737488355328 := by omega
theorem leM {n : Nat} (h : n ≤ 1048576) : n ≤ maxLen := by rw [maxLen_eq]; omega
def seqFrom (k : Int) : Nat → List Int
 | 0 => []
 | n + 1 => k :: seqFrom (k + 1) n
theorem seqFrom_len : ∀ (n : Nat) (k : Int), (seqFrom k n).length = n
 | 0, _ => rfl
 | n + 1, k => by simp [seqFrom, seqFrom_len n]
theorem set_take' {out : List Int} {i : Nat} {y : Int} (h : i < out.length) : (out.set i y).take (i + 1) = out.take i ++ [y] := by
 rw [List.take_add_one, List.take_set_of_le (Nat.le_refl _), List.getElem?_set_self h]
 rfl
theorem mark_loop (row : List Int) (k : Int) (i : Nat) (h1 : i ≤ row.length) (h3 : row.length ≤ 1048576) (hk : 0 ≤ k ∧ k ≤ 1152921504616846976) :
  L_by_2 (((), k, (i : Int), ()), (), row, ()) = some (.inl ((k + ((row.length - i : Nat) : Int), ()), (), row.take i ++ seqFrom k (row.length - i), ())) := by
 have key : ∀ (n : Nat) (row : List Int) (k : Int) (i : Nat), row.length - i < n → i ≤ row.length → row.length ≤ 1048576 → 0 ≤ k → k + ((row.length - i : Nat) : Int) ≤ 2305843009213693952 →
   iterF l_by_2 n (((), k, (i : Int), ()), (), row, ()) = some (.inl ((k + ((row.length - i : Nat) : Int), ()), (), row.take i ++ seqFrom k (row.length - i), ())) := by
  intro n
  induction n with
  | zero => intro row k i h; omega
  | succ n ih =>
   intro row k i hn h1 h3 hk hk2
   simp only [iterF]
   generalize hrec : iterF l_by_2 n = rec at ih ⊢
   unfold l_by_2
   simp only [ltI_eq, decide_eq_true_eq]
   by_cases hlt : i < row.length
   ·have e1 : ((i : Int)).toNat = i := by omega
    have hlt' : (i : Int) < (row.length : Int) := by omega
    have hb : (0 : Int) ≤ (i : Int) ∧ (i : Int) < (row.length : Int) := by omega
    rw [if_pos hlt', if_pos hb, e1, List.getElem?_eq_getElem hlt, Option.bind_some, wrap64 (n := (i : Int) + 1) (by omega) (by omega), wrap64 (n := k + 1) (by omega) (by omega)]
    have := ih (row.set i k) (k + 1) (i + 1) (by simp; omega) (by simp; omega) (by simp; omega) (by omega) (by simp; omega)
    simp only [List.length_set] at this
    have e2 : (((i + 1 : Nat)) : Int) = (i : Int) + 1 := by omega
    rw [e2] at this
    rw [this, set_take' hlt]
    have e3 : row.length - i = (row.length - (i + 1)) + 1 := by omega
    rw [e3, seqFrom]
    have e4 : k + 1 + ((row.length - (i + 1) : Nat) : Int) = k + (((row.length - (i + 1)) + 1 : Nat) : Int) := by omega
    rw [e4]
    simp
   ·have hge : ¬ ((i : Int) < (row.length : Int)) := by omega
    rw [if_neg hge]
    have e3 : row.length - i = 0 := by omega
    rw [e3, seqFrom, List.take_of_length_le (by omega)]
    simp
 exact key lots row k i (by rw [lots_eq]; omega) h1 h3 hk.1 (by omega)
theorem mark_eq (row : List Int) (k : Int) (h3 : row.length ≤ 1048576) (hk : 0 ≤ k ∧ k ≤ 1152921504616846976) : F_by (row, k, ()) = some ((k + (row.length : Int), ()), (seqFrom k row.length, ())) := by
 unfold F_by
 have := mark_loop row k 0 (by omega) h3 hk
 simp only [Nat.sub_zero, List.take_zero, List.nil_append] at this
 have e : ((0 : Nat) : Int) = 0 := rfl
 rw [e] at this
 rw [this, Option.bind_some]
 simp only
 rw [if_pos (by rw [seqFrom_len]; simp)]
theorem held_loop : ∀ (n rounds : Nat) (k : Int) (pre : List Int), n < rounds → pre.length + n ≤ 1048576 → 0 ≤ k → k + (n : Int) ≤ 2305843009213693952 →
  iterF l_cf_2 rounds ((pre ++ seqFrom k n, k, (pre.length : Int), ()), (), ()) = some (.inl ((k + (n : Int), ()), (), ()))
 | n, 0, _, _, h, _, _, _ => by omega
 | 0, r + 1, k, pre, _, h, _, _ => by
  simp only [iterF]
  unfold l_cf_2
  simp only [ltI_eq, decide_eq_true_eq, seqFrom, List.append_nil]
  have : ¬ ((pre.length : Int) < (pre.length : Int)) := by omega
  rw [if_neg this]
  simp
 | n + 1, r + 1, k, pre, hn, h, hk, hk2 => by
  have ih := held_loop n r (k + 1) (pre ++ [k]) (by omega) (by simp; omega) (by omega) (by omega)
  simp only [iterF]
  generalize iterF l_cf_2 r = rec at ih ⊢
  unfold l_cf_2
  simp only [ltI_eq, decide_eq_true_eq]
  have hlen : (pre ++ seqFrom k (n + 1)).length = pre.length + (n + 1) := by rw [List.length_append, seqFrom_len]
  have h1 : (pre.length : Int) < ((pre ++ seqFrom k (n + 1)).length : Int) := by rw [hlen]; omega
  have e1 : ((pre.length : Int)).toNat = pre.length := by omega
  have hat : (pre ++ seqFrom k (n + 1))[pre.length]? = some k := by
   rw [List.getElem?_append_right (Nat.le_refl _), Nat.sub_self]; rfl
  have h0 : (0 : Int) ≤ (pre.length : Int) := by omega
  rw [if_pos h1, if_pos h0, e1, hat, Option.bind_some, if_neg (by simp), wrap64 (n := k + 1) (by omega) (by omega), wrap64 (n := (pre.length : Int) + 1) (by omega) (by omega)]
  have e2 : pre ++ seqFrom k (n + 1) = (pre ++ [k]) ++ seqFrom (k + 1) n := by simp [seqFrom]
  have e3 : ((pre.length : Int) + 1) = ((pre ++ [k]).length : Int) := by simp
  rw [e2, e3, ih]
  have e4 : k + 1 + (n : Int) = k + ((n + 1 : Nat) : Int) := by omega
  rw [e4]
theorem held_eq (n : Nat) (k : Int) (h : n ≤ 1048576) (hk : 0 ≤ k ∧ k ≤ 1152921504616846976) : F_cf (seqFrom k n, k, ()) = some ((k + (n : Int), ()), ()) := by
 unfold F_cf
 have : L_cf_2 ((seqFrom k n, k, 0, ()), (), ()) = some (.inl ((k + (n : Int), ()), (), ())) := held_loop n lots k [] (by rw [lots_eq]; omega) (by simpa using h) hk.1 (by omega)
 rw [this]
 simp
theorem eqInts_eq (r : Int × List Int × Unit) (h : r.2.1.length ≤ maxLen) : F_bp (r, r, ()) = some ((true, ()), ()) := by
 unfold F_bp
 rw [if_neg (by simp), eqInt64S_eq r.2.1 h, Option.bind_some, if_neg (by simp)]
theorem markInts_eq (r : Int × List Int × Unit) (k : Int) (h3 : r.2.1.length ≤ 1048576) (hk : 0 ≤ k ∧ k ≤ 1152921504616846976) :
  F_ce ((r.1, r.2.1, ()), k, ()) = some ((k + (r.2.1.length : Int), ()), ((seqFrom k r.2.1.length, ()), ())) := by
 unfold F_ce
 rw [mark_eq r.2.1 k h3 hk, Option.bind_some]
 have hc : ((r.2.1.length == (seqFrom k r.2.1.length).length && true) && true) = true := by simp [seqFrom_len]
 rw [if_pos hc, if_pos hc]
theorem heldInts_eq (e : Int) (n : Nat) (k : Int) (h : n ≤ 1048576) (hk : 0 ≤ k ∧ k ≤ 1152921504616846976) :
  F_cg ((e, seqFrom k n, ()), k, ()) = some ((k + (n : Int), ()), ()) := by
 unfold F_cg
 rw [held_eq n k h hk, Option.bind_some]
 simp only [ltI_eq, decide_eq_true_eq]
 rw [if_neg (by omega)]
/-- A loop whose counter goes from i up to N at most. -/
theorem loopN {X γ σ : Type} {step : (X → Option γ) → X → Option γ} (emb : Nat → σ → X) (N : Nat) (hN : N < lots) (I : Nat → σ → Prop) (out : Nat → σ → Option γ)
  (h : ∀ rec i s, i ≤ N → I i s → (∀ s', i < N → I (i + 1) s' → rec (emb (i + 1) s') = out (i + 1) s') → step rec (emb i s) = out i s) :
  ∀ i s, i ≤ N → I i s → iterF step lots (emb i s) = out i s := by
 have key : ∀ n i s, N - i < n → i ≤ N → I i s → iterF step n (emb i s) = out i s := by
  intro n
  induction n with
  | zero => intro i s h; omega
  | succ n ih =>
   intro i s hn hi hI
   simp only [iterF]
   exact h _ i s hi hI fun s' hlt hI' => ih (i + 1) s' (by omega) (by omega) hI'
 intro i s hi hI
 exact key lots i s (by omega) hi hI
theorem lots_gt' {n : Nat} (h : n ≤ 9223372036854775807) : n < lots := by rw [lots_eq]; omega
theorem wrapS {i : Nat} (h : i < 9223372036854775807) : IntKind.i64.wrap ((i : Int) + 1) = ((i + 1 : Nat) : Int) := by rw [wrap64 (by omega) (by omega)]; rfl
theorem nat0 {i : Nat} : (0 : Int) ≤ (i : Int) := Int.natCast_nonneg i
/-- One step at a place of a list. -/
theorem at_get {α γ : Type} {m : List α} {i : Nat} (h : i < m.length) (K : α → Option γ) : (m[((i : Nat) : Int).toNat]?).bind K = K m[i] := by
 rw [Int.toNat_natCast, List.getElem?_eq_getElem h, Option.bind_some]
theorem drop_get {α : Type} {m : List α} {i : Nat} (h : i < m.length) : m.drop i = m[i] :: m.drop (i + 1) := List.drop_eq_getElem_cons h
theorem drop_all {α : Type} {m : List α} {i : Nat} (h : ¬ i < m.length) : m.drop i = [] := List.drop_of_length_le (by omega)
theorem ltN {a b : Nat} : ltI (a : Int) (b : Int) = decide (a < b) := by
 rw [ltI_eq]; by_cases h : a < b
 ·have : (a : Int) < b := by omega
  simp [h, this]
 ·have : ¬ (a : Int) < b := by omega
  simp [h, this]
theorem ltI_t {a b : Int} : ltI a b = true ↔ a < b := by rw [ltI_eq]; simp
theorem leI_t {a b : Int} : leI a b = true ↔ a ≤ b := by rw [leI_eq]; simp
theorem ltI_f {a b : Int} : ltI a b = false ↔ ¬ a < b := by rw [ltI_eq]; simp
theorem toS_loop {α β E : Type} {step : ((List α × List α × Int × Unit) × Unit × Unit → Option (((List α × Unit) × Unit × Unit) ⊕ E)) → (List α × List α × Int × Unit) × Unit × Unit → Option (((List α × Unit) × Unit × Unit) ⊕ E)}
  {f : α → Option β} {g : β → α}
  (hstep : ∀ rec m out i, step rec ((m, out, i, ()), (), ()) = if ltI i ((m.length : Nat) : Int) = true then (if 0 ≤ i then (m[i.toNat]?).bind fun y => (f y).bind fun r =>
   if 0 ≤ i ∧ i < ((out.length : Nat) : Int) then (out[i.toNat]?).bind fun _ => rec ((m, out.set i.toNat (g r), IntKind.i64.wrap (i + 1), ()), (), ()) else none else none) else some (.inl ((out, ()), (), ())))
  (m : List α) (hm : m.length ≤ 9223372036854775807) (hf : ∀ y ∈ m, ∃ r, f y = some r ∧ g r = y) (z : α) :
  iterF step lots ((m, List.replicate m.length z, 0, ()), (), ()) = some (.inl ((m, ()), (), ())) := by
 have key := loopN (step := step) (fun i (out : List α) => ((m, out, ((i : Nat) : Int), ()), (), ())) m.length (lots_gt' hm) (fun i out => out.length = m.length ∧ out.take i = m.take i) (fun _ _ => some (.inl ((m, ()), (), ()))) ?_ 0 (List.replicate m.length z) (by omega) ⟨by simp, by simp⟩
 ·exact key
 ·rintro rec i out hi ⟨hl, ht⟩ ih
  rw [hstep, ltN]
  by_cases hlt : i < m.length
  ·obtain ⟨r, h1, h2⟩ := hf m[i] (List.getElem_mem hlt)
   have hb : (0 : Int) ≤ (i : Int) ∧ (i : Int) < ((out.length : Nat) : Int) := by omega
   rw [if_pos (by simpa using hlt), if_pos nat0, at_get hlt, h1, Option.bind_some, if_pos hb, at_get (by omega), wrapS (by omega), Int.toNat_natCast]
   refine ih _ hlt ⟨by simp [hl], ?_⟩
   rw [List.take_add_one, List.take_set_of_le (Nat.le_refl _), List.getElem?_set_self (by omega), h2, ht, List.take_add_one, List.getElem?_eq_getElem hlt]
  ·rw [if_neg (by simpa using hlt)]
   have : out = m := by
    rw [List.take_of_length_le (by omega), List.take_of_length_le (by omega)] at ht
    exact ht
   rw [this]
theorem toS_thm {α β E : Type} {z : α} {by_ : Nat} {F : List α × Unit → Option ((List α × Unit) × Unit)} {step : ((List α × List α × Int × Unit) × Unit × Unit → Option (((List α × Unit) × Unit × Unit) ⊕ E)) → (List α × List α × Int × Unit) × Unit × Unit → Option (((List α × Unit) × Unit × Unit) ⊕ E)}
  {f : α → Option β} {g : β → α} {K : (((List α × Unit) × Unit × Unit) ⊕ E) → Option ((List α × Unit) × Unit)}
  (hF : ∀ m, F (m, ()) = if ((m.length : Nat) : Int) = ((m.length : Nat) : Int) ∧ 0 ≤ ((m.length : Nat) : Int) ∧ ((m.length : Nat) : Int) * (by_ : Int) ≤ 140737488355328 ∧ ((m.length : Nat) : Int) ≤ 9223372036854775807 then
   (iterF step lots ((m, List.replicate ((m.length : Nat) : Int).toNat z, 0, ()), (), ())).bind K else none)
  (hK : ∀ x, K (.inl x) = some ((x.1.1, ()), ()))
  (hstep : ∀ rec m out i, step rec ((m, out, i, ()), (), ()) = if ltI i ((m.length : Nat) : Int) = true then (if 0 ≤ i then (m[i.toNat]?).bind fun y => (f y).bind fun r =>
   if 0 ≤ i ∧ i < ((out.length : Nat) : Int) then (out[i.toNat]?).bind fun _ => rec ((m, out.set i.toNat (g r), IntKind.i64.wrap (i + 1), ()), (), ()) else none else none) else some (.inl ((out, ()), (), ())))
  (hb : by_ ≤ 1000) (m : List α) (hm : m.length ≤ 1048576) (hf : ∀ y ∈ m, ∃ r, f y = some r ∧ g r = y) : F (m, ()) = some ((m, ()), ()) := by
 have h1 : ((m.length : Nat) : Int) * (by_ : Int) ≤ 140737488355328 := by
  have : m.length * by_ ≤ 1048576 * 1000 := Nat.mul_le_mul hm hb
  have h2 : ((m.length * by_ : Nat) : Int) ≤ 1048576 * 1000 := by omega
  rw [Int.natCast_mul] at h2
  omega
 rw [hF, if_pos ⟨rfl, by omega, h1, by omega⟩, Int.toNat_natCast, toS_loop hstep m (by omega) hf, Option.bind_some, hK]
theorem eqS_loop {α E : Type} {step : ((List α × List α × Int × Unit) × Unit × Unit → Option ((Unit × Unit × Unit) ⊕ E)) → (List α × List α × Int × Unit) × Unit × Unit → Option ((Unit × Unit × Unit) ⊕ E)} {f : α → α → Option ((Bool × Unit) × Unit)} {no : Option ((Unit × Unit × Unit) ⊕ E)}
  (hstep : ∀ rec a b i, step rec ((a, b, i, ()), (), ()) = if ltI i ((a.length : Nat) : Int) = true then (if 0 ≤ i then (a[i.toNat]?).bind fun y => if 0 ≤ i then (b[i.toNat]?).bind fun y' => (f y y').bind fun r =>
   if (!r.1.1) = true then no else rec ((a, b, IntKind.i64.wrap (i + 1), ()), (), ()) else none else none) else some (.inl ((), (), ())))
  (m : List α) (hm : m.length ≤ 9223372036854775807) (hf : ∀ y ∈ m, f y y = some ((true, ()), ())) : iterF step lots ((m, m, 0, ()), (), ()) = some (.inl ((), (), ())) := by
 have key := loopN (step := step) (fun i (_ : Unit) => ((m, m, ((i : Nat) : Int), ()), (), ())) m.length (lots_gt' hm) (fun _ _ => True) (fun _ _ => some (.inl ((), (), ()))) ?_ 0 () (by omega) trivial
 ·exact key
 ·rintro rec i _ hi _ ih
  rw [hstep, ltN]
  by_cases hlt : i < m.length
  ·rw [if_pos (by simpa using hlt), if_pos nat0, at_get hlt, if_pos nat0, at_get hlt, hf _ (List.getElem_mem hlt), Option.bind_some, if_neg (by simp), wrapS (by omega)]
   exact ih () hlt trivial
  ·rw [if_neg (by simpa using hlt)]
theorem eqS_thm {α E : Type} {F : List α × List α × Unit → Option ((Bool × Unit) × Unit)} {step : ((List α × List α × Int × Unit) × Unit × Unit → Option ((Unit × Unit × Unit) ⊕ E)) → (List α × List α × Int × Unit) × Unit × Unit → Option ((Unit × Unit × Unit) ⊕ E)}
  {f : α → α → Option ((Bool × Unit) × Unit)} {no : Option ((Unit × Unit × Unit) ⊕ E)} {K : (Unit × Unit × Unit) ⊕ E → Option ((Bool × Unit) × Unit)}
  (hF : ∀ m, F (m, m, ()) = if (((m.length : Nat) : Int) != ((m.length : Nat) : Int)) = true then some ((false, ()), ()) else (iterF step lots ((m, m, 0, ()), (), ())).bind K)
  (hK : ∀ x, K (.inl x) = some ((true, ()), ()))
  (hstep : ∀ rec a b i, step rec ((a, b, i, ()), (), ()) = if ltI i ((a.length : Nat) : Int) = true then (if 0 ≤ i then (a[i.toNat]?).bind fun y => if 0 ≤ i then (b[i.toNat]?).bind fun y' => (f y y').bind fun r =>
   if (!r.1.1) = true then no else rec ((a, b, IntKind.i64.wrap (i + 1), ()), (), ()) else none else none) else some (.inl ((), (), ())))
  (m : List α) (hm : m.length ≤ 9223372036854775807) (hf : ∀ y ∈ m, f y y = some ((true, ()), ())) : F (m, m, ()) = some ((true, ()), ()) := by
 rw [hF, if_neg (by simp), eqS_loop hstep m hm hf, Option.bind_some, hK]
theorem szS_loop {α E : Type} {step : ((List α × Int × Int × Unit) × Unit × Unit → Option (((Int × Unit) × Unit × Unit) ⊕ (((Int × Unit) × Unit × Unit) ⊕ E))) → (List α × Int × Int × Unit) × Unit × Unit → Option (((Int × Unit) × Unit × Unit) ⊕ (((Int × Unit) × Unit × Unit) ⊕ E))}
  {f : α → Int → Option ((Int × Unit) × Unit)} {ok : α → Prop}
  (hstep : ∀ rec m k i, step rec ((m, k, i, ()), (), ()) = if ltI i ((m.length : Nat) : Int) = true then (if 0 ≤ i then (m[i.toNat]?).bind fun y => (f y k).bind fun r =>
   if ltI r.1.1 0 = true then some (.inr (.inl ((-1, ()), (), ()))) else rec ((m, r.1.1, IntKind.i64.wrap (i + 1), ()), (), ()) else none) else some (.inl ((k, ()), (), ())))
  (m : List α) (hm : m.length ≤ 9223372036854775807) (hf : ∀ y ∈ m, ∀ k : Int, 0 ≤ k → k ≤ 1048576 → ∃ r : Int, f y k = some ((r, ()), ()) ∧ (r < 0 ∨ (0 ≤ r ∧ r ≤ k ∧ ok y))) (k : Int) (h0 : 0 ≤ k) (h1 : k ≤ 1048576) :
  iterF step lots ((m, k, 0, ()), (), ()) = some (.inr (.inl ((-1, ()), (), ()))) ∨ ∃ r : Int, iterF step lots ((m, k, 0, ()), (), ()) = some (.inl ((r, ()), (), ())) ∧ 0 ≤ r ∧ r ≤ k ∧ ∀ y ∈ m, ok y := by
 have key : ∀ n (i : Nat) (k : Int), m.length - i < n → i ≤ m.length → 0 ≤ k → k ≤ 1048576 → (iterF step n ((m, k, ((i : Nat) : Int), ()), (), ()) = some (.inr (.inl ((-1, ()), (), ()))) ∨
   ∃ r : Int, iterF step n ((m, k, ((i : Nat) : Int), ()), (), ()) = some (.inl ((r, ()), (), ())) ∧ 0 ≤ r ∧ r ≤ k ∧ ∀ y ∈ m.drop i, ok y) := by
  intro n
  induction n with
  | zero => intro i k h; omega
  | succ n ih =>
   intro i k hn hi h0 h1
   simp only [iterF, hstep, ltN]
   by_cases hlt : i < m.length
   ·obtain ⟨r, e1, e2⟩ := hf m[i] (List.getElem_mem hlt) k h0 h1
    rw [if_pos (by simpa using hlt), if_pos nat0, at_get hlt, e1, Option.bind_some]
    simp only
    by_cases hr : r < 0
    ·left; rw [if_pos (ltI_t.2 hr)]
    ·rw [if_neg (by rw [ltI_t]; exact hr), wrapS (by omega)]
     have e2 := e2.resolve_left hr
     rcases ih (i + 1) r (by omega) (by omega) e2.1 (by omega) with h | ⟨q, g1, g2, g3, g4⟩
     ·exact .inl h
     ·refine .inr ⟨q, g1, g2, by omega, ?_⟩
      rw [drop_get hlt]
      intro y hy
      rcases List.mem_cons.1 hy with rfl | hy
      ·exact e2.2.2
      ·exact g4 y hy
   ·right
    refine ⟨k, by rw [if_neg (by simpa using hlt)], h0, by omega, ?_⟩
    rw [drop_all hlt]; simp
 simpa using key lots 0 k (by have := lots_gt' hm; omega) (by omega) h0 h1
theorem szS_thm {α E : Type} {F : List α × Int × Unit → Option ((Int × Unit) × Unit)} {step : ((List α × Int × Int × Unit) × Unit × Unit → Option (((Int × Unit) × Unit × Unit) ⊕ (((Int × Unit) × Unit × Unit) ⊕ E))) → (List α × Int × Int × Unit) × Unit × Unit → Option (((Int × Unit) × Unit × Unit) ⊕ (((Int × Unit) × Unit × Unit) ⊕ E))}
  {f : α → Int → Option ((Int × Unit) × Unit)} {ok : α → Prop} {K : (((Int × Unit) × Unit × Unit) ⊕ (((Int × Unit) × Unit × Unit) ⊕ E)) → Option ((Int × Unit) × Unit)}
  (hF : ∀ m k, F (m, k, ()) = if ltI (IntKind.i64.wrap (k - ((m.length : Nat) : Int))) 0 = true then some ((-1, ()), ()) else (iterF step lots ((m, IntKind.i64.wrap (k - ((m.length : Nat) : Int)), 0, ()), (), ())).bind K)
  (hK1 : ∀ x, K (.inl x) = some ((x.1.1, ()), ())) (hK2 : ∀ x, K (.inr (.inl x)) = some ((x.1.1, ()), ()))
  (hstep : ∀ rec m k i, step rec ((m, k, i, ()), (), ()) = if ltI i ((m.length : Nat) : Int) = true then (if 0 ≤ i then (m[i.toNat]?).bind fun y => (f y k).bind fun r =>
   if ltI r.1.1 0 = true then some (.inr (.inl ((-1, ()), (), ()))) else rec ((m, r.1.1, IntKind.i64.wrap (i + 1), ()), (), ()) else none) else some (.inl ((k, ()), (), ())))
  (m : List α) (hm : m.length ≤ maxLen) (hf : ∀ y ∈ m, ∀ k : Int, 0 ≤ k → k ≤ 1048576 → ∃ r : Int, f y k = some ((r, ()), ()) ∧ (r < 0 ∨ (0 ≤ r ∧ r ≤ k ∧ ok y))) (k : Int) (h0 : 0 ≤ k) (h1 : k ≤ 1048576) :
  ∃ r : Int, F (m, k, ()) = some ((r, ()), ()) ∧ (r < 0 ∨ (0 ≤ r ∧ r ≤ k ∧ m.length ≤ 1048576 ∧ ∀ y ∈ m, ok y)) := by
 rw [maxLen_eq] at hm
 rw [hF, wrap64 (by omega) (by omega)]
 by_cases hlt : k - ((m.length : Nat) : Int) < 0
 ·exact ⟨-1, by rw [if_pos (ltI_t.2 hlt)], .inl (by omega)⟩
 ·rw [if_neg (by rw [ltI_t]; exact hlt)]
  rcases szS_loop hstep m hm hf (k - ((m.length : Nat) : Int)) (by omega) (by omega) with h | ⟨r, g1, g2, g3, g4⟩
  ·exact ⟨-1, by rw [h, Option.bind_some, hK2], .inl (by omega)⟩
  ·exact ⟨r, by rw [g1, Option.bind_some, hK1], .inr ⟨g2, by omega, by omega, g4⟩⟩
/-- The size of a list whose elements are not asked. -/
theorem sz1_thm {α : Type} {F : List α × Int × Unit → Option ((Int × Unit) × Unit)}
  (hF : ∀ m k, F (m, k, ()) = if ltI (IntKind.i64.wrap (k - ((m.length : Nat) : Int))) 0 = true then some ((-1, ()), ()) else some ((IntKind.i64.wrap (k - ((m.length : Nat) : Int)), ()), ()))
  (m : List α) (hm : m.length ≤ maxLen) (k : Int) (h0 : 0 ≤ k) (h1 : k ≤ 1048576) : ∃ r : Int, F (m, k, ()) = some ((r, ()), ()) ∧ (r < 0 ∨ (0 ≤ r ∧ r ≤ k ∧ m.length ≤ 1048576)) := by
 rw [maxLen_eq] at hm
 rw [hF, wrap64 (by omega) (by omega)]
 by_cases hlt : k - ((m.length : Nat) : Int) < 0
 ·exact ⟨-1, by rw [if_pos (ltI_t.2 hlt)], .inl (by omega)⟩
 ·exact ⟨_, by rw [if_neg (by rw [ltI_t]; exact hlt)], .inr ⟨by omega, by omega, by omega⟩⟩
def scan {α β : Type} (f : Nat → α → Option β) : Nat → List α → Option β
 | _, [] => none
 | i, x :: r => match f i x with
  | some c => some c
  | none => scan f (i + 1) r
theorem scan_loop {X α γ β : Type} {step : (X → Option γ) → X → Option γ} (emb : Nat → X) (m : List α) (f : Nat → α → Option β) (bad : β → Option γ) (done : Option γ) (hm : m.length ≤ 9223372036854775807)
  (h1 : ∀ rec i (h : i < m.length), step rec (emb i) = match f i m[i] with | some c => bad c | none => rec (emb (i + 1)))
  (h2 : ∀ rec, step rec (emb m.length) = done) : iterF step lots (emb 0) = match scan f 0 m with | some c => bad c | none => done := by
 have key := loopN (step := step) (fun i (_ : Unit) => emb i) m.length (lots_gt' hm) (fun _ _ => True) (fun i _ => match scan f i (m.drop i) with | some c => bad c | none => done) ?_ 0 () (by omega) trivial
 ·simpa using key
 ·intro rec i _ hi _ ih
  by_cases hlt : i < m.length
  ·rw [h1 rec i hlt, drop_get hlt]
   simp only [scan]
   cases hf : f i m[i] with
   | some c => rfl
   | none => exact ih () hlt trivial
  ·have : i = m.length := by omega
   subst this
   rw [h2, List.drop_length]
   rfl
/-- Is there an element that is so? -/
theorem scan_any {α β : Type} {f : Nat → α → Option β} {p : α → Bool} : ∀ {m : List α} {i : Nat}, (∀ j (h : j < m.length), (f (i + j) m[j]).isSome = p m[j]) → (scan f i m).isSome = m.any p
 | [], _, _ => rfl
 | x :: r, i, h => by
  have h0 := h 0 (by simp)
  simp only [Nat.add_zero, List.getElem_cons_zero] at h0
  have := scan_any (f := f) (p := p) (m := r) (i := i + 1) fun j hj => by
   have := h (j + 1) (by simpa using hj)
   simpa [Nat.add_assoc, Nat.add_comm, Nat.add_left_comm] using this
  simp only [scan, List.any_cons, ← h0, ← this]
  cases f i x <;> rfl
theorem lt_t {i n : Nat} (h : i < n) : ltI (i : Int) (n : Int) = true := by rw [ltN]; simpa using h
theorem lt_f {i n : Nat} (h : ¬ i < n) : ¬ ltI (i : Int) (n : Int) = true := by rw [ltN]; simpa using h
theorem lt_same {n : Nat} : ¬ ltI (n : Int) (n : Int) = true := lt_f (Nat.lt_irrefl n)
theorem lt1 {α : Type} {i : Nat} {m : List α} (h : i < m.length) (hm : m.length ≤ 1048576) : i < 9223372036854775807 := by omega
theorem iter_s {X γ : Type} (step : (X → Option γ) → X → Option γ) (n : Nat) (x : X) : iterF step (n + 1) x = step (iterF step n) x := rfl
abbrev LaneD := Int × Int × Int × Int × Int × Unit
abbrev TwoD := Int × Int × Unit
abbrev PolD := List (List Int) × List LaneD × List TwoD × List TwoD × Unit
/-- No list of it is longer. -/
def polLe (n : Nat) (p : PolD) : Prop := (p.1.length ≤ n ∧ ∀ l ∈ p.1, l.length ≤ n) ∧ p.2.1.length ≤ n ∧ p.2.2.1.length ≤ n ∧ p.2.2.2.1.length ≤ n
theorem szInts_eq (m : List (List Int)) (n : Int) (h0 : 0 ≤ n) (h1 : n ≤ 1048576) (h2 : m.length ≤ maxLen) (h3 : ∀ l ∈ m, l.length ≤ maxLen) :
  ∃ r : Int, F_b (m, n, ()) = some ((r, ()), ()) ∧ (r < 0 ∨ (0 ≤ r ∧ r ≤ n ∧ m.length ≤ 1048576 ∧ ∀ l ∈ m, l.length ≤ 1048576)) :=
 szS_thm (F := F_b) (step := l_b_5) (f := fun y k => F_a (y, k, ())) (ok := fun l => l.length ≤ 1048576) (fun _ _ => rfl) (fun _ => rfl) (fun _ => rfl) (fun _ _ _ _ => rfl) m h2 (fun y hy k g0 g1 => szInt_eq y k g0 g1 (h3 y hy)) n h0 h1
theorem szLanes_eq (m : List LaneD) (n : Int) (h0 : 0 ≤ n) (h1 : n ≤ 1048576) (h2 : m.length ≤ maxLen) : ∃ r : Int, F_c (m, n, ()) = some ((r, ()), ()) ∧ (r < 0 ∨ (0 ≤ r ∧ r ≤ n ∧ m.length ≤ 1048576)) :=
 sz1_thm (F := F_c) (fun _ _ => rfl) m h2 n h0 h1
theorem szBells_eq (m : List TwoD) (n : Int) (h0 : 0 ≤ n) (h1 : n ≤ 1048576) (h2 : m.length ≤ maxLen) : ∃ r : Int, F_d (m, n, ()) = some ((r, ()), ()) ∧ (r < 0 ∨ (0 ≤ r ∧ r ≤ n ∧ m.length ≤ 1048576)) :=
 sz1_thm (F := F_d) (fun _ _ => rfl) m h2 n h0 h1
theorem szSlots_eq (m : List TwoD) (n : Int) (h0 : 0 ≤ n) (h1 : n ≤ 1048576) (h2 : m.length ≤ maxLen) : ∃ r : Int, F_e (m, n, ()) = some ((r, ()), ()) ∧ (r < 0 ∨ (0 ≤ r ∧ r ≤ n ∧ m.length ≤ 1048576)) :=
 sz1_thm (F := F_e) (fun _ _ => rfl) m h2 n h0 h1
theorem szPol_eq (p : PolD) (n : Int) (h0 : 0 ≤ n) (h1 : n ≤ 1048576) (h2 : polLe maxLen p) : ∃ r : Int, F_f (p, n, ()) = some ((r, ()), ()) ∧ (r < 0 ∨ (0 ≤ r ∧ r ≤ n ∧ polLe 1048576 p)) := by
 obtain ⟨⟨a1, a2⟩, a3, a4, a5⟩ := h2
 unfold F_f
 simp only [ltI_eq, decide_eq_true_eq]
 obtain ⟨r1, e1, c1⟩ := szInts_eq p.1 n h0 h1 a1 a2
 rw [e1, Option.bind_some]
 by_cases d1 : r1 < 0
 ·exact ⟨-1, by rw [if_pos d1], .inl (by omega)⟩
 rw [if_neg d1]
 have c1 := c1.resolve_left d1
 obtain ⟨r2, e2, c2⟩ := szLanes_eq p.2.1 r1 (by omega) (by omega) a3
 rw [e2, Option.bind_some]
 by_cases d2 : r2 < 0
 ·exact ⟨-1, by rw [if_pos d2], .inl (by omega)⟩
 rw [if_neg d2]
 have c2 := c2.resolve_left d2
 obtain ⟨r3, e3, c3⟩ := szBells_eq p.2.2.1 r2 (by omega) (by omega) a4
 rw [e3, Option.bind_some]
 by_cases d3 : r3 < 0
 ·exact ⟨-1, by rw [if_pos d3], .inl (by omega)⟩
 rw [if_neg d3]
 have c3 := c3.resolve_left d3
 obtain ⟨r4, e4, c4⟩ := szSlots_eq p.2.2.2.1 r3 (by omega) (by omega) a5
 rw [e4, Option.bind_some]
 by_cases d4 : r4 < 0
 ·exact ⟨-1, by rw [if_pos d4], .inl (by omega)⟩
 rw [if_neg d4]
 have c4 := c4.resolve_left d4
 exact ⟨r4, rfl, .inr ⟨by omega, by omega, ⟨c1.2.2.1, c1.2.2.2⟩, c2.2.2, c3.2.2, c4.2.2⟩⟩
theorem toInts_eq (m : List (List Int)) (h : m.length ≤ 1048576) (h2 : ∀ l ∈ m, l.length ≤ 1048576) : F_h (m, ()) = some ((m, ()), ()) :=
 toS_thm (by_ := 24) (F := F_h) (step := l_h_3) (f := fun y => F_g (y, ())) (g := fun r => r.1.1) (fun _ => rfl) (fun _ => rfl) (fun _ _ _ _ => rfl) (by omega) m h fun y hy => ⟨_, toInt64S_eq y (le8 (h2 y hy)), rfl⟩
theorem toLanes_eq (m : List LaneD) (h : m.length ≤ 1048576) : F_j (m, ()) = some ((m, ()), ()) :=
 toS_thm (by_ := 40) (F := F_j) (step := l_j_3) (f := fun y => F_i (y, ())) (g := fun r => r.1.1) (fun _ => rfl) (fun _ => rfl) (fun _ _ _ _ => rfl) (by omega) m h fun y hy => ⟨_, rfl, rfl⟩
theorem toBells_eq (m : List TwoD) (h : m.length ≤ 1048576) : F_l (m, ()) = some ((m, ()), ()) :=
 toS_thm (by_ := 16) (F := F_l) (step := l_l_3) (f := fun y => F_k (y, ())) (g := fun r => r.1.1) (fun _ => rfl) (fun _ => rfl) (fun _ _ _ _ => rfl) (by omega) m h fun y hy => ⟨_, rfl, rfl⟩
theorem toSlots_eq (m : List TwoD) (h : m.length ≤ 1048576) : F_n (m, ()) = some ((m, ()), ()) :=
 toS_thm (by_ := 16) (F := F_n) (step := l_n_3) (f := fun y => F_m (y, ())) (g := fun r => r.1.1) (fun _ => rfl) (fun _ => rfl) (fun _ _ _ _ => rfl) (by omega) m h fun y hy => ⟨_, rfl, rfl⟩
theorem toPol_eq (p : PolD) (h : polLe 1048576 p) : F_o (p, ()) = some (((p.1, p.2.1, p.2.2.1, p.2.2.2.1, ()), ()), ()) := by
 obtain ⟨⟨a1, a2⟩, a3, a4, a5⟩ := h
 unfold F_o
 rw [toInts_eq p.1 a1 a2, Option.bind_some, toLanes_eq p.2.1 a3, Option.bind_some, toBells_eq p.2.2.1 a4, Option.bind_some, toSlots_eq p.2.2.2.1 a5, Option.bind_some]
theorem leMax {n : Nat} (h : n ≤ 1048576) : n ≤ 9223372036854775807 := by omega
theorem eqInts_eq' (m : List (List Int)) (h : m.length ≤ 1048576) (h2 : ∀ l ∈ m, l.length ≤ 1048576) : F_bq (m, m, ()) = some ((true, ()), ()) :=
 eqS_thm (F := F_bq) (step := l_bq_4) (f := fun y y' => F_bo (y, y', ())) (fun _ => rfl) (fun _ => rfl) (fun _ _ _ _ => rfl) m (leMax h) fun y hy => eqInt64S_eq y (leM (h2 y hy))
theorem eqLane1 (y : LaneD) : F_br (y, y, ()) = some ((true, ()), ()) := by
 unfold F_br; simp
theorem eqBell1 (y : TwoD) : F_bt (y, y, ()) = some ((true, ()), ()) := by
 unfold F_bt; simp
theorem eqSlot1 (y : TwoD) : F_bv (y, y, ()) = some ((true, ()), ()) := by
 unfold F_bv; simp
theorem eqLanes_eq (m : List LaneD) (h : m.length ≤ 1048576) : F_bs (m, m, ()) = some ((true, ()), ()) :=
 eqS_thm (F := F_bs) (step := l_bs_4) (f := fun y y' => F_br (y, y', ())) (fun _ => rfl) (fun _ => rfl) (fun _ _ _ _ => rfl) m (leMax h) fun y hy => eqLane1 y
theorem eqBells_eq (m : List TwoD) (h : m.length ≤ 1048576) : F_bu (m, m, ()) = some ((true, ()), ()) :=
 eqS_thm (F := F_bu) (step := l_bu_4) (f := fun y y' => F_bt (y, y', ())) (fun _ => rfl) (fun _ => rfl) (fun _ _ _ _ => rfl) m (leMax h) fun y hy => eqBell1 y
theorem eqSlots_eq (m : List TwoD) (h : m.length ≤ 1048576) : F_bw (m, m, ()) = some ((true, ()), ()) :=
 eqS_thm (F := F_bw) (step := l_bw_4) (f := fun y y' => F_bv (y, y', ())) (fun _ => rfl) (fun _ => rfl) (fun _ _ _ _ => rfl) m (leMax h) fun y hy => eqSlot1 y
theorem eqPol_eq (p : PolD) (h : polLe 1048576 p) : F_bx (p, p, ()) = some ((true, ()), ()) := by
 obtain ⟨⟨a1, a2⟩, a3, a4, a5⟩ := h
 unfold F_bx
 rw [eqInts_eq' p.1 a1 a2, Option.bind_some, if_neg (by simp), eqLanes_eq p.2.1 a3, Option.bind_some, if_neg (by simp), eqBells_eq p.2.2.1 a4, Option.bind_some, if_neg (by simp), eqSlots_eq p.2.2.2.1 a5, Option.bind_some, if_neg (by simp)]
theorem scan_le {α β : Type} {f : Nat → α → Option β} {P : β → Prop} : ∀ {m : List α} {i : Nat}, (∀ j (h : j < m.length) c, f (i + j) m[j] = some c → P c) → ∀ c, scan f i m = some c → P c
 | [], _, _, c, h => by simp [scan] at h
 | x :: r, i, h, c, hc => by
  have h0 := h 0 (by simp)
  simp only [Nat.add_zero, List.getElem_cons_zero] at h0
  simp only [scan] at hc
  split at hc
  ·rename_i d hd
   obtain rfl := Option.some.inj hc
   exact h0 _ hd
  ·exact scan_le (m := r) (i := i + 1) (fun j hj c' hc' => h (j + 1) (by simpa using hj) c' (by simpa [Nat.add_assoc, Nat.add_comm, Nat.add_left_comm] using hc')) c hc
theorem l1Has_eq (m : List Int) (v : Int) (hm : m.length ≤ 1048576) : F_q (m, v, ()) = some ((m.contains v, ()), ()) := by
 have key := scan_loop (step := l_q_2) (γ := denO o_q_2) (fun i => ((m, v, ((i : Nat) : Int), ()), (), ())) m (fun _ y => if (y == v) = true then some () else none) (fun _ => some (.inr (.inl ((true, ()), (), ())))) (some (.inl ((), (), ()))) (leMax hm) ?_ ?_
 ·unfold F_q
  show (iterF l_q_2 lots ((m, v, ((0 : Nat) : Int), ()), (), ())).bind _ = _
  rw [key]
  have := scan_any (f := fun (_ : Nat) y => if (y == v) = true then some () else none) (p := fun y => y == v) (m := m) (i := 0) (fun j hj => by cases m[j] == v <;> rfl)
  have e : m.any (fun y => y == v) = m.contains v := by
   rw [Bool.eq_iff_iff, List.any_eq_true, List.contains_iff_mem]
   exact ⟨fun ⟨y, hy, e⟩ => by rw [← beq_iff_eq.1 e]; exact hy, fun h => ⟨v, h, by simp⟩⟩
  rw [e] at this
  rw [← this]
  cases scan (fun (_ : Nat) y => if (y == v) = true then some () else none) 0 m <;> rfl
 ·intro rec i h
  unfold l_q_2
  dsimp only
  rw [if_pos (lt_t h), if_pos nat0, at_get h, wrapS (lt1 h hm)]
  cases m[i] == v <;> rfl
 ·intro rec
  unfold l_q_2
  dsimp only
  rw [if_neg lt_same]
def isG (p : PolD) (g : Int) : Bool := decide (g ≥ 0) && decide (g ≤ (p.1.length : Int) - 1)
theorem l6Guest_eq (p : PolD) (g : Int) (h : p.1.length ≤ 1048576) : F_s (p, g, ()) = some ((isG p g, ()), ()) := by
 unfold F_s isG
 dsimp only
 rw [wrap64 (by omega) (by omega), l1In_eq, Option.bind_some]
theorem isGuest_eq (p : PolD) (g : Int) (h : p.1.length ≤ 1048576) : F_ag (p, g, ()) = some ((isG p g, ()), ()) := by
 unfold F_ag isG
 dsimp only
 rw [wrap64 (by omega) (by omega), within_eq, Option.bind_some]
def endsM (p : PolD) (a b : Int) : Int := if isG p a = true then (if isG p b = true then (if a = b then 1 else 0) else 4) else 4
theorem ends_eq (p : PolD) (a b : Int) (h : p.1.length ≤ 1048576) : F_t (p, a, b, ()) = some ((endsM p a b, ()), ()) := by
 unfold F_t endsM
 rw [l6Guest_eq p a h, l6Guest_eq p b h]
 simp only [Option.bind_some]
 cases isG p a <;> cases isG p b <;> by_cases e : a = b <;> simp [e]
theorem link_eq (p : PolD) (a b : Int) (h : p.1.length ≤ 1048576) : F_ah (p, a, b, ()) = some ((endsM p a b, ()), ()) := by
 unfold F_ah endsM
 rw [isGuest_eq p a h, isGuest_eq p b h]
 simp only [Option.bind_some]
 cases isG p a <;> cases isG p b <;> by_cases e : a = b <;> simp [e]
def orMinus : Option Int → Int
 | some c => c
 | none => -1
def ownerM (own : List (List Int)) (page : Int) : Int := orMinus (scan (fun i (l : List Int) => if l.contains page = true then some ((i : Nat) : Int) else none) 0 own)
theorem owner_eq (p : PolD) (page : Int) (h : p.1.length ≤ 1048576) (h2 : ∀ l ∈ p.1, l.length ≤ 1048576) : F_u (p, page, ()) = some ((ownerM p.1 page, ()), ()) := by
 have key := scan_loop (step := l_u_2) (γ := denO o_u_2) (fun i => ((p, page, ((i : Nat) : Int), ()), (), ())) p.1 (fun i (l : List Int) => if l.contains page = true then some ((i : Nat) : Int) else none)
  (fun c => some (.inr (.inl ((c, ()), (), ())))) (some (.inl ((), (), ()))) (leMax h) ?_ ?_
 ·unfold F_u ownerM
  show (iterF l_u_2 lots ((p, page, ((0 : Nat) : Int), ()), (), ())).bind _ = _
  rw [key]
  cases scan (fun i (l : List Int) => if l.contains page = true then some ((i : Nat) : Int) else none) 0 p.1 <;> rfl
 ·intro rec i hi
  unfold l_u_2
  dsimp only
  rw [if_pos (lt_t hi), if_pos nat0, at_get hi, wrapS (lt1 hi h), l1Has_eq _ _ (h2 _ (List.getElem_mem hi)), Option.bind_some]
  dsimp only
  cases (p.1[i]).contains page <;> rfl
 ·intro rec
  unfold l_u_2
  dsimp only
  rw [if_neg lt_same]
theorem scan_ge {α : Type} {P : Nat → α → Bool} {m : List α} {c : Int} (h : scan (fun i y => if P i y = true then some ((i : Nat) : Int) else none) 0 m = some c) : 0 ≤ c := by
 refine scan_le (P := fun c => 0 ≤ c) ?_ c h
 intro j hj c hc
 split at hc
 ·obtain rfl := Option.some.inj hc; omega
 ·cases hc
theorem contains_of {α : Type} {P : α → Bool} {m : List α} {f : Nat → α → Option Int} (hf : ∀ i y, f i y = if P y = true then some ((i : Nat) : Int) else none) : leI 0 (orMinus (scan f 0 m)) = m.any P := by
 have e : f = fun i y => if P y = true then some ((i : Nat) : Int) else none := by funext i y; exact hf i y
 subst e
 have h1 := scan_any (f := fun i y => if P y = true then some ((i : Nat) : Int) else none) (p := P) (m := m) (i := 0) (fun j hj => by cases P m[j] <;> rfl)
 rw [← h1, leI_eq]
 cases hs : scan (fun i y => if P y = true then some ((i : Nat) : Int) else none) 0 m with
 | none => rfl
 | some c => have := scan_ge (P := fun _ y => P y) hs; simp [orMinus, this]
theorem index_eq (m : List Int) (v : Int) (hm : m.length ≤ 1048576) : F_ai (m, v, ()) = some ((orMinus (scan (fun i y => if (v == y) = true then some ((i : Nat) : Int) else none) 0 m), ()), ()) := by
 have key := scan_loop (step := l_ai_2) (γ := denO o_ai_2) (fun i => ((m, v, ((m.length : Nat) : Int), ((i : Nat) : Int), ()), (), ())) m (fun i y => if (v == y) = true then some ((i : Nat) : Int) else none)
  (fun c => some (.inr (.inl ((c, ()), (), ())))) (some (.inl ((), (), ()))) (leMax hm) ?_ ?_
 ·unfold F_ai
  show (iterF l_ai_2 lots ((m, v, ((m.length : Nat) : Int), ((0 : Nat) : Int), ()), (), ())).bind _ = _
  rw [key]
  cases scan (fun i y => if (v == y) = true then some ((i : Nat) : Int) else none) 0 m <;> rfl
 ·intro rec i hi
  unfold l_ai_2
  dsimp only
  rw [if_pos (lt_t hi), if_pos nat0, at_get hi, wrapS (lt1 hi hm)]
  cases v == m[i] <;> rfl
 ·intro rec
  unfold l_ai_2
  dsimp only
  rw [if_neg lt_same]
theorem any_contains (m : List Int) (v : Int) : m.any (fun y => v == y) = m.contains v := by
 rw [Bool.eq_iff_iff, List.any_eq_true, List.contains_iff_mem]
 exact ⟨fun ⟨y, hy, e⟩ => by rw [beq_iff_eq.1 e]; exact hy, fun h => ⟨v, h, by simp⟩⟩
theorem contains_eq (m : List Int) (v : Int) (hm : m.length ≤ 1048576) : F_aj (m, v, ()) = some ((m.contains v, ()), ()) := by
 unfold F_aj
 rw [index_eq m v hm, Option.bind_some]
 dsimp only
 rw [contains_of (P := fun y => v == y) (fun _ _ => rfl), any_contains]
theorem implOwner_eq (p : PolD) (page : Int) (h : p.1.length ≤ 1048576) (h2 : ∀ l ∈ p.1, l.length ≤ 1048576) : F_ak (p, page, ()) = some ((ownerM p.1 page, ()), ()) := by
 have key := scan_loop (step := l_am_2) (γ := denO o_am_2) (fun i => ((p.1, (page, ()), ((p.1.length : Nat) : Int), ((i : Nat) : Int), ()), (), ())) p.1
  (fun i (l : List Int) => if l.contains page = true then some ((i : Nat) : Int) else none) (fun c => some (.inr (.inl ((c, ()), (), ())))) (some (.inl ((), (), ()))) (leMax h) ?_ ?_
 ·unfold F_ak ownerM F_al_1
  show ((iterF l_am_2 lots ((p.1, (page, ()), ((p.1.length : Nat) : Int), ((0 : Nat) : Int), ()), (), ())).bind _).bind _ = _
  rw [key]
  cases scan (fun i (l : List Int) => if l.contains page = true then some ((i : Nat) : Int) else none) 0 p.1 <;> rfl
 ·intro rec i hi
  unfold l_am_2
  dsimp only
  rw [if_pos (lt_t hi), if_pos nat0, at_get hi, wrapS (lt1 hi h)]
  unfold F_ak_1
  rw [contains_eq _ _ (h2 _ (List.getElem_mem hi)), Option.bind_some, Option.bind_some]
  dsimp only
  cases (p.1[i]).contains page <;> rfl
 ·intro rec
  unfold l_am_2
  dsimp only
  rw [if_neg lt_same]
def laneAt (l : LaneD) (g page : Int) : Bool := (l.1 == g && l.2.2.2.1 == page) || (l.2.1 == g && l.2.2.2.2.1 == page)
theorem l6At_eq (l : LaneD) (g page : Int) : F_v (l, g, page, ()) = some ((laneAt l g page, ()), ()) := by
 unfold F_v laneAt
 cases l.1 == g <;> cases l.2.2.2.1 == page <;> cases l.2.1 == g <;> rfl
theorem sits_eq (l : LaneD) (g page : Int) : F_an (l, g, page, ()) = some ((laneAt l g page, ()), ()) := by
 unfold F_an laneAt
 cases l.1 == g <;> cases l.2.2.2.1 == page <;> cases l.2.1 == g <;> rfl
/-- Does a lane stand in another one's way? -/
def clash (l o : LaneD) : Bool := o.2.2.1 == l.2.2.1 || (laneAt o l.1 l.2.2.2.1 || laneAt o l.2.1 l.2.2.2.2.1)
def inB (n a b : Int) : Bool := decide (n ≥ a) && decide (n ≤ b)
theorem within_eq2 (n a b : Int) : F_ae (n, a, b, ()) = some ((inB n a b, ()), ()) := within_eq n a b
theorem l1In_eq2 (n a b : Int) : F_p (n, a, b, ()) = some ((inB n a b, ()), ()) := l1In_eq n a b
def laneM (p : PolD) (l : LaneD) (ahead : List LaneD) : Int :=
 if endsM p l.1 l.2.1 ≠ 0 then endsM p l.1 l.2.1
 else if inB l.2.2.1 0 23 = true ∧ inB l.2.2.2.1 5 6 = true ∧ inB l.2.2.2.2.1 5 6 = true then
  (if leI 0 (ownerM p.1 l.2.2.1) = true then 6 else if ahead.any (clash l) = true then 6 else 0) else 3
theorem lane1_eq (l o : LaneD) : F_ao_1 (o, l, ()) = some ((clash l o, ()), ()) := by
 unfold F_ao_1 clash
 dsimp only
 rw [sits_eq, sits_eq]
 simp only [Option.bind_some]
 cases o.2.2.1 == l.2.2.1 <;> cases laneAt o l.1 l.2.2.2.1 <;> rfl
theorem lanesAny_eq (l : LaneD) (m : List LaneD) (hm : m.length ≤ 1048576) : F_ar_1 (m, (l, ()), ()) = some ((m.any (clash l), ()), ()) := by
 have key := scan_loop (step := l_aq_2) (γ := denO o_aq_2) (fun i => ((m, (l, ()), ((m.length : Nat) : Int), ((i : Nat) : Int), ()), (), ())) m
  (fun i o => if clash l o = true then some ((i : Nat) : Int) else none) (fun c => some (.inr (.inl ((c, ()), (), ())))) (some (.inl ((), (), ()))) (leMax hm) ?_ ?_
 ·unfold F_ar_1 F_ap_1
  show ((iterF l_aq_2 lots ((m, (l, ()), ((m.length : Nat) : Int), ((0 : Nat) : Int), ()), (), ())).bind _).bind _ = _
  rw [key, ← contains_of (P := clash l) (m := m) (f := fun i o => if clash l o = true then some ((i : Nat) : Int) else none) (fun _ _ => rfl)]
  cases scan (fun i o => if clash l o = true then some ((i : Nat) : Int) else none) 0 m <;> rfl
 ·intro rec i hi
  unfold l_aq_2
  dsimp only
  rw [if_pos (lt_t hi), if_pos nat0, at_get hi, wrapS (lt1 hi hm), lane1_eq, Option.bind_some]
  dsimp only
  cases clash l m[i] <;> rfl
 ·intro rec
  unfold l_aq_2
  dsimp only
  rw [if_neg lt_same]
theorem laneFault_eq (p : PolD) (l : LaneD) (ahead : List LaneD) (h : p.1.length ≤ 1048576) (h2 : ∀ l ∈ p.1, l.length ≤ 1048576) (hm : ahead.length ≤ 1048576) : F_ao (p, l, ahead, ()) = some ((laneM p l ahead, ()), ()) := by
 unfold F_ao laneM
 dsimp only
 rw [link_eq p _ _ h, within_eq2, within_eq2, within_eq2, implOwner_eq p _ h h2, lanesAny_eq l ahead hm]
 simp only [Option.bind_some]
 by_cases h0 : endsM p l.1 l.2.1 = 0
 ·rw [h0]
  cases b1 : inB l.2.2.1 0 23 <;> cases b2 : inB l.2.2.2.1 5 6 <;> cases b3 : inB l.2.2.2.2.1 5 6 <;> cases b4 : leI 0 (ownerM p.1 l.2.2.1) <;> cases b5 : ahead.any (clash l) <;> simp
 ·simp [h0]
def nz (c : Int) : Option Int := if c ≠ 0 then some c else none
def lanesM (p : PolD) : Option Int := scan (fun i l => nz (laneM p l (p.2.1.take i))) 0 p.2.1
theorem specAhead_eq (p : PolD) (i : Nat) (hi : i < p.2.1.length) (hm : p.2.1.length ≤ 1048576) (l : LaneD) (a1 : Int) (a2 a3 : Bool) (a4 : Int) (a5 a6 : Bool) :
  (((p.2.1.take i).any (clash l) = true ∧ iterF l_w_15 lots ((p, (i : Int), (), 0, (), a1, a2, a3, (), a4, a5, a6, ()), ((l.1, l.2.1, l.2.2.1, l.2.2.2.1, l.2.2.2.2.1, ()), ()), ()) = some (.inr (.inl ((6, ()), (), ())))) ∨
   ((p.2.1.take i).any (clash l) = false ∧ ∃ x, iterF l_w_15 lots ((p, (i : Int), (), 0, (), a1, a2, a3, (), a4, a5, a6, ()), ((l.1, l.2.1, l.2.2.1, l.2.2.2.1, l.2.2.2.2.1, ()), ()), ()) = some (.inl x) ∧ x.1.1 = p ∧ x.1.2.1 = (i : Int))) := by
 have hl : (p.2.1.take i).length = i := by simp; omega
 obtain ⟨x, hx, hx1, hx2⟩ : ∃ x, (∀ rec, l_w_15 rec ((p, (i : Int), (), (i : Int), (), a1, a2, a3, (), a4, a5, a6, ()), ((l.1, l.2.1, l.2.2.1, l.2.2.2.1, l.2.2.2.2.1, ()), ()), ()) = some (.inl x)) ∧ x.1.1 = p ∧ x.1.2.1 = (i : Int) := by
  refine ⟨((p, (i : Int), (), a1, a2, a3, (), a4, a5, a6, ()), ((l.1, l.2.1, l.2.2.1, l.2.2.2.1, l.2.2.2.2.1, ()), ()), ()), fun rec => ?_, rfl, rfl⟩
  unfold l_w_15
  dsimp only
  rw [if_neg lt_same]
 have key := scan_loop (step := l_w_15) (γ := denO o_w_15) (fun k => ((p, (i : Int), (), ((k : Nat) : Int), (), a1, a2, a3, (), a4, a5, a6, ()), ((l.1, l.2.1, l.2.2.1, l.2.2.2.1, l.2.2.2.2.1, ()), ()), ())) (p.2.1.take i)
  (fun _ o => if clash l o = true then some () else none) (fun _ => some (.inr (.inl ((6, ()), (), ())))) (some (.inl x)) (leMax (by omega)) ?_ ?_
 ·have h1 := scan_any (f := fun (_ : Nat) o => if clash l o = true then some () else none) (p := clash l) (m := p.2.1.take i) (i := 0) (fun j hj => by cases clash l (p.2.1.take i)[j] <;> rfl)
  have e0 : ((0 : Nat) : Int) = 0 := rfl
  rw [e0] at key
  rw [key, ← h1]
  cases scan (fun (_ : Nat) o => if clash l o = true then some () else none) 0 (p.2.1.take i) with
  | some c => exact .inl ⟨rfl, rfl⟩
  | none => exact .inr ⟨rfl, x, rfl, hx1, hx2⟩
 ·intro rec k hk
  have hk' : k < i := by omega
  unfold l_w_15
  dsimp only
  rw [if_pos (lt_t hk'), if_pos nat0, at_get (by omega), wrapS (by omega), l6At_eq, l6At_eq, List.getElem_take]
  simp only [Option.bind_some, clash]
  rcases Bool.eq_false_or_eq_true ((p.2.1[k]).2.2.1 == l.2.2.1) with c1 | c1 <;> rcases Bool.eq_false_or_eq_true (laneAt p.2.1[k] l.1 l.2.2.2.1) with c2 | c2 <;> rcases Bool.eq_false_or_eq_true (laneAt p.2.1[k] l.2.1 l.2.2.2.2.1) with c3 | c3 <;> simp [c1, c2, c3]
 ·intro rec
  rw [hl]
  exact hx rec
theorem specLanes_eq (p : PolD) (h : p.1.length ≤ 1048576) (h2 : ∀ l ∈ p.1, l.length ≤ 1048576) (hm : p.2.1.length ≤ 1048576) :
  F_w (p, ()) = some ((if p.2.1.length ≤ 4 ∧ p.2.2.1.length ≤ 4 then (match lanesM p with | some c => c | none => 0) else 2, ()), ()) := by
 have key := scan_loop (step := l_w_4) (γ := denO o_w_4) (fun i => ((p, ((i : Nat) : Int), ()), (), ())) p.2.1 (fun i l => nz (laneM p l (p.2.1.take i)))
  (fun c => some (.inr (.inl ((c, ()), (), ())))) (some (.inl ((), (), ()))) (leMax hm) ?_ ?_
 ·have e0 : ((0 : Nat) : Int) = 0 := rfl
  rw [e0] at key
  unfold F_w lanesM
  dsimp only
  by_cases h1 : p.2.1.length ≤ 4
  ·rw [if_pos (by rw [ltI_f]; omega)]
   by_cases h3 : p.2.2.1.length ≤ 4
   ·rw [if_neg (by rw [ltI_t]; omega), if_pos ⟨h1, h3⟩]
    show (iterF l_w_4 lots ((p, 0, ()), (), ())).bind _ = _
    rw [key]
    cases scan (fun i l => nz (laneM p l (p.2.1.take i))) 0 p.2.1 <;> rfl
   ·rw [if_pos (by rw [ltI_t]; omega), if_neg (by omega)]
  ·rw [if_neg (by rw [ltI_f]; omega), if_neg (by omega)]
 ·intro rec i hi
  unfold l_w_4
  dsimp only
  rw [if_pos (lt_t hi), if_pos nat0, at_get hi, ends_eq p _ _ h, l1In_eq2, l1In_eq2, l1In_eq2, owner_eq p _ h h2]
  simp only [Option.bind_some]
  generalize p.2.1[i] = l
  unfold laneM
  by_cases h0 : endsM p l.1 l.2.1 = 0
  ·rw [h0]
   cases b1 : inB l.2.2.1 0 23
   ·simp [nz]
   cases b2 : inB l.2.2.2.1 5 6
   ·simp [nz]
   cases b3 : inB l.2.2.2.2.1 5 6
   ·simp [nz]
   cases b4 : leI 0 (ownerM p.1 l.2.2.1)
   ·rw [if_neg (by simp), if_pos (by simp), if_pos (by simp), if_neg (by simp), if_neg (by simp), if_neg (by simp), if_pos (by simp), if_neg (by simp)]
    rcases specAhead_eq p i hi hm l l.2.2.2.1 true (!true) l.2.2.2.2.1 true (!true) with ⟨g1, g2⟩ | ⟨g1, x, g2, g3, g4⟩
    ·show (iterF l_w_15 lots ((p, (i : Int), (), 0, (), l.2.2.2.1, true, (!true), (), l.2.2.2.2.1, true, (!true), ()), ((l.1, l.2.1, l.2.2.1, l.2.2.2.1, l.2.2.2.2.1, ()), ()), ())).bind _ = _
     rw [g1, g2]
     rfl
    ·show (iterF l_w_15 lots ((p, (i : Int), (), 0, (), l.2.2.2.1, true, (!true), (), l.2.2.2.2.1, true, (!true), ()), ((l.1, l.2.1, l.2.2.1, l.2.2.2.1, l.2.2.2.2.1, ()), ()), ())).bind _ = _
     rw [g1, g2, Option.bind_some]
     dsimp only
     rw [g3, g4, wrapS (lt1 hi hm)]
     rfl
   ·simp [nz]
  ·simp [h0, nz]
 ·intro rec
  unfold l_w_4
  dsimp only
  rw [if_neg lt_same]
def sameB (b o : TwoD) : Bool := (b.1 == o.1) && ((b.2.1 == o.2.1) && true)
def bellM (p : PolD) (b : TwoD) (ahead : List TwoD) : Int := if endsM p b.1 b.2.1 ≠ 0 then endsM p b.1 b.2.1 else if ahead.any (sameB b) = true then 6 else 0
def bellsM (p : PolD) : Option Int := scan (fun i b => nz (bellM p b (p.2.2.1.take i))) 0 p.2.2.1
def planM (p : PolD) : Int := if 1 ≤ p.2.2.2.1.length ∧ p.2.2.2.1.length ≤ 8 then
 (match scan (fun (_ : Nat) (s : TwoD) => if isG p s.1 = true then (if inB s.2.1 1 50 = true then none else some (3 : Int)) else some 4) 0 p.2.2.2.1 with | some c => c | none => 0) else 2
theorem sameB_comm (b o : TwoD) : sameB b o = sameB o b := by
 unfold sameB
 rw [Bool.eq_iff_iff]
 simp
 constructor <;> rintro ⟨h1, h2⟩ <;> exact ⟨h1.symm, h2.symm⟩
theorem bellsAny_eq (b : TwoD) (m : List TwoD) (hm : m.length ≤ 1048576) : F_at (m, b, ()) = some ((m.any (sameB b), ()), ()) := by
 have key := scan_loop (step := l_as_2) (γ := denO o_as_2) (fun i => ((m, (), ((m.length : Nat) : Int), ((i : Nat) : Int), ()), ((b.1, b.2.1, ()), ()), ())) m
  (fun i o => if sameB b o = true then some ((i : Nat) : Int) else none) (fun c => some (.inr (.inl ((c, ()), (), ())))) (some (.inl ((), (), ()))) (leMax hm) ?_ ?_
 ·unfold F_at F_as
  show ((iterF l_as_2 lots ((m, (), ((m.length : Nat) : Int), ((0 : Nat) : Int), ()), ((b.1, b.2.1, ()), ()), ())).bind _).bind _ = _
  rw [key, ← contains_of (P := sameB b) (m := m) (f := fun i o => if sameB b o = true then some ((i : Nat) : Int) else none) (fun _ _ => rfl)]
  cases scan (fun i o => if sameB b o = true then some ((i : Nat) : Int) else none) 0 m <;> rfl
 ·intro rec i hi
  unfold l_as_2
  dsimp only
  rw [if_pos (lt_t hi), if_pos nat0, at_get hi, wrapS (lt1 hi hm)]
  show (if sameB b m[i] = true then _ else _) = _
  cases sameB b m[i] <;> rfl
 ·intro rec
  unfold l_as_2
  dsimp only
  rw [if_neg lt_same]
theorem bellFault_eq (p : PolD) (b : TwoD) (ahead : List TwoD) (h : p.1.length ≤ 1048576) (hm : ahead.length ≤ 1048576) : F_au (p, b, ahead, ()) = some ((bellM p b ahead, ()), ()) := by
 unfold F_au bellM
 dsimp only
 rw [link_eq p _ _ h, bellsAny_eq b ahead hm]
 simp only [Option.bind_some]
 by_cases h0 : endsM p b.1 b.2.1 = 0
 ·rw [h0]
  cases ahead.any (sameB b) <;> simp
 ·simp [h0]
theorem specBellAhead_eq (p : PolD) (i : Nat) (hi : i < p.2.2.1.length) (hm : p.2.2.1.length ≤ 1048576) (b : TwoD) :
  iterF l_x_9 lots ((p, (i : Int), (), 0, ()), ((b.1, b.2.1, ()), ()), ()) = if (p.2.2.1.take i).any (sameB b) = true then some (.inr (.inl ((6, ()), (), ()))) else some (.inl ((p, (i : Int), ()), (), ())) := by
 have hl : (p.2.2.1.take i).length = i := by simp; omega
 have key := scan_loop (step := l_x_9) (γ := denO o_x_9) (fun k => ((p, (i : Int), (), ((k : Nat) : Int), ()), ((b.1, b.2.1, ()), ()), ())) (p.2.2.1.take i)
  (fun _ o => if sameB b o = true then some () else none) (fun _ => some (.inr (.inl ((6, ()), (), ())))) (some (.inl ((p, (i : Int), ()), (), ()))) (leMax (by omega)) ?_ ?_
 ·have h1 := scan_any (f := fun (_ : Nat) o => if sameB b o = true then some () else none) (p := sameB b) (m := p.2.2.1.take i) (i := 0) (fun j hj => by cases sameB b (p.2.2.1.take i)[j] <;> rfl)
  have e0 : ((0 : Nat) : Int) = 0 := rfl
  rw [e0] at key
  rw [key, ← h1]
  cases scan (fun (_ : Nat) o => if sameB b o = true then some () else none) 0 (p.2.2.1.take i) <;> rfl
 ·intro rec k hk
  have hk' : k < i := by omega
  unfold l_x_9
  dsimp only
  rw [if_pos (lt_t hk'), if_pos nat0, at_get (by omega), wrapS (by omega), List.getElem_take]
  show (if sameB p.2.2.1[k] b = true then _ else _) = _
  rw [sameB_comm]
  cases sameB b p.2.2.1[k] <;> rfl
 ·intro rec
  unfold l_x_9
  dsimp only
  rw [hl, if_neg lt_same]
theorem specPlan_loop (p : PolD) (h : p.1.length ≤ 1048576) (hm : p.2.2.2.1.length ≤ 1048576) :
  iterF l_x_16 lots ((p, 0, ()), (), ()) = match scan (fun (_ : Nat) (s : TwoD) => if isG p s.1 = true then (if inB s.2.1 1 50 = true then none else some (3 : Int)) else some 4) 0 p.2.2.2.1 with
   | some c => some (.inr (.inl ((c, ()), (), ()))) | none => some (.inl ((), (), ())) := by
 have key := scan_loop (step := l_x_16) (γ := denO o_x_16) (fun i => ((p, ((i : Nat) : Int), ()), (), ())) p.2.2.2.1 (fun (_ : Nat) (s : TwoD) => if isG p s.1 = true then (if inB s.2.1 1 50 = true then none else some (3 : Int)) else some 4) (fun c => some (.inr (.inl ((c, ()), (), ())))) (some (.inl ((), (), ()))) (leMax hm) ?_ ?_
 ·have e0 : ((0 : Nat) : Int) = 0 := rfl
  rw [e0] at key
  rw [key]
  cases scan (fun (_ : Nat) (s : TwoD) => if isG p s.1 = true then (if inB s.2.1 1 50 = true then none else some (3 : Int)) else some 4) 0 p.2.2.2.1 <;> rfl
 ·intro rec i hi
  unfold l_x_16
  dsimp only
  rw [if_pos (lt_t hi), if_pos nat0, at_get hi, l6Guest_eq p _ h, Option.bind_some]
  cases b1 : isG p (p.2.2.2.1[i]).1
  ·simp
  ·rw [if_neg (by simp), if_pos nat0, at_get hi, l1In_eq2, Option.bind_some]
   cases b2 : inB (p.2.2.2.1[i]).2.1 1 50
   ·simp
   ·rw [if_neg (by simp), wrapS (lt1 hi hm)]; simp
 ·intro rec
  unfold l_x_16
  dsimp only
  rw [if_neg lt_same]
theorem specRest_eq (p : PolD) (h : p.1.length ≤ 1048576) (h3 : p.2.2.1.length ≤ 1048576) (h4 : p.2.2.2.1.length ≤ 1048576) :
  F_x (p, ()) = some ((match bellsM p with | some c => c | none => planM p, ()), ()) := by
 have key := scan_loop (step := l_x_2) (γ := denO o_x_2) (fun i => ((p, ((i : Nat) : Int), ()), (), ())) p.2.2.1 (fun i b => nz (bellM p b (p.2.2.1.take i)))
  (fun c => some (.inr (.inl ((c, ()), (), ())))) (some (.inl ((p, ()), (), ()))) (leMax h3) ?_ ?_
 ·have e0 : ((0 : Nat) : Int) = 0 := rfl
  rw [e0] at key
  unfold F_x bellsM
  show (iterF l_x_2 lots ((p, 0, ()), (), ())).bind _ = _
  rw [key]
  cases scan (fun i b => nz (bellM p b (p.2.2.1.take i))) 0 p.2.2.1 with
  | some c => rfl
  | none =>
   rw [Option.bind_some]
   dsimp only
   unfold planM
   by_cases g1 : 1 ≤ p.2.2.2.1.length
   ·rw [if_pos (by rw [ltI_f]; omega)]
    by_cases g2 : p.2.2.2.1.length ≤ 8
    ·rw [if_neg (by rw [ltI_t]; omega), if_pos ⟨g1, g2⟩]
     show (iterF l_x_16 lots ((p, 0, ()), (), ())).bind _ = _
     rw [specPlan_loop p h h4]
     cases scan (fun (_ : Nat) (s : TwoD) => if isG p s.1 = true then (if inB s.2.1 1 50 = true then none else some (3 : Int)) else some 4) 0 p.2.2.2.1 <;> rfl
    ·rw [if_pos (by rw [ltI_t]; omega), if_neg (by omega)]
   ·rw [if_neg (by rw [ltI_f]; omega), if_neg (by omega)]
 ·intro rec i hi
  unfold l_x_2
  dsimp only
  rw [if_pos (lt_t hi), if_pos nat0, at_get hi, ends_eq p _ _ h, Option.bind_some]
  generalize p.2.2.1[i] = b
  unfold bellM
  by_cases h0 : endsM p b.1 b.2.1 = 0
  ·rw [h0, if_neg (by simp)]
   show (iterF l_x_9 lots ((p, (i : Int), (), 0, ()), ((b.1, b.2.1, ()), ()), ())).bind _ = _
   rw [specBellAhead_eq p i hi h3 b]
   cases (p.2.2.1.take i).any (sameB b)
   ·rw [if_neg (by simp), Option.bind_some]
    dsimp only
    rw [wrapS (lt1 hi h3)]
    rfl
   ·rfl
  ·simp [h0, nz]
 ·intro rec
  unfold l_x_2
  dsimp only
  rw [if_neg lt_same]
theorem implPlan_eq (p : PolD) (h : p.1.length ≤ 1048576) (hm : p.2.2.2.1.length ≤ 1048576) : F_av (p, ()) = some ((planM p, ()), ()) := by
 have key := scan_loop (step := l_av_4) (γ := denO o_av_4) (fun i => ((p, p.2.2.2.1, ((p.2.2.2.1.length : Nat) : Int), ((i : Nat) : Int), ()), (), ())) p.2.2.2.1
  (fun (_ : Nat) (s : TwoD) => if isG p s.1 = true then (if inB s.2.1 1 50 = true then none else some (3 : Int)) else some 4) (fun c => some (.inr (.inl ((c, ()), (), ())))) (some (.inl ((), (), ()))) (leMax hm) ?_ ?_
 ·have e0 : ((0 : Nat) : Int) = 0 := rfl
  rw [e0] at key
  unfold F_av planM
  dsimp only
  rw [within_eq2, Option.bind_some]
  by_cases g : 1 ≤ p.2.2.2.1.length ∧ p.2.2.2.1.length ≤ 8
  ·have : inB ((p.2.2.2.1.length : Nat) : Int) 1 8 = true := by unfold inB; simp; omega
   rw [this, if_neg (by simp), if_pos g]
   show (iterF l_av_4 lots ((p, p.2.2.2.1, ((p.2.2.2.1.length : Nat) : Int), 0, ()), (), ())).bind _ = _
   rw [key]
   cases scan (fun (_ : Nat) (s : TwoD) => if isG p s.1 = true then (if inB s.2.1 1 50 = true then none else some (3 : Int)) else some 4) 0 p.2.2.2.1 <;> rfl
  ·have : inB ((p.2.2.2.1.length : Nat) : Int) 1 8 = false := by unfold inB; simp; omega
   rw [this, if_pos (by simp), if_neg g]
 ·intro rec i hi
  unfold l_av_4
  dsimp only
  rw [if_pos (lt_t hi), if_pos nat0, at_get hi, isGuest_eq p _ h, Option.bind_some, within_eq2, Option.bind_some, wrapS (lt1 hi hm)]
  cases b1 : isG p (p.2.2.2.1[i]).1
  ·simp
  ·cases b2 : inB (p.2.2.2.1[i]).2.1 1 50 <;> simp
 ·intro rec
  unfold l_av_4
  dsimp only
  rw [if_neg lt_same]
def own1 (l : List Int) : Option Int := if 1 ≤ l.length ∧ l.length ≤ 5 then scan (fun (_ : Nat) x => if inB x 0 23 = true then none else some (3 : Int)) 0 l else some 2
def dupM : List Int → List Int → Bool
 | _, [] => false
 | seen, x :: r => seen.contains x || dupM (seen ++ [x]) r
def ownsM (own : List (List Int)) : Int := if 1 ≤ own.length ∧ own.length ≤ 3 then (match scan (fun (_ : Nat) l => own1 l) 0 own with | some c => c | none => if dupM [] own.flatten = true then 6 else 0) else 2
theorem specOwn1_eq {T : Type} (p : PolD) (i : Nat) (hi : i < p.1.length) (hl : (p.1[i]).length ≤ 1048576) (a1 a2 : PolD) (b1 b2 : List (List Int)) (c : Int) (d1 d2 : List Int) (e1 : Int) (e2 : Bool) :
  ((scan (fun (_ : Nat) x => if inB x 0 23 = true then none else some (3 : Int)) 0 p.1[i] = none ∧ ∃ x, iterF l_r_9 lots ((p, (i : Int), 0, a1, a2, b1, b2, c, d1, d2, e1, e2, ()), (), ()) = some (.inl x) ∧ x.1.1 = p ∧ x.1.2.1 = (i : Int)) ∨
   (scan (fun (_ : Nat) x => if inB x 0 23 = true then none else some (3 : Int)) 0 p.1[i] = some 3 ∧ iterF l_r_9 lots ((p, (i : Int), 0, a1, a2, b1, b2, c, d1, d2, e1, e2, ()), (), ()) = some (.inr (.inl ((3, ()), (), ()))))) := by
 have key := scan_loop (step := l_r_9) (γ := denO o_r_9) (fun k => ((p, (i : Int), ((k : Nat) : Int), a1, a2, b1, b2, c, d1, d2, e1, e2, ()), (), ())) p.1[i]
  (fun (_ : Nat) x => if inB x 0 23 = true then none else some (3 : Int)) (fun c => some (.inr (.inl ((c, ()), (), ())))) (some (.inl ((p, (i : Int), a1, a2, b1, b2, c, d1, d2, e1, e2, ()), (), ()))) (leMax hl) ?_ ?_
 ·have e0 : ((0 : Nat) : Int) = 0 := rfl
  rw [e0] at key
  rw [key]
  cases hs : scan (fun (_ : Nat) x => if inB x 0 23 = true then none else some (3 : Int)) 0 p.1[i] with
  | none => exact .inl ⟨rfl, _, rfl, rfl, rfl⟩
  | some c =>
   have : c = 3 := scan_le (P := fun c => c = 3) (fun j hj c hc => by
    split at hc
    ·cases hc
    ·exact (Option.some.inj hc).symm) c hs
   subst this
   exact .inr ⟨rfl, rfl⟩
 ·intro rec k hk
  unfold l_r_9
  dsimp only
  rw [if_pos nat0, at_get hi, if_pos (lt_t hk), if_pos nat0, at_get hi, if_pos nat0, at_get hk, l1In_eq2, Option.bind_some, wrapS (lt1 hk hl)]
  cases inB (p.1[i])[k] 0 23 <;> rfl
 ·intro rec
  unfold l_r_9
  dsimp only
  rw [if_pos nat0, at_get hi, if_neg lt_same]
theorem dupM_append : ∀ (l seen r : List Int), dupM seen (l ++ r) = (dupM seen l || dupM (seen ++ l) r)
 | [], seen, r => by simp [dupM]
 | x :: l, seen, r => by
  simp only [List.cons_append, dupM, dupM_append l (seen ++ [x]) r, Bool.or_assoc, List.append_assoc, List.singleton_append, List.nil_append]
theorem specSeen_eq (p : PolD) (seen : List Int) (i : Nat) (hi : i < p.1.length) (hl : (p.1[i]).length ≤ 1048576) (hs : seen.length ≤ 4194304) (hs2 : seen.length + (p.1[i]).length ≤ 1048576) :
  iterF l_r_18 lots ((p, seen, (i : Int), 0, ()), (), ()) = if dupM seen p.1[i] = true then some (.inr (.inl ((6, ()), (), ()))) else some (.inl ((p, seen ++ p.1[i], (i : Int), ()), (), ())) := by
 have key := loopN (step := l_r_18) (γ := denO o_r_18) (fun k (s : List Int) => ((p, s, (i : Int), ((k : Nat) : Int), ()), (), ())) (p.1[i]).length (lots_gt' (leMax hl)) (fun k s => s = seen ++ (p.1[i]).take k)
  (fun k s => if dupM s ((p.1[i]).drop k) = true then some (.inr (.inl ((6, ()), (), ()))) else some (.inl ((p, seen ++ p.1[i], (i : Int), ()), (), ()))) ?_ 0 seen (by omega) (by simp)
 ·exact key
 ·rintro rec k s hk hsk ih
  unfold l_r_18
  dsimp only
  rw [if_pos nat0, at_get hi]
  by_cases hlt : k < (p.1[i]).length
  ·have hsl : s.length = seen.length + k := by rw [hsk]; simp; omega
   rw [if_pos (lt_t hlt), if_pos nat0, at_get hi, if_pos nat0, at_get hlt, l1Has_eq _ _ (by omega), Option.bind_some, drop_get hlt]
   rw [show dupM s ((p.1[i])[k] :: (p.1[i]).drop (k + 1)) = (s.contains (p.1[i])[k] || dupM (s ++ [(p.1[i])[k]]) ((p.1[i]).drop (k + 1))) from rfl]
   by_cases hc : s.contains (p.1[i])[k] = true
   ·rw [if_pos hc, hc]
    simp
   ·rw [if_neg hc, if_pos nat0, at_get hi, if_pos nat0, at_get hlt, if_pos (by simp; omega), wrapS (lt1 hlt hl)]
    have hc' : s.contains (p.1[i])[k] = false := by simpa using hc
    rw [hc', Bool.false_or]
    refine ih _ hlt ?_
    rw [hsk, List.append_assoc, List.take_add_one, List.getElem?_eq_getElem hlt]
    rfl
  ·rw [if_neg (lt_f hlt), drop_all hlt]
   rw [show dupM s [] = false from rfl]
   rw [hsk, List.take_of_length_le (by omega)]
   simp
theorem flat_take {own : List (List Int)} {i : Nat} (hi : i < own.length) : (own.take (i + 1)).flatten = (own.take i).flatten ++ own[i] := by
 have e : own.take (i + 1) = own.take i ++ [own[i]] := by rw [List.take_add_one, List.getElem?_eq_getElem hi]; rfl
 rw [e, List.flatten_append]
 simp
theorem own1_len {l : List Int} (h : own1 l = none) : l.length ≤ 5 := by
 unfold own1 at h
 split at h
 ·rename_i h'; exact h'.2
 ·cases h
theorem scan_none {α β : Type} {f : Nat → α → Option β} : ∀ {m : List α} {i : Nat}, scan f i m = none → ∀ j (h : j < m.length), f (i + j) m[j] = none
 | [], _, _, j, h => by simp at h
 | x :: r, i, hs, j, h => by
  simp only [scan] at hs
  split at hs
  ·cases hs
  ·rename_i h0
   cases j with
   | zero => simpa using h0
   | succ j =>
    have := scan_none hs j (by simpa using h)
    simpa [Nat.add_assoc, Nat.add_comm, Nat.add_left_comm] using this
theorem flat_len {own : List (List Int)} (h : ∀ j (hj : j < own.length), (own[j]).length ≤ 5) : ∀ i, i ≤ own.length → (own.take i).flatten.length ≤ 5 * i
 | 0, _ => by simp
 | i + 1, hi => by
  rw [flat_take (by omega), List.length_append]
  have := flat_len h i (by omega)
  have := h i (by omega)
  omega
theorem specOwns_eq (p : PolD) (h : p.1.length ≤ 1048576) (h2 : ∀ l ∈ p.1, l.length ≤ 1048576) : F_r (p, ()) = some ((ownsM p.1, ()), ()) := by
 unfold F_r ownsM
 dsimp only
 by_cases g1 : 1 ≤ p.1.length
 case neg => rw [if_neg (by rw [ltI_f]; omega), if_neg (by omega)]
 rw [if_pos (by rw [ltI_f]; omega)]
 by_cases g2 : p.1.length ≤ 3
 case neg => rw [if_pos (by rw [ltI_t]; omega), if_neg (by omega)]
 rw [if_neg (by rw [ltI_t]; omega), if_pos ⟨g1, g2⟩]
 have key := scan_loop (step := l_r_4) (γ := denO o_r_4) (fun i => ((p, ((i : Nat) : Int), ()), (), ())) p.1 (fun (_ : Nat) l => own1 l)
  (fun c => some (.inr (.inl ((c, ()), (), ())))) (some (.inl ((p, ()), (), ()))) (leMax h) ?_ ?_
 ·have e0 : ((0 : Nat) : Int) = 0 := rfl
  rw [e0] at key
  show (iterF l_r_4 lots ((p, 0, ()), (), ())).bind _ = _
  rw [key]
  cases hs : scan (fun (_ : Nat) l => own1 l) 0 p.1 with
  | some c => rfl
  | none =>
   rw [Option.bind_some]
   dsimp only
   have h5 : ∀ j (hj : j < p.1.length), (p.1[j]).length ≤ 5 := fun j hj => own1_len (scan_none hs j hj)
   have key2 := loopN (step := l_r_15) (γ := denO o_r_15) (fun k (s : List Int) => ((p, s, ((k : Nat) : Int), ()), (), ())) p.1.length (lots_gt' (leMax h)) (fun k s => s = (p.1.take k).flatten)
    (fun k s => if dupM s ((p.1.drop k).flatten) = true then some (.inr (.inl ((6, ()), (), ()))) else some (.inl ((), (), ()))) ?_ 0 [] (by omega) (by simp)
   ·show (iterF l_r_15 lots ((p, [], 0, ()), (), ())).bind _ = _
    rw [e0] at key2
    rw [key2, List.drop_zero]
    cases dupM [] p.1.flatten <;> rfl
   ·rintro rec k s hk hsk ih
    unfold l_r_15
    dsimp only
    by_cases hlt : k < p.1.length
    ·have hfl := flat_len h5 k hk
     rw [← hsk] at hfl
     have := h5 k hlt
     rw [if_pos (lt_t hlt), drop_get hlt, List.flatten_cons, dupM_append]
     show (iterF l_r_18 lots ((p, s, (k : Int), 0, ()), (), ())).bind _ = _
     rw [specSeen_eq p s k hlt (by omega) (by omega) (by omega)]
     cases hd : dupM s p.1[k]
     ·rw [if_neg (by simp), Option.bind_some]
      dsimp only
      rw [wrapS (lt1 hlt h), Bool.false_or]
      exact ih _ hlt (by rw [hsk, flat_take hlt])
     ·rfl
    ·rw [if_neg (lt_f hlt), drop_all hlt]
     rfl
 ·intro rec i hi
  unfold l_r_4
  dsimp only
  have hl := h2 _ (List.getElem_mem hi)
  rw [if_pos (lt_t hi), if_pos nat0, at_get hi]
  unfold own1
  by_cases k1 : 1 ≤ (p.1[i]).length
  case neg => rw [if_neg (by rw [ltI_f]; omega), if_neg (by omega)]
  rw [if_pos (by rw [ltI_f]; omega), if_pos nat0, at_get hi]
  by_cases k2 : (p.1[i]).length ≤ 5
  case neg => rw [if_pos (by rw [ltI_t]; omega), if_neg (by omega)]
  rw [if_neg (by rw [ltI_t]; omega), if_pos ⟨k1, k2⟩]
  rcases specOwn1_eq (T := Unit) p i hi hl p p p.1 p.1 (i : Int) p.1[i] p.1[i] (((p.1[i]).length : Nat) : Int) (ltI 5 (((p.1[i]).length : Nat) : Int)) with ⟨g, x, g3, g4, g5⟩ | ⟨g, g3⟩
  ·show (iterF l_r_9 lots _).bind _ = _
   rw [g, g3, Option.bind_some]
   dsimp only
   rw [g4, g5, wrapS (lt1 hi h)]
  ·show (iterF l_r_9 lots _).bind _ = _
   rw [g, g3]
   rfl
 ·intro rec
  unfold l_r_4
  dsimp only
  rw [if_neg lt_same]
theorem getM_setM (es : List (Int × Bool)) (x y : Int) : getM (setM es x true) y = (y == x || getM es y) := by
 induction es with
 | nil =>
  simp only [setM, getM]
  by_cases e : x = y
  ·subst e; simp
  ·rw [if_neg e]; simp [Ne.symm e]
 | cons a r ih =>
  simp only [setM, getM]
  by_cases e : a.1 = x
  ·rw [if_pos e]
   simp only [getM]
   by_cases e2 : x = y
   ·subst e2; simp
   ·rw [if_neg e2, if_neg (by rw [e]; exact e2)]; simp [Ne.symm e2]
  ·rw [if_neg e]
   simp only [getM]
   by_cases e2 : a.1 = y
   ·subst e2; rw [if_pos rfl, if_pos rfl]; simp [e]
   ·rw [if_neg e2, if_neg e2, ih]
theorem implPages_eq {T1 T2 T3 : Int} (es : List (Int × Bool)) (t : Bool) (own : List (List Int)) (a b : Int) (l : List Int) (hl : l.length ≤ 1048576) (seen : List Int) (hes : ∀ y, getM es y = seen.contains y) :
  (∃ es', scan (fun (_ : Nat) x => if inB x 0 23 = true then none else some (3 : Int)) 0 l = none ∧ (∀ y, getM es' y = (seen ++ l).contains y) ∧
   iterF l_af_10 lots ((es, t, own, a, b, l, ((l.length : Nat) : Int), 0, ()), (), ()) = some (.inl ((es', t || dupM seen l, own, a, b, ()), (), ()))) ∨
  (scan (fun (_ : Nat) x => if inB x 0 23 = true then none else some (3 : Int)) 0 l = some 3 ∧ iterF l_af_10 lots ((es, t, own, a, b, l, ((l.length : Nat) : Int), 0, ()), (), ()) = some (.inr (.inl ((3, ()), (), ())))) := by
 have key : ∀ n (k : Nat) (es : List (Int × Bool)) (t : Bool) (seen : List Int), l.length - k < n → k ≤ l.length → (∀ y, getM es y = seen.contains y) →
   (∃ es', scan (fun (_ : Nat) x => if inB x 0 23 = true then none else some (3 : Int)) k (l.drop k) = none ∧ (∀ y, getM es' y = (seen ++ l.drop k).contains y) ∧
   iterF l_af_10 n ((es, t, own, a, b, l, ((l.length : Nat) : Int), ((k : Nat) : Int), ()), (), ()) = some (.inl ((es', t || dupM seen (l.drop k), own, a, b, ()), (), ()))) ∨
   (scan (fun (_ : Nat) x => if inB x 0 23 = true then none else some (3 : Int)) k (l.drop k) = some 3 ∧ iterF l_af_10 n ((es, t, own, a, b, l, ((l.length : Nat) : Int), ((k : Nat) : Int), ()), (), ()) = some (.inr (.inl ((3, ()), (), ())))) := by
  intro n
  induction n with
  | zero => intro k _ _ _ h; omega
  | succ n ih =>
   intro k es t seen hn hk hes
   simp only [iterF]
   generalize iterF l_af_10 n = rec at ih ⊢
   by_cases hlt : k < l.length
   ·have hw : IntKind.i64.wrap ((k : Int) + 1) = ((k + 1 : Nat) : Int) := wrapS (lt1 hlt hl)
    rw [drop_get hlt]
    simp only [scan, dupM]
    have hes2 : ∀ y, getM (setM es l[k] true) y = (seen ++ [l[k]]).contains y := by
     intro y
     rw [getM_setM, hes]
     rw [Bool.eq_iff_iff]
     simp [or_comm]
    cases hb : inB l[k] 0 23
    ·right
     refine ⟨by simp, ?_⟩
     unfold l_af_10
     dsimp only
     rw [if_pos (lt_t hlt), if_pos nat0, at_get hlt, within_eq2, Option.bind_some, hb]
     rfl
    ·have go : l_af_10 rec ((es, t, own, a, b, l, ((l.length : Nat) : Int), ((k : Nat) : Int), ()), (), ()) = rec ((setM es l[k] true, t || seen.contains l[k], own, a, b, l, ((l.length : Nat) : Int), ((k + 1 : Nat) : Int), ()), (), ()) := by
      unfold l_af_10
      dsimp only
      rw [if_pos (lt_t hlt), if_pos nat0, at_get hlt, within_eq2, Option.bind_some, hb, if_neg (by simp), hw, ← hes]
      cases t <;> rfl
     rw [go]
     rcases ih (k + 1) (setM es l[k] true) (t || seen.contains l[k]) (seen ++ [l[k]]) (by omega) (by omega) hes2 with ⟨es', g1, g2, g3⟩ | ⟨g1, g2⟩
     ·left
      refine ⟨es', by simpa using g1, fun y => by rw [g2]; simp, ?_⟩
      rw [g3, Bool.or_assoc]
     ·right
      exact ⟨by simpa using g1, g2⟩
   ·left
    rw [drop_all hlt]
    refine ⟨es, rfl, by simpa using hes, ?_⟩
    unfold l_af_10
    dsimp only
    rw [if_neg (lt_f hlt)]
    simp [dupM]
 simpa using key lots 0 es t seen (by have := lots_gt' (leMax hl); omega) (by omega) hes
theorem implOwns_eq (p : PolD) (h : p.1.length ≤ 1048576) (h2 : ∀ l ∈ p.1, l.length ≤ 1048576) : F_af (p, ()) = some ((ownsM p.1, ()), ()) := by
 unfold F_af ownsM
 dsimp only
 rw [within_eq2, Option.bind_some]
 by_cases g : 1 ≤ p.1.length ∧ p.1.length ≤ 3
 case neg =>
  have : inB ((p.1.length : Nat) : Int) 1 3 = false := by unfold inB; simp; omega
  rw [this, if_pos (by simp), if_neg g]
 have : inB ((p.1.length : Nat) : Int) 1 3 = true := by unfold inB; simp; omega
 rw [this, if_neg (by simp), if_pos g]
 have key : ∀ n (k : Nat) (es : List (Int × Bool)) (t : Bool) (seen : List Int), p.1.length - k < n → k ≤ p.1.length → (∀ y, getM es y = seen.contains y) →
   (iterF l_af_5 n ((es, t, p.1, ((p.1.length : Nat) : Int), ((k : Nat) : Int), ()), (), ()) = match scan (fun (_ : Nat) l => own1 l) k (p.1.drop k) with
    | some c => some (.inr (.inl ((c, ()), (), ()))) | none => some (.inl ((t || dupM seen (p.1.drop k).flatten, ()), (), ()))) := by
  intro n
  induction n with
  | zero => intro k _ _ _ h; omega
  | succ n ih =>
   intro k es t seen hn hk hes
   simp only [iterF]
   generalize iterF l_af_5 n = rec at ih ⊢
   by_cases hlt : k < p.1.length
   ·have hl := h2 _ (List.getElem_mem hlt)
    rw [drop_get hlt]
    simp only [scan, List.flatten_cons, dupM_append]
    unfold l_af_5 own1
    dsimp only
    rw [if_pos (lt_t hlt), if_pos nat0, at_get hlt, within_eq2, Option.bind_some]
    by_cases g1 : 1 ≤ (p.1[k]).length ∧ (p.1[k]).length ≤ 5
    ·have : inB (((p.1[k]).length : Nat) : Int) 1 5 = true := by unfold inB; simp; omega
     rw [this, if_neg (by simp), if_pos g1]
     rcases implPages_eq (T1 := 0) (T2 := 0) (T3 := 0) es t p.1 ((p.1.length : Nat) : Int) ((k : Nat) : Int) p.1[k] hl seen hes with ⟨es', q1, q2, q3⟩ | ⟨q1, q2⟩
     ·show (iterF l_af_10 lots _).bind _ = _
      rw [q1, q3, Option.bind_some]
      dsimp only
      rw [wrapS (lt1 hlt h), ih (k + 1) es' _ (seen ++ p.1[k]) (by omega) (by omega) q2, Bool.or_assoc]
      rfl
     ·show (iterF l_af_10 lots _).bind _ = _
      rw [q1, q2]
      rfl
    ·have : inB (((p.1[k]).length : Nat) : Int) 1 5 = false := by unfold inB; simp; omega
     rw [this, if_pos (by simp), if_neg g1]
   ·rw [drop_all hlt]
    unfold l_af_5
    dsimp only
    rw [if_neg (lt_f hlt)]
    simp [scan, dupM]
 have k0 := key lots 0 [] false [] (by have := lots_gt' (leMax h); omega) (by omega) (fun y => by simp [getM])
 have e0 : ((0 : Nat) : Int) = 0 := rfl
 rw [e0, List.drop_zero] at k0
 show (iterF l_af_5 lots (([], false, p.1, ((p.1.length : Nat) : Int), 0, ()), (), ())).bind _ = _
 rw [k0]
 cases scan (fun (_ : Nat) l => own1 l) 0 p.1 with
 | some c => rfl
 | none =>
  rw [Option.bind_some]
  dsimp only
  cases dupM [] p.1.flatten <;> rfl
/-- What is not right with a policy. -/
def polM (p : PolD) : Int :=
 if ownsM p.1 ≠ 0 then ownsM p.1
 else if p.2.1.length ≤ 4 ∧ p.2.2.1.length ≤ 4 then (match lanesM p with | some c => c | none => match bellsM p with | some c => c | none => planM p) else 2
theorem nz_ne {c d : Int} (h : nz c = some d) : d ≠ 0 := by
 unfold nz at h
 split at h
 ·rename_i h'; rw [← Option.some.inj h]; exact h'
 ·cases h
theorem lanesM_ne {p : PolD} {c : Int} (h : lanesM p = some c) : c ≠ 0 := scan_le (P := fun c => c ≠ 0) (fun j hj c hc => nz_ne hc) c h
theorem bellsM_ne {p : PolD} {c : Int} (h : bellsM p = some c) : c ≠ 0 := scan_le (P := fun c => c ≠ 0) (fun j hj c hc => nz_ne hc) c h
theorem specPol_eq (p : PolD) (h : polLe 1048576 p) : F_y (p, ()) = some ((polM p, ()), ()) := by
 obtain ⟨⟨a1, a2⟩, a3, a4, a5⟩ := h
 unfold F_y polM
 rw [specOwns_eq p a1 a2, specLanes_eq p a1 a2 a3, specRest_eq p a1 a4 a5]
 simp only [Option.bind_some]
 by_cases h0 : ownsM p.1 = 0
 ·simp only [h0, bne_self_eq_false, Bool.false_eq_true, if_false, ne_eq, not_true_eq_false]
  by_cases h4 : p.2.1.length ≤ 4 ∧ p.2.2.1.length ≤ 4
  ·simp only [if_pos h4]
   cases hl : lanesM p with
   | some c => have := lanesM_ne hl; simp [this]
   | none => simp <;> (cases bellsM p <;> rfl)
  ·simp [if_neg h4]
 ·rw [if_pos (by simpa using h0), if_pos h0]
theorem implPol_eq (p : PolD) (h : polLe 1048576 p) : F_aw (p, ()) = some ((polM p, ()), ()) := by
 obtain ⟨⟨a1, a2⟩, a3, a4, a5⟩ := h
 unfold F_aw polM
 dsimp only
 rw [implOwns_eq p a1 a2, Option.bind_some]
 dsimp only
 by_cases h0 : ownsM p.1 = 0
 case neg => rw [if_pos (by simpa using h0), if_pos h0]
 simp only [h0, bne_self_eq_false, Bool.false_eq_true, if_false, ne_eq, not_true_eq_false]
 by_cases h1 : p.2.1.length ≤ 4
 case neg => rw [if_neg (by rw [ltI_f]; omega), if_neg (by omega)]
 rw [if_pos (by rw [ltI_f]; omega)]
 by_cases h3 : p.2.2.1.length ≤ 4
 case neg => rw [if_pos (by rw [ltI_t]; omega), if_neg (by omega)]
 rw [if_neg (by rw [ltI_t]; omega), if_pos ⟨h1, h3⟩]
 have key1 := scan_loop (step := l_aw_7) (γ := denO o_aw_7) (fun i => (((), p.2.1, ((p.2.1.length : Nat) : Int), ((i : Nat) : Int), ()), (p, ()), ())) p.2.1 (fun i l => nz (laneM p l (p.2.1.take i)))
  (fun c => some (.inr (.inl ((c, ()), (), ())))) (some (.inl (((), ()), (p, ()), ()))) (leMax a3) ?_ ?_
 ·have key2 := scan_loop (step := l_aw_14) (γ := denO o_aw_14) (fun i => (((), p.2.2.1, ((p.2.2.1.length : Nat) : Int), ((i : Nat) : Int), ()), (p, ()), ())) p.2.2.1 (fun i b => nz (bellM p b (p.2.2.1.take i)))
   (fun c => some (.inr (.inl ((c, ()), (), ())))) (some (.inl (((), ()), (p, ()), ()))) (leMax a4) ?_ ?_
  ·have e0 : ((0 : Nat) : Int) = 0 := rfl
   rw [e0] at key1 key2
   show (iterF l_aw_7 lots (((), p.2.1, ((p.2.1.length : Nat) : Int), 0, ()), (p, ()), ())).bind _ = _
   rw [key1]
   unfold lanesM
   cases scan (fun i l => nz (laneM p l (p.2.1.take i))) 0 p.2.1 with
   | some c => rfl
   | none =>
    rw [Option.bind_some]
    dsimp only
    show (iterF l_aw_14 lots (((), p.2.2.1, ((p.2.2.1.length : Nat) : Int), 0, ()), (p, ()), ())).bind _ = _
    rw [key2]
    unfold bellsM
    cases scan (fun i b => nz (bellM p b (p.2.2.1.take i))) 0 p.2.2.1 with
    | some c => rfl
    | none =>
     rw [Option.bind_some]
     dsimp only
     rw [implPlan_eq p a1 a5, Option.bind_some]
  ·intro rec i hi
   unfold l_aw_14
   dsimp only
   rw [if_pos (lt_t hi), if_pos nat0, at_get hi, if_pos (show (0 : Int) ≤ 0 ∧ (0 : Int) ≤ (i : Int) ∧ (i : Int) ≤ ((p.2.2.1.length : Nat) : Int) from ⟨by omega, by omega, by omega⟩), wrapS (lt1 hi a4)]
   have e : (p.2.2.1.drop (0 : Int).toNat).take (((i : Nat) : Int).toNat - (0 : Int).toNat) = p.2.2.1.take i := by simp
   rw [e, bellFault_eq p _ _ a1 (by simp; omega), Option.bind_some]
   dsimp only
   unfold nz
   by_cases g : bellM p p.2.2.1[i] (p.2.2.1.take i) = 0
   ·rw [if_neg (by simpa using g), if_neg (by simpa using g)]
   ·rw [if_pos (by simpa using g), if_pos (by simpa using g)]
  ·intro rec
   unfold l_aw_14
   dsimp only
   rw [if_neg lt_same]
 ·intro rec i hi
  unfold l_aw_7
  dsimp only
  rw [if_pos (lt_t hi), if_pos nat0, at_get hi, if_pos (show (0 : Int) ≤ 0 ∧ (0 : Int) ≤ (i : Int) ∧ (i : Int) ≤ ((p.2.1.length : Nat) : Int) from ⟨by omega, by omega, by omega⟩), wrapS (lt1 hi a3)]
  have e : (p.2.1.drop (0 : Int).toNat).take (((i : Nat) : Int).toNat - (0 : Int).toNat) = p.2.1.take i := by simp
  rw [e, laneFault_eq p _ _ a1 a2 (by simp; omega), Option.bind_some]
  dsimp only
  unfold nz
  by_cases g : laneM p p.2.1[i] (p.2.1.take i) = 0
  ·rw [if_neg (by simpa using g), if_neg (by simpa using g)]
  ·rw [if_pos (by simpa using g), if_pos (by simpa using g)]
 ·intro rec
  unfold l_aw_7
  dsimp only
  rw [if_neg lt_same]
def askM (p : PolD) (g : Int) : Int := if polM p ≠ 0 then polM p else if isG p g = true then 0 else 4
theorem specAsk_eq (p : PolD) (g : Int) (h : polLe 1048576 p) : F_z (p, g, ()) = some ((askM p g, ()), ()) := by
 unfold F_z askM
 rw [specPol_eq p h, l6Guest_eq p g h.1.1]
 simp only [Option.bind_some]
 by_cases h0 : polM p = 0
 ·rw [h0]; cases isG p g <;> simp
 ·rw [if_pos (by simpa using h0), if_pos h0]
theorem implAsk_eq (p : PolD) (g : Int) (h : polLe 1048576 p) : F_ax (p, g, ()) = some ((askM p g, ()), ()) := by
 unfold F_ax askM
 rw [implPol_eq p h, isGuest_eq p g h.1.1]
 simp only [Option.bind_some]
 by_cases h0 : polM p = 0
 ·rw [h0]; cases isG p g <;> simp
 ·rw [if_neg (by simpa using h0), if_pos h0]
theorem scan_none_all {α β : Type} {f : Nat → α → Option β} {m : List α} (h : scan f 0 m = none) : ∀ x ∈ m, ∃ i, f i x = none := by
 intro x hx
 obtain ⟨i, hi, rfl⟩ := List.mem_iff_getElem.1 hx
 exact ⟨_, scan_none h i hi⟩
structure OkPol (p : PolD) : Prop where
 own : 1 ≤ p.1.length ∧ p.1.length ≤ 3
 own1 : ∀ l ∈ p.1, 1 ≤ l.length ∧ l.length ≤ 5 ∧ ∀ x ∈ l, 0 ≤ x ∧ x ≤ 23
 nodup : dupM [] p.1.flatten = false
 lanes : p.2.1.length ≤ 4 ∧ lanesM p = none
 bells : p.2.2.1.length ≤ 4 ∧ bellsM p = none
 plan : 1 ≤ p.2.2.2.1.length ∧ p.2.2.2.1.length ≤ 8
 slots : ∀ s ∈ p.2.2.2.1, isG p s.1 = true ∧ 1 ≤ s.2.1 ∧ s.2.1 ≤ 50
theorem inB_t {n a b : Int} : inB n a b = true ↔ a ≤ n ∧ n ≤ b := by unfold inB; simp
theorem okPol {p : PolD} (h : polM p = 0) : OkPol p := by
 unfold polM at h
 split at h
 ·rename_i h'; exact absurd h h'
 rename_i h0
 have h0 : ownsM p.1 = 0 := by simpa using h0
 split at h
 case isFalse => cases h
 rename_i h4
 cases hl : lanesM p with
 | some c => rw [hl] at h; exact absurd h (lanesM_ne hl)
 | none =>
 rw [hl] at h
 dsimp only at h
 cases hb : bellsM p with
 | some c => rw [hb] at h; exact absurd h (bellsM_ne hb)
 | none =>
 rw [hb] at h
 dsimp only at h
 unfold ownsM at h0
 split at h0
 case isFalse => cases h0
 rename_i g1
 unfold planM at h
 split at h
 case isFalse => cases h
 rename_i g2
 cases ho : scan (fun (_ : Nat) l => Go.Proofs.Ytilcgnimcdkfiaa.own1 l) 0 p.1 with
 | some c =>
  rw [ho] at h0
  dsimp only at h0
  subst h0
  have : (0 : Int) ≠ 0 := scan_le (P := fun c => c ≠ 0) (fun j hj c hc => by
   unfold Go.Proofs.Ytilcgnimcdkfiaa.own1 at hc
   split at hc
   ·exact scan_le (P := fun c => c ≠ 0) (fun j hj c hc => by
     split at hc
     ·cases hc
     ·rw [← Option.some.inj hc]; decide) c hc
   ·rw [← Option.some.inj hc]; decide) _ ho
  exact absurd rfl this
 | none =>
  rw [ho] at h0
  dsimp only at h0
  have hd : dupM [] p.1.flatten = false := by
   split at h0
   ·cases h0
   ·rename_i h'; simpa using h'
  refine ⟨g1, ?_, hd, ⟨h4.1, hl⟩, ⟨h4.2, hb⟩, g2, ?_⟩
  ·intro l hl'
   obtain ⟨_, e⟩ := scan_none_all ho l hl'
   unfold Go.Proofs.Ytilcgnimcdkfiaa.own1 at e
   split at e
   ·rename_i g
    refine ⟨g.1, g.2, fun x hx => ?_⟩
    obtain ⟨_, e2⟩ := scan_none_all e x hx
    split at e2
    ·rename_i g3; exact inB_t.1 g3
    ·cases e2
   ·cases e
  ·intro s hs
   cases hp : scan (fun (_ : Nat) (s : TwoD) => if isG p s.1 = true then (if inB s.2.1 1 50 = true then none else some (3 : Int)) else some 4) 0 p.2.2.2.1 with
   | some c =>
    rw [hp] at h
    dsimp only at h
    subst h
    have : (0 : Int) ≠ 0 := scan_le (P := fun c => c ≠ 0) (fun j hj c hc => by
     split at hc
     ·split at hc
      ·cases hc
      ·rw [← Option.some.inj hc]; decide
     ·rw [← Option.some.inj hc]; decide) _ hp
    exact absurd rfl this
   | none =>
    obtain ⟨_, e⟩ := scan_none_all hp s hs
    split at e
    ·rename_i g
     split at e
     ·rename_i g3; exact ⟨g, inB_t.1 g3⟩
     ·cases e
    ·cases e
/-- The steps of a guest's slots, of all slots if it is below 0. -/
def stepsM (g : Int) : List TwoD → Int
 | [] => 0
 | s :: r => (if g < 0 ∨ s.1 = g then s.2.1 else 0) + stepsM g r
abbrev HostD := PolD × List Int × List HartD × Int × Int × Int × Unit
def hartM (h : HartD) : Int :=
 if h.1.length = 16 ∧ h.2.2.1.length = 11 ∧ h.1.getD 0 0 = 0 then
  (if allW h.1 = true ∧ okW h.2.1 = true ∧ allW h.2.2.1 = true ∧ allW h.2.2.2.2.2.2.2.1 = true ∧ allW h.2.2.2.2.2.2.2.2.1 = true then
   (if h.2.2.2.2.2.2.2.1.length ≤ 40 ∧ h.2.2.2.2.2.2.2.2.1.length ≤ 40 then
    (if inB h.2.2.2.2.2.2.1 0 1000000000 = true then
     (if h.2.2.1.getD 0 0 ≤ 3 ∧ h.2.2.1.getD 7 0 ≤ 7 ∧ h.2.2.1.getD 10 0 ≤ 8 ∧ h.2.2.1.getD 6 0 = 0 ∧ h.2.2.1.getD 8 0 = 0 then 0 else 1) else 3) else 2) else 3) else 1
def turnEnd : Nat → List TwoD → Int → Nat × Int × Int
 | k, [], at_ => (k, at_, 0)
 | k, s :: r, at_ => if s.2.1 ≤ at_ then turnEnd (k + 1) r (at_ - s.2.1) else (k, at_, s.2.1 - at_)
def turnM (p : PolD) (clock : Int) : Int × Int := let e := turnEnd 0 p.2.2.2.1 (clock % stepsM (-1) p.2.2.2.1); ((e.1 : Int), e.2.2)
def hostLe (n : Nat) (x : HostD) : Prop := polLe n x.1 ∧ x.2.1.length ≤ n ∧ x.2.2.1.length ≤ n ∧ ∀ h ∈ x.2.2.1, hartLe n h
def hartsM (m : List HartD) : Option Int := scan (fun (_ : Nat) h => nz (hartM h)) 0 m
def hostM (x : HostD) : Int :=
 if polM x.1 ≠ 0 then polM x.1
 else if (memFault x.2.1 = 0 ∧ x.2.1.length = 192) ∧ x.2.2.1.length = x.1.1.length then
  (match hartsM x.2.2.1 with
   | some c => c
   | none => if inB x.2.2.2.2.2.1 0 1000000 = true then (if x.2.2.2.1 = (turnM x.1 x.2.2.2.2.2.1).1 ∧ x.2.2.2.2.1 = (turnM x.1 x.2.2.2.2.2.1).2 then 0 else 1) else 3)
 else 1
theorem host_pol {x : HostD} (h : hostM x = 0) : polM x.1 = 0 := by
 unfold hostM at h
 split at h
 ·rename_i h'; exact absurd h h'
 ·rename_i h'; simpa using h'
/-- Bytes. -/
def Byt (c : List Int) : Prop := (∀ b ∈ c, 0 ≤ b ∧ b ≤ 255) ∧ c.length ≤ 1048580
theorem markS_loop {α E : Type} {step : ((Unit × Int × Int × Unit) × Unit × List α × Unit → Option (((Int × Unit) × Unit × List α × Unit) ⊕ E)) → (Unit × Int × Int × Unit) × Unit × List α × Unit → Option (((Int × Unit) × Unit × List α × Unit) ⊕ E)}
  (P : List α → Prop) (d : Nat)
  (h1 : ∀ rec (xs : List α) (i : Nat) (k : Int), i < xs.length → 0 ≤ k → k ≤ 1152921504606846976 → P xs → ∃ k' xs', step rec (((), k, ((i : Nat) : Int), ()), (), xs, ()) = rec (((), k', ((i + 1 : Nat) : Int), ()), (), xs', ()) ∧ xs'.length = xs.length ∧ k ≤ k' ∧ k' ≤ k + (d : Int) ∧ P xs')
  (h2 : ∀ rec (xs : List α) (k : Int), step rec (((), k, ((xs.length : Nat) : Int), ()), (), xs, ()) = some (.inl ((k, ()), (), xs, ()))) :
  ∀ (n fuel : Nat) (xs : List α) (i : Nat) (k : Int), xs.length - i = n → i ≤ xs.length → n < fuel → 0 ≤ k → k + ((n * d : Nat) : Int) ≤ 1152921504606846976 → P xs →
   ∃ k' xs', iterF step fuel (((), k, ((i : Nat) : Int), ()), (), xs, ()) = some (.inl ((k', ()), (), xs', ())) ∧ xs'.length = xs.length ∧ k ≤ k' ∧ k' ≤ k + ((n * d : Nat) : Int) ∧ P xs' := by
 intro n
 induction n with
 | zero =>
  intro fuel xs i k hn hi hf hk hb hP
  obtain ⟨f, rfl⟩ : ∃ f, fuel = f + 1 := ⟨fuel - 1, by omega⟩
  have e : i = xs.length := by omega
  subst e
  exact ⟨k, xs, by rw [iter_s, h2], rfl, Int.le_refl _, by omega, hP⟩
 | succ n ih =>
  intro fuel xs i k hn hi hf hk hb hP
  obtain ⟨f, rfl⟩ : ∃ f, fuel = f + 1 := ⟨fuel - 1, by omega⟩
  rw [Nat.succ_mul] at hb
  obtain ⟨k1, xs1, e1, e2, e3, e4, e5⟩ := h1 (iterF step f) xs i k (by omega) hk (by omega) hP
  obtain ⟨k2, xs2, g1, g2, g3, g4, g5⟩ := ih f xs1 (i + 1) k1 (by omega) (by omega) (by omega) (by omega) (by omega) e5
  refine ⟨k2, xs2, by rw [iter_s, e1, g1], by omega, by omega, ?_, g5⟩
  rw [Nat.succ_mul]; omega
/-- What marks of a row come to. -/
theorem markS_thm {α E : Type} {F : List α × Int × Unit → Option ((Int × Unit) × List α × Unit)} {step : ((Unit × Int × Int × Unit) × Unit × List α × Unit → Option (((Int × Unit) × Unit × List α × Unit) ⊕ E)) → (Unit × Int × Int × Unit) × Unit × List α × Unit → Option (((Int × Unit) × Unit × List α × Unit) ⊕ E)}
  (hF : ∀ xs k z, iterF step lots (((), k, (0 : Int), ()), (), xs, ()) = some (.inl z) → F (xs, k, ()) = if (xs.length == z.2.2.1.length && true) = true then some ((z.1.1, ()), (z.2.2.1, ())) else none)
  (P : List α → Prop) (d : Nat)
  (h1 : ∀ rec (xs : List α) (i : Nat) (k : Int), i < xs.length → 0 ≤ k → k ≤ 1152921504606846976 → P xs → ∃ k' xs', step rec (((), k, ((i : Nat) : Int), ()), (), xs, ()) = rec (((), k', ((i + 1 : Nat) : Int), ()), (), xs', ()) ∧ xs'.length = xs.length ∧ k ≤ k' ∧ k' ≤ k + (d : Int) ∧ P xs')
  (h2 : ∀ rec (xs : List α) (k : Int), step rec (((), k, ((xs.length : Nat) : Int), ()), (), xs, ()) = some (.inl ((k, ()), (), xs, ())))
  (xs : List α) (k : Int) (hl : xs.length ≤ 1048576) (hd : d ≤ 8388608) (hP : P xs) (hk : 0 ≤ k) (hk2 : k ≤ 576460752303423488) :
  ∃ k' xs', F (xs, k, ()) = some ((k', ()), (xs', ())) ∧ xs'.length = xs.length ∧ k ≤ k' ∧ k' ≤ k + 8796093022208 := by
 have hm : xs.length * d ≤ 1048576 * 8388608 := Nat.mul_le_mul hl hd
 obtain ⟨k', xs', e1, e2, e3, e4, _⟩ := markS_loop P d h1 h2 xs.length lots xs 0 k (by omega) (by omega) (by rw [lots_eq]; omega) hk (by omega) hP
 refine ⟨k', xs', ?_, e2, e3, by omega⟩
 have e0 : ((0 : Nat) : Int) = 0 := rfl
 rw [hF xs k _ e1]
 dsimp only
 rw [if_pos (by rw [e2]; simp)]
theorem mark_more {row : List Int} {k : Int} (h3 : row.length ≤ 1048576) (h0 : 0 ≤ k) (hk : k ≤ 1152921504616846976) :
  ∃ k' : Int, ∃ row' : List Int, F_by (row, k, ()) = some ((k', ()), (row', ())) ∧ row'.length = row.length ∧ k ≤ k' ∧ k' ≤ k + 1048576 :=
 ⟨_, _, mark_eq row k h3 ⟨h0, by omega⟩, seqFrom_len .., Int.le_add_of_nonneg_right nat0, Int.add_le_add_left (by omega) k⟩
theorem ok_of_mark {row : List Int} {k : Int} (h3 : row.length ≤ 1048576) (hk : 0 ≤ k ∧ k ≤ 1152921504606846976) :
  ∃ k' : Int, ∃ row' : List Int, F_by (row, k, ()) = some ((k', ()), (row', ())) ∧ row'.length = row.length ∧ k ≤ k' ∧ k' ≤ k + 1048576 := mark_more h3 hk.1 (by omega)
theorem wrap1 {k : Int} (h0 : 0 ≤ k) (h1 : k ≤ 1152921504616846976) : IntKind.i64.wrap (k + 1) = k + 1 := wrap64 (by omega) (by omega)
theorem mem_set_le {α : Type} {P : α → Prop} {xs : List α} {i : Nat} {y : α} (h : ∀ z ∈ xs, P z) (hy : P y) : ∀ z ∈ xs.set i y, P z := by
 intro z hz
 rcases List.mem_or_eq_of_mem_set hz with h1 | h1
 ·exact h z h1
 ·rw [h1]; exact hy
theorem markInts_ok (xs : List (List Int)) (k : Int) (hl : xs.length ≤ 1048576) (h : ∀ y ∈ xs, y.length ≤ 1048576) (hk : 0 ≤ k) (hk2 : k ≤ 576460752303423488) :
  ∃ k' : Int, ∃ xs', F_bz (xs, k, ()) = some ((k', ()), (xs', ())) ∧ xs'.length = xs.length ∧ k ≤ k' ∧ k' ≤ k + 8796093022208 := by
 refine markS_thm (F := F_bz) (step := l_bz_2) (fun xs k z h => by unfold F_bz L_bz_2; dsimp only; rw [h]; rfl) (fun xs => xs.length ≤ 1048576 ∧ ∀ y ∈ xs, y.length ≤ 1048576) 1048576 ?_ ?_ xs k hl (by omega) ⟨hl, h⟩ hk hk2
 ·rintro rec xs i k hi h0 hk ⟨hP, hP2⟩
  obtain ⟨k1, r1, e1, e2, e3, e4⟩ := ok_of_mark (hP2 _ (List.getElem_mem hi)) ⟨h0, hk⟩
  refine ⟨k1, xs.set i r1, ?_, by simp, e3, by omega, by simpa using hP, mem_set_le hP2 (by rw [e2]; exact hP2 _ (List.getElem_mem hi))⟩
  unfold l_bz_2
  dsimp only
  rw [if_pos (lt_t hi), if_pos ⟨nat0, Int.ofNat_lt.2 hi⟩, at_get hi, at_get hi, e1, Option.bind_some]
  dsimp only
  rw [if_pos e2, wrapS (by omega), Int.toNat_natCast]
 ·intro rec xs k
  unfold l_bz_2
  dsimp only
  rw [if_neg lt_same]
theorem markLanes_ok (xs : List LaneD) (k : Int) (hl : xs.length ≤ 1048576) (hk : 0 ≤ k) (hk2 : k ≤ 576460752303423488) :
  ∃ k' : Int, ∃ xs', F_ca (xs, k, ()) = some ((k', ()), (xs', ())) ∧ xs'.length = xs.length ∧ k ≤ k' ∧ k' ≤ k + 8796093022208 := by
 refine markS_thm (F := F_ca) (step := l_ca_2) (fun xs k z h => by unfold F_ca L_ca_2; dsimp only; rw [h]; rfl) (fun xs => xs.length ≤ 1048576) 5 ?_ ?_ xs k hl (by omega) hl hk hk2
 ·rintro rec xs i k hi h0 hk hP
  have w1 : IntKind.i64.wrap (k + 1) = k + 1 := wrap1 h0 (by omega)
  have w2 : IntKind.i64.wrap (k + 1 + 1) = k + 1 + 1 := wrap1 (by omega) (by omega)
  have w3 : IntKind.i64.wrap (k + 1 + 1 + 1) = k + 1 + 1 + 1 := wrap1 (by omega) (by omega)
  have w4 : IntKind.i64.wrap (k + 1 + 1 + 1 + 1) = k + 1 + 1 + 1 + 1 := wrap1 (by omega) (by omega)
  have w5 : IntKind.i64.wrap (k + 1 + 1 + 1 + 1 + 1) = k + 1 + 1 + 1 + 1 + 1 := wrap1 (by omega) (by omega)
  have wi : IntKind.i64.wrap ((i : Int) + 1) = ((i + 1 : Nat) : Int) := wrapS (by omega)
  have c : ((i : Nat) : Int) < ((xs.length : Nat) : Int) := by omega
  have c0 : (0 : Int) ≤ ((i : Nat) : Int) := nat0
  refine ⟨k + 1 + 1 + 1 + 1 + 1, xs.set i (k, k + 1, k + 1 + 1, k + 1 + 1 + 1, k + 1 + 1 + 1 + 1, ()), ?_, by simp, by omega, by omega, by simpa using hP⟩
  unfold l_ca_2
  dsimp only
  rw [if_pos (lt_t hi)]
  simp only [List.length_set, c, c0, and_self, if_true, Int.toNat_natCast, List.getElem?_eq_getElem hi, Option.bind_some, w1, w2, w3, w4, w5, wi, List.getElem?_set_self', Option.map_eq_map, Option.map_some, Function.const_apply, List.set_set]
 ·intro rec xs k
  unfold l_ca_2
  dsimp only
  rw [if_neg lt_same]
theorem markBells_ok (xs : List TwoD) (k : Int) (hl : xs.length ≤ 1048576) (hk : 0 ≤ k) (hk2 : k ≤ 576460752303423488) :
  ∃ k' : Int, ∃ xs', F_cb (xs, k, ()) = some ((k', ()), (xs', ())) ∧ xs'.length = xs.length ∧ k ≤ k' ∧ k' ≤ k + 8796093022208 := by
 refine markS_thm (F := F_cb) (step := l_cb_2) (fun xs k z h => by unfold F_cb L_cb_2; dsimp only; rw [h]; rfl) (fun xs => xs.length ≤ 1048576) 5 ?_ ?_ xs k hl (by omega) hl hk hk2
 ·rintro rec xs i k hi h0 hk hP
  have w1 : IntKind.i64.wrap (k + 1) = k + 1 := wrap1 h0 (by omega)
  have w2 : IntKind.i64.wrap (k + 1 + 1) = k + 1 + 1 := wrap1 (by omega) (by omega)
  have wi : IntKind.i64.wrap ((i : Int) + 1) = ((i + 1 : Nat) : Int) := wrapS (by omega)
  have c : ((i : Nat) : Int) < ((xs.length : Nat) : Int) := Int.ofNat_lt.2 hi
  have c0 : (0 : Int) ≤ ((i : Nat) : Int) := nat0
  refine ⟨k + 1 + 1, xs.set i (k, k + 1, ()), ?_, by simp, by omega, by omega, by simpa using hP⟩
  unfold l_cb_2
  dsimp only
  rw [if_pos (lt_t hi)]
  simp only [List.length_set, c, c0, and_self, if_true, Int.toNat_natCast, List.getElem?_eq_getElem hi, Option.bind_some, w1, w2, wi, List.getElem?_set_self', Option.map_eq_map, Option.map_some, Function.const_apply, List.set_set]
 ·intro rec xs k
  unfold l_cb_2
  dsimp only
  rw [if_neg lt_same]
theorem markSlots_ok (xs : List TwoD) (k : Int) (hl : xs.length ≤ 1048576) (hk : 0 ≤ k) (hk2 : k ≤ 576460752303423488) :
  ∃ k' : Int, ∃ xs', F_cc (xs, k, ()) = some ((k', ()), (xs', ())) ∧ xs'.length = xs.length ∧ k ≤ k' ∧ k' ≤ k + 8796093022208 := by
 refine markS_thm (F := F_cc) (step := l_cc_2) (fun xs k z h => by unfold F_cc L_cc_2; dsimp only; rw [h]; rfl) (fun xs => xs.length ≤ 1048576) 5 ?_ ?_ xs k hl (by omega) hl hk hk2
 ·rintro rec xs i k hi h0 hk hP
  have w1 : IntKind.i64.wrap (k + 1) = k + 1 := wrap1 h0 (by omega)
  have w2 : IntKind.i64.wrap (k + 1 + 1) = k + 1 + 1 := wrap1 (by omega) (by omega)
  have wi : IntKind.i64.wrap ((i : Int) + 1) = ((i + 1 : Nat) : Int) := wrapS (by omega)
  have c : ((i : Nat) : Int) < ((xs.length : Nat) : Int) := Int.ofNat_lt.2 hi
  have c0 : (0 : Int) ≤ ((i : Nat) : Int) := nat0
  refine ⟨k + 1 + 1, xs.set i (k, k + 1, ()), ?_, by simp, by omega, by omega, by simpa using hP⟩
  unfold l_cc_2
  dsimp only
  rw [if_pos (lt_t hi)]
  simp only [List.length_set, c, c0, and_self, if_true, Int.toNat_natCast, List.getElem?_eq_getElem hi, Option.bind_some, w1, w2, wi, List.getElem?_set_self', Option.map_eq_map, Option.map_some, Function.const_apply, List.set_set]
 ·intro rec xs k
  unfold l_cc_2
  dsimp only
  rw [if_neg lt_same]
theorem markPol_ok (p : PolD) (k : Int) (h : polLe 1048576 p) (hk : 0 ≤ k) (hk2 : k ≤ 288230376151711744) :
  ∃ k' : Int, ∃ p', F_cd ((p.1, p.2.1, p.2.2.1, p.2.2.2.1, ()), k, ()) = some ((k', ()), (p', ())) ∧ (p'.1.length = p.1.length ∧ p'.2.1.length = p.2.1.length ∧ p'.2.2.1.length = p.2.2.1.length ∧ p'.2.2.2.1.length = p.2.2.2.1.length) ∧ k ≤ k' ∧ k' ≤ k + 35184372088832 := by
 obtain ⟨⟨h1, h1'⟩, h2, h3, h4⟩ := h
 obtain ⟨k1, x1, a1, b1, c1, d1⟩ := markInts_ok p.1 k h1 h1' hk (by omega)
 obtain ⟨k2, x2, a2, b2, c2, d2⟩ := markLanes_ok p.2.1 k1 h2 (by omega) (by omega)
 obtain ⟨k3, x3, a3, b3, c3, d3⟩ := markBells_ok p.2.2.1 k2 h3 (by omega) (by omega)
 obtain ⟨k4, x4, a4, b4, c4, d4⟩ := markSlots_ok p.2.2.2.1 k3 h4 (by omega) (by omega)
 refine ⟨k4, (x1, x2, x3, x4, ()), ?_, ⟨b1, b2, b3, b4⟩, by omega, by omega⟩
 unfold F_cd
 dsimp only
 rw [a1, Option.bind_some]
 dsimp only
 rw [if_pos (by rw [b1]; simp), a2, Option.bind_some]
 dsimp only
 rw [if_pos (by rw [b2]; simp), a3, Option.bind_some]
 dsimp only
 rw [if_pos (by rw [b3]; simp), a4, Option.bind_some]
 dsimp only
 rw [if_pos (by rw [b4]; simp), if_pos (by rw [b1, b2, b3, b4]; simp)]
theorem nz_none {c : Int} (h : nz c = none) : c = 0 := by
 unfold nz at h
 split at h
 ·cases h
 ·rename_i h'; simpa using h'
theorem okLane {p : PolD} (hok : OkPol p) : ∀ l ∈ p.2.1, (isG p l.1 = true ∧ isG p l.2.1 = true ∧ l.1 ≠ l.2.1) ∧ (0 ≤ l.2.2.1 ∧ l.2.2.1 ≤ 23) ∧ (5 ≤ l.2.2.2.1 ∧ l.2.2.2.1 ≤ 6) ∧ 5 ≤ l.2.2.2.2.1 ∧ l.2.2.2.2.1 ≤ 6 := by
 intro l hl
 obtain ⟨i, e⟩ := scan_none_all hok.lanes.2 l hl
 have e := nz_none e
 unfold laneM at e
 split at e
 ·rename_i h; exact absurd e h
 ·rename_i h0
  split at e
  ·rename_i h1
   refine ⟨?_, inB_t.1 h1.1, inB_t.1 h1.2.1, inB_t.1 h1.2.2⟩
   have h0 : endsM p l.1 l.2.1 = 0 := by simpa using h0
   unfold endsM at h0
   split at h0
   ·rename_i g1
    split at h0
    ·rename_i g2
     split at h0
     ·cases h0
     ·rename_i g3; exact ⟨g1, g2, g3⟩
    ·cases h0
   ·cases h0
  ·cases e
theorem isG_t {p : PolD} {g : Int} : isG p g = true ↔ 0 ≤ g ∧ g < (p.1.length : Int) := by unfold isG; simp; omega
def pg (m : List Int) (p : Int) : List Int := (m.drop (8 * p.toNat)).take 8
def zeroH : HartD := ([], 0, [], false, false, false, 0, [], [], ())
abbrev SoloD := HartD × List TwoD × List Int × Unit
/-- What is not right with an entry of a list of pages. -/
def pageF (top : Int) (p : TwoD) : Option Int := if inB p.1 (-1) (top - 1) = true then (if inB p.2.1 0 7 = true then (if p.1 = -1 then nz (if p.2.1 = 0 then 0 else 1) else none) else some 3) else some 3
def pagesM (l : List TwoD) (top : Int) : Int := if inB top 1 24 = true then (if l.length = 8 then (match scan (fun (_ : Nat) p => pageF top p) 0 l with | some c => c | none => 0) else 1) else 3
def soloM (x : SoloD) : Int := if hartM x.1 ≠ 0 then hartM x.1 else if pagesM x.2.1 8 ≠ 0 then pagesM x.2.1 8 else if memFault x.2.2.1 = 0 ∧ x.2.2.1.length = 64 then 0 else 1
/-- A word. -/
def WW (n : Int) : Prop := 0 ≤ n ∧ n ≤ 4294967295
structure OkC (cs : List Int) : Prop where
 len : cs.length = 11
 words : ∀ w ∈ cs, WW w
 st : cs.getD 0 0 ≤ 3
 msk : cs.getD 7 0 ≤ 7
 tb : cs.getD 10 0 ≤ 8
 pd : cs.getD 6 0 = 0
 tm : cs.getD 8 0 = 0
structure OkR (r : List Int) : Prop where
 len : r.length = 16
 words : ∀ w ∈ r, WW w
 zero : r.getD 0 0 = 0
structure OkL (l : List TwoD) (m : List Int) : Prop where
 len : l.length = 8
 pgs : ∀ p ∈ l, (-1 ≤ p.1 ∧ p.1 ≤ 23) ∧ (0 ≤ p.2.1 ∧ p.2.1 ≤ 7) ∧ 8 * p.1 + 8 ≤ (m.length : Int)
 words : ∀ w ∈ m, WW w
 mlen : m.length ≤ 192
theorem getD_mem {α : Type} {l : List α} {k : Nat} {d : α} (h : k < l.length) : l.getD k d ∈ l := by
 rw [List.getD_eq_getElem?_getD, List.getElem?_eq_getElem h]; exact List.getElem_mem h
theorem OkC.w {cs : List Int} (h : OkC cs) {k : Nat} (hk : k < 11) : WW (cs.getD k 0) := h.words _ (getD_mem (by rw [h.len]; exact hk))
theorem OkR.w {cs : List Int} (h : OkR cs) {k : Nat} (hk : k < 16) : WW (cs.getD k 0) := h.words _ (getD_mem (by rw [h.len]; exact hk))
def pendM (cs : List Int) (ru : Bool) (dn : Int) (iq : List Int) : Int :=
 (if cs.getD 9 0 ≠ 0 ∧ cs.getD 9 0 ≤ dn then 1 else 0) + (if ru = true then 2 else 0) + (if 0 < iq.length then 4 else 0)
section
variable {r cs iq oq : List Int} {pc dn : Int} {ha wa ru : Bool}
theorem getD_set_ne {l : List Int} {i j : Nat} {y d : Int} (h : i ≠ j) : (l.set i y).getD j d = l.getD j d := by
 simp [List.getD_eq_getElem?_getD, List.getElem?_set_ne h]
theorem getD_set_eq {l : List Int} {i : Nat} {y d : Int} (h : i < l.length) : (l.set i y).getD i d = y := by
 simp [List.getD_eq_getElem?_getD, List.getElem?_set_self h]
theorem OkC.set {cs : List Int} (h : OkC cs) {k : Nat} {w : Int} (hw : WW w) (hk : k ≠ 6 ∧ k ≠ 8) (h0 : k = 0 → w ≤ 3) (h7 : k = 7 → w ≤ 7) (h10 : k = 10 → w ≤ 8) : OkC (cs.set k w) := by
 by_cases hlt : k < 11
 ·refine ⟨by simp [h.len], fun z hz => ?_, ?_, ?_, ?_, ?_, ?_⟩
  ·rcases List.mem_or_eq_of_mem_set hz with hz | rfl
   ·exact h.words z hz
   ·exact hw
  ·by_cases e : k = 0
   ·subst e; rw [getD_set_eq (by rw [h.len]; decide)]; exact h0 rfl
   ·rw [getD_set_ne e]; exact h.st
  ·by_cases e : k = 7
   ·subst e; rw [getD_set_eq (by rw [h.len]; decide)]; exact h7 rfl
   ·rw [getD_set_ne e]; exact h.msk
  ·by_cases e : k = 10
   ·subst e; rw [getD_set_eq (by rw [h.len]; decide)]; exact h10 rfl
   ·rw [getD_set_ne e]; exact h.tb
  ·rw [getD_set_ne hk.1]; exact h.pd
  ·rw [getD_set_ne hk.2]; exact h.tm
 ·rw [List.set_eq_of_length_le (by rw [h.len]; omega)]; exact h
def getM (cs : List Int) (ru : Bool) (dn : Int) (iq : List Int) (k : Int) : Int := if k = 6 then pendM cs ru dn iq else if k = 8 then dn else cs.getD k.toNat 0
end
structure OkP (l : List TwoD) : Prop where
 len : l.length = 8
 pgs : ∀ p ∈ l, -1 ≤ p.1 ∧ p.1 ≤ 23
theorem OkL.p {l : List TwoD} {m : List Int} (h : OkL l m) : OkP l := ⟨h.len, fun p hp => (h.pgs p hp).1⟩
theorem okW_iff {w : Int} : okW w = true ↔ WW w := by unfold okW WW; simp
theorem allW_iff {m : List Int} : allW m = true ↔ ∀ w ∈ m, WW w := by
 unfold allW; rw [List.all_eq_true]; exact ⟨fun h w hw => okW_iff.1 (h w hw), fun h w hw => okW_iff.2 (h w hw)⟩
/-- A machine. -/
structure Mc where
 r : List Int
 pc : Int
 cs : List Int
 ha : Bool
 wa : Bool
 ru : Bool
 dn : Int
 iq : List Int
 oq : List Int
 m : List Int
 ring : Int
 fall : Int
section
variable {l : List TwoD} {s : Mc}
theorem OkR.set {r : List Int} (h : OkR r) {k : Nat} {w : Int} (hk : 0 < k) (hw : WW w) : OkR (r.set k w) :=
 ⟨by rw [List.length_set]; exact h.len, fun z hz => by
  rcases List.mem_or_eq_of_mem_set hz with hz | rfl
  ·exact h.words z hz
  ·exact hw, by rw [getD_set_ne (by omega)]; exact h.zero⟩
end
def Mc.of (h : HartD) (m : List Int) : Mc := ⟨h.1, h.2.1, h.2.2.1, h.2.2.2.1, h.2.2.2.2.1, h.2.2.2.2.2.1, h.2.2.2.2.2.2.1, h.2.2.2.2.2.2.2.1, h.2.2.2.2.2.2.2.2.1, m, -1, -1⟩
abbrev StepR := Int × Int × Int × List Int × Int × List Int × Bool × Bool × Bool × Int × List Int × List Int × List Int × Unit
def Mc.res (s : Mc) (c g : Int) : StepR := (0, c, g, s.r, s.pc, s.cs, s.ha, s.wa, s.ru, s.dn, s.iq, s.oq, s.m, ())
def acc (c g : Int) : StepR := (0, c, g, [], 0, [], false, false, false, 0, [], [], [], ())
abbrev SrcD := List Int × Int × Unit
/-- A source that has been read so far at most. -/
def Sr (s : SrcD) (k : Int) : Prop := Byt s.1 ∧ 0 ≤ s.2.1 ∧ s.2.1 ≤ k
theorem Sr.le {s : SrcD} {k k' : Int} (h : Sr s k) (hk : k ≤ k') : Sr s k' := ⟨h.1, h.2.1, Int.le_trans h.2.2 hk⟩
theorem Sr.pos {s : SrcD} {k : Int} (h : Sr s k) : 0 ≤ k := Int.le_trans h.2.1 h.2.2
/-- It answers, and the answer is such. -/
def Dr {X : Type} (o : Option X) (P : X → Prop) : Prop := ∃ v, o = some v ∧ P v
theorem Dr.bind {X Y : Type} {o : Option X} {f : X → Option Y} {Q : X → Prop} {P : Y → Prop} (h : Dr o Q) (g : ∀ v, Q v → Dr (f v) P) : Dr (o.bind f) P := by
 obtain ⟨v, rfl, hv⟩ := h
 exact g v hv
theorem Dr.ret {X : Type} {v : X} {P : X → Prop} (h : P v) : Dr (some v) P := ⟨v, rfl, h⟩
theorem Dr.guard {X : Type} {c : Prop} [Decidable c] {a : Option X} {P : X → Prop} (hc : c) (ha : Dr a P) : Dr (if c then a else none) P := by rw [if_pos hc]; exact ha
theorem Dr.get {X Y : Type} {xs : List X} {i : Nat} {f : X → Option Y} {P : Y → Prop} (hi : i < xs.length) (h : ∀ y, y ∈ xs → xs[i]? = some y → Dr (f y) P) : Dr ((xs[i]?).bind f) P := by
 rw [List.getElem?_eq_getElem hi, Option.bind_some]
 exact h _ (List.getElem_mem hi) (List.getElem?_eq_getElem hi)
theorem Dr.of {X : Type} {o : Option X} {v : X} {P : X → Prop} (h : o = some v) (hv : P v) : Dr o P := ⟨v, h, hv⟩
theorem iter_d {X Y : Type} {step : (X → Option Y) → X → Option Y} {Q : Y → Prop} (I : Nat → X → Prop) (h : ∀ rec m x, I m x → (∀ m' x', m' < m → I m' x' → Dr (rec x') Q) → Dr (step rec x) Q) (m : Nat) (x : X) (hI : I m x) (hm : m < lots) : Dr (iterF step lots x) Q := by
 have key : ∀ n m x, m < n → I m x → Dr (iterF step n x) Q := by
  intro n
  induction n with
  | zero => intro m x h; omega
  | succ n ih => intro m x hm hI; exact h _ m x hI fun m' x' hlt hI' => ih m' x' (by omega) hI'
 exact key lots m x hm hI
def Bd (n x : Int) : Prop := 0 ≤ x ∧ (x < n ∨ x = 0)
theorem Bd.e {n x : Int} (h : Bd n x) : 0 ≤ x ∧ (x < n ∨ x = 0) := h
def Bt (a b x : Int) : Prop := a ≤ x ∧ x ≤ b
theorem Bt.e {a b x : Int} (h : Bt a b x) : a ≤ x ∧ x ≤ b := h
structure HL (h : HartD) : Prop where
 r : h.1.length = 16
 c : h.2.2.1.length = 11
 i : h.2.2.2.2.2.2.2.1.length ≤ 2
 o : h.2.2.2.2.2.2.2.2.1.length ≤ 40
structure HB (h : HartD) : Prop where
 r : h.1.length ≤ 16
 c : h.2.2.1.length = 11
 i : h.2.2.2.2.2.2.2.1.length ≤ 41
 o : h.2.2.2.2.2.2.2.2.1.length ≤ 40
theorem HL.b {h : HartD} (hh : HL h) : HB h := ⟨by rw [hh.r]; omega, hh.c, by have := hh.i; omega, hh.o⟩
theorem HB.le {h : HartD} (hh : HB h) : hartLe 1048576 h := ⟨by have := hh.r; omega, by rw [hh.c]; omega, by have := hh.i; omega, by have := hh.o; omega⟩
theorem Dr.step {X Y : Type} {o : Option X} {v : X} {f : X → Option Y} {P : Y → Prop} (h : o = some v) (g : Dr (f v) P) : Dr (o.bind f) P := by rw [h]; exact g
theorem Dr.pos {X : Type} {c : Prop} [Decidable c] {a b : Option X} {P : X → Prop} (hc : c) (h : Dr a P) : Dr (if c then a else b) P := by rw [if_pos hc]; exact h
theorem Dr.neg {X : Type} {c : Prop} [Decidable c] {a b : Option X} {P : X → Prop} (hc : ¬ c) (h : Dr b P) : Dr (if c then a else b) P := by rw [if_neg hc]; exact h
theorem Dr.eq {X : Type} {o : Option X} {v : X} (h : Dr o fun r => r = v) : o = some v := by
 obtain ⟨_, e, rfl⟩ := h
 exact e
def Mc.hart (s : Mc) : HartD := (s.r, s.pc, s.cs, s.ha, s.wa, s.ru, s.dn, s.iq, s.oq, ())
def noPg : TwoD := (-1, 0, ())
def basePg : List TwoD := [noPg, noPg, noPg, noPg, noPg, noPg, noPg, noPg]
def ownPg : Nat → List Int → List TwoD → List TwoD
 | _, [], l => l
 | k, p :: r, l => ownPg (k + 1) r (l.set k (p, 7, ()))
def lane1 (g : Int) (x : LaneD) (l : List TwoD) : List TwoD :=
 let l1 := if x.1 = g then l.set x.2.2.2.1.toNat (x.2.2.1, 3, ()) else l
 if x.2.1 = g then l1.set x.2.2.2.2.1.toNat (x.2.2.1, 1, ()) else l1
def lanePg (g : Int) : List LaneD → List TwoD → List TwoD
 | [], l => l
 | x :: r, l => lanePg g r (lane1 g x l)
/-- The pages of a guest. -/
def pgM (p : PolD) (g : Int) : List TwoD := lanePg g p.2.1 (ownPg 0 (p.1.getD g.toNat []) basePg)
/-- A property of all pages. -/
theorem ownPg_all {P : TwoD → Prop} : ∀ (r : List Int) (k : Nat) (l : List TwoD), (∀ x ∈ r, P (x, 7, ())) → (∀ q ∈ l, P q) → ∀ q ∈ ownPg k r l, P q
 | [], _, _, _, h => h
 | p :: r, k, l, h1, h => ownPg_all r (k + 1) _ (fun x hx => h1 x (List.mem_cons_of_mem _ hx)) fun q hq => by
  rcases List.mem_or_eq_of_mem_set hq with hq | rfl
  ·exact h q hq
  ·exact h1 p (by simp)
theorem lane1_all {P : TwoD → Prop} {g : Int} {x : LaneD} {l : List TwoD} (h1 : P (x.2.2.1, 3, ())) (h2 : P (x.2.2.1, 1, ())) (h : ∀ q ∈ l, P q) : ∀ q ∈ lane1 g x l, P q := by
 have s : ∀ {l : List TwoD} {k : Nat} {y : TwoD}, P y → (∀ q ∈ l, P q) → ∀ q ∈ l.set k y, P q := fun hy h q hq => by
  rcases List.mem_or_eq_of_mem_set hq with hq | rfl
  ·exact h q hq
  ·exact hy
 unfold lane1
 dsimp only
 split
 ·split
  ·exact s h2 (s h1 h)
  ·exact s h2 h
 ·split
  ·exact s h1 h
  ·exact h
theorem lanePg_all {P : TwoD → Prop} {g : Int} : ∀ (r : List LaneD) (l : List TwoD), (∀ x ∈ r, P (x.2.2.1, 3, ()) ∧ P (x.2.2.1, 1, ())) → (∀ q ∈ l, P q) → ∀ q ∈ lanePg g r l, P q
 | [], _, _, h => h
 | x :: r, l, h1, h => lanePg_all r _ (fun y hy => h1 y (List.mem_cons_of_mem _ hy)) (lane1_all (h1 x (by simp)).1 (h1 x (by simp)).2 h)
theorem own_mem {p : PolD} {g : Int} (hok : OkPol p) (hg : isG p g = true) : p.1.getD g.toNat [] ∈ p.1 := by
 have := isG_t.1 hg
 exact getD_mem (by omega)
theorem pgM_in {p : PolD} {g : Int} (hok : OkPol p) (hg : isG p g = true) : ∀ q ∈ pgM p g, (-1 ≤ q.1 ∧ q.1 ≤ 23) ∧ 0 ≤ q.2.1 ∧ q.2.1 ≤ 7 := by
 refine lanePg_all (P := fun q => (-1 ≤ q.1 ∧ q.1 ≤ 23) ∧ 0 ≤ q.2.1 ∧ q.2.1 ≤ 7) _ _ (fun x hx => ?_) (ownPg_all _ _ _ (fun x hx => ?_) ?_)
 ·have := (okLane hok x hx).2.1
  dsimp only
  omega
 ·have := (hok.own1 _ (own_mem hok hg)).2.2 x hx
  dsimp only
  omega
 ·intro q hq
  simp only [basePg, List.mem_cons, List.not_mem_nil, or_false, or_self] at hq
  subst hq
  unfold noPg
  decide
theorem take_snoc {α : Type} {l : List α} {i : Nat} (h : i < l.length) : l.take (i + 1) = l.take i ++ [l[i]] := by rw [List.take_add_one, List.getElem?_eq_getElem h]; rfl
def aloneM (l : List TwoD) : List TwoD := l.mapIdx fun k p => if 0 ≤ p.1 then ((k : Int), p.2) else p
theorem pg_len8 {m : List Int} {p : Int} (h : 0 ≤ p ∧ 8 * p + 8 ≤ (m.length : Int)) : (pg m p).length = 8 := by unfold pg; simp; omega
structure HK (x : HostD) : Prop where
 pol : polM x.1 = 0
 mem : memFault x.2.1 = 0 ∧ x.2.1.length = 192
 len : x.2.2.1.length = x.1.1.length
 harts : ∀ h ∈ x.2.2.1, hartM h = 0
 clock : 0 ≤ x.2.2.2.2.2.1 ∧ x.2.2.2.2.2.1 ≤ 1000000
 slot : x.2.2.2.1 = (turnM x.1 x.2.2.2.2.2.1).1
 left : x.2.2.2.2.1 = (turnM x.1 x.2.2.2.2.2.1).2
theorem HK.ok {x : HostD} (h : HK x) : OkPol x.1 := okPol h.pol
theorem hartsM_zero : ∀ {m : List HartD}, hartsM m = none ↔ ∀ h ∈ m, hartM h = 0 := by
 have key : ∀ {m : List HartD} {i : Nat}, scan (fun (_ : Nat) h => nz (hartM h)) i m = none ↔ ∀ h ∈ m, hartM h = 0 := by
  intro m
  induction m with
  | nil => intro i; simp [scan]
  | cons y r ih =>
   intro i
   simp only [scan]
   by_cases hy : hartM y = 0
   ·have : nz (hartM y) = none := by unfold nz; rw [if_neg (by simpa using hy)]
    rw [this]
    simp only
    rw [ih]
    simp [hy]
   ·have : nz (hartM y) = some (hartM y) := by unfold nz; rw [if_pos hy]
    rw [this]
    simp [hy]
 intro m
 unfold hartsM
 exact key
theorem HK.of {x : HostD} (h : hostM x = 0) : HK x := by
 have hp := host_pol h
 unfold hostM at h
 rw [if_neg (by simpa using hp)] at h
 split at h
 ·rename_i g
  cases hh : hartsM x.2.2.1 with
  | some c =>
   rw [hh] at h
   have : c ≠ 0 := by
    have : ∀ {m : List HartD} {i : Nat} {c : Int}, scan (fun (_ : Nat) h => nz (hartM h)) i m = some c → c ≠ 0 := by
     intro m
     induction m with
     | nil => intro i c h; simp [scan] at h
     | cons y r ih =>
      intro i c h
      simp only [scan] at h
      split at h
      ·rename_i c' hc'
       obtain rfl := Option.some.inj h
       unfold nz at hc'
       split at hc'
       ·obtain rfl := Option.some.inj hc'; assumption
       ·cases hc'
      ·exact ih h
    exact this hh
   exact absurd h this
  | none =>
   rw [hh] at h
   simp only at h
   split at h
   ·rename_i hc
    split at h
    ·rename_i hs
     exact ⟨hp, g.1, g.2, hartsM_zero.1 hh, inB_t.1 hc, hs.1, hs.2⟩
    ·cases h
   ·cases h
 ·cases h
theorem HK.to {x : HostD} (h : HK x) : hostM x = 0 := by
 unfold hostM
 rw [if_neg (by simpa using h.pol), if_pos ⟨h.mem, h.len⟩, hartsM_zero.2 h.harts]
 simp only
 rw [if_pos (inB_t.2 h.clock), if_pos ⟨h.slot, h.left⟩]
theorem hart0_le {h : HartD} (hh : hartM h = 0) : hartLe 1048576 h := by
 unfold hartM at hh
 split at hh
 ·rename_i c1
  split at hh
  ·split at hh
   ·rename_i c3
    exact ⟨by omega, by omega, by omega, by omega⟩
   ·cases hh
  ·cases hh
 ·cases hh
theorem pol0_le {p : PolD} (h : OkPol p) : polLe 1048576 p := by
 have h1 := h.own; have h2 := h.lanes.1; have h3 := h.bells.1; have h4 := h.plan.2
 exact ⟨⟨by omega, fun l hl => by have := (h.own1 l hl).2.1; omega⟩, by omega, by omega, by omega⟩
theorem HK.le {x : HostD} (h : HK x) : hostLe 1048576 x := by
 have h1 := h.mem.2; have h2 := h.len; have h3 := h.ok.own
 exact ⟨pol0_le h.ok, by omega, by omega, fun y hy => hart0_le (h.harts y hy)⟩
theorem okBell {p : PolD} (hok : OkPol p) : ∀ b ∈ p.2.2.1, isG p b.1 = true ∧ isG p b.2.1 = true ∧ b.1 ≠ b.2.1 := by
 intro b hb
 obtain ⟨i, e⟩ := scan_none_all hok.bells.2 b hb
 have e := nz_none e
 unfold bellM at e
 split at e
 ·rename_i h; exact absurd e h
 ·rename_i h0
  have h0 : endsM p b.1 b.2.1 = 0 := by simpa using h0
  unfold endsM at h0
  split at h0
  ·split at h0
   ·split at h0
    ·cases h0
    ·exact ⟨‹_›, ‹_›, ‹_›⟩
   ·cases h0
  ·cases h0
def setM (s : SoloD) (m : List Int) : SoloD := (s.1, s.2.1, m, ())
theorem words_of {m : List Int} (h : memFault m = 0) : ∀ w ∈ m, WW w := by
 unfold memFault at h
 split at h
 ·split at h
  ·exact allW_iff.1 ‹_›
  ·cases h
 ·cases h
theorem pg_words {m : List Int} {p : Int} (h : ∀ w ∈ m, WW w) : ∀ w ∈ pg m p, WW w := fun w hw => h w (List.mem_of_mem_drop (List.mem_of_mem_take hw))
/-- A lane of a right host, and what it brings. -/
theorem lane_in {x : HostD} (h : HK x) {l : LaneD} (hl : l ∈ x.1.2.1) : (0 ≤ l.2.2.1 ∧ 8 * l.2.2.1 + 8 ≤ (x.2.1.length : Int)) ∧ (0 ≤ l.2.2.2.2.1 ∧ l.2.2.2.2.1 < 8) ∧ (pg x.2.1 l.2.2.1).length = 8 ∧ ∀ w ∈ pg x.2.1 l.2.2.1, WW w := by
 have hm := h.mem.2
 obtain ⟨_, h2, h3, h4⟩ := okLane h.ok l hl
 have e : 0 ≤ l.2.2.1 ∧ 8 * l.2.2.1 + 8 ≤ (x.2.1.length : Int) := by omega
 exact ⟨e, by omega, pg_len8 e, pg_words (words_of h.mem.1)⟩
abbrev ownL (p : PolD) (g : Int) : List Int := p.1.getD g.toNat []
/-- A lane has its places. -/
def LaneOk (x : LaneD) : Prop := x.1 ≠ x.2.1 ∧ (5 ≤ x.2.2.2.1 ∧ x.2.2.2.1 ≤ 6) ∧ (5 ≤ x.2.2.2.2.1 ∧ x.2.2.2.2.1 ≤ 6)
theorem lanes_ok {p : PolD} (hok : OkPol p) : ∀ x ∈ p.2.1, LaneOk x := fun x hx => by
 have := okLane hok x hx
 exact ⟨this.1.2.2, this.2.2.1, this.2.2.2⟩
/-- A machine but for what is rung. -/
def calm (h : HartD) : HartD := (h.1, h.2.1, h.2.2.1, h.2.2.2.1, h.2.2.2.2.1, false, h.2.2.2.2.2.2)
/-- A guest of a host, and a lonely machine that is as it is. -/
structure Rl (x : HostD) (s : SoloD) (g : Int) : Prop where
 hk : HK x
 hs : soloM s = 0
 hg : isG x.1 g = true
 pages : s.2.1 = aloneM (pgM x.1 g)
 hart : calm s.1 = calm (x.2.2.1.getD g.toNat zeroH)
 own : ∀ k, k < (ownL x.1 g).length → pg x.2.1 ((ownL x.1 g).getD k 0) = pg s.2.2.1 (k : Nat)
 gives : ∀ y ∈ x.1.2.1, y.1 = g → pg x.2.1 y.2.2.1 = pg s.2.2.1 y.2.2.2.1
section
variable {x : HostD} {s : SoloD} {g : Int}
theorem Rl.lanes (h : Rl x s g) : ∀ y ∈ x.1.2.1, LaneOk y ∧ (pg x.2.1 y.2.2.1).length = 8 := fun y hy => ⟨lanes_ok h.hk.ok y hy, (lane_in h.hk hy).2.2.1⟩
end
theorem HK.pgs {x : HostD} (h : HK x) {g : Int} (hg : isG x.1 g = true) : ∀ q ∈ pgM x.1 g, 0 ≤ q.1 → 8 * q.1 + 8 ≤ (x.2.1.length : Int) := fun q hq _ => by
 have := pgM_in h.ok hg q hq
 rw [h.mem.2]
 omega
end Go.Proofs.Ytilcgnimcdkfiaa
