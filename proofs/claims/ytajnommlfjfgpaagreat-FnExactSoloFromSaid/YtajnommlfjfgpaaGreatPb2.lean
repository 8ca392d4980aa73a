/- Plain laws: what the functions compute, and that both programs compute the same. -/
import Derived.Test.YtajnommlfjfgpaaGreatPb1
namespace Go.Proofs.YtajnommlfjfgpaaGreat
open Go Go.RowKit S Go.Proofs
set_option maxRecDepth 100000
set_option linter.unusedVariables false
set_option linter.unusedSimpArgs false
theorem toHost_eq (x : HostD) (h : hostLe 1048576 x) : F_u (x, ()) = some (((x.1.1, x.1.2.1, x.1.2.2.1, x.1.2.2.2.1, x.2.1, x.2.2.1, x.2.2.2.1, x.2.2.2.2.1, x.2.2.2.2.2.1, ()), ()), ()) := by
 obtain ⟨a1, a2, a3, a4⟩ := h
 unfold F_u
 rw [toPol_eq x.1 a1, Option.bind_some, toInt64S_eq x.2.1 (le8 a2), Option.bind_some, toHarts_eq x.2.2.1 a3 a4, Option.bind_some]
theorem eqHarts_eq (m : List HartD) (h : m.length ≤ 1048576) (h2 : ∀ l ∈ m, hartLe 1048576 l) : F_cw (m, m, ()) = some ((true, ()), ()) :=
 eqS_thm (F := F_cw) (step := l_cw_4) (f := fun y y' => F_cj (y, y', ())) (fun _ => rfl) (fun _ => rfl) (fun _ _ _ _ => rfl) m (leMax h) fun y hy => eqHart_eq y (h2 y hy)
theorem eqHost_eq (x : HostD) (h : hostLe 1048576 x) : F_cx (x, x, ()) = some ((true, ()), ()) := by
 obtain ⟨a1, a2, a3, a4⟩ := h
 unfold F_cx
 rw [eqPol_eq x.1 a1, Option.bind_some, if_neg (by simp), eqInt64S_eq x.2.1 (leM a2), Option.bind_some, if_neg (by simp), eqHarts_eq x.2.2.1 a3 a4, Option.bind_some, if_neg (by simp), if_neg (by simp), if_neg (by simp), if_neg (by simp)]
theorem inR_hart {h : HartD} (hh : inR (.pair (.slice (.int .i64)) (.pair (.int .i64) (.pair (.slice (.int .i64)) (.pair .bool (.pair .bool (.pair .bool (.pair (.int .i64) (.pair (.slice (.int .i64)) (.pair (.slice (.int .i64)) .unit))))))))) h) : hartLe maxLen h :=
 ⟨hh.1.1, hh.2.2.1.1, hh.2.2.2.2.2.2.2.1.1, hh.2.2.2.2.2.2.2.2.1.1⟩
theorem host_pol {x : HostD} (h : hostM x = 0) : polM x.1 = 0 := by
 unfold hostM at h
 split at h
 ·rename_i h'; exact absurd h h'
 ·rename_i h'; simpa using h'
/-- Bytes. -/
def Byt (c : List Int) : Prop := (∀ b ∈ c, 0 ≤ b ∧ b ≤ 255) ∧ c.length ≤ 1048577
theorem markS_loop {α E : Type} {step : ((Unit × Int × Int × Unit) × Unit × List α × Unit → Option (((Int × Unit) × Unit × List α × Unit) ⊕ E)) → (Unit × Int × Int × Unit) × Unit × List α × Unit → Option (((Int × Unit) × Unit × List α × Unit) ⊕ E)}
  (P : List α → Prop) (d : Nat)
  (h1 : ∀ rec (xs : List α) (i : Nat) (k : Int), i < xs.length → 0 ≤ k → k ≤ 1152921504606846976 → P xs → ∃ k' xs', step rec (((), k, ((i : Nat) : Int), ()), (), xs, ()) = rec (((), k', ((i + 1 : Nat) : Int), ()), (), xs', ()) ∧ xs'.length = xs.length ∧ k ≤ k' ∧ k' ≤ k + (d : Int) ∧ P xs')
  (h2 : ∀ rec (xs : List α) (k : Int), step rec (((), k, ((xs.length : Nat) : Int), ()), (), xs, ()) = some (.inl ((k, ()), (), xs, ()))) :
  ∀ (n fuel : Nat) (xs : List α) (i : Nat) (k : Int), xs.length - i = n → i ≤ xs.length → n < fuel → 0 ≤ k → k + ((n * d : Nat) : Int) ≤ 1152921504606846976 → P xs →
   ∃ k' xs', iterF step fuel (((), k, ((i : Nat) : Int), ()), (), xs, ()) = some (.inl ((k', ()), (), xs', ())) ∧ xs'.length = xs.length ∧ k ≤ k' ∧ k' ≤ k + ((n * d : Nat) : Int) ∧ P xs' := by
 intro n
 induction n with
 | zero =>
  intro fuel xs i k hn hi hf hk hb hP
  obtain ⟨f, rfl⟩ : ∃ f, fuel = f + 1 := ⟨fuel - 1, by omega⟩
  have e : i = xs.length := by omega
  subst e
  exact ⟨k, xs, by rw [iter_s, h2], rfl, Int.le_refl _, by omega, hP⟩
 | succ n ih =>
  intro fuel xs i k hn hi hf hk hb hP
  obtain ⟨f, rfl⟩ : ∃ f, fuel = f + 1 := ⟨fuel - 1, by omega⟩
  rw [Nat.succ_mul] at hb
  obtain ⟨k1, xs1, e1, e2, e3, e4, e5⟩ := h1 (iterF step f) xs i k (by omega) hk (by omega) hP
  obtain ⟨k2, xs2, g1, g2, g3, g4, g5⟩ := ih f xs1 (i + 1) k1 (by omega) (by omega) (by omega) (by omega) (by omega) e5
  refine ⟨k2, xs2, by rw [iter_s, e1, g1], by omega, by omega, ?_, g5⟩
  rw [Nat.succ_mul]; omega
/-- What marks of a row come to. -/
theorem markS_thm {α E : Type} {F : List α × Int × Unit → Option ((Int × Unit) × List α × Unit)} {step : ((Unit × Int × Int × Unit) × Unit × List α × Unit → Option (((Int × Unit) × Unit × List α × Unit) ⊕ E)) → (Unit × Int × Int × Unit) × Unit × List α × Unit → Option (((Int × Unit) × Unit × List α × Unit) ⊕ E)}
  (hF : ∀ xs k z, iterF step lots (((), k, (0 : Int), ()), (), xs, ()) = some (.inl z) → F (xs, k, ()) = if (xs.length == z.2.2.1.length && true) = true then some ((z.1.1, ()), (z.2.2.1, ())) else none)
  (P : List α → Prop) (d : Nat)
  (h1 : ∀ rec (xs : List α) (i : Nat) (k : Int), i < xs.length → 0 ≤ k → k ≤ 1152921504606846976 → P xs → ∃ k' xs', step rec (((), k, ((i : Nat) : Int), ()), (), xs, ()) = rec (((), k', ((i + 1 : Nat) : Int), ()), (), xs', ()) ∧ xs'.length = xs.length ∧ k ≤ k' ∧ k' ≤ k + (d : Int) ∧ P xs')
  (h2 : ∀ rec (xs : List α) (k : Int), step rec (((), k, ((xs.length : Nat) : Int), ()), (), xs, ()) = some (.inl ((k, ()), (), xs, ())))
  (xs : List α) (k : Int) (hl : xs.length ≤ 1048576) (hd : d ≤ 8388608) (hP : P xs) (hk : 0 ≤ k) (hk2 : k ≤ 576460752303423488) :
  ∃ k' xs', F (xs, k, ()) = some ((k', ()), (xs', ())) ∧ xs'.length = xs.length ∧ k ≤ k' ∧ k' ≤ k + 8796093022208 := by
 have hm : xs.length * d ≤ 1048576 * 8388608 := Nat.mul_le_mul hl hd
 obtain ⟨k', xs', e1, e2, e3, e4, _⟩ := markS_loop P d h1 h2 xs.length lots xs 0 k (by omega) (by omega) (by rw [lots_eq]; omega) hk (by omega) hP
 refine ⟨k', xs', ?_, e2, e3, by omega⟩
 have e0 : ((0 : Nat) : Int) = 0 := rfl
 rw [hF xs k _ e1]
 dsimp only
 rw [if_pos (by rw [e2]; simp)]
theorem mark_more {row : List Int} {k : Int} (h3 : row.length ≤ 1048576) (h0 : 0 ≤ k) (hk : k ≤ 1152921504616846976) :
  ∃ k' : Int, ∃ row' : List Int, F_cy (row, k, ()) = some ((k', ()), (row', ())) ∧ row'.length = row.length ∧ k ≤ k' ∧ k' ≤ k + 1048576 :=
 ⟨_, _, mark_eq row k h3 ⟨h0, by omega⟩, seqFrom_len .., Int.le_add_of_nonneg_right nat0, Int.add_le_add_left (by omega) k⟩
theorem ok_of_mark {row : List Int} {k : Int} (h3 : row.length ≤ 1048576) (hk : 0 ≤ k ∧ k ≤ 1152921504606846976) :
  ∃ k' : Int, ∃ row' : List Int, F_cy (row, k, ()) = some ((k', ()), (row', ())) ∧ row'.length = row.length ∧ k ≤ k' ∧ k' ≤ k + 1048576 := mark_more h3 hk.1 (by omega)
theorem wrap1 {k : Int} (h0 : 0 ≤ k) (h1 : k ≤ 1152921504616846976) : IntKind.i64.wrap (k + 1) = k + 1 := wrap64 (by omega) (by omega)
theorem mem_set_le {α : Type} {P : α → Prop} {xs : List α} {i : Nat} {y : α} (h : ∀ z ∈ xs, P z) (hy : P y) : ∀ z ∈ xs.set i y, P z := by
 intro z hz
 rcases List.mem_or_eq_of_mem_set hz with h1 | h1
 ·exact h z h1
 ·rw [h1]; exact hy
theorem markInts_ok (xs : List (List Int)) (k : Int) (hl : xs.length ≤ 1048576) (h : ∀ y ∈ xs, y.length ≤ 1048576) (hk : 0 ≤ k) (hk2 : k ≤ 576460752303423488) :
  ∃ k' : Int, ∃ xs', F_cz (xs, k, ()) = some ((k', ()), (xs', ())) ∧ xs'.length = xs.length ∧ k ≤ k' ∧ k' ≤ k + 8796093022208 := by
 refine markS_thm (F := F_cz) (step := l_cz_2) (fun xs k z h => by unfold F_cz L_cz_2; dsimp only; rw [h]; rfl) (fun xs => xs.length ≤ 1048576 ∧ ∀ y ∈ xs, y.length ≤ 1048576) 1048576 ?_ ?_ xs k hl (by omega) ⟨hl, h⟩ hk hk2
 ·rintro rec xs i k hi h0 hk ⟨hP, hP2⟩
  obtain ⟨k1, r1, e1, e2, e3, e4⟩ := ok_of_mark (hP2 _ (List.getElem_mem hi)) ⟨h0, hk⟩
  refine ⟨k1, xs.set i r1, ?_, by simp, e3, by omega, by simpa using hP, mem_set_le hP2 (by rw [e2]; exact hP2 _ (List.getElem_mem hi))⟩
  unfold l_cz_2
  dsimp only
  rw [if_pos (lt_t hi), if_pos ⟨nat0, Int.ofNat_lt.2 hi⟩, at_get hi, at_get hi, e1, Option.bind_some]
  dsimp only
  rw [if_pos e2, wrapS (by omega), Int.toNat_natCast]
 ·intro rec xs k
  unfold l_cz_2
  dsimp only
  rw [if_neg lt_same]
theorem markLanes_ok (xs : List LaneD) (k : Int) (hl : xs.length ≤ 1048576) (hk : 0 ≤ k) (hk2 : k ≤ 576460752303423488) :
  ∃ k' : Int, ∃ xs', F_da (xs, k, ()) = some ((k', ()), (xs', ())) ∧ xs'.length = xs.length ∧ k ≤ k' ∧ k' ≤ k + 8796093022208 := by
 refine markS_thm (F := F_da) (step := l_da_2) (fun xs k z h => by unfold F_da L_da_2; dsimp only; rw [h]; rfl) (fun xs => xs.length ≤ 1048576) 5 ?_ ?_ xs k hl (by omega) hl hk hk2
 ·rintro rec xs i k hi h0 hk hP
  have w1 : IntKind.i64.wrap (k + 1) = k + 1 := wrap1 h0 (by omega)
  have w2 : IntKind.i64.wrap (k + 1 + 1) = k + 1 + 1 := wrap1 (by omega) (by omega)
  have w3 : IntKind.i64.wrap (k + 1 + 1 + 1) = k + 1 + 1 + 1 := wrap1 (by omega) (by omega)
  have w4 : IntKind.i64.wrap (k + 1 + 1 + 1 + 1) = k + 1 + 1 + 1 + 1 := wrap1 (by omega) (by omega)
  have w5 : IntKind.i64.wrap (k + 1 + 1 + 1 + 1 + 1) = k + 1 + 1 + 1 + 1 + 1 := wrap1 (by omega) (by omega)
  have wi : IntKind.i64.wrap ((i : Int) + 1) = ((i + 1 : Nat) : Int) := wrapS (by omega)
  have c : ((i : Nat) : Int) < ((xs.length : Nat) : Int) := by omega
  have c0 : (0 : Int) ≤ ((i : Nat) : Int) := nat0
  refine ⟨k + 1 + 1 + 1 + 1 + 1, xs.set i (k, k + 1, k + 1 + 1, k + 1 + 1 + 1, k + 1 + 1 + 1 + 1, ()), ?_, by simp, by omega, by omega, by simpa using hP⟩
  unfold l_da_2
  dsimp only
  rw [if_pos (lt_t hi)]
  simp only [List.length_set, c, c0, and_self, if_true, Int.toNat_natCast, List.getElem?_eq_getElem hi, Option.bind_some, w1, w2, w3, w4, w5, wi, List.getElem?_set_self', Option.map_eq_map, Option.map_some, Function.const_apply, List.set_set]
 ·intro rec xs k
  unfold l_da_2
  dsimp only
  rw [if_neg lt_same]
theorem markBells_ok (xs : List TwoD) (k : Int) (hl : xs.length ≤ 1048576) (hk : 0 ≤ k) (hk2 : k ≤ 576460752303423488) :
  ∃ k' : Int, ∃ xs', F_db (xs, k, ()) = some ((k', ()), (xs', ())) ∧ xs'.length = xs.length ∧ k ≤ k' ∧ k' ≤ k + 8796093022208 := by
 refine markS_thm (F := F_db) (step := l_db_2) (fun xs k z h => by unfold F_db L_db_2; dsimp only; rw [h]; rfl) (fun xs => xs.length ≤ 1048576) 5 ?_ ?_ xs k hl (by omega) hl hk hk2
 ·rintro rec xs i k hi h0 hk hP
  have w1 : IntKind.i64.wrap (k + 1) = k + 1 := wrap1 h0 (by omega)
  have w2 : IntKind.i64.wrap (k + 1 + 1) = k + 1 + 1 := wrap1 (by omega) (by omega)
  have wi : IntKind.i64.wrap ((i : Int) + 1) = ((i + 1 : Nat) : Int) := wrapS (by omega)
  have c : ((i : Nat) : Int) < ((xs.length : Nat) : Int) := Int.ofNat_lt.2 hi
  have c0 : (0 : Int) ≤ ((i : Nat) : Int) := nat0
  refine ⟨k + 1 + 1, xs.set i (k, k + 1, ()), ?_, by simp, by omega, by omega, by simpa using hP⟩
  unfold l_db_2
  dsimp only
  rw [if_pos (lt_t hi)]
  simp only [List.length_set, c, c0, and_self, if_true, Int.toNat_natCast, List.getElem?_eq_getElem hi, Option.bind_some, w1, w2, wi, List.getElem?_set_self', Option.map_eq_map, Option.map_some, Function.const_apply, List.set_set]
 ·intro rec xs k
  unfold l_db_2
  dsimp only
  rw [if_neg lt_same]
theorem markSlots_ok (xs : List TwoD) (k : Int) (hl : xs.length ≤ 1048576) (hk : 0 ≤ k) (hk2 : k ≤ 576460752303423488) :
  ∃ k' : Int, ∃ xs', F_dc (xs, k, ()) = some ((k', ()), (xs', ())) ∧ xs'.length = xs.length ∧ k ≤ k' ∧ k' ≤ k + 8796093022208 := by
 refine markS_thm (F := F_dc) (step := l_dc_2) (fun xs k z h => by unfold F_dc L_dc_2; dsimp only; rw [h]; rfl) (fun xs => xs.length ≤ 1048576) 5 ?_ ?_ xs k hl (by omega) hl hk hk2
 ·rintro rec xs i k hi h0 hk hP
  have w1 : IntKind.i64.wrap (k + 1) = k + 1 := wrap1 h0 (by omega)
  have w2 : IntKind.i64.wrap (k + 1 + 1) = k + 1 + 1 := wrap1 (by omega) (by omega)
  have wi : IntKind.i64.wrap ((i : Int) + 1) = ((i + 1 : Nat) : Int) := wrapS (by omega)
  have c : ((i : Nat) : Int) < ((xs.length : Nat) : Int) := Int.ofNat_lt.2 hi
  have c0 : (0 : Int) ≤ ((i : Nat) : Int) := nat0
  refine ⟨k + 1 + 1, xs.set i (k, k + 1, ()), ?_, by simp, by omega, by omega, by simpa using hP⟩
  unfold l_dc_2
  dsimp only
  rw [if_pos (lt_t hi)]
  simp only [List.length_set, c, c0, and_self, if_true, Int.toNat_natCast, List.getElem?_eq_getElem hi, Option.bind_some, w1, w2, wi, List.getElem?_set_self', Option.map_eq_map, Option.map_some, Function.const_apply, List.set_set]
 ·intro rec xs k
  unfold l_dc_2
  dsimp only
  rw [if_neg lt_same]
theorem markPol_ok (p : PolD) (k : Int) (h : polLe 1048576 p) (hk : 0 ≤ k) (hk2 : k ≤ 288230376151711744) :
  ∃ k' : Int, ∃ p', F_dd ((p.1, p.2.1, p.2.2.1, p.2.2.2.1, ()), k, ()) = some ((k', ()), (p', ())) ∧ (p'.1.length = p.1.length ∧ p'.2.1.length = p.2.1.length ∧ p'.2.2.1.length = p.2.2.1.length ∧ p'.2.2.2.1.length = p.2.2.2.1.length) ∧ k ≤ k' ∧ k' ≤ k + 35184372088832 := by
 obtain ⟨⟨h1, h1'⟩, h2, h3, h4⟩ := h
 obtain ⟨k1, x1, a1, b1, c1, d1⟩ := markInts_ok p.1 k h1 h1' hk (by omega)
 obtain ⟨k2, x2, a2, b2, c2, d2⟩ := markLanes_ok p.2.1 k1 h2 (by omega) (by omega)
 obtain ⟨k3, x3, a3, b3, c3, d3⟩ := markBells_ok p.2.2.1 k2 h3 (by omega) (by omega)
 obtain ⟨k4, x4, a4, b4, c4, d4⟩ := markSlots_ok p.2.2.2.1 k3 h4 (by omega) (by omega)
 refine ⟨k4, (x1, x2, x3, x4, ()), ?_, ⟨b1, b2, b3, b4⟩, by omega, by omega⟩
 unfold F_dd
 dsimp only
 rw [a1, Option.bind_some]
 dsimp only
 rw [if_pos (by rw [b1]; simp), a2, Option.bind_some]
 dsimp only
 rw [if_pos (by rw [b2]; simp), a3, Option.bind_some]
 dsimp only
 rw [if_pos (by rw [b3]; simp), a4, Option.bind_some]
 dsimp only
 rw [if_pos (by rw [b4]; simp), if_pos (by rw [b1, b2, b3, b4]; simp)]
theorem markHarts_ok (xs : List HartD) (k : Int) (hl : xs.length ≤ 1048576) (h : ∀ y ∈ xs, hartLe 1048576 y) (hk : 0 ≤ k) (hk2 : k ≤ 576460752303423488) :
  ∃ k' : Int, ∃ xs', F_de (xs, k, ()) = some ((k', ()), (xs', ())) ∧ xs'.length = xs.length ∧ k ≤ k' ∧ k' ≤ k + 8796093022208 := by
 refine markS_thm (F := F_de) (step := l_de_2) (fun xs k z h => by unfold F_de L_de_2; dsimp only; rw [h]; rfl) (fun xs => xs.length ≤ 1048576 ∧ ∀ y ∈ xs, hartLe 1048576 y) 5242880 ?_ ?_ xs k hl (by omega) ⟨hl, h⟩ hk hk2
 ·rintro rec xs i k hi h0 hk ⟨hP, hP2⟩
  have hy := hP2 _ (List.getElem_mem hi)
  generalize hg : xs[i] = y at hy
  obtain ⟨y1, y2, y3, y4⟩ := hy
  obtain ⟨k1, r1, e1, l1, g1, g1'⟩ := ok_of_mark (row := y.1) (k := k) y1 ⟨h0, hk⟩
  have w1 : IntKind.i64.wrap (k1 + 1) = k1 + 1 := wrap1 (by omega) (by omega)
  obtain ⟨k2, r2, e2, l2, g2, g2'⟩ := mark_more (row := y.2.2.1) (k := k1 + 1) y2 (by omega) (by omega)
  have w2 : IntKind.i64.wrap (k2 + 1) = k2 + 1 := wrap1 (by omega) (by omega)
  have w3 : IntKind.i64.wrap (k2 + 1 + 1) = k2 + 1 + 1 := wrap1 (by omega) (by omega)
  have w4 : IntKind.i64.wrap (k2 + 1 + 1 + 1) = k2 + 1 + 1 + 1 := wrap1 (by omega) (by omega)
  have w5 : IntKind.i64.wrap (k2 + 1 + 1 + 1 + 1) = k2 + 1 + 1 + 1 + 1 := wrap1 (by omega) (by omega)
  obtain ⟨k3, r3, e3, l3, g3, g3'⟩ := mark_more (row := y.2.2.2.2.2.2.2.1) (k := k2 + 1 + 1 + 1 + 1) y3 (by omega) (by omega)
  obtain ⟨k4, r4, e4, l4, g4, g4'⟩ := mark_more (row := y.2.2.2.2.2.2.2.2.1) (k := k3) y4 (by omega) (by omega)
  have wi : IntKind.i64.wrap ((i : Int) + 1) = ((i + 1 : Nat) : Int) := wrapS (by omega)
  have c : ((i : Nat) : Int) < ((xs.length : Nat) : Int) := Int.ofNat_lt.2 hi
  have c0 : (0 : Int) ≤ ((i : Nat) : Int) := nat0
  have hget : xs[i]? = some y := by rw [List.getElem?_eq_getElem hi, hg]
  refine ⟨k4, xs.set i (r1, k1, r2, (k2.tmod 3 == 0), ((k2 + 1).tmod 3 == 0), ((k2 + 1 + 1).tmod 3 == 0), k2 + 1 + 1 + 1, r3, r4, ()), ?_, by simp, by omega, by omega, by simpa using hP, mem_set_le hP2 ⟨by rw [l1]; exact y1, by rw [l2]; exact y2, by rw [l3]; exact y3, by rw [l4]; exact y4⟩⟩
  unfold l_de_2
  dsimp only
  rw [if_pos (lt_t hi)]
  simp only [List.length_set, c, c0, and_self, if_true, Int.toNat_natCast, hget, Option.bind_some, e1, l1, w1, e2, l2, w2, w3, w4, w5, e3, l3, e4, l4, wi, List.getElem?_set_self', Option.map_eq_map, Option.map_some, Function.const_apply, List.set_set]
 ·intro rec xs k
  unfold l_de_2
  dsimp only
  rw [if_neg lt_same]
theorem markHost_ok (x : HostD) (k : Int) (h : hostLe 1048576 x) (hk : 0 ≤ k) (hk2 : k ≤ 1048576) :
  ∃ k' : Int, ∃ x', F_df ((x.1.1, x.1.2.1, x.1.2.2.1, x.1.2.2.2.1, x.2.1, x.2.2.1, x.2.2.2.1, x.2.2.2.2.1, x.2.2.2.2.2.1, ()), k, ()) = some ((k', ()), (x', ())) ∧
   (x'.1.length = x.1.1.length ∧ x'.2.1.length = x.1.2.1.length ∧ x'.2.2.1.length = x.1.2.2.1.length ∧ x'.2.2.2.1.length = x.1.2.2.2.1.length ∧ x'.2.2.2.2.1.length = x.2.1.length ∧ x'.2.2.2.2.2.1.length = x.2.2.1.length) ∧ k ≤ k' ∧ k' ≤ 1125899906842624 := by
 obtain ⟨hp, h2, h3, h4⟩ := h
 obtain ⟨k1, p1, a1, ⟨b1, b2, b3, b4⟩, c1, d1⟩ := markPol_ok x.1 k hp hk (by omega)
 obtain ⟨k2, x2, a2, e2, c2, d2⟩ := mark_more (row := x.2.1) (k := k1) h2 (by omega) (by omega)
 obtain ⟨k3, x3, a3, e3, c3, d3⟩ := markHarts_ok x.2.2.1 k2 h3 h4 (by omega) (by omega)
 refine ⟨k3, (p1.1, p1.2.1, p1.2.2.1, p1.2.2.2.1, x2, x3, ()), ?_, ⟨b1, b2, b3, b4, e2, e3⟩, by omega, by omega⟩
 unfold F_df
 dsimp only
 rw [a1, Option.bind_some]
 dsimp only
 rw [if_pos (by rw [b1, b2, b3, b4]; simp), a2, Option.bind_some]
 dsimp only
 rw [if_pos (by rw [e2]; simp), a3, Option.bind_some]
 dsimp only
 rw [if_pos (by rw [e3]; simp), if_pos (by rw [b1, b2, b3, b4, e2, e3]; simp)]
theorem nz_none {c : Int} (h : nz c = none) : c = 0 := by
 unfold nz at h
 split at h
 ·cases h
 ·rename_i h'; simpa using h'
theorem okLane {p : PolD} (hok : OkPol p) : ∀ l ∈ p.2.1, (isG p l.1 = true ∧ isG p l.2.1 = true ∧ l.1 ≠ l.2.1) ∧ (0 ≤ l.2.2.1 ∧ l.2.2.1 ≤ 23) ∧ (5 ≤ l.2.2.2.1 ∧ l.2.2.2.1 ≤ 6) ∧ 5 ≤ l.2.2.2.2.1 ∧ l.2.2.2.2.1 ≤ 6 := by
 intro l hl
 obtain ⟨i, e⟩ := scan_none_all hok.lanes.2 l hl
 have e := nz_none e
 unfold laneM at e
 split at e
 ·rename_i h; exact absurd e h
 ·rename_i h0
  split at e
  ·rename_i h1
   refine ⟨?_, inB_t.1 h1.1, inB_t.1 h1.2.1, inB_t.1 h1.2.2⟩
   have h0 : endsM p l.1 l.2.1 = 0 := by simpa using h0
   unfold endsM at h0
   split at h0
   ·rename_i g1
    split at h0
    ·rename_i g2
     split at h0
     ·cases h0
     ·rename_i g3; exact ⟨g1, g2, g3⟩
    ·cases h0
   ·cases h0
  ·cases e
theorem isG_t {p : PolD} {g : Int} : isG p g = true ↔ 0 ≤ g ∧ g < (p.1.length : Int) := by unfold isG; simp; omega
def pg (m : List Int) (p : Int) : List Int := (m.drop (8 * p.toNat)).take 8
def wordsM (m : List Int) (l : List Int) : List Int := l.flatMap (pg m)
theorem pg_len (m : List Int) (p : Int) : (pg m p).length ≤ 8 := by unfold pg; simp; omega
theorem wordsM_get (m : List Int) {l : List Int} {k : Nat} (h : k < l.length) : wordsM m (l.drop k) = pg m l[k] ++ wordsM m (l.drop (k + 1)) := by
 rw [drop_get h]; rfl
theorem pg_is (m : List Int) (P : Nat) (h : 8 * P + 8 ≤ m.length) (h2 : m.length ≤ 192) :
  (0 ≤ IntKind.i64.wrap ((P : Int) * 8) ∧ IntKind.i64.wrap ((P : Int) * 8) ≤ IntKind.i64.wrap (IntKind.i64.wrap ((P : Int) + 1) * 8) ∧ IntKind.i64.wrap (IntKind.i64.wrap ((P : Int) + 1) * 8) ≤ ((m.length : Nat) : Int)) ∧
   (m.drop (IntKind.i64.wrap ((P : Int) * 8)).toNat).take ((IntKind.i64.wrap (IntKind.i64.wrap ((P : Int) + 1) * 8)).toNat - (IntKind.i64.wrap ((P : Int) * 8)).toNat) = pg m (P : Int) := by
 rw [wrap64 (n := (P : Int) * 8) (by omega) (by omega), wrap64 (n := (P : Int) + 1) (by omega) (by omega), wrap64 (n := ((P : Int) + 1) * 8) (by omega) (by omega)]
 refine ⟨⟨by omega, by omega, by omega⟩, ?_⟩
 have e1 : ((P : Int) * 8).toNat = 8 * P := by omega
 have e2 : (((P : Int) + 1) * 8).toNat - 8 * P = 8 := by omega
 rw [e1, e2]
 unfold pg
 rw [Int.toNat_natCast]
theorem specWords2_eq (m l : List Int) (hm : m.length ≤ 192) (hp : ∀ p ∈ l, 0 ≤ p ∧ 8 * p + 8 ≤ (m.length : Int)) (hl : l.length ≤ 1000) : F_aq (m, l, ()) = some ((wordsM m l, ()), ()) := by
 have key := loopN (step := l_aq_3) (γ := denO o_aq_3) (fun k (out : List Int) => ((m, l, out, ((k : Nat) : Int), ()), (), ())) l.length (lots_gt' (by omega)) (fun k out => out.length ≤ 8 * k)
  (fun k out => some (.inl ((out ++ wordsM m (l.drop k), ()), (), ()))) ?_ 0 [] (by omega) (by simp)
 ·have e0 : ((0 : Nat) : Int) = 0 := rfl
  rw [e0, List.drop_zero, List.nil_append] at key
  unfold F_aq
  show (iterF l_aq_3 lots _).bind _ = _
  rw [key, Option.bind_some]
 ·rintro rec k out hk ho ih
  unfold l_aq_3
  dsimp only
  by_cases hlt : k < l.length
  ·have hy := hp _ (List.getElem_mem hlt)
   have hg := wordsM_get m hlt
   generalize hq : l[k] = y at hy hg
   obtain ⟨P, rfl⟩ : ∃ P : Nat, y = (P : Int) := ⟨y.toNat, by omega⟩
   obtain ⟨c1, c2⟩ := pg_is m P (by omega) hm
   have hget : l[((k : Nat) : Int).toNat]? = some (P : Int) := by rw [Int.toNat_natCast, List.getElem?_eq_getElem hlt, hq]
   rw [if_pos (lt_t hlt), if_pos nat0, hget, Option.bind_some, if_pos nat0, Option.bind_some, c2, if_pos c1, if_pos (by have := pg_len m (P : Int); omega), wrapS (by omega), hg]
   rw [ih (out ++ pg m (P : Int)) hlt (by have := pg_len m (P : Int); rw [List.length_append]; omega), List.append_assoc]
  ·rw [if_neg (lt_f hlt), drop_all hlt]
   simp [wordsM]
theorem implPage_eq (m : List Int) (p : Int) (hm : m.length ≤ 192) (hp : 0 ≤ p ∧ 8 * p + 8 ≤ (m.length : Int)) : F_ce (m, p, ()) = some ((pg m p, ()), ()) := by
 obtain ⟨P, rfl⟩ : ∃ P : Nat, p = (P : Int) := ⟨p.toNat, by omega⟩
 rw [pageOf_eq m P (by omega) hm]
 unfold pg
 rw [Int.toNat_natCast]
def zeroH : HartD := ([], 0, [], false, false, false, 0, [], [], ())
theorem l8Copy_eq (h : HartD) (hl : hartLe 1048576 h) : F_am (h, ()) = some ((h, ()), ()) := by
 obtain ⟨l1, l2, l3, l4⟩ := hl
 unfold F_am
 dsimp only
 rw [if_pos (by simp only [List.length_nil]; omega), if_pos (by simp only [List.length_nil]; omega), if_pos (by simp only [List.length_nil]; omega), if_pos (by simp only [List.length_nil]; omega)]
 rfl
theorem clone_eq (m : List Int) (h : m.length ≤ 1048576) : F_cd (m, ()) = some ((m, ()), ()) := by
 unfold F_cd
 rw [if_pos (by simp only [List.length_nil]; omega)]
 rfl
theorem hartOwn_eq (h : HartD) (hl : hartLe 1048576 h) : F_cf (h, ()) = some ((h, ()), ()) := by
 obtain ⟨l1, l2, l3, l4⟩ := hl
 unfold F_cf
 dsimp only
 rw [clone_eq _ l1, Option.bind_some, clone_eq _ l2, Option.bind_some, clone_eq _ l3, Option.bind_some, clone_eq _ l4, Option.bind_some]
theorem host_mem {x : HostD} (h : hostM x = 0) : x.2.1.length = 192 ∧ x.2.2.1.length = x.1.1.length := by
 have hp := host_pol h
 unfold hostM at h
 rw [if_neg (by simpa using hp)] at h
 split at h
 ·rename_i g; exact ⟨g.1.2, g.2⟩
 ·cases h
theorem getD_hartLe {m : List HartD} {i : Nat} (h : ∀ y ∈ m, hartLe 1048576 y) : hartLe 1048576 (m.getD i zeroH) := by
 rw [List.getD_eq_getElem?_getD]
 cases e : m[i]? with
 | none => exact ⟨by simp [zeroH], by simp [zeroH], by simp [zeroH], by simp [zeroH]⟩
 | some y => exact h y (List.mem_of_getElem? e)
abbrev SoloD := HartD × List TwoD × List Int × Unit
def soloLe (n : Nat) (x : SoloD) : Prop := hartLe n x.1 ∧ x.2.1.length ≤ n ∧ x.2.2.1.length ≤ n
theorem eqPage1 (y : TwoD) : F_ck (y, y, ()) = some ((true, ()), ()) := by
 unfold F_ck; simp
theorem eqPages_eq (m : List TwoD) (h : m.length ≤ 1048576) : F_cl (m, m, ()) = some ((true, ()), ()) :=
 eqS_thm (F := F_cl) (step := l_cl_4) (f := fun y y' => F_ck (y, y', ())) (fun _ => rfl) (fun _ => rfl) (fun _ _ _ _ => rfl) m (leMax h) fun y hy => eqPage1 y
theorem eqSolo_eq (x : SoloD) (h : soloLe 1048576 x) : F_cm (x, x, ()) = some ((true, ()), ()) := by
 obtain ⟨h1, h2, h3⟩ := h
 unfold F_cm
 rw [eqHart_eq _ h1, Option.bind_some, if_neg (by simp), eqPages_eq _ h2, Option.bind_some, if_neg (by simp), eqInt64S_eq _ (leM h3), Option.bind_some, if_neg (by simp)]
/-- A word. -/
def WW (n : Int) : Prop := 0 ≤ n ∧ n ≤ 4294967295
theorem i64_same {n : Int} (h0 : -9223372036854775808 ≤ n) (h1 : n ≤ 9223372036854775807) : IntKind.i64.wrap n = n := wrap64 h0 h1
structure OkC (cs : List Int) : Prop where
 len : cs.length = 11
 words : ∀ w ∈ cs, WW w
 st : cs.getD 0 0 ≤ 3
 msk : cs.getD 7 0 ≤ 7
 tb : cs.getD 10 0 ≤ 8
 pd : cs.getD 6 0 = 0
 tm : cs.getD 8 0 = 0
structure OkR (r : List Int) : Prop where
 len : r.length = 16
 words : ∀ w ∈ r, WW w
 zero : r.getD 0 0 = 0
structure OkL (l : List TwoD) (m : List Int) : Prop where
 len : l.length = 8
 pgs : ∀ p ∈ l, (-1 ≤ p.1 ∧ p.1 ≤ 23) ∧ (0 ≤ p.2.1 ∧ p.2.1 ≤ 7) ∧ 8 * p.1 + 8 ≤ (m.length : Int)
 words : ∀ w ∈ m, WW w
 mlen : m.length ≤ 192
theorem getD_mem {α : Type} {l : List α} {k : Nat} {d : α} (h : k < l.length) : l.getD k d ∈ l := by
 rw [List.getD_eq_getElem?_getD, List.getElem?_eq_getElem h]; exact List.getElem_mem h
theorem OkC.w {cs : List Int} (h : OkC cs) {k : Nat} (hk : k < 11) : WW (cs.getD k 0) := h.words _ (getD_mem (by rw [h.len]; exact hk))
theorem OkR.w {cs : List Int} (h : OkR cs) {k : Nat} (hk : k < 16) : WW (cs.getD k 0) := h.words _ (getD_mem (by rw [h.len]; exact hk))
def pendM (cs : List Int) (ru : Bool) (dn : Int) (iq : List Int) : Int :=
 (if cs.getD 9 0 ≠ 0 ∧ cs.getD 9 0 ≤ dn then 1 else 0) + (if ru = true then 2 else 0) + (if 0 < iq.length then 4 else 0)
section
variable {r cs iq oq : List Int} {pc dn : Int} {ha wa ru : Bool}
theorem getD_set_ne {l : List Int} {i j : Nat} {y d : Int} (h : i ≠ j) : (l.set i y).getD j d = l.getD j d := by
 simp [List.getD_eq_getElem?_getD, List.getElem?_set_ne h]
theorem getD_set_eq {l : List Int} {i : Nat} {y d : Int} (h : i < l.length) : (l.set i y).getD i d = y := by
 simp [List.getD_eq_getElem?_getD, List.getElem?_set_self h]
theorem OkC.set {cs : List Int} (h : OkC cs) {k : Nat} {w : Int} (hw : WW w) (hk : k ≠ 6 ∧ k ≠ 8) (h0 : k = 0 → w ≤ 3) (h7 : k = 7 → w ≤ 7) (h10 : k = 10 → w ≤ 8) : OkC (cs.set k w) := by
 by_cases hlt : k < 11
 ·refine ⟨by simp [h.len], fun z hz => ?_, ?_, ?_, ?_, ?_, ?_⟩
  ·rcases List.mem_or_eq_of_mem_set hz with hz | rfl
   ·exact h.words z hz
   ·exact hw
  ·by_cases e : k = 0
   ·subst e; rw [getD_set_eq (by rw [h.len]; decide)]; exact h0 rfl
   ·rw [getD_set_ne e]; exact h.st
  ·by_cases e : k = 7
   ·subst e; rw [getD_set_eq (by rw [h.len]; decide)]; exact h7 rfl
   ·rw [getD_set_ne e]; exact h.msk
  ·by_cases e : k = 10
   ·subst e; rw [getD_set_eq (by rw [h.len]; decide)]; exact h10 rfl
   ·rw [getD_set_ne e]; exact h.tb
  ·rw [getD_set_ne hk.1]; exact h.pd
  ·rw [getD_set_ne hk.2]; exact h.tm
 ·rw [List.set_eq_of_length_le (by rw [h.len]; omega)]; exact h
def getM (cs : List Int) (ru : Bool) (dn : Int) (iq : List Int) (k : Int) : Int := if k = 6 then pendM cs ru dn iq else if k = 8 then dn else cs.getD k.toNat 0
end
structure OkP (l : List TwoD) : Prop where
 len : l.length = 8
 pgs : ∀ p ∈ l, -1 ≤ p.1 ∧ p.1 ≤ 23
theorem OkL.p {l : List TwoD} {m : List Int} (h : OkL l m) : OkP l := ⟨h.len, fun p hp => (h.pgs p hp).1⟩
/-- A machine. -/
structure Mc where
 r : List Int
 pc : Int
 cs : List Int
 ha : Bool
 wa : Bool
 ru : Bool
 dn : Int
 iq : List Int
 oq : List Int
 m : List Int
 ring : Int
 fall : Int
section
variable {l : List TwoD} {s : Mc}
theorem OkR.set {r : List Int} (h : OkR r) {k : Nat} {w : Int} (hk : 0 < k) (hw : WW w) : OkR (r.set k w) :=
 ⟨by rw [List.length_set]; exact h.len, fun z hz => by
  rcases List.mem_or_eq_of_mem_set hz with hz | rfl
  ·exact h.words z hz
  ·exact hw, by rw [getD_set_ne (by omega)]; exact h.zero⟩
end
def Mc.of (h : HartD) (m : List Int) : Mc := ⟨h.1, h.2.1, h.2.2.1, h.2.2.2.1, h.2.2.2.2.1, h.2.2.2.2.2.1, h.2.2.2.2.2.2.1, h.2.2.2.2.2.2.2.1, h.2.2.2.2.2.2.2.2.1, m, -1, -1⟩
abbrev StepR := Int × Int × Int × List Int × Int × List Int × Bool × Bool × Bool × Int × List Int × List Int × List Int × Unit
def Mc.res (s : Mc) (c g : Int) : StepR := (0, c, g, s.r, s.pc, s.cs, s.ha, s.wa, s.ru, s.dn, s.iq, s.oq, s.m, ())
def pgSeq : Int → Nat → List TwoD
 | _, 0 => []
 | k, n + 1 => (k, k + 1, ()) :: pgSeq (k + 2) n
theorem pgSeq_len : ∀ (n : Nat) (k : Int), (pgSeq k n).length = n
 | 0, _ => rfl
 | n + 1, k => by simp [pgSeq, pgSeq_len n]
theorem pgSeq_get : ∀ {n i : Nat} {k : Int}, i < n → (pgSeq k n)[i]? = some (k + 2 * (i : Int), k + 2 * (i : Int) + 1, ())
 | n + 1, 0, k, _ => by simp [pgSeq]
 | n + 1, i + 1, k, h => by
  have := pgSeq_get (n := n) (i := i) (k := k + 2) (by omega)
  simp only [pgSeq, List.getElem?_cons_succ, this]
  have e : k + 2 + 2 * (i : Int) = k + 2 * ((i + 1 : Nat) : Int) := by omega
  rw [e]
theorem pgSeq_snoc : ∀ (n : Nat) (k : Int), pgSeq k (n + 1) = pgSeq k n ++ [(k + 2 * (n : Int), k + 2 * (n : Int) + 1, ())]
 | 0, k => by simp [pgSeq]
 | n + 1, k => by
  have := pgSeq_snoc n (k + 2)
  rw [show pgSeq k (n + 1 + 1) = (k, k + 1, ()) :: pgSeq (k + 2) (n + 1) from rfl, this]
  have e : k + 2 + 2 * (n : Int) = k + 2 * ((n + 1 : Nat) : Int) := by omega
  rw [e]
  rfl
theorem markPg_eq (xs : List TwoD) (k : Int) (h : xs.length ≤ 1048576) (hk : 0 ≤ k ∧ k ≤ 1152921504606846976) : F_dh (xs, k, ()) = some ((k + 2 * (xs.length : Int), ()), (pgSeq k xs.length, ())) := by
 have key := loopN (step := l_dh_2) (γ := denO o_dh_2) (fun i (row : List TwoD) => (((), k + 2 * (i : Int), ((i : Nat) : Int), ()), (), (row, ()))) xs.length (lots_gt' (by omega)) (fun i row => row = pgSeq k i ++ xs.drop i)
  (fun _ _ => some (.inl ((k + 2 * (xs.length : Int), ()), (), (pgSeq k xs.length, ())))) ?_ 0 xs (by omega) (by simp [pgSeq])
 ·unfold F_dh
  dsimp only
  show (iterF l_dh_2 lots (((), k, 0, ()), (), (xs, ()))).bind _ = _
  have e : (k : Int) = k + 2 * ((0 : Nat) : Int) := by omega
  rw [show iterF l_dh_2 lots (((), k, 0, ()), (), (xs, ())) = iterF l_dh_2 lots (((), k + 2 * ((0 : Nat) : Int), ((0 : Nat) : Int), ()), (), (xs, ())) from by rw [← e]; rfl, key, Option.bind_some]
  dsimp only
  rw [if_pos (by rw [pgSeq_len]; simp)]
 ·intro rec i row hi hrow ih
  have hlen : row.length = xs.length := by rw [hrow, List.length_append, pgSeq_len, List.length_drop]; omega
  unfold l_dh_2
  dsimp only
  by_cases hlt : i < xs.length
  ·have hlr : i < row.length := by omega
   have hin : 0 ≤ ((i : Nat) : Int) ∧ ((i : Nat) : Int) < ((row.length : Nat) : Int) := ⟨nat0, Int.ofNat_lt.2 hlr⟩
   have w1 : IntKind.i64.wrap (k + 2 * (i : Int) + 1) = k + 2 * (i : Int) + 1 := i64_same (by omega) (by omega)
   have w2 : IntKind.i64.wrap (k + 2 * (i : Int) + 1 + 1) = k + 2 * ((i + 1 : Nat) : Int) := by rw [i64_same (by omega) (by omega)]; omega
   rw [if_pos (lt_t hlr), if_pos hin, at_get hlr, w1, w2, wrapS (by omega)]
   simp only [List.length_set, Int.toNat_natCast]
   rw [if_pos hin, List.getElem?_set_self hlr, Option.bind_some, List.set_set]
   refine ih _ hlt ?_
   show row.set i (k + 2 * (i : Int), k + 2 * (i : Int) + 1, ()) = _
   rw [hrow, pgSeq_snoc, drop_get hlt, List.set_append_right _ _ (by rw [pgSeq_len]; omega), pgSeq_len, Nat.sub_self, List.append_assoc]
   rfl
  ·have hie : i = xs.length := by omega
   rw [if_neg (lt_f (by omega))]
   have : row = pgSeq k xs.length := by rw [hrow, hie, List.drop_length, List.append_nil]
   rw [this, hie]
theorem heldPg_eq (n : Nat) (k : Int) (h : n ≤ 1048576) (hk : 0 ≤ k ∧ k ≤ 1152921504606846976) : F_dm (pgSeq k n, k, ()) = some ((k + 2 * (n : Int), ()), ()) := by
 have key := loopN (step := l_dm_2) (γ := denO o_dm_2) (fun i (_ : Unit) => ((pgSeq k n, k + 2 * (i : Int), ((i : Nat) : Int), ()), (), ())) n (lots_gt' (by omega)) (fun _ _ => True)
  (fun _ _ => some (.inl ((k + 2 * (n : Int), ()), (), ()))) ?_ 0 () (by omega) trivial
 ·unfold F_dm
  dsimp only
  have e : (k : Int) = k + 2 * ((0 : Nat) : Int) := by omega
  show (iterF l_dm_2 lots ((pgSeq k n, k, 0, ()), (), ())).bind _ = _
  rw [show iterF l_dm_2 lots ((pgSeq k n, k, 0, ()), (), ()) = iterF l_dm_2 lots ((pgSeq k n, k + 2 * ((0 : Nat) : Int), ((0 : Nat) : Int), ()), (), ()) from by rw [← e]; rfl, key, Option.bind_some]
 ·intro rec i _ hi _ ih
  unfold l_dm_2
  dsimp only
  rw [pgSeq_len]
  by_cases hlt : i < n
  ·have w1 : IntKind.i64.wrap (k + 2 * (i : Int) + 1) = k + 2 * (i : Int) + 1 := i64_same (by omega) (by omega)
   have w2 : IntKind.i64.wrap (k + 2 * (i : Int) + 1 + 1) = k + 2 * ((i + 1 : Nat) : Int) := by rw [i64_same (by omega) (by omega)]; omega
   rw [if_pos (lt_t hlt), if_pos nat0, Int.toNat_natCast, pgSeq_get hlt, Option.bind_some, w1]
   dsimp only
   rw [if_neg (by simp), if_pos nat0, Option.bind_some]
   dsimp only
   rw [if_neg (by simp), w2, wrapS (by omega)]
   exact ih () hlt trivial
  ·have hie : i = n := by omega
   rw [if_neg (lt_f (by omega)), hie]
abbrev SoloR := Int × List Int × Int × List Int × Bool × Bool × Bool × Int × List Int × List Int × List TwoD × List Int × Unit
def zeroR (c : Int) : SoloR := (c, [], 0, [], false, false, false, 0, [], [], [], [], ())
def rrLe (r : SoloR) : Prop := r.2.1.length ≤ 1048576 ∧ r.2.2.2.1.length ≤ 1048576 ∧ r.2.2.2.2.2.2.2.2.1.length ≤ 1048576 ∧ r.2.2.2.2.2.2.2.2.2.1.length ≤ 1048576 ∧ r.2.2.2.2.2.2.2.2.2.2.1.length ≤ 1048576 ∧ r.2.2.2.2.2.2.2.2.2.2.2.1.length ≤ 1048576
def rrV (r : SoloR) : Int × SoloD × Unit := (r.1, ((r.2.1, r.2.2.1, r.2.2.2.1, r.2.2.2.2.1, r.2.2.2.2.2.1, r.2.2.2.2.2.2.1, r.2.2.2.2.2.2.2.1, r.2.2.2.2.2.2.2.2.1, r.2.2.2.2.2.2.2.2.2.1, ()), r.2.2.2.2.2.2.2.2.2.2.1, r.2.2.2.2.2.2.2.2.2.2.2.1, ()), ())
theorem rrLe_zero (c : Int) : rrLe (zeroR c) := by unfold rrLe zeroR; simp
theorem eqSoloR_e (r : SoloR) (h : rrLe r) : F_cn (rrV r, rrV r, ()) = some ((true, ()), ()) := by
 obtain ⟨h1, h2, h3, h4, h5, h6⟩ := h
 unfold F_cn rrV
 dsimp only
 rw [if_neg (by simp), eqSolo_eq _ ⟨⟨h1, h2, h3, h4⟩, h5, h6⟩, Option.bind_some, if_neg (by simp)]
def rrK (r : SoloR) : Int × Int × Int × Int × Int × Int :=
 let k1 := 1 + (r.2.1.length : Int)
 let k2 := k1 + (r.2.2.2.1.length : Int)
 let k3 := k2 + (r.2.2.2.2.2.2.2.2.1.length : Int)
 let k4 := k3 + (r.2.2.2.2.2.2.2.2.2.1.length : Int)
 let k5 := k4 + 2 * (r.2.2.2.2.2.2.2.2.2.2.1.length : Int)
 (k1, k2, k3, k4, k5, k5 + (r.2.2.2.2.2.2.2.2.2.2.2.1.length : Int))
abbrev SixP := List Int × List Int × List Int × List Int × List TwoD × List Int × Unit
def rrS (r : SoloR) : SixP := (seqFrom 1 r.2.1.length, seqFrom (rrK r).1 r.2.2.2.1.length, seqFrom (rrK r).2.1 r.2.2.2.2.2.2.2.2.1.length, seqFrom (rrK r).2.2.1 r.2.2.2.2.2.2.2.2.2.1.length, pgSeq (rrK r).2.2.2.1 r.2.2.2.2.2.2.2.2.2.2.1.length, seqFrom (rrK r).2.2.2.2.1 r.2.2.2.2.2.2.2.2.2.2.2.1.length, ())
theorem rrS_len (r : SoloR) : (rrS r).1.length = r.2.1.length ∧ (rrS r).2.1.length = r.2.2.2.1.length ∧ (rrS r).2.2.1.length = r.2.2.2.2.2.2.2.2.1.length ∧ (rrS r).2.2.2.1.length = r.2.2.2.2.2.2.2.2.2.1.length ∧ (rrS r).2.2.2.2.1.length = r.2.2.2.2.2.2.2.2.2.2.1.length ∧ (rrS r).2.2.2.2.2.1.length = r.2.2.2.2.2.2.2.2.2.2.2.1.length := by
 unfold rrS; simp [seqFrom_len, pgSeq_len]
theorem rrK_pos (r : SoloR) : ¬ ((rrK r).2.2.2.2.2 < 0) := by unfold rrK; dsimp only; omega
theorem markSoloR_e (r : SoloR) (h : rrLe r) : F_dj (r, 1, ()) = some (((rrK r).2.2.2.2.2, ()), (rrS r, ())) := by
 obtain ⟨h1, h2, h3, h4, h5, h6⟩ := h
 unfold F_dj F_di F_dg
 dsimp only
 rw [mark_eq _ 1 h1 (by omega), Option.bind_some]
 dsimp only
 rw [if_pos (by simp [seqFrom_len]), mark_eq _ _ h2 (by omega), Option.bind_some]
 dsimp only
 rw [if_pos (by simp [seqFrom_len]), mark_eq _ _ h3 (by omega), Option.bind_some]
 dsimp only
 rw [if_pos (by simp [seqFrom_len]), mark_eq _ _ h4 (by omega), Option.bind_some]
 dsimp only
 rw [if_pos (by simp [seqFrom_len]), if_pos (by simp [seqFrom_len]), Option.bind_some]
 dsimp only
 rw [if_pos (by simp [seqFrom_len]), markPg_eq _ _ h5 (by omega), Option.bind_some]
 dsimp only
 rw [if_pos (by simp [pgSeq_len]), mark_eq _ _ h6 (by omega), Option.bind_some]
 dsimp only
 rw [if_pos (by simp [seqFrom_len]), if_pos (by simp [seqFrom_len, pgSeq_len]), Option.bind_some]
 dsimp only
 rw [if_pos (by simp [seqFrom_len, pgSeq_len]), if_pos (by simp [seqFrom_len, pgSeq_len])]
 rfl
theorem heldSoloR_e (c pc : Int) (b1 b2 b3 : Bool) (d : Int) (r : SoloR) (h : rrLe r) :
  F_do ((c, (((rrS r).1, pc, (rrS r).2.1, b1, b2, b3, d, (rrS r).2.2.1, (rrS r).2.2.2.1, ()), (rrS r).2.2.2.2.1, (rrS r).2.2.2.2.2.1, ()), ()), 1, ()) = some (((rrK r).2.2.2.2.2, ()), ()) := by
 obtain ⟨h1, h2, h3, h4, h5, h6⟩ := h
 unfold F_do F_dn F_dl rrS rrK
 simp only [ltI_eq, decide_eq_true_eq]
 rw [held_eq _ 1 h1 (by omega), Option.bind_some]
 dsimp only
 rw [if_neg (by omega), held_eq _ _ h2 (by omega), Option.bind_some]
 dsimp only
 rw [if_neg (by omega), held_eq _ _ h3 (by omega), Option.bind_some]
 dsimp only
 rw [if_neg (by omega), held_eq _ _ h4 (by omega), Option.bind_some]
 dsimp only
 rw [if_neg (by omega), Option.bind_some]
 dsimp only
 rw [if_neg (by omega), heldPg_eq _ _ h5 (by omega), Option.bind_some]
 dsimp only
 rw [if_neg (by omega), held_eq _ _ h6 (by omega), Option.bind_some]
 dsimp only
 rw [if_neg (by omega), Option.bind_some]
 dsimp only
 rw [if_neg (by omega)]
abbrev SrcD := List Int × Int × Unit
/-- A source that has been read so far at most. -/
def Sr (s : SrcD) (k : Int) : Prop := Byt s.1 ∧ 0 ≤ s.2.1 ∧ s.2.1 ≤ k
theorem Sr.le {s : SrcD} {k k' : Int} (h : Sr s k) (hk : k ≤ k') : Sr s k' := ⟨h.1, h.2.1, Int.le_trans h.2.2 hk⟩
theorem Sr.pos {s : SrcD} {k : Int} (h : Sr s k) : 0 ≤ k := Int.le_trans h.2.1 h.2.2
/-- It answers, and the answer is such. -/
def Dr {X : Type} (o : Option X) (P : X → Prop) : Prop := ∃ v, o = some v ∧ P v
theorem Dr.bind {X Y : Type} {o : Option X} {f : X → Option Y} {Q : X → Prop} {P : Y → Prop} (h : Dr o Q) (g : ∀ v, Q v → Dr (f v) P) : Dr (o.bind f) P := by
 obtain ⟨v, rfl, hv⟩ := h
 exact g v hv
theorem Dr.ret {X : Type} {v : X} {P : X → Prop} (h : P v) : Dr (some v) P := ⟨v, rfl, h⟩
theorem Dr.guard {X : Type} {c : Prop} [Decidable c] {a : Option X} {P : X → Prop} (hc : c) (ha : Dr a P) : Dr (if c then a else none) P := by rw [if_pos hc]; exact ha
theorem Dr.get {X Y : Type} {xs : List X} {i : Nat} {f : X → Option Y} {P : Y → Prop} (hi : i < xs.length) (h : ∀ y, y ∈ xs → xs[i]? = some y → Dr (f y) P) : Dr ((xs[i]?).bind f) P := by
 rw [List.getElem?_eq_getElem hi, Option.bind_some]
 exact h _ (List.getElem_mem hi) (List.getElem?_eq_getElem hi)
theorem Dr.gat {X Y : Type} {xs : List X} {i : Int} {n : Nat} {f : X → Option Y} {P : Y → Prop} (hn : xs.length = n) (h : 0 ≤ i ∧ i < (n : Int)) (k : ∀ y, y ∈ xs → Dr (f y) P) : Dr (if 0 ≤ i ∧ i < ((xs.length : Nat) : Int) then (xs[i.toNat]?).bind f else none) P := by
 subst hn
 exact Dr.guard h (Dr.get (by omega) fun y hy _ => k y hy)
theorem Dr.of {X : Type} {o : Option X} {v : X} {P : X → Prop} (h : o = some v) (hv : P v) : Dr o P := ⟨v, h, hv⟩
theorem iter_d {X Y : Type} {step : (X → Option Y) → X → Option Y} {Q : Y → Prop} (I : Nat → X → Prop) (h : ∀ rec m x, I m x → (∀ m' x', m' < m → I m' x' → Dr (rec x') Q) → Dr (step rec x) Q) (m : Nat) (x : X) (hI : I m x) (hm : m < lots) : Dr (iterF step lots x) Q := by
 have key : ∀ n m x, m < n → I m x → Dr (iterF step n x) Q := by
  intro n
  induction n with
  | zero => intro m x h; omega
  | succ n ih => intro m x hm hI; exact h _ m x hI fun m' x' hlt hI' => ih m' x' (by omega) hI'
 exact key lots m x hm hI
def Bd (n x : Int) : Prop := 0 ≤ x ∧ (x < n ∨ x = 0)
theorem Bd.e {n x : Int} (h : Bd n x) : 0 ≤ x ∧ (x < n ∨ x = 0) := h
def Bt (a b x : Int) : Prop := a ≤ x ∧ x ≤ b
theorem Bt.e {a b x : Int} (h : Bt a b x) : a ≤ x ∧ x ≤ b := h
structure HL (h : HartD) : Prop where
 r : h.1.length = 16
 c : h.2.2.1.length = 11
 i : h.2.2.2.2.2.2.2.1.length ≤ 2
 o : h.2.2.2.2.2.2.2.2.1.length ≤ 40
structure HB (h : HartD) : Prop where
 r : h.1.length ≤ 16
 c : h.2.2.1.length = 11
 i : h.2.2.2.2.2.2.2.1.length ≤ 41
 o : h.2.2.2.2.2.2.2.2.1.length ≤ 40
theorem HL.b {h : HartD} (hh : HL h) : HB h := ⟨by rw [hh.r]; omega, hh.c, by have := hh.i; omega, hh.o⟩
theorem HB.le {h : HartD} (hh : HB h) : hartLe 1048576 h := ⟨by have := hh.r; omega, by rw [hh.c]; omega, by have := hh.i; omega, by have := hh.o; omega⟩
theorem Dr.step {X Y : Type} {o : Option X} {v : X} {f : X → Option Y} {P : Y → Prop} (h : o = some v) (g : Dr (f v) P) : Dr (o.bind f) P := by rw [h]; exact g
theorem Dr.pos {X : Type} {c : Prop} [Decidable c] {a b : Option X} {P : X → Prop} (hc : c) (h : Dr a P) : Dr (if c then a else b) P := by rw [if_pos hc]; exact h
theorem Dr.neg {X : Type} {c : Prop} [Decidable c] {a b : Option X} {P : X → Prop} (hc : ¬ c) (h : Dr b P) : Dr (if c then a else b) P := by rw [if_neg hc]; exact h
theorem Dr.eq {X : Type} {o : Option X} {v : X} (h : Dr o fun r => r = v) : o = some v := by
 obtain ⟨_, e, rfl⟩ := h
 exact e
def noPg : TwoD := (-1, 0, ())
def basePg : List TwoD := [noPg, noPg, noPg, noPg, noPg, noPg, noPg, noPg]
def ownPg : Nat → List Int → List TwoD → List TwoD
 | _, [], l => l
 | k, p :: r, l => ownPg (k + 1) r (l.set k (p, 7, ()))
def lane1 (g : Int) (x : LaneD) (l : List TwoD) : List TwoD :=
 let l1 := if x.1 = g then l.set x.2.2.2.1.toNat (x.2.2.1, 3, ()) else l
 if x.2.1 = g then l1.set x.2.2.2.2.1.toNat (x.2.2.1, 1, ()) else l1
def lanePg (g : Int) : List LaneD → List TwoD → List TwoD
 | [], l => l
 | x :: r, l => lanePg g r (lane1 g x l)
/-- The pages of a guest. -/
def pgM (p : PolD) (g : Int) : List TwoD := lanePg g p.2.1 (ownPg 0 (p.1.getD g.toNat []) basePg)
theorem ownPg_len : ∀ (r : List Int) (k : Nat) (l : List TwoD), (ownPg k r l).length = l.length
 | [], _, _ => rfl
 | p :: r, k, l => by rw [ownPg, ownPg_len r]; simp
theorem lane1_len (g : Int) (x : LaneD) (l : List TwoD) : (lane1 g x l).length = l.length := by
 unfold lane1
 dsimp only
 repeat' split
 all_goals simp
theorem lanePg_len (g : Int) : ∀ (r : List LaneD) (l : List TwoD), (lanePg g r l).length = l.length
 | [], _ => rfl
 | x :: r, l => by rw [lanePg, lanePg_len g r, lane1_len]
theorem pgM_len (p : PolD) (g : Int) : (pgM p g).length = 8 := by unfold pgM; rw [lanePg_len, ownPg_len]; rfl
/-- A property of all pages. -/
theorem ownPg_all {P : TwoD → Prop} : ∀ (r : List Int) (k : Nat) (l : List TwoD), (∀ x ∈ r, P (x, 7, ())) → (∀ q ∈ l, P q) → ∀ q ∈ ownPg k r l, P q
 | [], _, _, _, h => h
 | p :: r, k, l, h1, h => ownPg_all r (k + 1) _ (fun x hx => h1 x (List.mem_cons_of_mem _ hx)) fun q hq => by
  rcases List.mem_or_eq_of_mem_set hq with hq | rfl
  ·exact h q hq
  ·exact h1 p (by simp)
theorem lane1_all {P : TwoD → Prop} {g : Int} {x : LaneD} {l : List TwoD} (h1 : P (x.2.2.1, 3, ())) (h2 : P (x.2.2.1, 1, ())) (h : ∀ q ∈ l, P q) : ∀ q ∈ lane1 g x l, P q := by
 have s : ∀ {l : List TwoD} {k : Nat} {y : TwoD}, P y → (∀ q ∈ l, P q) → ∀ q ∈ l.set k y, P q := fun hy h q hq => by
  rcases List.mem_or_eq_of_mem_set hq with hq | rfl
  ·exact h q hq
  ·exact hy
 unfold lane1
 dsimp only
 split
 ·split
  ·exact s h2 (s h1 h)
  ·exact s h2 h
 ·split
  ·exact s h1 h
  ·exact h
theorem lanePg_all {P : TwoD → Prop} {g : Int} : ∀ (r : List LaneD) (l : List TwoD), (∀ x ∈ r, P (x.2.2.1, 3, ()) ∧ P (x.2.2.1, 1, ())) → (∀ q ∈ l, P q) → ∀ q ∈ lanePg g r l, P q
 | [], _, _, h => h
 | x :: r, l, h1, h => lanePg_all r _ (fun y hy => h1 y (List.mem_cons_of_mem _ hy)) (lane1_all (h1 x (by simp)).1 (h1 x (by simp)).2 h)
theorem own_mem {p : PolD} {g : Int} (hok : OkPol p) (hg : isG p g = true) : p.1.getD g.toNat [] ∈ p.1 := by
 have := isG_t.1 hg
 exact getD_mem (by omega)
theorem pgM_in {p : PolD} {g : Int} (hok : OkPol p) (hg : isG p g = true) : ∀ q ∈ pgM p g, (-1 ≤ q.1 ∧ q.1 ≤ 23) ∧ 0 ≤ q.2.1 ∧ q.2.1 ≤ 7 := by
 refine lanePg_all (P := fun q => (-1 ≤ q.1 ∧ q.1 ≤ 23) ∧ 0 ≤ q.2.1 ∧ q.2.1 ≤ 7) _ _ (fun x hx => ?_) (ownPg_all _ _ _ (fun x hx => ?_) ?_)
 ·have := (okLane hok x hx).2.1
  dsimp only
  omega
 ·have := (hok.own1 _ (own_mem hok hg)).2.2 x hx
  dsimp only
  omega
 ·intro q hq
  simp only [basePg, List.mem_cons, List.not_mem_nil, or_false, or_self] at hq
  subst hq
  unfold noPg
  decide
theorem ownPg_step {r : List Int} {k i : Nat} {l : List TwoD} (h : i < r.length) : ownPg (k + i) (r.drop i) l = ownPg (k + (i + 1)) (r.drop (i + 1)) (l.set (k + i) (r[i], 7, ())) := by
 rw [List.drop_eq_getElem_cons h, ownPg]
 rfl
theorem lanePg_step {g : Int} {r : List LaneD} {i : Nat} {l : List TwoD} (h : i < r.length) : lanePg g (r.drop i) l = lanePg g (r.drop (i + 1)) (lane1 g r[i] l) := by
 rw [List.drop_eq_getElem_cons h, lanePg]
theorem specBase_e (p : PolD) (g : Int) : L_ao_3 ((p, (g, (([] : List TwoD), ((0 : Int), ())))), ((), ())) = some (.inl ((p, (g, (basePg, ()))), ((), ()))) := by kernel_rfl
theorem specPages_e {p : PolD} {g : Int} (hok : OkPol p) (hg : isG p g = true) : F_ao (p, g, ()) = some ((pgM p g, ()), ()) := by
 have hgi := isG_t.1 hg
 have hi : g.toNat < p.1.length := by omega
 have hown := hok.own1 _ (own_mem hok hg)
 have hlane := okLane hok
 have hll := hok.lanes.1
 refine Dr.eq ?_
 unfold F_ao
 refine Dr.step (specBase_e p g) ?_
 dsimp only
 have k1 : Dr (L_ao_7 ((p, (g, (basePg, ((0 : Int), ())))), ((), ()))) fun o => o = .inl ((p, (g, (ownPg 0 (p.1.getD g.toNat []) basePg, ()))), ((), ())) := by
  refine iter_d (fun n u => ∃ (i : Nat) (l : List TwoD), u = ((p, (g, (l, ((i : Int), ())))), ((), ())) ∧ n = (p.1.getD g.toNat []).length - i ∧ i ≤ (p.1.getD g.toNat []).length ∧ l.length = 8 ∧ ownPg (0 + i) ((p.1.getD g.toNat []).drop i) l = ownPg 0 (p.1.getD g.toNat []) basePg) ?_ _ _ ⟨0, basePg, rfl, rfl, Nat.zero_le _, rfl, rfl⟩ (by rw [lots_eq]; omega)
  rintro rec n _ ⟨i, l, rfl, hn, hin, hl, he⟩ ih
  have e1 : p.1[g.toNat]? = some (p.1.getD g.toNat []) := by rw [List.getD_eq_getElem?_getD, List.getElem?_eq_getElem hi]; rfl
  unfold l_ao_7
  generalize p.1.getD g.toNat [] = w at *
  dsimp only
  rw [if_pos hgi.1, e1, Option.bind_some]
  by_cases hlt : i < w.length
  case neg =>
   rw [if_neg (lt_f hlt)]
   rw [List.drop_of_length_le (by omega)] at he
   exact Dr.ret (by rw [← he]; rfl)
  rw [if_pos (lt_t hlt), if_pos hgi.1, Option.bind_some, if_pos nat0, at_get hlt, wrapS (by omega)]
  refine Dr.gat hl (by omega) fun _ _ => ih (n - 1) _ (by omega) ⟨i + 1, _, rfl, by omega, by omega, by simpa using hl, ?_⟩
  rw [← he, ownPg_step hlt, Int.toNat_natCast]
  simp only [Nat.zero_add]
 refine k1.bind fun o ho => ?_
 subst ho
 dsimp only
 have k2 : Dr (L_ao_11 ((p, (g, (ownPg 0 (p.1.getD g.toNat []) basePg, ((0 : Int), ())))), ((), ()))) fun o => o = .inl ((pgM p g, ()), ((), ())) := by
  refine iter_d (fun n u => ∃ (i : Nat) (l : List TwoD), u = ((p, (g, (l, ((i : Int), ())))), ((), ())) ∧ n = p.2.1.length - i ∧ i ≤ p.2.1.length ∧ l.length = 8 ∧ lanePg g (p.2.1.drop i) l = pgM p g) ?_ _ _ ⟨0, _, rfl, rfl, Nat.zero_le _, by rw [ownPg_len]; rfl, rfl⟩ (by rw [lots_eq]; omega)
  rintro rec n _ ⟨i, l, rfl, hn, hin, hl, he⟩ ih
  unfold l_ao_11
  dsimp only
  by_cases hlt : i < p.2.1.length
  case neg =>
   rw [if_neg (lt_f hlt)]
   rw [List.drop_of_length_le (by omega)] at he
   exact Dr.ret (by rw [← he]; rfl)
  rw [if_pos (lt_t hlt), if_pos nat0, at_get hlt, wrapS (by omega)]
  have hla := hlane _ (List.getElem_mem hlt)
  rw [lanePg_step hlt] at he
  have hl1 := lane1_len g p.2.1[i] l
  have fin : ∀ l', l' = lane1 g p.2.1[i] l → Dr (rec ((p, (g, (l', (((i + 1 : Nat) : Int), ())))), ((), ()))) fun o => o = .inl ((pgM p g, ()), ((), ())) := fun l' e => by
   subst e
   exact ih (n - 1) _ (by omega) ⟨i + 1, _, rfl, by omega, by omega, by rw [hl1]; exact hl, he⟩
  generalize p.2.1[i] = x at *
  by_cases h1 : x.1 = g
  ·rw [if_pos (by simpa using h1)]
   refine Dr.gat hl (by omega) fun _ _ => ?_
   by_cases h2 : x.2.1 = g
   ·rw [if_pos (by simpa using h2)]
    refine Dr.gat (n := 8) (by simpa using hl) (by omega) fun _ _ => fin _ ?_
    unfold lane1
    dsimp only
    rw [if_pos h1, if_pos h2]
   ·rw [if_neg (by simpa using h2)]
    refine fin _ ?_
    unfold lane1
    dsimp only
    rw [if_pos h1, if_neg h2]
  ·rw [if_neg (by simpa using h1)]
   by_cases h2 : x.2.1 = g
   ·rw [if_pos (by simpa using h2)]
    refine Dr.gat hl (by omega) fun _ _ => fin _ ?_
    unfold lane1
    dsimp only
    rw [if_neg h1, if_pos h2]
   ·rw [if_neg (by simpa using h2)]
    refine fin _ ?_
    unfold lane1
    dsimp only
    rw [if_neg h1, if_neg h2]
 refine k2.bind fun o ho => ?_
 subst ho
 exact Dr.ret rfl
theorem repeat8_e : F_cb ([noPg], 8, ()) = some ((basePg, ()), ()) := by kernel_rfl
theorem implPages_e {p : PolD} {g : Int} (hok : OkPol p) (hg : isG p g = true) : F_cc (p, g, ()) = some ((pgM p g, ()), ()) := by
 have hgi := isG_t.1 hg
 have hi : g.toNat < p.1.length := by omega
 have hown := hok.own1 _ (own_mem hok hg)
 have hlane := okLane hok
 have hll := hok.lanes.1
 refine Dr.eq ?_
 unfold F_cc
 refine Dr.step rfl (Dr.step repeat8_e (Dr.guard hgi.1 ?_))
 have e1 : p.1[g.toNat]? = some (p.1.getD g.toNat []) := by rw [List.getD_eq_getElem?_getD, List.getElem?_eq_getElem hi]; rfl
 refine Dr.step e1 ?_
 have k1 : Dr (L_cc_3 ((p, (g, (basePg, (p.1.getD g.toNat [], ((((p.1.getD g.toNat []).length : Nat) : Int), ((0 : Int), ())))))), ((), ()))) fun o => o = .inl ((p, (g, (ownPg 0 (p.1.getD g.toNat []) basePg, ()))), ((), ())) := by
  generalize p.1.getD g.toNat [] = w at *
  refine iter_d (fun n u => ∃ (i : Nat) (l : List TwoD), u = ((p, (g, (l, (w, (((w.length : Nat) : Int), ((i : Int), ())))))), ((), ())) ∧ n = w.length - i ∧ i ≤ w.length ∧ l.length = 8 ∧ ownPg (0 + i) (w.drop i) l = ownPg 0 w basePg) ?_ _ _ ⟨0, basePg, rfl, rfl, Nat.zero_le _, rfl, rfl⟩ (by rw [lots_eq]; omega)
  rintro rec n _ ⟨i, l, rfl, hn, hin, hl, he⟩ ih
  unfold l_cc_3
  dsimp only
  by_cases hlt : i < w.length
  case neg =>
   rw [if_neg (lt_f hlt)]
   rw [List.drop_of_length_le (by omega)] at he
   exact Dr.ret (by rw [← he]; rfl)
  rw [if_pos (lt_t hlt), if_pos nat0, at_get hlt, wrapS (by omega)]
  refine Dr.gat hl (by omega) fun _ _ => ih (n - 1) _ (by omega) ⟨i + 1, _, rfl, by omega, by omega, by simpa using hl, ?_⟩
  rw [← he, ownPg_step hlt, Int.toNat_natCast]
  simp only [Nat.zero_add]
 refine k1.bind fun o ho => ?_
 subst ho
 dsimp only
 have k2 : Dr (L_cc_8 ((g, (ownPg 0 (p.1.getD g.toNat []) basePg, (p.2.1, (((p.2.1.length : Nat) : Int), ((0 : Int), ()))))), ((), ()))) fun o => o = .inl ((pgM p g, ()), ((), ())) := by
  refine iter_d (fun n u => ∃ (i : Nat) (l : List TwoD), u = ((g, (l, (p.2.1, (((p.2.1.length : Nat) : Int), ((i : Int), ()))))), ((), ())) ∧ n = p.2.1.length - i ∧ i ≤ p.2.1.length ∧ l.length = 8 ∧ lanePg g (p.2.1.drop i) l = pgM p g) ?_ _ _ ⟨0, _, rfl, rfl, Nat.zero_le _, by rw [ownPg_len]; rfl, rfl⟩ (by rw [lots_eq]; omega)
  rintro rec n _ ⟨i, l, rfl, hn, hin, hl, he⟩ ih
  unfold l_cc_8
  dsimp only
  by_cases hlt : i < p.2.1.length
  case neg =>
   rw [if_neg (lt_f hlt)]
   rw [List.drop_of_length_le (by omega)] at he
   exact Dr.ret (by rw [← he]; rfl)
  rw [if_pos (lt_t hlt), if_pos nat0, at_get hlt, wrapS (by omega)]
  have hla := hlane _ (List.getElem_mem hlt)
  rw [lanePg_step hlt] at he
  have hl1 := lane1_len g p.2.1[i] l
  have fin : ∀ l', l' = lane1 g p.2.1[i] l → Dr (rec ((g, (l', (p.2.1, (((p.2.1.length : Nat) : Int), (((i + 1 : Nat) : Int), ()))))), ((), ()))) fun o => o = .inl ((pgM p g, ()), ((), ())) := fun l' e => by
   subst e
   exact ih (n - 1) _ (by omega) ⟨i + 1, _, rfl, by omega, by omega, by rw [hl1]; exact hl, he⟩
  generalize p.2.1[i] = x at *
  by_cases h1 : x.1 = g
  ·rw [if_pos (by simpa using h1)]
   refine Dr.gat hl (by omega) fun _ _ => ?_
   by_cases h2 : x.2.1 = g
   ·rw [if_pos (by simpa using h2)]
    refine Dr.gat (n := 8) (by simpa using hl) (by omega) fun _ _ => fin _ ?_
    unfold lane1
    dsimp only
    rw [if_pos h1, if_pos h2]
   ·rw [if_neg (by simpa using h2)]
    refine fin _ ?_
    unfold lane1
    dsimp only
    rw [if_pos h1, if_neg h2]
  ·rw [if_neg (by simpa using h1)]
   by_cases h2 : x.2.1 = g
   ·rw [if_pos (by simpa using h2)]
    refine Dr.gat hl (by omega) fun _ _ => fin _ ?_
    unfold lane1
    dsimp only
    rw [if_neg h1, if_pos h2]
   ·rw [if_neg (by simpa using h2)]
    refine fin _ ?_
    unfold lane1
    dsimp only
    rw [if_neg h1, if_neg h2]
 refine k2.bind fun o ho => ?_
 subst ho
 exact Dr.ret rfl
theorem take_snoc {α : Type} {l : List α} {i : Nat} (h : i < l.length) : l.take (i + 1) = l.take i ++ [l[i]] := by rw [List.take_add_one, List.getElem?_eq_getElem h]; rfl
theorem td_len {α : Type} {M l : List α} {i : Nat} (hM : M.length = l.length) (hi : i ≤ l.length) : (M.take i ++ l.drop i).length = l.length := by simp; omega
theorem td_get {α : Type} {M l : List α} {i : Nat} (hM : M.length = l.length) (hi : i < l.length) : (M.take i ++ l.drop i)[i]? = some l[i] := by
 rw [List.getElem?_append_right (by simp; omega), List.length_take, Nat.min_eq_left (by omega), Nat.sub_self, List.getElem?_drop, Nat.add_zero, List.getElem?_eq_getElem hi]
theorem td_set {α : Type} {M l : List α} {i : Nat} (hM : M.length = l.length) (hi : i < l.length) : (M.take i ++ l.drop i).set i (M[i]'(by omega)) = M.take (i + 1) ++ l.drop (i + 1) := by
 rw [List.set_append_right _ _ (by simp; omega), List.length_take, Nat.min_eq_left (by omega), Nat.sub_self, List.drop_eq_getElem_cons hi, List.set_cons_zero, take_snoc (l := M) (by omega), List.append_assoc]
 rfl
theorem td_skip {α : Type} {M l : List α} {i : Nat} (hM : M.length = l.length) (hi : i < l.length) (he : M[i]'(by omega) = l[i]) : M.take i ++ l.drop i = M.take (i + 1) ++ l.drop (i + 1) := by
 rw [take_snoc (l := M) (by omega), he, List.drop_eq_getElem_cons hi, List.append_assoc]
 rfl
def aloneM (l : List TwoD) : List TwoD := l.mapIdx fun k p => if 0 ≤ p.1 then ((k : Int), p.2) else p
theorem aloneM_len (l : List TwoD) : (aloneM l).length = l.length := by unfold aloneM; simp
theorem aloneM_at {l : List TwoD} {i : Nat} (h : i < l.length) : (aloneM l)[i]'(by rw [aloneM_len]; exact h) = if 0 ≤ l[i].1 then ((i : Int), l[i].2) else l[i] := by
 unfold aloneM
 rw [List.getElem_mapIdx]
theorem specAlone_e {p : PolD} {g : Int} (hok : OkPol p) (hg : isG p g = true) : F_ap (p, g, ()) = some ((aloneM (pgM p g), ()), ()) := by
 refine Dr.eq ?_
 unfold F_ap
 refine Dr.step (specPages_e hok hg) ?_
 have hl8 := pgM_len p g
 generalize pgM p g = l at *
 have hM := aloneM_len l
 have k1 : Dr (L_ap_3 ((l, ((0 : Int), ())), ((), ()))) fun o => o = .inl ((aloneM l, ()), ((), ())) := by
  refine iter_d (fun n u => ∃ (i : Nat), u = (((aloneM l).take i ++ l.drop i, ((i : Int), ())), ((), ())) ∧ n = l.length - i ∧ i ≤ l.length) ?_ _ _ ⟨0, rfl, rfl, Nat.zero_le _⟩ (by rw [lots_eq]; omega)
  rintro rec n _ ⟨i, rfl, hn, hi⟩ ih
  unfold l_ap_3
  dsimp only
  rw [td_len hM hi]
  by_cases hlt : i < l.length
  case neg =>
   rw [if_neg (lt_f hlt), List.take_of_length_le (by omega), List.drop_of_length_le (by omega), List.append_nil]
   exact Dr.ret rfl
  have hin : 0 ≤ (i : Int) ∧ (i : Int) < ((l.length : Nat) : Int) := by omega
  rw [if_pos (lt_t hlt), if_pos hin, Int.toNat_natCast, td_get hM hlt, Option.bind_some, wrapS (by omega)]
  by_cases h0 : 0 ≤ l[i].1
  ·rw [if_pos (leI_t.2 h0), if_pos hin, Option.bind_some]
   refine ih (n - 1) _ (by omega) ⟨i + 1, ?_, by omega, by omega⟩
   rw [← td_set hM hlt, aloneM_at hlt, if_pos h0]
  ·rw [if_neg (by rw [leI_t]; exact h0)]
   refine ih (n - 1) _ (by omega) ⟨i + 1, ?_, by omega, by omega⟩
   rw [td_skip hM hlt (by rw [aloneM_at hlt, if_neg h0])]
 refine k1.bind fun o ho => ?_
 subst ho
 exact Dr.ret rfl
theorem implAlone_e {p : PolD} {g : Int} (hok : OkPol p) (hg : isG p g = true) : F_cg (p, g, ()) = some ((aloneM (pgM p g), ()), ()) := by
 refine Dr.eq ?_
 unfold F_cg
 refine Dr.step (implPages_e hok hg) ?_
 have hl8 := pgM_len p g
 generalize pgM p g = l at *
 have hM := aloneM_len l
 have k1 : Dr (L_cg_3 ((l, (((l.length : Nat) : Int), ((0 : Int), ()))), ((), ()))) fun o => o = .inl ((aloneM l, ()), ((), ())) := by
  refine iter_d (fun n u => ∃ (i : Nat), u = (((aloneM l).take i ++ l.drop i, (((l.length : Nat) : Int), ((i : Int), ()))), ((), ())) ∧ n = l.length - i ∧ i ≤ l.length) ?_ _ _ ⟨0, rfl, rfl, Nat.zero_le _⟩ (by rw [lots_eq]; omega)
  rintro rec n _ ⟨i, rfl, hn, hi⟩ ih
  unfold l_cg_3
  dsimp only
  rw [td_len hM hi]
  by_cases hlt : i < l.length
  case neg =>
   rw [if_neg (lt_f hlt), List.take_of_length_le (by omega), List.drop_of_length_le (by omega), List.append_nil]
   exact Dr.ret rfl
  have hin : 0 ≤ (i : Int) ∧ (i : Int) < ((l.length : Nat) : Int) := by omega
  rw [if_pos (lt_t hlt), if_pos hin, Int.toNat_natCast, td_get hM hlt, Option.bind_some, wrapS (by omega)]
  by_cases h0 : 0 ≤ l[i].1
  ·rw [if_pos (leI_t.2 h0), if_pos hin, Option.bind_some]
   refine ih (n - 1) _ (by omega) ⟨i + 1, ?_, by omega, by omega⟩
   rw [← td_set hM hlt, aloneM_at hlt, if_pos h0]
  ·rw [if_neg (by rw [leI_t]; exact h0)]
   refine ih (n - 1) _ (by omega) ⟨i + 1, ?_, by omega, by omega⟩
   rw [td_skip hM hlt (by rw [aloneM_at hlt, if_neg h0])]
 refine k1.bind fun o ho => ?_
 subst ho
 exact Dr.ret rfl
def putPg (s : List Int) (k : Nat) (ws : List Int) : List Int := s.take (8 * k) ++ (ws ++ s.drop (8 * k + 8))
theorem putPg_len {s ws : List Int} {k : Nat} (hs : s.length = 64) (hk : k < 8) (hw : ws.length = 8) : (putPg s k ws).length = 64 := by unfold putPg; simp; omega
def feedGo (m : List Int) : Nat → List TwoD → List Int → List Int
 | _, [], s => s
 | k, p :: r, s => feedGo m (k + 1) r (if 0 ≤ p.1 then putPg s k (pg m p.1) else s)
theorem pg_len8 {m : List Int} {p : Int} (h : 0 ≤ p ∧ 8 * p + 8 ≤ (m.length : Int)) : (pg m p).length = 8 := by unfold pg; simp; omega
abbrev SoloB := List Int × Int × List Int × Bool × Bool × Bool × Int × List Int × List Int × List TwoD × List Int × Unit
def memB (b : SoloB) : List Int := b.2.2.2.2.2.2.2.2.2.2.1
def putB (b : SoloB) (m : List Int) : SoloB := (b.1, b.2.1, b.2.2.1, b.2.2.2.1, b.2.2.2.2.1, b.2.2.2.2.2.1, b.2.2.2.2.2.2.1, b.2.2.2.2.2.2.2.1, b.2.2.2.2.2.2.2.2.1, b.2.2.2.2.2.2.2.2.2.1, m, ())
theorem specFeed_e (b : SoloB) (k : Int) (ws : List Int) (hb : (memB b).length = 64) (hk : 0 ≤ k ∧ k < 8) (hw : ws.length = 8) : F_ar (b, k, ws, ()) = some ((), (putB b (putPg (memB b) k.toNat ws), ())) := by
 obtain ⟨K, rfl⟩ : ∃ K : Nat, k = (K : Int) := ⟨k.toNat, by omega⟩
 refine Dr.eq ?_
 unfold F_ar
 have k1 : Dr (L_ar_1 (((), ((K : Int), (ws, ((0 : Int), ())))), ((b, ()), ()))) fun o => o = .inl ((), ((putB b (putPg (memB b) K ws), ()), ())) := by
  refine iter_d (fun n u => ∃ (i : Nat), u = (((), ((K : Int), (ws, ((i : Int), ())))), ((putB b ((memB b).take (8 * K) ++ (ws.take i ++ (memB b).drop (8 * K + i))), ()), ())) ∧ n = 8 - i ∧ i ≤ 8) ?_ 8 _ ⟨0, ?_, rfl, by omega⟩ (by rw [lots_eq]; omega)
  ·rintro rec n _ ⟨i, rfl, hn, hi⟩ ih
   unfold l_ar_1
   dsimp only
   by_cases hlt : i < ws.length
   case neg =>
    have : i = 8 := by omega
    subst this
    rw [if_neg (lt_f hlt), List.take_of_length_le (l := ws) (by omega)]
    exact Dr.ret rfl
   have e1 : IntKind.i64.wrap ((K : Int) * 8) = (K : Int) * 8 := wrap64 (by omega) (by omega)
   have e2 : IntKind.i64.wrap ((K : Int) * 8 + (i : Int)) = ((8 * K + i : Nat) : Int) := by rw [wrap64 (by omega) (by omega)]; omega
   rw [if_pos (lt_t hlt), e1, e2, if_pos nat0, at_get hlt, wrapS (by omega)]
   have hl : ((memB b).take (8 * K) ++ (ws.take i ++ (memB b).drop (8 * K + i))).length = 64 := by simp; omega
   refine Dr.gat (xs := (memB b).take (8 * K) ++ (ws.take i ++ (memB b).drop (8 * K + i))) hl (by omega) fun _ _ => ih (n - 1) _ (by omega) ⟨i + 1, ?_, by omega, by omega⟩
   have e3 : ((memB b).take (8 * K) ++ (ws.take i ++ (memB b).drop (8 * K + i))).set (8 * K + i) ws[i] = (memB b).take (8 * K) ++ (ws.take (i + 1) ++ (memB b).drop (8 * K + (i + 1))) := by
    rw [List.set_append_right _ _ (by simp; omega), List.length_take, Nat.min_eq_left (by omega), Nat.add_sub_cancel_left, List.set_append_right _ _ (by simp; omega), List.length_take, Nat.min_eq_left (by omega), Nat.sub_self,
     List.drop_eq_getElem_cons (by omega), List.set_cons_zero, take_snoc (l := ws) hlt, List.append_assoc, Nat.add_assoc]
    rfl
   rw [Int.toNat_natCast]
   show (_, ((putB b (((memB b).take (8 * K) ++ (ws.take i ++ (memB b).drop (8 * K + i))).set (8 * K + i) ws[i]), ()), ())) = _
   rw [e3]
  ·simp only [List.take_zero, List.nil_append, Nat.add_zero, List.take_append_drop]
   rfl
 refine k1.bind fun o ho => ?_
 subst ho
 exact Dr.ret rfl
def soloB (x : HostD) (g : Int) : SoloB :=
 ((x.2.2.1.getD g.toNat zeroH).1, (x.2.2.1.getD g.toNat zeroH).2.1, (x.2.2.1.getD g.toNat zeroH).2.2.1, (x.2.2.1.getD g.toNat zeroH).2.2.2.1, (x.2.2.1.getD g.toNat zeroH).2.2.2.2.1, (x.2.2.1.getD g.toNat zeroH).2.2.2.2.2.1, (x.2.2.1.getD g.toNat zeroH).2.2.2.2.2.2.1,
  (x.2.2.1.getD g.toNat zeroH).2.2.2.2.2.2.2.1, (x.2.2.1.getD g.toNat zeroH).2.2.2.2.2.2.2.2.1, aloneM (pgM x.1 g), feedGo x.2.1 0 (pgM x.1 g) (List.replicate 64 0), ())
def soloFromM (x : HostD) (g : Int) : SoloR := if hostM x ≠ 0 then zeroR (hostM x) else if isG x.1 g = true then (0, soloB x g) else zeroR 4
theorem feedGo_step {m : List Int} {l : List TwoD} {i : Nat} {s : List Int} (h : i < l.length) : feedGo m i (l.drop i) s = feedGo m (i + 1) (l.drop (i + 1)) (if 0 ≤ l[i].1 then putPg s i (pg m l[i].1) else s) := by
 rw [List.drop_eq_getElem_cons h, feedGo]
theorem specSolo_e {x : HostD} {g : Int} (hx : hostLe 1048576 x) (hM : hostM x = 0) (hg : isG x.1 g = true) : F_as (x, g, ()) = some ((soloB x g, ()), ()) := by
 have hok := okPol (host_pol hM)
 obtain ⟨hm192, hhl⟩ := host_mem hM
 have hgi := isG_t.1 hg
 have hi : g.toNat < x.2.2.1.length := by omega
 have hpg := pgM_in hok hg
 have hl8 := pgM_len x.1 g
 refine Dr.eq ?_
 unfold F_as soloB
 have e1 : x.2.2.1[g.toNat]? = some (x.2.2.1.getD g.toNat zeroH) := by rw [List.getD_eq_getElem?_getD, List.getElem?_eq_getElem hi]; rfl
 refine Dr.guard hgi.1 (Dr.step e1 (Dr.step (l8Copy_eq _ (getD_hartLe hx.2.2.2)) (Dr.step (specAlone_e hok hg) (Dr.step (specPages_e hok hg) ?_))))
 generalize x.2.2.1.getD g.toNat zeroH = h at *
 generalize hB : ((h.1, h.2.1, h.2.2.1, h.2.2.2.1, h.2.2.2.2.1, h.2.2.2.2.2.1, h.2.2.2.2.2.2.1, h.2.2.2.2.2.2.2.1, h.2.2.2.2.2.2.2.2.1, aloneM (pgM x.1 g), ([] : List Int), ()) : SoloB) = B
 generalize pgM x.1 g = l at *
 have k1 : ∀ z, Dr (L_as_4 ((x, ((), ((), (l, ((0 : Int), ()))))), ((z, (putB B (List.replicate 64 0), ())), ()))) fun o => o = .inl (((), ((), ())), ((z, (putB B (feedGo x.2.1 0 l (List.replicate 64 0)), ())), ())) := by
  intro z
  refine iter_d (fun n u => ∃ (i : Nat) (s : List Int), u = ((x, ((), ((), (l, ((i : Int), ()))))), ((z, (putB B s, ())), ())) ∧ n = 8 - i ∧ i ≤ 8 ∧ s.length = 64 ∧ feedGo x.2.1 i (l.drop i) s = feedGo x.2.1 0 l (List.replicate 64 0)) ?_ 8 _ ⟨0, _, rfl, rfl, by omega, by simp, rfl⟩ (by rw [lots_eq]; omega)
  rintro rec n _ ⟨i, s, rfl, hn, hi, hs, he⟩ ih
  unfold l_as_4
  dsimp only
  by_cases hlt : i < 8
  case neg =>
   rw [if_neg (by rw [ltI_t]; omega)]
   rw [List.drop_of_length_le (by omega)] at he
   exact Dr.ret (by rw [← he]; rfl)
  have hlt' : i < l.length := by omega
  have hin : 0 ≤ (i : Int) ∧ (i : Int) < ((l.length : Nat) : Int) := by omega
  rw [if_pos (by rw [ltI_t]; omega), if_pos hin, at_get hlt', wrapS (by omega)]
  rw [feedGo_step hlt'] at he
  have hp := hpg _ (List.getElem_mem hlt')
  by_cases h0 : 0 ≤ l[i].1
  ·rw [if_pos (leI_t.2 h0), if_pos hin, at_get hlt']
   rw [if_pos h0] at he
   have hp8 : 0 ≤ l[i].1 ∧ 8 * l[i].1 + 8 ≤ (x.2.1.length : Int) := by omega
   have e5 : wordsM x.2.1 [l[i].1] = pg x.2.1 l[i].1 := by unfold wordsM; simp
   refine Dr.step (specWords2_eq x.2.1 [l[i].1] (by omega) (fun p hp => by simp only [List.mem_singleton] at hp; subst hp; exact hp8) (by simp)) ?_
   rw [e5]
   refine Dr.step (specFeed_e (putB B s) (i : Int) (pg x.2.1 l[i].1) hs (by omega) (pg_len8 hp8)) ?_
   exact ih (n - 1) _ (by omega) ⟨i + 1, _, rfl, by omega, by omega, putPg_len hs hlt (pg_len8 hp8), he⟩
  ·rw [if_neg (by rw [leI_t]; exact h0)]
   rw [if_neg h0] at he
   exact ih (n - 1) _ (by omega) ⟨i + 1, _, rfl, by omega, by omega, hs, he⟩
 have k2 := k1 ([], 0, [], false, false, false, 0, [], [], [], [], ())
 rw [← hB] at k2
 refine Dr.bind (o := L_as_4 _) k2 fun o ho => ?_
 subst ho
 exact Dr.ret rfl
theorem specSoloFrom_e (x : HostD) (g : Int) (hx : hostLe 1048576 x) : F_at (x, g, ()) = some ((soloFromM x g, ()), ()) := by
 refine Dr.eq ?_
 unfold F_at soloFromM
 refine Dr.step (specHost_eq x hx) ?_
 by_cases hM : hostM x = 0
 case neg => exact Dr.pos (by simpa using hM) (Dr.ret (by rw [if_pos hM]; rfl))
 refine Dr.neg (by simpa using hM) (Dr.step (l6Guest_eq x.1 g hx.1.1.1) ?_)
 rw [if_neg (c := hostM x ≠ 0) (by simpa using hM)]
 cases hg : isG x.1 g with
 | false => exact Dr.pos (by simp) (Dr.ret (by simp; rfl))
 | true =>
  refine Dr.neg (by simp) (Dr.step (specSolo_e hx hM hg) (Dr.ret ?_))
  simp
theorem splc_put {s ws : List Int} {k : Nat} (hs : s.length = 64) (hk : k < 8) (hw : ws.length = 8) : splc s ws (0 + 8 * k) (64 - 8 * k) = putPg s k ws := by
 unfold splc putPg
 rw [Nat.zero_add, List.take_of_length_le (l := ws) (by omega), hw, Nat.min_eq_right (by omega)]
theorem implSoloFrom_e (x : HostD) (g : Int) (hx : hostLe 1048576 x) : F_ch (x, g, ()) = some ((soloFromM x g, ()), ()) := by
 refine Dr.eq ?_
 unfold F_ch soloFromM soloB
 refine Dr.step (implHost_eq x hx) ?_
 by_cases hM : hostM x = 0
 case neg => exact Dr.pos (by simpa using hM) (Dr.ret (by rw [if_pos hM]; rfl))
 refine Dr.neg (by simpa using hM) (Dr.step (isGuest_eq x.1 g hx.1.1.1) ?_)
 rw [if_neg (c := hostM x ≠ 0) (by simpa using hM)]
 cases hg : isG x.1 g with
 | false => exact Dr.pos (by simp) (Dr.ret (by simp; rfl))
 | true =>
  have hok := okPol (host_pol hM)
  obtain ⟨hm192, hhl⟩ := host_mem hM
  have hgi := isG_t.1 hg
  have hi : g.toNat < x.2.2.1.length := by omega
  have hpg := pgM_in hok hg
  have hl8 := pgM_len x.1 g
  have e1 : x.2.2.1[g.toNat]? = some (x.2.2.1.getD g.toNat zeroH) := by rw [List.getD_eq_getElem?_getD, List.getElem?_eq_getElem hi]; rfl
  refine Dr.neg (by simp) (Dr.step (implPages_e hok hg) ?_)
  have hal := implAlone_e hok hg
  generalize pgM x.1 g = l at *
  dsimp only
  have k1 : ∀ z, Dr (L_ch_8 ((g, ((), ((), (List.replicate 64 (0 : Int), (l, (((l.length : Nat) : Int), ((0 : Int), ()))))))), (((x.1.1, (x.1.2.1, (x.1.2.2.1, (x.1.2.2.2.1, (x.2.1, (x.2.2.1, (x.2.2.2.1, (x.2.2.2.2.1, (x.2.2.2.2.2.1, ()))))))))), (z, ())), ())))
    fun o => o = .inl ((g, ((), ((), (feedGo x.2.1 0 l (List.replicate 64 0), ())))), (((x.1.1, (x.1.2.1, (x.1.2.2.1, (x.1.2.2.2.1, (x.2.1, (x.2.2.1, (x.2.2.2.1, (x.2.2.2.2.1, (x.2.2.2.2.2.1, ()))))))))), (z, ())), ())) := by
   intro z
   refine iter_d (fun n u => ∃ (i : Nat) (s : List Int), u = ((g, ((), ((), (s, (l, (((l.length : Nat) : Int), ((i : Int), ()))))))), (((x.1.1, (x.1.2.1, (x.1.2.2.1, (x.1.2.2.2.1, (x.2.1, (x.2.2.1, (x.2.2.2.1, (x.2.2.2.2.1, (x.2.2.2.2.2.1, ()))))))))), (z, ())), ())) ∧ n = 8 - i ∧ i ≤ 8 ∧ s.length = 64 ∧ feedGo x.2.1 i (l.drop i) s = feedGo x.2.1 0 l (List.replicate 64 0))
    ?_ 8 _ ⟨0, _, rfl, rfl, by omega, by simp, rfl⟩ (by rw [lots_eq]; omega)
   rintro rec n _ ⟨i, s, rfl, hn, hi, hs, he⟩ ih
   unfold l_ch_8
   dsimp only
   by_cases hlt : i < 8
   case neg =>
    rw [if_neg (by rw [ltI_t]; omega)]
    rw [List.drop_of_length_le (by omega)] at he
    exact Dr.ret (by rw [← he]; rfl)
   have hlt' : i < l.length := by omega
   have hin : 0 ≤ (i : Int) ∧ (i : Int) < ((l.length : Nat) : Int) := by omega
   rw [if_pos (by rw [ltI_t]; omega), if_pos hin, at_get hlt', wrapS (by omega)]
   rw [feedGo_step hlt'] at he
   have hp := hpg _ (List.getElem_mem hlt')
   by_cases h0 : 0 ≤ l[i].1
   ·rw [if_pos (leI_t.2 h0)]
    rw [if_pos h0] at he
    have hp8 : 0 ≤ l[i].1 ∧ 8 * l[i].1 + 8 ≤ (x.2.1.length : Int) := by omega
    have e8 : IntKind.i64.wrap ((i : Int) * 8) = ((8 * i : Nat) : Int) := by rw [wrap64 (by omega) (by omega)]; omega
    rw [e8]
    refine Dr.guard (by omega) (Dr.step (implPage_eq x.2.1 l[i].1 (by omega) hp8) (Dr.guard ?_ ?_))
    ·have := pg_len8 hp8
     dsimp only
     omega
    refine ih (n - 1) _ (by omega) ⟨i + 1, _, ?_, by omega, by omega, putPg_len hs hlt (pg_len8 hp8), he⟩
    dsimp only
    rw [hs, Int.toNat_natCast, Int.toNat_natCast, splc_put hs hlt (pg_len8 hp8)]
   ·rw [if_neg (by rw [leI_t]; exact h0)]
    rw [if_neg h0] at he
    exact ih (n - 1) _ (by omega) ⟨i + 1, _, rfl, by omega, by omega, hs, he⟩
  refine Dr.bind (o := L_ch_8 _) (k1 (0, [], 0, [], false, false, false, 0, [], [], [], [], ())) fun o ho => ?_
  subst ho
  dsimp only
  refine Dr.guard hgi.1 (Dr.step e1 (Dr.step (hartOwn_eq _ (getD_hartLe hx.2.2.2)) (Dr.step hal (Dr.ret ?_))))
  simp
theorem feedGo_len {m : List Int} : ∀ {l : List TwoD} {k : Nat} {s : List Int}, k + l.length ≤ 8 → s.length = 64 → (∀ q ∈ l, 0 ≤ q.1 → 8 * q.1 + 8 ≤ (m.length : Int)) → (feedGo m k l s).length = 64
 | [], _, _, _, h, _ => h
 | p :: r, k, s, hk, h, hp => by
  simp only [List.length_cons] at hk
  rw [feedGo]
  refine feedGo_len (by omega) ?_ fun q hq => hp q (List.mem_cons_of_mem _ hq)
  split
  ·rename_i h0
   exact putPg_len h (by omega) (pg_len8 ⟨h0, hp p (by simp) h0⟩)
  ·exact h
theorem soloFromM_le (x : HostD) (g : Int) (hx : hostLe 1048576 x) : rrLe (soloFromM x g) := by
 unfold soloFromM
 split
 ·exact rrLe_zero _
 ·rename_i hM
  have hM : hostM x = 0 := by simpa using hM
  split
  ·rename_i hg
   obtain ⟨h1, h2, h3, h4⟩ := getD_hartLe (i := g.toNat) hx.2.2.2
   have hok := okPol (host_pol hM)
   have h6 := feedGo_len (m := x.2.1) (l := pgM x.1 g) (k := 0) (s := List.replicate 64 0) (by rw [pgM_len]; omega) (by simp) fun q hq h0 => by
    have := pgM_in hok hg q hq
    have := (host_mem hM).1
    omega
   unfold rrLe soloB
   dsimp only
   exact ⟨h1, h2, h3, h4, by rw [aloneM_len, pgM_len]; omega, by omega⟩
  ·exact rrLe_zero _
theorem soloFrom_law (x : HostD) (g : Int) (h : hostLe maxLen x) : F_dp (x, g, ()) = some ((true, ()), ()) := by
 unfold F_dp
 simp only [ltI_eq, decide_eq_true_eq]
 obtain ⟨r1, e1, c1⟩ := szHost_eq x 1048576 (by omega) (by omega) h
 rw [e1, Option.bind_some]
 by_cases d1 : r1 < 0
 ·rw [if_pos d1]
 rw [if_neg d1]
 have hx := (c1.resolve_left d1).2.2
 have hl := soloFromM_le x g hx
 have he := eqSoloR_e (soloFromM x g) hl
 have hi := implSoloFrom_e x g hx
 have hs := specSoloFrom_e x g hx
 generalize soloFromM x g = r at *
 rw [toHost_eq x hx, Option.bind_some]
 show (F_at (x, g, ())).bind _ = _
 rw [hs, Option.bind_some, Option.bind_some]
 show (F_ch (x, g, ())).bind _ = _
 rw [hi, Option.bind_some]
 show (F_cn (rrV r, rrV r, ())).bind _ = _
 rw [he, Option.bind_some, if_neg (by simp), Option.bind_some]
 show (F_cx (x, x, ())).bind _ = _
 rw [eqHost_eq x hx, Option.bind_some, if_neg (by simp)]
 obtain ⟨k', x', m1, ⟨b1, b2, b3, b4, b5, b6⟩, m2, m3⟩ := markHost_ok x 1 hx (by omega) (by omega)
 dsimp only
 rw [m1, Option.bind_some]
 dsimp only
 rw [if_pos (by rw [b1, b2, b3, b4, b5, b6]; simp), if_pos (by simp; omega)]
 show (F_cn (rrV r, rrV r, ())).bind _ = _
 rw [he, Option.bind_some, if_neg (by simp)]
 show (F_dj (r, 1, ())).bind _ = _
 rw [markSoloR_e r hl, Option.bind_some]
 obtain ⟨s1, s2, s3, s4, s5, s6⟩ := rrS_len r
 dsimp only
 rw [if_pos (by rw [s1, s2, s3, s4, s5, s6]; simp), heldSoloR_e _ _ _ _ _ _ r hl, Option.bind_some]
 dsimp only
 rw [if_neg (rrK_pos r), if_neg (by simp), Option.bind_some]
 show (F_ch (x, g, ())).bind _ = _
 rw [hi, Option.bind_some]
 show (F_cn (rrV r, rrV r, ())).bind _ = _
 rw [he, Option.bind_some, if_neg (by simp), Option.bind_some]
 dsimp only
 rw [if_neg (rrK_pos r), if_neg (by simp)]
theorem soloFrom_F : ∀ x, inRP P_dp x → F_dp x = some ((true, ()), ()) := by
 rintro ⟨x, n, _⟩ ⟨hx, _⟩
 exact soloFrom_law x n ⟨⟨⟨hx.1.1.1, fun l hl => (hx.1.1.2 l hl).1⟩, hx.1.2.1.1, hx.1.2.2.1.1, hx.1.2.2.2.1.1⟩, hx.2.1.1, hx.2.2.1.1, fun h hh => inR_hart (hx.2.2.1.2 h hh)⟩
end Go.Proofs.YtajnommlfjfgpaaGreat
