/- Plain laws: what the functions compute, and that both programs compute the same. -/
import Derived.Test.YtimbcpeilkaahaaGreatPn1
namespace Go.Proofs.YtimbcpeilkaahaaGreat
open Go Go.RowKit S Go.Proofs
set_option maxRecDepth 100000
set_option linter.unusedVariables false
set_option linter.unusedSimpArgs false
theorem toHarts_eq (m : List HartD) (h : m.length ≤ 1048576) (h2 : ∀ l ∈ m, hartLe 1048576 l) : F_laws_toHartS (m, ()) = some ((m, ()), ()) :=
  toS_thm (by_ := 120) (F := F_laws_toHartS) (step := l_laws_toHartS_3) (f := fun y => F_laws_toHart (y, ())) (g := fun r => r.1.1) (fun _ => rfl) (fun _ => rfl) (fun _ _ _ _ => rfl) (by omega) m h fun y hy => ⟨_, toHart_eq y (h2 y hy), rfl⟩

theorem toHost_eq (x : HostD) (h : hostLe 1048576 x) : F_laws_toHost (x, ()) = some (((x.1.1, x.1.2.1, x.1.2.2.1, x.1.2.2.2.1, x.2.1, x.2.2.1, x.2.2.2.1, x.2.2.2.2.1, x.2.2.2.2.2.1, ()), ()), ()) := by
  obtain ⟨a1, a2, a3, a4⟩ := h
  unfold F_laws_toHost
  rw [toPol_eq x.1 a1, Option.bind_some, toInt64S_eq x.2.1 (le8 a2), Option.bind_some, toHarts_eq x.2.2.1 a3 a4, Option.bind_some]

theorem eqHarts_eq (m : List HartD) (h : m.length ≤ 1048576) (h2 : ∀ l ∈ m, hartLe 1048576 l) : F_laws_eqHartS (m, m, ()) = some ((true, ()), ()) :=
  eqS_thm (F := F_laws_eqHartS) (step := l_laws_eqHartS_4) (f := fun y y' => F_laws_eqHart (y, y', ())) (fun _ => rfl) (fun _ => rfl) (fun _ _ _ _ => rfl) m (leMax h) fun y hy => eqHart_eq y (h2 y hy)

theorem eqHost_eq (x : HostD) (h : hostLe 1048576 x) : F_laws_eqHost (x, x, ()) = some ((true, ()), ()) := by
  obtain ⟨a1, a2, a3, a4⟩ := h
  unfold F_laws_eqHost
  rw [eqPol_eq x.1 a1, Option.bind_some, if_neg (by simp), eqInt64S_eq x.2.1 (leM a2), Option.bind_some, if_neg (by simp), eqHarts_eq x.2.2.1 a3 a4, Option.bind_some, if_neg (by simp), if_neg (by simp), if_neg (by simp), if_neg (by simp)]

theorem inR_hart {h : HartD} (hh : inR (.pair (.slice (.int .i64)) (.pair (.int .i64) (.pair (.slice (.int .i64)) (.pair .bool (.pair .bool (.pair .bool (.pair (.int .i64) (.pair (.slice (.int .i64)) (.pair (.slice (.int .i64)) .unit))))))))) h) : hartLe maxLen h :=
  ⟨hh.1.1, hh.2.2.1.1, hh.2.2.2.2.2.2.2.1.1, hh.2.2.2.2.2.2.2.2.1.1⟩

theorem host_pol {x : HostD} (h : hostM x = 0) : polM x.1 = 0 := by
  unfold hostM at h
  split at h
  · rename_i h'; exact absurd h h'
  · rename_i h'; simpa using h'

theorem markS_loop {α E : Type} {step : ((Unit × Int × Int × Unit) × Unit × List α × Unit → Option (((Int × Unit) × Unit × List α × Unit) ⊕ E)) → (Unit × Int × Int × Unit) × Unit × List α × Unit → Option (((Int × Unit) × Unit × List α × Unit) ⊕ E)}
    (P : List α → Prop) (d : Nat)
    (h1 : ∀ rec (xs : List α) (i : Nat) (k : Int), i < xs.length → 0 ≤ k → k ≤ 1152921504606846976 → P xs → ∃ k' xs', step rec (((), k, ((i : Nat) : Int), ()), (), xs, ()) = rec (((), k', ((i + 1 : Nat) : Int), ()), (), xs', ()) ∧ xs'.length = xs.length ∧ k ≤ k' ∧ k' ≤ k + (d : Int) ∧ P xs')
    (h2 : ∀ rec (xs : List α) (k : Int), step rec (((), k, ((xs.length : Nat) : Int), ()), (), xs, ()) = some (.inl ((k, ()), (), xs, ()))) :
    ∀ (n fuel : Nat) (xs : List α) (i : Nat) (k : Int), xs.length - i = n → i ≤ xs.length → n < fuel → 0 ≤ k → k + ((n * d : Nat) : Int) ≤ 1152921504606846976 → P xs →
      ∃ k' xs', iterF step fuel (((), k, ((i : Nat) : Int), ()), (), xs, ()) = some (.inl ((k', ()), (), xs', ())) ∧ xs'.length = xs.length ∧ k ≤ k' ∧ k' ≤ k + ((n * d : Nat) : Int) ∧ P xs' := by
  intro n
  induction n with
  | zero =>
    intro fuel xs i k hn hi hf hk hb hP
    obtain ⟨f, rfl⟩ : ∃ f, fuel = f + 1 := ⟨fuel - 1, by omega⟩
    have e : i = xs.length := by omega
    subst e
    exact ⟨k, xs, by rw [iter_s, h2], rfl, Int.le_refl _, by omega, hP⟩
  | succ n ih =>
    intro fuel xs i k hn hi hf hk hb hP
    obtain ⟨f, rfl⟩ : ∃ f, fuel = f + 1 := ⟨fuel - 1, by omega⟩
    rw [Nat.succ_mul] at hb
    obtain ⟨k1, xs1, e1, e2, e3, e4, e5⟩ := h1 (iterF step f) xs i k (by omega) hk (by omega) hP
    obtain ⟨k2, xs2, g1, g2, g3, g4, g5⟩ := ih f xs1 (i + 1) k1 (by omega) (by omega) (by omega) (by omega) (by omega) e5
    refine ⟨k2, xs2, by rw [iter_s, e1, g1], by omega, by omega, ?_, g5⟩
    rw [Nat.succ_mul]; omega

/-- What marks of a row come to. -/
theorem markS_thm {α E : Type} {F : List α × Int × Unit → Option ((Int × Unit) × List α × Unit)} {step : ((Unit × Int × Int × Unit) × Unit × List α × Unit → Option (((Int × Unit) × Unit × List α × Unit) ⊕ E)) → (Unit × Int × Int × Unit) × Unit × List α × Unit → Option (((Int × Unit) × Unit × List α × Unit) ⊕ E)}
    (hF : ∀ xs k z, iterF step lots (((), k, (0 : Int), ()), (), xs, ()) = some (.inl z) → F (xs, k, ()) = if (xs.length == z.2.2.1.length && true) = true then some ((z.1.1, ()), (z.2.2.1, ())) else none)
    (P : List α → Prop) (d : Nat)
    (h1 : ∀ rec (xs : List α) (i : Nat) (k : Int), i < xs.length → 0 ≤ k → k ≤ 1152921504606846976 → P xs → ∃ k' xs', step rec (((), k, ((i : Nat) : Int), ()), (), xs, ()) = rec (((), k', ((i + 1 : Nat) : Int), ()), (), xs', ()) ∧ xs'.length = xs.length ∧ k ≤ k' ∧ k' ≤ k + (d : Int) ∧ P xs')
    (h2 : ∀ rec (xs : List α) (k : Int), step rec (((), k, ((xs.length : Nat) : Int), ()), (), xs, ()) = some (.inl ((k, ()), (), xs, ())))
    (xs : List α) (k : Int) (hl : xs.length ≤ 1048576) (hd : d ≤ 8388608) (hP : P xs) (hk : 0 ≤ k) (hk2 : k ≤ 576460752303423488) :
    ∃ k' xs', F (xs, k, ()) = some ((k', ()), (xs', ())) ∧ xs'.length = xs.length ∧ k ≤ k' ∧ k' ≤ k + 8796093022208 := by
  have hm : xs.length * d ≤ 1048576 * 8388608 := Nat.mul_le_mul hl hd
  obtain ⟨k', xs', e1, e2, e3, e4, _⟩ := markS_loop P d h1 h2 xs.length lots xs 0 k (by omega) (by omega) (by rw [lots_eq]; omega) hk (by omega) hP
  refine ⟨k', xs', ?_, e2, e3, by omega⟩
  have e0 : ((0 : Nat) : Int) = 0 := rfl
  rw [hF xs k _ e1]
  dsimp only
  rw [if_pos (by rw [e2]; simp)]

theorem mark_more {row : List Int} {k : Int} (h3 : row.length ≤ 1048576) (h0 : 0 ≤ k) (hk : k ≤ 1152921504616846976) :
    ∃ k' : Int, ∃ row' : List Int, F_laws_markInt64S (row, k, ()) = some ((k', ()), (row', ())) ∧ row'.length = row.length ∧ k ≤ k' ∧ k' ≤ k + 1048576 :=
  ⟨_, _, mark_eq row k h3 ⟨h0, by omega⟩, seqFrom_len .., Int.le_add_of_nonneg_right nat0, Int.add_le_add_left (by omega) k⟩

theorem ok_of_mark {row : List Int} {k : Int} (h3 : row.length ≤ 1048576) (hk : 0 ≤ k ∧ k ≤ 1152921504606846976) :
    ∃ k' : Int, ∃ row' : List Int, F_laws_markInt64S (row, k, ()) = some ((k', ()), (row', ())) ∧ row'.length = row.length ∧ k ≤ k' ∧ k' ≤ k + 1048576 := mark_more h3 hk.1 (by omega)

theorem wrap1 {k : Int} (h0 : 0 ≤ k) (h1 : k ≤ 1152921504616846976) : IntKind.i64.wrap (k + 1) = k + 1 := wrap64 (by omega) (by omega)

theorem mem_set_le {α : Type} {P : α → Prop} {xs : List α} {i : Nat} {y : α} (h : ∀ z ∈ xs, P z) (hy : P y) : ∀ z ∈ xs.set i y, P z := by
  intro z hz
  rcases List.mem_or_eq_of_mem_set hz with h1 | h1
  · exact h z h1
  · rw [h1]; exact hy

theorem markInts_ok (xs : List (List Int)) (k : Int) (hl : xs.length ≤ 1048576) (h : ∀ y ∈ xs, y.length ≤ 1048576) (hk : 0 ≤ k) (hk2 : k ≤ 576460752303423488) :
    ∃ k' : Int, ∃ xs', F_laws_markInt64SS (xs, k, ()) = some ((k', ()), (xs', ())) ∧ xs'.length = xs.length ∧ k ≤ k' ∧ k' ≤ k + 8796093022208 := by
  refine markS_thm (F := F_laws_markInt64SS) (step := l_laws_markInt64SS_2) (fun xs k z h => by unfold F_laws_markInt64SS L_laws_markInt64SS_2; dsimp only; rw [h]; rfl) (fun xs => xs.length ≤ 1048576 ∧ ∀ y ∈ xs, y.length ≤ 1048576) 1048576 ?_ ?_ xs k hl (by omega) ⟨hl, h⟩ hk hk2
  · rintro rec xs i k hi h0 hk ⟨hP, hP2⟩
    obtain ⟨k1, r1, e1, e2, e3, e4⟩ := ok_of_mark (hP2 _ (List.getElem_mem hi)) ⟨h0, hk⟩
    refine ⟨k1, xs.set i r1, ?_, by simp, e3, by omega, by simpa using hP, mem_set_le hP2 (by rw [e2]; exact hP2 _ (List.getElem_mem hi))⟩
    unfold l_laws_markInt64SS_2
    dsimp only
    rw [if_pos (lt_t hi), if_pos ⟨nat0, Int.ofNat_lt.2 hi⟩, at_get hi, at_get hi, e1, Option.bind_some]
    dsimp only
    rw [if_pos e2, wrapS (by omega), Int.toNat_natCast]
  · intro rec xs k
    unfold l_laws_markInt64SS_2
    dsimp only
    rw [if_neg lt_same]

theorem markLanes_ok (xs : List LaneD) (k : Int) (hl : xs.length ≤ 1048576) (hk : 0 ≤ k) (hk2 : k ≤ 576460752303423488) :
    ∃ k' : Int, ∃ xs', F_laws_markLaneS (xs, k, ()) = some ((k', ()), (xs', ())) ∧ xs'.length = xs.length ∧ k ≤ k' ∧ k' ≤ k + 8796093022208 := by
  refine markS_thm (F := F_laws_markLaneS) (step := l_laws_markLaneS_2) (fun xs k z h => by unfold F_laws_markLaneS L_laws_markLaneS_2; dsimp only; rw [h]; rfl) (fun xs => xs.length ≤ 1048576) 5 ?_ ?_ xs k hl (by omega) hl hk hk2
  · rintro rec xs i k hi h0 hk hP
    have w1 : IntKind.i64.wrap (k + 1) = k + 1 := wrap1 h0 (by omega)
    have w2 : IntKind.i64.wrap (k + 1 + 1) = k + 1 + 1 := wrap1 (by omega) (by omega)
    have w3 : IntKind.i64.wrap (k + 1 + 1 + 1) = k + 1 + 1 + 1 := wrap1 (by omega) (by omega)
    have w4 : IntKind.i64.wrap (k + 1 + 1 + 1 + 1) = k + 1 + 1 + 1 + 1 := wrap1 (by omega) (by omega)
    have w5 : IntKind.i64.wrap (k + 1 + 1 + 1 + 1 + 1) = k + 1 + 1 + 1 + 1 + 1 := wrap1 (by omega) (by omega)
    have wi : IntKind.i64.wrap ((i : Int) + 1) = ((i + 1 : Nat) : Int) := wrapS (by omega)
    have c : ((i : Nat) : Int) < ((xs.length : Nat) : Int) := by omega
    have c0 : (0 : Int) ≤ ((i : Nat) : Int) := nat0
    refine ⟨k + 1 + 1 + 1 + 1 + 1, xs.set i (k, k + 1, k + 1 + 1, k + 1 + 1 + 1, k + 1 + 1 + 1 + 1, ()), ?_, by simp, by omega, by omega, by simpa using hP⟩
    unfold l_laws_markLaneS_2
    dsimp only
    rw [if_pos (lt_t hi)]
    simp only [List.length_set, c, c0, and_self, if_true, Int.toNat_natCast, List.getElem?_eq_getElem hi, Option.bind_some, w1, w2, w3, w4, w5, wi, List.getElem?_set_self', Option.map_eq_map, Option.map_some, Function.const_apply, List.set_set]
  · intro rec xs k
    unfold l_laws_markLaneS_2
    dsimp only
    rw [if_neg lt_same]

theorem markBells_ok (xs : List TwoD) (k : Int) (hl : xs.length ≤ 1048576) (hk : 0 ≤ k) (hk2 : k ≤ 576460752303423488) :
    ∃ k' : Int, ∃ xs', F_laws_markBellS (xs, k, ()) = some ((k', ()), (xs', ())) ∧ xs'.length = xs.length ∧ k ≤ k' ∧ k' ≤ k + 8796093022208 := by
  refine markS_thm (F := F_laws_markBellS) (step := l_laws_markBellS_2) (fun xs k z h => by unfold F_laws_markBellS L_laws_markBellS_2; dsimp only; rw [h]; rfl) (fun xs => xs.length ≤ 1048576) 5 ?_ ?_ xs k hl (by omega) hl hk hk2
  · rintro rec xs i k hi h0 hk hP
    have w1 : IntKind.i64.wrap (k + 1) = k + 1 := wrap1 h0 (by omega)
    have w2 : IntKind.i64.wrap (k + 1 + 1) = k + 1 + 1 := wrap1 (by omega) (by omega)
    have wi : IntKind.i64.wrap ((i : Int) + 1) = ((i + 1 : Nat) : Int) := wrapS (by omega)
    have c : ((i : Nat) : Int) < ((xs.length : Nat) : Int) := Int.ofNat_lt.2 hi
    have c0 : (0 : Int) ≤ ((i : Nat) : Int) := nat0
    refine ⟨k + 1 + 1, xs.set i (k, k + 1, ()), ?_, by simp, by omega, by omega, by simpa using hP⟩
    unfold l_laws_markBellS_2
    dsimp only
    rw [if_pos (lt_t hi)]
    simp only [List.length_set, c, c0, and_self, if_true, Int.toNat_natCast, List.getElem?_eq_getElem hi, Option.bind_some, w1, w2, wi, List.getElem?_set_self', Option.map_eq_map, Option.map_some, Function.const_apply, List.set_set]
  · intro rec xs k
    unfold l_laws_markBellS_2
    dsimp only
    rw [if_neg lt_same]

theorem markSlots_ok (xs : List TwoD) (k : Int) (hl : xs.length ≤ 1048576) (hk : 0 ≤ k) (hk2 : k ≤ 576460752303423488) :
    ∃ k' : Int, ∃ xs', F_laws_markSlotS (xs, k, ()) = some ((k', ()), (xs', ())) ∧ xs'.length = xs.length ∧ k ≤ k' ∧ k' ≤ k + 8796093022208 := by
  refine markS_thm (F := F_laws_markSlotS) (step := l_laws_markSlotS_2) (fun xs k z h => by unfold F_laws_markSlotS L_laws_markSlotS_2; dsimp only; rw [h]; rfl) (fun xs => xs.length ≤ 1048576) 5 ?_ ?_ xs k hl (by omega) hl hk hk2
  · rintro rec xs i k hi h0 hk hP
    have w1 : IntKind.i64.wrap (k + 1) = k + 1 := wrap1 h0 (by omega)
    have w2 : IntKind.i64.wrap (k + 1 + 1) = k + 1 + 1 := wrap1 (by omega) (by omega)
    have wi : IntKind.i64.wrap ((i : Int) + 1) = ((i + 1 : Nat) : Int) := wrapS (by omega)
    have c : ((i : Nat) : Int) < ((xs.length : Nat) : Int) := Int.ofNat_lt.2 hi
    have c0 : (0 : Int) ≤ ((i : Nat) : Int) := nat0
    refine ⟨k + 1 + 1, xs.set i (k, k + 1, ()), ?_, by simp, by omega, by omega, by simpa using hP⟩
    unfold l_laws_markSlotS_2
    dsimp only
    rw [if_pos (lt_t hi)]
    simp only [List.length_set, c, c0, and_self, if_true, Int.toNat_natCast, List.getElem?_eq_getElem hi, Option.bind_some, w1, w2, wi, List.getElem?_set_self', Option.map_eq_map, Option.map_some, Function.const_apply, List.set_set]
  · intro rec xs k
    unfold l_laws_markSlotS_2
    dsimp only
    rw [if_neg lt_same]

theorem markPol_ok (p : PolD) (k : Int) (h : polLe 1048576 p) (hk : 0 ≤ k) (hk2 : k ≤ 288230376151711744) :
    ∃ k' : Int, ∃ p', F_laws_markPolicy ((p.1, p.2.1, p.2.2.1, p.2.2.2.1, ()), k, ()) = some ((k', ()), (p', ())) ∧ (p'.1.length = p.1.length ∧ p'.2.1.length = p.2.1.length ∧ p'.2.2.1.length = p.2.2.1.length ∧ p'.2.2.2.1.length = p.2.2.2.1.length) ∧ k ≤ k' ∧ k' ≤ k + 35184372088832 := by
  obtain ⟨⟨h1, h1'⟩, h2, h3, h4⟩ := h
  obtain ⟨k1, x1, a1, b1, c1, d1⟩ := markInts_ok p.1 k h1 h1' hk (by omega)
  obtain ⟨k2, x2, a2, b2, c2, d2⟩ := markLanes_ok p.2.1 k1 h2 (by omega) (by omega)
  obtain ⟨k3, x3, a3, b3, c3, d3⟩ := markBells_ok p.2.2.1 k2 h3 (by omega) (by omega)
  obtain ⟨k4, x4, a4, b4, c4, d4⟩ := markSlots_ok p.2.2.2.1 k3 h4 (by omega) (by omega)
  refine ⟨k4, (x1, x2, x3, x4, ()), ?_, ⟨b1, b2, b3, b4⟩, by omega, by omega⟩
  unfold F_laws_markPolicy
  dsimp only
  rw [a1, Option.bind_some]
  dsimp only
  rw [if_pos (by rw [b1]; simp), a2, Option.bind_some]
  dsimp only
  rw [if_pos (by rw [b2]; simp), a3, Option.bind_some]
  dsimp only
  rw [if_pos (by rw [b3]; simp), a4, Option.bind_some]
  dsimp only
  rw [if_pos (by rw [b4]; simp), if_pos (by rw [b1, b2, b3, b4]; simp)]

theorem markHarts_ok (xs : List HartD) (k : Int) (hl : xs.length ≤ 1048576) (h : ∀ y ∈ xs, hartLe 1048576 y) (hk : 0 ≤ k) (hk2 : k ≤ 576460752303423488) :
    ∃ k' : Int, ∃ xs', F_laws_markHartS (xs, k, ()) = some ((k', ()), (xs', ())) ∧ xs'.length = xs.length ∧ k ≤ k' ∧ k' ≤ k + 8796093022208 := by
  refine markS_thm (F := F_laws_markHartS) (step := l_laws_markHartS_2) (fun xs k z h => by unfold F_laws_markHartS L_laws_markHartS_2; dsimp only; rw [h]; rfl) (fun xs => xs.length ≤ 1048576 ∧ ∀ y ∈ xs, hartLe 1048576 y) 5242880 ?_ ?_ xs k hl (by omega) ⟨hl, h⟩ hk hk2
  · rintro rec xs i k hi h0 hk ⟨hP, hP2⟩
    have hy := hP2 _ (List.getElem_mem hi)
    generalize hg : xs[i] = y at hy
    obtain ⟨y1, y2, y3, y4⟩ := hy
    obtain ⟨k1, r1, e1, l1, g1, g1'⟩ := ok_of_mark (row := y.1) (k := k) y1 ⟨h0, hk⟩
    have w1 : IntKind.i64.wrap (k1 + 1) = k1 + 1 := wrap1 (by omega) (by omega)
    obtain ⟨k2, r2, e2, l2, g2, g2'⟩ := mark_more (row := y.2.2.1) (k := k1 + 1) y2 (by omega) (by omega)
    have w2 : IntKind.i64.wrap (k2 + 1) = k2 + 1 := wrap1 (by omega) (by omega)
    have w3 : IntKind.i64.wrap (k2 + 1 + 1) = k2 + 1 + 1 := wrap1 (by omega) (by omega)
    have w4 : IntKind.i64.wrap (k2 + 1 + 1 + 1) = k2 + 1 + 1 + 1 := wrap1 (by omega) (by omega)
    have w5 : IntKind.i64.wrap (k2 + 1 + 1 + 1 + 1) = k2 + 1 + 1 + 1 + 1 := wrap1 (by omega) (by omega)
    obtain ⟨k3, r3, e3, l3, g3, g3'⟩ := mark_more (row := y.2.2.2.2.2.2.2.1) (k := k2 + 1 + 1 + 1 + 1) y3 (by omega) (by omega)
    obtain ⟨k4, r4, e4, l4, g4, g4'⟩ := mark_more (row := y.2.2.2.2.2.2.2.2.1) (k := k3) y4 (by omega) (by omega)
    have wi : IntKind.i64.wrap ((i : Int) + 1) = ((i + 1 : Nat) : Int) := wrapS (by omega)
    have c : ((i : Nat) : Int) < ((xs.length : Nat) : Int) := Int.ofNat_lt.2 hi
    have c0 : (0 : Int) ≤ ((i : Nat) : Int) := nat0
    have hget : xs[i]? = some y := by rw [List.getElem?_eq_getElem hi, hg]
    refine ⟨k4, xs.set i (r1, k1, r2, (k2.tmod 3 == 0), ((k2 + 1).tmod 3 == 0), ((k2 + 1 + 1).tmod 3 == 0), k2 + 1 + 1 + 1, r3, r4, ()), ?_, by simp, by omega, by omega, by simpa using hP, mem_set_le hP2 ⟨by rw [l1]; exact y1, by rw [l2]; exact y2, by rw [l3]; exact y3, by rw [l4]; exact y4⟩⟩
    unfold l_laws_markHartS_2
    dsimp only
    rw [if_pos (lt_t hi)]
    simp only [List.length_set, c, c0, and_self, if_true, Int.toNat_natCast, hget, Option.bind_some, e1, l1, w1, e2, l2, w2, w3, w4, w5, e3, l3, e4, l4, wi, List.getElem?_set_self', Option.map_eq_map, Option.map_some, Function.const_apply, List.set_set]
  · intro rec xs k
    unfold l_laws_markHartS_2
    dsimp only
    rw [if_neg lt_same]

theorem markHost_ok (x : HostD) (k : Int) (h : hostLe 1048576 x) (hk : 0 ≤ k) (hk2 : k ≤ 1048576) :
    ∃ k' : Int, ∃ x', F_laws_markHost ((x.1.1, x.1.2.1, x.1.2.2.1, x.1.2.2.2.1, x.2.1, x.2.2.1, x.2.2.2.1, x.2.2.2.2.1, x.2.2.2.2.2.1, ()), k, ()) = some ((k', ()), (x', ())) ∧
      (x'.1.length = x.1.1.length ∧ x'.2.1.length = x.1.2.1.length ∧ x'.2.2.1.length = x.1.2.2.1.length ∧ x'.2.2.2.1.length = x.1.2.2.2.1.length ∧ x'.2.2.2.2.1.length = x.2.1.length ∧ x'.2.2.2.2.2.1.length = x.2.2.1.length) ∧ k ≤ k' ∧ k' ≤ 1125899906842624 := by
  obtain ⟨hp, h2, h3, h4⟩ := h
  obtain ⟨k1, p1, a1, ⟨b1, b2, b3, b4⟩, c1, d1⟩ := markPol_ok x.1 k hp hk (by omega)
  obtain ⟨k2, x2, a2, e2, c2, d2⟩ := mark_more (row := x.2.1) (k := k1) h2 (by omega) (by omega)
  obtain ⟨k3, x3, a3, e3, c3, d3⟩ := markHarts_ok x.2.2.1 k2 h3 h4 (by omega) (by omega)
  refine ⟨k3, (p1.1, p1.2.1, p1.2.2.1, p1.2.2.2.1, x2, x3, ()), ?_, ⟨b1, b2, b3, b4, e2, e3⟩, by omega, by omega⟩
  unfold F_laws_markHost
  dsimp only
  rw [a1, Option.bind_some]
  dsimp only
  rw [if_pos (by rw [b1, b2, b3, b4]; simp), a2, Option.bind_some]
  dsimp only
  rw [if_pos (by rw [e2]; simp), a3, Option.bind_some]
  dsimp only
  rw [if_pos (by rw [e3]; simp), if_pos (by rw [b1, b2, b3, b4, e2, e3]; simp)]

theorem nz_none {c : Int} (h : nz c = none) : c = 0 := by
  unfold nz at h
  split at h
  · cases h
  · rename_i h'; simpa using h'

theorem okLane {p : PolD} (hok : OkPol p) : ∀ l ∈ p.2.1, (isG p l.1 = true ∧ isG p l.2.1 = true ∧ l.1 ≠ l.2.1) ∧ (0 ≤ l.2.2.1 ∧ l.2.2.1 ≤ 23) ∧ (5 ≤ l.2.2.2.1 ∧ l.2.2.2.1 ≤ 6) ∧ 5 ≤ l.2.2.2.2.1 ∧ l.2.2.2.2.1 ≤ 6 := by
  intro l hl
  obtain ⟨i, e⟩ := scan_none_all hok.lanes.2 l hl
  have e := nz_none e
  unfold laneM at e
  split at e
  · rename_i h; exact absurd e h
  · rename_i h0
    split at e
    · rename_i h1
      refine ⟨?_, inB_t.1 h1.1, inB_t.1 h1.2.1, inB_t.1 h1.2.2⟩
      have h0 : endsM p l.1 l.2.1 = 0 := by simpa using h0
      unfold endsM at h0
      split at h0
      · rename_i g1
        split at h0
        · rename_i g2
          split at h0
          · cases h0
          · rename_i g3; exact ⟨g1, g2, g3⟩
        · cases h0
      · cases h0
    · cases e

theorem isG_t {p : PolD} {g : Int} : isG p g = true ↔ 0 ≤ g ∧ g < (p.1.length : Int) := by unfold isG; simp; omega

def pg (m : List Int) (p : Int) : List Int := (m.drop (8 * p.toNat)).take 8

def wordsM (m : List Int) (l : List Int) : List Int := l.flatMap (pg m)

theorem pg_len (m : List Int) (p : Int) : (pg m p).length ≤ 8 := by unfold pg; simp; omega

theorem wordsM_len (m : List Int) : ∀ l : List Int, (wordsM m l).length ≤ 8 * l.length
  | [] => by simp [wordsM]
  | p :: r => by
    have h1 := wordsM_len m r
    have h2 := pg_len m p
    unfold wordsM at h1 ⊢
    rw [List.flatMap_cons, List.length_append, List.length_cons]; omega

theorem wordsM_get (m : List Int) {l : List Int} {k : Nat} (h : k < l.length) : wordsM m (l.drop k) = pg m l[k] ++ wordsM m (l.drop (k + 1)) := by
  rw [drop_get h]; rfl

theorem pg_is (m : List Int) (P : Nat) (h : 8 * P + 8 ≤ m.length) (h2 : m.length ≤ 192) :
    (0 ≤ IntKind.i64.wrap ((P : Int) * 8) ∧ IntKind.i64.wrap ((P : Int) * 8) ≤ IntKind.i64.wrap (IntKind.i64.wrap ((P : Int) + 1) * 8) ∧ IntKind.i64.wrap (IntKind.i64.wrap ((P : Int) + 1) * 8) ≤ ((m.length : Nat) : Int)) ∧
      (m.drop (IntKind.i64.wrap ((P : Int) * 8)).toNat).take ((IntKind.i64.wrap (IntKind.i64.wrap ((P : Int) + 1) * 8)).toNat - (IntKind.i64.wrap ((P : Int) * 8)).toNat) = pg m (P : Int) := by
  rw [wrap64 (n := (P : Int) * 8) (by omega) (by omega), wrap64 (n := (P : Int) + 1) (by omega) (by omega), wrap64 (n := ((P : Int) + 1) * 8) (by omega) (by omega)]
  refine ⟨⟨by omega, by omega, by omega⟩, ?_⟩
  have e1 : ((P : Int) * 8).toNat = 8 * P := by omega
  have e2 : (((P : Int) + 1) * 8).toNat - 8 * P = 8 := by omega
  rw [e1, e2]
  unfold pg
  rw [Int.toNat_natCast]

theorem specWords2_eq (m l : List Int) (hm : m.length ≤ 192) (hp : ∀ p ∈ l, 0 ≤ p ∧ 8 * p + 8 ≤ (m.length : Int)) (hl : l.length ≤ 1000) : F_spec_l7Words (m, l, ()) = some ((wordsM m l, ()), ()) := by
  have key := loopN (step := l_spec_l7Words_3) (γ := denO o_spec_l7Words_3) (fun k (out : List Int) => ((m, l, out, ((k : Nat) : Int), ()), (), ())) l.length (lots_gt' (by omega)) (fun k out => out.length ≤ 8 * k)
    (fun k out => some (.inl ((out ++ wordsM m (l.drop k), ()), (), ()))) ?_ 0 [] (by omega) (by simp)
  · have e0 : ((0 : Nat) : Int) = 0 := rfl
    rw [e0, List.drop_zero, List.nil_append] at key
    unfold F_spec_l7Words
    show (iterF l_spec_l7Words_3 lots _).bind _ = _
    rw [key, Option.bind_some]
  · rintro rec k out hk ho ih
    unfold l_spec_l7Words_3
    dsimp only
    by_cases hlt : k < l.length
    · have hy := hp _ (List.getElem_mem hlt)
      have hg := wordsM_get m hlt
      generalize hq : l[k] = y at hy hg
      obtain ⟨P, rfl⟩ : ∃ P : Nat, y = (P : Int) := ⟨y.toNat, by omega⟩
      obtain ⟨c1, c2⟩ := pg_is m P (by omega) hm
      have hget : l[((k : Nat) : Int).toNat]? = some (P : Int) := by rw [Int.toNat_natCast, List.getElem?_eq_getElem hlt, hq]
      rw [if_pos (lt_t hlt), if_pos nat0, hget, Option.bind_some, if_pos nat0, Option.bind_some, c2, if_pos c1, if_pos (by have := pg_len m (P : Int); omega), wrapS (by omega), hg]
      rw [ih (out ++ pg m (P : Int)) hlt (by have := pg_len m (P : Int); rw [List.length_append]; omega), List.append_assoc]
    · rw [if_neg (lt_f hlt), drop_all hlt]
      simp [wordsM]

theorem implPage_eq (m : List Int) (p : Int) (hm : m.length ≤ 192) (hp : 0 ≤ p ∧ 8 * p + 8 ≤ (m.length : Int)) : F_impl_pageOf (m, p, ()) = some ((pg m p, ()), ()) := by
  obtain ⟨P, rfl⟩ : ∃ P : Nat, p = (P : Int) := ⟨p.toNat, by omega⟩
  rw [pageOf_eq m P (by omega) hm]
  unfold pg
  rw [Int.toNat_natCast]

theorem implWords_eq (m l : List Int) (hm : m.length ≤ 192) (hp : ∀ p ∈ l, 0 ≤ p ∧ 8 * p + 8 ≤ (m.length : Int)) (hl : l.length ≤ 1000) : F_impl_pagesOf (m, l, ()) = some ((wordsM m l, ()), ()) := by
  have key := loopN (step := l_impl_pagesOf_3) (γ := denO o_impl_pagesOf_3) (fun k (out : List Int) => ((m, out, l, ((l.length : Nat) : Int), ((k : Nat) : Int), ()), (), ())) l.length (lots_gt' (by omega)) (fun k out => out.length ≤ 8 * k)
    (fun k out => some (.inl ((out ++ wordsM m (l.drop k), ()), (), ()))) ?_ 0 [] (by omega) (by simp)
  · have e0 : ((0 : Nat) : Int) = 0 := rfl
    rw [e0, List.drop_zero, List.nil_append] at key
    unfold F_impl_pagesOf
    show (iterF l_impl_pagesOf_3 lots _).bind _ = _
    rw [key, Option.bind_some]
  · rintro rec k out hk ho ih
    unfold l_impl_pagesOf_3
    dsimp only
    by_cases hlt : k < l.length
    · have hy := hp _ (List.getElem_mem hlt)
      rw [if_pos (lt_t hlt), if_pos nat0, at_get hlt, implPage_eq m _ hm hy, Option.bind_some]
      dsimp only
      rw [if_pos (by have := pg_len m l[k]; omega), wrapS (by omega), wordsM_get m hlt]
      rw [ih (out ++ pg m l[k]) hlt (by have := pg_len m l[k]; rw [List.length_append]; omega), List.append_assoc]
    · rw [if_neg (lt_f hlt), drop_all hlt]
      simp [wordsM]

def givesM (g : Int) (b : Bool) : List LaneD → List Int
  | [] => []
  | l :: r => if l.1 = g then (if b = true then l.2.2.1 else l.2.2.2.1) :: givesM g b r else givesM g b r

theorem givesM_len (g : Int) (b : Bool) : ∀ ls : List LaneD, (givesM g b ls).length ≤ ls.length
  | [] => by simp [givesM]
  | l :: r => by
    have := givesM_len g b r
    simp only [givesM]
    split
    · simp only [List.length_cons]; omega
    · simp only [List.length_cons]; omega

theorem givesM_mem {g : Int} {b : Bool} : ∀ {ls : List LaneD}, ∀ v ∈ givesM g b ls, ∃ l ∈ ls, l.1 = g ∧ v = if b = true then l.2.2.1 else l.2.2.2.1
  | [], v, h => by simp [givesM] at h
  | l :: r, v, h => by
    simp only [givesM] at h
    split at h
    · rename_i hg
      rcases List.mem_cons.1 h with h | h
      · exact ⟨l, by simp, hg, h⟩
      · obtain ⟨l', h1, h2⟩ := givesM_mem v h
        exact ⟨l', by simp [h1], h2⟩
    · obtain ⟨l', h1, h2⟩ := givesM_mem v h
      exact ⟨l', by simp [h1], h2⟩

theorem gives_eq (p : PolD) (g : Int) (b : Bool) (hl : p.2.1.length ≤ 4) : F_spec_l13Gives (p, g, b, ()) = some ((givesM g b p.2.1, ()), ()) := by
  have key := loopN (step := l_spec_l13Gives_3) (γ := denO o_spec_l13Gives_3) (fun k (out : List Int) => ((p, g, b, out, ((k : Nat) : Int), ()), (), ())) p.2.1.length (lots_gt' (by omega)) (fun k out => out.length ≤ k)
    (fun k out => some (.inl ((out ++ givesM g b (p.2.1.drop k), ()), (), ()))) ?_ 0 [] (by omega) (by simp)
  · have e0 : ((0 : Nat) : Int) = 0 := rfl
    rw [e0, List.drop_zero, List.nil_append] at key
    unfold F_spec_l13Gives
    show (iterF l_spec_l13Gives_3 lots _).bind _ = _
    rw [key, Option.bind_some]
  · rintro rec k out hk ho ih
    unfold l_spec_l13Gives_3
    dsimp only
    by_cases hlt : k < p.2.1.length
    · rw [if_pos (lt_t hlt), if_pos nat0, at_get hlt, drop_get hlt, givesM, wrapS (by omega)]
      by_cases h : (p.2.1[k]).1 = g
      · rw [if_neg (by simpa using h), if_pos h]
        cases b
        · rw [if_neg (by simp), if_pos nat0, at_get hlt, if_pos (by simp only [List.length_cons, List.length_nil]; omega), ih _ hlt (by simp; omega), if_neg (by simp), List.append_assoc]
          rfl
        · rw [if_pos rfl, if_pos nat0, at_get hlt, if_pos (by simp only [List.length_cons, List.length_nil]; omega), ih _ hlt (by simp; omega), if_pos rfl, List.append_assoc]
          rfl
      · rw [if_pos (by simpa using h), if_neg h]
        exact ih _ hlt (by omega)
    · rw [if_neg (lt_f hlt), drop_all hlt, givesM, List.append_nil]

def zeroH : HartD := ([], 0, [], false, false, false, 0, [], [], ())

theorem l8Copy_eq (h : HartD) (hl : hartLe 1048576 h) : F_spec_l8Copy (h, ()) = some ((h, ()), ()) := by
  obtain ⟨l1, l2, l3, l4⟩ := hl
  unfold F_spec_l8Copy
  dsimp only
  rw [if_pos (by simp only [List.length_nil]; omega), if_pos (by simp only [List.length_nil]; omega), if_pos (by simp only [List.length_nil]; omega), if_pos (by simp only [List.length_nil]; omega)]
  rfl

theorem clone_eq (m : List Int) (h : m.length ≤ 1048576) : F_slices_Clone_int64 (m, ()) = some ((m, ()), ()) := by
  unfold F_slices_Clone_int64
  rw [if_pos (by simp only [List.length_nil]; omega)]
  rfl

theorem hartOwn_eq (h : HartD) (hl : hartLe 1048576 h) : F_impl_Hart_own (h, ()) = some ((h, ()), ()) := by
  obtain ⟨l1, l2, l3, l4⟩ := hl
  unfold F_impl_Hart_own
  dsimp only
  rw [clone_eq _ l1, Option.bind_some, clone_eq _ l2, Option.bind_some, clone_eq _ l3, Option.bind_some, clone_eq _ l4, Option.bind_some]

abbrev ViewR := Int × List Int × Int × List Int × Bool × Bool × Bool × Int × List Int × List Int × List Int × List Int × Unit

/-- A view with a code, cell by cell. -/
def viewR (c : Int) (h : HartD) (o g : List Int) : ViewR := (c, h.1, h.2.1, h.2.2.1, h.2.2.2.1, h.2.2.2.2.1, h.2.2.2.2.2.1, h.2.2.2.2.2.2.1, h.2.2.2.2.2.2.2.1, h.2.2.2.2.2.2.2.2.1, o, g, ())

def viewM (x : HostD) (g : Int) : ViewR :=
  if hostM x ≠ 0 then viewR (hostM x) zeroH [] []
  else if isG x.1 g = true then viewR 0 (x.2.2.1.getD g.toNat zeroH) (wordsM x.2.1 (x.1.1.getD g.toNat [])) (wordsM x.2.1 (givesM g true x.1.2.1))
  else viewR 4 zeroH [] []

theorem host_mem {x : HostD} (h : hostM x = 0) : x.2.1.length = 192 ∧ x.2.2.1.length = x.1.1.length := by
  have hp := host_pol h
  unfold hostM at h
  rw [if_neg (by simpa using hp)] at h
  split at h
  · rename_i g; exact ⟨g.1.2, g.2⟩
  · cases h

/-- What a guest of a right host has. -/
theorem guest_at {x : HostD} {g : Int} (hx : hostLe 1048576 x) (h : hostM x = 0) (hg : isG x.1 g = true) :
    (0 ≤ g ∧ x.2.2.1[g.toNat]? = some (x.2.2.1.getD g.toNat zeroH) ∧ x.1.1[g.toNat]? = some (x.1.1.getD g.toNat [])) ∧ hartLe 1048576 (x.2.2.1.getD g.toNat zeroH) ∧
      ((x.1.1.getD g.toNat []).length ≤ 5 ∧ ∀ p ∈ x.1.1.getD g.toNat [], 0 ≤ p ∧ 8 * p + 8 ≤ (x.2.1.length : Int)) ∧ ∀ p ∈ givesM g true x.1.2.1, 0 ≤ p ∧ 8 * p + 8 ≤ (x.2.1.length : Int) := by
  obtain ⟨g0, g1⟩ := isG_t.1 hg
  obtain ⟨hm, hh⟩ := host_mem h
  have hok := okPol (host_pol h)
  have hk1 : g.toNat < x.1.1.length := by omega
  have hk2 : g.toNat < x.2.2.1.length := by omega
  have e1 : x.1.1[g.toNat]? = some (x.1.1.getD g.toNat []) := by rw [List.getD_eq_getElem?_getD, List.getElem?_eq_getElem hk1]; rfl
  have e2 : x.2.2.1[g.toNat]? = some (x.2.2.1.getD g.toNat zeroH) := by rw [List.getD_eq_getElem?_getD, List.getElem?_eq_getElem hk2]; rfl
  refine ⟨⟨g0, e2, e1⟩, hx.2.2.2 _ (List.mem_of_getElem? e2), ⟨(hok.own1 _ (List.mem_of_getElem? e1)).2.1, fun p hp => ?_⟩, fun p hp => ?_⟩
  · have := (hok.own1 _ (List.mem_of_getElem? e1)).2.2 p hp
    omega
  · obtain ⟨l, hl, _, e⟩ := givesM_mem p hp
    rw [if_pos rfl] at e
    have := (okLane hok l hl).2.1
    omega

theorem specView_eq (x : HostD) (g : Int) (hx : hostLe 1048576 x) : F_spec_ViewOf (x, g, ()) = some ((viewM x g, ()), ()) := by
  unfold F_spec_ViewOf viewM
  dsimp only
  rw [specHost_eq x hx, Option.bind_some]
  dsimp only
  by_cases h0 : hostM x = 0
  case neg => rw [if_pos (by simpa using h0), if_pos h0]; rfl
  rw [if_neg (by simpa using h0), if_neg (by simpa using h0), l6Guest_eq x.1 g hx.1.1.1, Option.bind_some]
  dsimp only
  by_cases hg : isG x.1 g = true
  case neg => rw [if_pos (by simpa using hg), if_neg hg]; rfl
  obtain ⟨⟨g0, e1, e2⟩, a1, ⟨a2, a3⟩, a4⟩ := guest_at hx h0 hg
  have hok := okPol (host_pol h0)
  have hm := (host_mem h0).1
  rw [if_neg (by simpa using hg), if_pos hg]
  unfold F_spec_l13View
  dsimp only
  rw [if_pos g0, e1, Option.bind_some, l8Copy_eq _ a1, Option.bind_some, if_pos g0, e2, Option.bind_some, specWords2_eq _ _ (by omega) a3 (by omega), Option.bind_some]
  rw [gives_eq x.1 g true hok.lanes.1, Option.bind_some, specWords2_eq _ _ (by omega) a4 (by have := givesM_len g true x.1.2.1; have := hok.lanes.1; omega), Option.bind_some, Option.bind_some]
  rfl

theorem implView_eq (x : HostD) (g : Int) (hx : hostLe 1048576 x) : F_impl_ViewOf (x, g, ()) = some ((viewM x g, ()), ()) := by
  unfold F_impl_ViewOf viewM
  dsimp only
  rw [implHost_eq x hx, Option.bind_some]
  dsimp only
  by_cases h0 : hostM x = 0
  case neg => rw [if_pos (by simpa using h0), if_pos h0]; rfl
  rw [if_neg (by simpa using h0), if_neg (by simpa using h0), isGuest_eq x.1 g hx.1.1.1, Option.bind_some]
  dsimp only
  by_cases hg : isG x.1 g = true
  case neg => rw [if_pos (by simpa using hg), if_neg hg]; rfl
  obtain ⟨⟨g0, e1, e2⟩, a1, ⟨a2, a3⟩, a4⟩ := guest_at hx h0 hg
  have hok := okPol (host_pol h0)
  have hm := (host_mem h0).1
  have hll := hok.lanes.1
  rw [if_neg (by simpa using hg), if_pos hg]
  unfold F_impl_Host_viewOf
  dsimp only
  rw [if_pos g0, e1, Option.bind_some, hartOwn_eq _ a1, Option.bind_some, if_pos g0, e2, Option.bind_some, implWords_eq _ _ (by omega) a3 (by omega), Option.bind_some]
  generalize x.2.2.1.getD g.toNat zeroH = h at *
  generalize wordsM x.2.1 (x.1.1.getD g.toNat []) = ow at *
  dsimp only
  have key := loopN (step := l_impl_Host_viewOf_3) (γ := denO o_impl_Host_viewOf_3)
    (fun k (out : List Int) => ((x, g, (), (), x.1.2.1, ((x.1.2.1.length : Nat) : Int), ((k : Nat) : Int), ()), (([], 0, [], false, false, false, 0, [], [], [], [], ()), (h.1, h.2.1, h.2.2.1, h.2.2.2.1, h.2.2.2.2.1, h.2.2.2.2.2.1, h.2.2.2.2.2.2.1, h.2.2.2.2.2.2.2.1, h.2.2.2.2.2.2.2.2.1, ow, out, ()), ()), ()))
    x.1.2.1.length (lots_gt' (by omega)) (fun k out => out.length ≤ 8 * k)
    (fun k out => some (.inl (((), (), ()), (([], 0, [], false, false, false, 0, [], [], [], [], ()), (h.1, h.2.1, h.2.2.1, h.2.2.2.1, h.2.2.2.2.1, h.2.2.2.2.2.1, h.2.2.2.2.2.2.1, h.2.2.2.2.2.2.2.1, h.2.2.2.2.2.2.2.2.1, ow, out ++ wordsM x.2.1 (givesM g true (x.1.2.1.drop k)), ()), ()), ()))) ?_ 0 [] (by omega) (by simp)
  · have e0 : ((0 : Nat) : Int) = 0 := rfl
    rw [e0, List.drop_zero, List.nil_append] at key
    show ((iterF l_impl_Host_viewOf_3 lots _).bind _).bind _ = _
    rw [key, Option.bind_some]
    rfl
  · rintro rec k out hk ho ih
    unfold l_impl_Host_viewOf_3
    dsimp only
    by_cases hlt : k < x.1.2.1.length
    · have hln := (okLane hok _ (List.getElem_mem hlt)).2.1
      rw [if_pos (lt_t hlt), if_pos nat0, at_get hlt, drop_get hlt, givesM, wrapS (by omega)]
      by_cases hq : (x.1.2.1[k]).1 = g
      · rw [if_pos (by simpa using hq), if_pos hq, implPage_eq x.2.1 _ (by omega) (by omega), Option.bind_some]
        dsimp only
        have := pg_len x.2.1 (x.1.2.1[k]).2.2.1
        rw [if_pos (by omega), ih _ hlt (by rw [List.length_append]; omega), List.append_assoc]
        rfl
      · rw [if_neg (by simpa using hq), if_neg hq]
        exact ih _ hlt (by omega)
    · rw [if_neg (lt_f hlt), drop_all hlt]
      simp only [givesM, wordsM, List.flatMap_nil, List.append_nil]

theorem getD_hartLe {m : List HartD} {i : Nat} (h : ∀ y ∈ m, hartLe 1048576 y) : hartLe 1048576 (m.getD i zeroH) := by
  rw [List.getD_eq_getElem?_getD]
  cases e : m[i]? with
  | none => exact ⟨by simp [zeroH], by simp [zeroH], by simp [zeroH], by simp [zeroH]⟩
  | some y => exact h y (List.mem_of_getElem? e)

/-- A view's six rows are not too long. -/
def vrLe (r : ViewR) : Prop := r.2.1.length ≤ 1048576 ∧ r.2.2.2.1.length ≤ 1048576 ∧ r.2.2.2.2.2.2.2.2.1.length ≤ 1048576 ∧ r.2.2.2.2.2.2.2.2.2.1.length ≤ 1048576 ∧ r.2.2.2.2.2.2.2.2.2.2.1.length ≤ 1048576 ∧ r.2.2.2.2.2.2.2.2.2.2.2.1.length ≤ 1048576

theorem zero_vrLe (c : Int) : vrLe (viewR c zeroH [] []) := by unfold vrLe viewR zeroH; simp

theorem viewM_le (x : HostD) (g : Int) (hx : hostLe 1048576 x) : vrLe (viewM x g) := by
  unfold viewM
  split
  · exact zero_vrLe _
  · rename_i h0
    have h0 : hostM x = 0 := by simpa using h0
    split
    · rename_i hg
      obtain ⟨_, a1, ⟨a2, a3⟩, a4⟩ := guest_at hx h0 hg
      have w1 := wordsM_len x.2.1 (x.1.1.getD g.toNat [])
      have w2 := wordsM_len x.2.1 (givesM g true x.1.2.1)
      have w3 := givesM_len g true x.1.2.1
      have w4 := (okPol (host_pol h0)).lanes.1
      exact ⟨a1.1, a1.2.1, a1.2.2.1, a1.2.2.2, by show (wordsM _ _).length ≤ _; omega, by show (wordsM _ _).length ≤ _; omega⟩
    · exact zero_vrLe _

/-- A view as the laws take it. -/
def vrV (r : ViewR) : Int × ViewD × Unit := (r.1, ((r.2.1, r.2.2.1, r.2.2.2.1, r.2.2.2.2.1, r.2.2.2.2.2.1, r.2.2.2.2.2.2.1, r.2.2.2.2.2.2.2.1, r.2.2.2.2.2.2.2.2.1, r.2.2.2.2.2.2.2.2.2.1, ()), r.2.2.2.2.2.2.2.2.2.2.1, r.2.2.2.2.2.2.2.2.2.2.2.1, ()), ())

theorem eqView2_eq (r : ViewR) (h : vrLe r) : F_laws_eqViewResult (vrV r, vrV r, ()) = some ((true, ()), ()) := by
  obtain ⟨h1, h2, h3, h4, h5, h6⟩ := h
  unfold F_laws_eqViewResult vrV
  dsimp only
  rw [if_neg (by simp), eqView_eq _ ⟨⟨h1, h2, h3, h4⟩, h5, h6⟩, Option.bind_some, if_neg (by simp)]

/-- The marked rows, and how far they count. -/
def vrK (r : ViewR) : Int × Int × Int × Int × Int × Int :=
  let k1 := 1 + (r.2.1.length : Int)
  let k2 := k1 + (r.2.2.2.1.length : Int)
  let k3 := k2 + (r.2.2.2.2.2.2.2.2.1.length : Int)
  let k4 := k3 + (r.2.2.2.2.2.2.2.2.2.1.length : Int)
  let k5 := k4 + (r.2.2.2.2.2.2.2.2.2.2.1.length : Int)
  (k1, k2, k3, k4, k5, k5 + (r.2.2.2.2.2.2.2.2.2.2.2.1.length : Int))

abbrev Six := List Int × List Int × List Int × List Int × List Int × List Int × Unit

def vrS (r : ViewR) : Six := (seqFrom 1 r.2.1.length, seqFrom (vrK r).1 r.2.2.2.1.length, seqFrom (vrK r).2.1 r.2.2.2.2.2.2.2.2.1.length, seqFrom (vrK r).2.2.1 r.2.2.2.2.2.2.2.2.2.1.length, seqFrom (vrK r).2.2.2.1 r.2.2.2.2.2.2.2.2.2.2.1.length, seqFrom (vrK r).2.2.2.2.1 r.2.2.2.2.2.2.2.2.2.2.2.1.length, ())

theorem vrS_len (r : ViewR) : (vrS r).1.length = r.2.1.length ∧ (vrS r).2.1.length = r.2.2.2.1.length ∧ (vrS r).2.2.1.length = r.2.2.2.2.2.2.2.2.1.length ∧ (vrS r).2.2.2.1.length = r.2.2.2.2.2.2.2.2.2.1.length ∧ (vrS r).2.2.2.2.1.length = r.2.2.2.2.2.2.2.2.2.2.1.length ∧ (vrS r).2.2.2.2.2.1.length = r.2.2.2.2.2.2.2.2.2.2.2.1.length := by
  unfold vrS; simp [seqFrom_len]

theorem markView_eq (r : ViewR) (h : vrLe r) : F_laws_markViewResult ((r.1, r.2.1, r.2.2.1, r.2.2.2.1, r.2.2.2.2.1, r.2.2.2.2.2.1, r.2.2.2.2.2.2.1, r.2.2.2.2.2.2.2.1, r.2.2.2.2.2.2.2.2.1, r.2.2.2.2.2.2.2.2.2.1, r.2.2.2.2.2.2.2.2.2.2.1, r.2.2.2.2.2.2.2.2.2.2.2.1, ()), 1, ()) = some (((vrK r).2.2.2.2.2, ()), (vrS r, ())) := by
  obtain ⟨h1, h2, h3, h4, h5, h6⟩ := h
  unfold F_laws_markViewResult F_laws_markView F_laws_markHart
  dsimp only
  rw [mark_eq _ 1 h1 (by omega), Option.bind_some]
  dsimp only
  rw [if_pos (by simp [seqFrom_len]), mark_eq _ _ h2 (by omega), Option.bind_some]
  dsimp only
  rw [if_pos (by simp [seqFrom_len]), mark_eq _ _ h3 (by omega), Option.bind_some]
  dsimp only
  rw [if_pos (by simp [seqFrom_len]), mark_eq _ _ h4 (by omega), Option.bind_some]
  dsimp only
  rw [if_pos (by simp [seqFrom_len]), if_pos (by simp [seqFrom_len]), Option.bind_some]
  dsimp only
  rw [if_pos (by simp [seqFrom_len]), mark_eq _ _ h5 (by omega), Option.bind_some]
  dsimp only
  rw [if_pos (by simp [seqFrom_len]), mark_eq _ _ h6 (by omega), Option.bind_some]
  dsimp only
  rw [if_pos (by simp [seqFrom_len]), if_pos (by simp [seqFrom_len]), Option.bind_some]
  dsimp only
  rw [if_pos (by simp [seqFrom_len]), if_pos (by simp [seqFrom_len])]
  rfl

theorem heldView_eq (c pc : Int) (b1 b2 b3 : Bool) (d : Int) (r : ViewR) (h : vrLe r) :
    F_laws_heldViewResult ((c, (((vrS r).1, pc, (vrS r).2.1, b1, b2, b3, d, (vrS r).2.2.1, (vrS r).2.2.2.1, ()), (vrS r).2.2.2.2.1, (vrS r).2.2.2.2.2.1, ()), ()), 1, ()) = some (((vrK r).2.2.2.2.2, ()), ()) := by
  obtain ⟨h1, h2, h3, h4, h5, h6⟩ := h
  unfold F_laws_heldViewResult F_laws_heldView F_laws_heldHart vrS vrK
  simp only [ltI_eq, decide_eq_true_eq]
  rw [held_eq _ 1 h1 (by omega), Option.bind_some]
  dsimp only
  rw [if_neg (by omega), held_eq _ _ h2 (by omega), Option.bind_some]
  dsimp only
  rw [if_neg (by omega), held_eq _ _ h3 (by omega), Option.bind_some]
  dsimp only
  rw [if_neg (by omega), held_eq _ _ h4 (by omega), Option.bind_some]
  dsimp only
  rw [if_neg (by omega), Option.bind_some]
  dsimp only
  rw [if_neg (by omega), held_eq _ _ h5 (by omega), Option.bind_some]
  dsimp only
  rw [if_neg (by omega), held_eq _ _ h6 (by omega), Option.bind_some]
  dsimp only
  rw [if_neg (by omega), Option.bind_some]
  dsimp only
  rw [if_neg (by omega)]

theorem vrK_pos (r : ViewR) : ¬ ((vrK r).2.2.2.2.2 < 0) := by unfold vrK; dsimp only; omega

theorem viewOf_law (x : HostD) (g : Int) (h : hostLe maxLen x) : F_laws_FnExactViewOf (x, g, ()) = some ((true, ()), ()) := by
  unfold F_laws_FnExactViewOf
  simp only [ltI_eq, decide_eq_true_eq]
  obtain ⟨r1, e1, c1⟩ := szHost_eq x 1048576 (by omega) (by omega) h
  rw [e1, Option.bind_some]
  by_cases d1 : r1 < 0
  · rw [if_pos d1]
  rw [if_neg d1]
  have hx := (c1.resolve_left d1).2.2
  have hl := viewM_le x g hx
  have he := eqView2_eq (viewM x g) hl
  have hi := implView_eq x g hx
  have hs := specView_eq x g hx
  generalize viewM x g = r at *
  rw [toHost_eq x hx, Option.bind_some]
  show (F_spec_ViewOf (x, g, ())).bind _ = _
  rw [hs, Option.bind_some, Option.bind_some]
  show (F_impl_ViewOf (x, g, ())).bind _ = _
  rw [hi, Option.bind_some]
  show (F_laws_eqViewResult (vrV r, vrV r, ())).bind _ = _
  rw [he, Option.bind_some, if_neg (by simp), Option.bind_some]
  show (F_laws_eqHost (x, x, ())).bind _ = _
  rw [eqHost_eq x hx, Option.bind_some, if_neg (by simp)]
  obtain ⟨k', x', m1, ⟨b1, b2, b3, b4, b5, b6⟩, m2, m3⟩ := markHost_ok x 1 hx (by omega) (by omega)
  dsimp only
  rw [m1, Option.bind_some]
  dsimp only
  rw [if_pos (by rw [b1, b2, b3, b4, b5, b6]; simp), if_pos (by simp; omega)]
  show (F_laws_eqViewResult (vrV r, vrV r, ())).bind _ = _
  rw [he, Option.bind_some, if_neg (by simp)]
  rw [markView_eq r hl, Option.bind_some]
  obtain ⟨s1, s2, s3, s4, s5, s6⟩ := vrS_len r
  dsimp only
  rw [if_pos (by rw [s1, s2, s3, s4, s5, s6]; simp), heldView_eq _ _ _ _ _ _ r hl, Option.bind_some]
  dsimp only
  rw [if_neg (vrK_pos r), if_neg (by simp), Option.bind_some]
  show (F_impl_ViewOf (x, g, ())).bind _ = _
  rw [hi, Option.bind_some]
  show (F_laws_eqViewResult (vrV r, vrV r, ())).bind _ = _
  rw [he, Option.bind_some, if_neg (by simp), Option.bind_some]
  dsimp only
  rw [if_neg (vrK_pos r), if_neg (by simp)]

theorem viewOf_F : ∀ x, inRP P_laws_FnExactViewOf x → F_laws_FnExactViewOf x = some ((true, ()), ()) := by
  rintro ⟨x, n, _⟩ ⟨hx, _⟩
  exact viewOf_law x n ⟨⟨⟨hx.1.1.1, fun l hl => (hx.1.1.2 l hl).1⟩, hx.1.2.1.1, hx.1.2.2.1.1, hx.1.2.2.2.1.1⟩, hx.2.1.1, hx.2.2.1.1, fun h hh => inR_hart (hx.2.2.1.2 h hh)⟩

end Go.Proofs.YtimbcpeilkaahaaGreat
