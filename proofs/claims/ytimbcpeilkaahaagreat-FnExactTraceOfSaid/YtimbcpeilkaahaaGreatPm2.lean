/- Plain laws: what the functions compute, and that both programs compute the same. -/
import Derived.Test.YtimbcpeilkaahaaGreatPm1
namespace Go.Proofs.YtimbcpeilkaahaaGreat
open Go Go.RowKit S Go.Proofs
set_option maxRecDepth 100000
set_option linter.unusedVariables false
set_option linter.unusedSimpArgs false
theorem implHost_eq (x : HostD) (h : hostLe 1048576 x) : F_impl_HostFault (x, ()) = some ((hostM x, ()), ()) := by
  obtain ⟨hp, h1, h2, h3⟩ := h
  let bx : (den (.slice (.slice (.int .i64)))) × List LaneD × List TwoD × List TwoD × List Int × List HartD × Int × Int × Int × Unit := (x.1.1, x.1.2.1, x.1.2.2.1, x.1.2.2.2.1, x.2.1, x.2.2.1, x.2.2.2.1, x.2.2.2.2.1, x.2.2.2.2.2.1, ())
  have key := scan_loop (step := l_impl_HostFault_7) (γ := denO o_impl_HostFault_7) (fun i => (((), x.2.2.1, ((x.2.2.1.length : Nat) : Int), ((i : Nat) : Int), ()), (bx, ()), ())) x.2.2.1 (fun (_ : Nat) h => nz (hartM h))
    (fun c => some (.inr (.inl ((c, ()), (), ())))) (some (.inl (((), ()), (bx, ()), ()))) (leMax h2) ?_ ?_
  · have e0 : ((0 : Nat) : Int) = 0 := rfl
    rw [e0] at key
    unfold F_impl_HostFault hostM
    dsimp only
    rw [implPol_eq x.1 hp, Option.bind_some]
    dsimp only
    by_cases g0 : polM x.1 = 0
    case neg => rw [if_pos (by simpa using g0), if_pos g0]
    have n0 : ¬ polM x.1 ≠ 0 := by simpa using g0
    have hG : ∀ P : Prop, ¬ P → ¬ (P ∧ x.2.2.1.length = x.1.1.length) := fun P h g => h g.1
    rw [if_neg (by simpa using g0), if_neg n0, implWhole_eq _ h1, Option.bind_some]
    dsimp only
    by_cases g1 : memFault x.2.1 = 0 ∧ x.2.1.length = 192
    case neg => rw [if_neg (by simpa using g1), if_neg (hG _ g1)]
    rw [if_pos (by simpa using g1)]
    by_cases g2 : x.2.2.1.length = x.1.1.length
    case neg =>
      have : ¬ ((x.2.2.1.length : Nat) : Int) = ((x.1.1.length : Nat) : Int) := by omega
      rw [if_pos (by simpa using this), if_neg (fun g : (memFault x.2.1 = 0 ∧ x.2.1.length = 192) ∧ x.2.2.1.length = x.1.1.length => g2 g.2)]
    have hH : (memFault x.2.1 = 0 ∧ x.2.1.length = 192) ∧ x.2.2.1.length = x.1.1.length := ⟨g1, g2⟩
    rw [if_neg (by rw [g2]; simp), if_pos hH]
    show (iterF l_impl_HostFault_7 lots (((), x.2.2.1, ((x.2.2.1.length : Nat) : Int), 0, ()), (bx, ()), ())).bind _ = _
    rw [key]
    unfold hartsM
    cases scan (fun (_ : Nat) h => nz (hartM h)) 0 x.2.2.1 with
    | some c => rfl
    | none =>
      rw [Option.bind_some]
      dsimp only [bx]
      rw [within_eq2, Option.bind_some]
      dsimp only
      cases g3 : inB x.2.2.2.2.2.1 0 1000000
      · simp
      · rw [if_neg (by simp), if_pos rfl]
        show (F_impl_Policy_turnAt (x.1, x.2.2.2.2.2.1, ())).bind _ = _
        rw [implTurn_eq x.1 _ (okPol g0) (inB_t.1 g3).1, Option.bind_some]
        dsimp only
        by_cases g4 : x.2.2.2.1 = (turnM x.1 x.2.2.2.2.2.1).1
        · by_cases g5 : x.2.2.2.2.1 = (turnM x.1 x.2.2.2.2.2.1).2
          · rw [if_pos (by simpa using g4), if_neg (by simpa using g5), if_pos ⟨g4, g5⟩]
          · rw [if_pos (by simpa using g4), if_pos (by simpa using g5), if_neg (fun h => g5 h.2)]
        · rw [if_neg (by simpa using g4), if_neg (fun h => g4 h.1)]
  · intro rec i hi
    unfold l_impl_HostFault_7
    dsimp only
    rw [if_pos (lt_t hi), if_pos nat0, at_get hi, implHart_eq _ (h3 _ (List.getElem_mem hi)), Option.bind_some, wrapS (lt1 hi h2)]
    dsimp only
    unfold nz
    by_cases g : hartM x.2.2.1[i] = 0
    · rw [if_neg (by simpa using g), if_neg (by simpa using g)]
    · rw [if_pos (by simpa using g), if_pos (by simpa using g)]
  · intro rec
    unfold l_impl_HostFault_7
    dsimp only
    rw [if_neg lt_same]

theorem szHarts_eq (m : List HartD) (n : Int) (h0 : 0 ≤ n) (h1 : n ≤ 1048576) (h2 : m.length ≤ maxLen) (h3 : ∀ l ∈ m, hartLe maxLen l) :
    ∃ r : Int, F_laws_szHartS (m, n, ()) = some ((r, ()), ()) ∧ (r < 0 ∨ (0 ≤ r ∧ r ≤ n ∧ m.length ≤ 1048576 ∧ ∀ l ∈ m, hartLe 1048576 l)) :=
  szS_thm (F := F_laws_szHartS) (step := l_laws_szHartS_5) (f := fun y k => F_laws_szHart (y, k, ())) (ok := fun l => hartLe 1048576 l) (fun _ _ => rfl) (fun _ => rfl) (fun _ => rfl) (fun _ _ _ _ => rfl) m h2 (fun y hy k g0 g1 => szHart_eq y k g0 g1 (h3 y hy)) n h0 h1

theorem szHost_eq (x : HostD) (n : Int) (h0 : 0 ≤ n) (h1 : n ≤ 1048576) (h : hostLe maxLen x) : ∃ r : Int, F_laws_szHost (x, n, ()) = some ((r, ()), ()) ∧ (r < 0 ∨ (0 ≤ r ∧ r ≤ n ∧ hostLe 1048576 x)) := by
  obtain ⟨a1, a2, a3, a4⟩ := h
  unfold F_laws_szHost
  simp only [ltI_eq, decide_eq_true_eq]
  obtain ⟨r1, e1, c1⟩ := szPol_eq x.1 n h0 h1 a1
  rw [e1, Option.bind_some]
  by_cases d1 : r1 < 0
  · exact ⟨-1, by rw [if_pos d1], .inl (by omega)⟩
  rw [if_neg d1]
  have c1 := c1.resolve_left d1
  obtain ⟨r2, e2, c2⟩ := szInt_eq x.2.1 r1 (by omega) (by omega) a2
  rw [e2, Option.bind_some]
  by_cases d2 : r2 < 0
  · exact ⟨-1, by rw [if_pos d2], .inl (by omega)⟩
  rw [if_neg d2]
  have c2 := c2.resolve_left d2
  obtain ⟨r3, e3, c3⟩ := szHarts_eq x.2.2.1 r2 (by omega) (by omega) a3 a4
  rw [e3, Option.bind_some]
  by_cases d3 : r3 < 0
  · exact ⟨-1, by rw [if_pos d3], .inl (by omega)⟩
  rw [if_neg d3]
  have c3 := c3.resolve_left d3
  exact ⟨r3, rfl, .inr ⟨by omega, by omega, c1.2.2, c2.2.2, c3.2.2.1, c3.2.2.2⟩⟩

theorem toHarts_eq (m : List HartD) (h : m.length ≤ 1048576) (h2 : ∀ l ∈ m, hartLe 1048576 l) : F_laws_toHartS (m, ()) = some ((m, ()), ()) :=
  toS_thm (by_ := 120) (F := F_laws_toHartS) (step := l_laws_toHartS_3) (f := fun y => F_laws_toHart (y, ())) (g := fun r => r.1.1) (fun _ => rfl) (fun _ => rfl) (fun _ _ _ _ => rfl) (by omega) m h fun y hy => ⟨_, toHart_eq y (h2 y hy), rfl⟩

theorem toHost_eq (x : HostD) (h : hostLe 1048576 x) : F_laws_toHost (x, ()) = some (((x.1.1, x.1.2.1, x.1.2.2.1, x.1.2.2.2.1, x.2.1, x.2.2.1, x.2.2.2.1, x.2.2.2.2.1, x.2.2.2.2.2.1, ()), ()), ()) := by
  obtain ⟨a1, a2, a3, a4⟩ := h
  unfold F_laws_toHost
  rw [toPol_eq x.1 a1, Option.bind_some, toInt64S_eq x.2.1 (le8 a2), Option.bind_some, toHarts_eq x.2.2.1 a3 a4, Option.bind_some]

theorem eqHarts_eq (m : List HartD) (h : m.length ≤ 1048576) (h2 : ∀ l ∈ m, hartLe 1048576 l) : F_laws_eqHartS (m, m, ()) = some ((true, ()), ()) :=
  eqS_thm (F := F_laws_eqHartS) (step := l_laws_eqHartS_4) (f := fun y y' => F_laws_eqHart (y, y', ())) (fun _ => rfl) (fun _ => rfl) (fun _ _ _ _ => rfl) m (leMax h) fun y hy => eqHart_eq y (h2 y hy)

theorem eqHost_eq (x : HostD) (h : hostLe 1048576 x) : F_laws_eqHost (x, x, ()) = some ((true, ()), ()) := by
  obtain ⟨a1, a2, a3, a4⟩ := h
  unfold F_laws_eqHost
  rw [eqPol_eq x.1 a1, Option.bind_some, if_neg (by simp), eqInt64S_eq x.2.1 (leM a2), Option.bind_some, if_neg (by simp), eqHarts_eq x.2.2.1 a3 a4, Option.bind_some, if_neg (by simp), if_neg (by simp), if_neg (by simp), if_neg (by simp)]

theorem inR_hart {h : HartD} (hh : inR (.pair (.slice (.int .i64)) (.pair (.int .i64) (.pair (.slice (.int .i64)) (.pair .bool (.pair .bool (.pair .bool (.pair (.int .i64) (.pair (.slice (.int .i64)) (.pair (.slice (.int .i64)) .unit))))))))) h) : hartLe maxLen h :=
  ⟨hh.1.1, hh.2.2.1.1, hh.2.2.2.2.2.2.2.1.1, hh.2.2.2.2.2.2.2.2.1.1⟩

theorem host_pol {x : HostD} (h : hostM x = 0) : polM x.1 = 0 := by
  unfold hostM at h
  split at h
  · rename_i h'; exact absurd h h'
  · rename_i h'; simpa using h'

theorem markS_loop {α E : Type} {step : ((Unit × Int × Int × Unit) × Unit × List α × Unit → Option (((Int × Unit) × Unit × List α × Unit) ⊕ E)) → (Unit × Int × Int × Unit) × Unit × List α × Unit → Option (((Int × Unit) × Unit × List α × Unit) ⊕ E)}
    (P : List α → Prop) (d : Nat)
    (h1 : ∀ rec (xs : List α) (i : Nat) (k : Int), i < xs.length → 0 ≤ k → k ≤ 1152921504606846976 → P xs → ∃ k' xs', step rec (((), k, ((i : Nat) : Int), ()), (), xs, ()) = rec (((), k', ((i + 1 : Nat) : Int), ()), (), xs', ()) ∧ xs'.length = xs.length ∧ k ≤ k' ∧ k' ≤ k + (d : Int) ∧ P xs')
    (h2 : ∀ rec (xs : List α) (k : Int), step rec (((), k, ((xs.length : Nat) : Int), ()), (), xs, ()) = some (.inl ((k, ()), (), xs, ()))) :
    ∀ (n fuel : Nat) (xs : List α) (i : Nat) (k : Int), xs.length - i = n → i ≤ xs.length → n < fuel → 0 ≤ k → k + ((n * d : Nat) : Int) ≤ 1152921504606846976 → P xs →
      ∃ k' xs', iterF step fuel (((), k, ((i : Nat) : Int), ()), (), xs, ()) = some (.inl ((k', ()), (), xs', ())) ∧ xs'.length = xs.length ∧ k ≤ k' ∧ k' ≤ k + ((n * d : Nat) : Int) ∧ P xs' := by
  intro n
  induction n with
  | zero =>
    intro fuel xs i k hn hi hf hk hb hP
    obtain ⟨f, rfl⟩ : ∃ f, fuel = f + 1 := ⟨fuel - 1, by omega⟩
    have e : i = xs.length := by omega
    subst e
    exact ⟨k, xs, by rw [iter_s, h2], rfl, Int.le_refl _, by omega, hP⟩
  | succ n ih =>
    intro fuel xs i k hn hi hf hk hb hP
    obtain ⟨f, rfl⟩ : ∃ f, fuel = f + 1 := ⟨fuel - 1, by omega⟩
    rw [Nat.succ_mul] at hb
    obtain ⟨k1, xs1, e1, e2, e3, e4, e5⟩ := h1 (iterF step f) xs i k (by omega) hk (by omega) hP
    obtain ⟨k2, xs2, g1, g2, g3, g4, g5⟩ := ih f xs1 (i + 1) k1 (by omega) (by omega) (by omega) (by omega) (by omega) e5
    refine ⟨k2, xs2, by rw [iter_s, e1, g1], by omega, by omega, ?_, g5⟩
    rw [Nat.succ_mul]; omega

/-- What marks of a row come to. -/
theorem markS_thm {α E : Type} {F : List α × Int × Unit → Option ((Int × Unit) × List α × Unit)} {step : ((Unit × Int × Int × Unit) × Unit × List α × Unit → Option (((Int × Unit) × Unit × List α × Unit) ⊕ E)) → (Unit × Int × Int × Unit) × Unit × List α × Unit → Option (((Int × Unit) × Unit × List α × Unit) ⊕ E)}
    (hF : ∀ xs k z, iterF step lots (((), k, (0 : Int), ()), (), xs, ()) = some (.inl z) → F (xs, k, ()) = if (xs.length == z.2.2.1.length && true) = true then some ((z.1.1, ()), (z.2.2.1, ())) else none)
    (P : List α → Prop) (d : Nat)
    (h1 : ∀ rec (xs : List α) (i : Nat) (k : Int), i < xs.length → 0 ≤ k → k ≤ 1152921504606846976 → P xs → ∃ k' xs', step rec (((), k, ((i : Nat) : Int), ()), (), xs, ()) = rec (((), k', ((i + 1 : Nat) : Int), ()), (), xs', ()) ∧ xs'.length = xs.length ∧ k ≤ k' ∧ k' ≤ k + (d : Int) ∧ P xs')
    (h2 : ∀ rec (xs : List α) (k : Int), step rec (((), k, ((xs.length : Nat) : Int), ()), (), xs, ()) = some (.inl ((k, ()), (), xs, ())))
    (xs : List α) (k : Int) (hl : xs.length ≤ 1048576) (hd : d ≤ 8388608) (hP : P xs) (hk : 0 ≤ k) (hk2 : k ≤ 576460752303423488) :
    ∃ k' xs', F (xs, k, ()) = some ((k', ()), (xs', ())) ∧ xs'.length = xs.length ∧ k ≤ k' ∧ k' ≤ k + 8796093022208 := by
  have hm : xs.length * d ≤ 1048576 * 8388608 := Nat.mul_le_mul hl hd
  obtain ⟨k', xs', e1, e2, e3, e4, _⟩ := markS_loop P d h1 h2 xs.length lots xs 0 k (by omega) (by omega) (by rw [lots_eq]; omega) hk (by omega) hP
  refine ⟨k', xs', ?_, e2, e3, by omega⟩
  have e0 : ((0 : Nat) : Int) = 0 := rfl
  rw [hF xs k _ e1]
  dsimp only
  rw [if_pos (by rw [e2]; simp)]

theorem mark_more {row : List Int} {k : Int} (h3 : row.length ≤ 1048576) (h0 : 0 ≤ k) (hk : k ≤ 1152921504616846976) :
    ∃ k' : Int, ∃ row' : List Int, F_laws_markInt64S (row, k, ()) = some ((k', ()), (row', ())) ∧ row'.length = row.length ∧ k ≤ k' ∧ k' ≤ k + 1048576 :=
  ⟨_, _, mark_eq row k h3 ⟨h0, by omega⟩, seqFrom_len .., Int.le_add_of_nonneg_right nat0, Int.add_le_add_left (by omega) k⟩

theorem ok_of_mark {row : List Int} {k : Int} (h3 : row.length ≤ 1048576) (hk : 0 ≤ k ∧ k ≤ 1152921504606846976) :
    ∃ k' : Int, ∃ row' : List Int, F_laws_markInt64S (row, k, ()) = some ((k', ()), (row', ())) ∧ row'.length = row.length ∧ k ≤ k' ∧ k' ≤ k + 1048576 := mark_more h3 hk.1 (by omega)

theorem wrap1 {k : Int} (h0 : 0 ≤ k) (h1 : k ≤ 1152921504616846976) : IntKind.i64.wrap (k + 1) = k + 1 := wrap64 (by omega) (by omega)

theorem mem_set_le {α : Type} {P : α → Prop} {xs : List α} {i : Nat} {y : α} (h : ∀ z ∈ xs, P z) (hy : P y) : ∀ z ∈ xs.set i y, P z := by
  intro z hz
  rcases List.mem_or_eq_of_mem_set hz with h1 | h1
  · exact h z h1
  · rw [h1]; exact hy

theorem markInts_ok (xs : List (List Int)) (k : Int) (hl : xs.length ≤ 1048576) (h : ∀ y ∈ xs, y.length ≤ 1048576) (hk : 0 ≤ k) (hk2 : k ≤ 576460752303423488) :
    ∃ k' : Int, ∃ xs', F_laws_markInt64SS (xs, k, ()) = some ((k', ()), (xs', ())) ∧ xs'.length = xs.length ∧ k ≤ k' ∧ k' ≤ k + 8796093022208 := by
  refine markS_thm (F := F_laws_markInt64SS) (step := l_laws_markInt64SS_2) (fun xs k z h => by unfold F_laws_markInt64SS L_laws_markInt64SS_2; dsimp only; rw [h]; rfl) (fun xs => xs.length ≤ 1048576 ∧ ∀ y ∈ xs, y.length ≤ 1048576) 1048576 ?_ ?_ xs k hl (by omega) ⟨hl, h⟩ hk hk2
  · rintro rec xs i k hi h0 hk ⟨hP, hP2⟩
    obtain ⟨k1, r1, e1, e2, e3, e4⟩ := ok_of_mark (hP2 _ (List.getElem_mem hi)) ⟨h0, hk⟩
    refine ⟨k1, xs.set i r1, ?_, by simp, e3, by omega, by simpa using hP, mem_set_le hP2 (by rw [e2]; exact hP2 _ (List.getElem_mem hi))⟩
    unfold l_laws_markInt64SS_2
    dsimp only
    rw [if_pos (lt_t hi), if_pos ⟨nat0, Int.ofNat_lt.2 hi⟩, at_get hi, at_get hi, e1, Option.bind_some]
    dsimp only
    rw [if_pos e2, wrapS (by omega), Int.toNat_natCast]
  · intro rec xs k
    unfold l_laws_markInt64SS_2
    dsimp only
    rw [if_neg lt_same]

theorem markLanes_ok (xs : List LaneD) (k : Int) (hl : xs.length ≤ 1048576) (hk : 0 ≤ k) (hk2 : k ≤ 576460752303423488) :
    ∃ k' : Int, ∃ xs', F_laws_markLaneS (xs, k, ()) = some ((k', ()), (xs', ())) ∧ xs'.length = xs.length ∧ k ≤ k' ∧ k' ≤ k + 8796093022208 := by
  refine markS_thm (F := F_laws_markLaneS) (step := l_laws_markLaneS_2) (fun xs k z h => by unfold F_laws_markLaneS L_laws_markLaneS_2; dsimp only; rw [h]; rfl) (fun xs => xs.length ≤ 1048576) 5 ?_ ?_ xs k hl (by omega) hl hk hk2
  · rintro rec xs i k hi h0 hk hP
    have w1 : IntKind.i64.wrap (k + 1) = k + 1 := wrap1 h0 (by omega)
    have w2 : IntKind.i64.wrap (k + 1 + 1) = k + 1 + 1 := wrap1 (by omega) (by omega)
    have w3 : IntKind.i64.wrap (k + 1 + 1 + 1) = k + 1 + 1 + 1 := wrap1 (by omega) (by omega)
    have w4 : IntKind.i64.wrap (k + 1 + 1 + 1 + 1) = k + 1 + 1 + 1 + 1 := wrap1 (by omega) (by omega)
    have w5 : IntKind.i64.wrap (k + 1 + 1 + 1 + 1 + 1) = k + 1 + 1 + 1 + 1 + 1 := wrap1 (by omega) (by omega)
    have wi : IntKind.i64.wrap ((i : Int) + 1) = ((i + 1 : Nat) : Int) := wrapS (by omega)
    have c : ((i : Nat) : Int) < ((xs.length : Nat) : Int) := by omega
    have c0 : (0 : Int) ≤ ((i : Nat) : Int) := nat0
    refine ⟨k + 1 + 1 + 1 + 1 + 1, xs.set i (k, k + 1, k + 1 + 1, k + 1 + 1 + 1, k + 1 + 1 + 1 + 1, ()), ?_, by simp, by omega, by omega, by simpa using hP⟩
    unfold l_laws_markLaneS_2
    dsimp only
    rw [if_pos (lt_t hi)]
    simp only [List.length_set, c, c0, and_self, if_true, Int.toNat_natCast, List.getElem?_eq_getElem hi, Option.bind_some, w1, w2, w3, w4, w5, wi, List.getElem?_set_self', Option.map_eq_map, Option.map_some, Function.const_apply, List.set_set]
  · intro rec xs k
    unfold l_laws_markLaneS_2
    dsimp only
    rw [if_neg lt_same]

theorem markBells_ok (xs : List TwoD) (k : Int) (hl : xs.length ≤ 1048576) (hk : 0 ≤ k) (hk2 : k ≤ 576460752303423488) :
    ∃ k' : Int, ∃ xs', F_laws_markBellS (xs, k, ()) = some ((k', ()), (xs', ())) ∧ xs'.length = xs.length ∧ k ≤ k' ∧ k' ≤ k + 8796093022208 := by
  refine markS_thm (F := F_laws_markBellS) (step := l_laws_markBellS_2) (fun xs k z h => by unfold F_laws_markBellS L_laws_markBellS_2; dsimp only; rw [h]; rfl) (fun xs => xs.length ≤ 1048576) 5 ?_ ?_ xs k hl (by omega) hl hk hk2
  · rintro rec xs i k hi h0 hk hP
    have w1 : IntKind.i64.wrap (k + 1) = k + 1 := wrap1 h0 (by omega)
    have w2 : IntKind.i64.wrap (k + 1 + 1) = k + 1 + 1 := wrap1 (by omega) (by omega)
    have wi : IntKind.i64.wrap ((i : Int) + 1) = ((i + 1 : Nat) : Int) := wrapS (by omega)
    have c : ((i : Nat) : Int) < ((xs.length : Nat) : Int) := Int.ofNat_lt.2 hi
    have c0 : (0 : Int) ≤ ((i : Nat) : Int) := nat0
    refine ⟨k + 1 + 1, xs.set i (k, k + 1, ()), ?_, by simp, by omega, by omega, by simpa using hP⟩
    unfold l_laws_markBellS_2
    dsimp only
    rw [if_pos (lt_t hi)]
    simp only [List.length_set, c, c0, and_self, if_true, Int.toNat_natCast, List.getElem?_eq_getElem hi, Option.bind_some, w1, w2, wi, List.getElem?_set_self', Option.map_eq_map, Option.map_some, Function.const_apply, List.set_set]
  · intro rec xs k
    unfold l_laws_markBellS_2
    dsimp only
    rw [if_neg lt_same]

theorem markSlots_ok (xs : List TwoD) (k : Int) (hl : xs.length ≤ 1048576) (hk : 0 ≤ k) (hk2 : k ≤ 576460752303423488) :
    ∃ k' : Int, ∃ xs', F_laws_markSlotS (xs, k, ()) = some ((k', ()), (xs', ())) ∧ xs'.length = xs.length ∧ k ≤ k' ∧ k' ≤ k + 8796093022208 := by
  refine markS_thm (F := F_laws_markSlotS) (step := l_laws_markSlotS_2) (fun xs k z h => by unfold F_laws_markSlotS L_laws_markSlotS_2; dsimp only; rw [h]; rfl) (fun xs => xs.length ≤ 1048576) 5 ?_ ?_ xs k hl (by omega) hl hk hk2
  · rintro rec xs i k hi h0 hk hP
    have w1 : IntKind.i64.wrap (k + 1) = k + 1 := wrap1 h0 (by omega)
    have w2 : IntKind.i64.wrap (k + 1 + 1) = k + 1 + 1 := wrap1 (by omega) (by omega)
    have wi : IntKind.i64.wrap ((i : Int) + 1) = ((i + 1 : Nat) : Int) := wrapS (by omega)
    have c : ((i : Nat) : Int) < ((xs.length : Nat) : Int) := Int.ofNat_lt.2 hi
    have c0 : (0 : Int) ≤ ((i : Nat) : Int) := nat0
    refine ⟨k + 1 + 1, xs.set i (k, k + 1, ()), ?_, by simp, by omega, by omega, by simpa using hP⟩
    unfold l_laws_markSlotS_2
    dsimp only
    rw [if_pos (lt_t hi)]
    simp only [List.length_set, c, c0, and_self, if_true, Int.toNat_natCast, List.getElem?_eq_getElem hi, Option.bind_some, w1, w2, wi, List.getElem?_set_self', Option.map_eq_map, Option.map_some, Function.const_apply, List.set_set]
  · intro rec xs k
    unfold l_laws_markSlotS_2
    dsimp only
    rw [if_neg lt_same]

theorem markPol_ok (p : PolD) (k : Int) (h : polLe 1048576 p) (hk : 0 ≤ k) (hk2 : k ≤ 288230376151711744) :
    ∃ k' : Int, ∃ p', F_laws_markPolicy ((p.1, p.2.1, p.2.2.1, p.2.2.2.1, ()), k, ()) = some ((k', ()), (p', ())) ∧ (p'.1.length = p.1.length ∧ p'.2.1.length = p.2.1.length ∧ p'.2.2.1.length = p.2.2.1.length ∧ p'.2.2.2.1.length = p.2.2.2.1.length) ∧ k ≤ k' ∧ k' ≤ k + 35184372088832 := by
  obtain ⟨⟨h1, h1'⟩, h2, h3, h4⟩ := h
  obtain ⟨k1, x1, a1, b1, c1, d1⟩ := markInts_ok p.1 k h1 h1' hk (by omega)
  obtain ⟨k2, x2, a2, b2, c2, d2⟩ := markLanes_ok p.2.1 k1 h2 (by omega) (by omega)
  obtain ⟨k3, x3, a3, b3, c3, d3⟩ := markBells_ok p.2.2.1 k2 h3 (by omega) (by omega)
  obtain ⟨k4, x4, a4, b4, c4, d4⟩ := markSlots_ok p.2.2.2.1 k3 h4 (by omega) (by omega)
  refine ⟨k4, (x1, x2, x3, x4, ()), ?_, ⟨b1, b2, b3, b4⟩, by omega, by omega⟩
  unfold F_laws_markPolicy
  dsimp only
  rw [a1, Option.bind_some]
  dsimp only
  rw [if_pos (by rw [b1]; simp), a2, Option.bind_some]
  dsimp only
  rw [if_pos (by rw [b2]; simp), a3, Option.bind_some]
  dsimp only
  rw [if_pos (by rw [b3]; simp), a4, Option.bind_some]
  dsimp only
  rw [if_pos (by rw [b4]; simp), if_pos (by rw [b1, b2, b3, b4]; simp)]

theorem markHarts_ok (xs : List HartD) (k : Int) (hl : xs.length ≤ 1048576) (h : ∀ y ∈ xs, hartLe 1048576 y) (hk : 0 ≤ k) (hk2 : k ≤ 576460752303423488) :
    ∃ k' : Int, ∃ xs', F_laws_markHartS (xs, k, ()) = some ((k', ()), (xs', ())) ∧ xs'.length = xs.length ∧ k ≤ k' ∧ k' ≤ k + 8796093022208 := by
  refine markS_thm (F := F_laws_markHartS) (step := l_laws_markHartS_2) (fun xs k z h => by unfold F_laws_markHartS L_laws_markHartS_2; dsimp only; rw [h]; rfl) (fun xs => xs.length ≤ 1048576 ∧ ∀ y ∈ xs, hartLe 1048576 y) 5242880 ?_ ?_ xs k hl (by omega) ⟨hl, h⟩ hk hk2
  · rintro rec xs i k hi h0 hk ⟨hP, hP2⟩
    have hy := hP2 _ (List.getElem_mem hi)
    generalize hg : xs[i] = y at hy
    obtain ⟨y1, y2, y3, y4⟩ := hy
    obtain ⟨k1, r1, e1, l1, g1, g1'⟩ := ok_of_mark (row := y.1) (k := k) y1 ⟨h0, hk⟩
    have w1 : IntKind.i64.wrap (k1 + 1) = k1 + 1 := wrap1 (by omega) (by omega)
    obtain ⟨k2, r2, e2, l2, g2, g2'⟩ := mark_more (row := y.2.2.1) (k := k1 + 1) y2 (by omega) (by omega)
    have w2 : IntKind.i64.wrap (k2 + 1) = k2 + 1 := wrap1 (by omega) (by omega)
    have w3 : IntKind.i64.wrap (k2 + 1 + 1) = k2 + 1 + 1 := wrap1 (by omega) (by omega)
    have w4 : IntKind.i64.wrap (k2 + 1 + 1 + 1) = k2 + 1 + 1 + 1 := wrap1 (by omega) (by omega)
    have w5 : IntKind.i64.wrap (k2 + 1 + 1 + 1 + 1) = k2 + 1 + 1 + 1 + 1 := wrap1 (by omega) (by omega)
    obtain ⟨k3, r3, e3, l3, g3, g3'⟩ := mark_more (row := y.2.2.2.2.2.2.2.1) (k := k2 + 1 + 1 + 1 + 1) y3 (by omega) (by omega)
    obtain ⟨k4, r4, e4, l4, g4, g4'⟩ := mark_more (row := y.2.2.2.2.2.2.2.2.1) (k := k3) y4 (by omega) (by omega)
    have wi : IntKind.i64.wrap ((i : Int) + 1) = ((i + 1 : Nat) : Int) := wrapS (by omega)
    have c : ((i : Nat) : Int) < ((xs.length : Nat) : Int) := Int.ofNat_lt.2 hi
    have c0 : (0 : Int) ≤ ((i : Nat) : Int) := nat0
    have hget : xs[i]? = some y := by rw [List.getElem?_eq_getElem hi, hg]
    refine ⟨k4, xs.set i (r1, k1, r2, (k2.tmod 3 == 0), ((k2 + 1).tmod 3 == 0), ((k2 + 1 + 1).tmod 3 == 0), k2 + 1 + 1 + 1, r3, r4, ()), ?_, by simp, by omega, by omega, by simpa using hP, mem_set_le hP2 ⟨by rw [l1]; exact y1, by rw [l2]; exact y2, by rw [l3]; exact y3, by rw [l4]; exact y4⟩⟩
    unfold l_laws_markHartS_2
    dsimp only
    rw [if_pos (lt_t hi)]
    simp only [List.length_set, c, c0, and_self, if_true, Int.toNat_natCast, hget, Option.bind_some, e1, l1, w1, e2, l2, w2, w3, w4, w5, e3, l3, e4, l4, wi, List.getElem?_set_self', Option.map_eq_map, Option.map_some, Function.const_apply, List.set_set]
  · intro rec xs k
    unfold l_laws_markHartS_2
    dsimp only
    rw [if_neg lt_same]

theorem markHost_ok (x : HostD) (k : Int) (h : hostLe 1048576 x) (hk : 0 ≤ k) (hk2 : k ≤ 1048576) :
    ∃ k' : Int, ∃ x', F_laws_markHost ((x.1.1, x.1.2.1, x.1.2.2.1, x.1.2.2.2.1, x.2.1, x.2.2.1, x.2.2.2.1, x.2.2.2.2.1, x.2.2.2.2.2.1, ()), k, ()) = some ((k', ()), (x', ())) ∧
      (x'.1.length = x.1.1.length ∧ x'.2.1.length = x.1.2.1.length ∧ x'.2.2.1.length = x.1.2.2.1.length ∧ x'.2.2.2.1.length = x.1.2.2.2.1.length ∧ x'.2.2.2.2.1.length = x.2.1.length ∧ x'.2.2.2.2.2.1.length = x.2.2.1.length) ∧ k ≤ k' ∧ k' ≤ 1125899906842624 := by
  obtain ⟨hp, h2, h3, h4⟩ := h
  obtain ⟨k1, p1, a1, ⟨b1, b2, b3, b4⟩, c1, d1⟩ := markPol_ok x.1 k hp hk (by omega)
  obtain ⟨k2, x2, a2, e2, c2, d2⟩ := mark_more (row := x.2.1) (k := k1) h2 (by omega) (by omega)
  obtain ⟨k3, x3, a3, e3, c3, d3⟩ := markHarts_ok x.2.2.1 k2 h3 h4 (by omega) (by omega)
  refine ⟨k3, (p1.1, p1.2.1, p1.2.2.1, p1.2.2.2.1, x2, x3, ()), ?_, ⟨b1, b2, b3, b4, e2, e3⟩, by omega, by omega⟩
  unfold F_laws_markHost
  dsimp only
  rw [a1, Option.bind_some]
  dsimp only
  rw [if_pos (by rw [b1, b2, b3, b4]; simp), a2, Option.bind_some]
  dsimp only
  rw [if_pos (by rw [e2]; simp), a3, Option.bind_some]
  dsimp only
  rw [if_pos (by rw [e3]; simp), if_pos (by rw [b1, b2, b3, b4, e2, e3]; simp)]

def stepsOk (x : HostD) (n : Int) : Bool := inB n 0 200 && leI (IntKind.i64.wrap (x.2.2.2.2.2.1 + n)) 1000000

theorem specSteps_eq (x : HostD) (n : Int) : F_spec_l16Steps (x, n, ()) = some ((stepsOk x n, ()), ()) := by
  unfold F_spec_l16Steps stepsOk
  dsimp only
  rw [l1In_eq2, Option.bind_some]
  dsimp only
  cases inB n 0 200
  · rw [if_neg (by simp)]; rfl
  · rw [if_pos rfl]; rfl

theorem stepsAny_eq (x : HostD) (n : Int) : F_slices_ContainsFunc_impl_Host_of_impl_stepsFault_1 ([x], (n, ()), ()) = some ((!leI (IntKind.i64.wrap (x.2.2.2.2.2.1 + n)) 1000000, ()), ()) := by
  have e1 : F_impl_stepsFault_1 (x, n, ()) = some ((ltI 1000000 (IntKind.i64.wrap (x.2.2.2.2.2.1 + n)), ()), ()) := rfl
  have e2 : (!leI (IntKind.i64.wrap (x.2.2.2.2.2.1 + n)) 1000000) = ltI 1000000 (IntKind.i64.wrap (x.2.2.2.2.2.1 + n)) := by
    unfold leI; cases ltI 1000000 (IntKind.i64.wrap (x.2.2.2.2.2.1 + n)) <;> rfl
  rw [e2]
  have r2 : ∀ f, iterF l_slices_IndexFunc_impl_Host_of_impl_stepsFault_1_2 (f + 1) (([x], (n, ()), 1, 1, ()), (), ()) = some (.inl ((), (), ())) := by
    intro f
    rw [iter_s]
    unfold l_slices_IndexFunc_impl_Host_of_impl_stepsFault_1_2
    dsimp only
    rw [if_neg (show ¬ ltI 1 1 = true from by decide)]
  have r1 : iterF l_slices_IndexFunc_impl_Host_of_impl_stepsFault_1_2 lots (([x], (n, ()), 1, 0, ()), (), ()) = if ltI 1000000 (IntKind.i64.wrap (x.2.2.2.2.2.1 + n)) = true then some (.inr (.inl ((0, ()), (), ()))) else some (.inl ((), (), ())) := by
    rw [lots3, iter_s]
    have r2' := r2 (18446744073709551613 + 1)
    generalize iterF l_slices_IndexFunc_impl_Host_of_impl_stepsFault_1_2 (18446744073709551613 + 1 + 1) = rec at r2' ⊢
    unfold l_slices_IndexFunc_impl_Host_of_impl_stepsFault_1_2
    dsimp only
    rw [if_pos (show ltI 0 1 = true from by decide), if_pos (show (0 : Int) ≤ 0 by omega)]
    have e3 : ([x] : List HostD)[(0 : Int).toNat]? = some x := rfl
    rw [e3, Option.bind_some, e1, Option.bind_some]
    dsimp only
    cases ltI 1000000 (IntKind.i64.wrap (x.2.2.2.2.2.1 + n))
    · rw [if_neg (by simp), if_neg (by simp)]
      exact r2'
    · rw [if_pos rfl, if_pos rfl]
  unfold F_slices_ContainsFunc_impl_Host_of_impl_stepsFault_1 F_slices_IndexFunc_impl_Host_of_impl_stepsFault_1
  show ((iterF l_slices_IndexFunc_impl_Host_of_impl_stepsFault_1_2 lots (([x], (n, ()), 1, 0, ()), (), ())).bind _).bind _ = _
  rw [r1]
  cases ltI 1000000 (IntKind.i64.wrap (x.2.2.2.2.2.1 + n)) <;> rfl

theorem implSteps_eq (x : HostD) (n : Int) : F_impl_stepsFault (n, [x], ()) = some ((if stepsOk x n = true then 0 else 3, ()), ()) := by
  unfold F_impl_stepsFault stepsOk
  dsimp only
  rw [within_eq2, Option.bind_some]
  dsimp only
  cases inB n 0 200
  · rw [if_neg (by simp), if_neg (by simp)]
  · rw [if_pos (show (!true) = false from rfl), stepsAny_eq, Option.bind_some]
    dsimp only
    cases leI (IntKind.i64.wrap (x.2.2.2.2.2.1 + n)) 1000000 <;> rfl

def guestAt (p : PolD) (c : Int) : Int := match (p.2.2.2.1)[(turnM p c).1.toNat]? with
  | some s => s.1
  | none => 0

theorem turn_at {p : PolD} {c : Int} (hok : OkPol p) (h0 : 0 ≤ c) : 0 ≤ (turnM p c).1 ∧ ∃ s, (p.2.2.2.1)[(turnM p c).1.toNat]? = some s ∧ guestAt p c = s.1 := by
  obtain ⟨hl, hs⟩ := hok.okPlan
  have hpos := stepsM_pos hs hok.plan.1
  have a0 : 0 ≤ c % stepsM (-1) p.2.2.2.1 := Int.emod_nonneg _ (by omega)
  have a1 : c % stepsM (-1) p.2.2.2.1 < stepsM (-1) p.2.2.2.1 := Int.emod_lt_of_pos _ (by omega)
  obtain ⟨_, s, g1, _⟩ := turnEnd_spec (k := 0) hs a0 a1
  rw [Nat.sub_zero] at g1
  refine ⟨nat0, s, by show (p.2.2.2.1)[((_ : Nat) : Int).toNat]? = _; rw [Int.toNat_natCast]; exact g1, ?_⟩
  unfold guestAt
  have : (p.2.2.2.1)[(turnM p c).1.toNat]? = some s := by show (p.2.2.2.1)[((_ : Nat) : Int).toNat]? = _; rw [Int.toNat_natCast]; exact g1
  rw [this]

def traceL (p : PolD) (c : Int) : Nat → List Int
  | 0 => []
  | n + 1 => guestAt p c :: traceL p (c + 1) n

theorem traceL_len (p : PolD) : ∀ (n : Nat) (c : Int), (traceL p c n).length = n
  | 0, _ => rfl
  | n + 1, c => by simp only [traceL, List.length_cons, traceL_len p n]

def traceM (x : HostD) (n : Int) : Int × List Int × Unit :=
  if hostM x ≠ 0 then (hostM x, [], ()) else if stepsOk x n = true then (0, traceL x.1 x.2.2.2.2.2.1 n.toNat, ()) else (3, [], ())

theorem traceM_len (x : HostD) (n : Int) : (traceM x n).2.1.length ≤ 1048576 := by
  unfold traceM
  split
  · simp
  · split
    · rename_i h
      unfold stepsOk at h
      have h := inB_t.1 (Bool.and_eq_true_iff.1 h).1
      show (traceL _ _ _).length ≤ _
      rw [traceL_len]; omega
    · simp

theorem hartsM_ne {m : List HartD} {c : Int} (h : hartsM m = some c) : c ≠ 0 := scan_le (P := fun c => c ≠ 0) (fun j hj c hc => nz_ne hc) c h

theorem host_clock {x : HostD} (h : hostM x = 0) : 0 ≤ x.2.2.2.2.2.1 ∧ x.2.2.2.2.2.1 ≤ 1000000 := by
  have hp := host_pol h
  unfold hostM at h
  rw [if_neg (by simpa using hp)] at h
  split at h
  · split at h
    · rename_i c hc; exact absurd h (hartsM_ne hc)
    · split at h
      · rename_i h1; exact inB_t.1 h1
      · cases h
  · cases h

theorem specTrace_eq (x : HostD) (n : Int) (h : hostLe 1048576 x) : F_spec_TraceOf (x, n, ()) = some ((traceM x n, ()), ()) := by
  unfold F_spec_TraceOf traceM
  dsimp only
  rw [specHost_eq x h, Option.bind_some]
  dsimp only
  by_cases h0 : hostM x = 0
  case neg => rw [if_pos (by simpa using h0), if_pos h0]
  rw [if_neg (by simpa using h0), if_neg (by simpa using h0), specSteps_eq, Option.bind_some]
  dsimp only
  by_cases h1 : stepsOk x n = true
  case neg => rw [if_pos (by simpa using h1), if_neg h1]
  rw [if_neg (by simpa using h1), if_pos h1]
  have hok := okPol (host_pol h0)
  obtain ⟨c0, c1⟩ := host_clock h0
  obtain ⟨n0, n1⟩ := inB_t.1 (Bool.and_eq_true_iff.1 h1).1
  obtain ⟨N, rfl⟩ : ∃ N : Nat, n = (N : Int) := ⟨n.toNat, by omega⟩
  have key := loopN (step := l_spec_TraceOf_8) (γ := denO o_spec_TraceOf_8)
    (fun k (out : List Int) => (((N : Int), (), (), (), ((k : Nat) : Int), ()), ((x.1.1, x.1.2.1, x.1.2.2.1, x.1.2.2.2.1, x.2.1, x.2.2.1, x.2.2.2.1, x.2.2.2.2.1, x.2.2.2.2.2.1, ()), (0, [], ()), (0, out, ()), ()), ()))
    N (lots_gt' (by omega)) (fun k out => out.length = k)
    (fun k out => some (.inl (((), (), ()), ((0, [], ()), (0, out ++ traceL x.1 (x.2.2.2.2.2.1 + (k : Int)) (N - k), ()), ()), ()))) ?_ 0 [] (by omega) rfl
  · have e0 : ((0 : Nat) : Int) = 0 := rfl
    rw [e0, Int.add_zero, Nat.sub_zero, List.nil_append] at key
    show (iterF l_spec_TraceOf_8 lots _).bind _ = _
    rw [key, Option.bind_some, Int.toNat_natCast]
  · rintro rec k out hk hout ih
    unfold l_spec_TraceOf_8
    dsimp only
    by_cases hlt : k < N
    · obtain ⟨g0, s, g1, g2⟩ := turn_at (c := x.2.2.2.2.2.1 + (k : Int)) hok (by omega)
      rw [if_pos (lt_t hlt), wrap64 (n := x.2.2.2.2.2.1 + (k : Int)) (by omega) (by omega)]
      show (F_spec_l12Turn (x.1, _, ())).bind _ = _
      rw [specTurn_eq x.1 _ hok (by omega), Option.bind_some]
      dsimp only
      rw [if_pos g0, g1, Option.bind_some, if_pos (by simp only [List.length_cons, List.length_nil]; omega), wrapS (by omega)]
      rw [ih (out ++ [s.1]) hlt (by simp [hout])]
      have e1 : N - k = (N - (k + 1)) + 1 := by omega
      rw [e1, traceL, g2, List.append_assoc]
      have e2 : x.2.2.2.2.2.1 + ((k + 1 : Nat) : Int) = x.2.2.2.2.2.1 + (k : Int) + 1 := by omega
      rw [e2]; rfl
    · have e1 : N - k = 0 := by omega
      rw [if_neg (lt_f hlt), e1, traceL, List.append_nil]

theorem implTrace_eq (x : HostD) (n : Int) (h : hostLe 1048576 x) : F_impl_TraceOf (x, n, ()) = some ((traceM x n, ()), ()) := by
  unfold F_impl_TraceOf traceM
  dsimp only
  rw [implHost_eq x h, Option.bind_some, implSteps_eq, Option.bind_some, firstOf_eq, Option.bind_some]
  dsimp only
  by_cases h0 : hostM x = 0
  case neg =>
    have e1 : (if hostM x ≠ 0 then hostM x else if stepsOk x n = true then 0 else 3) = hostM x := if_pos h0
    rw [e1, if_pos (by simpa using h0), if_pos h0]
  have e1 : (if hostM x ≠ 0 then hostM x else if stepsOk x n = true then 0 else 3) = if stepsOk x n = true then (0 : Int) else 3 := if_neg (by simpa using h0)
  rw [e1, if_neg (c := hostM x ≠ 0) (by simpa using h0)]
  by_cases h1 : stepsOk x n = true
  case neg =>
    have e2 : (if stepsOk x n = true then (0 : Int) else 3) = 3 := if_neg h1
    rw [e2, if_pos (by decide), if_neg h1]
  have e2 : (if stepsOk x n = true then (0 : Int) else 3) = 0 := if_pos h1
  rw [e2, if_neg (by decide), if_pos h1]
  have hok := okPol (host_pol h0)
  obtain ⟨c0, c1⟩ := host_clock h0
  obtain ⟨n0, n1⟩ := inB_t.1 (Bool.and_eq_true_iff.1 h1).1
  obtain ⟨N, rfl⟩ : ∃ N : Nat, n = (N : Int) := ⟨n.toNat, by omega⟩
  have key := loopN (step := l_impl_TraceOf_6) (γ := denO o_impl_TraceOf_6)
    (fun k (out : List Int) => (((), (), out, (N : Int), ((k : Nat) : Int), ()), ((x.1.1, x.1.2.1, x.1.2.2.1, x.1.2.2.2.1, x.2.1, x.2.2.1, x.2.2.2.1, x.2.2.2.2.1, x.2.2.2.2.2.1, ()), (0, [], ()), ()), ()))
    N (lots_gt' (by omega)) (fun k out => out.length = k)
    (fun k out => some (.inl (((), out ++ traceL x.1 (x.2.2.2.2.2.1 + (k : Int)) (N - k), ()), ((0, [], ()), ()), ()))) ?_ 0 [] (by omega) rfl
  · have e0 : ((0 : Nat) : Int) = 0 := rfl
    rw [e0, Int.add_zero, Nat.sub_zero, List.nil_append] at key
    show (iterF l_impl_TraceOf_6 lots _).bind _ = _
    rw [key, Option.bind_some, Int.toNat_natCast]
  · rintro rec k out hk hout ih
    unfold l_impl_TraceOf_6
    dsimp only
    by_cases hlt : k < N
    · obtain ⟨g0, s, g1, g2⟩ := turn_at (c := x.2.2.2.2.2.1 + (k : Int)) hok (by omega)
      rw [if_pos (lt_t hlt), wrap64 (n := x.2.2.2.2.2.1 + (k : Int)) (by omega) (by omega)]
      show (F_impl_Policy_turnAt (x.1, _, ())).bind _ = _
      rw [implTurn_eq x.1 _ hok (by omega), Option.bind_some]
      dsimp only
      rw [if_pos g0, g1, Option.bind_some, if_pos (by simp only [List.length_cons, List.length_nil]; omega), wrapS (by omega)]
      rw [ih (out ++ [s.1]) hlt (by simp [hout])]
      have e1 : N - k = (N - (k + 1)) + 1 := by omega
      rw [e1, traceL, g2, List.append_assoc]
      have e2 : x.2.2.2.2.2.1 + ((k + 1 : Nat) : Int) = x.2.2.2.2.2.1 + (k : Int) + 1 := by omega
      rw [e2]; rfl
    · have e1 : N - k = 0 := by omega
      rw [if_neg (lt_f hlt), e1, traceL, List.append_nil]

theorem trace_law (x : HostD) (n : Int) (h : hostLe maxLen x) : F_laws_FnExactTraceOf (x, n, ()) = some ((true, ()), ()) := by
  unfold F_laws_FnExactTraceOf
  simp only [ltI_eq, decide_eq_true_eq]
  obtain ⟨r1, e1, c1⟩ := szHost_eq x 1048576 (by omega) (by omega) h
  rw [e1, Option.bind_some]
  by_cases d1 : r1 < 0
  · rw [if_pos d1]
  rw [if_neg d1]
  have hx := (c1.resolve_left d1).2.2
  have hl := traceM_len x n
  have he := eqInts_eq (traceM x n) (leM hl)
  rw [toHost_eq x hx, Option.bind_some]
  show (F_spec_TraceOf (x, n, ())).bind _ = _
  rw [specTrace_eq x n hx, Option.bind_some, Option.bind_some]
  show (F_impl_TraceOf (x, n, ())).bind _ = _
  rw [implTrace_eq x n hx, Option.bind_some]
  show (F_laws_eqIntsResult (traceM x n, traceM x n, ())).bind _ = _
  rw [he, Option.bind_some, if_neg (by simp), Option.bind_some]
  show (F_laws_eqHost (x, x, ())).bind _ = _
  rw [eqHost_eq x hx, Option.bind_some, if_neg (by simp)]
  obtain ⟨k', x', m1, ⟨b1, b2, b3, b4, b5, b6⟩, m2, m3⟩ := markHost_ok x 1 hx (by omega) (by omega)
  dsimp only
  rw [m1, Option.bind_some]
  dsimp only
  rw [if_pos (by rw [b1, b2, b3, b4, b5, b6]; simp), if_pos (by simp; omega)]
  rw [Option.bind_some, if_neg (by simp)]
  show (F_laws_markIntsResult (((traceM x n).1, (traceM x n).2.1, ()), 1, ())).bind _ = _
  rw [markInts_eq (traceM x n) 1 hl (by omega), Option.bind_some]
  have n2 : ((((traceM x n).2.1.length == (seqFrom 1 (traceM x n).2.1.length).length && true) && true) && true) = true := by simp [seqFrom_len]
  rw [if_pos n2, heldInts_eq _ _ 1 hl (by omega), Option.bind_some]
  have n3 : ¬ (1 + ((traceM x n).2.1.length : Int) < 0) := by omega
  rw [if_neg n3, if_neg (by simp), Option.bind_some]
  show (F_impl_TraceOf (x, n, ())).bind _ = _
  rw [implTrace_eq x n hx, Option.bind_some]
  show (F_laws_eqIntsResult (traceM x n, traceM x n, ())).bind _ = _
  rw [he, Option.bind_some, if_neg (by simp), Option.bind_some, if_neg n3, if_neg (by simp)]

theorem traceOf_F : ∀ x, inRP P_laws_FnExactTraceOf x → F_laws_FnExactTraceOf x = some ((true, ()), ()) := by
  rintro ⟨x, n, _⟩ ⟨hx, _⟩
  exact trace_law x n ⟨⟨⟨hx.1.1.1, fun l hl => (hx.1.1.2 l hl).1⟩, hx.1.2.1.1, hx.1.2.2.1.1, hx.1.2.2.2.1.1⟩, hx.2.1.1, hx.2.2.1.1, fun h hh => inR_hart (hx.2.2.1.2 h hh)⟩

end Go.Proofs.YtimbcpeilkaahaaGreat
