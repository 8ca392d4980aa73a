/- Plain laws of machines and hosts: what is not right with them; HostFault, RestOf. -/
import Derived.Test.YteddlkdbefloaaaPh
import Derived.Test.YteddlkdbefloaaaGf
namespace Go.Proofs.Yteddlkdbefloaaa
open Go Go.RowKit S Go.Proofs
set_option maxRecDepth 100000
set_option linter.unusedVariables false
set_option linter.unusedSimpArgs false

abbrev HostD := PolD × List Int × List HartD × Int × Int × Int × Unit

theorem at_lit {γ : Type} {m : List Int} {z : Int} (n : Nat) (hz : z.toNat = n) (h : n < m.length) (K : Int → Option γ) : (m[z.toNat]?).bind K = K (m.getD n 0) := by
  rw [hz, List.getElem?_eq_getElem h, Option.bind_some, List.getD_eq_getElem?_getD, List.getElem?_eq_getElem h]
  rfl

theorem l8Word_eq (n : Int) : F_spec_l8Word (n, ()) = some ((okW n, ()), ()) := by
  unfold F_spec_l8Word
  rw [l1In_eq, Option.bind_some]
  rfl

theorem any_all {α : Type} {p : α → Bool} : ∀ (m : List α), m.any (fun y => !p y) = !m.all p
  | [] => rfl
  | x :: r => by simp only [List.any_cons, List.all_cons, any_all r, Bool.not_and]

theorem l8All_eq (m : List Int) (hm : m.length ≤ 1048576) : F_spec_l8All (m, ()) = some ((allW m, ()), ()) := by
  have key := scan_loop (step := l_spec_l8All_2) (γ := denO o_spec_l8All_2) (fun i => ((m, ((i : Nat) : Int), ()), (), ())) m (fun _ y => if okW y = true then none else some ())
    (fun _ => some (.inr (.inl ((false, ()), (), ())))) (some (.inl ((), (), ()))) (leMax hm) ?_ ?_
  · have e0 : ((0 : Nat) : Int) = 0 := rfl
    rw [e0] at key
    have := scan_any (f := fun (_ : Nat) y => if okW y = true then none else some ()) (p := fun y => !okW y) (m := m) (i := 0) (fun j hj => by cases okW m[j] <;> rfl)
    rw [any_all] at this
    have e : allW m = !(scan (fun (_ : Nat) y => if okW y = true then none else some ()) 0 m).isSome := by rw [this, Bool.not_not]; rfl
    unfold F_spec_l8All
    show (iterF l_spec_l8All_2 lots ((m, 0, ()), (), ())).bind _ = _
    rw [key, e]
    cases scan (fun (_ : Nat) y => if okW y = true then none else some ()) 0 m <;> rfl
  · intro rec i h
    unfold l_spec_l8All_2
    dsimp only
    rw [if_pos (lt_t h), if_pos nat0, at_get h, l8Word_eq, Option.bind_some, wrapS (lt1 h hm)]
    cases okW m[i] <;> rfl
  · intro rec
    unfold l_spec_l8All_2
    dsimp only
    rw [if_neg lt_same]

/-! machines -/
def hartM (h : HartD) : Int :=
  if h.1.length = 16 ∧ h.2.2.1.length = 11 ∧ h.1.getD 0 0 = 0 then
    (if allW h.1 = true ∧ okW h.2.1 = true ∧ allW h.2.2.1 = true ∧ allW h.2.2.2.2.2.2.2.1 = true ∧ allW h.2.2.2.2.2.2.2.2.1 = true then
      (if h.2.2.2.2.2.2.2.1.length ≤ 40 ∧ h.2.2.2.2.2.2.2.2.1.length ≤ 40 then
        (if inB h.2.2.2.2.2.2.1 0 1000000000 = true then
          (if h.2.2.1.getD 0 0 ≤ 3 ∧ h.2.2.1.getD 7 0 ≤ 7 ∧ h.2.2.1.getD 10 0 ≤ 8 ∧ h.2.2.1.getD 6 0 = 0 ∧ h.2.2.1.getD 8 0 = 0 then 0 else 1) else 3) else 2) else 3) else 1

theorem specHart_eq (h : HartD) (hl : hartLe 1048576 h) : F_spec_l8Fault (h, ()) = some ((hartM h, ()), ()) := by
  obtain ⟨l1, l2, l3, l4⟩ := hl
  unfold F_spec_l8Fault hartM
  dsimp only
  by_cases a1 : h.1.length = 16
  case neg =>
    have : ¬ ((h.1.length : Nat) : Int) = 16 := by omega
    simp [a1, this]
  rw [if_pos (by rw [a1]; rfl)]
  by_cases a2 : h.2.2.1.length = 11
  case neg =>
    have : ¬ ((h.2.2.1.length : Nat) : Int) = 11 := by omega
    simp [a2, this]
  rw [if_pos (by rw [a2]; rfl), at_lit (z := 0) 0 rfl (by omega)]
  by_cases a3 : h.1.getD 0 0 = 0
  case neg => rw [if_pos (by simpa using a3), if_neg (fun g => a3 g.2.2)]
  have hA : h.1.length = 16 ∧ h.2.2.1.length = 11 ∧ h.1.getD 0 0 = 0 := ⟨a1, a2, a3⟩
  rw [if_neg (by simpa using a3), if_pos hA, l8All_eq _ l1, l8Word_eq, l8All_eq _ l2, l8All_eq _ l3, l8All_eq _ l4]
  simp only [Option.bind_some]
  cases b1 : allW h.1
  · simp
  cases b2 : okW h.2.1
  · simp
  cases b3 : allW h.2.2.1
  · simp
  cases b4 : allW h.2.2.2.2.2.2.2.1
  · simp
  cases b5 : allW h.2.2.2.2.2.2.2.2.1
  · simp
  simp only [Bool.not_true, and_self, if_true, Bool.false_eq_true, if_false]
  by_cases c1 : h.2.2.2.2.2.2.2.1.length ≤ 40
  case neg => rw [if_neg (by rw [ltI_f]; omega), if_neg (fun g => c1 g.1)]
  rw [if_pos (by rw [ltI_f]; omega)]
  by_cases c2 : h.2.2.2.2.2.2.2.2.1.length ≤ 40
  case neg => rw [if_pos (by rw [ltI_t]; omega), if_neg (fun g => c2 g.2)]
  have hC : h.2.2.2.2.2.2.2.1.length ≤ 40 ∧ h.2.2.2.2.2.2.2.2.1.length ≤ 40 := ⟨c1, c2⟩
  rw [if_neg (by rw [ltI_t]; omega), if_pos hC, l1In_eq2, Option.bind_some]
  dsimp only
  cases b6 : inB h.2.2.2.2.2.2.1 0 1000000000
  · simp
  rw [if_neg (by simp), if_pos rfl, at_lit (z := 0) 0 rfl (by omega)]
  by_cases d1 : h.2.2.1.getD 0 0 ≤ 3
  case neg => rw [if_neg (by rw [ltI_f]; exact fun g => g (Int.not_le.1 d1)), if_neg (fun g => d1 g.1)]
  rw [if_pos (by rw [ltI_f]; exact Int.not_lt.2 d1), at_lit (z := 7) 7 rfl (by omega)]
  by_cases d2 : h.2.2.1.getD 7 0 ≤ 7
  case neg => rw [if_neg (by rw [ltI_f]; exact fun g => g (Int.not_le.1 d2)), if_neg (fun g => d2 g.2.1)]
  rw [if_pos (by rw [ltI_f]; exact Int.not_lt.2 d2), at_lit (z := 10) 10 rfl (by omega)]
  by_cases d3 : h.2.2.1.getD 10 0 ≤ 8
  case neg => rw [if_neg (by rw [ltI_f]; exact fun g => g (Int.not_le.1 d3)), if_neg (fun g => d3 g.2.2.1)]
  rw [if_pos (by rw [ltI_f]; exact Int.not_lt.2 d3), at_lit (z := 6) 6 rfl (by omega)]
  by_cases d4 : h.2.2.1.getD 6 0 = 0
  case neg => rw [if_neg (by simpa using d4), if_neg (fun g => d4 g.2.2.2.1)]
  rw [if_pos (by simpa using d4), at_lit (z := 8) 8 rfl (by omega)]
  by_cases d5 : h.2.2.1.getD 8 0 = 0
  case neg => rw [if_pos (by simpa using d5), if_neg (fun g => d5 g.2.2.2.2)]
  have hD : h.2.2.1.getD 0 0 ≤ 3 ∧ h.2.2.1.getD 7 0 ≤ 7 ∧ h.2.2.1.getD 10 0 ≤ 8 ∧ h.2.2.1.getD 6 0 = 0 ∧ h.2.2.1.getD 8 0 = 0 := ⟨d1, d2, d3, d4, d5⟩
  rw [if_neg (by simpa using d5), if_pos hD]

theorem implHart_eq (h : HartD) (hl : hartLe 1048576 h) : F_impl_HartFault (h, ()) = some ((hartM h, ()), ()) := by
  rw [← specHart_eq h hl]
  obtain ⟨l1, l2, l3, l4⟩ := hl
  unfold F_impl_HartFault F_spec_l8Fault
  rw [areWords_eq _ (leM l1), isWord_eq, areWords_eq _ (leM l2), areWords_eq _ (leM l3), areWords_eq _ (leM l4), within_eq2]
  rw [l8All_eq _ l1, l8Word_eq, l8All_eq _ l2, l8All_eq _ l3, l8All_eq _ l4, l1In_eq2]

/-! whose turn it is -/
def turnEnd : Nat → List TwoD → Int → Nat × Int × Int
  | k, [], at_ => (k, at_, 0)
  | k, s :: r, at_ => if s.2.1 ≤ at_ then turnEnd (k + 1) r (at_ - s.2.1) else (k, at_, s.2.1 - at_)

theorem turnEnd_spec : ∀ {m : List TwoD} {k : Nat} {a : Int}, (∀ s ∈ m, 1 ≤ s.2.1 ∧ s.2.1 ≤ 50) → 0 ≤ a → a < stepsM (-1) m →
    k ≤ (turnEnd k m a).1 ∧ ∃ s, m[(turnEnd k m a).1 - k]? = some s ∧ (turnEnd k m a).2.2 = s.2.1 - (turnEnd k m a).2.1 ∧ 0 ≤ (turnEnd k m a).2.1 ∧ (turnEnd k m a).2.1 < s.2.1
  | [], k, a, _, h0, h1 => by simp [stepsM] at h1; omega
  | s :: r, k, a, hs, h0, h1 => by
    simp only [stepsM] at h1
    rw [if_pos (.inl (by decide))] at h1
    simp only [turnEnd]
    by_cases h : s.2.1 ≤ a
    · rw [if_pos h]
      obtain ⟨g0, q, g1, g2⟩ := turnEnd_spec (m := r) (k := k + 1) (a := a - s.2.1) (fun s hs' => hs s (List.mem_cons_of_mem _ hs')) (by omega) (by omega)
      refine ⟨by omega, q, ?_, g2⟩
      have e : (turnEnd (k + 1) r (a - s.2.1)).1 - k = ((turnEnd (k + 1) r (a - s.2.1)).1 - (k + 1)) + 1 := by omega
      rw [e, List.getElem?_cons_succ]
      exact g1
    · rw [if_neg h]
      exact ⟨Nat.le_refl _, s, by simp, rfl, h0, by show a < s.2.1; omega⟩

def turnM (p : PolD) (clock : Int) : Int × Int := let e := turnEnd 0 p.2.2.2.1 (clock % stepsM (-1) p.2.2.2.1); ((e.1 : Int), e.2.2)

theorem stepsM_pos {m : List TwoD} (h : ∀ s ∈ m, 1 ≤ s.2.1 ∧ s.2.1 ≤ 50) (hl : 1 ≤ m.length) : 1 ≤ stepsM (-1) m := by
  cases m with
  | nil => simp at hl
  | cons s r =>
    have := stepsM_le (g := -1) (m := r) fun s hs => h s (List.mem_cons_of_mem _ hs)
    have := h s (by simp)
    simp only [stepsM]
    rw [if_pos (.inl (by decide))]
    omega

theorem tmod_pos {a b : Int} (h : 0 ≤ a) : a.tmod b = a % b := by
  rw [Int.tmod_eq_emod_of_nonneg h]

theorem turn_loop {γ : Type} {p : PolD} (hok : OkPol p) {step : ((PolD × Int × Int × Unit) × Unit × Unit → Option (((PolD × Int × Int × Unit) × Unit × Unit) ⊕ γ)) → (PolD × Int × Int × Unit) × Unit × Unit → Option (((PolD × Int × Int × Unit) × Unit × Unit) ⊕ γ)}
    (hstep : ∀ rec p a i, step rec ((p, a, i, ()), (), ()) = if 0 ≤ i then (p.2.2.2.1[i.toNat]?).bind fun y => if leI y.2.1 a = true then (if 0 ≤ i then (p.2.2.2.1[i.toNat]?).bind fun y =>
      rec ((p, IntKind.i64.wrap (a - y.2.1), IntKind.i64.wrap (i + 1), ()), (), ()) else none) else some (.inl ((p, a, i, ()), (), ())) else none)
    (a : Int) (h0 : 0 ≤ a) (h1 : a < stepsM (-1) p.2.2.2.1) : iterF step lots ((p, a, 0, ()), (), ()) = some (.inl ((p, (turnEnd 0 p.2.2.2.1 a).2.1, ((turnEnd 0 p.2.2.2.1 a).1 : Int), ()), (), ())) := by
  obtain ⟨hl, hs⟩ := hok.okPlan
  have key := loopN (step := step) (fun k (a : Int) => ((p, a, ((k : Nat) : Int), ()), (), ())) p.2.2.2.1.length (lots_gt' (by omega)) (fun k a => 0 ≤ a ∧ a < stepsM (-1) (p.2.2.2.1.drop k))
    (fun k a => some (.inl ((p, (turnEnd k (p.2.2.2.1.drop k) a).2.1, ((turnEnd k (p.2.2.2.1.drop k) a).1 : Int), ()), (), ()))) ?_ 0 a (by omega) ⟨h0, by simpa using h1⟩
  · exact key
  · rintro rec k a hk ⟨g0, g1⟩ ih
    by_cases hlt : k < p.2.2.2.1.length
    · have hb := hs _ (List.getElem_mem hlt)
      have hle := (stepsM_le (g := -1) (mem_drop' (i := k) hs)).2
      rw [List.length_drop] at hle
      rw [hstep, if_pos nat0, at_get hlt, if_pos nat0, at_get hlt, wrapS (by omega), wrap64 (n := a - (p.2.2.2.1[k]).2.1) (by omega) (by omega)]
      rw [drop_get hlt] at g1
      simp only [stepsM] at g1
      rw [if_pos (.inl (by decide))] at g1
      by_cases h : (p.2.2.2.1[k]).2.1 ≤ a
      · have e : turnEnd k (p.2.2.2.1.drop k) a = turnEnd (k + 1) (p.2.2.2.1.drop (k + 1)) (a - (p.2.2.2.1[k]).2.1) := by
          rw [drop_get hlt]; simp only [turnEnd]; rw [if_pos h]
        rw [if_pos (leI_t.2 h), e]
        exact ih _ hlt ⟨by omega, by omega⟩
      · have e : turnEnd k (p.2.2.2.1.drop k) a = (k, a, (p.2.2.2.1[k]).2.1 - a) := by
          rw [drop_get hlt]; simp only [turnEnd]; rw [if_neg h]
        rw [if_neg (by rw [leI_t]; exact h), e]
    · rw [drop_all hlt] at g1
      simp [stepsM] at g1
      omega

theorem implTurn_eq (p : PolD) (clock : Int) (hok : OkPol p) (h0 : 0 ≤ clock) : F_impl_Policy_turnAt (p, clock, ()) = some (((turnM p clock).1, (turnM p clock).2, ()), ()) := by
  obtain ⟨hl, hs⟩ := hok.okPlan
  have hpos := stepsM_pos hs hok.plan.1
  have hle := (stepsM_le (g := -1) hs).2
  unfold F_impl_Policy_turnAt
  dsimp only
  rw [stepsOf_eq p (-1) hok.okPlan, Option.bind_some]
  dsimp only
  have a0 : 0 ≤ clock % stepsM (-1) p.2.2.2.1 := Int.emod_nonneg _ (by omega)
  have a1 : clock % stepsM (-1) p.2.2.2.1 < stepsM (-1) p.2.2.2.1 := Int.emod_lt_of_pos _ (by omega)
  have hne : ¬ stepsM (-1) p.2.2.2.1 = 0 := by omega
  rw [if_neg hne, tmod_pos h0]
  show (iterF l_impl_Policy_turnAt_3 lots ((p, clock % stepsM (-1) p.2.2.2.1, 0, ()), (), ())).bind _ = _
  rw [turn_loop hok (step := l_impl_Policy_turnAt_3) (fun _ _ _ _ => rfl) _ a0 a1, Option.bind_some]
  dsimp only
  obtain ⟨_, s, g1, g2, g3, g4⟩ := turnEnd_spec (k := 0) hs a0 a1
  rw [Nat.sub_zero] at g1
  have hb := hs s (List.mem_of_getElem? g1)
  rw [if_pos nat0, Int.toNat_natCast, g1, Option.bind_some, wrap64 (by omega) (by omega), ← g2]
  rfl

theorem specTurn_eq (p : PolD) (clock : Int) (hok : OkPol p) (h0 : 0 ≤ clock) : F_spec_l12Turn (p, clock, ()) = some (((turnM p clock).1, (turnM p clock).2, ()), ()) := by
  obtain ⟨hl, hs⟩ := hok.okPlan
  have hpos := stepsM_pos hs hok.plan.1
  have hle := (stepsM_le (g := -1) hs).2
  have a0 : 0 ≤ clock % stepsM (-1) p.2.2.2.1 := Int.emod_nonneg _ (by omega)
  have a1 : clock % stepsM (-1) p.2.2.2.1 < stepsM (-1) p.2.2.2.1 := Int.emod_lt_of_pos _ (by omega)
  have key := loopN (step := l_spec_l12Turn_3) (γ := denO o_spec_l12Turn_3) (fun k (a : Int) => ((p, clock, a, ((k : Nat) : Int), ()), (), ())) p.2.2.2.1.length (lots_gt' (by omega)) (fun k a => 0 ≤ a ∧ a ≤ 50 * (k : Int))
    (fun k a => some (.inl ((p, clock, a + stepsM (-1) (p.2.2.2.1.drop k), ()), (), ()))) ?_ 0 0 (by omega) (by omega)
  · have e0 : ((0 : Nat) : Int) = 0 := rfl
    rw [e0, List.drop_zero, Int.zero_add] at key
    unfold F_spec_l12Turn
    show (iterF l_spec_l12Turn_3 lots ((p, clock, 0, 0, ()), (), ())).bind _ = _
    rw [key, Option.bind_some]
    dsimp only
    have hne : ¬ stepsM (-1) p.2.2.2.1 = 0 := by omega
    rw [if_neg hne, tmod_pos h0]
    show (iterF l_spec_l12Turn_8 lots ((p, clock % stepsM (-1) p.2.2.2.1, 0, ()), (), ())).bind _ = _
    rw [turn_loop hok (step := l_spec_l12Turn_8) (fun _ _ _ _ => rfl) _ a0 a1, Option.bind_some]
    dsimp only
    obtain ⟨_, s, g1, g2, g3, g4⟩ := turnEnd_spec (k := 0) hs a0 a1
    rw [Nat.sub_zero] at g1
    have hb := hs s (List.mem_of_getElem? g1)
    rw [if_pos nat0, Int.toNat_natCast, g1, Option.bind_some, wrap64 (by omega) (by omega), ← g2]
    rfl
  · rintro rec k a hk ha ih
    unfold l_spec_l12Turn_3
    dsimp only
    by_cases hlt : k < p.2.2.2.1.length
    · have hb := hs _ (List.getElem_mem hlt)
      rw [if_pos (lt_t hlt), if_pos nat0, at_get hlt, wrap64 (n := a + (p.2.2.2.1[k]).2.1) (by omega) (by omega), wrapS (by omega), drop_get hlt]
      rw [show stepsM (-1) (p.2.2.2.1[k] :: p.2.2.2.1.drop (k + 1)) = (p.2.2.2.1[k]).2.1 + stepsM (-1) (p.2.2.2.1.drop (k + 1)) from by simp only [stepsM]; rw [if_pos (.inl (by decide))], ← Int.add_assoc]
      exact ih _ hlt (by omega)
    · rw [if_neg (lt_f hlt), drop_all hlt]
      simp [stepsM]

/-! hosts -/
def hostLe (n : Nat) (x : HostD) : Prop := polLe n x.1 ∧ x.2.1.length ≤ n ∧ x.2.2.1.length ≤ n ∧ ∀ h ∈ x.2.2.1, hartLe n h

def hartsM (m : List HartD) : Option Int := scan (fun (_ : Nat) h => nz (hartM h)) 0 m

def hostM (x : HostD) : Int :=
  if polM x.1 ≠ 0 then polM x.1
  else if (memFault x.2.1 = 0 ∧ x.2.1.length = 192) ∧ x.2.2.1.length = x.1.1.length then
    (match hartsM x.2.2.1 with
     | some c => c
     | none => if inB x.2.2.2.2.2.1 0 1000000 = true then (if x.2.2.2.1 = (turnM x.1 x.2.2.2.2.2.1).1 ∧ x.2.2.2.2.1 = (turnM x.1 x.2.2.2.2.2.1).2 then 0 else 1) else 3)
  else 1

theorem specWhole_eq (m : List Int) (h : m.length ≤ 1048576) : F_spec_l7Whole (m, ()) = some ((decide (memFault m = 0 ∧ m.length = 192), ()), ()) := by
  unfold F_spec_l7Whole
  rw [specFault_eq m (leM h), Option.bind_some]
  dsimp only
  by_cases h0 : memFault m = 0
  · rw [if_pos (by simpa using h0)]
    by_cases h1 : m.length = 192
    · simp [h0, h1]
    · have : ¬ ((m.length : Nat) : Int) = 192 := by omega
      simp [h0, h1, this]
  · rw [if_neg (by simpa using h0)]
    simp [h0]

theorem implWhole_eq (m : List Int) (h : m.length ≤ 1048576) : F_impl_isWhole (m, ()) = some ((decide (memFault m = 0 ∧ m.length = 192), ()), ()) := by
  unfold F_impl_isWhole
  rw [implFault_eq m (leM h), Option.bind_some]
  dsimp only
  by_cases h0 : memFault m = 0
  · rw [if_pos (by simpa using h0)]
    by_cases h1 : m.length = 192
    · simp [h0, h1]
    · have : ¬ ((m.length : Nat) : Int) = 192 := by omega
      simp [h0, h1, this]
  · rw [if_neg (by simpa using h0)]
    simp [h0]

theorem specHost_eq (x : HostD) (h : hostLe 1048576 x) : F_spec_l12Fault (x, ()) = some ((hostM x, ()), ()) := by
  obtain ⟨hp, h1, h2, h3⟩ := h
  have key := scan_loop (step := l_spec_l12Fault_7) (γ := denO o_spec_l12Fault_7) (fun i => ((x, ((i : Nat) : Int), ()), (), ())) x.2.2.1 (fun (_ : Nat) h => nz (hartM h))
    (fun c => some (.inr (.inl ((c, ()), (), ())))) (some (.inl ((x, ()), (), ()))) (leMax h2) ?_ ?_
  · have e0 : ((0 : Nat) : Int) = 0 := rfl
    rw [e0] at key
    unfold F_spec_l12Fault hostM
    dsimp only
    rw [specPol_eq x.1 hp, Option.bind_some]
    dsimp only
    by_cases g0 : polM x.1 = 0
    case neg => rw [if_pos (by simpa using g0), if_pos g0]
    have n0 : ¬ polM x.1 ≠ 0 := by simpa using g0
    have hG : ∀ P : Prop, ¬ P → ¬ (P ∧ x.2.2.1.length = x.1.1.length) := fun P h g => h g.1
    rw [if_neg (by simpa using g0), if_neg n0, specWhole_eq _ h1, Option.bind_some]
    dsimp only
    by_cases g1 : memFault x.2.1 = 0 ∧ x.2.1.length = 192
    case neg => rw [if_neg (by simpa using g1), if_neg (hG _ g1)]
    rw [if_pos (by simpa using g1)]
    by_cases g2 : x.2.2.1.length = x.1.1.length
    case neg =>
      have : ¬ ((x.2.2.1.length : Nat) : Int) = ((x.1.1.length : Nat) : Int) := by omega
      rw [if_pos (by simpa using this), if_neg (fun g : (memFault x.2.1 = 0 ∧ x.2.1.length = 192) ∧ x.2.2.1.length = x.1.1.length => g2 g.2)]
    have hH : (memFault x.2.1 = 0 ∧ x.2.1.length = 192) ∧ x.2.2.1.length = x.1.1.length := ⟨g1, g2⟩
    rw [if_neg (by rw [g2]; simp), if_pos hH]
    show (iterF l_spec_l12Fault_7 lots ((x, 0, ()), (), ())).bind _ = _
    rw [key]
    unfold hartsM
    cases scan (fun (_ : Nat) h => nz (hartM h)) 0 x.2.2.1 with
    | some c => rfl
    | none =>
      rw [Option.bind_some]
      dsimp only
      rw [l1In_eq2, Option.bind_some]
      dsimp only
      cases g3 : inB x.2.2.2.2.2.1 0 1000000
      · simp
      · rw [if_neg (by simp), if_pos rfl, specTurn_eq x.1 _ (okPol g0) (inB_t.1 g3).1, Option.bind_some]
        dsimp only
        by_cases g4 : x.2.2.2.1 = (turnM x.1 x.2.2.2.2.2.1).1
        · by_cases g5 : x.2.2.2.2.1 = (turnM x.1 x.2.2.2.2.2.1).2
          · rw [if_pos (by simpa using g4), if_neg (by simpa using g5), if_pos ⟨g4, g5⟩]
          · rw [if_pos (by simpa using g4), if_pos (by simpa using g5), if_neg (fun h => g5 h.2)]
        · rw [if_neg (by simpa using g4), if_neg (fun h => g4 h.1)]
  · intro rec i hi
    unfold l_spec_l12Fault_7
    dsimp only
    rw [if_pos (lt_t hi), if_pos nat0, at_get hi, specHart_eq _ (h3 _ (List.getElem_mem hi)), Option.bind_some, wrapS (lt1 hi h2)]
    dsimp only
    unfold nz
    by_cases g : hartM x.2.2.1[i] = 0
    · rw [if_neg (by simpa using g), if_neg (by simpa using g)]
    · rw [if_pos (by simpa using g), if_pos (by simpa using g)]
  · intro rec
    unfold l_spec_l12Fault_7
    dsimp only
    rw [if_neg lt_same]

theorem implHost_eq (x : HostD) (h : hostLe 1048576 x) : F_impl_HostFault (x, ()) = some ((hostM x, ()), ()) := by
  obtain ⟨hp, h1, h2, h3⟩ := h
  let bx : (den (.slice (.slice (.int .i64)))) × List LaneD × List TwoD × List TwoD × List Int × List HartD × Int × Int × Int × Unit := (x.1.1, x.1.2.1, x.1.2.2.1, x.1.2.2.2.1, x.2.1, x.2.2.1, x.2.2.2.1, x.2.2.2.2.1, x.2.2.2.2.2.1, ())
  have key := scan_loop (step := l_impl_HostFault_7) (γ := denO o_impl_HostFault_7) (fun i => (((), x.2.2.1, ((x.2.2.1.length : Nat) : Int), ((i : Nat) : Int), ()), (bx, ()), ())) x.2.2.1 (fun (_ : Nat) h => nz (hartM h))
    (fun c => some (.inr (.inl ((c, ()), (), ())))) (some (.inl (((), ()), (bx, ()), ()))) (leMax h2) ?_ ?_
  · have e0 : ((0 : Nat) : Int) = 0 := rfl
    rw [e0] at key
    unfold F_impl_HostFault hostM
    dsimp only
    rw [implPol_eq x.1 hp, Option.bind_some]
    dsimp only
    by_cases g0 : polM x.1 = 0
    case neg => rw [if_pos (by simpa using g0), if_pos g0]
    have n0 : ¬ polM x.1 ≠ 0 := by simpa using g0
    have hG : ∀ P : Prop, ¬ P → ¬ (P ∧ x.2.2.1.length = x.1.1.length) := fun P h g => h g.1
    rw [if_neg (by simpa using g0), if_neg n0, implWhole_eq _ h1, Option.bind_some]
    dsimp only
    by_cases g1 : memFault x.2.1 = 0 ∧ x.2.1.length = 192
    case neg => rw [if_neg (by simpa using g1), if_neg (hG _ g1)]
    rw [if_pos (by simpa using g1)]
    by_cases g2 : x.2.2.1.length = x.1.1.length
    case neg =>
      have : ¬ ((x.2.2.1.length : Nat) : Int) = ((x.1.1.length : Nat) : Int) := by omega
      rw [if_pos (by simpa using this), if_neg (fun g : (memFault x.2.1 = 0 ∧ x.2.1.length = 192) ∧ x.2.2.1.length = x.1.1.length => g2 g.2)]
    have hH : (memFault x.2.1 = 0 ∧ x.2.1.length = 192) ∧ x.2.2.1.length = x.1.1.length := ⟨g1, g2⟩
    rw [if_neg (by rw [g2]; simp), if_pos hH]
    show (iterF l_impl_HostFault_7 lots (((), x.2.2.1, ((x.2.2.1.length : Nat) : Int), 0, ()), (bx, ()), ())).bind _ = _
    rw [key]
    unfold hartsM
    cases scan (fun (_ : Nat) h => nz (hartM h)) 0 x.2.2.1 with
    | some c => rfl
    | none =>
      rw [Option.bind_some]
      dsimp only [bx]
      rw [within_eq2, Option.bind_some]
      dsimp only
      cases g3 : inB x.2.2.2.2.2.1 0 1000000
      · simp
      · rw [if_neg (by simp), if_pos rfl]
        show (F_impl_Policy_turnAt (x.1, x.2.2.2.2.2.1, ())).bind _ = _
        rw [implTurn_eq x.1 _ (okPol g0) (inB_t.1 g3).1, Option.bind_some]
        dsimp only
        by_cases g4 : x.2.2.2.1 = (turnM x.1 x.2.2.2.2.2.1).1
        · by_cases g5 : x.2.2.2.2.1 = (turnM x.1 x.2.2.2.2.2.1).2
          · rw [if_pos (by simpa using g4), if_neg (by simpa using g5), if_pos ⟨g4, g5⟩]
          · rw [if_pos (by simpa using g4), if_pos (by simpa using g5), if_neg (fun h => g5 h.2)]
        · rw [if_neg (by simpa using g4), if_neg (fun h => g4 h.1)]
  · intro rec i hi
    unfold l_impl_HostFault_7
    dsimp only
    rw [if_pos (lt_t hi), if_pos nat0, at_get hi, implHart_eq _ (h3 _ (List.getElem_mem hi)), Option.bind_some, wrapS (lt1 hi h2)]
    dsimp only
    unfold nz
    by_cases g : hartM x.2.2.1[i] = 0
    · rw [if_neg (by simpa using g), if_neg (by simpa using g)]
    · rw [if_pos (by simpa using g), if_pos (by simpa using g)]
  · intro rec
    unfold l_impl_HostFault_7
    dsimp only
    rw [if_neg lt_same]

/-! the laws' helpers -/
theorem szHarts_eq (m : List HartD) (n : Int) (h0 : 0 ≤ n) (h1 : n ≤ 1048576) (h2 : m.length ≤ maxLen) (h3 : ∀ l ∈ m, hartLe maxLen l) :
    ∃ r : Int, F_laws_szHartS (m, n, ()) = some ((r, ()), ()) ∧ (r < 0 ∨ (0 ≤ r ∧ r ≤ n ∧ m.length ≤ 1048576 ∧ ∀ l ∈ m, hartLe 1048576 l)) :=
  szS_thm (F := F_laws_szHartS) (step := l_laws_szHartS_5) (f := fun y k => F_laws_szHart (y, k, ())) (ok := fun l => hartLe 1048576 l) (fun _ _ => rfl) (fun _ => rfl) (fun _ => rfl) (fun _ _ _ _ => rfl) m h2 (fun y hy k g0 g1 => szHart_eq y k g0 g1 (h3 y hy)) n h0 h1

theorem szHost_eq (x : HostD) (n : Int) (h0 : 0 ≤ n) (h1 : n ≤ 1048576) (h : hostLe maxLen x) : ∃ r : Int, F_laws_szHost (x, n, ()) = some ((r, ()), ()) ∧ (r < 0 ∨ (0 ≤ r ∧ r ≤ n ∧ hostLe 1048576 x)) := by
  obtain ⟨a1, a2, a3, a4⟩ := h
  unfold F_laws_szHost
  simp only [ltI_eq, decide_eq_true_eq]
  obtain ⟨r1, e1, c1⟩ := szPol_eq x.1 n h0 h1 a1
  rw [e1, Option.bind_some]
  by_cases d1 : r1 < 0
  · exact ⟨-1, by rw [if_pos d1], .inl (by omega)⟩
  rw [if_neg d1]
  have c1 := c1.resolve_left d1
  obtain ⟨r2, e2, c2⟩ := szInt_eq x.2.1 r1 (by omega) (by omega) a2
  rw [e2, Option.bind_some]
  by_cases d2 : r2 < 0
  · exact ⟨-1, by rw [if_pos d2], .inl (by omega)⟩
  rw [if_neg d2]
  have c2 := c2.resolve_left d2
  obtain ⟨r3, e3, c3⟩ := szHarts_eq x.2.2.1 r2 (by omega) (by omega) a3 a4
  rw [e3, Option.bind_some]
  by_cases d3 : r3 < 0
  · exact ⟨-1, by rw [if_pos d3], .inl (by omega)⟩
  rw [if_neg d3]
  have c3 := c3.resolve_left d3
  exact ⟨r3, rfl, .inr ⟨by omega, by omega, c1.2.2, c2.2.2, c3.2.2.1, c3.2.2.2⟩⟩

theorem toHarts_eq (m : List HartD) (h : m.length ≤ 1048576) (h2 : ∀ l ∈ m, hartLe 1048576 l) : F_laws_toHartS (m, ()) = some ((m, ()), ()) :=
  toS_thm (by_ := 120) (F := F_laws_toHartS) (step := l_laws_toHartS_3) (f := fun y => F_laws_toHart (y, ())) (g := fun r => r.1.1) (fun _ => rfl) (fun _ => rfl) (fun _ _ _ _ => rfl) (by omega) m h fun y hy => ⟨_, toHart_eq y (h2 y hy), rfl⟩

theorem toHost_eq (x : HostD) (h : hostLe 1048576 x) : F_laws_toHost (x, ()) = some (((x.1.1, x.1.2.1, x.1.2.2.1, x.1.2.2.2.1, x.2.1, x.2.2.1, x.2.2.2.1, x.2.2.2.2.1, x.2.2.2.2.2.1, ()), ()), ()) := by
  obtain ⟨a1, a2, a3, a4⟩ := h
  unfold F_laws_toHost
  rw [toPol_eq x.1 a1, Option.bind_some, toInt64S_eq x.2.1 (le8 a2), Option.bind_some, toHarts_eq x.2.2.1 a3 a4, Option.bind_some]

theorem eqHarts_eq (m : List HartD) (h : m.length ≤ 1048576) (h2 : ∀ l ∈ m, hartLe 1048576 l) : F_laws_eqHartS (m, m, ()) = some ((true, ()), ()) :=
  eqS_thm (F := F_laws_eqHartS) (step := l_laws_eqHartS_4) (f := fun y y' => F_laws_eqHart (y, y', ())) (fun _ => rfl) (fun _ => rfl) (fun _ _ _ _ => rfl) m (leMax h) fun y hy => eqHart_eq y (h2 y hy)

theorem eqHost_eq (x : HostD) (h : hostLe 1048576 x) : F_laws_eqHost (x, x, ()) = some ((true, ()), ()) := by
  obtain ⟨a1, a2, a3, a4⟩ := h
  unfold F_laws_eqHost
  rw [eqPol_eq x.1 a1, Option.bind_some, if_neg (by simp), eqInt64S_eq x.2.1 (leM a2), Option.bind_some, if_neg (by simp), eqHarts_eq x.2.2.1 a3 a4, Option.bind_some, if_neg (by simp), if_neg (by simp), if_neg (by simp), if_neg (by simp)]

theorem hostFault_law (x : HostD) (h : hostLe maxLen x) : F_laws_FnExactHostFault (x, ()) = some ((true, ()), ()) := by
  unfold F_laws_FnExactHostFault
  simp only [ltI_eq, decide_eq_true_eq]
  obtain ⟨r1, e1, c1⟩ := szHost_eq x 1048576 (by omega) (by omega) h
  rw [e1, Option.bind_some]
  by_cases d1 : r1 < 0
  · rw [if_pos d1]
  rw [if_neg d1]
  have hx := (c1.resolve_left d1).2.2
  rw [toHost_eq x hx, Option.bind_some]
  show (F_spec_HostFault (x, ())).bind _ = _
  have e2 : F_spec_HostFault (x, ()) = some ((hostM x, ()), ()) := by unfold F_spec_HostFault; rw [specHost_eq x hx, Option.bind_some]
  rw [e2, Option.bind_some, Option.bind_some]
  show (F_impl_HostFault (x, ())).bind _ = _
  rw [implHost_eq x hx, Option.bind_some, if_neg (by simp), Option.bind_some]
  show (F_laws_eqHost (x, x, ())).bind _ = _
  rw [eqHost_eq x hx, Option.bind_some, if_neg (by simp)]

theorem inR_hart {h : HartD} (hh : inR (.pair (.slice (.int .i64)) (.pair (.int .i64) (.pair (.slice (.int .i64)) (.pair .bool (.pair .bool (.pair .bool (.pair (.int .i64) (.pair (.slice (.int .i64)) (.pair (.slice (.int .i64)) .unit))))))))) h) : hartLe maxLen h :=
  ⟨hh.1.1, hh.2.2.1.1, hh.2.2.2.2.2.2.2.1.1, hh.2.2.2.2.2.2.2.2.1.1⟩

theorem hostFault_F : ∀ x, inRP P_laws_FnExactHostFault x → F_laws_FnExactHostFault x = some ((true, ()), ()) := by
  rintro ⟨x, _⟩ ⟨hx, _⟩
  exact hostFault_law x ⟨⟨⟨hx.1.1.1, fun l hl => (hx.1.1.2 l hl).1⟩, hx.1.2.1.1, hx.1.2.2.1.1, hx.1.2.2.2.1.1⟩, hx.2.1.1, hx.2.2.1.1, fun h hh => inR_hart (hx.2.2.1.2 h hh)⟩

/-! RestOf -/
theorem round_eq (p : PolD) (h : polLe 1048576 p) : F_spec_RoundOf (p, ()) = some (((if polM p ≠ 0 then (polM p, 0, ()) else (0, stepsM (-1) p.2.2.2.1, ())), ()), ()) := by
  unfold F_spec_RoundOf
  dsimp only
  rw [specPol_eq p h, Option.bind_some]
  dsimp only
  by_cases h0 : polM p = 0
  case neg => rw [if_pos (by simpa using h0), if_pos h0]
  rw [if_neg (by simpa using h0), if_neg (by simpa using h0)]
  obtain ⟨hl, hs⟩ := (okPol h0).okPlan
  have key := loopN (step := l_spec_RoundOf_6) (γ := denO o_spec_RoundOf_6) (fun k (a : Int) => (((), (), a, ((k : Nat) : Int), ()), (p, (0, 0, ()), ()), ())) p.2.2.2.1.length (lots_gt' (by omega)) (fun k a => 0 ≤ a ∧ a ≤ 50 * (k : Int))
    (fun k a => some (.inl (((), a + stepsM (-1) (p.2.2.2.1.drop k), ()), ((0, 0, ()), ()), ()))) ?_ 0 0 (by omega) (by omega)
  · have e0 : ((0 : Nat) : Int) = 0 := rfl
    rw [e0, List.drop_zero, Int.zero_add] at key
    show (iterF l_spec_RoundOf_6 lots (((), (), 0, 0, ()), (p, (0, 0, ()), ()), ())).bind _ = _
    rw [key, Option.bind_some]
  · rintro rec k a hk ha ih
    unfold l_spec_RoundOf_6
    dsimp only
    by_cases hlt : k < p.2.2.2.1.length
    · have hb := hs _ (List.getElem_mem hlt)
      rw [if_pos (lt_t hlt), if_pos nat0, at_get hlt, wrap64 (n := a + (p.2.2.2.1[k]).2.1) (by omega) (by omega), wrapS (by omega), drop_get hlt]
      rw [show stepsM (-1) (p.2.2.2.1[k] :: p.2.2.2.1.drop (k + 1)) = (p.2.2.2.1[k]).2.1 + stepsM (-1) (p.2.2.2.1.drop (k + 1)) from by simp only [stepsM]; rw [if_pos (.inl (by decide))], ← Int.add_assoc]
      exact ih _ hlt (by omega)
    · rw [if_neg (lt_f hlt), drop_all hlt]
      simp [stepsM]

def restM (x : HostD) : Int × Int × Unit :=
  if hostM x ≠ 0 then (hostM x, 0, ()) else (0, (IntKind.i64.wrap (stepsM (-1) x.1.2.2.2.1 - (x.2.2.2.2.2.1).tmod (stepsM (-1) x.1.2.2.2.1))).tmod (stepsM (-1) x.1.2.2.2.1), ())

theorem host_pol {x : HostD} (h : hostM x = 0) : polM x.1 = 0 := by
  unfold hostM at h
  split at h
  · rename_i h'; exact absurd h h'
  · rename_i h'; simpa using h'

theorem specRestOf_eq (x : HostD) (h : hostLe 1048576 x) : F_spec_RestOf (x, ()) = some ((restM x, ()), ()) := by
  unfold F_spec_RestOf restM
  dsimp only
  rw [specHost_eq x h, Option.bind_some]
  dsimp only
  by_cases h0 : hostM x = 0
  case neg => rw [if_pos (by simpa using h0), if_pos h0]
  have hp := host_pol h0
  have hpos := stepsM_pos (okPol hp).okPlan.2 (okPol hp).plan.1
  have er : (if polM x.1 ≠ 0 then (polM x.1, (0 : Int), ()) else (0, stepsM (-1) x.1.2.2.2.1, ())) = (0, stepsM (-1) x.1.2.2.2.1, ()) := if_neg (by simpa using hp)
  rw [if_neg (by simpa using h0), if_neg (by simpa using h0), round_eq x.1 h.1, er, Option.bind_some]
  dsimp only
  have hne : ¬ stepsM (-1) x.1.2.2.2.1 = 0 := by omega
  rw [if_neg hne, if_neg hne]

theorem implRestOf_eq (x : HostD) (h : hostLe 1048576 x) : F_impl_RestOf (x, ()) = some ((restM x, ()), ()) := by
  unfold F_impl_RestOf restM
  dsimp only
  rw [implHost_eq x h, Option.bind_some]
  dsimp only
  by_cases h0 : hostM x = 0
  case neg => rw [if_pos (by simpa using h0), if_pos h0]
  have hp := host_pol h0
  have hpos := stepsM_pos (okPol hp).okPlan.2 (okPol hp).plan.1
  rw [if_neg (by simpa using h0), if_neg (by simpa using h0), stepsOf_eq x.1 (-1) (okPol hp).okPlan, Option.bind_some]
  dsimp only
  have hne : ¬ stepsM (-1) x.1.2.2.2.1 = 0 := by omega
  rw [if_neg hne, if_neg hne]

theorem restOf_law (x : HostD) (h : hostLe maxLen x) : F_laws_FnExactRestOf (x, ()) = some ((true, ()), ()) := by
  unfold F_laws_FnExactRestOf
  simp only [ltI_eq, decide_eq_true_eq]
  obtain ⟨r1, e1, c1⟩ := szHost_eq x 1048576 (by omega) (by omega) h
  rw [e1, Option.bind_some]
  by_cases d1 : r1 < 0
  · rw [if_pos d1]
  rw [if_neg d1]
  have hx := (c1.resolve_left d1).2.2
  rw [toHost_eq x hx, Option.bind_some]
  show (F_spec_RestOf (x, ())).bind _ = _
  rw [specRestOf_eq x hx, Option.bind_some, Option.bind_some]
  show (F_impl_RestOf (x, ())).bind _ = _
  rw [implRestOf_eq x hx, Option.bind_some]
  show (F_laws_eqIntResult (restM x, restM x, ())).bind _ = _
  rw [eqInt_eq, Option.bind_some, if_neg (by simp), Option.bind_some]
  show (F_laws_eqHost (x, x, ())).bind _ = _
  rw [eqHost_eq x hx, Option.bind_some, if_neg (by simp)]

theorem restOf_F : ∀ x, inRP P_laws_FnExactRestOf x → F_laws_FnExactRestOf x = some ((true, ()), ()) := by
  rintro ⟨x, _⟩ ⟨hx, _⟩
  exact restOf_law x ⟨⟨⟨hx.1.1.1, fun l hl => (hx.1.1.2 l hl).1⟩, hx.1.2.1.1, hx.1.2.2.1.1, hx.1.2.2.2.1.1⟩, hx.2.1.1, hx.2.2.1.1, fun h hh => inR_hart (hx.2.2.1.2 h hh)⟩

end Go.Proofs.Yteddlkdbefloaaa
