/- Plain laws of policies: the fault of a policy, its steps, its gaps. -/
import Derived.Test.YteddlkdbefloaaaPf
namespace Go.Proofs.Yteddlkdbefloaaa
open Go Go.RowKit S Go.Proofs
set_option maxRecDepth 100000
set_option linter.unusedVariables false
set_option linter.unusedSimpArgs false

/-- What is not right with a policy. -/
def polM (p : PolD) : Int :=
  if ownsM p.1 ≠ 0 then ownsM p.1
  else if p.2.1.length ≤ 4 ∧ p.2.2.1.length ≤ 4 then (match lanesM p with | some c => c | none => match bellsM p with | some c => c | none => planM p) else 2

theorem nz_ne {c d : Int} (h : nz c = some d) : d ≠ 0 := by
  unfold nz at h
  split at h
  · rename_i h'; rw [← Option.some.inj h]; exact h'
  · cases h

theorem lanesM_ne {p : PolD} {c : Int} (h : lanesM p = some c) : c ≠ 0 := scan_le (P := fun c => c ≠ 0) (fun j hj c hc => nz_ne hc) c h
theorem bellsM_ne {p : PolD} {c : Int} (h : bellsM p = some c) : c ≠ 0 := scan_le (P := fun c => c ≠ 0) (fun j hj c hc => nz_ne hc) c h

theorem specPol_eq (p : PolD) (h : polLe 1048576 p) : F_spec_l6Fault (p, ()) = some ((polM p, ()), ()) := by
  obtain ⟨⟨a1, a2⟩, a3, a4, a5⟩ := h
  unfold F_spec_l6Fault polM
  rw [specOwns_eq p a1 a2, specLanes_eq p a1 a2 a3, specRest_eq p a1 a4 a5]
  simp only [Option.bind_some]
  by_cases h0 : ownsM p.1 = 0
  · simp only [h0, bne_self_eq_false, Bool.false_eq_true, if_false, ne_eq, not_true_eq_false]
    by_cases h4 : p.2.1.length ≤ 4 ∧ p.2.2.1.length ≤ 4
    · simp only [if_pos h4]
      cases hl : lanesM p with
      | some c => have := lanesM_ne hl; simp [this]
      | none => simp; cases bellsM p <;> rfl
    · simp [if_neg h4]
  · rw [if_pos (by simpa using h0), if_pos h0]

theorem implPol_eq (p : PolD) (h : polLe 1048576 p) : F_impl_PolicyFault (p, ()) = some ((polM p, ()), ()) := by
  obtain ⟨⟨a1, a2⟩, a3, a4, a5⟩ := h
  unfold F_impl_PolicyFault polM
  dsimp only
  rw [implOwns_eq p a1 a2, Option.bind_some]
  dsimp only
  by_cases h0 : ownsM p.1 = 0
  case neg => rw [if_pos (by simpa using h0), if_pos h0]
  simp only [h0, bne_self_eq_false, Bool.false_eq_true, if_false, ne_eq, not_true_eq_false]
  by_cases h1 : p.2.1.length ≤ 4
  case neg => rw [if_neg (by rw [ltI_f]; omega), if_neg (by omega)]
  rw [if_pos (by rw [ltI_f]; omega)]
  by_cases h3 : p.2.2.1.length ≤ 4
  case neg => rw [if_pos (by rw [ltI_t]; omega), if_neg (by omega)]
  rw [if_neg (by rw [ltI_t]; omega), if_pos ⟨h1, h3⟩]
  have key1 := scan_loop (step := l_impl_PolicyFault_7) (γ := denO o_impl_PolicyFault_7) (fun i => (((), p.2.1, ((p.2.1.length : Nat) : Int), ((i : Nat) : Int), ()), (p, ()), ())) p.2.1 (fun i l => nz (laneM p l (p.2.1.take i)))
    (fun c => some (.inr (.inl ((c, ()), (), ())))) (some (.inl (((), ()), (p, ()), ()))) (leMax a3) ?_ ?_
  · have key2 := scan_loop (step := l_impl_PolicyFault_14) (γ := denO o_impl_PolicyFault_14) (fun i => (((), p.2.2.1, ((p.2.2.1.length : Nat) : Int), ((i : Nat) : Int), ()), (p, ()), ())) p.2.2.1 (fun i b => nz (bellM p b (p.2.2.1.take i)))
      (fun c => some (.inr (.inl ((c, ()), (), ())))) (some (.inl (((), ()), (p, ()), ()))) (leMax a4) ?_ ?_
    · have e0 : ((0 : Nat) : Int) = 0 := rfl
      rw [e0] at key1 key2
      show (iterF l_impl_PolicyFault_7 lots (((), p.2.1, ((p.2.1.length : Nat) : Int), 0, ()), (p, ()), ())).bind _ = _
      rw [key1]
      unfold lanesM
      cases scan (fun i l => nz (laneM p l (p.2.1.take i))) 0 p.2.1 with
      | some c => rfl
      | none =>
        rw [Option.bind_some]
        dsimp only
        show (iterF l_impl_PolicyFault_14 lots (((), p.2.2.1, ((p.2.2.1.length : Nat) : Int), 0, ()), (p, ()), ())).bind _ = _
        rw [key2]
        unfold bellsM
        cases scan (fun i b => nz (bellM p b (p.2.2.1.take i))) 0 p.2.2.1 with
        | some c => rfl
        | none =>
          rw [Option.bind_some]
          dsimp only
          rw [implPlan_eq p a1 a5, Option.bind_some]
    · intro rec i hi
      unfold l_impl_PolicyFault_14
      dsimp only
      rw [if_pos (lt_t hi), if_pos nat0, at_get hi, if_pos (show (0 : Int) ≤ 0 ∧ (0 : Int) ≤ (i : Int) ∧ (i : Int) ≤ ((p.2.2.1.length : Nat) : Int) from ⟨by omega, by omega, by omega⟩), wrapS (lt1 hi a4)]
      have e : (p.2.2.1.drop (0 : Int).toNat).take (((i : Nat) : Int).toNat - (0 : Int).toNat) = p.2.2.1.take i := by simp
      rw [e, bellFault_eq p _ _ a1 (by simp; omega), Option.bind_some]
      dsimp only
      unfold nz
      by_cases g : bellM p p.2.2.1[i] (p.2.2.1.take i) = 0
      · rw [if_neg (by simpa using g), if_neg (by simpa using g)]
      · rw [if_pos (by simpa using g), if_pos (by simpa using g)]
    · intro rec
      unfold l_impl_PolicyFault_14
      dsimp only
      rw [if_neg lt_same]
  · intro rec i hi
    unfold l_impl_PolicyFault_7
    dsimp only
    rw [if_pos (lt_t hi), if_pos nat0, at_get hi, if_pos (show (0 : Int) ≤ 0 ∧ (0 : Int) ≤ (i : Int) ∧ (i : Int) ≤ ((p.2.1.length : Nat) : Int) from ⟨by omega, by omega, by omega⟩), wrapS (lt1 hi a3)]
    have e : (p.2.1.drop (0 : Int).toNat).take (((i : Nat) : Int).toNat - (0 : Int).toNat) = p.2.1.take i := by simp
    rw [e, laneFault_eq p _ _ a1 a2 (by simp; omega), Option.bind_some]
    dsimp only
    unfold nz
    by_cases g : laneM p p.2.1[i] (p.2.1.take i) = 0
    · rw [if_neg (by simpa using g), if_neg (by simpa using g)]
    · rw [if_pos (by simpa using g), if_pos (by simpa using g)]
  · intro rec
    unfold l_impl_PolicyFault_7
    dsimp only
    rw [if_neg lt_same]

/-! and a guest -/
def askM (p : PolD) (g : Int) : Int := if polM p ≠ 0 then polM p else if isG p g = true then 0 else 4

theorem specAsk_eq (p : PolD) (g : Int) (h : polLe 1048576 p) : F_spec_l6Asked (p, g, ()) = some ((askM p g, ()), ()) := by
  unfold F_spec_l6Asked askM
  rw [specPol_eq p h, l6Guest_eq p g h.1.1]
  simp only [Option.bind_some]
  by_cases h0 : polM p = 0
  · rw [h0]; cases isG p g <;> simp
  · rw [if_pos (by simpa using h0), if_pos h0]

theorem implAsk_eq (p : PolD) (g : Int) (h : polLe 1048576 p) : F_impl_guestFault (p, g, ()) = some ((askM p g, ()), ()) := by
  unfold F_impl_guestFault askM
  rw [implPol_eq p h, isGuest_eq p g h.1.1]
  simp only [Option.bind_some]
  by_cases h0 : polM p = 0
  · rw [h0]; cases isG p g <;> simp
  · rw [if_neg (by simpa using h0), if_pos h0]

/-! what a right policy is -/
theorem scan_none_all {α β : Type} {f : Nat → α → Option β} {m : List α} (h : scan f 0 m = none) : ∀ x ∈ m, ∃ i, f i x = none := by
  intro x hx
  obtain ⟨i, hi, rfl⟩ := List.mem_iff_getElem.1 hx
  exact ⟨_, scan_none h i hi⟩

structure OkPol (p : PolD) : Prop where
  own : 1 ≤ p.1.length ∧ p.1.length ≤ 3
  own1 : ∀ l ∈ p.1, 1 ≤ l.length ∧ l.length ≤ 5 ∧ ∀ x ∈ l, 0 ≤ x ∧ x ≤ 23
  nodup : dupM [] p.1.flatten = false
  lanes : p.2.1.length ≤ 4 ∧ lanesM p = none
  bells : p.2.2.1.length ≤ 4 ∧ bellsM p = none
  plan : 1 ≤ p.2.2.2.1.length ∧ p.2.2.2.1.length ≤ 8
  slots : ∀ s ∈ p.2.2.2.1, isG p s.1 = true ∧ 1 ≤ s.2.1 ∧ s.2.1 ≤ 50

theorem inB_t {n a b : Int} : inB n a b = true ↔ a ≤ n ∧ n ≤ b := by unfold inB; simp

theorem okPol {p : PolD} (h : polM p = 0) : OkPol p := by
  unfold polM at h
  split at h
  · rename_i h'; exact absurd h h'
  rename_i h0
  have h0 : ownsM p.1 = 0 := by simpa using h0
  split at h
  case isFalse => cases h
  rename_i h4
  cases hl : lanesM p with
  | some c => rw [hl] at h; exact absurd h (lanesM_ne hl)
  | none =>
  rw [hl] at h
  dsimp only at h
  cases hb : bellsM p with
  | some c => rw [hb] at h; exact absurd h (bellsM_ne hb)
  | none =>
  rw [hb] at h
  dsimp only at h
  unfold ownsM at h0
  split at h0
  case isFalse => cases h0
  rename_i g1
  unfold planM at h
  split at h
  case isFalse => cases h
  rename_i g2
  cases ho : scan (fun (_ : Nat) l => Go.Proofs.Yteddlkdbefloaaa.own1 l) 0 p.1 with
  | some c =>
    rw [ho] at h0
    dsimp only at h0
    subst h0
    have : (0 : Int) ≠ 0 := scan_le (P := fun c => c ≠ 0) (fun j hj c hc => by
      unfold Go.Proofs.Yteddlkdbefloaaa.own1 at hc
      split at hc
      · exact scan_le (P := fun c => c ≠ 0) (fun j hj c hc => by
          split at hc
          · cases hc
          · rw [← Option.some.inj hc]; decide) c hc
      · rw [← Option.some.inj hc]; decide) _ ho
    exact absurd rfl this
  | none =>
    rw [ho] at h0
    dsimp only at h0
    have hd : dupM [] p.1.flatten = false := by
      split at h0
      · cases h0
      · rename_i h'; simpa using h'
    refine ⟨g1, ?_, hd, ⟨h4.1, hl⟩, ⟨h4.2, hb⟩, g2, ?_⟩
    · intro l hl'
      obtain ⟨_, e⟩ := scan_none_all ho l hl'
      unfold Go.Proofs.Yteddlkdbefloaaa.own1 at e
      split at e
      · rename_i g
        refine ⟨g.1, g.2, fun x hx => ?_⟩
        obtain ⟨_, e2⟩ := scan_none_all e x hx
        split at e2
        · rename_i g3; exact inB_t.1 g3
        · cases e2
      · cases e
    · intro s hs
      cases hp : scan (fun (_ : Nat) (s : TwoD) => if isG p s.1 = true then (if inB s.2.1 1 50 = true then none else some (3 : Int)) else some 4) 0 p.2.2.2.1 with
      | some c =>
        rw [hp] at h
        dsimp only at h
        subst h
        have : (0 : Int) ≠ 0 := scan_le (P := fun c => c ≠ 0) (fun j hj c hc => by
          split at hc
          · split at hc
            · cases hc
            · rw [← Option.some.inj hc]; decide
          · rw [← Option.some.inj hc]; decide) _ hp
        exact absurd rfl this
      | none =>
        obtain ⟨_, e⟩ := scan_none_all hp s hs
        split at e
        · rename_i g
          split at e
          · rename_i g3; exact ⟨g, inB_t.1 g3⟩
          · cases e
        · cases e

end Go.Proofs.Yteddlkdbefloaaa
