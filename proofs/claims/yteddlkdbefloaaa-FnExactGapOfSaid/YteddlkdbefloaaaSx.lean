/- Soundness of the machinery S: functions. -/
import Derived.Test.YteddlkdbefloaaaSw
namespace Go.Proofs.Yteddlkdbefloaaa.S
open Go Go.RowKit
set_option linter.unusedVariables false
set_option linter.unusedSimpArgs false

variable {P : Program} {T : Tab} {G : Env} {L : List (Nat × Cut)} {w w' w0 : World} {Z S Qp : Nat → Prop} {M : Nat → Nat → Prop} {N : Nat → Option (Option (Nat × Nat))} {a : Act} {σ : St} {β : Names} {B B' : Nat → Option Pl} {H : Heap}
variable {Q : Exit → Act → World → Prop} {nt : Nat}

theorem CellR_mono {c : CK} {x : c.den} {v : Value} {F : List Nat} (h : CellR w S Qp noB c x v F) : CellR w S Qp B c x v F := by
  cases c with
  | ptr o off => obtain ⟨⟨b, base, h1, _⟩, _⟩ := h; cases h1
  | ref o => obtain ⟨⟨q, n, h1, _⟩, _⟩ := h; cases h1
  | _ => exact h

theorem CellsR_mono : ∀ {cs : List CK} {x : denC cs} {vs : List Value} {F : List Nat}, CellsR w S Qp noB cs x vs F → CellsR w S Qp B cs x vs F
  | [], _, _, _, h => h
  | c :: r, _, _, _, ⟨v, vs', F1, F2, h1, h2, h3, h4⟩ => ⟨v, vs', F1, F2, h1, h2, CellR_mono h3, CellsR_mono h4⟩

theorem RowsR_row {nm : Nat} {z : List (Nat × TypeId × Ty)} {d : denW z} {Fz : List Nat} (hz : RowsR w S B z d Fz) : ∀ {cs : List CK} {nm : Nat} {x : denC cs} {us : List Value} {F : List Nat}, AggR w S Qp B nm cs x us F →
    CellsR w S Qp B (refCs nm cs) (refX nm cs x) us [] ∧ RowsR w S B (rowCs nm z cs) (rowX nm d cs x) (F ++ Fz)
  | [], _, _, _, _, ⟨h1, h2⟩ => by subst h1; subst h2; exact ⟨⟨rfl, rfl⟩, hz⟩
  | .own e t :: r, nm, x, _, _, ⟨v, vs', q, F2, h1, h2, h3, h4, h5, h6⟩ => by
    subst h1; subst h2
    have ih := RowsR_row (nm := nm) hz h6
    exact ⟨⟨v, vs', [], [], rfl, rfl, ⟨⟨q, _, h3, h5⟩, rfl⟩, ih.1⟩, ⟨q, F2 ++ Fz, by rw [List.append_assoc], h3, h4, ih.2⟩⟩
  | .dat t :: r, nm, x, _, _, ⟨v, vs', h1, h2, h3⟩ => by
    subst h1
    have ih := RowsR_row (nm := nm) hz h3
    exact ⟨⟨v, vs', [], [], rfl, rfl, CellR_mono h2, ih.1⟩, ih.2⟩
  | .pd t :: r, nm, x, _, _, ⟨v, vs', h1, h2, h3⟩ => by
    subst h1
    have ih := RowsR_row (nm := nm) hz h3
    exact ⟨⟨v, vs', [], [], rfl, rfl, CellR_mono h2, ih.1⟩, ih.2⟩
  | .fn f ts :: r, nm, x, _, _, ⟨v, vs', h1, h2, h3⟩ => by
    subst h1
    have ih := RowsR_row (nm := nm) hz h3
    exact ⟨⟨v, vs', [], [], rfl, rfl, CellR_mono h2, ih.1⟩, ih.2⟩
  | .any :: r, nm, x, _, _, ⟨v, vs', h1, h3⟩ => by
    subst h1
    have ih := RowsR_row (nm := nm) hz h3
    exact ⟨⟨v, vs', [], [], rfl, rfl, rfl, ih.1⟩, ih.2⟩
  | .ptr _ _ :: _, _, _, _, _, h => h.elim
  | .ref _ :: _, _, _, _, _, h => h.elim
  | .mp :: _, _, _, _, _, h => h.elim
  | .bx _ :: _, _, _, _, _, h => h.elim

theorem par_sound : ∀ {ps : List PK} {i : Nat} {x : denP ps} {vs : List Value} {F : List Nat}, ArgsR w S Qp B i ps x vs F → (∀ k, k < vs.length → i + k < a.tmps.size ∧ a.tmps.getD (i + k) undef = vs.getD k undef) →
    SlotsR w S Qp B a (parSl i ps) (parXs i ps x) [] ∧ vs.length = ps.length ∧ ∃ F2 F3, BoxesR w S Qp B (parBx i ps) (parXb i ps x) F2 ∧ RowsR w S B (parRw i ps) (parXr i ps x) F3 ∧ F.Perm (F2 ++ F3)
  | [], _, _, _, _, ⟨h1, h2⟩, _ => by subst h1; subst h2; exact ⟨rfl, rfl, [], [], rfl, rfl, List.Perm.refl _⟩
  | k :: r, i, x, vs, F, h, ht => by
    have tail : ∀ {v : Value} {vs' : List Value}, vs = v :: vs' → ∀ k, k < vs'.length → (i + 1) + k < a.tmps.size ∧ a.tmps.getD ((i + 1) + k) undef = vs'.getD k undef := by
      intro v vs' e k hk
      have := ht (k + 1) (by rw [e]; simpa using hk)
      rw [e] at this
      rw [show i + 1 + k = i + (k + 1) by omega]
      exact ⟨this.1, by rw [this.2]; rfl⟩
    have head : ∀ {v : Value} {vs' : List Value}, vs = v :: vs' → i < a.tmps.size ∧ a.tmps.getD i undef = v := by
      intro v vs' e
      have := ht 0 (by rw [e]; simp)
      rw [e] at this
      exact ⟨this.1, this.2⟩
    cases k with
    | val t =>
      obtain ⟨v, vs', h1, h2, h3⟩ := h
      obtain ⟨g1, g2, F2, F3, g3, g4, g5⟩ := par_sound h3 (tail h1)
      refine ⟨⟨[], [], rfl, (head h1).1, ⟨by rw [(head h1).2]; exact h2, rfl⟩, g1⟩, by rw [h1]; simp [g2], F2, F3, g3, g4, g5⟩
    | ptr t =>
      obtain ⟨v, vs', h1, ⟨b, off, cs, h2⟩, h3⟩ := h
      obtain ⟨g1, g2, F2, F3, g3, g4, g5⟩ := par_sound h3 (tail h1)
      exact ⟨⟨[], [], rfl, (head h1).1, ⟨⟨b, off, cs, by rw [(head h1).2]; exact h2.1, h2.2⟩, rfl⟩, g1⟩, by rw [h1]; simp [g2], F2, F3, g3, g4, g5⟩
    | fn f ts =>
      obtain ⟨v, vs', h1, ⟨us, h2⟩, h3⟩ := h
      obtain ⟨g1, g2, F2, F3, g3, g4, g5⟩ := par_sound h3 (tail h1)
      exact ⟨⟨[], [], rfl, (head h1).1, ⟨⟨us, by rw [(head h1).2]; exact h2.1, h2.2⟩, rfl⟩, g1⟩, by rw [h1]; simp [g2], F2, F3, g3, g4, g5⟩
    | box ci co =>
      obtain ⟨v, vs', F1, F4, b, base, c, e, h1, h2, h3, h4, h5, h6, h7, h8, h9⟩ := h
      obtain ⟨g1, g2, F2, F3, g3, g4, g5⟩ := par_sound h9 (tail h1)
      refine ⟨⟨[], [], rfl, (head h1).1, ⟨⟨b, base, h3, by rw [(head h1).2]; exact h4⟩, rfl⟩, g1⟩, by rw [h1]; simp [g2], F1 ++ F2, F3, ?_, g4, ?_⟩
      · exact ⟨F1, F2, b, base, c, e, rfl, h3, h5, h6, CellsR_mono h7, h8, g3⟩
      · rw [h2, List.append_assoc]; exact g5.append_left F1
    | row e t =>
      obtain ⟨v, vs', q, F4, h1, h2, h3, h4, h5, h6⟩ := h
      obtain ⟨g1, g2, F2, F3, g3, g4, g5⟩ := par_sound h6 (tail h1)
      refine ⟨⟨[], [], rfl, (head h1).1, ⟨⟨q, _, h3, by rw [(head h1).2]; exact h5⟩, rfl⟩, g1⟩, by rw [h1]; simp [g2], F2, blkq q ++ F3, g3, ?_, ?_⟩
      · exact ⟨q, F3, rfl, h3, h4, g4⟩
      · rw [h2]
        refine (g5.append_left (blkq q)).trans ?_
        rw [← List.append_assoc, ← List.append_assoc]
        exact List.perm_append_comm.append_right F3
    | agg cs =>
      obtain ⟨v, vs', us, F1, F4, h1, h2, h3, h4, h5⟩ := h
      obtain ⟨g1, g2, F2, F3, g3, g4, g5⟩ := par_sound h5 (tail h1)
      have := RowsR_row (nm := 0) g4 h4
      refine ⟨⟨[], [], rfl, (head h1).1, ⟨us, by rw [(head h1).2]; exact h3, this.1⟩, g1⟩, by rw [h1]; simp [g2], F2, F1 ++ F3, g3, this.2, ?_⟩
      rw [h2]
      refine (g5.append_left F1).trans ?_
      rw [← List.append_assoc, ← List.append_assoc]
      exact List.perm_append_comm.append_right F3

theorem parBx_ge : ∀ {ps : List PK} {i o : Nat}, o ∈ (parBx i ps).map (·.1) → 9000000 ≤ o
  | [], _, _, h => by simp [parBx] at h
  | k :: r, i, o, h => by
    cases k <;> simp only [parBx, List.map_cons, List.mem_cons] at h <;> first | exact parBx_ge h | skip
    rcases h with rfl | h
    · omega
    · exact parBx_ge h

theorem rowCs_ge {z : List (Nat × TypeId × Ty)} : ∀ {cs : List CK} {nm o : Nat}, o ∈ (rowCs nm z cs).map (·.1) → nm ≤ o ∨ o ∈ z.map (·.1)
  | [], _, _, h => .inr h
  | c :: r, nm, o, h => by
    cases c <;> simp only [rowCs, List.map_cons, List.mem_cons] at h <;> first | (rcases rowCs_ge h with h | h; exact .inl (by omega); exact .inr h) | skip
    rcases h with rfl | h
    · exact .inl (Nat.le_refl _)
    · rcases rowCs_ge h with h | h
      · exact .inl (by omega)
      · exact .inr h

theorem parRw_ge : ∀ {ps : List PK} {i o : Nat}, o ∈ (parRw i ps).map (·.1) → 9000000 ≤ o
  | [], _, _, h => by simp [parRw] at h
  | k :: r, i, o, h => by
    cases k <;> simp only [parRw, List.map_cons, List.mem_cons] at h <;> first | exact parRw_ge h | skip
    · rcases h with rfl | h
      · omega
      · exact parRw_ge h
    · rcases rowCs_ge h with h | h
      · omega
      · exact parRw_ge h

/-! ### results -/
theorem resV_sound (hT : tabOk P T = true) (hrep : RepB Z M N w0 β σ a w) {r : ResultVar} {s : SV} (h : resV T σ r = some s) :
    ∃ v, ((match r with | .tmp t => pure (a.tmps.getD t undef) | .cell x t => do loadVar t (← asAddr (a.tmps.getD x undef)) : Sem Value)).run P w = .ok v w ∧ VV w (RO Z β σ.H) β σ.H s v := by
  cases r with
  | tmp t =>
    simp only [resV] at h
    split at h
    · rename_i v hv
      obtain rfl := Option.some.inj h
      exact ⟨_, rfl, (hrep.env t _ hv).2⟩
    · cases h
  | cell x t =>
    simp only [resV] at h
    split at h
    · rename_i r b off hr hx
      split at h
      · rename_i cs hb
        split at h
        · rename_i hlen
          obtain ⟨i, d, z, hrow⟩ := tab_row hT hr
          obtain ⟨g, base, hg1, hv⟩ := VV_p (w := w) (S := RO Z β σ.H) (hrep.env x _ hx).2 hb
          obtain ⟨g', base', c, e, hq, hh, hbd, hall⟩ := hrep.obj b _ hb
          rw [hg1] at hq
          simp only [Option.some.injEq, Prod.mk.injEq] at hq
          obtain ⟨rfl, rfl⟩ := hq
          obtain ⟨hl1, hl2, hl3⟩ := load_box hbd hall hlen
          have hrun := run_loadVar (P := P) hrow hh hl1 hl2
          refine ⟨_, by simp only [hv]; simp [asAddr, hrun]; rfl, ?_⟩
          split at h
          · rename_i ha
            obtain rfl := Option.some.inj h
            rw [if_pos ha]
            exact ⟨_, rfl, hl3⟩
          · rename_i ha
            rw [if_neg ha]
            split at h
            · rename_i c1 hc1
              obtain rfl := Option.some.inj h
              obtain ⟨u, hu, hvs⟩ := hall.get hc1
              have h1 := sz_one (by simpa using ha)
              rw [h1]
              rw [List.getElem?_take] at hu
              split at hu
              · rw [List.getElem?_drop] at hu
                have : c.toList.drop (base + off) = u :: c.toList.drop (base + off + 1) := by
                  obtain ⟨hlt, he⟩ := List.getElem?_eq_some_iff.1 hu
                  rw [List.drop_eq_getElem_cons hlt, he]
                rw [this]
                exact VS_VV hvs.1
              · cases hu
            · cases h
        · cases h
      · cases h
    · cases h

theorem resVs_sound (hT : tabOk P T = true) (hrep : RepB Z M N w0 β σ a w) : ∀ {rs : List ResultVar} {ss : List SV}, mapO (resV T σ) rs = some ss →
    ∃ vs, (rs.mapM fun r => (match r with | .tmp t => pure (a.tmps.getD t undef) | .cell x t => do loadVar t (← asAddr (a.tmps.getD x undef)) : Sem Value)).run P w = .ok vs w ∧ All2 (VV w (RO Z β σ.H) β σ.H) ss vs
  | [], _, h => by
    simp only [mapO, Option.some.injEq] at h
    subst h
    exact ⟨[], by simp, .nil⟩
  | r :: rs, _, h => by
    simp only [mapO] at h
    split at h
    · rename_i s hs
      split at h
      · rename_i z hz
        obtain rfl := Option.some.inj h
        obtain ⟨v, h1, h2⟩ := resV_sound hT hrep hs
        obtain ⟨vs, h3, h4⟩ := resVs_sound hT hrep hz
        exact ⟨v :: vs, by rw [List.mapM_cons]; simp only [Sem.run_bind, h1, Result.andThen_ok, h3, Sem.run_pure], .cons h2 h4⟩
      · cases h
    · cases h

theorem results_sound (hT : tabOk P T = true) (hrep : RepB Z M N w0 β σ a w) {fn : Func} {ss : List SV} (h : mapO (resV T σ) fn.results.toList = some ss) :
    ∃ vs, (results fn a.tmps).run P w = .ok (tupV vs) w ∧ All2 (VV w (RO Z β σ.H) β σ.H) ss vs := by
  obtain ⟨vs, h1, h2⟩ := resVs_sound hT hrep h
  refine ⟨vs, ?_, h2⟩
  unfold results
  rw [Array.mapM_eq_mapM_toList]
  simp only [Sem.run_bind, Sem.run_map]
  erw [h1]
  simp only [Result.andThen_ok]
  match vs with
  | [] => rfl
  | [v] => rfl
  | v :: v' :: vs => simp [tupV]

end Go.Proofs.Yteddlkdbefloaaa.S
