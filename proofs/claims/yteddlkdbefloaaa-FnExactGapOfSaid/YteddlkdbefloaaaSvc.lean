/- Soundness of the machinery S: code. -/
import Derived.Test.YteddlkdbefloaaaSvbc
namespace Go.Proofs.Yteddlkdbefloaaa.S
open Go Go.RowKit
set_option linter.unusedVariables false
set_option linter.unusedSimpArgs false

variable {P : Program} {T : Tab} {G : Env} {w w' w0 : World} {Z : Nat → Prop} {M : Nat → Nat → Prop} {N : Nat → Option (Option (Nat × Nat))} {a : Act} {σ : St} {β : Names} {l : List Nat}
variable {o : Oper} {next : Act → World → Prop} {Q : Exit → Act → World → Prop} {R : Type} {K : St → Option R} {y : R} {qo : Out}

/-! ### code -/
def exOf : Ex → Exit
  | .normal => .normal
  | .exit i => .exit i
  | .ret => .ret

/-- A cut's ways out lead on. -/
def OutOk (Z : Nat → Prop) (M : Nat → Nat → Prop) (N : Nat → Option (Option (Nat × Nat))) (w0 : World) (nt : Nat) : (os : List (Ex × Shp)) → denO os → (Exit → Act → World → Prop) → Prop
  | [], _, _ => True
  | (e, s) :: r, .inl x, Q => ∀ a w, Rep Z M N w0 (mk nt s x) a w → Q (exOf e) a w
  | (e, s) :: r, .inr z, Q => OutOk Z M N w0 nt r z Q

/-- A piece of code does what its cut says. -/
def CutOk (P : Program) (nt : Nat) (c : Code) (cut : Cut) : Prop :=
  ∀ x y, cut.F x = some y → ∀ Z M N w0 a w Q, Rep Z M N w0 (mk nt cut.inn x) a w → OutOk Z M N w0 nt cut.outs y Q → c.wp P Q a w

/-- All pieces of a code that are cut do what the cuts say. -/
def CodeOk (P : Program) (nt : Nat) (L : List (Nat × Cut)) : Code → Prop
  | .seq a b => CodeOk P nt L a ∧ CodeOk P nt L b
  | .cond _ a b => CodeOk P nt L a ∧ CodeOk P nt L b
  | .block id c => match look L (100000 + id) with
    | some cut => CutOk P nt (.block id c) cut
    | none => CodeOk P nt L c
  | .loop c => match look L (firstRegion c) with
    | some cut => CutOk P nt (.loop c) cut
    | none => True
  | _ => True

theorem goOn_out {nt : Nat} {K : Ex → St → Option R} (hK : ∀ e σ', K e σ' = some y → σ'.nt = nt → ∀ a' w', Rep Z M N w0 σ' a' w' → Q (exOf e) a' w') : ∀ {os : List (Ex × Shp)} {z : denO os}, goOn nt K os z = some y → OutOk Z M N w0 nt os z Q
  | [], _, _ => trivial
  | (e, s) :: r, .inl x, h => fun a w hr => hK e _ h rfl a w hr
  | (e, s) :: r, .inr z, h => goOn_out hK (os := r) h

theorem useCut_sound {K : Ex → St → Option R} {c : Code} {cut : Cut} (hc : CutOk P σ.nt c cut) (hrep : Rep Z M N w0 σ a w) (h : useCut K σ (some cut) = some y)
    (hK : ∀ e σ', K e σ' = some y → σ'.nt = σ.nt → ∀ a' w', Rep Z M N w0 σ' a' w' → Q (exOf e) a' w') : c.wp P Q a w := by
  unfold useCut at h
  obtain ⟨x, hx, h⟩ := Option.bind_eq_some_iff.1 h
  obtain ⟨z, hz, h⟩ := Option.bind_eq_some_iff.1 h
  exact hc x z hz _ _ _ _ _ _ _ (un_mk hrep hx) (goOn_out hK h)

theorem run_sound (hT : tabOk P T = true) (hG : EnvOk P G) {L : List (Nat × Cut)} : ∀ {c : Code} {σ : St} {a : Act} {w : World} {K : Ex → St → Option R} {Q : Exit → Act → World → Prop}, CodeOk P σ.nt L c → Rep Z M N w0 σ a w → run T G L c σ K = some y →
    (∀ e σ', K e σ' = some y → σ'.nt = σ.nt → ∀ a' w', Rep Z M N w0 σ' a' w' → Q (exOf e) a' w') → c.wp P Q a w := by
  intro c
  induction c with
  | skip => intro σ a w K Q _ hrep h hK; exact wp_skip (hK .normal σ h rfl a w hrep)
  | region id ops draw =>
    intro σ a w K Q _ hrep h hK
    simp only [run] at h
    split at h
    · rename_i hdr
      subst hdr
      exact region_any hT hG (tabOk_mixed hT) hrep h fun σ' h1 hn a' w' hr => hK .normal σ' h1 hn a' w' hr
    · rename_i hdr
      have : draw = false := by simpa using hdr
      subst this
      exact wp_region_list (opsR_sound hT hG hrep h fun σ' h1 hn a' w' hr => hK .normal σ' h1 hn a' w' hr)
  | seq c1 c2 ih1 ih2 =>
    intro σ a w K Q hL hrep h hK
    simp only [run] at h
    refine wp_seq (ih1 hL.1 hrep h ?_)
    intro e σ' h1 hn a' w' hr
    cases e with
    | normal => exact ih2 (by rw [hn]; exact hL.2) hr h1 fun e σ'' h2 hn' => hK e σ'' h2 (by rw [hn', hn])
    | exit i => exact hK (.exit i) σ' h1 hn a' w' hr
    | ret => exact hK .ret σ' h1 hn a' w' hr
  | cond c c1 c2 ih1 ih2 =>
    intro σ a w K Q hL hrep h hK
    simp only [run] at h
    split at h
    · rename_i b hb
      obtain ⟨β, hr⟩ := hrep
      have hv := VV_bool (ev_sound hr hb)
      refine wp_cond hv ?_
      split at h
      · rename_i e; subst e; exact ih1 hL.1 ⟨β, hr⟩ h hK
      · rename_i e
        have : b = false := by simpa using e
        subst this
        exact ih2 hL.2 ⟨β, hr⟩ h hK
    · cases h
  | block id c ih =>
    intro σ a w K Q hL hrep h hK
    simp only [run] at h
    simp only [CodeOk] at hL
    split at h
    · rename_i cut hcut
      rw [hcut] at hL
      exact useCut_sound hL hrep h hK
    · rename_i hcut
      rw [hcut] at hL
      refine wp_block (ih hL hrep h ?_)
      intro e σ' h1 hn a' w' hr
      cases e with
      | normal => exact hK .normal σ' h1 hn a' w' hr
      | exit i =>
        simp only at h1
        simp only [exOf, Exit.inBlock]
        split at h1
        · rename_i e; rw [if_pos e]; exact hK .normal σ' h1 hn a' w' hr
        · rename_i e; rw [if_neg e]; exact hK (.exit i) σ' h1 hn a' w' hr
      | ret => exact hK .ret σ' h1 hn a' w' hr
  | loop c ih =>
    intro σ a w K Q hL hrep h hK
    simp only [run] at h
    simp only [CodeOk] at hL
    cases hcut : look L (firstRegion c) with
    | none => rw [hcut] at h; cases h
    | some cut =>
      rw [hcut] at h hL
      exact useCut_sound hL hrep h hK
  | exit id => intro σ a w K Q _ hrep h hK; exact wp_exit (hK (.exit id) σ h rfl a w hrep)
  | ret => intro σ a w K Q _ hrep h hK; exact wp_ret (hK .ret σ h rfl a w hrep)
  | _ => intro σ a w K Q _ hrep h hK; simp only [run] at h; cases h

end Go.Proofs.Yteddlkdbefloaaa.S
