/- Soundness of the machinery S: loops, blocks, functions. -/
import Derived.Test.YteddlkdbefloaaaSvc
namespace Go.Proofs.Yteddlkdbefloaaa.S
open Go Go.RowKit
set_option linter.unusedVariables false
set_option linter.unusedSimpArgs false

variable {P : Program} {T : Tab} {G : Env} {L : List (Nat × Cut)} {w w' w0 : World} {Z S Q0 : Nat → Prop} {M : Nat → Nat → Prop} {N : Nat → Option (Option (Nat × Nat))} {a : Act} {σ : St} {β : Names} {B B' : Nat → Option Pl}
variable {Q : Exit → Act → World → Prop} {nt : Nat}

/-! ### loops -/
/-- Behind a round. -/
def loopK (inn : Shp) (outs : List (Ex × Shp)) (rec : inn.den → Option (denO outs)) (e : Ex) (σ : St) : Option (denO outs) :=
  match e with
  | .normal => (un inn σ).bind rec
  | e => outK outs e σ

def iterF {α γ : Type} (step : (α → Option γ) → α → Option γ) : Nat → α → Option γ
  | 0, _ => none
  | n + 1, x => step (iterF step n) x

theorem outK_out : ∀ {os : List (Ex × Shp)} {e : Ex} {σ : St} {z : denO os}, outK os e σ = some z → OutOk Z M N w0 σ.nt os z Q → Rep Z M N w0 σ a w → Q (exOf e) a w
  | [], _, _, _, h, _, _ => by simp [outK] at h
  | (e', s) :: r, e, σ, z, h, ho, hr => by
    simp only [outK] at h
    split at h
    · rename_i he
      subst he
      split at h
      · rename_i x hx
        obtain rfl := Option.some.inj h
        exact ho a w (un_mk hr hx)
      · cases h
    · split at h
      · rename_i y hy
        obtain rfl := Option.some.inj h
        exact outK_out (os := r) hy ho hr
      · cases h

theorem loop_cut (hT : tabOk P T = true) (hG : EnvOk P G) {c : Code} {inn : Shp} {outs : List (Ex × Shp)} {step : (inn.den → Option (denO outs)) → inn.den → Option (denO outs)}
    (hs : ∀ rec x, run T G L c (mk nt inn x) (loopK inn outs rec) = step rec x) (hL : CodeOk P nt L c) (fuel : inn.den → Nat) :
    CutOk P nt (.loop c) { inn, outs, F := fun x => iterF step (fuel x) x } := by
  intro x y h Z M N w0 a w Q hr ho
  refine wp_loop_rounds (fuel x) ?_
  simp only at h
  generalize fuel x = n at h
  induction n generalizing x a w with
  | zero => cases h
  | succ n ih =>
    rw [rounds_succ]
    simp only [iterF] at h
    rw [← hs] at h
    refine run_sound hT hG (K := loopK inn outs (iterF step n)) hL hr h ?_
    intro e σ' h1 hn a' w' hr'
    have hn : σ'.nt = nt := hn
    cases e with
    | normal =>
      obtain ⟨x', hx', h2⟩ := Option.bind_eq_some_iff.1 h1
      have := un_mk hr' hx'
      rw [hn] at this
      exact ih x' a' w' this h2
    | exit i => exact outK_out (Q := Q) (e := .exit i) h1 (by rw [hn]; exact ho) hr'
    | ret => exact outK_out (Q := Q) (e := .ret) h1 (by rw [hn]; exact ho) hr'

def blockK (id : Nat) (outs : List (Ex × Shp)) (e : Ex) (σ : St) : Option (denO outs) :=
  match e with
  | .normal => outK outs .normal σ
  | .exit i => if i = id then outK outs .normal σ else outK outs (.exit i) σ
  | .ret => outK outs .ret σ

theorem block_cut (hT : tabOk P T = true) (hG : EnvOk P G) {id : Nat} {c : Code} {inn : Shp} {outs : List (Ex × Shp)} {F : inn.den → Option (denO outs)} (hs : ∀ x, run T G L c (mk nt inn x) (blockK id outs) = F x) (hL : CodeOk P nt L c) :
    CutOk P nt (.block id c) { inn, outs, F } := by
  intro x y h Z M N w0 a w Q hr ho
  simp only at h
  rw [← hs] at h
  refine wp_block (run_sound hT hG hL hr h ?_)
  intro e σ' h1 hn a' w' hr'
  have hn : σ'.nt = nt := hn
  cases e with
  | normal => exact outK_out (Q := Q) (e := .normal) h1 (by rw [hn]; exact ho) hr'
  | exit i =>
    simp only [blockK] at h1
    simp only [exOf, Exit.inBlock]
    split at h1
    · rename_i e; rw [if_pos e]; exact outK_out (Q := Q) (e := .normal) h1 (by rw [hn]; exact ho) hr'
    · rename_i e; rw [if_neg e]; exact outK_out (Q := Q) (e := .exit i) h1 (by rw [hn]; exact ho) hr'
  | ret => exact outK_out (Q := Q) (e := .ret) h1 (by rw [hn]; exact ho) hr'

end Go.Proofs.Yteddlkdbefloaaa.S
