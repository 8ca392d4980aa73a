/- Machinery S: small helps for printed texts. -/
import Derived.Test.YteddlkdbefloaaaSy
namespace Go.Proofs.Yteddlkdbefloaaa.S
open Go Go.RowKit
set_option linter.unusedVariables false

/-- Code without a cut. -/
def plainC (L : List (Nat × Cut)) : Code → Bool
  | .seq a b => plainC L a && plainC L b
  | .cond _ a b => plainC L a && plainC L b
  | .block id c => (look L (100000 + id)).isNone && plainC L c
  | .loop _ => false
  | _ => true

theorem plain_ok {P : Program} {nt : Nat} {L : List (Nat × Cut)} : ∀ {c : Code}, plainC L c = true → CodeOk P nt L c := by
  intro c
  induction c with
  | seq a b iha ihb => intro h; simp only [plainC, Bool.and_eq_true] at h; exact ⟨iha h.1, ihb h.2⟩
  | cond x a b iha ihb => intro h; simp only [plainC, Bool.and_eq_true] at h; exact ⟨iha h.1, ihb h.2⟩
  | block id c ih =>
    intro h
    simp only [plainC, Bool.and_eq_true, Option.isNone_iff_eq_none] at h
    simp only [CodeOk, h.1]
    exact ih h.2
  | loop c ih => intro h; simp [plainC] at h
  | _ => intro _; trivial

theorem seq_ok {P : Program} {nt : Nat} {L : List (Nat × Cut)} {a b : Code} (h : CodeOk P nt L a) (k : CodeOk P nt L b) : CodeOk P nt L (.seq a b) := ⟨h, k⟩
theorem cond_ok {P : Program} {nt : Nat} {L : List (Nat × Cut)} {x : Operand} {a b : Code} (h : CodeOk P nt L a) (k : CodeOk P nt L b) : CodeOk P nt L (.cond x a b) := ⟨h, k⟩
theorem block_ok {P : Program} {nt : Nat} {L : List (Nat × Cut)} {id : Nat} {c : Code} (hl : (look L (100000 + id)).isNone = true) (h : CodeOk P nt L c) : CodeOk P nt L (.block id c) := by
  simp only [CodeOk, Option.isNone_iff_eq_none.1 hl]; exact h
theorem loop_ok {P : Program} {nt : Nat} {L : List (Nat × Cut)} {c : Code} {cut : Cut} (hl : look L (firstRegion c) = some cut) (h : CutOk P nt (.loop c) cut) : CodeOk P nt L (.loop c) := by
  simp only [CodeOk, hl]; exact h
theorem blockc_ok {P : Program} {nt : Nat} {L : List (Nat × Cut)} {id : Nat} {c : Code} {cut : Cut} (hl : look L (100000 + id) = some cut) (h : CutOk P nt (.block id c) cut) : CodeOk P nt L (.block id c) := by
  simp only [CodeOk, hl]; exact h

/-- A place in a function's code. -/
def navC : Code → List Nat → Code
  | c, [] => c
  | .seq a _, 0 :: r => navC a r
  | .seq _ b, _ :: r => navC b r
  | .cond _ a _, 0 :: r => navC a r
  | .cond _ _ b, _ :: r => navC b r
  | .block _ c, _ :: r => navC c r
  | .loop c, _ :: r => navC c r
  | _, _ => .skip

def nav (fn : Func) (p : List Nat) : Code := navC (fn.body.getD .skip) p

/-- An operation at a place. -/
def navOp (fn : Func) (p : List Nat) (i : Nat) : Oper := match nav fn p with
  | .region _ ops _ => (ops[i]?).getD { dst := none, op := .alloc 0, type := 0, pos := "", after := #[], guard := none }
  | _ => { dst := none, op := .alloc 0, type := 0, pos := "", after := #[], guard := none }

/-- Rounds enough for any loop. -/
def lots : Nat := 18446744073709551616

abbrev iand (k : IntKind) (x y : Int) : Int := k.wrap (BitVec.ofInt k.bits x &&& BitVec.ofInt k.bits y).toNat
abbrev ior (k : IntKind) (x y : Int) : Int := k.wrap (BitVec.ofInt k.bits x ||| BitVec.ofInt k.bits y).toNat
abbrev ixor (k : IntKind) (x y : Int) : Int := k.wrap (BitVec.ofInt k.bits x ^^^ BitVec.ofInt k.bits y).toNat

theorem env_nil {P : Program} : EnvOk P [] := fun _ h => by cases h
theorem env_cons {P : Program} {f : FuncId} {cn : Con} {G : Env} (h : CallsOk P f cn) (hG : EnvOk P G) : EnvOk P ((f, cn) :: G) := fun p hp => by
  rcases List.mem_cons.1 hp with rfl | hp
  · exact h
  · exact hG p hp

/-- A function keeps its contract, and may be called. -/
theorem fn_calls {P : Program} {T : Tab} {G : Env} {L : List (Nat × Cut)} (hT : tabOk P T = true) (hG : EnvOk P G) {f : FuncId} (fn : Func) {cn : Con} (hf : P.funcs[f]? = some fn) (hn : (fn.name == "runtime.NumGoroutine") = false) (hb : fn.body.isSome = true)
    (hL : CodeOk P (Nat.max fn.ntmps cn.ps.length) L (nav fn [])) (hF : ∀ x, runFn T G L fn cn.ps cn.rs x = cn.F x) : CallsOk P f cn := by
  obtain ⟨c, hc⟩ := Option.isSome_iff_exists.1 hb
  have : nav fn [] = c := by simp only [nav, hc, navC, Option.getD_some]
  rw [this] at hL
  exact (fn_sound hT hG hf hc hL hF).ok (enter_ok hf hn hb)

theorem fn_snd {P : Program} {T : Tab} {G : Env} {L : List (Nat × Cut)} (hT : tabOk P T = true) (hG : EnvOk P G) {f : FuncId} (fn : Func) {cn : Con} (hf : P.funcs[f]? = some fn) (hb : fn.body.isSome = true)
    (hL : CodeOk P (Nat.max fn.ntmps cn.ps.length) L (nav fn [])) (hF : ∀ x, runFn T G L fn cn.ps cn.rs x = cn.F x) : Sound P f cn := by
  obtain ⟨c, hc⟩ := Option.isSome_iff_exists.1 hb
  have : nav fn [] = c := by simp only [nav, hc, navC, Option.getD_some]
  rw [this] at hL
  exact fn_sound hT hG hf hc hL hF

end Go.Proofs.Yteddlkdbefloaaa.S
