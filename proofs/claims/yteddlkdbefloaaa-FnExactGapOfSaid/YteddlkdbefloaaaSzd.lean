/- Machinery S: a slice compared with nil; the library's Clone. -/
import Derived.Test.YteddlkdbefloaaaSzc
import Derived.Laws.Cover3
namespace Go.Proofs.Yteddlkdbefloaaa.S
open Go Go.RowKit
set_option linter.unusedVariables false
set_option linter.unusedSimpArgs false

variable {P : Program} {T : Tab} {G : Env} {w w' w0 : World} {Z : Nat → Prop} {M : Nat → Nat → Prop} {N : Nat → Option (Option (Nat × Nat))} {a : Act} {σ : St} {β : Names}
variable {o : Oper} {next : Act → World → Prop} {Q : Exit → Act → World → Prop}

/-- Data compared with nil: nil holds nothing, what is not nil may hold nothing too. -/
theorem nil_test (hT : tabOk P T = true) (hrep : Rep Z M N w0 σ a w) {t t' : TypeId} {x : Operand} (ho : o.op = .binOp .eql t x (.const (.slice none 0 0)) t') {d : Nat} (hd : o.dst = some d) (hdn : d < σ.nt) {r : Row} {u : Ty} (hr : look T t = some r) (hty : r.ty = .slice u)
    {xs : List (den u)} (hx : ev σ x = some (.s (.d (.slice u) xs))) (hy : xs = [] → ∀ a' w', Rep Z M N w0 (σ.set d (.s (.d .bool true))) a' w' → next a' w')
    (hn : ∀ a' w', Rep Z M N w0 (σ.set d (.s (.d .bool false))) a' w' → next a' w') : o.wp P a w next Q := by
  obtain ⟨β, hrep⟩ := hrep
  obtain ⟨i, dd, z, hrow⟩ := tab_row hT hr
  have hdd := hrow.desc
  unfold descOk at hdd
  rw [hty] at hdd
  cases dd <;> first | (simp at hdd; done) | skip
  rename_i e
  have hv := ev_sound hrep hx
  have hv := (VV_d (t := .slice u) rfl).1 hv
  obtain ⟨A, cap, hv, hcap, hne⟩ := hv
  simp only [List.cons.injEq, and_true] at hv
  have hrun : (execOp a.eval o).run P w = .ok (.value (.bool A.isNone)) w := by
    unfold execOp
    rw [ho]
    have e2 : a.eval (.const (.slice none 0 0)) = .slice none 0 0 := rfl
    simp only [hv, e2]
    rw [Sem.run_bind]
    have : (do eqGuard .eql t x (.const (.slice none 0 0)) (.slice A xs.length cap) (.slice none 0 0); binOp .eql t (.slice A xs.length cap) (.slice none 0 0) : Sem Value).run P w = .ok (.bool A.isNone) w := by
      have e3 : (eqGuard .eql t x (.const (.slice none 0 0)) (.slice A xs.length cap) (.slice none 0 0) : Sem Unit) = pure () := rfl
      rw [e3]
      simp only [pure_bind, binOp]
      simp [run_equal_slice_nil w t e A xs.length cap hrow.under]
    rw [this]
    rfl
  refine wp_val (v := .bool A.isNone) (w' := w) hrun ?_
  rw [hd]
  have hset : ∀ b, b = A.isNone → RepB Z M N w0 β (σ.set d (.s (.d .bool b))) (a.put (some d) (.bool A.isNone)) w := fun b hb =>
    hrep.set hdn ((VV_d (t := .bool) rfl).2 (by rw [hb]; rfl))
  cases hA : A with
  | none =>
    have hxs : xs = [] := by
      cases xs with
      | nil => rfl
      | cons y ys =>
        obtain ⟨b, off, h1, _⟩ := hne (by simp)
        rw [hA] at h1; cases h1
    have := hset true (by rw [hA]; rfl)
    rw [hA] at this
    exact hy hxs _ _ ⟨β, this⟩
  | some q =>
    have := hset false (by rw [hA]; rfl)
    rw [hA] at this
    exact hn _ _ ⟨β, this⟩

/-- A function that first compares its slice with nil. -/
theorem nil_first (hT : tabOk P T = true) {f : FuncId} {fn : Func} {cn : Con} {c0 ca cb : Code} {id d nm : Nat} {o1 o2 : Oper} {t t' : TypeId} {x : Operand} {r : Row} {u : Ty} (hf : P.funcs[f]? = some fn) (hn0 : (fn.name == "runtime.NumGoroutine") = false)
    (hb : fn.body = some (.seq c0 (.seq (.seq (.region id #[o1, o2] false) (.cond (.tmp d) ca .skip)) cb))) (hn2 : cn.ps.all noPtr = true ∧ cn.rs.all resK = true) (hnames : ∀ x, namesOk (st0 fn cn.ps x) = true)
    (hg1 : o1.guard = none) (hg2 : o2.guard = none) (ho : o2.op = .binOp .eql t x (.const (.slice none 0 0)) t') (hd : o2.dst = some d) (hr : look T t = some r) (hty : r.ty = .slice u)
    (s1 s2 : denP cn.ps → St) (xs : denP cn.ps → List (den u)) (h1 : ∀ y, run T [] [] c0 (st0 fn cn.ps y) (fun e σ => match e with | .normal => some σ | _ => none) = some (s1 y)) (hdo : ∀ y, dstOk o1.dst (s1 y).nt = true)
    (h2 : ∀ y, opR T [] nm o1 (s1 y) some = some (s2 y)) (hd2 : ∀ y, d < (s2 y).nt) (hev : ∀ y, ev (s2 y) x = some (.s (.d (.slice u) (xs y)))) (hpl : plainC [] c0 = true) (hpa : plainC [] ca = true) (hpb : plainC [] cb = true) (hnt : ∀ y, (s2 y).nt = (st0 fn cn.ps y).nt)
    (hA : ∀ y, xs y = [] → run T [] [] (.seq (.cond (.tmp d) ca .skip) cb) ((s2 y).set d (.s (.d .bool true))) (endE T fn cn.ps cn.rs y) = cn.F y)
    (hB : ∀ y, run T [] [] (.seq (.cond (.tmp d) ca .skip) cb) ((s2 y).set d (.s (.d .bool false))) (endE T fn cn.ps cn.rs y) = cn.F y) : CallsOk P f cn := by
  have hs : Sound P f cn := by
    refine fn_sound_wp (T := T) hT hf hb hn2 fun y z hz => ⟨hnames y, fun Z M N w0 a w Q hrep hK => ?_⟩
    refine wp_seq (run_sound (L := []) hT env_nil (plain_ok hpl) hrep (h1 y) fun e σ' he hn a' w' hr' => ?_)
    cases e with
    | exit i => cases he
    | ret => cases he
    | normal =>
      obtain rfl := Option.some.inj he
      have rest : ∀ {b : Bool} {a'' : Act} {w'' : World}, (b = true → xs y = []) → Rep Z M N w0 ((s2 y).set d (.s (.d .bool b))) a'' w'' → (Code.cond (.tmp d) ca .skip).wp P (Exit.then (cb.wp P Q) Q) a'' w'' := by
        intro b a'' w'' hbt hrep''
        have hrun : run T [] [] (.seq (.cond (.tmp d) ca .skip) cb) ((s2 y).set d (.s (.d .bool b))) (endE T fn cn.ps cn.rs y) = some z := by
          cases b with
          | true => rw [hA y (hbt rfl)]; exact hz
          | false => rw [hB y]; exact hz
        rw [run] at hrun
        refine run_sound (L := []) hT env_nil (plain_ok (by simp [plainC, hpa])) hrep'' hrun fun e σ3 he3 hn3 a3 w3 hr3 => ?_
        have hn3' : σ3.nt = (st0 fn cn.ps y).nt := hn3.trans (hnt y)
        cases e with
        | normal => exact run_sound (L := []) hT env_nil (plain_ok hpb) hr3 he3 fun e σ4 he4 hn4 a4 w4 hr4 => hK e σ4 he4 (hn4.trans hn3') a4 w4 hr4
        | exit i => exact hK (.exit i) σ3 he3 hn3' a3 w3 hr3
        | ret => exact hK .ret σ3 he3 hn3' a3 w3 hr3
      refine wp_seq (wp_seq (wp_region_list ?_))
      unfold wpList
      rw [if_pos (by simp [Region.wanted, hg1])]
      refine .inl ?_
      obtain ⟨β, hr'⟩ := hr'
      refine opR_sound hT env_nil hr' (hdo y) (fun σ4 h4 hn4 a4 w4 hr4 => ?_) (h2 y)
      obtain rfl := Option.some.inj h4
      unfold wpList
      rw [if_pos (by simp [Region.wanted, hg2])]
      exact .inl (nil_test hT hr4 ho hd (hd2 y) hr hty (hev y) (fun hxs a5 w5 hr5 => rest (fun _ => hxs) hr5) (fun a5 w5 hr5 => rest (fun h => by cases h) hr5))
  exact hs.ok (enter_ok hf hn0 (by rw [hb]; rfl))

end Go.Proofs.Yteddlkdbefloaaa.S
