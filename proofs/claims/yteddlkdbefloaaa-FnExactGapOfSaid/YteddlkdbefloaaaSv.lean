/- Soundness of the machinery S: operations one behind another, code. -/
import Derived.Test.YteddlkdbefloaaaSua
import Derived.LoopN
namespace Go.Proofs.Yteddlkdbefloaaa.S
open Go Go.RowKit
set_option linter.unusedVariables false
set_option linter.unusedSimpArgs false

variable {P : Program} {T : Tab} {G : Env} {w w' w0 : World} {Z : Nat → Prop} {M : Nat → Nat → Prop} {N : Nat → Option (Option (Nat × Nat))} {a : Act} {σ : St} {β : Names} {l : List Nat}
variable {o : Oper} {next : Act → World → Prop} {Q : Exit → Act → World → Prop} {R : Type} {K : St → Option R} {y : R} {qo : Out}

theorem nlOk_sound {S : Nat → Prop} {H : Heap} {b : Bool} {xs : List SV} {vs : List Value} (h : nlOk b xs = true) (hv : All2 (VV w S β H) xs vs) : nlV b vs := by
  cases b with
  | false => trivial
  | true =>
    cases hv with
    | nil => simp [nlOk] at h
    | cons h1 _ =>
      rename_i x v _ _ _
      cases x with
      | g _ => simp [nlOk] at h
      | s c =>
        cases c <;> first | (simp [nlOk] at h; done) | skip
        obtain rfl : v = Value.slice none 0 0 := h1
        exact ⟨_, rfl⟩

theorem op_call {nm : Nat} (hG : EnvOk P G) (hrep : RepB Z M N w0 β σ a w) (hd : dstOk o.dst σ.nt = true) (hg : GoOn Z M N w0 σ K y next) {c : Call} (ho : o.op = .call c) {f : Operand} (hc : c.callee = .value f)
    (h : opR T G nm o σ K = some y) : o.wp P a w next Q := by
  unfold opR at h
  rw [ho] at h
  simp only [hc] at h
  split at h
  · rename_i g lc xs0 hf hxs0
    obtain ⟨us, hfv, hus⟩ : ∃ us : List Value, a.eval f = .func (.func g) #[] us.toArray ∧ All2 (PR w (RO Z β σ.H) β σ.H) lc us := (VV_s (by intros; simp)).1 (ev_sound hrep hf)
    have hcap : ∀ {lc : List Cap} {us : List Value}, All2 (PR w (RO Z β σ.H) β σ.H) lc us → All2 (VV w (RO Z β σ.H) β σ.H) (lc.map fun c => .s (capS c)) us := fun {lc us} h => by
      induction h with
      | nil => exact .nil
      | @cons c u _ _ h1 _ ih => exact .cons (by cases c <;> exact h1) ih
    have hvs := (mapO_ev hrep hxs0).append (hcap hus)
    revert h
    generalize (xs0 ++ lc.map fun c => SV.s (capS c)) = xs at hvs ⊢
    intro h
    split at h
    · rename_i cn hcn
      unfold callR at h
      obtain ⟨q, hq, h⟩ := Option.bind_eq_some_iff.1 h
      split at h
      · rename_i hchk
        obtain ⟨yy, hy, h⟩ := Option.bind_eq_some_iff.1 h
        simp only at h
        split at h
        · rename_i hchk2
          simp only [Bool.and_eq_true] at hchk hchk2
          obtain ⟨⟨⟨⟨c0, c1⟩, c2⟩, c3⟩, c4⟩ := hchk
          let vs := c.args.toList.map a.eval ++ us
          have hh : Hand Z M N w0 β σ a w cn.ps xs vs q.1 q.2.1 q.2.2 := ⟨hrep, hq, nodupB_nodup c1, nodupB_nodup c2, c3, c4, hvs⟩
          have hrun : (execOp a.eval o).run P w = (callFunc g vs.toArray).run P w := by
            have e1 : Array.map a.eval c.args ++ us.toArray = vs.toArray := by
              rw [← Array.toList_inj]; simp [vs]
            unfold execOp
            rw [ho]
            simp [resolve, hc, hfv, Deferred.ofValue, invoke, e1]
          unfold Oper.wp
          rw [hrun]
          have hnl : nlV cn.nl vs := nlOk_sound c0 hvs
          refine hG (g, cn) (lookC_mem hcn) q.1 yy hy w vs _ _ _ _ _ hh.pre hh.argsR hnl o a next Q fun v w' hpost => ?_
          exact hg _ h rfl _ _ (hand_back hh hpost hchk2.1 hchk2.2 hd)
        · cases h
      · cases h
    · cases h
  · cases h

theorem ite_bind {p : Prop} [Decidable p] {α γ : Type} {x z : Option α} {f : α → Option γ} : (if p then x else z).bind f = if p then x.bind f else z.bind f := by split <;> rfl

theorem pureC_bind {K : Out → Option R} : pureC T o σ K = (pureR T o σ).bind K := by
  unfold pureR pureC
  simp only [binC_bind]
  split <;> (repeat' split) <;> first | rfl | (simp only [kv, Option.bind_assoc, ite_bind, Option.bind_some, Option.bind_none]; done)

theorem toCaps_sound {S : Nat → Prop} {H : Heap} : ∀ {vs : List SV} {l : List Cap} {us : List Value}, All2 (VV w S β H) vs us → mapO toCap vs = some l → All2 (PR w S β H) l us
  | [], _, _, .nil, h => by
    simp only [mapO, Option.some.injEq] at h
    subst h; exact .nil
  | x :: r, _, _, .cons h1 h2, h => by
    simp only [mapO] at h
    split at h
    · rename_i y hy
      split at h
      · rename_i z hz
        obtain rfl := Option.some.inj h
        refine .cons ?_ (toCaps_sound h2 hz)
        unfold toCap at hy
        split at hy
        · obtain rfl := Option.some.inj hy; exact h1
        · obtain rfl := Option.some.inj hy; exact h1
        · cases hy
      · cases h
    · cases h

theorem op_makeFunc (hrep : RepB Z M N w0 β σ a w) (hd : dstOk o.dst σ.nt = true) (hg : GoP Z M N w0 σ o qo next) {fn : Fn} {first caps : Array Operand} (ho : o.op = .makeFunc fn first caps)
    (h : pureR T o σ = some qo) : o.wp P a w next Q := by
  unfold pureR pureC at h
  rw [ho] at h
  simp only at h
  split at h
  · rename_i f vs hf1 hvs
    split at h
    · rename_i l hl
      obtain rfl := val1_some h
      have hall := toCaps_sound (mapO_ev hrep hvs) hl
      have hf0 : first = #[] := by
        apply Array.ext'; simpa using hf1
      refine wp_val (v := .func (.func f) #[] (caps.map a.eval)) (w' := w) ?_ (hg _ _ ⟨β, hrep.val hd ?_⟩)
      · unfold execOp
        rw [ho, hf0]
        simp [Instr.makeFunc]
      · refine (VV_s (by intros; simp)).2 ⟨_, ?_, hall⟩
        congr 1
        apply Array.ext'
        simp
    · cases h
  · cases h

theorem pureR_sound (hT : tabOk P T = true) (hrep : RepB Z M N w0 β σ a w) (hd : dstOk o.dst σ.nt = true) (hg : GoP Z M N w0 σ o qo next) (h : pureR T o σ = some qo) : o.wp P a w next Q := by
  cases ho : o.op with
  | move x => exact op_move hrep hd hg (.inl ho) (by unfold pureR pureC at h; rw [ho] at h; exact h)
  | assign x => exact op_move hrep hd hg (.inr ho) (by unfold pureR pureC at h; rw [ho] at h; exact h)
  | pick c x z => exact op_pick hrep hd hg ho h
  | alloc t => exact op_alloc hT hrep hd hg ho h
  | box t x => exact op_box hT hrep hd hg ho h
  | build t ps => exact op_build hT hrep hd hg ho h
  | buildSlice t n ps => exact op_buildSlice hT hrep hd hg ho h
  | load t x => exact op_load hT hrep hd hg ho h
  | nilCheck x => exact op_nilCheck hrep hd hg ho h
  | binOp op t x z t' => exact op_binOp hrep hd hg ho hT h
  | unOp op t x => exact op_unOp hrep hd hg ho h
  | convert t u x => exact op_convert hT hrep hd hg ho h
  | makeSlice t x z => exact op_makeSlice hT hrep hd hg ho h
  | slice t x lo hi mx => exact op_slice hT hrep hd hg ho h
  | fieldAddr t x k => exact op_fieldAddr hT hrep hd hg ho h
  | field t x k => exact op_field hT hrep hd hg ho h
  | indexAddr t x z => exact op_indexAddr hT hrep hd hg ho h
  | index t x z => exact op_index hT hrep hd hg ho h
  | extract x k => exact op_extract hrep hd hg ho h
  | makeFunc g fs cs => exact op_makeFunc hrep hd hg ho h
  | makeMap t r => exact op_makeMap hrep hd hg ho h
  | lookup t m x ok => exact op_lookup hT hrep hd hg ho h
  | call c =>
    cases hc : c.callee with
    | builtin b =>
      cases b with
      | len => exact op_len hT hrep hd hg ho hc h
      | max => exact op_max hrep hd hg ho hc h
      | min => exact op_min hrep hd hg ho hc h
      | _ => unfold pureR pureC at h; rw [ho] at h; simp only [hc] at h; cases h
    | _ => unfold pureR pureC at h; rw [ho] at h; simp only [hc] at h; cases h
  | _ => unfold pureR pureC at h; rw [ho] at h; cases h

theorem GoOn.pure (hg : GoOn Z M N w0 σ K y next) (h : K (addO σ o.dst qo) = some y) : GoP Z M N w0 σ o qo next := fun a' w' hr => hg _ h rfl a' w' hr

theorem opR_sound {nm : Nat} (hT : tabOk P T = true) (hG : EnvOk P G) (hrep : RepB Z M N w0 β σ a w) (hd : dstOk o.dst σ.nt = true) (hg : GoOn Z M N w0 σ K y next) (h : opR T G nm o σ K = some y) : o.wp P a w next Q := by
  have pure : (pureR T o σ).bind (fun q => K (addO σ o.dst q)) = some y → o.wp P a w next Q := by
    intro h
    obtain ⟨q, hq, h⟩ := Option.bind_eq_some_iff.1 h
    exact pureR_sound hT hrep hd (hg.pure h) hq
  have pure : (pureC T o σ fun q => K (addO σ o.dst q)) = some y → o.wp P a w next Q := fun h => pure (by rw [← pureC_bind]; exact h)
  cases ho : o.op with
  | store t x z => exact op_store hT hrep hd hg ho h
  | mapUpdate t m x v => exact op_mapUpdate hT hrep hg ho h
  | call c =>
    cases hc : c.callee with
    | builtin b =>
      cases b with
      | append => exact op_append hT hrep hd hg ho hc h
      | _ => refine pure ?_; unfold opR at h; rw [ho] at h; simp only [hc] at h; exact h
    | value f => exact op_call hG hrep hd hg ho hc h
    | _ => refine pure ?_; unfold opR at h; rw [ho] at h; simp only [hc] at h; exact h
  | _ => refine pure ?_; unfold opR at h; rw [ho] at h; exact h

/-- What is known of a slot may be said in other words. -/
theorem RepB.know (h : RepB Z M N w0 β σ a w) {i : Nat} {z : SV} (hi : i < a.tmps.size) (hv : VV w (RO Z β σ.H) β σ.H z (a.tmps.getD i undef)) : RepB Z M N w0 β (σ.set i z) a w where
  fresh := h.fresh
  whole := h.whole
  pin := h.pin
  defers := h.defers
  size := h.size
  below := h.below
  own := h.own
  inj := h.inj
  obj := h.obj
  env := by
    intro k x hx
    simp only [St.set, look_cons] at hx
    by_cases e : i = k
    · subst e
      rw [if_pos rfl] at hx
      obtain rfl := Option.some.inj hx
      exact ⟨hi, hv⟩
    · rw [if_neg e] at hx
      exact h.env k x hx

theorem skip_nt (σ : St) (i : Option Nat) : (σ.skip i).nt = σ.nt := by cases i <;> rfl

theorem yield_none {all : Array Oper} {j t : Nat} (ht : (all[j]?).bind (·.dst) = some t) (hb : look σ.env t = some (.t [])) (hrep : RepB Z M N w0 β σ a w) : yielded all a.tmps j = none := by
  obtain ⟨hi, vs, hv, hall⟩ := hrep.env t _ hb
  cases hall
  have hv : a.tmps.getD t undef = .tuple #[] := hv
  have : a.tmps[t]? = some (.tuple #[]) := by
    rw [Array.getElem?_eq_getElem hi]
    rw [Array.getD_eq_getD_getElem?, Array.getElem?_eq_getElem hi] at hv
    exact congrArg some hv
  simp [yielded, ht, this]

theorem opsR_sound (hT : tabOk P T = true) (hG : EnvOk P G) {all : Array Oper} : ∀ {ops : List Oper} {nm : Nat} {σ : St} {a : Act} {w : World}, Rep Z M N w0 σ a w → opsR T G all nm ops σ K = some y →
    (∀ σ', K σ' = some y → σ'.nt = σ.nt → ∀ a' w', Rep Z M N w0 σ' a' w' → Q .normal a' w') → wpList P all Q ops a w
  | [], _, σ, a, w, hrep, h, hK => hK σ h rfl a w hrep
  | o :: r, nm, σ, a, w, hrep, h, hK => by
    obtain ⟨β, hrep⟩ := hrep
    simp only [opsR] at h
    split at h
    · cases h
    · rename_i hd
      have hd : dstOk o.dst σ.nt = true := by simpa using hd
      have go : ∀ {σ1 : St}, σ1.nt = σ.nt → RepB Z M N w0 β σ1 a w → (opR T G nm o σ1 fun σ' => opsR T G all (nm + 500) r σ' K) = some y → o.wp P a w (wpList P all Q r) Q := by
        intro σ1 hnt hrep1 h1
        refine opR_sound hT hG hrep1 (by rw [hnt]; exact hd) (fun σ' h2 hn a' w' hr => ?_) h1
        exact opsR_sound hT hG hr h2 fun σ'' h3 hn' => hK σ'' h3 (by rw [hn', hn, hnt])
      unfold wpList
      split at h
      · rename_i hgd
        have : Region.wanted o (yielded all a.tmps) = true := by simp [Region.wanted, hgd]
        rw [if_pos this]
        exact .inl (go rfl hrep h)
      · rename_i j want hgd
        split at h
        · rename_i t ht
          split at h
          · rename_i b hb
            obtain ⟨hi, hv⟩ := hrep.env t _ hb
            have hv : VV w (RO Z β σ.H) β σ.H (.s (.d .bool b)) (a.tmps.getD t undef) := hv
            have hv' := VV_bool (S := RO Z β σ.H) (β := β) (H := σ.H) hv
            have hy : yielded all a.tmps j = some b := by
              have : a.tmps[t]? = some (.bool b) := by
                rw [Array.getElem?_eq_getElem hi]
                rw [Array.getD_eq_getD_getElem?, Array.getElem?_eq_getElem hi] at hv'
                exact congrArg some hv'
              simp [yielded, ht, this]
            split at h
            · rename_i e
              subst e
              have : Region.wanted o (yielded all a.tmps) = true := by simp [Region.wanted, hgd, hy]
              rw [if_pos this]
              exact .inl (go (σ1 := σ.set t (.s (.d .bool b))) rfl (hrep.know hi hv) h)
            · rename_i e
              have : ¬ (Region.wanted o (yielded all a.tmps) = true) := by simpa [Region.wanted, hgd, hy] using e
              rw [if_neg this]
              have hb' : b = !want := by cases b <;> cases want <;> simp_all
              subst hb'
              refine opsR_sound hT hG ⟨β, (hrep.know hi hv).skip hd⟩ h fun σ'' h3 hn' => hK σ'' h3 (by rw [hn', skip_nt]; rfl)
          · rename_i hb
            have : ¬ (Region.wanted o (yielded all a.tmps) = true) := by
              have hy := yield_none ht hb hrep
              simp [Region.wanted, hgd, hy]
            rw [if_neg this]
            refine opsR_sound hT hG ⟨β, hrep.skip hd⟩ h fun σ'' h3 hn' => hK σ'' h3 (by rw [hn', skip_nt])
          · cases h
        · cases h

end Go.Proofs.Yteddlkdbefloaaa.S
