/- Soundness of the machinery S: a call, joined. -/
import Derived.Test.YteddlkdbefloaaaSs
namespace Go.Proofs.Yteddlkdbefloaaa.S
open Go Go.RowKit
set_option linter.unusedVariables false
set_option linter.unusedSimpArgs false

variable {P : Program} {T : Tab} {G : Env} {w w' w0 : World} {S S' S3 Q Z : Nat → Prop} {M M' : Nat → Nat → Prop} {N : Nat → Option (Option (Nat × Nat))} {B : Nat → Option Pl} {a : Act} {σ : St} {β : Names} {H : Heap} {fr l : List Nat}
variable {o : Oper} {next : Act → World → Prop} {Q' : Exit → Act → World → Prop} {R : Type} {K : St → Option R} {y : R}

theorem ev_heap {σ : St} {H : Heap} : ev { σ with H := H } = ev σ := by
  funext x; cases x <;> rfl

/-- Where a call may write: what it was handed. -/
def callM (w : World) (β : Names) (l : List Nat) (bl : List (Nat × Nat × Nat × Nat)) (b i : Nat) : Prop :=
  w.heap.size ≤ b ∨ b ∈ blks β l ∨ ∃ p ∈ bl, ∃ base, β p.2.1 = some (b, base) ∧ base + p.2.2.1 ≤ i ∧ i < base + p.2.2.1 + p.2.2.2

def callB (β : Names) (bl : List (Nat × Nat × Nat × Nat)) (rl : List (Nat × Pl)) : List (Nat × Pl) :=
  bl.map (fun p => (p.1, match β p.2.1 with | some q => Pl.box q.1 (q.2 + p.2.2.1) | none => .row none 0)) ++ rl

/-- What is known of a call that is made: of the caller's state and of what is handed over. -/
structure Hand (Z : Nat → Prop) (M : Nat → Nat → Prop) (N : Nat → Option (Option (Nat × Nat))) (w0 : World) (β : Names) (σ : St) (a : Act) (w : World) (ps : List PK) (xs : List SV) (vs : List Value) (x : denP ps) (l bs : List Nat) : Prop where
  rep : RepB Z M N w0 β σ a w
  args : argsD σ ps xs = some (x, l, bs)
  ln : l.Nodup
  bn : bs.Nodup
  free : freeAs σ.H l bs ps xs = true
  ok : psOk ps = true
  vals : All2 (VV w (RO Z β σ.H) β σ.H) xs vs

def shown (σ : St) (xs : List SV) (l : List Nat) : List Nat := (xs.flatMap (rowsOf σ.H)).filter fun o => !(l.contains o)

section hand
variable {ps : List PK} {xs : List SV} {vs : List Value} {x : denP ps} {bs : List Nat}

theorem Hand.noP (h : Hand Z M N w0 β σ a w ps xs vs x l bs) : ps.all noPtr = true := by
  have hok := h.ok
  simp only [psOk, Bool.and_eq_true] at hok
  exact hok.2

theorem Hand.out (h : Hand Z M N w0 β σ a w ps xs vs x l bs) : ∀ o, o ∈ l → o ∉ shown σ xs l := by
  intro o ho hm
  simp [shown] at hm
  exact hm.2 ho

theorem Hand.live (h : Hand Z M N w0 β σ a w ps xs vs x l bs) {fr : List Nat} (hfr : ∀ o, o ∈ l → o ∉ fr) : ∀ o ∈ l, ∃ e t ys, look (frz σ.H fr) o = some (.row e t ys) := by
  intro o ho
  obtain ⟨e, t, ys, hk⟩ := (argsD_facts (i := 0) h.noP h.args).1 o ho
  exact ⟨e, t, ys, by rw [frz_row (l := fr) hk, if_neg (hfr o ho)]⟩

theorem look_box {fr : List Nat} {o : Nat} {cs : List S1} (h : look H o = some (.box cs)) : look (frz H fr) o = some (.box cs) := by
  rw [frz_same (by intro e t xs e'; rw [h] at e'; cases e'), h]

/-- A box that is handed over. -/
theorem Hand.box (h : Hand Z M N w0 β σ a w ps xs vs x l bs) {p : Nat × Nat × Nat × Nat} (hp : p ∈ bxl 0 ps xs) : ∃ cs b base c e, look σ.H p.2.1 = some (.box cs) ∧ p.2.2.1 + p.2.2.2 ≤ cs.length ∧ β p.2.1 = some (b, base) ∧
    w.heap[b]? = some (.cells c e (0, 0)) ∧ base + cs.length ≤ c.size ∧ (∀ i, i < cs.length → M b (base + i)) ∧ b < w.heap.size ∧ p.2.1 ∈ bs := by
  have hf := argsD_facts (i := 0) h.noP h.args
  obtain ⟨cs, h1, h2⟩ := hf.2.2 p hp
  obtain ⟨b, base, c, e, h3, h4, h5, _⟩ := h.rep.obj _ _ h1
  have := h.rep.own _ _ b base h1 rfl h3
  exact ⟨cs, b, base, c, e, h1, h2, h3, h4, h5, this.1, this.2, by rw [← hf.2.1]; exact List.mem_map_of_mem (f := fun p : Nat × Nat × Nat × Nat => p.2.1) hp⟩

theorem uniq_of {α β : Type} {f : α → β} : ∀ {l : List α}, (l.map f).Nodup → ∀ {p p' : α}, p ∈ l → p' ∈ l → f p = f p' → p = p'
  | q :: r, hn, p, p', hp, hp', e => by
    simp only [List.map_cons, List.nodup_cons] at hn
    rcases List.mem_cons.1 hp with rfl | hp1
    · rcases List.mem_cons.1 hp' with rfl | hp2
      · rfl
      · exact absurd (e ▸ List.mem_map_of_mem (f := f) hp2) hn.1
    · rcases List.mem_cons.1 hp' with rfl | hp2
      · exact absurd (e ▸ List.mem_map_of_mem (f := f) hp1) hn.1
      · exact uniq_of hn.2 hp1 hp2 e

theorem Hand.box1 (h : Hand Z M N w0 β σ a w ps xs vs x l bs) {p p' : Nat × Nat × Nat × Nat} (hp : p ∈ bxl 0 ps xs) (hp' : p' ∈ bxl 0 ps xs) (e : p.2.1 = p'.2.1) : p = p' :=
  uniq_of (f := fun p : Nat × Nat × Nat × Nat => p.2.1) (by rw [(argsD_facts (i := 0) h.noP h.args).2.1]; exact h.bn) hp hp' e

theorem Hand.F (h : Hand Z M N w0 β σ a w ps xs vs x l bs) {b : Nat} (hb : b ∈ blks β l) : ∃ o ∈ l, ∃ e t ys cap, look σ.H o = some (.row e t ys) ∧ β o = some (b, cap) ∧ (∀ i, M b i) ∧ b < w.heap.size := by
  obtain ⟨o, ho, cap, hc⟩ := mem_blks.1 hb
  obtain ⟨e, t, ys, hk⟩ := (argsD_facts (i := 0) h.noP h.args).1 o ho
  have := h.rep.own _ _ b cap hk rfl hc
  exact ⟨o, ho, e, t, ys, cap, hk, hc, this.1, this.2⟩

theorem Hand.may (h : Hand Z M N w0 β σ a w ps xs vs x l bs) : ∀ b i, callM w β l (bxl 0 ps xs) b i → M b i := by
  intro b i hm
  rcases hm with hm | hm | ⟨p, hp, base, h1, h2, h3⟩
  · exact h.rep.fresh b (Nat.le_trans h.rep.below.size hm) i
  · obtain ⟨_, _, _, _, _, _, _, _, h4, _⟩ := h.F hm
    exact h4 i
  · obtain ⟨cs, b', base', c, e, h4, h5, h6, _, _, h7, _⟩ := h.box hp
    rw [h1] at h6
    simp only [Option.some.injEq, Prod.mk.injEq] at h6
    obtain ⟨rfl, rfl⟩ := h6
    have := h7 (i - base) (by omega)
    rwa [show base + (i - base) = i by omega] at this

/-- What the call may write at all is the caller's own. -/
theorem Hand.MOwn (h : Hand Z M N w0 β σ a w ps xs vs x l bs) {fr : List Nat} (hfr : ∀ o, o ∈ l → o ∉ fr) {b i : Nat} (hm : callM w β l (bxl 0 ps xs) b i) (hb : b < w.heap.size) : Own β (frz σ.H fr) b := by
  rcases hm with hm | hm | ⟨p, hp, base, h1, h2, h3⟩
  · omega
  · obtain ⟨o, ho, cap, hc⟩ := mem_blks.1 hm
    obtain ⟨e, t, ys, hk⟩ := h.live hfr o ho
    exact ⟨o, _, cap, hk, rfl, hc⟩
  · obtain ⟨cs, b', base', c, e, h4, _⟩ := h.box hp
    exact ⟨p.2.1, _, base, look_box h4, rfl, h1⟩

theorem Hand.names (h : Hand Z M N w0 β σ a w ps xs vs x l bs) : ((callB β (bxl 0 ps xs) (rwl β σ.H 0 ps xs)).map (·.1)).Nodup := by
  have hok := h.ok
  simp only [psOk, Bool.and_eq_true] at hok
  have := nodupB_nodup hok.1
  rw [callB, List.map_append, List.map_map]
  exact this.sublist (bxl_par.1.append rwl_par.1)

theorem Hand.bl_mem (h : Hand Z M N w0 β σ a w ps xs vs x l bs) {p : Nat × Nat × Nat × Nat} (hp : p ∈ bxl 0 ps xs) {b base : Nat} (hb : β p.2.1 = some (b, base)) : look (callB β (bxl 0 ps xs) (rwl β σ.H 0 ps xs)) p.1 = some (.box b (base + p.2.2.1)) := by
  refine look_of_mem (p := (p.1, Pl.box b (base + p.2.2.1))) h.names ?_
  refine List.mem_append_left _ (List.mem_map.2 ⟨p, hp, by simp only [hb]⟩)

theorem Hand.rl_mem (h : Hand Z M N w0 β σ a w ps xs vs x l bs) {p : Nat × Pl} (hp : p ∈ rwl β σ.H 0 ps xs) : look (callB β (bxl 0 ps xs) (rwl β σ.H 0 ps xs)) p.1 = some p.2 :=
  look_of_mem h.names (List.mem_append_right _ hp)

theorem Hand.bl_of (h : Hand Z M N w0 β σ a w ps xs vs x l bs) {o b base : Nat} (ho : look (callB β (bxl 0 ps xs) (rwl β σ.H 0 ps xs)) o = some (.box b base)) : ∃ p ∈ bxl 0 ps xs, ∃ base0, p.1 = o ∧ β p.2.1 = some (b, base0) ∧ base = base0 + p.2.2.1 := by
  have hm := look_mem ho
  rcases List.mem_append.1 hm with hm | hm
  · obtain ⟨p, hp, e⟩ := List.mem_map.1 hm
    obtain ⟨cs, b', base', c, e', h4, h5, h6, _⟩ := h.box hp
    rw [h6] at e
    simp only [Prod.mk.injEq, Pl.box.injEq] at e
    obtain ⟨rfl, rfl, rfl⟩ := e
    exact ⟨p, hp, base', rfl, h6, rfl⟩
  · obtain ⟨q, n, e⟩ := rwl_par.2 _ hm
    cases e

/-- What a call asks is so. -/
theorem Hand.pre (h : Hand Z M N w0 β σ a w ps xs vs x l bs) :
    Pre (callM w β l (bxl 0 ps xs)) w ps (RO Z β (frz σ.H (shown σ xs l))) (fun b => b ∉ blks β l ∧ ∀ o base, look (callB β (bxl 0 ps xs) (rwl β σ.H 0 ps xs)) o ≠ some (.box b base)) (fun o => look (callB β (bxl 0 ps xs) (rwl β σ.H 0 ps xs)) o) (blks β l) := by
  have hinj := h.rep.inj
  refine ⟨fun b hb i => .inl hb, ?_, fun b hb => ⟨fun i => .inr (.inl hb), ?_⟩, ?_, ?_, ?_, ?_, fun b hb => hb⟩
  · refine blks_nodup (l := l) ?_ (fun o ho => ho) h.ln
    intro o o' b cap cap' ho ho' hb hb'
    obtain ⟨e, t, ys, hk⟩ := (argsD_facts (i := 0) h.noP h.args).1 o ho
    obtain ⟨e', t', ys', hk'⟩ := (argsD_facts (i := 0) h.noP h.args).1 o' ho'
    exact hinj o o' _ _ b cap cap' hk rfl hk' rfl hb hb'
  · obtain ⟨_, _, _, _, _, _, _, _, _, h4⟩ := h.F hb
    exact h4
  · intro o b base ho
    obtain ⟨p, hp, base0, rfl, h1, rfl⟩ := h.bl_of ho
    obtain ⟨cs, b', base', c, e', h4, h5, h6, h7, h8, h9, h10, h11⟩ := h.box hp
    rw [h1] at h6
    simp only [Option.some.injEq, Prod.mk.injEq] at h6
    obtain ⟨rfl, rfl⟩ := h6
    obtain ⟨ci, g1, g2⟩ := bxl_par.2 p hp
    refine ⟨List.mem_map_of_mem (f := (·.1)) g1, fun hb => ?_, h10, fun ci' hci i hi => ?_⟩
    · obtain ⟨o', ho', e, t, ys, cap, hk, hc, _⟩ := h.F hb
      have := hinj _ _ _ _ b base0 cap h4 rfl hk rfl h1 hc
      rw [this, hk] at h4
      cases h4
    · have hok := h.ok
      simp only [psOk, Bool.and_eq_true] at hok
      have hn := nodupB_nodup hok.1
      have hn1 := (List.nodup_append.1 hn).1
      have e1 := look_of_mem hn1 g1
      have e2 := look_of_mem hn1 hci
      simp only at e1 e2
      rw [e1] at e2
      obtain rfl := Option.some.inj e2
      exact .inr (.inr ⟨p, hp, base0, h1, by omega, by omega⟩)
  · intro o q n ho
    have hm := look_mem ho
    rcases List.mem_append.1 hm with hm | hm
    · obtain ⟨p, hp, e⟩ := List.mem_map.1 hm
      obtain ⟨cs, b', base', c, e', h4, h5, h6, _⟩ := h.box hp
      rw [h6] at e
      simp at e
    · exact rwl_par.1.subset (List.mem_map_of_mem (f := (·.1)) hm)
  · intro o o' b base base' ho ho'
    obtain ⟨p, hp, base0, rfl, h1, _⟩ := h.bl_of ho
    obtain ⟨p', hp', base0', rfl, h1', _⟩ := h.bl_of ho'
    obtain ⟨cs, _, _, _, _, h4, _⟩ := h.box hp
    obtain ⟨cs', _, _, _, _, h4', _⟩ := h.box hp'
    have := hinj _ _ _ _ b base0 base0' h4 rfl h4' rfl h1 h1'
    rw [h.box1 hp hp' this]
  · intro b _ hb
    refine ⟨fun hF => ?_, fun o base ho => ?_⟩
    · obtain ⟨o', ho', cap, hc⟩ := mem_blks.1 hF
      obtain ⟨e, t, ys, hk⟩ := h.live h.out o' ho'
      exact hb.2 ⟨o', _, cap, hk, rfl, hc⟩
    · obtain ⟨p, hp, base0, rfl, h1, _⟩ := h.bl_of ho
      obtain ⟨cs, _, _, _, _, h4, _⟩ := h.box hp
      exact hb.2 ⟨p.2.1, _, base0, look_box h4, rfl, h1⟩

theorem Hand.vals1 (h : Hand Z M N w0 β σ a w ps xs vs x l bs) {fr : List Nat} : All2 (VV w (RO Z β (frz σ.H fr)) β (frz σ.H fr)) xs vs :=
  h.vals.mono fun _ _ hv => h.rep.frzV hv fr

/-- The arguments are as a call asks. -/
theorem Hand.argsR (h : Hand Z M N w0 β σ a w ps xs vs x l bs) :
    ArgsR w (RO Z β (frz σ.H (shown σ xs l))) (fun b => b ∉ blks β l ∧ ∀ o base, look (callB β (bxl 0 ps xs) (rwl β σ.H 0 ps xs)) o ≠ some (.box b base)) (fun o => look (callB β (bxl 0 ps xs) (rwl β σ.H 0 ps xs)) o) 0 ps x vs (blks β l) := by
  have hr := h.rep.frz (shown σ xs l)
  have hinj := h.rep.inj
  have hok := h.ok
  simp only [psOk, Bool.and_eq_true] at hok
  have notF : ∀ o e t ys b cap, look σ.H o = some (.row e t ys) → o ∉ l → β o = some (b, cap) → b ∉ blks β l := by
    intro o e t ys b cap hk ho hb hF
    obtain ⟨o', ho', e', t', ys', cap', hk', hc, _⟩ := h.F hF
    have := hinj _ _ _ _ b cap cap' hk rfl hk' rfl hb hc
    exact ho (this ▸ ho')
  refine args_sound (S0 := RO Z β σ.H) (fr := shown σ xs l) (l := l) (bs := bs) hr.owns h.rep.owns ?_ ?_ h.out ?_ ?_ h.vals1 h.vals h.args (fun o ho => ho) (fun o ho => ho) h.free hok.2 ?_ ?_ ?_
  · intro t d cs
    refine Rp_keep fun b _ hb => ⟨⟨hb.1, fun hO => hb.2 ?_⟩, rfl⟩
    obtain ⟨o, ob, cap, h1, h2, h3⟩ := hO
    by_cases hrow : ∃ e t ys, look σ.H o = some (.row e t ys)
    · obtain ⟨e, t, ys, hk⟩ := hrow
      exact ⟨o, _, cap, hk, rfl, h3⟩
    · rw [frz_same fun e t ys e' => hrow ⟨e, t, ys, e'⟩] at h1
      exact ⟨o, ob, cap, h1, h2, h3⟩
  · intro b hb
    refine ⟨fun hF => ?_, fun o base ho => ?_⟩
    · obtain ⟨o', ho', cap, hc⟩ := mem_blks.1 hF
      obtain ⟨e, t, ys, hk⟩ := h.live h.out o' ho'
      exact hb ⟨o', _, cap, hk, rfl, hc⟩
    · obtain ⟨p, hp, base0, rfl, h1, _⟩ := h.bl_of ho
      obtain ⟨cs, _, _, _, _, h4, _⟩ := h.box hp
      exact hb ⟨p.2.1, _, base0, look_box h4, rfl, h1⟩
  · intro o cs b base hk ho hb
    refine ⟨fun hF => ?_, fun o' base' ho' => ?_⟩
    · obtain ⟨o', ho', e', t', ys', cap', hk', hc, _⟩ := h.F hF
      have := hinj _ _ _ _ b base cap' hk rfl hk' rfl hb hc
      rw [this, hk'] at hk
      cases hk
    · obtain ⟨p, hp, base0, rfl, h1, _⟩ := h.bl_of ho'
      obtain ⟨cs', _, _, _, _, h4, _, _, _, _, _, _, h5⟩ := h.box hp
      have := hinj _ _ _ _ b base base0 hk rfl h4 rfl hb h1
      exact ho (this ▸ h5)
  · intro o e t ys b cap hk ho hb
    refine ⟨notF o e t ys b cap hk ho hb, fun o' base' ho' => ?_⟩
    obtain ⟨p, hp, base0, rfl, h1, _⟩ := h.bl_of ho'
    obtain ⟨cs', _, _, _, _, h4, _⟩ := h.box hp
    have := hinj _ _ _ _ b cap base0 hk rfl h4 rfl hb h1
    rw [this, h4] at hk
    cases hk
  · intro s hs
    refine ⟨h.out, fun o ho e t ys hk hol => ?_⟩
    simp only [shown, List.mem_filter, List.mem_flatMap, List.contains_eq_mem, Bool.not_eq_true', decide_eq_false_iff_not]
    exact ⟨⟨s, hs, ho⟩, hol⟩
  · intro p hp
    obtain ⟨cs, b, base, c, e, _, _, h6, _⟩ := h.box hp
    exact ⟨b, base, h6, h.bl_mem hp h6⟩
  · intro p hp
    exact h.rl_mem hp

end hand
end Go.Proofs.Yteddlkdbefloaaa.S
