/- Machinery S: operations of which the text does not fix the order. -/
import Derived.Test.YteddlkdbefloaaaSvba
namespace Go.Proofs.Yteddlkdbefloaaa.S
open Go Go.RowKit
set_option linter.unusedVariables false
set_option linter.unusedSimpArgs false

variable {P : Program} {T : Tab} {G : Env} {w w' w0 : World} {Z : Nat → Prop} {M : Nat → Nat → Prop} {N : Nat → Option (Option (Nat × Nat))} {a : Act} {σ σ' : St} {β : Names}
variable {o : Oper} {Q : Exit → Act → World → Prop} {R : Type} {ops : Array Oper}

/-! ### states that say the same -/
structure Leq (σ σ' : St) : Prop where
  nt : σ'.nt = σ.nt
  env : ∀ i, look σ'.env i = look σ.env i
  H : ∀ i, look σ'.H i = look σ.H i

theorem Leq.refl (σ : St) : Leq σ σ := ⟨rfl, fun _ => rfl, fun _ => rfl⟩
theorem Leq.symm (h : Leq σ σ') : Leq σ' σ := ⟨h.nt.symm, fun i => (h.env i).symm, fun i => (h.H i).symm⟩
theorem Leq.trans {σ'' : St} (h : Leq σ σ') (k : Leq σ' σ'') : Leq σ σ'' := ⟨k.nt.trans h.nt, fun i => (k.env i).trans (h.env i), fun i => (k.H i).trans (h.H i)⟩

theorem Leq.pre (h : Leq σ σ') (pe : List (Nat × Sl)) (pH : Heap) : Leq (σ.pre pe pH) (σ'.pre pe pH) :=
  ⟨h.nt, fun i => by simp only [St.pre, look_append]; rw [h.env i], fun i => by simp only [St.pre, look_append]; rw [h.H i]⟩

theorem Own_same {H H' : Heap} (h : ∀ i, look H' i = look H i) {b : Nat} (ho : Own β H' b) : Own β H b := by
  obtain ⟨o, ob, cap, h1, h2, h3⟩ := ho
  exact ⟨o, ob, cap, by rw [← h o]; exact h1, h2, h3⟩

theorem Step_same {S' : Nat → Prop} {q : Option (Nat × Nat)} : ∀ {ob : Ob}, Step w S' q ob q (some ob)
  | .dead => trivial
  | .box cs => ⟨⟨cs, rfl⟩, rfl⟩
  | .row e t xs => ⟨xs, rfl, rfl, rfl⟩
  | .fro t xs => .inl rfl
  | .map es => ⟨⟨es, rfl⟩, rfl⟩

theorem RepB.same (h : RepB Z M N w0 β σ a w) (hl : Leq σ σ') : RepB Z M N w0 β σ' a w := by
  have hp : ∀ b, b < w.heap.size → ¬ Own β σ.H b → ¬ Own β σ'.H b ∧ w.heap[b]? = w.heap[b]? := fun b _ hb => ⟨fun ho => hb (Own_same hl.H ho), rfl⟩
  have hk : ∀ b, b < w.heap.size → RO Z β σ.H b → RO Z β σ'.H b ∧ w.heap[b]? = w.heap[b]? := RO_step hp
  have hn : ∀ o ob, look σ.H o = some ob → Step w (RO Z β σ'.H) (β o) ob (β o) (look σ'.H o) := fun o ob ho => by rw [hl.H o, ho]; exact Step_same
  refine { h with
    pin := fun o q hq => ?_
    size := by rw [h.size, hl.nt]
    own := fun o ob b cap ho => ?_
    inj := fun o o' ob ob' b cap cap' ho hlo ho' => ?_
    obj := fun o ob ho => ?_
    env := fun i x hx => ?_ }
  · have := h.pin o q hq
    rw [hl.H o]; exact this
  · rw [hl.H o] at ho; exact h.own o ob b cap ho
  · rw [hl.H o] at ho; rw [hl.H o'] at ho'; exact h.inj o o' ob ob' b cap cap' ho hlo ho'
  · rw [hl.H o] at ho
    have := h.obj o ob ho
    cases ob with
    | box cs =>
      obtain ⟨b, base, c, e, h1, h2, h3, h4⟩ := this
      exact ⟨b, base, c, e, h1, h2, h3, h4.mono fun x v hx => ⟨VS_step hk hp hn hx.1, hx.2⟩⟩
    | row e t xs =>
      rcases this with h1 | ⟨b, cap, c, rows, h1, h2, h3, h4, h5, h6, h7⟩
      · exact .inl h1
      · exact .inr ⟨b, cap, c, rows, h1, h2, h3, h4, h5, RpL_mono (fun x r hr => Rp_keep hk hr) h6, h7⟩
    | _ => trivial
  · rw [hl.env i] at hx
    obtain ⟨h1, h2⟩ := h.env i x hx
    exact ⟨h1, VL_step hk hp hn h2⟩

theorem Rep.same (h : Rep Z M N w0 σ a w) (hl : Leq σ σ') : Rep Z M N w0 σ' a w := h.elim fun β h => ⟨β, h.same hl⟩

/-- A draw from the tape of orders turns nothing that is spoken of. -/
theorem RepB.drawn (h : RepB Z M N w0 β σ a w) (n : Nat) : RepB Z M N w0 β σ a { w with drawn := n } := by
  have hp : ∀ b, b < w.heap.size → ¬ Own β σ.H b → ¬ Own β σ.H b ∧ ({ w with drawn := n } : World).heap[b]? = w.heap[b]? := fun b _ hb => ⟨hb, rfl⟩
  have hk : ∀ b, b < w.heap.size → RO Z β σ.H b → RO Z β σ.H b ∧ ({ w with drawn := n } : World).heap[b]? = w.heap[b]? := RO_step hp
  have hn : ∀ o ob, look σ.H o = some ob → Step { w with drawn := n } (RO Z β σ.H) (β o) ob (β o) (look σ.H o) := fun o ob ho => by rw [ho]; exact Step_same
  refine { h with
    below := ⟨h.below.os, h.below.tape, h.below.output, h.below.size, h.below.block, h.below.cells⟩
    obj := fun o ob ho => ?_
    env := fun i x hx => ?_ }
  · have := h.obj o ob ho
    cases ob with
    | box cs =>
      obtain ⟨b, base, c, e, h1, h2, h3, h4⟩ := this
      exact ⟨b, base, c, e, h1, h2, h3, h4.mono fun x v hx => ⟨VS_step hk hp hn hx.1, hx.2⟩⟩
    | row e t xs =>
      rcases this with h1 | ⟨b, cap, c, rows, h1, h2, h3, h4, h5, h6, h7⟩
      · exact .inl h1
      · exact .inr ⟨b, cap, c, rows, h1, h2, h3, h4, h5, RpL_mono (fun x r hr => Rp_keep hk hr) h6, h7⟩
    | _ => trivial
  · obtain ⟨h1, h2⟩ := h.env i x hx
    exact ⟨h1, VL_step hk hp hn h2⟩

/-! ### one of the operations -/
structure Rec where
  it : It
  pe : List (Nat × Sl)
  pH : Heap

structure StepOk (P : Program) (ops : Array Oper) (Q : Exit → Act → World → Prop) (Z : Nat → Prop) (M : Nat → Nat → Prop) (N : Nat → Option (Option (Nat × Nat))) (w0 : World) (i : Nat) (r : Rec) (τ : St) : Prop where
  pe : ∀ p ∈ r.pe, r.it.dst = some p.1
  pH : ∀ p ∈ r.pH, p.1 ∈ r.it.wr
  wp : ∀ σ2 : St, σ2.nt = τ.nt → (∀ t ∈ r.it.rd, look σ2.env t = look τ.env t) → agN τ.H σ2.H r.it.tch → ∀ a w, Rep Z M N w0 σ2 a w →
    ∀ K : Act → World → Prop, (∀ a' w', Rep Z M N w0 (σ2.pre r.pe r.pH) a' w' → K a' w') → wpOp P ops Q i K a w

theorem StepOk.same {i : Nat} {r : Rec} (h : StepOk P ops Q Z M N w0 i r σ) (hl : Leq σ σ') : StepOk P ops Q Z M N w0 i r σ' where
  pe := h.pe
  pH := h.pH
  wp := fun σ2 hnt henv hH => h.wp σ2 (hnt.trans hl.nt) (fun t ht => (henv t ht).trans (hl.env t)) (fun n hn => (hH n hn).trans (hl.H n))

theorem agO_of {σ2 : St} {all : Array Oper} (hnt : σ2.nt = σ.nt) (henv : ∀ t ∈ o.looksAt all, look σ2.env t = look σ.env t) (hH : agN σ.H σ2.H (closeN σ.H (argNames σ (o.looksAt all)))) : AgO o σ σ2 := by
  have hmem : ∀ t, Operand.tmp t ∈ o.op.operands → t ∈ o.looksAt all := fun t ht =>
    List.mem_append_left _ (List.mem_filterMap.2 ⟨.tmp t, by simpa using ht, rfl⟩)
  refine ⟨hnt, fun x hx => ?_, fun t ht => henv t (hmem t ht), fun x hx v hv => ?_⟩
  · cases x with
    | tmp t => simp only [ev]; rw [henv t (hmem t hx)]
    | _ => rfl
  · cases x with
    | tmp t =>
      refine hH.sub (close_mono fun n hn => ?_)
      simp only [ev] at hv
      split at hv
      · rename_i y hy
        obtain rfl := Option.some.inj hv
        refine List.mem_flatMap.2 ⟨t, hmem t hx, ?_⟩
        rw [hy]
        exact hn
      · obtain rfl := Option.some.inj hv; simp [namesV, namesC] at hn
      · cases hv
    | const c =>
      have : namesV v = [] := by
        simp only [ev] at hv
        unfold constV at hv
        split at hv <;> first | (obtain rfl := Option.some.inj hv; rfl) | cases hv
      rw [this]; intro n hn; simp [closeN] at hn
    | func f =>
      simp only [ev] at hv
      obtain rfl := Option.some.inj hv
      intro n hn; simp [closeN, namesV, namesC] at hn
    | global g => simp [ev] at hv

theorem wrOf_pre {pe : List (Nat × Sl)} {pH : Heap} : wrOf σ (σ.pre pe pH) = pH.map (·.1) := by
  unfold wrOf St.pre
  simp

theorem do_step (hT : tabOk P T = true) (hG : EnvOk P G) {i nm anc : Nat} {pe : List (Nat × Sl)} {pH : Heap} (ho : ops[i]? = some o) (hd : dstOk o.dst σ.nt = true)
    (hpe : ∀ p ∈ pe, o.dst = some p.1) (hloc : Loc T G nm o σ pe pH)
    (hw : ∀ σ2 : St, (∀ t ∈ o.looksAt ops, look σ2.env t = look σ.env t) → ∀ a w, Rep Z M N w0 σ2 a w → Region.wanted o (yielded ops a.tmps) = true) :
    StepOk P ops Q Z M N w0 i ⟨itOf ops anc o σ (σ.pre pe pH), pe, pH⟩ σ where
  pe := hpe
  pH := fun p hp => by simp only [itOf, wrOf_pre]; exact List.mem_map_of_mem hp
  wp := by
    intro σ2 hnt henv hH a w hrep K hK
    have hag := agO_of (o := o) (all := ops) hnt henv hH.left
    have hop := hloc σ2 hag (by have := hH.right; rw [wrOf_pre] at this; exact this)
    have hwt := hw σ2 henv a w hrep
    unfold wpOp
    rw [ho]
    simp only
    rw [if_pos hwt]
    obtain ⟨β, hrep⟩ := hrep
    refine .inl (opR_sound (K := some) hT hG hrep (by rw [hnt]; exact hd) (fun σ' h1 hn a' w' hr => ?_) hop)
    obtain rfl := Option.some.inj h1
    exact hK a' w' hr

theorem yield_of {σ2 : St} {j t : Nat} {b : Bool} (ht : (ops[j]?).bind (·.dst) = some t) (hb : look σ2.env t = some (.v (.s (.d .bool b)))) (hrep : Rep Z M N w0 σ2 a w) : yielded ops a.tmps j = some b := by
  obtain ⟨β, hrep⟩ := hrep
  obtain ⟨hi, hv⟩ := hrep.env t _ hb
  have hv : VV w (RO Z β σ2.H) β σ2.H (.s (.d .bool b)) (a.tmps.getD t undef) := hv
  have hv' := VV_bool (S := RO Z β σ2.H) (β := β) (H := σ2.H) hv
  have : a.tmps[t]? = some (.bool b) := by
    rw [Array.getElem?_eq_getElem hi]
    rw [Array.getD_eq_getD_getElem?, Array.getElem?_eq_getElem hi] at hv'
    exact congrArg some hv'
  simp [yielded, ht, this]

theorem skip_step {i anc : Nat} {j t : Nat} {want : Bool} (ho : ops[i]? = some o) (hd : dstOk o.dst σ.nt = true) (hgd : o.guard = some (j, want)) (ht : (ops[j]?).bind (·.dst) = some t)
    (hy : ∀ {σ2 : St} {a : Act} {w : World}, look σ2.env t = look σ.env t → Rep Z M N w0 σ2 a w → yielded ops a.tmps j ≠ some want) : StepOk P ops Q Z M N w0 i ⟨itSkip ops anc o, preE o.dst (.t []), []⟩ σ where
  pe := preE_mem
  pH := fun p hp => by simp at hp
  wp := by
    intro σ2 hnt henv hH a w hrep K hK
    have htm : t ∈ o.looksAt ops := by simp [Oper.looksAt, hgd, ht]
    have hy := hy (henv t htm) hrep
    have : ¬ (Region.wanted o (yielded ops a.tmps) = true) := by simpa [Region.wanted, hgd] using hy
    unfold wpOp
    rw [ho]
    simp only
    rw [if_neg this]
    refine hK _ _ ?_
    obtain ⟨β, hrep⟩ := hrep
    have := hrep.skip (i := o.dst) (by rw [hnt]; exact hd)
    rw [skip_pre] at this
    exact ⟨β, this⟩

/-! ### what the text's order gives -/
/-- The base with what some of the operations put ahead, in the text's order. -/
def appD (D : Nat → Bool) (recs : List Rec) (σ : St) : Nat → St
  | 0 => σ
  | k + 1 => match recs[k]? with
    | some r => if D k then (appD D recs σ k).pre r.pe r.pH else appD D recs σ k
    | none => appD D recs σ k

def AncOk (ops : Array Oper) (recs : List Rec) (k : Nat) (r : Rec) : Prop :=
  ∃ o, ops[k]? = some o ∧ (∀ e ∈ depsOf o, e < k) ∧ (∀ m, r.it.anc.testBit m = true → ∃ e ∈ depsOf o, m = e ∨ ∃ r', recs[e]? = some r' ∧ r'.it.anc.testBit m = true) 

structure Apart (x y : It) : Prop where
  h1 : ∀ n ∈ x.wr, n ∉ y.tch
  h2 : ∀ n ∈ y.wr, n ∉ x.tch
  h3 : ∀ n ∈ x.wr, n ∉ y.wr
  h4 : ∀ d, x.dst = some d → d ∉ y.rd
  h5 : ∀ d, x.dst = some d → y.dst ≠ some d
  h6 : ∀ d, y.dst = some d → d ∉ x.rd

theorem disj_spec {l m : List Nat} (h : disj l m = true) : ∀ n ∈ l, n ∉ m := by
  intro n hn hm
  have := List.all_eq_true.1 h n hn
  simp [hm] at this

theorem apartI_spec {x y : It} (h : apartI x y = true) : Apart x y := by
  unfold apartI at h
  simp only [Bool.and_eq_true] at h
  obtain ⟨⟨⟨⟨h1, h2⟩, h3⟩, h4⟩, h5⟩ := h
  refine ⟨disj_spec h1, disj_spec h2, disj_spec h3, fun d hd => ?_, fun d hd => ?_, fun d hd => ?_⟩
  · rw [hd] at h4; simp at h4; exact h4.1
  · rw [hd] at h4; simp at h4; exact h4.2
  · rw [hd] at h5; simp at h5; exact h5

theorem bit_rest {r i : Nat} (h0 : r ≠ 0) (h : r.testBit i = true) (hne : i ≠ r.log2) : (r - 2 ^ r.log2).testBit i = true := by
  have h1 : 2 ^ r.log2 ≤ r := Nat.log2_self_le h0
  have h2 : r < 2 ^ (r.log2 + 1) := Nat.lt_log2_self
  have hi : i < r.log2 := by
    rcases Nat.lt_or_ge r.log2 i with hlt | hge
    · have : r < 2 ^ i := Nat.lt_of_lt_of_le h2 (Nat.pow_le_pow_right (by omega) hlt)
      rw [Nat.testBit_lt_two_pow this] at h; cases h
    · omega
  have e : r = 2 ^ r.log2 + (r - 2 ^ r.log2) := by omega
  rw [e, Nat.testBit_two_pow_add_gt hi] at h
  exact h

theorem chkI_spec {k : Nat} {acc : List It} {y : It} : ∀ {n rest : Nat}, chkI n rest k acc y = true → ∀ i, rest.testBit i = true → ∃ x, acc[k - 1 - i]? = some x ∧ apartI x y = true
  | 0, rest, h, i, hi => by
    simp only [chkI, Nat.beq_eq] at h
    subst h; simp at hi
  | n + 1, rest, h, i, hi => by
    simp only [chkI] at h
    split at h
    · rename_i h0
      have : rest = 0 := by simpa using h0
      subst this; simp at hi
    · rename_i h0
      have h0 : rest ≠ 0 := by
        intro e; subst e; simp at h0
      split at h
      · rename_i x hx
        simp only [Bool.and_eq_true] at h
        by_cases hne : i = rest.log2
        · subst hne; exact ⟨x, hx, h.1⟩
        · exact chkI_spec h.2 i (bit_rest h0 hi hne)
      · cases h

structure Tr (P : Program) (ops : Array Oper) (Q : Exit → Act → World → Prop) (Z : Nat → Prop) (M : Nat → Nat → Prop) (N : Nat → Option (Option (Nat × Nat))) (w0 : World) (σ : St) (recs : List Rec) : Prop where
  anc : ∀ k r, recs[k]? = some r → AncOk ops recs k r
  step : ∀ k r, recs[k]? = some r → StepOk P ops Q Z M N w0 k r (appD (fun _ => true) recs σ k)
  pair : ∀ (i k : Nat) (x y : Rec), recs[i]? = some x → recs[k]? = some y → i < k → y.it.anc.testBit i = false → Apart x.it y.it

theorem appD_snoc {D : Nat → Bool} {recs : List Rec} {r : Rec} : ∀ {k : Nat}, k ≤ recs.length → appD D (recs ++ [r]) σ k = appD D recs σ k
  | 0, _ => rfl
  | k + 1, h => by
    simp only [appD]
    rw [List.getElem?_append_left (by omega), appD_snoc (k := k) (by omega)]

theorem Tr.snoc {recs : List Rec} {r : Rec} (h : Tr P ops Q Z M N w0 σ recs) (ha : AncOk ops recs recs.length r) (hp : ∀ (i : Nat) (x : Rec), recs[i]? = some x → r.it.anc.testBit i = false → Apart x.it r.it) (hs : StepOk P ops Q Z M N w0 recs.length r (appD (fun _ => true) recs σ recs.length)) :
    Tr P ops Q Z M N w0 σ (recs ++ [r]) := by
  have mono : ∀ {e : Nat} {r' : Rec}, recs[e]? = some r' → (recs ++ [r])[e]? = some r' := fun {e r'} he => by
    rw [List.getElem?_append_left (List.getElem?_eq_some_iff.1 he).1]; exact he
  have anc : ∀ {k : Nat} {q : Rec}, AncOk ops recs k q → AncOk ops (recs ++ [r]) k q := fun {k q} ⟨o, h1, h2, h3⟩ =>
    ⟨o, h1, h2, fun m hm => (h3 m hm).elim fun e he => ⟨e, he.1, he.2.imp id fun ⟨r', h4, h5⟩ => ⟨r', mono h4, h5⟩⟩⟩
  constructor
  · intro k q hk
    rcases Nat.lt_or_ge k recs.length with hlt | hge
    · rw [List.getElem?_append_left hlt] at hk
      exact anc (h.anc k q hk)
    · rw [List.getElem?_append_right hge] at hk
      have hk0 : k - recs.length = 0 := by
        have := (List.getElem?_eq_some_iff.1 hk).1
        simp at this; omega
      have : k = recs.length := by omega
      subst this
      simp at hk; subst hk
      exact anc ha
  · intro k q hk
    rcases Nat.lt_or_ge k recs.length with hlt | hge
    · rw [List.getElem?_append_left hlt] at hk
      rw [appD_snoc (by omega)]
      exact h.step k q hk
    · rw [List.getElem?_append_right hge] at hk
      have hk0 : k - recs.length = 0 := by
        have := (List.getElem?_eq_some_iff.1 hk).1
        simp at this; omega
      have : k = recs.length := by omega
      subst this
      simp at hk; subst hk
      rw [appD_snoc (Nat.le_refl _)]
      exact hs
  · intro i k x y hi hk hlt hb
    rcases Nat.lt_or_ge k recs.length with hkl | hge
    · rw [List.getElem?_append_left hkl] at hk
      rw [List.getElem?_append_left (by omega)] at hi
      exact h.pair i k x y hi hk hlt hb
    · rw [List.getElem?_append_right hge] at hk
      have hk0 : k - recs.length = 0 := by
        have := (List.getElem?_eq_some_iff.1 hk).1
        simp at this; omega
      have : k = recs.length := by omega
      subst this
      simp at hk; subst hk
      rw [List.getElem?_append_left (by omega)] at hi
      exact hp i x hi hb

theorem foldl_bits {f : Nat → Nat} : ∀ {l : List Nat} {m0 m : Nat}, (l.foldl (fun m e => Nat.lor m (Nat.lor (Nat.pow 2 e) (f e))) m0).testBit m = true → m0.testBit m = true ∨ ∃ e ∈ l, m = e ∨ (f e).testBit m = true
  | [], m0, m, h => .inl h
  | e :: r, m0, m, h => by
    rcases foldl_bits (l := r) h with h | ⟨e', he', h⟩
    · have h : (m0 ||| (2 ^ e ||| f e)).testBit m = true := h
      simp only [Nat.testBit_or, Bool.or_eq_true, Nat.testBit_two_pow, decide_eq_true_eq] at h
      rcases h with h | h | h
      · exact .inl h
      · exact .inr ⟨e, by simp, .inl h.symm⟩
      · exact .inr ⟨e, by simp, .inr h⟩
    · exact .inr ⟨e', by simp [he'], h⟩

theorem acc_at {recs : List Rec} {e : Nat} (he : e < recs.length) : (recs.map Rec.it).reverse[recs.length - 1 - e]? = (recs[e]?).map Rec.it := by
  rw [List.getElem?_reverse (by simp; omega)]
  simp only [List.length_map, List.getElem?_map]
  congr 2
  omega

theorem anc_of {recs : List Rec} {r : Rec} (ho : ops[recs.length]? = some o) (hd : (depsOf o).all (fun e => Nat.blt e recs.length) = true) (hr : r.it.anc = ancOf recs.length (recs.map Rec.it).reverse o) : AncOk ops recs recs.length r := by
  have hlt : ∀ e ∈ depsOf o, e < recs.length := fun e he => by
    have := List.all_eq_true.1 hd e he
    exact Nat.le_of_ble_eq_true this
  refine ⟨o, ho, hlt, fun m hm => ?_⟩
  rw [hr] at hm
  rcases foldl_bits hm with h | ⟨e, he, h⟩
  · simp at h
  · refine ⟨e, he, h.imp id fun h => ?_⟩
    have ha := acc_at (recs := recs) (hlt e he)
    have h : (match (recs.map Rec.it).reverse[recs.length - 1 - e]? with | some it => it.anc | none => 0).testBit m = true := h
    rw [ha] at h
    cases hq : recs[e]? with
    | none => rw [hq] at h; simp at h
    | some q => rw [hq] at h; exact ⟨q, rfl, h⟩

theorem pair_of {recs : List Rec} {y : It} (h : chkN recs.length (recs.map Rec.it).reverse y = true) : ∀ (i : Nat) (x : Rec), recs[i]? = some x → y.anc.testBit i = false → Apart x.it y := by
  intro i x hi hb
  have hlt : i < recs.length := (List.getElem?_eq_some_iff.1 hi).1
  have hbit : ((2 ^ recs.length - 1) ^^^ y.anc).testBit i = true := by
    rw [Nat.testBit_xor, hb, Nat.testBit_two_pow_sub_one]
    simp [hlt]
  obtain ⟨x', hx, hap⟩ := chkI_spec h i hbit
  rw [acc_at hlt, hi] at hx
  simp only [Option.map_some, Option.some.injEq] at hx
  subst hx
  exact apartI_spec hap

theorem appD_last {recs : List Rec} {r : Rec} : appD (fun _ => true) (recs ++ [r]) σ (recs.length + 1) = (appD (fun _ => true) recs σ recs.length).pre r.pe r.pH := by
  simp only [appD]
  rw [List.getElem?_append_right (Nat.le_refl _)]
  simp [appD_snoc (Nat.le_refl _)]

theorem set_same {t : Nat} {y : SV} (h : look σ.env t = some (.v y)) : Leq σ (σ.set t y) := by
  refine ⟨rfl, fun i => ?_, fun i => rfl⟩
  simp only [St.set, look_cons]
  split
  · rename_i e; subst e; exact h.symm
  · rfl

theorem opsD_trace (hT : tabOk P T = true) (hG : EnvOk P G) {σ0 : St} {K : St → Option R} {y : R} : ∀ {rest : List Oper} {nm : Nat} {σ : St} {recs : List Rec} {k : Nat} {acc : List It},
    (∀ k, rest[k]? = ops[recs.length + k]?) → k = recs.length → acc = (recs.map Rec.it).reverse → Leq (appD (fun _ => true) recs σ0 recs.length) σ → Tr P ops Q Z M N w0 σ0 recs → opsD T G ops nm rest σ k acc K = some y →
    ∃ recs' σ', recs'.length = recs.length + rest.length ∧ Leq (appD (fun _ => true) recs' σ0 recs'.length) σ' ∧ Tr P ops Q Z M N w0 σ0 recs' ∧ K σ' = some y
  | [], nm, σ, recs, k, acc, _, hk, hacc, hl, htr, h => ⟨recs, σ, by simp, hl, htr, h⟩
  | o :: r, nm, σ, recs, k, acc, hrest, hk, hacc, hl, htr, h => by
    subst hk
    subst hacc
    have ho : ops[recs.length]? = some o := by have := hrest 0; simpa using this.symm
    have hrest' : ∀ (q : Rec) k, r[k]? = ops[(recs ++ [q]).length + k]? := fun q k => by
      have := hrest (k + 1)
      simp only [List.getElem?_cons_succ] at this
      rw [this, List.length_append]
      congr 1
      simp; omega
    unfold opsD at h
    split at h
    · cases h
    · rename_i hck
      simp only [not_or, Bool.not_eq_false] at hck
      obtain ⟨hd, hdp⟩ := hck
      have fin : ∀ (q : Rec) (σ1 : St), q.it.anc = ancOf recs.length (recs.map Rec.it).reverse o → StepOk P ops Q Z M N w0 recs.length q σ → Leq (σ.pre q.pe q.pH) σ1 →
          (if chkN recs.length (recs.map Rec.it).reverse q.it = true then opsD T G ops (nm + 500) r σ1 (recs.length + 1) (q.it :: (recs.map Rec.it).reverse) K else none) = some y →
          ∃ recs' σ', recs'.length = recs.length + (o :: r).length ∧ Leq (appD (fun _ => true) recs' σ0 recs'.length) σ' ∧ Tr P ops Q Z M N w0 σ0 recs' ∧ K σ' = some y := by
        intro q σ1 hanc hst hlq h
        split at h
        · rename_i hchk
          have htr' := htr.snoc (anc_of ho hdp hanc) (pair_of hchk) (hst.same hl.symm)
          obtain ⟨recs', σ', h1, h2, h3, h4⟩ := opsD_trace hT hG (recs := recs ++ [q]) (k := recs.length + 1) (acc := q.it :: (recs.map Rec.it).reverse) (hrest' q) (by simp) (by simp) (by
            rw [List.length_append, List.length_singleton, appD_last]
            exact (hl.pre q.pe q.pH).trans hlq) htr' h
          exact ⟨recs', σ', by rw [h1]; simp; omega, h2, h3, h4⟩
        · cases h
      split at h
      · rename_i hgd
        rw [opR_bind] at h
        obtain ⟨σ', h1, h⟩ := Option.bind_eq_some_iff.1 h
        obtain ⟨pe, pH, rfl, hpe, hloc⟩ := opR_loc h1
        exact fin ⟨itOf ops (ancOf recs.length (recs.map Rec.it).reverse o) o σ (σ.pre pe pH), pe, pH⟩ _ rfl (do_step hT hG ho hd hpe hloc fun σ2 _ a w _ => by simp [Region.wanted, hgd]) (Leq.refl _) h
      · rename_i j want hgd
        split at h
        · rename_i t ht
          split at h
          · rename_i b hb
            have htm : t ∈ o.looksAt ops := by simp [Oper.looksAt, hgd, ht]
            split at h
            · rename_i e
              subst e
              have hset : Leq σ (σ.set t (.s (.d .bool b))) := set_same hb
              rw [opR_bind] at h
              obtain ⟨σ', h1, h⟩ := Option.bind_eq_some_iff.1 h
              obtain ⟨pe, pH, rfl, hpe, hloc⟩ := opR_loc h1
              refine fin ⟨itOf ops (ancOf recs.length (recs.map Rec.it).reverse o) o (σ.set t (.s (.d .bool b))) ((σ.set t (.s (.d .bool b))).pre pe pH), pe, pH⟩ _ rfl
                ((do_step (σ := σ.set t (.s (.d .bool b))) hT hG ho hd hpe hloc fun σ2 henv a w hrep => ?_).same hset.symm) (hset.pre pe pH) h
              have hy := yield_of ht ((henv t htm).trans ((hset.env t).trans hb)) hrep
              simp [Region.wanted, hgd, hy]
            · rename_i e
              have hb' : b = !want := by cases b <;> cases want <;> simp_all
              subst hb'
              have hset : Leq σ (σ.set t (.s (.d .bool (!want)))) := set_same hb
              refine fin ⟨itSkip ops (ancOf recs.length (recs.map Rec.it).reverse o) o, preE o.dst (.t []), []⟩ _ rfl (skip_step ho hd hgd ht fun he hr => ?_) ?_ h
              · rw [yield_of ht (he.trans hb) hr]; simp
              · rw [skip_pre]
                exact hset.pre _ []
          · rename_i hb
            refine fin ⟨itSkip ops (ancOf recs.length (recs.map Rec.it).reverse o) o, preE o.dst (.t []), []⟩ _ rfl (skip_step ho hd hgd ht fun he hr => ?_) ?_ h
            · obtain ⟨β, hr⟩ := hr
              rw [yield_none ht (he.trans hb) hr]; simp
            · rw [skip_pre]
              exact (Leq.refl _).pre _ []
          · cases h
        · cases h

end Go.Proofs.Yteddlkdbefloaaa.S
