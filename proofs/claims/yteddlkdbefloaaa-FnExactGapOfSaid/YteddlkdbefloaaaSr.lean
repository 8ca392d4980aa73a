/- Soundness of the machinery S: a call. -/
import Derived.Test.YteddlkdbefloaaaSq
namespace Go.Proofs.Yteddlkdbefloaaa.S
open Go Go.RowKit
set_option linter.unusedVariables false
set_option linter.unusedSimpArgs false

variable {w w' w0 : World} {S S' S3 Q Z : Nat → Prop} {M M' : Nat → Nat → Prop} {N : Nat → Option (Option (Nat × Nat))} {B : Nat → Option Pl} {a : Act} {σ : St} {β : Names} {H : Heap} {fr l : List Nat}

/-! ### data without slices lies nowhere -/
theorem Rp_noSl : ∀ {t : Ty} {x : den t} {cs : List Value}, hasSl t = false → Rp w S t x cs → Rp w' S' t x cs
  | .int _, _, _, _, h => h
  | .bool, _, _, _, h => h
  | .str, _, _, _, h => h
  | .unit, _, _, _, h => h
  | .pair _ _, _, _, hs, ⟨c1, c2, e, h1, h2⟩ => by
    simp only [hasSl, Bool.or_eq_false_iff] at hs
    exact ⟨c1, c2, e, Rp_noSl hs.1 h1, Rp_noSl hs.2 h2⟩
  | .slice _, _, _, hs, _ => by simp [hasSl] at hs

theorem RowO_S {e : TypeId} {t : Ty} {xs : List (den t)} {q : Option (Nat × Nat)} (hs : ∀ x cs, Rp w S t x cs → Rp w S' t x cs) (h : RowO w S e t xs q) : RowO w S' e t xs q := by
  rcases h with h | ⟨b, cap, c, rows, h1, h2, h3, h4, h5, h6, h7⟩
  · exact .inl h
  · exact .inr ⟨b, cap, c, rows, h1, h2, h3, h4, h5, RpL_mono (fun _ _ => hs _ _) h6, h7⟩

/-- Either all of an answer's data may lie elsewhere, or it lies nowhere. -/
def Shift (w : World) (S S' : Nat → Prop) (sl : Bool) : Prop := ∀ t (x : den t) cs, (sl = false → hasSl t = false) → Rp w S t x cs → Rp w S' t x cs

theorem CellR_S {sl : Bool} (hs : Shift w S S' sl) {c : CK} {x : c.den} {v : Value} {F : List Nat} (hc : sl = false → c.sl = false) (h : CellR w S (fun _ => False) B c x v F) : CellR w S' (fun _ => False) B c x v F := by
  cases c with
  | dat t => obtain ⟨⟨h1, h2⟩, h3⟩ := h; exact ⟨⟨h1, hs _ _ _ hc h2⟩, h3⟩
  | own e t => obtain ⟨q, h1, h2⟩ := h; exact ⟨q, RowO_S (fun _ _ => hs _ _ _ hc) h1, h2⟩
  | pd t => obtain ⟨⟨b, off, cs, h1, h2, h3⟩, h4⟩ := h; exact h2.elim
  | fn f ts =>
    obtain ⟨⟨us, e, h⟩, h4⟩ := h
    cases ts with
    | nil => exact ⟨⟨us, e, h⟩, h4⟩
    | cons t r => obtain ⟨_, _, _, _, _, hq, _⟩ := h; exact hq.elim
  | bx t => obtain ⟨b, c, e, cs, h1, h2, h3, h4, h5⟩ := h; exact ⟨b, c, e, cs, h1, h2, h3, hs _ _ _ (fun e => by have := hc e; cases this) h4, h5⟩
  | _ => exact h

theorem CellsR_S {sl : Bool} (hs : Shift w S S' sl) : ∀ {cs : List CK} {x : denC cs} {vs : List Value} {F : List Nat}, (sl = false → cs.any CK.sl = false) → CellsR w S (fun _ => False) B cs x vs F → CellsR w S' (fun _ => False) B cs x vs F
  | [], _, _, _, _, h => h
  | c :: r, _, _, _, hc, ⟨v, vs', F1, F2, h1, h2, h3, h4⟩ =>
    ⟨v, vs', F1, F2, h1, h2, CellR_S hs (fun e => by have := hc e; simp only [List.any_cons, Bool.or_eq_false_iff] at this; exact this.1) h3, CellsR_S hs (fun e => by have := hc e; simp only [List.any_cons, Bool.or_eq_false_iff] at this; exact this.2) h4⟩

theorem VKR_S {sl : Bool} (hs : Shift w S S' sl) {k : VK} {x : k.den} {v : Value} {F : List Nat} (hc : sl = false → k.sl = false) (h : VKR w S (fun _ => False) B k x v F) : VKR w S' (fun _ => False) B k x v F := by
  cases k with
  | g cs => obtain ⟨vs, e, h⟩ := h; exact ⟨vs, e, CellsR_S hs hc h⟩
  | s c =>
    by_cases hd : ∃ t, c = .dat t
    · obtain ⟨t, rfl⟩ := hd
      obtain ⟨⟨cs, h1, h2⟩, h3⟩ := h
      exact ⟨⟨cs, h1, hs _ _ _ hc h2⟩, h3⟩
    · have hn : ∀ t, c ≠ .dat t := fun t e => hd ⟨t, e⟩
      exact (VKR_s hn).2 (CellR_S hs hc ((VKR_s hn).1 h))

theorem VKsR_S {sl : Bool} (hs : Shift w S S' sl) : ∀ {ks : List VK} {x : denV ks} {vs : List Value} {F : List Nat}, (sl = false → ks.any VK.sl = false) → VKsR w S (fun _ => False) B ks x vs F → VKsR w S' (fun _ => False) B ks x vs F
  | [], _, _, _, _, h => h
  | c :: r, _, _, _, hc, ⟨v, vs', F1, F2, h1, h2, h3, h4⟩ =>
    ⟨v, vs', F1, F2, h1, h2, VKR_S hs (fun e => by have := hc e; simp only [List.any_cons, Bool.or_eq_false_iff] at this; exact this.1) h3, VKsR_S hs (fun e => by have := hc e; simp only [List.any_cons, Bool.or_eq_false_iff] at this; exact this.2) h4⟩

theorem CwR_S {sl : Bool} (hs : Shift w S S' sl) : ∀ {cs : List CK} {y : denCw cs} {vs : List Value} {F : List Nat}, (sl = false → cs.any CK.sl = false) → CwR w S cs y vs F → CwR w S' cs y vs F
  | [], _, _, _, _, h => h
  | c :: r, _, _, _, hc, h => by
    have hc1 : sl = false → c.sl = false := fun e => by have := hc e; simp only [List.any_cons, Bool.or_eq_false_iff] at this; exact this.1
    have hc2 : sl = false → r.any CK.sl = false := fun e => by have := hc e; simp only [List.any_cons, Bool.or_eq_false_iff] at this; exact this.2
    cases c with
    | own e t => obtain ⟨v, vs', q, F2, h1, h2, h3, h4, h5⟩ := h; exact ⟨v, vs', q, F2, h1, h2, RowO_S (fun _ _ => hs _ _ _ hc1) h3, h4, CwR_S hs hc2 h5⟩
    | _ => obtain ⟨v, vs', h1, h2⟩ := h; exact ⟨v, vs', h1, CwR_S hs hc2 h2⟩

theorem OutsR_S {sl : Bool} (hs : Shift w S S' sl) : ∀ {ps : List PK} {y : denQ ps} {vs : List Value} {F : List Nat}, (sl = false → ps.any PK.sl = false) → OutsR w S ps y vs F → OutsR w S' ps y vs F
  | [], _, _, _, _, h => h
  | k :: r, _, _, _, hc, h => by
    have hc1 : sl = false → k.sl = false := fun e => by have := hc e; simp only [List.any_cons, Bool.or_eq_false_iff] at this; exact this.1
    have hc2 : sl = false → r.any PK.sl = false := fun e => by have := hc e; simp only [List.any_cons, Bool.or_eq_false_iff] at this; exact this.2
    cases k with
    | val t => obtain ⟨v, vs', h1, h2⟩ := h; exact ⟨v, vs', h1, OutsR_S hs hc2 h2⟩
    | ptr t => obtain ⟨v, vs', h1, h2⟩ := h; exact ⟨v, vs', h1, OutsR_S hs hc2 h2⟩
    | fn f ts => obtain ⟨v, vs', h1, h2⟩ := h; exact ⟨v, vs', h1, OutsR_S hs hc2 h2⟩
    | box ci co =>
      obtain ⟨v, vs', F1, F2, b, base, c, e, h1, h2, h3, h4, h5, h6, h7, h8, h9⟩ := h
      exact ⟨v, vs', F1, F2, b, base, c, e, h1, h2, h3, h4, h5, h6, CellsR_S hs hc1 h7, h8, OutsR_S hs hc2 h9⟩
    | row e t => obtain ⟨v, vs', q, F2, h1, h2, h3, h4, h5⟩ := h; exact ⟨v, vs', q, F2, h1, h2, RowO_S (fun _ _ => hs _ _ _ hc1) h3, h4, OutsR_S hs hc2 h5⟩
    | agg cs => obtain ⟨v, vs', us, F1, F2, h1, h2, h3, h4, h5⟩ := h; exact ⟨v, vs', us, F1, F2, h1, h2, h3, CwR_S hs hc1 h4, OutsR_S hs hc2 h5⟩

/-! ### little things -/
theorem Kept.trans {a b c : World} (h : Kept M a b) (k : Kept M' b c) (hM : ∀ g i, M' g i → M g i) : Kept M a c where
  os := k.os.trans h.os
  tape := k.tape.trans h.tape
  output := k.output.trans h.output
  size := Nat.le_trans h.size k.size
  block := fun g hg hn => by rw [k.block g (Nat.lt_of_lt_of_le hg h.size) fun i hi => hn i (hM g i hi), h.block g hg hn]
  cells := fun g x e fz hx => by
    obtain ⟨x1, h1, h2, h3⟩ := h.cells g x e fz hx
    obtain ⟨x2, h4, h5, h6⟩ := k.cells g x1 e fz h1
    exact ⟨x2, h4, by omega, fun i hi => (h6 i fun hh => hi (hM g i hh)).trans (h3 i hi)⟩

theorem mapO_ev (hrep : RepB Z M N w0 β σ a w) : ∀ {xs : List Operand} {ys : List SV}, mapO (ev σ) xs = some ys → All2 (VV w (RO Z β σ.H) β σ.H) ys (xs.map a.eval)
  | [], _, h => by
    simp only [mapO, Option.some.injEq] at h
    subst h; exact .nil
  | x :: r, _, h => by
    simp only [mapO] at h
    split at h
    · rename_i y hy
      split at h
      · rename_i z hz
        obtain rfl := Option.some.inj h
        exact .cons (ev_sound hrep hy) (mapO_ev hrep hz)
      · cases h
    · cases h

theorem newNames_none : ∀ {l : List (Nat × Ob)}, newNames H l = true → (∀ p ∈ l, look H p.1 = none) ∧ (l.map (·.1)).Nodup
  | [], _ => ⟨fun p hp => by simp at hp, by simp⟩
  | p :: r, h => by
    simp only [newNames, Bool.and_eq_true] at h
    obtain ⟨⟨h1, h2⟩, h3⟩ := h
    have ih := newNames_none h3
    refine ⟨fun q hq => ?_, ?_⟩
    · rcases List.mem_cons.1 hq with rfl | hq
      · exact newName_none h1
      · exact ih.1 q hq
    · simp only [List.map_cons, List.nodup_cons]
      refine ⟨fun hm => ?_, ih.2⟩
      have := newName_none h2
      obtain ⟨q, hq, e⟩ := List.mem_map.1 hm
      have h4 := look_of_mem ih.2 hq
      rw [e] at h4
      rw [this] at h4
      cases h4

theorem look_append {α : Type} : ∀ {A C : List (Nat × α)} {o : Nat}, look (A ++ C) o = match look A o with | some x => some x | none => look C o
  | [], _, _ => rfl
  | p :: r, C, o => by
    obtain ⟨k, x⟩ := p
    rw [List.cons_append, look_cons, look_cons]
    by_cases e : k = o
    · simp [e]
    · simp only [if_neg e]; exact look_append

theorem look_dead {l : List Nat} {o : Nat} : look (l.map fun o => (o, Ob.dead)) o = if o ∈ l then some .dead else none := by
  induction l with
  | nil => rfl
  | cons k r ih =>
    rw [List.map_cons, look_cons, ih]
    by_cases e : k = o
    · simp [e]
    · rw [if_neg e]
      by_cases h : o ∈ r
      · simp [h]
      · rw [if_neg h, if_neg]
        simp only [List.mem_cons, not_or]
        exact ⟨fun e' => e e'.symm, h⟩

theorem look_none_of {α : Type} : ∀ {l : List (Nat × α)} {o : Nat}, (∀ p ∈ l, p.1 ≠ o) → look l o = none
  | [], _, _ => rfl
  | p :: r, o, h => by
    obtain ⟨k, x⟩ := p
    rw [look_cons, if_neg (h (k, x) (by simp))]
    exact look_none_of fun p hp => h p (by simp [hp])

theorem frz_isSome {fr : List Nat} {o : Nat} : (look (frz H fr) o).isSome = (look H o).isSome := by
  by_cases h : ∃ e t xs, look H o = some (.row e t xs)
  · obtain ⟨e, t, xs, h⟩ := h
    rw [frz_row (l := fr) h, h]
    rfl
  · rw [frz_same (fun e t xs e' => h ⟨e, t, xs, e'⟩)]

theorem tup_sound {xs : List SV} {vs : List Value} (h : All2 (VV w S β H) xs vs) : VL w S β H (tup xs) (tupV vs) := by
  cases h with
  | nil => exact ⟨[], rfl, .nil⟩
  | cons h1 h2 =>
    cases h2 with
    | nil => exact h1
    | cons h3 h4 => exact ⟨_, rfl, .cons h1 (.cons h3 h4)⟩

end Go.Proofs.Yteddlkdbefloaaa.S
