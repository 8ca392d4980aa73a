/- The moves of a state of the machinery S: a slot is set, a block is made, a row or a box is written, a row is frozen. -/
import Derived.Test.YteddlkdbefloaaaSb
namespace Go.Proofs.Yteddlkdbefloaaa.S
open Go Go.RowKit
set_option linter.unusedVariables false
set_option linter.unusedSimpArgs false

theorem look_cons {α : Type} (k : Nat) (x : α) (r : List (Nat × α)) (i : Nat) : look ((k, x) :: r) i = if k = i then some x else look r i := rfl

variable {Z : Nat → Prop} {M : Nat → Nat → Prop} {N : Nat → Option (Option (Nat × Nat))} {w0 w w' : World} {β β' : Names} {σ : St} {a : Act}

theorem Kept.refl (M : Nat → Nat → Prop) (w : World) : Kept M w w := ⟨rfl, rfl, rfl, Nat.le_refl _, fun _ _ _ => rfl, fun b c e fz h => ⟨c, h, rfl, fun _ _ => rfl⟩⟩

/-- Behind a step that turns no old block but one of the call's own. -/
theorem Kept.step {M : Nat → Nat → Prop} {a w w' : World} (h : Kept M a w) (hos : w'.os = w.os) (ht : w'.tape = w.tape) (hout : w'.output = w.output) (hs : w.heap.size ≤ w'.heap.size)
    (hb : ∀ b, b < a.heap.size → w'.heap[b]? = w.heap[b]? ∨ ∃ c c' e fz, w.heap[b]? = some (.cells c e fz) ∧ w'.heap[b]? = some (.cells c' e fz) ∧ c'.size = c.size ∧ ∀ i, ¬ M b i → c'[i]? = c[i]?) : Kept M a w' where
  os := hos.trans h.os
  tape := ht.trans h.tape
  output := hout.trans h.output
  size := Nat.le_trans h.size hs
  block := by
    intro b hb' hM
    rcases hb b hb' with e | ⟨c, c', e, fz, h1, h2, h3, h4⟩
    · rw [e]; exact h.block b hb' hM
    · rw [← h.block b hb' hM, h1, h2]
      have : c' = c := Array.ext (by omega) fun i hi hi' => by
        have := h4 i (hM i)
        rw [Array.getElem?_eq_getElem hi, Array.getElem?_eq_getElem hi'] at this
        exact Option.some.inj this
      rw [this]
  cells := by
    intro b c e fz hc
    obtain ⟨c1, h1, h2, h3⟩ := h.cells b c e fz hc
    have hb' : b < a.heap.size := (Array.getElem?_eq_some_iff.1 hc).1
    rcases hb b hb' with e' | ⟨c2, c', e2, fz2, h4, h5, h6, h7⟩
    · exact ⟨c1, by rw [e']; exact h1, h2, h3⟩
    · rw [h1] at h4
      simp only [Option.some.injEq, Obj.cells.injEq] at h4
      obtain ⟨rfl, rfl, rfl⟩ := h4
      exact ⟨c', h5, by omega, fun i hi => (h7 i hi).trans (h3 i hi)⟩

theorem Kept.alloc {M : Nat → Nat → Prop} {a w : World} (h : Kept M a w) (o : Obj) : Kept M a (w.alloc o) :=
  h.step rfl rfl rfl (by simp) fun b hb => .inl (Below.heap_alloc w o b (Nat.lt_of_lt_of_le hb h.size))

theorem newName_none {H : Heap} {j : Nat} (h : newName H j = true) : look H j = none := by
  simpa [newName] using h

/-- The names after one is given. -/
def Names.put (β : Names) (j : Nat) (q : Option (Nat × Nat)) : Names := fun o => if o = j then q else β o

theorem VV_same {β : Names} {H H' : Heap} {S S' : Nat → Prop} (he : H = H') (hs : S = S') {x : SV} {v : Value} (h : VV w S β H x v) : VV w S' β H' x v := by
  subst he; subst hs; exact h

theorem RO_step {Z : Nat → Prop} {H H' : Heap} (hk : ∀ b, b < w.heap.size → ¬ Own β H b → ¬ Own β' H' b ∧ w'.heap[b]? = w.heap[b]?) :
    ∀ b, b < w.heap.size → RO Z β H b → RO Z β' H' b ∧ w'.heap[b]? = w.heap[b]? := fun b hb h => ⟨⟨h.1, (hk b hb h.2).1⟩, (hk b hb h.2).2⟩

theorem RepB.set (h : RepB Z M N w0 β σ a w) {i : Nat} {y : SV} {v : Value} (hi : i < σ.nt) (hv : VV w (RO Z β σ.H) β σ.H y v) : RepB Z M N w0 β (σ.set i y) (a.put (some i) v) w where
  fresh := h.fresh
  whole := h.whole
  pin := h.pin
  defers := h.defers
  size := by simp [Act.put, h.size, St.set]
  below := h.below
  own := h.own
  inj := h.inj
  obj := h.obj
  env := by
    intro k x hx
    simp only [Act.put, Array.size_setIfInBounds]
    simp only [St.set, look_cons] at hx
    by_cases e : i = k
    · subst e
      rw [if_pos rfl] at hx
      obtain rfl := Option.some.inj hx
      have hk : i < a.tmps.size := by rw [h.size]; exact hi
      refine ⟨hk, ?_⟩
      simp only [Act.put, Array.getD_eq_getD_getElem?, Array.getElem?_setIfInBounds, if_pos hk, if_true]
      exact hv
    · rw [if_neg e] at hx
      obtain ⟨hk, this⟩ := h.env k x hx
      refine ⟨hk, ?_⟩
      simp only [Act.put, Array.getD_eq_getD_getElem?, Array.getElem?_setIfInBounds, if_neg e]
      rw [Array.getD_eq_getD_getElem?] at this
      exact this

theorem RepB.sets (h : RepB Z M N w0 β σ a w) {i : Option Nat} {y : SV} {v : Value} (hi : dstOk i σ.nt = true) (hv : VV w (RO Z β σ.H) β σ.H y v) : RepB Z M N w0 β (σ.sets i y) (a.put i v) w := by
  cases i with
  | none => exact h
  | some j => exact h.set (by simpa [dstOk] using hi) hv

theorem RepB.setL (h : RepB Z M N w0 β σ a w) {i : Nat} {y : Sl} {v : Value} (hi : i < σ.nt) (hv : VL w (RO Z β σ.H) β σ.H y v) : RepB Z M N w0 β { σ with env := (i, y) :: σ.env } (a.put (some i) v) w where
  fresh := h.fresh
  whole := h.whole
  pin := h.pin
  defers := h.defers
  size := by simp [Act.put, h.size]
  below := h.below
  own := h.own
  inj := h.inj
  obj := h.obj
  env := by
    intro k x hx
    simp only [Act.put, Array.size_setIfInBounds]
    simp only [look_cons] at hx
    by_cases e : i = k
    · subst e
      rw [if_pos rfl] at hx
      obtain rfl := Option.some.inj hx
      have hk : i < a.tmps.size := by rw [h.size]; exact hi
      refine ⟨hk, ?_⟩
      simp only [Act.put, Array.getD_eq_getD_getElem?, Array.getElem?_setIfInBounds, if_pos hk, if_true]
      exact hv
    · rw [if_neg e] at hx
      obtain ⟨hk, this⟩ := h.env k x hx
      refine ⟨hk, ?_⟩
      simp only [Act.put, Array.getD_eq_getD_getElem?, Array.getElem?_setIfInBounds, if_neg e]
      rw [Array.getD_eq_getD_getElem?] at this
      exact this

/-- The world moves, and with it what is known of memory. -/
theorem RepB.move (h : RepB Z M N w0 β σ a w) {H' : Heap} (hbelow : Kept M w0 w') (hpin : ∀ o q, β o = q → (look σ.H o).isSome = true → 9000000 ≤ o → β' o = q ∧ (look H' o).isSome = true)
    (hk : ∀ b, b < w.heap.size → ¬ Own β σ.H b → ¬ Own β' H' b ∧ w'.heap[b]? = w.heap[b]?)
    (hn : ∀ o ob, look σ.H o = some ob → Step w' (RO Z β' H') (β o) ob (β' o) (look H' o))
    (hown : ∀ o ob b cap, look H' o = some ob → live ob = true → β' o = some (b, cap) → mayW M b cap ob ∧ b < w'.heap.size)
    (hinj : ∀ o o' ob ob' b cap cap', look H' o = some ob → live ob = true → look H' o' = some ob' → live ob' = true → β' o = some (b, cap) → β' o' = some (b, cap') → o = o')
    (hobj : ∀ o ob, look H' o = some ob → OR w' (RO Z β' H') β' H' (β' o) ob) : RepB Z M N w0 β' { σ with H := H' } a w' where
  fresh := h.fresh
  whole := h.whole
  pin := fun o q ho => ⟨(hpin o q (h.pin o q ho).1 (h.pin o q ho).2.1 (h.pin o q ho).2.2).1, (hpin o q (h.pin o q ho).1 (h.pin o q ho).2.1 (h.pin o q ho).2.2).2, (h.pin o q ho).2.2⟩
  defers := h.defers
  size := h.size
  below := hbelow
  own := hown
  inj := hinj
  obj := hobj
  env := fun i x hx => ⟨(h.env i x hx).1, VL_step (RO_step hk) hk hn (h.env i x hx).2⟩

theorem OR_step {S S' : Nat → Prop} {H H' : Heap} (hk : ∀ b, b < w.heap.size → S b → S' b ∧ w'.heap[b]? = w.heap[b]?)
    (hp : ∀ b, b < w.heap.size → ¬ Own β H b → ¬ Own β' H' b ∧ w'.heap[b]? = w.heap[b]?)
    (hn : ∀ o ob, look H o = some ob → Step w' S' (β o) ob (β' o) (look H' o)) {q : Option (Nat × Nat)} {ob : Ob} (hb : ∀ b cap, q = some (b, cap) → live ob = true → w'.heap[b]? = w.heap[b]?)
    (h : OR w S β H q ob) : OR w' S' β' H' q ob := by
  cases ob with
  | dead => trivial
  | fro _ _ => trivial
  | box cs =>
    obtain ⟨b, cap, c, e, hq, hh, hc⟩ := h
    exact ⟨b, cap, c, e, hq, by rw [hb b cap hq rfl]; exact hh, hc.1, hc.2.mono fun _ _ hx => ⟨VS_step hk hp hn hx.1, hx.2⟩⟩
  | row e t xs =>
    rcases h with h | ⟨b, cap, c, rows, hq, hh, hs, hl, hm, hr, hi⟩
    · exact .inl h
    · exact .inr ⟨b, cap, c, rows, hq, by rw [hb b cap hq rfl]; exact hh, hs, hl, hm, RpL_mono (fun _ _ => Rp_keep hk) hr, hi⟩
  | map es =>
    obtain ⟨b, cap, arr, clock, hq, hh, he⟩ := h
    exact ⟨b, cap, arr, clock, hq, by rw [hb b cap hq rfl]; exact hh, he⟩

theorem step_self {S' : Nat → Prop} {q : Option (Nat × Nat)} {ob : Ob} : Step w' S' q ob q (some ob) := by
  cases ob with
  | dead => trivial
  | box cs => exact ⟨⟨cs, rfl⟩, rfl⟩
  | row e t xs => exact ⟨xs, rfl, rfl, rfl⟩
  | fro t xs => exact .inl rfl
  | map es => exact ⟨⟨es, rfl⟩, rfl⟩

theorem put_other {j : Nat} {q : Option (Nat × Nat)} {o : Nat} (h : o ≠ j) : (β.put j q) o = β o := by simp [Names.put, h]
theorem put_same {j : Nat} {q : Option (Nat × Nat)} : (β.put j q) j = q := by simp [Names.put]

theorem Own_put {H : Heap} {j : Nat} {q : Option (Nat × Nat)} {ob : Ob} {b : Nat} (hj : look H j = none) :
    Own (β.put j q) ((j, ob) :: H) b ↔ (live ob = true ∧ ∃ cap, q = some (b, cap)) ∨ Own β H b := by
  constructor
  · rintro ⟨o, ob', cap, ho, hl, hb⟩
    rw [look_cons] at ho
    by_cases e : j = o
    · subst e
      rw [if_pos rfl] at ho
      obtain rfl := Option.some.inj ho
      rw [put_same] at hb
      exact .inl ⟨hl, cap, hb⟩
    · rw [if_neg e] at ho
      rw [put_other (fun h => e h.symm)] at hb
      exact .inr ⟨o, ob', cap, ho, hl, hb⟩
  · rintro (⟨hl, cap, hq⟩ | ⟨o, ob', cap, ho, hl, hb⟩)
    · exact ⟨j, ob, cap, by rw [look_cons, if_pos rfl], hl, by rw [put_same]; exact hq⟩
    · have hne : j ≠ o := fun e => by subst e; rw [hj] at ho; cases ho
      exact ⟨o, ob', cap, by rw [look_cons, if_neg hne]; exact ho, hl, by rw [put_other (fun h => hne h.symm)]; exact hb⟩

theorem mayW_fresh {M : Nat → Nat → Prop} {n b cap : Nat} {ob : Ob} (h : ∀ b, n ≤ b → ∀ i, M b i) (hb : n ≤ b) : mayW M b cap ob := by
  cases ob <;> first | exact fun i _ => h b hb _ | exact fun i => h b hb _

/-- A new name for a new block, or for a row that is nil. -/

theorem some_cons {α : Type} {H : List (Nat × α)} {j : Nat} {x : α} {o : Nat} (h : (look H o).isSome = true) : (look ((j, x) :: H) o).isSome = true := by
  rw [look_cons]
  split
  · rfl
  · exact h

theorem pin_new {H : Heap} {j : Nat} {q q' : Option (Nat × Nat)} {ob : Ob} (hj : look H j = none) {o : Nat} (ho : β o = q') (hs : (look H o).isSome = true) :
    (β.put j q) o = q' ∧ (look ((j, ob) :: H) o).isSome = true :=
  ⟨by rw [put_other (fun e => by subst e; rw [hj] at hs; cases hs)]; exact ho, some_cons hs⟩

theorem RepB.new (h : RepB Z M N w0 β σ a w) {j : Nat} {ob : Ob} {q : Option (Nat × Nat)} (hj : newName σ.H j = true) (hbelow : Kept M w0 w')
    (hold : ∀ b, b < w.heap.size → w'.heap[b]? = w.heap[b]?) (hsize : w.heap.size ≤ w'.heap.size)
    (hq : ∀ b cap, q = some (b, cap) → live ob = true → w.heap.size ≤ b ∧ b < w'.heap.size)
    (hobj : ∀ S' β' H', (∀ x v, VS w (RO Z β σ.H) β σ.H x v → VS w' S' β' H' x v) → (∀ t x cs, Rp w (RO Z β σ.H) t x cs → Rp w' S' t x cs) → OR w' S' β' H' q ob) :
    RepB Z M N w0 (β.put j q) (σ.put j ob) a w' := by
  have hj' := newName_none hj
  have hw0 : w0.heap.size ≤ w.heap.size := h.below.size
  have hk : ∀ b, b < w.heap.size → ¬ Own β σ.H b → ¬ Own (β.put j q) ((j, ob) :: σ.H) b ∧ w'.heap[b]? = w.heap[b]? := by
    intro b hb hn
    refine ⟨fun ho => ?_, hold b hb⟩
    rcases (Own_put hj').1 ho with ⟨hl, cap, hc⟩ | ho
    · have := (hq b cap hc hl).1; omega
    · exact hn ho
  have hn : ∀ o ob', look σ.H o = some ob' → Step w' (RO Z (β.put j q) ((j, ob) :: σ.H)) (β o) ob' ((β.put j q) o) (look ((j, ob) :: σ.H) o) := by
    intro o ob' ho
    have hne : j ≠ o := fun e => by subst e; rw [hj'] at ho; cases ho
    rw [look_cons, if_neg hne, put_other (fun h => hne h.symm), ho]
    exact step_self
  refine h.move hbelow (fun o q ho hs _ => pin_new hj' ho hs) hk hn ?_ ?_ ?_
  · intro o ob' b cap ho hl hb
    rw [look_cons] at ho
    by_cases e : j = o
    · subst e
      rw [if_pos rfl] at ho
      obtain rfl := Option.some.inj ho
      rw [put_same] at hb
      have := hq b cap hb hl
      exact ⟨mayW_fresh h.fresh (by omega), this.2⟩
    · rw [if_neg e] at ho
      rw [put_other (fun h => e h.symm)] at hb
      have := h.own o ob' b cap ho hl hb
      exact ⟨this.1, by omega⟩
  · intro o o' ob1 ob2 b cap cap' ho hl ho' hl' hb hb'
    rw [look_cons] at ho ho'
    by_cases e : j = o
    · by_cases e' : j = o'
      · omega
      · subst e
        rw [if_pos rfl] at ho
        obtain rfl := Option.some.inj ho
        rw [put_same] at hb
        rw [if_neg e'] at ho'
        rw [put_other (fun h => e' h.symm)] at hb'
        have := hq b cap hb hl
        have := (h.own o' ob2 b cap' ho' hl' hb').2
        omega
    · by_cases e' : j = o'
      · subst e'
        rw [if_pos rfl] at ho'
        obtain rfl := Option.some.inj ho'
        rw [put_same] at hb'
        rw [if_neg e] at ho
        rw [put_other (fun h => e h.symm)] at hb
        have := hq b cap' hb' hl'
        have := (h.own o ob1 b cap ho hl hb).2
        omega
      · rw [if_neg e] at ho
        rw [if_neg e'] at ho'
        rw [put_other (fun h => e h.symm)] at hb
        rw [put_other (fun h => e' h.symm)] at hb'
        exact h.inj o o' ob1 ob2 b cap cap' ho hl ho' hl' hb hb'
  · intro o ob' ho
    rw [look_cons] at ho
    by_cases e : j = o
    · subst e
      rw [if_pos rfl] at ho
      obtain rfl := Option.some.inj ho
      rw [put_same]
      exact hobj _ _ _ (fun x v => VS_step (RO_step hk) hk hn) (fun t x cs => Rp_keep (RO_step hk))
    · rw [if_neg e] at ho
      rw [put_other (fun h => e h.symm)]
      refine OR_step (RO_step hk) hk hn (fun b cap hb hl => ?_) (h.obj o ob' ho)
      exact hold b (h.own o ob' b cap ho hl hb).2

/-- A box or a row of the call's own is written. -/
theorem RepB.turn (h : RepB Z M N w0 β σ a w) {o b cap : Nat} {ob ob' : Ob} (ho : look σ.H o = some ob) (hl : live ob = true) (hl' : live ob' = true) (hb : β o = some (b, cap))
    (hs : ∀ S', Step w' S' (β o) ob (β o) (some ob')) (hM : mayW M b cap ob') (hbelow : Kept M w0 w') (hsz : w'.heap.size = w.heap.size) (hw : ∀ b', b' ≠ b → w'.heap[b']? = w.heap[b']?)
    (hobj : ∀ S' H', (∀ x v, VS w (RO Z β σ.H) β σ.H x v → VS w' S' β H' x v) → (∀ t x cs, Rp w (RO Z β σ.H) t x cs → Rp w' S' t x cs) → OR w' S' β H' (β o) ob') :
    RepB Z M N w0 β (σ.put o ob') a w' := by
  have hO : ∀ b', Own β ((o, ob') :: σ.H) b' ↔ Own β σ.H b' := by
    intro b'
    constructor
    · rintro ⟨o', ob1, cap', h1, h2, h3⟩
      rw [look_cons] at h1
      by_cases e : o = o'
      · subst e; exact ⟨o, ob, cap', ho, hl, h3⟩
      · rw [if_neg e] at h1; exact ⟨o', ob1, cap', h1, h2, h3⟩
    · rintro ⟨o', ob1, cap', h1, h2, h3⟩
      by_cases e : o = o'
      · subst e; exact ⟨o, ob', cap', by rw [look_cons, if_pos rfl], hl', h3⟩
      · exact ⟨o', ob1, cap', by rw [look_cons, if_neg e]; exact h1, h2, h3⟩
  have hk : ∀ b', b' < w.heap.size → ¬ Own β σ.H b' → ¬ Own β ((o, ob') :: σ.H) b' ∧ w'.heap[b']? = w.heap[b']? := by
    intro b' hb' hn
    refine ⟨fun hh => hn ((hO b').1 hh), hw b' fun e => ?_⟩
    subst e
    exact hn ⟨o, ob, cap, ho, hl, hb⟩
  have hn : ∀ o' ob1, look σ.H o' = some ob1 → Step w' (RO Z β ((o, ob') :: σ.H)) (β o') ob1 (β o') (look ((o, ob') :: σ.H) o') := by
    intro o' ob1 h1
    by_cases e : o = o'
    · subst e
      rw [ho] at h1
      obtain rfl := Option.some.inj h1
      rw [look_cons, if_pos rfl]
      exact hs _
    · rw [look_cons, if_neg e, h1]
      exact step_self
  refine h.move hbelow (fun o' q ho' hs _ => ⟨ho', some_cons hs⟩) hk hn ?_ ?_ ?_
  · intro o' ob1 b' cap' h1 h2 h3
    rw [hsz]
    rw [look_cons] at h1
    by_cases e : o = o'
    · subst e
      rw [if_pos rfl] at h1; obtain rfl := Option.some.inj h1
      have := h.own o ob b' cap' ho hl h3
      rw [hb] at h3
      simp only [Option.some.injEq, Prod.mk.injEq] at h3
      obtain ⟨rfl, rfl⟩ := h3
      exact ⟨hM, this.2⟩
    · rw [if_neg e] at h1; exact h.own o' ob1 b' cap' h1 h2 h3
  · intro o1 o2 ob1 ob2 b' c1 c2 h1 l1 h2 l2 b1 b2
    have f : ∀ o' ob1, look ((o, ob') :: σ.H) o' = some ob1 → live ob1 = true → ∃ ob2, look σ.H o' = some ob2 ∧ live ob2 = true := by
      intro o' ob1 h1 l1
      rw [look_cons] at h1
      by_cases e : o = o'
      · subst e; exact ⟨ob, ho, hl⟩
      · rw [if_neg e] at h1; exact ⟨ob1, h1, l1⟩
    obtain ⟨p1, q1, r1⟩ := f o1 ob1 h1 l1
    obtain ⟨p2, q2, r2⟩ := f o2 ob2 h2 l2
    exact h.inj o1 o2 p1 p2 b' c1 c2 q1 r1 q2 r2 b1 b2
  · intro o' ob1 h1
    rw [look_cons] at h1
    by_cases e : o = o'
    · subst e
      rw [if_pos rfl] at h1
      obtain rfl := Option.some.inj h1
      exact hobj _ _ (fun x v => VS_step (RO_step hk) hk hn) (fun t x cs => Rp_keep (RO_step hk))
    · rw [if_neg e] at h1
      refine OR_step (RO_step hk) hk hn (fun b' cap' hb' hl' => hw b' fun e' => ?_) (h.obj o' ob1 h1)
      subst e'
      exact e (h.inj o o' ob ob1 b' cap cap' ho hl h1 hl' hb hb')

/-- One row is frozen. -/
theorem RepB.frz1 (h : RepB Z M N w0 β σ a w) {o : Nat} {e : TypeId} {t : Ty} {xs : List (den t)} (ho : look σ.H o = some (.row e t xs)) : RepB Z M N w0 β (σ.put o (.fro t xs)) a w := by
  have hO : ∀ b', Own β ((o, .fro t xs) :: σ.H) b' → Own β σ.H b' := by
    rintro b' ⟨o', ob1, cap', h1, h2, h3⟩
    rw [look_cons] at h1
    by_cases e : o = o'
    · subst e; rw [if_pos rfl] at h1; obtain rfl := Option.some.inj h1; simp [live] at h2
    · rw [if_neg e] at h1; exact ⟨o', ob1, cap', h1, h2, h3⟩
  have hk : ∀ b', b' < w.heap.size → ¬ Own β σ.H b' → ¬ Own β ((o, .fro t xs) :: σ.H) b' ∧ w.heap[b']? = w.heap[b']? := fun b' _ hn => ⟨fun hh => hn (hO b' hh), rfl⟩
  have hno : ∀ b cap, β o = some (b, cap) → ¬ Own β ((o, .fro t xs) :: σ.H) b := by
    rintro b cap hb ⟨o', ob1, cap', h1, h2, h3⟩
    rw [look_cons] at h1
    by_cases e : o = o'
    · subst e; rw [if_pos rfl] at h1; obtain rfl := Option.some.inj h1; simp [live] at h2
    · rw [if_neg e] at h1
      exact e (h.inj o o' _ _ b cap cap' ho rfl h1 h2 hb h3)
  have hn : ∀ o' ob1, look σ.H o' = some ob1 → Step w (RO Z β ((o, .fro t xs) :: σ.H)) (β o') ob1 (β o') (look ((o, .fro t xs) :: σ.H) o') := by
    intro o' ob1 h1
    by_cases e' : o = o'
    · subst e'
      rw [ho] at h1
      obtain rfl := Option.some.inj h1
      rw [look_cons, if_pos rfl]
      refine .inr ⟨e, rfl, fun v hv => ?_⟩
      rcases h.obj o _ ho with ⟨hq, hx⟩ | ⟨b, cap, c, rows, hq, hh, hs, hl, hmx, hr, hi⟩
      · rw [hq] at hv
        obtain ⟨rfl, _⟩ := hv
        subst hx
        exact ⟨none, 0, rfl, by simp, fun hx => absurd rfl hx⟩
      · rw [hq] at hv
        simp only [RowV] at hv
        subst hv
        refine ⟨_, cap, rfl, hl, fun _ => ⟨b, 0, rfl, ⟨h.whole b (h.own o _ b cap ho rfl hq).1, hno b cap hq⟩, rows, RpL_mono (fun _ _ => Rp_keep (RO_step hk)) hr, c, e, _, hh, fun i hi' => by rw [Nat.zero_add]; exact hi i hi'⟩⟩
    · rw [look_cons, if_neg e', h1]
      exact step_self
  refine h.move h.below (fun o' q ho' hs _ => ⟨ho', some_cons hs⟩) hk hn ?_ ?_ ?_
  · intro o' ob1 b' cap' h1 h2 h3
    rw [look_cons] at h1
    by_cases e : o = o'
    · subst e; rw [if_pos rfl] at h1; obtain rfl := Option.some.inj h1; simp [live] at h2
    · rw [if_neg e] at h1; exact h.own o' ob1 b' cap' h1 h2 h3
  · intro o1 o2 ob1 ob2 b' c1 c2 h1 l1 h2 l2 b1 b2
    rw [look_cons] at h1 h2
    by_cases e1 : o = o1
    · subst e1; rw [if_pos rfl] at h1; obtain rfl := Option.some.inj h1; simp [live] at l1
    · by_cases e2 : o = o2
      · subst e2; rw [if_pos rfl] at h2; obtain rfl := Option.some.inj h2; simp [live] at l2
      · rw [if_neg e1] at h1; rw [if_neg e2] at h2
        exact h.inj o1 o2 ob1 ob2 b' c1 c2 h1 l1 h2 l2 b1 b2
  · intro o' ob1 h1
    rw [look_cons] at h1
    by_cases e : o = o'
    · subst e; rw [if_pos rfl] at h1; obtain rfl := Option.some.inj h1; trivial
    · rw [if_neg e] at h1
      exact OR_step (RO_step hk) hk hn (fun _ _ _ _ => rfl) (h.obj o' ob1 h1)

theorem RepB.frz (h : RepB Z M N w0 β σ a w) : ∀ l : List Nat, RepB Z M N w0 β { σ with H := S.frz σ.H l } a w
  | [] => h
  | o :: r => by
    have ih := RepB.frz h r
    unfold S.frz
    split
    · rename_i e t xs he
      exact ih.frz1 (σ := { σ with H := S.frz σ.H r }) he
    · exact ih

/-- What a value is stays so. -/
theorem RepB.frz1V (h : RepB Z M N w0 β σ a w) {o : Nat} {e : TypeId} {t : Ty} {xs : List (den t)} (ho : look σ.H o = some (.row e t xs)) {x : SV} {v : Value} (hv : VV w (RO Z β σ.H) β σ.H x v) : VV w (RO Z β ((o, .fro t xs) :: σ.H)) β ((o, .fro t xs) :: σ.H) x v := by
  have hO : ∀ b', Own β ((o, .fro t xs) :: σ.H) b' → Own β σ.H b' := by
    rintro b' ⟨o', ob1, cap', h1, h2, h3⟩
    rw [look_cons] at h1
    by_cases e : o = o'
    · subst e; rw [if_pos rfl] at h1; obtain rfl := Option.some.inj h1; simp [live] at h2
    · rw [if_neg e] at h1; exact ⟨o', ob1, cap', h1, h2, h3⟩
  have hk : ∀ b', b' < w.heap.size → ¬ Own β σ.H b' → ¬ Own β ((o, .fro t xs) :: σ.H) b' ∧ w.heap[b']? = w.heap[b']? := fun b' _ hn => ⟨fun hh => hn (hO b' hh), rfl⟩
  have hno : ∀ b cap, β o = some (b, cap) → ¬ Own β ((o, .fro t xs) :: σ.H) b := by
    rintro b cap hb ⟨o', ob1, cap', h1, h2, h3⟩
    rw [look_cons] at h1
    by_cases e : o = o'
    · subst e; rw [if_pos rfl] at h1; obtain rfl := Option.some.inj h1; simp [live] at h2
    · rw [if_neg e] at h1
      exact e (h.inj o o' _ _ b cap cap' ho rfl h1 h2 hb h3)
  have hn : ∀ o' ob1, look σ.H o' = some ob1 → Step w (RO Z β ((o, .fro t xs) :: σ.H)) (β o') ob1 (β o') (look ((o, .fro t xs) :: σ.H) o') := by
    intro o' ob1 h1
    by_cases e' : o = o'
    · subst e'
      rw [ho] at h1
      obtain rfl := Option.some.inj h1
      rw [look_cons, if_pos rfl]
      refine .inr ⟨e, rfl, fun v hv => ?_⟩
      rcases h.obj o _ ho with ⟨hq, hx⟩ | ⟨b, cap, c, rows, hq, hh, hs, hl, hmx, hr, hi⟩
      · rw [hq] at hv
        obtain ⟨rfl, _⟩ := hv
        subst hx
        exact ⟨none, 0, rfl, by simp, fun hx => absurd rfl hx⟩
      · rw [hq] at hv
        simp only [RowV] at hv
        subst hv
        refine ⟨_, cap, rfl, hl, fun _ => ⟨b, 0, rfl, ⟨h.whole b (h.own o _ b cap ho rfl hq).1, hno b cap hq⟩, rows, RpL_mono (fun _ _ => Rp_keep (RO_step hk)) hr, c, e, _, hh, fun i hi' => by rw [Nat.zero_add]; exact hi i hi'⟩⟩
    · rw [look_cons, if_neg e', h1]
      exact step_self
  exact VV_step (RO_step hk) hk hn hv

theorem RepB.frzV (h : RepB Z M N w0 β σ a w) {x : SV} {v : Value} (hv : VV w (RO Z β σ.H) β σ.H x v) : ∀ l : List Nat, VV w (RO Z β (S.frz σ.H l)) β (S.frz σ.H l) x v
  | [] => hv
  | o :: r => by
    have ih := RepB.frzV h hv r
    have hr := h.frz r
    unfold S.frz
    split
    · rename_i e t xs he
      exact hr.frz1V (σ := { σ with H := S.frz σ.H r }) he ih
    · exact ih

/-- Behind an operation that writes nothing and makes nothing. -/
theorem RepB.val (h : RepB Z M N w0 β σ a w) {i : Option Nat} {y : SV} {v : Value} (hi : dstOk i σ.nt = true) (hv : VV w (RO Z β σ.H) β σ.H y v) :
    RepB Z M N w0 β (addO σ i { x := .v y, n := [], fr := [] }) (a.put i v) w := by
  cases i with
  | none => exact h
  | some j => exact h.set (by simpa [dstOk] using hi) hv

theorem RepB.valL (h : RepB Z M N w0 β σ a w) {i : Option Nat} {y : Sl} {v : Value} (hi : dstOk i σ.nt = true) (hv : VL w (RO Z β σ.H) β σ.H y v) :
    RepB Z M N w0 β (addO σ i { x := y, n := [], fr := [] }) (a.put i v) w := by
  cases i with
  | none => exact h
  | some j => exact h.setL (by simpa [dstOk] using hi) hv

theorem RepB.skip (h : RepB Z M N w0 β σ a w) {i : Option Nat} (hi : dstOk i σ.nt = true) : RepB Z M N w0 β (σ.skip i) (a.put i undef) w := by
  cases i with
  | none => exact h
  | some j => exact h.setL (by simpa [dstOk] using hi) ⟨[], rfl, .nil⟩

end Go.Proofs.Yteddlkdbefloaaa.S
