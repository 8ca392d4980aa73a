/- Soundness of the machinery S, operation by operation: what the run says of an operation is what the machine does. -/
import Derived.Test.YteddlkdbefloaaaSd
import Derived.Laws.Rows
import Derived.Laws.AppendOwn
import Derived.Laws.MakeOwn
namespace Go.Proofs.Yteddlkdbefloaaa.S
open Go Go.RowKit
set_option linter.unusedVariables false
set_option linter.unusedSimpArgs false

/-! ### the table of types -/
/-- Are these cells the zero value's? -/
def zD : Ty → List Value → Bool
  | .int k, [.int k' n] => decide (k = k') && decide (n = 0)
  | .bool, [.bool b] => !b
  | .str, [.string s] => decide (s.size = 0)
  | .unit, [] => true
  | .pair a b, vs => zD a (vs.take (sz a)) && zD b (vs.drop (sz a))
  | .slice _, [.slice none 0 0] => true
  | _, _ => false

def descOk (r : Row) (d : TypeDesc) : Bool := match r.ty with
  | .int k => match d with | .int k' => decide (k = k') | _ => false
  | .bool => match d with | .bool => true | _ => false
  | .str => match d with | .string => true | _ => false
  | .slice _ => match d with | .slice e => decide (e = r.elem) | _ => false
  | _ => match d with | .struct fs => decide (fs.toList.map (fun f => (f.offset, f.type)) = r.fields) | _ => false

def elemOk (T : Tab) (r : Row) : Bool := match r.ty with
  | .slice u => match look T r.elem with | some q => decide (q.ty = u) && decide (0 < sz q.ty) | none => false
  | _ => r.fields.all fun f => (look T f.2).isSome

/-- Has a struct fields of plain kinds alone, one cell each? -/
def eqRow (T : Tab) : Nat → Ty → List (Nat × TypeId) → Bool
  | _, .unit, [] => true
  | k, .pair a b, (off, u) :: r => decide (off = k) && (match look T u with | some q => decide (q.ty = a) | none => false) && (match a with | .int _ => true | .bool => true | .str => true | _ => false) && eqRow T (k + 1) b r
  | _, _, _ => false

/-- May two structs of this type be compared? -/
def eqOk (P : Program) (T : Tab) (t : TypeId) (r : Row) (d : TypeDesc) : Bool :=
  match isAg r.ty && r.elem == 1 with
  | false => true
  | true => !P.stoodInHeld t && !P.eqGuardType P.depth t && eqRow T 0 r.ty r.fields && (match d with | .struct fs => fs.toList.all fun f => !(f.name == "_") | _ => false)

/-- The map types over this element type: their key's type. -/
def mapOk (P : Program) (T : Tab) (t : TypeId) (r : Row) : Bool := match r.ty with
  | .bool => r.fields.all fun f => (match P.underlying f.1 with | some (.map k e) => decide (k = f.2) && decide (e = t) | _ => false) && (match look T f.2 with | some q => decide (q.ty = .int .i64) | none => false) && (match P.info? t with | some i => (match i.zero with | some (.bool b) => !b | _ => false) | none => false)
  | _ => true

def rowOk (P : Program) (T : Tab) (t : TypeId) (r : Row) : Bool :=
  match P.info? t, P.underlying t with
  | some i, some d => decide (i.size = sz r.ty) && decide (i.bytes = r.bytes) && descOk r d && elemOk T r && (match i.zero with | some z => zD r.ty z.cells.toList | none => false) && eqOk P T t r d && mapOk P T t r
  | _, _ => false

def tabOk (P : Program) (T : Tab) : Bool := P.follows .mixedOrders && T.all fun p => rowOk P T p.1 p.2

theorem tabOk_mixed {P : Program} {T : Tab} (h : tabOk P T = true) : P.follows .mixedOrders = true := (Bool.and_eq_true_iff.1 h).1

structure RowOk (P : Program) (T : Tab) (t : TypeId) (r : Row) (i : TypeInfo) (d : TypeDesc) (z : Value) : Prop where
  info : P.info? t = some i
  under : P.underlying t = some d
  size : i.size = sz r.ty
  bytes : i.bytes = r.bytes
  desc : descOk r d = true
  elem : elemOk T r = true
  zero : i.zero = some z
  zcells : zD r.ty z.cells.toList = true
  eqs : eqOk P T t r d = true
  maps : mapOk P T t r = true

theorem look_mem {α : Type} : ∀ {l : List (Nat × α)} {i : Nat} {x : α}, look l i = some x → (i, x) ∈ l
  | (k, y) :: r, i, x, h => by
    rw [look_cons] at h
    by_cases e : k = i
    · subst e; rw [if_pos rfl] at h; obtain rfl := Option.some.inj h; simp
    · rw [if_neg e] at h; exact List.mem_cons_of_mem _ (look_mem h)

theorem tab_mem {P : Program} {T : Tab} (hT : tabOk P T = true) {t : TypeId} {r : Row} (h : (t, r) ∈ T) : ∃ i d z, RowOk P T t r i d z := by
  have := List.all_eq_true.1 (Bool.and_eq_true_iff.1 hT).2 _ h
  simp only [rowOk] at this
  split at this
  · rename_i i d hi hd
    simp only [Bool.and_eq_true, decide_eq_true_eq] at this
    obtain ⟨⟨⟨⟨⟨⟨h1, h2⟩, h3⟩, h4⟩, h5⟩, h6⟩, h7⟩ := this
    split at h5
    · rename_i z hz
      exact ⟨i, d, z, hi, hd, h1, h2, h3, h4, hz, h5, h6, h7⟩
    · cases h5
  · cases this

theorem tab_row {P : Program} {T : Tab} (hT : tabOk P T = true) {t : TypeId} {r : Row} (h : look T t = some r) : ∃ i d z, RowOk P T t r i d z := tab_mem hT (look_mem h)

theorem zD_Rp {w : World} {S : Nat → Prop} : ∀ {t : Ty} {vs : List Value}, zD t vs = true → Rp w S t (zeroD t) vs := by
  intro t
  induction t with
  | pair a b iha ihb =>
    intro vs h
    simp only [zD, Bool.and_eq_true] at h
    exact ⟨_, _, (List.take_append_drop (sz a) vs).symm, iha h.1, ihb h.2⟩
  | unit =>
    intro vs h
    cases vs with
    | nil => rfl
    | cons _ _ => simp [zD] at h
  | int k =>
    intro vs h
    unfold zD at h
    split at h <;> first | (cases h; done) | skip
    all_goals simp_all [Rp, zeroD]
  | bool =>
    intro vs h
    unfold zD at h
    split at h <;> first | (cases h; done) | skip
    all_goals simp_all [Rp, zeroD]
  | str =>
    intro vs h
    unfold zD at h
    split at h <;> first | (cases h; done) | skip
    all_goals simp_all [Rp, zeroD]
    rename_i s
    cases s with | mk d => congr
  | slice t ih =>
    intro vs h
    unfold zD at h
    split at h <;> first | (cases h; done) | skip
    all_goals first | (simp_all; done) | exact ⟨none, 0, rfl, by simp [zeroD], fun hx => absurd rfl hx⟩

theorem All2.zcell {w : World} {S : Nat → Prop} {β : Names} {H : Heap} : ∀ {t : Ty} {vs : List Value}, zD t vs = true → All2 (fun x v => VS w S β H x v ∧ v.oneCell' = true) (zeroC t) vs := by
  intro t
  induction t with
  | pair a b iha ihb =>
    intro vs h
    simp only [zD, Bool.and_eq_true] at h
    have := (iha h.1).append (ihb h.2)
    rwa [List.take_append_drop] at this
  | unit =>
    intro vs h
    cases vs with
    | nil => exact .nil
    | cons _ _ => simp [zD] at h
  | int k =>
    intro vs h
    have hr := zD_Rp (w := w) (S := S) h
    have hl := Rp_cell hr
    simp only [Rp] at hr
    subst hr
    exact .cons ⟨⟨rfl, rfl⟩, rfl⟩ .nil
  | bool =>
    intro vs h
    have hr := zD_Rp (w := w) (S := S) h
    simp only [Rp] at hr
    subst hr
    exact .cons ⟨⟨rfl, rfl⟩, rfl⟩ .nil
  | str =>
    intro vs h
    have hr := zD_Rp (w := w) (S := S) h
    simp only [Rp] at hr
    subst hr
    exact .cons ⟨⟨rfl, rfl⟩, rfl⟩ .nil
  | slice t ih =>
    intro vs h
    unfold zD at h
    split at h <;> first | (cases h; done) | skip
    all_goals first | (simp_all; done) | exact .cons ⟨rfl, rfl⟩ .nil

section run
variable {P : Program} {T : Tab} {t : TypeId} {r : Row} {i : TypeInfo} {d : TypeDesc} {z : Value}

theorem RowOk.run_size (h : RowOk P T t r i d z) (w : World) : (sizeOf t).run P w = .ok (sz r.ty) w := by
  simp [sizeOf, typeInfo, h.info, h.size]
theorem RowOk.run_isAgg (h : RowOk P T t r i d z) (w : World) : (isAgg t).run P w = .ok (isAg r.ty) w := by
  have hd := h.desc
  simp only [isAgg, Sem.run_bind, run_underlying h.under w, Result.andThen_ok]
  unfold descOk at hd
  cases hr : r.ty <;> rw [hr] at hd <;> cases d <;> first | (simp at hd; done) | simp [isAg]
theorem RowOk.run_zero (h : RowOk P T t r i d z) (w : World) : (zeroValue t).run P w = .ok z w := by
  simp [zeroValue, typeInfo, h.info, h.zero]
theorem RowOk.fields (h : RowOk P T t r i d z) (ha : isAg r.ty = true) : ∃ fs, d = .struct fs ∧ fs.toList.map (fun f => (f.offset, f.type)) = r.fields := by
  have hd := h.desc
  unfold descOk at hd
  cases hr : r.ty <;> rw [hr] at hd ha <;> first | (simp [isAg] at ha; done) | skip
  all_goals
    cases d <;> first | (simp at hd; done) | skip
    exact ⟨_, rfl, by simpa using hd⟩
theorem RowOk.fieldIn (h : RowOk P T t r i d z) (ha : isAg r.ty = true) {k off : Nat} {u : TypeId} (hf : r.fields[k]? = some (off, u)) : ∃ q, look T u = some q := by
  have he := h.elem
  unfold elemOk at he
  have : r.fields.all (fun f => (look T f.2).isSome) = true := by
    cases hr : r.ty <;> rw [hr] at he ha <;> first | (simp [isAg] at ha; done) | exact he
  have := List.all_eq_true.1 this _ (List.mem_of_getElem? hf)
  exact Option.isSome_iff_exists.1 this
theorem RowOk.slice (h : RowOk P T t r i d z) {u : Ty} (hr : r.ty = .slice u) : d = .slice r.elem ∧ ∃ q, look T r.elem = some q ∧ q.ty = u ∧ 0 < sz u := by
  have hd := h.desc
  have he := h.elem
  unfold descOk at hd
  unfold elemOk at he
  rw [hr] at hd he
  cases d <;> first | (simp at hd; done) | skip
  refine ⟨by simpa using hd, ?_⟩
  simp only at he
  split at he
  · rename_i q hq
    simp only [Bool.and_eq_true, decide_eq_true_eq] at he
    obtain ⟨e, hp⟩ := he
    subst e
    exact ⟨q, hq, rfl, hp⟩
  · cases he
end run

/-! ### operations -/
section ops
variable {P : Program} {T : Tab} {G : Env} {Z : Nat → Prop} {M : Nat → Nat → Prop} {N : Nat → Option (Option (Nat × Nat))} {w0 w w' : World} {β : Names} {σ : St} {a : Act} {o : Oper} {next : Act → World → Prop} {Q : Exit → Act → World → Prop} {v : Value}

theorem ite2 {p q : Prop} [Decidable p] [Decidable q] {γ : Type} {x : Option γ} : (if p then (if q then x else none) else none) = if p ∧ q then x else none := by
  by_cases h1 : p <;> by_cases h2 : q <;> simp [h1, h2]

theorem wp_val (h : (execOp a.eval o).run P w = .ok (.value v) w') (hn : next (a.put o.dst v) w') : o.wp P a w next Q := by
  unfold Oper.wp; rw [h]; exact hn
theorem wp_skip' (h : (execOp a.eval o).run P w = .ok .skip w') (hn : next (a.put o.dst undef) w') : o.wp P a w next Q := by
  unfold Oper.wp; rw [h]; exact hn

theorem RepB.owns (h : RepB Z M N w0 β σ a w) : Owns w (RO Z β σ.H) β σ.H := h.obj

/-- What an operation's lemma asks: the rest of the run goes on from the state behind it. -/
def GoP (Z : Nat → Prop) (M : Nat → Nat → Prop) (N : Nat → Option (Option (Nat × Nat))) (w0 : World) (σ : St) (o : Oper) (q : Out) (next : Act → World → Prop) : Prop := ∀ a' w', Rep Z M N w0 (addO σ o.dst q) a' w' → next a' w'

theorem val1_some {x : SV} {q : Out} (h : val1 x = some q) : q = { x := .v x, n := [], fr := [] } := (Option.some.inj h).symm

variable {q : Out}

theorem op_move (hrep : RepB Z M N w0 β σ a w) (hd : dstOk o.dst σ.nt = true) (hg : GoP Z M N w0 σ o q next) {x : Operand} (ho : o.op = .move x ∨ o.op = .assign x)
    (h : (match tupOf σ x with
      | some xs => some ({ x := .t xs, n := [], fr := [] } : Out)
      | none => match ev σ x with | some z => val1 z | none => none) = some q) : o.wp P a w next Q := by
  have hrun : (execOp a.eval o).run P w = .ok (.value (a.eval x)) w := by
    unfold execOp
    rcases ho with ho | ho <;> rw [ho] <;> rfl
  split at h
  · rename_i xs hz
    obtain rfl := Option.some.inj h
    unfold tupOf at hz
    split at hz
    · rename_i t
      split at hz
      · rename_i ys hy
        obtain rfl := Option.some.inj hz
        exact wp_val hrun (hg _ _ ⟨β, hrep.valL hd (hrep.env t _ hy).2⟩)
      · cases hz
    · cases hz
  · split at h
    · rename_i z hz
      obtain rfl := val1_some h
      exact wp_val hrun (hg _ _ ⟨β, hrep.val hd (ev_sound hrep hz)⟩)
    · cases h

theorem op_pick (hrep : RepB Z M N w0 β σ a w) (hd : dstOk o.dst σ.nt = true) (hg : GoP Z M N w0 σ o q next) {c x z : Operand} (ho : o.op = .pick c x z)
    (h : pureR T o σ = some q) : o.wp P a w next Q := by
  unfold pureR pureC at h
  rw [ho] at h
  simp only at h
  have run : ∀ b, a.eval c = .bool b → (execOp a.eval o).run P w = .ok (.value (if b then a.eval x else a.eval z)) w := by
    intro b hb
    unfold execOp
    rw [ho]
    simp [hb, asBool]
  split at h
  · rename_i b va vb hc hx hz
    have hb := run b (VV_bool (ev_sound hrep hc))
    by_cases e : b = true
    · subst e
      rw [if_pos rfl] at h
      obtain rfl := val1_some h
      exact wp_val hb (hg _ _ ⟨β, hrep.val hd (ev_sound hrep hx)⟩)
    · rw [if_neg e] at h
      simp only [Bool.not_eq_true] at e
      subst e
      obtain rfl := val1_some h
      exact wp_val hb (hg _ _ ⟨β, hrep.val hd (ev_sound hrep hz)⟩)
  · cases h

theorem heap_new (w : World) (x : Obj) : (w.alloc x).heap[w.heap.size]? = some x := heap_alloc_new w x

/-- A new box. -/
theorem RepB.newBox (h : RepB Z M N w0 β σ a w) {j : Nat} (hj : newName σ.H j = true) (hjn : j < σ.nt) {cs : List S1} {c : List Value} {e : TypeId}
    (hc : All2 (fun x v => VS w (RO Z β σ.H) β σ.H x v ∧ v.oneCell' = true) cs c) :
    RepB Z M N w0 (β.put j (some (w.heap.size, 0))) ((σ.put j (.box cs)).set j (.s (.p j 0))) (a.put (some j) (.pointer (some ⟨w.heap.size, 0, none⟩))) (w.alloc (.cells c.toArray e)) := by
  have h1 : RepB Z M N w0 (β.put j (some (w.heap.size, 0))) (σ.put j (.box cs)) a (w.alloc (.cells c.toArray e)) := by
    refine h.new hj (h.below.alloc _) (fun b hb => heap_alloc_old w _ b hb) (by simp) ?_ ?_
    · intro b cap hq _
      simp only [Option.some.injEq, Prod.mk.injEq] at hq
      obtain ⟨rfl, _⟩ := hq
      simp
    · intro S' β' H' hs _
      have hl := hc.len
      refine ⟨w.heap.size, 0, c.toArray, e, rfl, heap_new w _, by simp; omega, ?_⟩
      rw [List.drop_zero, hl, List.take_of_length_le (by simp)]
      exact hc.mono fun x v hx => ⟨hs x v hx.1, hx.2⟩
  refine h1.set hjn ?_
  refine (VV_s (by intros; simp)).2 ?_
  simp only [VS, St.put, look_cons, if_true]
  exact ⟨w.heap.size, 0, put_same, by rw [Nat.zero_add]⟩

theorem op_alloc (hT : tabOk P T = true) (hrep : RepB Z M N w0 β σ a w) (hd : dstOk o.dst σ.nt = true) (hg : GoP Z M N w0 σ o q next) {t : TypeId} (ho : o.op = .alloc t)
    (h : pureR T o σ = some q) : o.wp P a w next Q := by
  unfold pureR pureC at h
  rw [ho] at h
  simp only at h
  split at h
  · rename_i r j hr hj
    split at h
    · rename_i hn
      obtain rfl := (Option.some.inj h).symm
      obtain ⟨i, d, z, hrow⟩ := tab_row hT hr
      unfold GoP at hg
      rw [hj] at hd hg
      refine wp_val (v := .pointer (some ⟨w.heap.size, 0, none⟩)) (w' := w.alloc (.cells z.cells t)) ?_ ?_
      · unfold execOp
        rw [ho]
        simp [Instr.alloc, hrow.run_zero, newVar, newRow]
      · rw [hj]
        refine hg _ _ ⟨β.put j (some (w.heap.size, 0)), ?_⟩
        have := hrep.newBox hn (by simpa [dstOk] using hd) (c := z.cells.toList) (e := t) (All2.zcell hrow.zcells)
        rw [Array.toArray_toList] at this
        exact this
    · cases h
  · cases h

theorem op_box (hT : tabOk P T = true) (hrep : RepB Z M N w0 β σ a w) (hd : dstOk o.dst σ.nt = true) (hg : GoP Z M N w0 σ o q next) {t : TypeId} {x : Operand} (ho : o.op = .box t x)
    (h : pureR T o σ = some q) : o.wp P a w next Q := by
  unfold pureR pureC at h
  rw [ho] at h
  simp only at h
  split at h
  · rename_i r u j hr hx hj
    split at h
    · rename_i hn
      obtain rfl := (Option.some.inj h).symm
      obtain ⟨_, hn, hk⟩ := hn
      unfold GoP at hg
      rw [hj] at hd hg
      obtain ⟨cs, hcs, hall⟩ := cells_sound (ev_sound hrep hx) hk
      refine wp_val (v := .pointer (some ⟨w.heap.size, 0, none⟩)) (w' := w.alloc (.cells (a.eval x).cells t)) ?_ ?_
      · unfold execOp
        rw [ho]
        simp [Instr.box, newVar, newRow]
      · rw [hj]
        refine hg _ _ ⟨β.put j (some (w.heap.size, 0)), ?_⟩
        rw [hcs]
        exact hrep.newBox hn (by simpa [dstOk] using hd) hall
    · cases h
  · cases h

theorem cell_at {b off : Nat} {c : Array Value} {e : TypeId} {fz : Nat × Nat} (hh : w.heap[b]? = some (.cells c e fz)) : w.cell? ⟨b, off, none⟩ = c[off]? := cell_of_row w b off c e fz hh

theorem add_mk (b o n : Nat) : Addr.add ⟨b, o, none⟩ n = ⟨b, o + n, none⟩ := Addr.add_lit b o n

/-- A variable is read out of a block. -/
theorem run_loadVar {t : TypeId} {r : Row} {i : TypeInfo} {d : TypeDesc} {z : Value} (hrow : RowOk P T t r i d z) {b off : Nat} {c : Array Value} {e : TypeId} {fz : Nat × Nat} (hh : w.heap[b]? = some (.cells c e fz)) {vs : List Value} (hl : vs.length = sz r.ty)
    (hv : ∀ k, k < vs.length → c[off + k]? = vs[k]?) : (loadVar t ⟨b, off, none⟩).run P w = .ok (if isAg r.ty then .agg vs.toArray else vs.headD undef) w := by
  have hcell : ∀ j v, vs[j]? = some v → w.cell? ((⟨b, off, none⟩ : Addr).add j) = some v := by
    intro j v hj
    have hlt : j < vs.length := (List.getElem?_eq_some_iff.1 hj).1
    rw [add_mk, cell_at hh, hv j hlt, hj]
  by_cases ha : isAg r.ty = true
  · have := run_loadCells_list (P := P) w ⟨b, off, none⟩ vs hcell
    rw [hl] at this
    simp [loadVar, hrow.run_isAgg, ha, hrow.run_size, this]
  · simp only [Bool.not_eq_true] at ha
    have h1 : sz r.ty = 1 := by cases hr : r.ty <;> rw [hr] at ha <;> first | rfl | (simp [isAg] at ha)
    cases vs with
    | nil => simp [h1] at hl
    | cons u us =>
      have := hcell 0 u rfl
      simp only [add_mk, Nat.add_zero] at this
      simp [loadVar, hrow.run_isAgg, ha, this]

end ops
end Go.Proofs.Yteddlkdbefloaaa.S
