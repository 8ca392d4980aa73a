/- What the words of the machinery S mean in a world: data in memory, what a slot holds, a state's rows and boxes; and what each move of the world leaves of it. -/
import Derived.Test.YteddlkdbefloaaaSa
import Derived.Laws.Cells
import Derived.Laws.NewBlocks
namespace Go.Proofs.Yteddlkdbefloaaa.S
open Go Go.RowKit
set_option linter.unusedVariables false
set_option linter.unusedSimpArgs false

/-! ### data in memory -/
def RpL {α : Type} (R : α → List Value → Prop) : List α → List Value → Prop
  | [], rows => rows = []
  | x :: xs, rows => ∃ r rs, rows = r ++ rs ∧ R x r ∧ RpL R xs rs

def At (w : World) (b off : Nat) (rows : List Value) : Prop :=
  ∃ c e fz, w.heap[b]? = some (.cells c e fz) ∧ ∀ i, i < rows.length → c[off + i]? = rows[i]?

def Rp (w : World) (S : Nat → Prop) : (t : Ty) → den t → List Value → Prop
  | .int k, x, cs => cs = [.int k x]
  | .bool, x, cs => cs = [.bool x]
  | .str, x, cs => cs = [.string ⟨x.toArray⟩]
  | .unit, _, cs => cs = []
  | .pair a b, x, cs => ∃ c1 c2, cs = c1 ++ c2 ∧ Rp w S a x.1 c1 ∧ Rp w S b x.2 c2
  | .slice t, xs, cs => ∃ A cap, cs = [.slice A xs.length cap] ∧ xs.length ≤ cap ∧
      (xs ≠ [] → ∃ b off, A = some ⟨b, off, none⟩ ∧ S b ∧ ∃ rows, RpL (Rp w S t) xs rows ∧ At w b off rows)

theorem RpL_mono {α : Type} {R R' : α → List Value → Prop} (h : ∀ x r, R x r → R' x r) : ∀ {xs : List α} {rows}, RpL R xs rows → RpL R' xs rows
  | [], _, hr => hr
  | _ :: _, _, ⟨r, rs, e, hx, hr⟩ => ⟨r, rs, e, h _ _ hx, RpL_mono h hr⟩

theorem RpL_len {α : Type} {R : α → List Value → Prop} {n : Nat} (h : ∀ x r, R x r → r.length = n) : ∀ {xs : List α} {rows}, RpL R xs rows → rows.length = xs.length * n
  | [], _, hr => by simp only [RpL] at hr; subst hr; simp
  | x :: xs, _, ⟨r, rs, e, hx, hr⟩ => by
    subst e
    rw [List.length_append, h _ _ hx, RpL_len h hr, List.length_cons, Nat.add_mul]
    omega

theorem RpL_append {α : Type} {R : α → List Value → Prop} : ∀ {xs ys : List α} {r s}, RpL R xs r → RpL R ys s → RpL R (xs ++ ys) (r ++ s)
  | [], _, _, _, hx, hy => by simp only [RpL] at hx; subst hx; simpa using hy
  | x :: xs, ys, _, s, ⟨r, rs, e, h, hx⟩, hy => ⟨r, rs ++ s, by rw [e, List.append_assoc], h, RpL_append hx hy⟩

theorem RpL_get {α : Type} {R : α → List Value → Prop} {n : Nat} (h : ∀ x r, R x r → r.length = n) : ∀ {xs : List α} {rows} {i : Nat} {x : α}, RpL R xs rows → xs[i]? = some x →
    ∃ r, R x r ∧ ∀ j, j < n → rows[i * n + j]? = r[j]?
  | [], _, i, _, _, hi => by simp at hi
  | y :: ys, _, 0, x, ⟨r, rs, e, hx, hr⟩, hi => by
    simp at hi; subst hi; subst e
    refine ⟨r, hx, fun j hj => ?_⟩
    rw [Nat.zero_mul, Nat.zero_add, List.getElem?_append_left (by rw [h _ _ hx]; exact hj)]
  | y :: ys, _, i + 1, x, ⟨r, rs, e, hx, hr⟩, hi => by
    obtain ⟨q, hq, hj⟩ := RpL_get h hr (i := i) (by simpa using hi)
    subst e
    refine ⟨q, hq, fun j hjn => ?_⟩
    have hl := h _ _ hx
    have e1 : (i + 1) * n = n + i * n := by rw [Nat.add_mul]; omega
    rw [List.getElem?_append_right (by omega), ← hj j hjn]
    congr 1
    omega

theorem RpL_drop {α : Type} {R : α → List Value → Prop} {n : Nat} (h : ∀ x r, R x r → r.length = n) : ∀ {xs : List α} {rows} (i : Nat), RpL R xs rows → RpL R (xs.drop i) (rows.drop (i * n))
  | xs, rows, 0, hr => by simpa using hr
  | [], rows, i + 1, hr => by simp only [RpL] at hr; subst hr; simp [RpL]
  | x :: xs, _, i + 1, ⟨r, rs, e, hx, hr⟩ => by
    subst e
    have hl := h _ _ hx
    have e1 : (i + 1) * n = r.length + i * n := by rw [Nat.add_mul]; omega
    have e2 : r.drop (r.length + i * n) = [] := List.drop_of_length_le (by omega)
    rw [List.drop_succ_cons, e1, List.drop_append, e2, List.nil_append, Nat.add_sub_cancel_left]
    exact RpL_drop h i hr

theorem RpL_take {α : Type} {R : α → List Value → Prop} {n : Nat} (h : ∀ x r, R x r → r.length = n) : ∀ {xs : List α} {rows} (i : Nat), RpL R xs rows → RpL R (xs.take i) (rows.take (i * n))
  | xs, rows, 0, hr => by simp [RpL]
  | [], rows, i + 1, hr => by simp only [RpL] at hr; subst hr; simp [RpL]
  | x :: xs, _, i + 1, ⟨r, rs, e, hx, hr⟩ => by
    subst e
    have hl := h _ _ hx
    have e1 : (i + 1) * n = r.length + i * n := by rw [Nat.add_mul]; omega
    rw [List.take_succ_cons, e1, List.take_append]
    refine ⟨r, rs.take (i * n), ?_, hx, RpL_take h i hr⟩
    rw [List.take_of_length_le (by omega), Nat.add_sub_cancel_left]

theorem Rp_len {w : World} {S : Nat → Prop} : ∀ {t : Ty} {x : den t} {cs}, Rp w S t x cs → cs.length = sz t
  | .int _, _, _, h => by simp only [Rp] at h; subst h; rfl
  | .bool, _, _, h => by simp only [Rp] at h; subst h; rfl
  | .str, _, _, h => by simp only [Rp] at h; subst h; rfl
  | .unit, _, _, h => by simp only [Rp] at h; subst h; rfl
  | .pair _ _, _, _, h => by
    obtain ⟨c1, c2, e, h1, h2⟩ := h
    subst e
    rw [List.length_append, Rp_len h1, Rp_len h2]; rfl
  | .slice _, _, _, h => by obtain ⟨A, cap, e, _⟩ := h; subst e; rfl

theorem Rp_cell {w : World} {S : Nat → Prop} : ∀ {t : Ty} {x : den t} {cs}, Rp w S t x cs → ∀ v ∈ cs, v.oneCell' = true
  | .int _, _, _, h => by simp only [Rp] at h; subst h; simp [Value.oneCell']
  | .bool, _, _, h => by simp only [Rp] at h; subst h; simp [Value.oneCell']
  | .str, _, _, h => by simp only [Rp] at h; subst h; simp [Value.oneCell']
  | .unit, _, _, h => by simp only [Rp] at h; subst h; simp
  | .pair _ _, _, _, h => by
    obtain ⟨c1, c2, e, h1, h2⟩ := h
    subst e
    intro v hv
    rcases List.mem_append.1 hv with hv | hv
    · exact Rp_cell h1 v hv
    · exact Rp_cell h2 v hv
  | .slice _, _, _, h => by obtain ⟨A, cap, e, _⟩ := h; subst e; simp [Value.oneCell']

theorem At.lt {w : World} {b off : Nat} {rows : List Value} (h : At w b off rows) : b < w.heap.size := by
  obtain ⟨c, e, fz, h, _⟩ := h
  exact (Array.getElem?_eq_some_iff.1 h).1

/-- What is read stays, where the blocks that it lies in stay. -/
theorem Rp_keep {w w' : World} {S S' : Nat → Prop} (h : ∀ b, b < w.heap.size → S b → S' b ∧ w'.heap[b]? = w.heap[b]?) :
    ∀ {t : Ty} {x : den t} {cs}, Rp w S t x cs → Rp w' S' t x cs
  | .int _, _, _, hr => hr
  | .bool, _, _, hr => hr
  | .str, _, _, hr => hr
  | .unit, _, _, hr => hr
  | .pair _ _, _, _, ⟨c1, c2, e, h1, h2⟩ => ⟨c1, c2, e, Rp_keep h h1, Rp_keep h h2⟩
  | .slice t, xs, _, ⟨A, cap, e, hc, hx⟩ => by
    refine ⟨A, cap, e, hc, fun hn => ?_⟩
    obtain ⟨b, off, ha, hs, rows, hrows, c, e', fz, hh, hi⟩ := hx hn
    have hb := h b (At.lt ⟨c, e', fz, hh, hi⟩) hs
    exact ⟨b, off, ha, hb.1, rows, RpL_mono (fun x r hr => Rp_keep h hr) hrows, c, e', fz, by rw [hb.2]; exact hh, hi⟩

theorem At_keep {w w' : World} {S : Nat → Prop} (h : ∀ b, b < w.heap.size → S b → w'.heap[b]? = w.heap[b]?) {b off : Nat} {rows : List Value} (hs : S b) (ha : At w b off rows) : At w' b off rows := by
  have hl := ha.lt
  obtain ⟨c, e, fz, hh, hi⟩ := ha
  exact ⟨c, e, fz, by rw [h b hl hs]; exact hh, hi⟩

/-! ### what a state means -/
abbrev Heap := List (Nat × Ob)
abbrev Names := Nat → Option (Nat × Nat)

def live : Ob → Bool
  | .box _ => true
  | .row _ _ _ => true
  | .map _ => true
  | _ => false

def Own (β : Names) (H : Heap) (b : Nat) : Prop := ∃ o ob cap, look H o = some ob ∧ live ob = true ∧ β o = some (b, cap)

/-- Where data may lie: what is nobody's of the call's own. -/
def RO (Z : Nat → Prop) (β : Names) (H : Heap) (b : Nat) : Prop := Z b ∧ ¬ Own β H b

/-- What a row's slice is. -/
def RowV (q : Option (Nat × Nat)) (n : Nat) (v : Value) : Prop :=
  match q with
  | none => v = .slice none 0 0 ∧ n = 0
  | some (b, cap) => v = .slice (some ⟨b, 0, none⟩) n cap

inductive All2 {α β : Type} (R : α → β → Prop) : List α → List β → Prop
  | nil : All2 R [] []
  | cons {a b as bs} : R a b → All2 R as bs → All2 R (a :: as) (b :: bs)

/-- What a pointer that a function has with it is. -/
def PR (w : World) (S : Nat → Prop) (β : Names) (H : Heap) : Cap → Value → Prop
  | .p o off, v => match look H o with
    | none => False
    | some (.box _) => ∃ b base, β o = some (b, base) ∧ v = .pointer (some ⟨b, base + off, none⟩)
    | some _ => v.oneCell' = true
  | .pd t x, v => ∃ b off cs, v = .pointer (some ⟨b, off, none⟩) ∧ ¬ Own β H b ∧ Rp w S t x cs ∧ At w b off cs

def VS (w : World) (S : Nat → Prop) (β : Names) (H : Heap) : S1 → Value → Prop
  | .any, _ => True
  | .d t x, v => isAg t = false ∧ Rp w S t x [v]
  | .nls, v => v = .slice none 0 0
  | .sl o, v => match look H o with
    | none => False
    | some (.row _ _ xs) => RowV (β o) xs.length v
    | some (.fro t xs) => Rp w S (.slice t) xs [v]
    | some _ => v.oneCell' = true
  | .mp o, v => match look H o with
    | none => False
    | some (.map _) => ∃ b base, β o = some (b, base) ∧ v = .map (some b)
    | some _ => v.oneCell' = true
  | .p o off, v => match look H o with
    | none => False
    | some (.box _) => ∃ b base, β o = some (b, base) ∧ v = .pointer (some ⟨b, base + off, none⟩)
    | some _ => v.oneCell' = true
  | .pe o i off, v => match look H o with
    | none => False
    | some (.row _ t xs) => i < xs.length ∧ ∃ b cap, β o = some (b, cap) ∧ v = .pointer (some ⟨b, i * sz t + off, none⟩)
    | some _ => v.oneCell' = true
  | .pd t x, v => ∃ b off cs, v = .pointer (some ⟨b, off, none⟩) ∧ ¬ Own β H b ∧ Rp w S t x cs ∧ At w b off cs
  | .fn f l, v => ∃ vs, v = .func (.func f) #[] vs.toArray ∧ All2 (PR w S β H) l vs

def Val (t : Ty) (v : Value) (cs : List Value) : Prop := if isAg t then v = .agg cs.toArray else cs = [v]

def VV (w : World) (S : Nat → Prop) (β : Names) (H : Heap) : SV → Value → Prop
  | .s (.d t x), v => ∃ cs, Val t v cs ∧ Rp w S t x cs
  | .s y, v => VS w S β H y v
  | .g ys, v => ∃ cs, v = .agg cs.toArray ∧ All2 (VS w S β H) ys cs

def VL (w : World) (S : Nat → Prop) (β : Names) (H : Heap) : Sl → Value → Prop
  | .v x, v => VV w S β H x v
  | .t xs, v => ∃ vs, v = .tuple vs.toArray ∧ All2 (VV w S β H) xs vs

/-- A map of the call's own. -/
def MapO (w : World) (es : List (Int × Bool)) (q : Option (Nat × Nat)) : Prop :=
  ∃ b cap arr clock, q = some (b, cap) ∧ w.heap[b]? = some (.map arr clock) ∧ arr.toList.map (fun e => (e.key, e.val)) = es.map fun p => (Value.int .i64 p.1, Value.bool p.2)

/-- What memory of the call's own holds. -/
def OR (w : World) (S : Nat → Prop) (β : Names) (H : Heap) (q : Option (Nat × Nat)) : Ob → Prop
  | .box cs => ∃ b base c e, q = some (b, base) ∧ w.heap[b]? = some (.cells c e (0, 0)) ∧ base + cs.length ≤ c.size ∧
      All2 (fun x v => VS w S β H x v ∧ v.oneCell' = true) cs ((c.toList.drop base).take cs.length)
  | .row e t xs => (q = none ∧ xs = []) ∨ ∃ b cap c rows, q = some (b, cap) ∧ w.heap[b]? = some (.cells c e (0, 0)) ∧ c.size = cap * sz t ∧ xs.length ≤ cap ∧ cap ≤ maxLen ∧
      RpL (Rp w S t) xs rows ∧ ∀ i, i < rows.length → c[i]? = rows[i]?
  | .map es => MapO w es q
  | _ => True

/-- What has turned since: nothing but what may. -/
structure Kept (M : Nat → Nat → Prop) (w w' : World) : Prop where
  os : w'.os = w.os
  tape : w'.tape = w.tape
  output : w'.output = w.output
  size : w.heap.size ≤ w'.heap.size
  block : ∀ b, b < w.heap.size → (∀ i, ¬ M b i) → w'.heap[b]? = w.heap[b]?
  cells : ∀ b c e fz, w.heap[b]? = some (.cells c e fz) → ∃ c', w'.heap[b]? = some (.cells c' e fz) ∧ c'.size = c.size ∧ ∀ i, ¬ M b i → c'[i]? = c[i]?

/-- Where a call may write: its own cells. -/
def mayW (M : Nat → Nat → Prop) (b base : Nat) : Ob → Prop
  | .box cs => ∀ i, i < cs.length → M b (base + i)
  | _ => ∀ i, M b i

structure RepB (Z : Nat → Prop) (M : Nat → Nat → Prop) (N : Nat → Option (Option (Nat × Nat))) (w0 : World) (β : Names) (σ : St) (a : Act) (w : World) : Prop where
  fresh : ∀ b, w0.heap.size ≤ b → ∀ i, M b i
  whole : ∀ b, (∀ i, M b i) → Z b
  pin : ∀ o q, N o = some q → β o = q ∧ (look σ.H o).isSome = true ∧ 9000000 ≤ o
  defers : a.defers = []
  size : a.tmps.size = σ.nt
  below : Kept M w0 w
  own : ∀ o ob b cap, look σ.H o = some ob → live ob = true → β o = some (b, cap) → mayW M b cap ob ∧ b < w.heap.size
  inj : ∀ o o' ob ob' b cap cap', look σ.H o = some ob → live ob = true → look σ.H o' = some ob' → live ob' = true → β o = some (b, cap) → β o' = some (b, cap') → o = o'
  obj : ∀ o ob, look σ.H o = some ob → OR w (RO Z β σ.H) β σ.H (β o) ob
  env : ∀ i x, look σ.env i = some x → i < a.tmps.size ∧ VL w (RO Z β σ.H) β σ.H x (a.tmps.getD i undef)

def Rep (Z : Nat → Prop) (M : Nat → Nat → Prop) (N : Nat → Option (Option (Nat × Nat))) (w0 : World) (σ : St) (a : Act) (w : World) : Prop := ∃ β, RepB Z M N w0 β σ a w

theorem All2.mono {α β : Type} {R R' : α → β → Prop} (h : ∀ a b, R a b → R' a b) : ∀ {as : List α} {bs : List β}, All2 R as bs → All2 R' as bs
  | _, _, .nil => .nil
  | _, _, .cons hx hr => .cons (h _ _ hx) (All2.mono h hr)

theorem All2.len {α β : Type} {R : α → β → Prop} : ∀ {as : List α} {bs : List β}, All2 R as bs → as.length = bs.length
  | _, _, .nil => rfl
  | _, _, .cons _ hr => by simp [hr.len]

theorem All2.get {α β : Type} {R : α → β → Prop} : ∀ {as : List α} {bs : List β} {i : Nat} {x : α}, All2 R as bs → as[i]? = some x → ∃ y, bs[i]? = some y ∧ R x y
  | _, _, i, _, .nil, hi => by simp at hi
  | _, _, 0, x, .cons h hr, hi => ⟨_, rfl, by simp at hi; subst hi; exact h⟩
  | _, _, i + 1, x, .cons h hr, hi => by
    obtain ⟨y, hy, hx⟩ := hr.get (i := i) (by simpa using hi)
    exact ⟨y, by simpa using hy, hx⟩

theorem All2.append {α β : Type} {R : α → β → Prop} : ∀ {as as' : List α} {bs bs' : List β}, All2 R as bs → All2 R as' bs' → All2 R (as ++ as') (bs ++ bs')
  | _, _, _, _, .nil, h => h
  | _, _, _, _, .cons h hr, h' => .cons h (hr.append h')

theorem All2.drop {α β : Type} {R : α → β → Prop} : ∀ {as : List α} {bs : List β} (n : Nat), All2 R as bs → All2 R (as.drop n) (bs.drop n)
  | _, _, 0, h => by simpa using h
  | _, _, n + 1, .nil => by simpa using All2.nil
  | _, _, n + 1, .cons h hr => by simpa using hr.drop n

theorem All2.take {α β : Type} {R : α → β → Prop} : ∀ {as : List α} {bs : List β} (n : Nat), All2 R as bs → All2 R (as.take n) (bs.take n)
  | _, _, 0, h => by simpa using All2.nil
  | _, _, n + 1, .nil => by simpa using All2.nil
  | _, _, n + 1, .cons h hr => by simpa using All2.cons h (hr.take n)

/-- One name's step: what may become of it. -/
def Step (w' : World) (S' : Nat → Prop) (q : Option (Nat × Nat)) (ob : Ob) (q' : Option (Nat × Nat)) : Option Ob → Prop
  | none => False
  | some .dead => True
  | some (.box cs) => (∃ cs', ob = .box cs') ∧ q' = q
  | some (.row e t xs) => ∃ xs' : List (den t), ob = .row e t xs' ∧ xs'.length = xs.length ∧ q' = q
  | some (.map es) => (∃ es', ob = .map es') ∧ q' = q
  | some (.fro t xs) => ob = .fro t xs ∨ ∃ e, ob = .row e t xs ∧ ∀ v, RowV q xs.length v → Rp w' S' (.slice t) xs [v]

theorem VS_cell {w : World} {S : Nat → Prop} {β : Names} {H : Heap} : ∀ {x : S1} {v : Value}, VS w S β H x v → known x = true → v.oneCell' = true
  | .any, _, _, h => by simp [known] at h
  | .d t x, v, h, _ => Rp_cell h.2 v (by simp)
  | .nls, _, h, _ => by simp only [VS] at h; subst h; rfl
  | .fn _ _, _, h, _ => by obtain ⟨vs, e, _⟩ := h; subst e; rfl
  | .pd _ _, _, ⟨_, _, _, e, _⟩, _ => by subst e; rfl
  | .sl o, v, h, _ => by
    simp only [VS] at h
    cases ho : look H o with
    | none => rw [ho] at h; exact h.elim
    | some ob =>
      rw [ho] at h
      cases ob with
      | dead => exact h
      | box _ => exact h
      | row e t xs =>
        simp only [RowV] at h
        cases hb : β o with
        | none => rw [hb] at h; rw [h.1]; rfl
        | some q => rw [hb] at h; simp only at h; rw [h]; rfl
      | fro t xs => exact Rp_cell h v (by simp)
      | map _ => exact h
  | .mp o, v, h, _ => by
    simp only [VS] at h
    cases ho : look H o with
    | none => rw [ho] at h; exact h.elim
    | some ob =>
      rw [ho] at h
      cases ob with
      | dead => exact h
      | row _ _ _ => exact h
      | fro _ _ => exact h
      | box _ => exact h
      | map _ => obtain ⟨b, cap, _, e⟩ := h; rw [e]; rfl
  | .p o off, v, h, _ => by
    simp only [VS] at h
    cases ho : look H o with
    | none => rw [ho] at h; exact h.elim
    | some ob =>
      rw [ho] at h
      cases ob with
      | dead => exact h
      | row _ _ _ => exact h
      | fro _ _ => exact h
      | map _ => exact h
      | box _ => obtain ⟨b, cap, _, e⟩ := h; rw [e]; rfl
  | .pe o i off, v, h, _ => by
    simp only [VS] at h
    cases ho : look H o with
    | none => rw [ho] at h; exact h.elim
    | some ob =>
      rw [ho] at h
      cases ob with
      | dead => exact h
      | box _ => exact h
      | fro _ _ => exact h
      | map _ => exact h
      | row _ _ _ => obtain ⟨_, b, cap, _, e⟩ := h; rw [e]; rfl

theorem PR_step {w w' : World} {S S' : Nat → Prop} {β β' : Names} {H H' : Heap} (hk : ∀ b, b < w.heap.size → S b → S' b ∧ w'.heap[b]? = w.heap[b]?)
    (hp : ∀ b, b < w.heap.size → ¬ Own β H b → ¬ Own β' H' b ∧ w'.heap[b]? = w.heap[b]?)
    (hn : ∀ o ob, look H o = some ob → Step w' S' (β o) ob (β' o) (look H' o)) : ∀ {x : Cap} {v : Value}, PR w S β H x v → PR w' S' β' H' x v
  | .pd t x, v, ⟨b, off, cs, e, hs, hr, ha⟩ => ⟨b, off, cs, e, (hp b ha.lt hs).1, Rp_keep hk hr, At_keep (S := fun b => ¬ Own β H b) (fun b hb hs => (hp b hb hs).2) hs ha⟩
  | .p o off, v, h => by
    have hc := VS_cell (w := w) (S := S) (x := .p o off) h rfl
    simp only [PR] at h ⊢
    cases ho : look H o with
    | none => rw [ho] at h; exact h.elim
    | some ob =>
      rw [ho] at h
      have hs := hn o ob ho
      cases ho' : look H' o with
      | none => rw [ho'] at hs; exact hs
      | some ob' =>
        rw [ho'] at hs
        cases ob' with
        | dead => exact hc
        | box cs =>
          obtain ⟨⟨cs', e1⟩, e2⟩ := hs
          subst e1
          simp only at h ⊢
          rw [e2]; exact h
        | row e t xs => exact hc
        | fro t xs => exact hc
        | map _ => exact hc

theorem VS_step {w w' : World} {S S' : Nat → Prop} {β β' : Names} {H H' : Heap} (hk : ∀ b, b < w.heap.size → S b → S' b ∧ w'.heap[b]? = w.heap[b]?)
    (hp : ∀ b, b < w.heap.size → ¬ Own β H b → ¬ Own β' H' b ∧ w'.heap[b]? = w.heap[b]?)
    (hn : ∀ o ob, look H o = some ob → Step w' S' (β o) ob (β' o) (look H' o)) : ∀ {x : S1} {v : Value}, VS w S β H x v → VS w' S' β' H' x v
  | .any, _, _ => trivial
  | .d t x, v, h => ⟨h.1, Rp_keep hk h.2⟩
  | .nls, _, h => h
  | .fn _ _, _, ⟨vs, e, h⟩ => ⟨vs, e, h.mono fun _ _ => PR_step hk hp hn⟩
  | .pd t x, v, ⟨b, off, cs, e, hs, hr, ha⟩ => ⟨b, off, cs, e, (hp b ha.lt hs).1, Rp_keep hk hr, At_keep (S := fun b => ¬ Own β H b) (fun b hb hs => (hp b hb hs).2) hs ha⟩
  | .sl o, v, h => by
    have hc := VS_cell h rfl
    simp only [VS] at h ⊢
    cases ho : look H o with
    | none => rw [ho] at h; exact h.elim
    | some ob =>
      rw [ho] at h
      have hs := hn o ob ho
      cases ho' : look H' o with
      | none => rw [ho'] at hs; exact hs
      | some ob' =>
        rw [ho'] at hs
        cases ob' with
        | dead => exact hc
        | box cs => exact hc
        | row e t xs =>
          obtain ⟨xs', e1, e2, e3⟩ := hs
          subst e1
          simp only at h ⊢
          rw [e3, ← e2]; exact h
        | fro t xs =>
          rcases hs with e1 | ⟨e, e1, e2⟩
          · subst e1; exact Rp_keep hk h
          · subst e1; exact e2 v h
        | map _ => exact hc
  | .mp o, v, h => by
    have hc := VS_cell h rfl
    simp only [VS] at h ⊢
    cases ho : look H o with
    | none => rw [ho] at h; exact h.elim
    | some ob =>
      rw [ho] at h
      have hs := hn o ob ho
      cases ho' : look H' o with
      | none => rw [ho'] at hs; exact hs
      | some ob' =>
        rw [ho'] at hs
        cases ob' with
        | dead => exact hc
        | map es =>
          obtain ⟨⟨es', e1⟩, e2⟩ := hs
          subst e1
          simp only at h ⊢
          rw [e2]; exact h
        | row e t xs => exact hc
        | fro t xs => exact hc
        | box _ => exact hc
  | .p o off, v, h => by
    have hc := VS_cell h rfl
    simp only [VS] at h ⊢
    cases ho : look H o with
    | none => rw [ho] at h; exact h.elim
    | some ob =>
      rw [ho] at h
      have hs := hn o ob ho
      cases ho' : look H' o with
      | none => rw [ho'] at hs; exact hs
      | some ob' =>
        rw [ho'] at hs
        cases ob' with
        | dead => exact hc
        | box cs =>
          obtain ⟨⟨cs', e1⟩, e2⟩ := hs
          subst e1
          simp only at h ⊢
          rw [e2]; exact h
        | row e t xs => exact hc
        | fro t xs => exact hc
        | map _ => exact hc
  | .pe o i off, v, h => by
    have hc := VS_cell h rfl
    simp only [VS] at h ⊢
    cases ho : look H o with
    | none => rw [ho] at h; exact h.elim
    | some ob =>
      rw [ho] at h
      have hs := hn o ob ho
      cases ho' : look H' o with
      | none => rw [ho'] at hs; exact hs
      | some ob' =>
        rw [ho'] at hs
        cases ob' with
        | dead => exact hc
        | box cs => exact hc
        | row e t xs =>
          obtain ⟨xs', e1, e2, e3⟩ := hs
          subst e1
          simp only at h ⊢
          rw [e3, ← e2]; exact h
        | fro t xs => exact hc
        | map _ => exact hc

theorem VV_s {w : World} {S : Nat → Prop} {β : Names} {H : Heap} {y : S1} {v : Value} (hy : ∀ t x, y ≠ .d t x) : VV w S β H (.s y) v ↔ VS w S β H y v := by
  cases y <;> first | exact absurd rfl (hy _ _) | exact Iff.rfl

theorem VV_step {w w' : World} {S S' : Nat → Prop} {β β' : Names} {H H' : Heap} (hk : ∀ b, b < w.heap.size → S b → S' b ∧ w'.heap[b]? = w.heap[b]?)
    (hp : ∀ b, b < w.heap.size → ¬ Own β H b → ¬ Own β' H' b ∧ w'.heap[b]? = w.heap[b]?)
    (hn : ∀ o ob, look H o = some ob → Step w' S' (β o) ob (β' o) (look H' o)) {x : SV} {v : Value} (h : VV w S β H x v) : VV w' S' β' H' x v := by
  cases x with
  | g ys =>
    obtain ⟨cs, e, hc⟩ := h
    exact ⟨cs, e, hc.mono fun _ _ => VS_step hk hp hn⟩
  | s y =>
    cases y <;> first
      | (obtain ⟨cs, e, hr⟩ := h; exact ⟨cs, e, Rp_keep hk hr⟩)
      | exact (VV_s (by intros; simp)).2 (VS_step hk hp hn ((VV_s (by intros; simp)).1 h))

theorem VL_step {w w' : World} {S S' : Nat → Prop} {β β' : Names} {H H' : Heap} (hk : ∀ b, b < w.heap.size → S b → S' b ∧ w'.heap[b]? = w.heap[b]?)
    (hp : ∀ b, b < w.heap.size → ¬ Own β H b → ¬ Own β' H' b ∧ w'.heap[b]? = w.heap[b]?)
    (hn : ∀ o ob, look H o = some ob → Step w' S' (β o) ob (β' o) (look H' o)) {x : Sl} {v : Value} (h : VL w S β H x v) : VL w' S' β' H' x v := by
  cases x with
  | v y => exact VV_step hk hp hn (x := y) h
  | t ys =>
    obtain ⟨vs, e, hv⟩ := h
    exact ⟨vs, e, hv.mono fun _ _ => VV_step hk hp hn⟩

end Go.Proofs.Yteddlkdbefloaaa.S
