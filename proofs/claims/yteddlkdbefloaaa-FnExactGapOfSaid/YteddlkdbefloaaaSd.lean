/- Lemmas of the machinery S on data: operands, cells, parts of data. -/
import Derived.Test.YteddlkdbefloaaaSc
namespace Go.Proofs.Yteddlkdbefloaaa.S
open Go Go.RowKit
set_option linter.unusedVariables false
set_option linter.unusedSimpArgs false

variable {Z : Nat → Prop} {M : Nat → Nat → Prop} {N : Nat → Option (Option (Nat × Nat))} {w0 w w' : World} {β β' : Names} {σ : St} {a : Act} {S S' : Nat → Prop} {H : Heap}

theorem cst_some {s t : Ty} {x : den s} {y : den t} (h : cst s t x = some y) : ∃ e : s = t, e ▸ x = y := by
  unfold cst at h
  split at h
  · rename_i e; exact ⟨e, by simpa using h⟩
  · cases h

theorem cst_Rp {s t : Ty} {x : den s} {y : den t} (h : cst s t x = some y) {cs} (hr : Rp w S s x cs) : s = t ∧ Rp w S t y cs := by
  obtain ⟨e, rfl⟩ := cst_some h
  subst e
  exact ⟨rfl, hr⟩

theorem ev_sound (h : RepB Z M N w0 β σ a w) {x : Operand} {y : SV} (hx : ev σ x = some y) : VV w (RO Z β σ.H) β σ.H y (a.eval x) := by
  cases x with
  | tmp t =>
    simp only [ev] at hx
    split at hx
    · rename_i z hz
      obtain rfl := Option.some.inj hx
      exact (h.env t _ hz).2
    · obtain rfl := Option.some.inj hx; exact trivial
    · cases hx
  | const v =>
    simp only [ev, constV] at hx
    split at hx
    · obtain rfl := Option.some.inj hx; exact ⟨_, rfl, rfl⟩
    · obtain rfl := Option.some.inj hx; exact ⟨_, rfl, rfl⟩
    · obtain rfl := Option.some.inj hx; exact ⟨_, rfl, rfl⟩
    · obtain rfl := Option.some.inj hx; rfl
    · cases hx
  | global g => simp [ev] at hx
  | func f =>
    simp only [ev] at hx
    obtain rfl := Option.some.inj hx
    exact ⟨[], rfl, .nil⟩

theorem Val_int {k : IntKind} {v : Value} {cs} (h : Val (.int k) v cs) : cs = [v] := h
theorem Val_one {t : Ty} {v : Value} {cs} (ht : isAg t = false) (h : Val t v cs) : cs = [v] := by simpa [Val, ht] using h

theorem VV_int {k : IntKind} {x : Int} {v : Value} (h : VV w S β H (.s (.d (.int k) x)) v) : v = .int k x := by
  obtain ⟨cs, h1, h2⟩ := h
  simp only [Val, isAg, Rp] at h1 h2
  subst h2
  simpa using h1.symm
theorem VV_bool {x : Bool} {v : Value} (h : VV w S β H (.s (.d .bool x)) v) : v = .bool x := by
  obtain ⟨cs, h1, h2⟩ := h
  simp only [Val, isAg, Rp] at h1 h2
  subst h2
  simpa using h1.symm
theorem VV_str {x : List UInt8} {v : Value} (h : VV w S β H (.s (.d .str x)) v) : v = .string ⟨x.toArray⟩ := by
  obtain ⟨cs, h1, h2⟩ := h
  simp only [Val, isAg, Rp] at h1 h2
  subst h2
  simpa using h1.symm

theorem VV_d {t : Ty} {x : den t} (ht : isAg t = false) {v : Value} : VV w S β H (.s (.d t x)) v ↔ Rp w S t x [v] := by
  constructor
  · rintro ⟨cs, h1, h2⟩
    rw [Val_one ht h1] at h2; exact h2
  · intro h
    exact ⟨[v], by simp [Val, ht], h⟩

/-- The cells of plain data. -/
theorem split_all : ∀ {t : Ty} {x : den t} {cs}, Rp w S t x cs → All2 (VS w S β H) (split t x) cs
  | .int _, x, _, h => by have e := h; simp only [Rp] at e; subst e; exact .cons ⟨rfl, h⟩ .nil
  | .bool, x, _, h => by have e := h; simp only [Rp] at e; subst e; exact .cons ⟨rfl, h⟩ .nil
  | .str, x, _, h => by have e := h; simp only [Rp] at e; subst e; exact .cons ⟨rfl, h⟩ .nil
  | .unit, x, _, h => by simp only [Rp] at h; subst h; exact .nil
  | .pair _ _, x, _, ⟨c1, c2, e, h1, h2⟩ => by subst e; exact (split_all h1).append (split_all h2)
  | .slice _, x, _, h => by
    have e := h
    obtain ⟨A, cap, e, _⟩ := e
    subst e
    exact .cons ⟨rfl, h⟩ .nil

theorem split_len : ∀ {t : Ty} (x : den t), (split t x).length = sz t
  | .int _, _ => rfl
  | .bool, _ => rfl
  | .str, _ => rfl
  | .unit, _ => rfl
  | .pair a b, x => by simp [split, sz, split_len x.1, split_len x.2]
  | .slice _, _ => rfl

theorem Val_cells {t : Ty} {v : Value} {cs} (h : Val t v cs) (hc : ∀ u ∈ cs, u.oneCell' = true) : v.cells = cs.toArray := by
  unfold Val at h
  split at h
  · rw [h]; rfl
  · subst h
    have := hc v (by simp)
    cases v <;> first | rfl | (simp [Value.oneCell'] at this)

theorem one_cells {v : Value} (h : v.oneCell' = true) : v.cells = #[v] := by
  cases v <;> first | rfl | (simp [Value.oneCell'] at h)

/-- The cells of a value. -/
theorem cells_sound {y : SV} {v : Value} (h : VV w S β H y v) (hk : (cellsOf y).all known = true) :
    ∃ cs, v.cells = cs.toArray ∧ All2 (fun x u => VS w S β H x u ∧ u.oneCell' = true) (cellsOf y) cs := by
  cases y with
  | g ys =>
    obtain ⟨cs, e, hc⟩ := h
    refine ⟨cs, by rw [e]; rfl, ?_⟩
    simp only [cellsOf, List.all_eq_true] at hk ⊢
    clear e
    induction hc with
    | nil => exact .nil
    | cons hx hr ih => exact .cons ⟨hx, VS_cell hx (hk _ (by simp))⟩ (ih fun x hx => hk x (by simp [hx]))
  | s x =>
    by_cases hd : ∃ t z, x = .d t z
    · obtain ⟨t, z, rfl⟩ := hd
      obtain ⟨cs, hv, hr⟩ := h
      refine ⟨cs, Val_cells hv (Rp_cell hr), ?_⟩
      have hs : All2 (VS w S β H) (split t z) cs := split_all hr
      have hc := Rp_cell hr
      simp only [cellsOf]
      clear hv hr hk
      generalize split t z = l at hs
      induction hs with
      | nil => exact .nil
      | cons hx hr ih => exact .cons ⟨hx, hc _ (by simp)⟩ (ih fun u hu => hc u (by simp [hu]))
    · have hx : ∀ t z, x ≠ .d t z := fun t z e => hd ⟨t, z, e⟩
      have h' := (VV_s hx).1 h
      have e : cellsOf (.s x) = [x] := by cases x <;> first | rfl | exact absurd rfl (hx _ _)
      rw [e] at hk ⊢
      have h1 := VS_cell h' (by simpa using hk)
      exact ⟨[v], one_cells h1, .cons ⟨h', h1⟩ .nil⟩

theorem RowV_any {t : Ty} {xs : List (den t)} {e : TypeId} {q : Option (Nat × Nat)} {v : Value} (ho : OR w S β H q (.row e t xs)) (hv : RowV q xs.length v) (hS : ∀ b cap, q = some (b, cap) → S' b)
    (hm : ∀ t (x : den t) cs, Rp w S t x cs → Rp w S' t x cs) : Rp w S' (.slice t) xs [v] := by
  rcases ho with ⟨hq, hx⟩ | ⟨b, cap, c, rows, hq, hh, hs, hl, hmx, hr, hi⟩
  · rw [hq] at hv
    obtain ⟨rfl, _⟩ := hv
    subst hx
    exact ⟨none, 0, rfl, by simp, fun hx => absurd rfl hx⟩
  · rw [hq] at hv
    simp only [RowV] at hv
    subst hv
    exact ⟨_, cap, rfl, hl, fun _ => ⟨b, 0, rfl, hS b cap hq, rows, RpL_mono (fun _ _ => hm _ _ _) hr, c, e, _, hh, fun i hi' => by rw [Nat.zero_add]; exact hi i hi'⟩⟩

/-- Where a state is meant: whatever it owns reads as data. -/
def Owns (w : World) (S : Nat → Prop) (β : Names) (H : Heap) : Prop := ∀ o ob, look H o = some ob → OR w S β H (β o) ob

theorem cell1_sound {own : Bool} (hO : Owns w S β H) (hm : ∀ t (x : den t) cs, Rp w S t x cs → Rp w S' t x cs) (hS : own = true → ∀ b, S' b) {t : Ty} {c : S1} {v : Value} {x : den t} (hv : VS w S β H c v)
    (h : cell1 own H t c = some x) : isAg t = false ∧ Rp w S' t x [v] := by
  cases c with
  | any => simp [cell1] at h
  | d s z =>
    simp only [cell1] at h
    obtain ⟨rfl, h2⟩ := cst_Rp h (hm _ _ _ hv.2)
    exact ⟨hv.1, h2⟩
  | nls =>
    simp only [VS] at hv
    subst hv
    cases t <;> simp only [cell1] at h <;> first | (cases h; done) | skip
    obtain rfl := Option.some.inj h
    exact ⟨rfl, none, 0, rfl, by simp, fun hx => absurd rfl hx⟩
  | sl o =>
    simp only [cell1] at h
    simp only [VS] at hv
    split at h
    · rename_i e s xs ho
      rw [ho] at hv
      split at h
      · rename_i hown
        obtain ⟨e1, e2⟩ := cst_some h
        subst e1
        simp only at e2
        subst e2
        exact ⟨rfl, RowV_any (hO o _ ho) hv (fun b _ _ => hS hown b) hm⟩
      · cases h
    · rename_i s xs ho
      rw [ho] at hv
      obtain ⟨e1, e2⟩ := cst_some h
      subst e1
      simp only at e2
      subst e2
      exact ⟨rfl, hm (.slice s) _ _ hv⟩
    · cases h
  | p => simp [cell1] at h
  | pe => simp [cell1] at h
  | pd => simp [cell1] at h
  | fn => simp [cell1] at h
  | mp => simp [cell1] at h

theorem gat_sound {own : Bool} (hO : Owns w S β H) (hm : ∀ t (x : den t) cs, Rp w S t x cs → Rp w S' t x cs) (hS : own = true → ∀ b, S' b) :
    ∀ {t : Ty} {cs : List S1} {vs : List Value} {x : den t} {r : List S1}, All2 (VS w S β H) cs vs → gat own H t cs = some (x, r) →
    ∃ v1 v2, vs = v1 ++ v2 ∧ Rp w S' t x v1 ∧ All2 (VS w S β H) r v2 := by
  intro t
  induction t with
  | unit =>
    intro cs vs x r h hg
    simp only [gat, Option.some.injEq, Prod.mk.injEq] at hg
    obtain ⟨_, rfl⟩ := hg
    exact ⟨[], vs, rfl, rfl, h⟩
  | pair p q ihp ihq =>
    intro cs vs x r h hg
    simp only [gat] at hg
    split at hg
    · rename_i x1 r1 h1
      split at hg
      · rename_i y1 r2 h2
        simp only [Option.some.injEq, Prod.mk.injEq] at hg
        obtain ⟨rfl, rfl⟩ := hg
        obtain ⟨v1, v2, rfl, hr1, hall⟩ := ihp h h1
        obtain ⟨v3, v4, rfl, hr2, hall2⟩ := ihq hall h2
        exact ⟨v1 ++ v3, v4, by simp, ⟨v1, v3, rfl, hr1, hr2⟩, hall2⟩
      · cases hg
    · cases hg
  | int k =>
    intro cs vs x r h hg
    cases h with
    | nil => simp [gat] at hg
    | cons hx hr =>
      simp only [gat] at hg
      split at hg
      · rename_i y hy
        simp only [Option.some.injEq, Prod.mk.injEq] at hg
        obtain ⟨rfl, rfl⟩ := hg
        exact ⟨[_], _, rfl, (cell1_sound hO hm hS hx hy).2, hr⟩
      · cases hg
  | bool =>
    intro cs vs x r h hg
    cases h with
    | nil => simp [gat] at hg
    | cons hx hr =>
      simp only [gat] at hg
      split at hg
      · rename_i y hy
        simp only [Option.some.injEq, Prod.mk.injEq] at hg
        obtain ⟨rfl, rfl⟩ := hg
        exact ⟨[_], _, rfl, (cell1_sound hO hm hS hx hy).2, hr⟩
      · cases hg
  | str =>
    intro cs vs x r h hg
    cases h with
    | nil => simp [gat] at hg
    | cons hx hr =>
      simp only [gat] at hg
      split at hg
      · rename_i y hy
        simp only [Option.some.injEq, Prod.mk.injEq] at hg
        obtain ⟨rfl, rfl⟩ := hg
        exact ⟨[_], _, rfl, (cell1_sound hO hm hS hx hy).2, hr⟩
      · cases hg
  | slice t ih =>
    intro cs vs x r h hg
    cases h with
    | nil => simp [gat] at hg
    | cons hx hr =>
      simp only [gat] at hg
      split at hg
      · rename_i y hy
        simp only [Option.some.injEq, Prod.mk.injEq] at hg
        obtain ⟨rfl, rfl⟩ := hg
        exact ⟨[_], _, rfl, (cell1_sound hO hm hS hx hy).2, hr⟩
      · cases hg

theorem toD_sound {own : Bool} (hO : Owns w S β H) (hm : ∀ t (x : den t) cs, Rp w S t x cs → Rp w S' t x cs) (hS : own = true → ∀ b, S' b) {t : Ty} {x : SV} {v : Value} {y : den t}
    (hv : VV w S β H x v) (h : toD own H t x = some y) : ∃ cs, Val t v cs ∧ Rp w S' t y cs := by
  cases x with
  | s c =>
    simp only [toD] at h
    by_cases hd : ∃ s z, c = .d s z
    · obtain ⟨s, z, rfl⟩ := hd
      obtain ⟨cs, h1, h2⟩ := hv
      simp only [cell1] at h
      obtain ⟨rfl, h3⟩ := cst_Rp h (hm _ _ _ h2)
      exact ⟨cs, h1, h3⟩
    · have hx : ∀ s z, c ≠ .d s z := fun s z e => hd ⟨s, z, e⟩
      obtain ⟨h1, h2⟩ := cell1_sound hO hm hS ((VV_s hx).1 hv) h
      exact ⟨[v], by simp [Val, h1], h2⟩
  | g cs =>
    simp only [toD] at h
    split at h
    · rename_i ht
      split at h
      · rename_i z hz
        obtain rfl := Option.some.inj h
        obtain ⟨vs, e, hall⟩ := hv
        obtain ⟨v1, v2, rfl, hr, hn⟩ := gat_sound hO hm hS hall hz
        cases hn
        exact ⟨v1, by simp [Val, ht, e], hr⟩
      · cases h
    · cases h

/-- Frozen, what a value shows is data that nobody writes. -/
theorem frz_same : ∀ {l : List Nat} {H : Heap} {o : Nat}, (∀ e t xs, look H o ≠ some (.row e t xs)) → look (frz H l) o = look H o
  | [], _, _, _ => rfl
  | k :: r, H, o, h => by
    have ih := frz_same (l := r) h
    unfold frz
    split
    · rename_i e t xs he
      rw [look_cons]
      by_cases e' : k = o
      · subst e'; rw [ih] at he; exact absurd he (h _ _ _)
      · rw [if_neg e']; exact ih
    · exact ih

theorem frz_row : ∀ {l : List Nat} {H : Heap} {o : Nat} {e : TypeId} {t : Ty} {xs : List (den t)}, look H o = some (.row e t xs) → look (frz H l) o = some (if o ∈ l then .fro t xs else .row e t xs)
  | [], _, _, _, _, _, h => by simpa [frz] using h
  | k :: r, H, o, e, t, xs, h => by
    have ih := frz_row (l := r) h
    unfold frz
    split
    · rename_i e2 t2 xs2 he
      rw [look_cons]
      by_cases e' : k = o
      · subst e'
        rw [if_pos rfl]
        rw [ih] at he
        split at he
        · cases he
        · simp only [Option.some.injEq, Ob.row.injEq] at he
          obtain ⟨rfl, rfl, he⟩ := he
          have := eq_of_heq he
          subst this
          simp
      · rw [if_neg e', ih]
        have : (o ∈ k :: r) ↔ o ∈ r := by
          constructor
          · intro hm; rcases List.mem_cons.1 hm with rfl | hm
            · exact absurd rfl e'
            · exact hm
          · exact List.mem_cons_of_mem _
        simp [this]
    · rename_i hno
      rw [ih]
      by_cases e' : k = o
      · subst e'
        by_cases hm : k ∈ r
        · simp [hm]
        · rw [ih] at hno
          rw [if_neg hm] at hno
          exact absurd rfl (hno _ _ _)
      · have : (o ∈ k :: r) ↔ o ∈ r := by
          constructor
          · intro hm; rcases List.mem_cons.1 hm with rfl | hm
            · exact absurd rfl e'
            · exact hm
          · exact List.mem_cons_of_mem _
        simp [this]

theorem cell1_frz {H : Heap} {l : List Nat} {t : Ty} {c : S1} {x : den t} (h : cell1 true H t c = some x) (hl : ∀ o e s xs, c = .sl o → look H o = some (.row e s xs) → o ∈ l) : cell1 false (frz H l) t c = some x := by
  cases c with
  | any => exact h
  | d s z => exact h
  | nls => exact h
  | p => exact h
  | pe => exact h
  | pd => exact h
  | fn => exact h
  | mp => exact h
  | sl o =>
    simp only [cell1] at h ⊢
    split at h
    · rename_i e s xs ho
      have := frz_row (l := l) ho
      rw [if_pos (hl o e s xs rfl ho)] at this
      rw [this]
      simpa using h
    · rename_i s xs ho
      rw [frz_same (by intro e t xs' e'; rw [ho] at e'; cases e'), ho]
      exact h
    · cases h

theorem gat_left : ∀ {t : Ty} {cs : List S1} {x : den t} {r : List S1} {own : Bool}, gat own H t cs = some (x, r) → ∃ pre, cs = pre ++ r := by
  intro t
  induction t with
  | unit => intro cs x r own h; simp only [gat, Option.some.injEq, Prod.mk.injEq] at h; exact ⟨[], by rw [h.2]; rfl⟩
  | pair p q ihp ihq =>
    intro cs x r own h
    simp only [gat] at h
    split at h
    · rename_i x1 r1 h1
      split at h
      · rename_i y1 r2 h2
        simp only [Option.some.injEq, Prod.mk.injEq] at h
        obtain ⟨p1, rfl⟩ := ihp h1
        obtain ⟨p2, rfl⟩ := ihq h2
        exact ⟨p1 ++ p2, by rw [← h.2]; simp⟩
      · cases h
    · cases h
  | _ =>
    intro cs x r own h
    cases cs with
    | nil => simp [gat] at h
    | cons c cs =>
      simp only [gat] at h
      split at h
      · simp only [Option.some.injEq, Prod.mk.injEq] at h
        exact ⟨[c], by rw [← h.2]; rfl⟩
      · cases h

theorem gat_frz {l : List Nat} : ∀ {t : Ty} {cs : List S1} {x : den t} {r : List S1}, gat true H t cs = some (x, r) → (∀ o ∈ slNames cs, ∀ e s xs, look H o = some (.row e s xs) → o ∈ l) → gat false (frz H l) t cs = some (x, r) := by
  intro t
  induction t with
  | unit => intro cs x r h _; exact h
  | pair p q ihp ihq =>
    intro cs x r h hl
    simp only [gat] at h ⊢
    split at h
    · rename_i x1 r1 h1
      split at h
      · rename_i y1 r2 h2
        obtain ⟨pre, rfl⟩ := gat_left h1
        rw [ihp h1 hl]
        simp only
        rw [ihq h2 (fun o ho => hl o (by unfold slNames at ho ⊢; rw [List.filterMap_append]; exact List.mem_append_right _ ho))]
        exact h
      · cases h
    · cases h
  | _ =>
    intro cs x r h hl
    cases cs with
    | nil => simp [gat] at h
    | cons c cs =>
      simp only [gat] at h ⊢
      split at h
      · rename_i y hy
        rw [cell1_frz hy (fun o e s xs hc hk => hl o (by subst hc; simp [slNames]) e s xs hk)]
        exact h
      · cases h

theorem toD_frzL {l : List Nat} {t : Ty} {x : SV} {y : den t} (h : toD true H t x = some y) (hl : ∀ o ∈ rowsOf H x, ∀ e s xs, look H o = some (.row e s xs) → o ∈ l) : toD false (frz H l) t x = some y := by
  cases x with
  | s c =>
    simp only [toD] at h ⊢
    refine cell1_frz h fun o e s xs hc hk => ?_
    subst hc
    exact hl o (by simp [rowsOf]) e s xs hk
  | g cs =>
    simp only [toD] at h ⊢
    split at h
    · rename_i ha
      rw [if_pos ha]
      split at h
      · rename_i z hz
        have := gat_frz (l := l) hz hl
        rw [this]
        exact h
      · cases h
    · cases h

theorem toD_frz {t : Ty} {x : SV} {y : den t} (h : toD true H t x = some y) : toD false (frz H (rowsOf H x)) t x = some y := toD_frzL h fun o ho _ _ _ _ => ho

theorem sub_base {t : Ty} (ht : ∀ a b, t ≠ .pair a b) {x : den t} {off : Nat} {u : Ty} : sub t x off u = if off = 0 then cst t u x else none := by
  cases t <;> first | rfl | exact absurd rfl (ht _ _)

theorem sub_sound : ∀ {t : Ty} {x : den t} {off : Nat} {u : Ty} {y : den u} {cs : List Value}, sub t x off u = some y → Rp w S t x cs →
    ∃ p m q, cs = p ++ m ++ q ∧ p.length = off ∧ Rp w S u y m := by
  intro t
  induction t with
  | pair c d ihc ihd =>
    intro x off u y cs h hr
    simp only [sub] at h
    split at h
    · rename_i e
      obtain ⟨e1, h2⟩ := cst_Rp h hr
      exact ⟨[], cs, [], by simp, by simp [e.1], h2⟩
    · obtain ⟨c1, c2, rfl, h1, h2⟩ := hr
      split at h
      · obtain ⟨p, m, q, rfl, hp, hm⟩ := ihc h h1
        exact ⟨p, m, q ++ c2, by simp, hp, hm⟩
      · rename_i hlt
        obtain ⟨p, m, q, rfl, hp, hm⟩ := ihd h h2
        refine ⟨c1 ++ p, m, q, by simp, ?_, hm⟩
        rw [List.length_append, Rp_len h1, hp]
        omega
  | _ =>
    intro x off u y cs h hr
    rw [sub_base (by intros; simp)] at h
    split at h
    · rename_i e
      obtain ⟨e1, h2⟩ := cst_Rp h hr
      exact ⟨[], cs, [], by simp, by simp [e], h2⟩
    · cases h

theorem upd_base {t : Ty} (ht : ∀ a b, t ≠ .pair a b) {x : den t} {off : Nat} {u : Ty} {y : den u} : upd t x off u y = if off = 0 then cst u t y else none := by
  cases t <;> first | rfl | exact absurd rfl (ht _ _)

theorem upd_sound : ∀ {t : Ty} {x : den t} {off : Nat} {u : Ty} {y : den u} {z : den t} {cs m : List Value}, upd t x off u y = some z → Rp w S t x cs → Rp w S u y m →
    off + m.length ≤ cs.length ∧ Rp w S t z (cs.take off ++ m ++ cs.drop (off + m.length)) := by
  intro t
  induction t with
  | pair c d ihc ihd =>
    intro x off u y z cs m h hr hm
    simp only [upd] at h
    split at h
    · rename_i e
      obtain ⟨e1, h2⟩ := cst_Rp h hm
      have hl : m.length = cs.length := by rw [Rp_len hm, Rp_len hr, e1]
      obtain ⟨e0, _⟩ := e
      subst e0
      refine ⟨by omega, ?_⟩
      rw [List.take_zero, List.nil_append, Nat.zero_add, List.drop_of_length_le (by omega), List.append_nil]
      exact h2
    · obtain ⟨c1, c2, rfl, h1, h2⟩ := hr
      have l1 := Rp_len h1
      split at h
      · rename_i hlt
        split at h
        · rename_i z1 hz
          obtain rfl := Option.some.inj h
          obtain ⟨hl, hz'⟩ := ihc hz h1 hm
          refine ⟨by rw [List.length_append]; omega, c1.take off ++ m ++ c1.drop (off + m.length), c2, ?_, hz', h2⟩
          rw [List.take_append, List.drop_append]
          have e1 : off - c1.length = 0 := by omega
          have e2 : off + m.length - c1.length = 0 := by omega
          rw [e1, e2, List.take_zero, List.drop_zero]
          simp
        · cases h
      · rename_i hlt
        split at h
        · rename_i z1 hz
          obtain rfl := Option.some.inj h
          obtain ⟨hl, hz'⟩ := ihd hz h2 hm
          refine ⟨by rw [List.length_append]; omega, c1, c2.take (off - sz c) ++ m ++ c2.drop (off - sz c + m.length), ?_, h1, hz'⟩
          rw [List.take_append, List.drop_append, List.take_of_length_le (by omega), List.drop_of_length_le (by omega), l1]
          have e2 : off + m.length - sz c = off - sz c + m.length := by omega
          rw [e2]
          simp
        · cases h
  | _ =>
    intro x off u y z cs m h hr hm
    rw [upd_base (by intros; simp)] at h
    split at h
    · rename_i e
      obtain ⟨e1, h2⟩ := cst_Rp h hm
      have hl : m.length = cs.length := by rw [Rp_len hm, Rp_len hr, e1]
      subst e
      refine ⟨by omega, ?_⟩
      rw [List.take_zero, List.nil_append, Nat.zero_add, List.drop_of_length_le (by omega), List.append_nil]
      exact h2
    · cases h

end Go.Proofs.Yteddlkdbefloaaa.S
