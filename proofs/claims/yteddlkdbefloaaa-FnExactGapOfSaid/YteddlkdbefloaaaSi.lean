/- Soundness of the machinery S, operation by operation, the fifth part: structs and rows that are made, slices that are cut. -/
import Derived.Test.YteddlkdbefloaaaSh
namespace Go.Proofs.Yteddlkdbefloaaa.S
open Go Go.RowKit
set_option linter.unusedVariables false
set_option linter.unusedSimpArgs false

theorem run_mapM {P : Program} {α γ : Type} {f : α → Sem γ} {g : α → γ} {w : World} : ∀ {l : List α}, (∀ x ∈ l, (f x).run P w = .ok (g x) w) → (l.mapM f).run P w = .ok (l.map g) w
  | [], _ => by simp
  | x :: r, h => by
    have h1 := h x (by simp)
    have h2 := run_mapM (l := r) (fun y hy => h y (by simp [hy]))
    simp [List.mapM_cons, h1, h2]

theorem fold_set (off : Nat) : ∀ (vs : List Value) (k : Nat) (cs : Array Value), off + k + vs.length ≤ cs.size →
    ((vs.zipIdx k).foldl (fun cs (p : Value × Nat) => cs.setIfInBounds (off + p.2) p.1) cs).toList = cs.toList.take (off + k) ++ vs ++ cs.toList.drop (off + k + vs.length)
  | [], k, cs, h => by simp
  | v :: r, k, cs, h => by
    simp only [List.length_cons] at h
    have ih := fold_set off r (k + 1) (cs.setIfInBounds (off + k) v) (by simp; omega)
    simp only [List.zipIdx_cons, List.foldl_cons]
    rw [ih]
    simp only [Array.toList_setIfInBounds, List.length_cons]
    have hlt : off + k < cs.toList.length := by simp; omega
    apply List.ext_getElem?
    intro j
    by_cases h1 : j < off + k
    · rw [List.append_assoc, List.getElem?_append_left (by simp; omega), List.append_assoc, List.getElem?_append_left (by simp; omega), List.getElem?_take, List.getElem?_take, if_pos (by omega), if_pos h1, List.getElem?_set_ne (by omega)]
    · by_cases h2 : j = off + k
      · subst h2
        rw [List.append_assoc, List.getElem?_append_left (by simp; omega), List.append_assoc, List.getElem?_append_right (by simp; omega), List.getElem?_take, if_pos (by omega), List.getElem?_set_self hlt]
        have : off + k - (cs.toList.take (off + k)).length = 0 := by simp; omega
        rw [this]; rfl
      · by_cases h3 : j < off + k + (r.length + 1)
        · rw [List.append_assoc, List.getElem?_append_right (by simp; omega), List.getElem?_append_left (by simp; omega), List.append_assoc, List.getElem?_append_right (by simp; omega), List.getElem?_append_left (by simp; omega)]
          have e1 : j - (cs.toList.take (off + k)).length = (j - (off + k + 1)) + 1 := by simp; omega
          rw [e1, List.getElem?_cons_succ]
          congr 1; simp; omega
        · have el : ((cs.toList.set (off + k) v).take (off + (k + 1)) ++ r).length = off + k + (r.length + 1) := by simp; omega
          have el2 : (cs.toList.take (off + k) ++ v :: r).length = off + k + (r.length + 1) := by simp; omega
          rw [List.getElem?_append_right (by omega), List.getElem?_append_right (by omega), el, el2, List.getElem?_drop, List.getElem?_drop, List.getElem?_set_ne (by omega)]
          congr 1; omega

/-- Instr.fill at one part. -/
theorem fill_cons {place : Nat → Option (Nat × Nat)} {cells : Array Value} {i off size : Nat} {v : Value} {vs : List Value} {rest : List (Nat × Value)} (hp : place i = some (off, size)) (hv : v.cells = vs.toArray)
    (hs : vs.length = size) (hf : off + size ≤ cells.size) :
    Instr.fill place cells ((i, v) :: rest) = Instr.fill place (cells.toList.take off ++ vs ++ cells.toList.drop (off + size)).toArray rest := by
  have e : v.cells.zipIdx.foldl (fun cs (c, j) => cs.setIfInBounds (off + j) c) cells = (cells.toList.take off ++ vs ++ cells.toList.drop (off + size)).toArray := by
    rw [hv]
    apply Array.ext'
    rw [← Array.foldl_toList, Array.toList_zipIdx]
    have := fold_set off vs 0 cells (by omega)
    simpa [hs] using this
  have h1 : v.cells.size = size := by rw [hv]; simpa using hs
  simp only [Instr.fill, hp]
  rw [if_neg (by simp [h1]; omega), e]

theorem fillC_sound {S : Nat → Prop} {w : World} {β : Names} {H : Heap} {fields : List (Nat × TypeId)} {szs : TypeId → Option Nat} {place : Nat → Option (Nat × Nat)}
    (hplace : ∀ i off t n, fields[i]? = some (off, t) → szs t = some n → place i = some (off, n)) :
    ∀ {ps : List (Nat × List S1)} {vs : List (Nat × Value)} {cs ds : List S1} {cells : List Value}, All2 (fun p v => p.1 = v.1 ∧ ∃ us, v.2.cells = us.toArray ∧ All2 (VS w S β H) p.2 us) ps vs →
      All2 (VS w S β H) cs cells → fillC fields szs cs ps = some ds → ∃ cells', Instr.fill place cells.toArray vs = some cells'.toArray ∧ All2 (VS w S β H) ds cells'
  | [], _, cs, ds, cells, .nil, hc, h => by
    obtain rfl := Option.some.inj h
    exact ⟨cells, rfl, hc⟩
  | (i, ys) :: r, _, cs, ds, cells, .cons (b := b) hx hr, hc, h => by
    obtain ⟨i', v⟩ := b
    obtain ⟨e, us, hu, hall⟩ := hx
    simp only at e hu hall
    subst e
    simp only [fillC] at h
    split at h
    · rename_i off t hf
      split at h
      · rename_i hcond
        have hl := hall.len
        have hlc := hc.len
        have hp := hplace _ _ _ _ hf hcond.1
        have hnew : All2 (VS w S β H) (replC cs off ys) (cells.take off ++ us ++ cells.drop (off + ys.length)) := by
          have := replC_all (off := off) hc hall
          rw [← hl] at this
          exact this
        obtain ⟨cells', hfill, hall'⟩ := fillC_sound hplace hr hnew h
        refine ⟨cells', ?_, hall'⟩
        rw [fill_cons hp hu (by omega) (by simp; omega)]
        exact hfill
      · cases h
    · cases h

theorem mapO_all {α γ : Type} {f : α → Option γ} : ∀ {l : List α} {r : List γ}, mapO f l = some r → All2 (fun x y => f x = some y) l r
  | [], _, h => by obtain rfl := Option.some.inj h; exact .nil
  | x :: l, r, h => by
    simp only [mapO] at h
    split at h
    · rename_i y hy
      split at h
      · rename_i z hz
        obtain rfl := Option.some.inj h
        exact .cons hy (mapO_all hz)
      · cases h
    · cases h

theorem All2.swap {α γ : Type} {R : α → γ → Prop} : ∀ {as : List α} {bs : List γ}, All2 R as bs → All2 (fun b a => R a b) bs as
  | _, _, .nil => .nil
  | _, _, .cons h hr => .cons h hr.swap

theorem All2.map_right {α γ δ : Type} {R : α → γ → Prop} {f : δ → γ} : ∀ {as : List α} {ds : List δ}, All2 (fun a d => R a (f d)) as ds → All2 R as (ds.map f)
  | _, _, .nil => .nil
  | _, _, .cons h hr => .cons h hr.map_right

section ops
variable {P : Program} {T : Tab} {G : Env} {Z : Nat → Prop} {M : Nat → Nat → Prop} {N : Nat → Option (Option (Nat × Nat))} {w0 w w' : World} {β : Names} {σ : St} {a : Act} {o : Oper} {next : Act → World → Prop} {Q : Exit → Act → World → Prop} {v : Value}
variable {R : Type} {K : St → Option R} {y : R} {S : Nat → Prop} {H : Heap} {qo : Out}

theorem op_build (hT : tabOk P T = true) (hrep : RepB Z M N w0 β σ a w) (hd : dstOk o.dst σ.nt = true) (hg : GoP Z M N w0 σ o qo next) {t : TypeId} {parts : Array (Nat × Operand)} (ho : o.op = .build t parts)
    (h : pureR T o σ = some qo) : o.wp P a w next Q := by
  unfold pureR pureC at h
  rw [ho] at h
  simp only at h
  split at h
  · rename_i r ps hr hps
    obtain ⟨i, d, z, hrow⟩ := tab_row hT hr
    split at h
    · cases h
    · rename_i hag
      have hag' : isAg r.ty = true := by simpa using hag
      obtain ⟨fs, rfl, hfs⟩ := hrow.fields hag'
      split at h
      · rename_i cs hfill
        split at h
        · rename_i hkn
          obtain rfl := val1_some h
          have hsz : ∀ f ∈ fs.toList, ∃ q, look T f.type = some q := by
            intro f hf
            obtain ⟨k, hk, he⟩ := List.getElem_of_mem hf
            exact hrow.fieldIn hag' (k := k) (off := f.offset) (u := f.type) (by rw [← hfs, List.getElem?_map, List.getElem?_eq_getElem hk, he]; rfl)
          let g : Field → Nat × Nat := fun f => (f.offset, match look T f.type with | some q => sz q.ty | none => 0)
          have hpl : (fs.mapM fun f => Prod.mk f.offset <$> sizeOf f.type : Sem (Array (Nat × Nat))).run P w = .ok (fs.map g) w := by
            rw [Array.mapM_eq_mapM_toList]
            have := run_mapM (P := P) (w := w) (l := fs.toList) (f := fun f => Prod.mk f.offset <$> sizeOf f.type) (g := g) (by
              intro f hf
              obtain ⟨q, hq⟩ := hsz f hf
              obtain ⟨i2, d2, z2, hrow2⟩ := tab_row hT hq
              simp [hrow2.run_size, g, hq])
            rw [Sem.run_map, this]
            simp only [Result.andThen_ok]
            congr 1
            apply Array.ext'
            simp
          have hz := All2.zcell (w := w) (S := RO Z β σ.H) (β := β) (H := σ.H) hrow.zcells
          have hparts : All2 (fun (p : Nat × List S1) (u : Nat × Value) => p.1 = u.1 ∧ ∃ us, u.2.cells = us.toArray ∧ All2 (VS w (RO Z β σ.H) β σ.H) p.2 us) ps (parts.toList.map fun p => (p.1, a.eval p.2)) := by
            have h1 := mapO_all hps
            have hk : ∀ p ∈ ps, p.2.all known = true := List.all_eq_true.1 hkn
            clear hfill hps hg hkn
            generalize parts.toList = l at h1
            induction h1 with
            | nil => exact .nil
            | cons hx hr ih =>
              refine .cons ?_ (ih fun p hp => hk p (by simp [hp]))
              obtain ⟨y1, hy1, e⟩ := Option.map_eq_some_iff.1 hx
              have hk1 := hk _ (List.mem_cons_self ..)
              rw [← e] at hk1
              rw [← e]
              obtain ⟨us, hu, hall⟩ := cells_sound (ev_sound hrep hy1) hk1
              exact ⟨rfl, us, hu, hall.mono fun _ _ h => h.1⟩
          obtain ⟨cells', hf', hall'⟩ := fillC_sound (place := fun i => (fs.toList.map g)[i]?) (fields := r.fields) (szs := fun u => (look T u).map fun q => sz q.ty) (by
            intro k off u n hk hn
            obtain ⟨f, hf1, hf2, hf3⟩ := field_at hfs hk
            rw [List.getElem?_map]
            have : fs.toList[k]? = some f := by simpa using hf1
            rw [this]
            subst hf2 hf3
            obtain ⟨q, hq, e⟩ := Option.map_eq_some_iff.1 hn
            simp [g, hq, e]) hparts (hz.mono fun _ _ h => h.1) hfill
          refine wp_val (v := .agg cells'.toArray) (w' := w) ?_ (hg _ _ ⟨β, hrep.val hd ⟨cells', rfl, hall'⟩⟩)
          unfold execOp
          rw [ho]
          have hf2 : Instr.fill (fun i : Nat => (fs.map g)[i]?) z.cells ((parts.map fun p => (p.1, a.eval p.2)).toList) = some cells'.toArray := by
            have e : (fun i : Nat => (fs.map g)[i]?) = fun i : Nat => (fs.toList.map g)[i]? := by funext i; simp
            rw [e]
            simpa using hf'
          simp only [Instr.build, Sem.run_map, Sem.run_bind, hrow.run_zero, Result.andThen_ok, run_underlying hrow.under, bind_pure_comp, hpl, hf2, Sem.run_pure]
        · cases h
      · cases h
  · cases h

end ops
end Go.Proofs.Yteddlkdbefloaaa.S
