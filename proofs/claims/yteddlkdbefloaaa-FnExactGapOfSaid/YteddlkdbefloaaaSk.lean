/- Soundness of the machinery S, operation by operation, the seventh part: slices by their elements, append. -/
import Derived.Test.YteddlkdbefloaaaSj
import Derived.Maps.AppendAt
namespace Go.Proofs.Yteddlkdbefloaaa.S
open Go Go.RowKit
set_option linter.unusedVariables false
set_option linter.unusedSimpArgs false

theorem fill_seq {ρ : Operand → Value} {s : Nat} : ∀ (l : List (Nat × Operand)) (n : Nat) (uss : List (List Value)) (cells : List Value), seqParts n l = true →
    All2 (fun p us => (ρ p.2).cells = us.toArray ∧ us.length = s) l uss → cells.length = (n + l.length) * s →
    Instr.fill (fun i => some (i * s, s)) cells.toArray (l.map fun p => (p.1, ρ p.2)) = some (cells.take (n * s) ++ uss.flatten).toArray
  | [], n, _, cells, _, .nil, hl => by
    simp only [List.length_nil, Nat.add_zero] at hl
    simp [Instr.fill, List.take_of_length_le (show cells.length ≤ n * s by omega)]
  | (i, x) :: r, n, _, cells, hs, .cons (b := us) h hr, hl => by
    simp only [seqParts, Bool.and_eq_true, beq_iff_eq] at hs
    obtain ⟨rfl, hs⟩ := hs
    simp only [List.length_cons] at hl
    have e1 : (i + (r.length + 1)) * s = i * s + s + r.length * s := by rw [Nat.add_mul, Nat.add_mul]; omega
    rw [List.map_cons, fill_cons (place := fun i => some (i * s, s)) rfl h.1 h.2 (by simp; omega)]
    have e2 : (i + 1) * s = i * s + s := by rw [Nat.add_mul]; omega
    have ih := fill_seq r (i + 1) _ (cells.take (i * s) ++ us ++ cells.drop (i * s + s)) hs hr (by
      have e3 : (i + 1 + r.length) * s = i * s + s + r.length * s := by rw [Nat.add_mul, Nat.add_mul]; omega
      simp [h.2]; omega)
    have e4 : (cells.take (i * s) ++ us).length = i * s + s := by simp [h.2]; omega
    rw [e2, List.take_left' e4] at ih
    simp only [] at ih ⊢
    rw [ih, List.flatten_cons, List.append_assoc]

section ops
variable {P : Program} {T : Tab} {G : Env} {Z : Nat → Prop} {M : Nat → Nat → Prop} {N : Nat → Option (Option (Nat × Nat))} {w0 w w' : World} {β : Names} {σ : St} {a : Act} {o : Oper} {next : Act → World → Prop} {Q : Exit → Act → World → Prop} {v : Value}
variable {R : Type} {K : St → Option R} {y : R} {S : Nat → Prop} {H : Heap} {qo : Out}

theorem ev_frz {l : List Nat} {x : Operand} : ev { σ with H := frz σ.H l } x = ev σ x := by cases x <;> rfl

theorem toD_frz' {l : List Nat} {t : Ty} {x : SV} {z : den t} (h : toD true H t x = some z) (hl : ∀ o ∈ rowsOf H x, o ∈ l) : toD false (frz H l) t x = some z := toD_frzL h fun o ho _ _ _ _ => hl o ho

theorem rows_of {t : Ty} : ∀ {ys : List (den t)} {uss : List (List Value)}, All2 (fun x us => Rp w S t x us) ys uss → RpL (Rp w S t) ys uss.flatten
  | _, _, .nil => rfl
  | _, _, .cons h hr => ⟨_, _, by rw [List.flatten_cons], h, rows_of hr⟩

theorem op_buildSlice (hT : tabOk P T = true) (hrep : RepB Z M N w0 β σ a w) (hd : dstOk o.dst σ.nt = true) (hg : GoP Z M N w0 σ o qo next) {t : TypeId} {len : Nat} {parts : Array (Nat × Operand)} (ho : o.op = .buildSlice t len parts)
    (h : pureR T o σ = some qo) : o.wp P a w next Q := by
  unfold pureR pureC at h
  rw [ho] at h
  simp only at h
  split at h
  · rename_i r j hr hj
    split at h
    · rename_i q xs hq hxs
      split at h
      · rename_i hc
        obtain ⟨hlen, hseq, hsmall, hn, hty⟩ := hc
        split at h
        · rename_i ys hys
          obtain rfl := (Option.some.inj h).symm
          obtain ⟨i, d, zv, hrow⟩ := tab_row hT hr
          obtain ⟨rfl, q', hq', hqt, hpos⟩ := hrow.slice hty
          rw [hq] at hq'
          obtain rfl := Option.some.inj hq'
          obtain ⟨i2, d2, z2, hrow2⟩ := tab_row hT hq
          unfold GoP at hg
          rw [hj] at hd hg
          have hrep' := hrep.frz (xs.flatMap (rowsOf σ.H))
          have hzl : z2.cells.toList.length = sz q.ty := Rp_len (zD_Rp (w := w) (S := fun _ => True) hrow2.zcells)
          have hall : ∃ uss : List (List Value), All2 (fun (p : Nat × Operand) us => (a.eval p.2).cells = us.toArray ∧ us.length = sz q.ty) parts.toList uss ∧
              All2 (fun x us => Rp w (RO Z β (frz σ.H (xs.flatMap (rowsOf σ.H)))) q.ty x us) ys uss := by
            have h1 := mapO_all hxs
            have h2 := mapO_all hys
            clear hys hxs hg hseq hlen h
            generalize hfl : xs.flatMap (rowsOf σ.H) = fl at *
            clear hfl
            generalize parts.toList = l at h1
            induction h1 generalizing ys with
            | nil => cases h2; exact ⟨[], .nil, .nil⟩
            | cons hx hr ih =>
              cases h2 with
              | cons hy hr2 =>
                obtain ⟨uss, g1, g2⟩ := ih _ hr2
                obtain ⟨us, hv, hrp⟩ := toD_sound (own := false) hrep'.owns (fun t x cs h => h) (by simp) (ev_sound hrep' (σ := { σ with H := frz σ.H fl }) (by rw [ev_frz]; exact hx)) hy
                exact ⟨us :: uss, .cons ⟨Val_cells hv (Rp_cell hrp), Rp_len hrp⟩ g1, .cons hrp g2⟩
          obtain ⟨uss, hu1, hu2⟩ := hall
          have hlp : ys.length = len := by rw [hlen, ← (mapO_all hys).len, ← (mapO_all hxs).len]
          have hrows := rows_of hu2
          have hrl := RpL_len (fun _ _ => Rp_len) hrows
          have hfill := fill_seq (ρ := a.eval) (s := sz q.ty) parts.toList 0 uss ((Array.range (len * sz q.ty)).map (z2.cells[· % z2.cells.size]!)).toList hseq hu1 (by simp [hlen])
          rw [Nat.zero_mul, List.take_zero, List.nil_append, Array.toArray_toList] at hfill
          have h24 : ¬ (2 ^ 24 < len * sz q.ty) := by omega
          have hrun : (Instr.buildSlice t len (parts.map fun (p : Nat × Operand) => (p.1, a.eval p.2))).run P w = .ok (.slice (some ⟨w.heap.size, 0, none⟩) len len) (w.alloc (.cells uss.flatten.toArray r.elem)) := by
            have hpt : (parts.map fun (p : Nat × Operand) => (p.1, a.eval p.2)).toList = parts.toList.map fun p => (p.1, a.eval p.2) := by simp
            by_cases h0 : len * sz q.ty = 0
            · have e0 : (Array.range (len * sz q.ty)).map (z2.cells[· % z2.cells.size]!) = (Array.range (len * sz q.ty)).map ((#[] : Array Value)[· % (#[] : Array Value).size]!) := by
                rw [h0]; simp [Array.range_zero']
              rw [e0] at hfill
              simp only [Instr.buildSlice, Sem.run_bind, run_underlying hrow.under, Result.andThen_ok, hrow2.run_size, h0, if_true, Sem.run_pure, hpt]
              rw [h0] at hfill
              simp only [gt_iff_lt, show ¬ (2 ^ 24 < 0) by omega, if_false, Sem.run_pure, Sem.run_bind, Result.andThen_ok]
              rw [hfill]
              simp [newRow]
            · simp only [Instr.buildSlice, Sem.run_bind, run_underlying hrow.under, Result.andThen_ok, hrow2.run_size, gt_iff_lt, h24, h0, if_false, Sem.run_pure, hpt, hrow2.run_zero]
              rw [hfill]
              simp [newRow]
          refine wp_val (v := .slice (some ⟨w.heap.size, 0, none⟩) len len) (w' := w.alloc (.cells uss.flatten.toArray r.elem)) ?_ ?_
          · unfold execOp
            rw [ho]
            simp only [bind_pure_comp, Sem.run_map]
            rw [hrun]
            rfl
          · rw [hj]
            refine hg _ _ ⟨β.put j (some (w.heap.size, len)), ?_⟩
            have := hrep'.newRow (σ := { σ with H := frz σ.H (xs.flatMap (rowsOf σ.H)) }) (by simpa [newName] using frz_none (newName_none hn)) (by simpa [dstOk] using hd) (e := r.elem) (t := q.ty) (xs := ys) (c := uss.flatten.toArray) (rows := uss.flatten) (cap := len)
              (by simp only [List.size_toArray]; rw [hrl, hlp]) (by omega) (by unfold maxLen; have := Nat.le_mul_of_pos_right len hpos; omega) hrows (by intro i hi; simp)
            rw [hlp] at this
            exact this
        · cases h
      · cases h
    · cases h
  · cases h

/-- Every old block is as it was, or a row of as many cells. -/
def Turned (w w' : World) : Prop := ∀ g, g < w.heap.size → w'.heap[g]? = w.heap[g]? ∨ ∃ c c' e fz, w.heap[g]? = some (.cells c e fz) ∧ w'.heap[g]? = some (.cells c' e fz) ∧ c'.size = c.size

/-- A row is appended to: the elder name is gone. -/
theorem RepB.append (h : RepB Z M N w0 β σ a w) {b j : Nat} {e : TypeId} {t : Ty} {xs xs2 : List (den t)} {q : Option (Nat × Nat)} (hb : look σ.H b = some (.row e t xs)) (hj : newName σ.H j = true)
    (hgr : w.grownBy w' ((β b).map (·.1))) (htu : Turned w w') (hq : ∀ g cap, q = some (g, cap) → ((∃ cap0, β b = some (g, cap0)) ∨ w.heap.size ≤ g) ∧ g < w'.heap.size)
    (hobj : ∀ S' β' H', (∀ t x cs, Rp w (RO Z β σ.H) t x cs → Rp w' S' t x cs) → OR w' S' β' H' q (.row e t xs2)) :
    RepB Z M N w0 (β.put j q) ((σ.put b .dead).put j (.row e t xs2)) a w' := by
  have hj' := newName_none hj
  have hbj : b ≠ j := fun e' => by subst e'; rw [hj'] at hb; cases hb
  have hlook : ∀ o ob, look ((j, .row e t xs2) :: (b, .dead) :: σ.H) o = some ob → (o = j ∧ ob = .row e t xs2) ∨ (o = b ∧ ob = .dead) ∨ (o ≠ j ∧ o ≠ b ∧ look σ.H o = some ob) := by
    intro o ob ho
    rw [look_cons] at ho
    by_cases e1 : j = o
    · rw [if_pos e1] at ho; exact .inl ⟨e1.symm, (Option.some.inj ho).symm⟩
    · rw [if_neg e1, look_cons] at ho
      by_cases e2 : b = o
      · rw [if_pos e2] at ho; exact .inr (.inl ⟨e2.symm, (Option.some.inj ho).symm⟩)
      · rw [if_neg e2] at ho; exact .inr (.inr ⟨fun h => e1 h.symm, fun h => e2 h.symm, ho⟩)
  have hO : ∀ g, Own (β.put j q) ((j, .row e t xs2) :: (b, .dead) :: σ.H) g → (∃ cap, q = some (g, cap)) ∨ ∃ o ob cap, o ≠ b ∧ look σ.H o = some ob ∧ live ob = true ∧ β o = some (g, cap) := by
    rintro g ⟨o, ob, cap, ho, hl, hbo⟩
    rcases hlook o ob ho with ⟨rfl, rfl⟩ | ⟨rfl, rfl⟩ | ⟨h1, h2, h3⟩
    · rw [put_same] at hbo; exact .inl ⟨cap, hbo⟩
    · simp [live] at hl
    · rw [put_other h1] at hbo; exact .inr ⟨o, ob, cap, h2, h3, hl, hbo⟩
  have hblk : ∀ g, g < w.heap.size → ¬ (∃ cap, β b = some (g, cap)) → w'.heap[g]? = w.heap[g]? := by
    intro g hg hne
    refine hgr.block g hg fun e' => hne ?_
    cases hbb : β b with
    | none => rw [hbb] at e'; simp at e'
    | some p => rw [hbb] at e'; simp at e'; exact ⟨p.2, by rw [e']⟩
  have hk : ∀ g, g < w.heap.size → ¬ Own β σ.H g → ¬ Own (β.put j q) ((j, .row e t xs2) :: (b, .dead) :: σ.H) g ∧ w'.heap[g]? = w.heap[g]? := by
    intro g hg hn
    refine ⟨fun ho => ?_, hblk g hg fun ⟨cap, hc⟩ => hn ⟨b, _, cap, hb, rfl, hc⟩⟩
    rcases hO g ho with ⟨cap, hc⟩ | ⟨o, ob, cap, _, h1, h2, h3⟩
    · rcases (hq g cap hc).1 with ⟨cap0, h0⟩ | h0
      · exact hn ⟨b, _, cap0, hb, rfl, h0⟩
      · omega
    · exact hn ⟨o, ob, cap, h1, h2, h3⟩
  have hn : ∀ o ob, look σ.H o = some ob → Step w' (RO Z (β.put j q) ((j, .row e t xs2) :: (b, .dead) :: σ.H)) (β o) ob ((β.put j q) o) (look ((j, .row e t xs2) :: (b, .dead) :: σ.H) o) := by
    intro o ob ho
    have e1 : j ≠ o := fun e' => by subst e'; rw [hj'] at ho; cases ho
    rw [look_cons, if_neg e1, look_cons, put_other (fun h => e1 h.symm)]
    by_cases e2 : b = o
    · rw [if_pos e2]; trivial
    · rw [if_neg e2, ho]; exact step_self
  have hbel : Kept M w0 w' := by
    refine h.below.step hgr.os hgr.tape hgr.output hgr.size fun g hg => ?_
    have hg' := Nat.lt_of_lt_of_le hg h.below.size
    by_cases hgb : ∃ cap, β b = some (g, cap)
    · rcases htu g hg' with e' | ⟨c, c', e', fz, h1, h2, h3⟩
      · exact .inl e'
      · obtain ⟨cap, hc⟩ := hgb
        have hmay := (h.own b _ g cap hb rfl hc).1
        exact .inr ⟨c, c', e', fz, h1, h2, h3, fun i hi => absurd (hmay i) hi⟩
    · exact .inl (hblk g hg' hgb)
  refine h.move (H' := (j, .row e t xs2) :: (b, .dead) :: σ.H) hbel (fun o q ho hs _ => ⟨by rw [put_other (fun e => by subst e; rw [hj'] at hs; cases hs)]; exact ho, some_cons (some_cons hs)⟩) hk hn ?_ ?_ ?_
  · intro o ob g cap ho hl hbo
    rcases hlook o ob ho with ⟨rfl, rfl⟩ | ⟨rfl, rfl⟩ | ⟨h1, h2, h3⟩
    · rw [put_same] at hbo
      refine ⟨?_, (hq g cap hbo).2⟩
      rcases (hq g cap hbo).1 with ⟨cap0, h0⟩ | h0
      · exact (h.own b _ g cap0 hb rfl h0).1
      · exact mayW_fresh h.fresh (Nat.le_trans h.below.size h0)
    · simp [live] at hl
    · rw [put_other h1] at hbo
      have := h.own o ob g cap h3 hl hbo
      have := hgr.size
      exact ⟨(h.own o ob g cap h3 hl hbo).1, by omega⟩
  · intro o1 o2 ob1 ob2 g c1 c2 h1 l1 h2 l2 b1 b2
    have other : ∀ o ob c c', o ≠ b → look σ.H o = some ob → live ob = true → β o = some (g, c) → q = some (g, c') → False := by
      intro o ob c c' hne ho hl hbo hqq
      rcases (hq g c' hqq).1 with ⟨cap0, h0⟩ | h0
      · exact hne (h.inj o b _ _ g c cap0 ho hl hb rfl hbo h0)
      · have := (h.own o ob g c ho hl hbo).2; omega
    rcases hlook o1 ob1 h1 with ⟨rfl, rfl⟩ | ⟨rfl, rfl⟩ | ⟨p1, p2, p3⟩
    · rcases hlook o2 ob2 h2 with ⟨rfl, rfl⟩ | ⟨rfl, rfl⟩ | ⟨r1, r2, r3⟩
      · rfl
      · simp [live] at l2
      · rw [put_same] at b1; rw [put_other r1] at b2
        exact (other o2 ob2 c2 c1 r2 r3 l2 b2 b1).elim
    · simp [live] at l1
    · rcases hlook o2 ob2 h2 with ⟨rfl, rfl⟩ | ⟨rfl, rfl⟩ | ⟨r1, r2, r3⟩
      · rw [put_same] at b2; rw [put_other p1] at b1
        exact (other o1 ob1 c1 c2 p2 p3 l1 b1 b2).elim
      · simp [live] at l2
      · rw [put_other p1] at b1; rw [put_other r1] at b2
        exact h.inj o1 o2 ob1 ob2 g c1 c2 p3 l1 r3 l2 b1 b2
  · intro o ob ho
    rcases hlook o ob ho with ⟨rfl, rfl⟩ | ⟨rfl, rfl⟩ | ⟨h1, h2, h3⟩
    · rw [put_same]; exact hobj _ _ _ (fun t x cs => Rp_keep (RO_step hk))
    · trivial
    · rw [put_other h1]
      refine OR_step (RO_step hk) hk hn (fun g cap hbo hl => ?_) (h.obj o ob h3)
      refine hblk g (h.own o ob g cap h3 hl hbo).2 fun ⟨cap0, h0⟩ => h2 (h.inj o b _ _ g cap cap0 h3 hl hb rfl hbo h0)

end ops
end Go.Proofs.Yteddlkdbefloaaa.S
