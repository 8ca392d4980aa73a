/- Soundness of the machinery S, operation by operation, the second part: loads, stores, arithmetic, places. -/
import Derived.Test.YteddlkdbefloaaaSe
import Derived.Laws.CopyRow
import Derived.Laws.Slices
namespace Go.Proofs.Yteddlkdbefloaaa.S
open Go Go.RowKit
set_option linter.unusedVariables false
set_option linter.unusedSimpArgs false

section ops
variable {P : Program} {T : Tab} {G : Env} {Z : Nat → Prop} {M : Nat → Nat → Prop} {N : Nat → Option (Option (Nat × Nat))} {w0 w w' : World} {β : Names} {σ : St} {a : Act} {o : Oper} {next : Act → World → Prop} {Q : Exit → Act → World → Prop} {v : Value}
variable {R : Type} {K : St → Option R} {y : R} {S : Nat → Prop} {H : Heap} {qo : Out}

/-- What the lemma of an operation that writes asks. -/
def GoOn (Z : Nat → Prop) (M : Nat → Nat → Prop) (N : Nat → Option (Option (Nat × Nat))) (w0 : World) (σ : St) (K : St → Option R) (y : R) (next : Act → World → Prop) : Prop := ∀ σ', K σ' = some y → σ'.nt = σ.nt → ∀ a' w', Rep Z M N w0 σ' a' w' → next a' w'

theorem sets_nt (σ : St) (i : Option Nat) (x : SV) : (σ.sets i x).nt = σ.nt := by cases i <;> rfl

theorem VS_VV {x : S1} (h : VS w S β H x v) : VV w S β H (.s x) v := by
  by_cases hd : ∃ t z, x = .d t z
  · obtain ⟨t, z, rfl⟩ := hd
    exact (VV_d h.1).2 h.2
  · exact (VV_s (fun t z e => hd ⟨t, z, e⟩)).2 h

theorem sz_one {t : Ty} (h : isAg t = false) : sz t = 1 := by cases t <;> first | rfl | (simp [isAg] at h)

theorem Val_load {t : Ty} {vs : List Value} (h : vs.length = sz t) : Val t (if isAg t then .agg vs.toArray else vs.headD undef) vs := by
  unfold Val
  by_cases ha : isAg t = true
  · simp [ha]
  · simp only [Bool.not_eq_true] at ha
    have h1 := sz_one ha
    rw [h1] at h
    match vs, h with
    | [u], _ => simp [ha]

theorem VV_p {b off : Nat} (h : VV w S β H (.s (.p b off)) v) {cs : List S1} (hb : look H b = some (.box cs)) : ∃ g base, β b = some (g, base) ∧ v = .pointer (some ⟨g, base + off, none⟩) := by
  have := (VV_s (by intros; simp)).1 h
  simpa [VS, hb] using this
theorem VV_pe {b i off : Nat} (h : VV w S β H (.s (.pe b i off)) v) {e : TypeId} {t : Ty} {xs : List (den t)} (hb : look H b = some (.row e t xs)) :
    i < xs.length ∧ ∃ g cap, β b = some (g, cap) ∧ v = .pointer (some ⟨g, i * sz t + off, none⟩) := by
  have := (VV_s (by intros; simp)).1 h
  simpa [VS, hb] using this
theorem VV_pd {t : Ty} {x : den t} (h : VV w S β H (.s (.pd t x)) v) : ∃ b off cs, v = .pointer (some ⟨b, off, none⟩) ∧ ¬ Own β H b ∧ Rp w S t x cs ∧ At w b off cs := by
  have := (VV_s (by intros; simp)).1 h
  exact this

/-- What is read of a box. -/
theorem load_box {c : Array Value} {cs : List S1} {base : Nat} (hb : base + cs.length ≤ c.size) (hall : All2 (fun x v => VS w S β H x v ∧ v.oneCell' = true) cs ((c.toList.drop base).take cs.length)) {off n : Nat} (hn : off + n ≤ cs.length) :
    ((c.toList.drop (base + off)).take n).length = n ∧ (∀ k, k < ((c.toList.drop (base + off)).take n).length → c[base + off + k]? = ((c.toList.drop (base + off)).take n)[k]?) ∧
      All2 (VS w S β H) ((cs.drop off).take n) ((c.toList.drop (base + off)).take n) := by
  refine ⟨by rw [List.length_take, List.length_drop]; simp; omega, ?_, ?_⟩
  · intro k hk
    rw [List.length_take, List.length_drop] at hk
    rw [List.getElem?_take, if_pos (by omega), List.getElem?_drop]
    simp
  · have := ((hall.mono fun _ _ h => h.1).drop off).take n
    rw [List.drop_take, List.drop_drop, List.take_take, Nat.min_eq_left (by omega)] at this
    exact this

theorem splice {α : Type} (l vs : List α) {base L off : Nat} (h1 : base + L ≤ l.length) (h2 : off + vs.length ≤ L) :
    ((l.take (base + off) ++ vs ++ l.drop (base + off + vs.length)).drop base).take L = ((l.drop base).take L).take off ++ vs ++ ((l.drop base).take L).drop (off + vs.length) := by
  rw [List.append_assoc, List.drop_append, List.drop_take, List.length_take]
  have e1 : base + off - base = off := by omega
  have e2 : base - min (base + off) l.length = 0 := by omega
  rw [e1, e2, List.drop_zero, List.take_append, List.take_append, List.take_take, List.take_take, List.length_take, List.length_drop, List.drop_take, List.drop_drop, List.append_assoc]
  have e3 : min off (l.length - base) = off := by omega
  have e4 : min L off = off := by omega
  have e5 : min off L = off := by omega
  rw [e3, e4, e5, List.take_of_length_le (l := vs) (by omega)]
  have e6 : L - off - vs.length = L - (off + vs.length) := by omega
  have e7 : base + off + vs.length = base + (off + vs.length) := by omega
  rw [e6, e7]

theorem op_load (hT : tabOk P T = true) (hrep : RepB Z M N w0 β σ a w) (hd : dstOk o.dst σ.nt = true) (hg : GoP Z M N w0 σ o qo next) {t : TypeId} {x : Operand} (ho : o.op = .load t x)
    (h : pureR T o σ = some qo) : o.wp P a w next Q := by
  unfold pureR pureC at h
  rw [ho] at h
  simp only at h
  have run : ∀ g off u, a.eval x = .pointer (some ⟨g, off, none⟩) → (loadVar t ⟨g, off, none⟩).run P w = .ok u w → (execOp a.eval o).run P w = .ok (.value u) w := by
    intro g off u he hl
    unfold execOp
    rw [ho]
    simp [Instr.loadAt, Instr.sureAddr, he, hl]
  split at h
  · rename_i r b off hr hx
    obtain ⟨i, d, z, hrow⟩ := tab_row hT hr
    split at h
    · rename_i cs hb
      split at h
      · rename_i hlen
        obtain ⟨g, cap, hg1, hv⟩ := VV_p (ev_sound hrep hx) hb
        obtain ⟨g', cap', c, e, hq, hh, hbase, hall⟩ := hrep.obj b _ hb
        rw [hg1] at hq
        simp only [Option.some.injEq, Prod.mk.injEq] at hq
        obtain ⟨rfl, rfl⟩ := hq
        obtain ⟨hl1, hl2, hl3⟩ := load_box hbase hall hlen
        have hrun := run g _ _ hv (run_loadVar hrow hh hl1 hl2)
        split at h
        · rename_i ha
          rw [if_pos ha] at hrun
          obtain rfl := val1_some h
          exact wp_val hrun (hg _ _ ⟨β, hrep.val hd ⟨_, rfl, hl3⟩⟩)
        · rename_i ha
          rw [if_neg ha] at hrun
          split at h
          · rename_i c1 hc1
            obtain ⟨u, hu, hvs⟩ := hall.get hc1
            have h1 := sz_one (by simpa using ha)
            have hu' : ((c.toList.drop (cap + off)).take (sz r.ty)).headD undef = u := by
              rw [h1]
              rw [List.getElem?_take] at hu
              split at hu
              · rw [List.getElem?_drop] at hu
                have : c.toList.drop (cap + off) = u :: c.toList.drop (cap + off + 1) := by
                  obtain ⟨hlt, he⟩ := List.getElem?_eq_some_iff.1 hu
                  rw [List.drop_eq_getElem_cons hlt, he]
                rw [this]; rfl
              · cases hu
            rw [hu'] at hrun
            obtain rfl := val1_some h
            exact wp_val hrun (hg _ _ ⟨β, hrep.val hd (VS_VV hvs.1)⟩)
          · cases h
      · cases h
    · cases h
  · rename_i r b k off hr hx
    obtain ⟨i, d, z, hrow⟩ := tab_row hT hr
    split at h
    · rename_i e u xs hb
      obtain ⟨x1, hx1, h⟩ := Option.bind_eq_some_iff.1 h
      obtain ⟨x2, hx2, h⟩ := Option.bind_eq_some_iff.1 h
      obtain ⟨hk, g, cap, hg1, hv⟩ := VV_pe (ev_sound hrep hx) hb
      rcases hrep.obj b _ hb with ⟨hq, _⟩ | ⟨g', cap', c, rows, hq, hh, hs, hl, hmx, hrows, hi⟩
      · rw [hg1] at hq; cases hq
      rw [hg1] at hq
      simp only [Option.some.injEq, Prod.mk.injEq] at hq
      obtain ⟨rfl, rfl⟩ := hq
      obtain ⟨row, hr1, hr2⟩ := RpL_get (fun _ _ => Rp_len) hrows hx1
      obtain ⟨p, m, q, rfl, hp, hm⟩ := sub_sound hx2 hr1
      have hml := Rp_len hm
      have hrl := Rp_len hr1
      simp only [List.length_append] at hrl
      have hrowsl := RpL_len (fun _ _ => Rp_len) hrows
      have hle : k * sz u + sz u ≤ rows.length := by
        rw [hrowsl]
        have : (k + 1) * sz u ≤ xs.length * sz u := Nat.mul_le_mul_right _ hk
        rw [Nat.add_mul] at this; omega
      have hrun := run g _ _ hv (run_loadVar hrow hh hml (fun j hj => by
        have := hr2 (off + j) (by omega)
        rw [Nat.add_assoc, hi _ (by omega), this, List.append_assoc, List.getElem?_append_right (by omega), hp, Nat.add_sub_cancel_left, List.getElem?_append_left hj]))
      obtain rfl := val1_some h
      exact wp_val hrun (hg _ _ ⟨β, hrep.val hd ⟨m, Val_load hml, hm⟩⟩)
    · cases h
  · rename_i r u x1 hr hx
    obtain ⟨i, d, z, hrow⟩ := tab_row hT hr
    obtain ⟨x2, hx2, h⟩ := Option.bind_eq_some_iff.1 h
    obtain ⟨g, off, cs, hv, hS, hr1, c, e, fz, hh, hi⟩ := VV_pd (ev_sound hrep hx)
    obtain ⟨p, m, q, rfl, hp, hm⟩ := sub_sound hx2 hr1
    have hp' : p = [] := List.eq_nil_of_length_eq_zero hp
    subst hp'
    have hml := Rp_len hm
    have hrun := run g _ _ hv (run_loadVar hrow hh hml (fun j hj => by
      rw [hi _ (by simp; omega), List.nil_append, List.getElem?_append_left hj]))
    obtain rfl := val1_some h
    exact wp_val hrun (hg _ _ ⟨β, hrep.val hd ⟨m, Val_load hml, hm⟩⟩)
  · cases h

theorem replC_all {α β : Type} {R : α → β → Prop} {cs ys : List α} {vs us : List β} {off : Nat} (h : All2 R cs vs) (h' : All2 R ys us) :
    All2 R (cs.take off ++ ys ++ cs.drop (off + ys.length)) (vs.take off ++ us ++ vs.drop (off + us.length)) := by
  rw [h'.len]
  exact ((h.take off).append h').append (h.drop _)

theorem RpL_set {α : Type} {R : α → List Value → Prop} {n : Nat} (h : ∀ x r, R x r → r.length = n) : ∀ {xs : List α} {rows} {i : Nat} {x : α} {r : List Value}, RpL R xs rows → i < xs.length → R x r →
    RpL R (xs.set i x) (rows.take (i * n) ++ r ++ rows.drop (i * n + n))
  | [], _, i, _, _, _, hi, _ => by simp at hi
  | y :: ys, _, 0, x, r, ⟨r0, rs, e, hx, hr⟩, hi, hxr => by
    subst e
    have hl := h _ _ hx
    refine ⟨r, rs, ?_, hxr, hr⟩
    rw [Nat.zero_mul, List.take_zero, List.nil_append, Nat.zero_add, List.drop_append, List.drop_of_length_le (by omega), hl, Nat.sub_self]
    simp
  | y :: ys, _, i + 1, x, r, ⟨r0, rs, e, hx, hr⟩, hi, hxr => by
    subst e
    have hl := h _ _ hx
    have ih := RpL_set h (i := i) hr (by simpa using hi) hxr
    refine ⟨r0, rs.take (i * n) ++ r ++ rs.drop (i * n + n), ?_, hx, ih⟩
    have e1 : (i + 1) * n = r0.length + i * n := by rw [Nat.add_mul]; omega
    have e2 : r0.length + i * n + n = r0.length + (i * n + n) := by omega
    rw [e1, e2, List.take_append, List.drop_append]
    have e3 : r0.take (r0.length + i * n) = r0 := List.take_of_length_le (by omega)
    have e4 : r0.drop (r0.length + (i * n + n)) = [] := List.drop_of_length_le (by omega)
    rw [e3, e4, Nat.add_sub_cancel_left, Nat.add_sub_cancel_left]
    simp [List.append_assoc]

theorem All2.right {α β : Type} {R : α → β → Prop} {p : β → Prop} (h : ∀ a b, R a b → p b) : ∀ {as : List α} {bs : List β}, All2 R as bs → ∀ b ∈ bs, p b
  | _, _, .nil, b, hb => by simp at hb
  | _, _, .cons h1 hr, b, hb => by
    rcases List.mem_cons.1 hb with rfl | hb
    · exact h _ _ h1
    · exact hr.right h b hb

theorem run_storeVar {t : TypeId} {r : Row} {i : TypeInfo} {d : TypeDesc} {z : Value} (hrow : RowOk P T t r i d z) {g off : Nat} {c : Array Value} {e : TypeId} (hh : w.heap[g]? = some (.cells c e (0, 0)))
    {u : Value} {vs : List Value} (hu : u.cells = vs.toArray) (hl : vs.length = sz r.ty) (hfit : off + vs.length ≤ c.size) (h1 : ∀ v ∈ vs, v.oneCell' = true) :
    (storeVar t ⟨g, off, none⟩ u).run P w = .ok () (w.setRow g (c.toList.take off ++ vs ++ c.toList.drop (off + vs.length)).toArray) := by
  have hs := run_storeCells_at P g off e vs 0 c w hh (by omega) h1
  simp only [Nat.add_zero] at hs
  simp [storeVar, hu, hrow.run_size, hl, hs]

theorem kept_row (hk : Kept M w0 w) {g : Nat} {c : Array Value} {e : TypeId} {fz : Nat × Nat} (hh : w.heap[g]? = some (.cells c e fz)) {cs : Array Value} (hsz : cs.size = c.size) (hM : ∀ i, ¬ M g i → cs[i]? = c[i]?) :
    Kept M w0 (w.setRow g cs) :=
  hk.step rfl rfl rfl (by simp) fun b hb => by
    by_cases e' : b = g
    · subst e'; exact .inr ⟨c, cs, e, fz, hh, setRow_heap w b c cs e fz hh, hsz, hM⟩
    · exact .inl (setRow_other w g b cs e')

theorem VV_any : VV w S β H (.s .any) v := trivial

theorem op_store {nm : Nat} (hT : tabOk P T = true) (hrep : RepB Z M N w0 β σ a w) (hd : dstOk o.dst σ.nt = true) (hg : GoOn Z M N w0 σ K y next) {t : TypeId} {x x' : Operand} (ho : o.op = .store t x x')
    (h : opR T G nm o σ K = some y) : o.wp P a w next Q := by
  unfold opR at h
  rw [ho] at h
  simp only at h
  have run : ∀ g off w', a.eval x = .pointer (some ⟨g, off, none⟩) → (storeVar t ⟨g, off, none⟩ (a.eval x')).run P w = .ok () w' → (execOp a.eval o).run P w = .ok .skip w' := by
    intro g off w' he hl
    unfold execOp
    rw [ho]
    simp [Instr.storeAt, Instr.sureAddr, he, hl]
  split at h
  · rename_i r b off u hr hx hx'
    obtain ⟨i, d, z, hrow⟩ := tab_row hT hr
    split at h
    · rename_i cs hb
      split at h
      · rename_i hcond
        obtain ⟨hlen, hfit, hk⟩ := hcond
        obtain ⟨g, cap, hg1, hv⟩ := VV_p (ev_sound hrep hx) hb
        obtain ⟨vs, hvs, hall'⟩ := cells_sound (ev_sound hrep hx') hk
        obtain ⟨g', cap', c, e, hq, hh, hbase, hall⟩ := hrep.obj b _ hb
        rw [hg1] at hq
        simp only [Option.some.injEq, Prod.mk.injEq] at hq
        obtain ⟨rfl, rfl⟩ := hq
        have hl' := hall'.len
        have hmay := (hrep.own b _ g cap hb rfl hg1).1
        have hrun := run g _ _ hv (run_storeVar hrow hh hvs (by omega) (by omega) (hall'.right fun _ _ h => h.2))
        refine wp_skip' hrun (hg _ h (sets_nt ..) _ _ ⟨β, ?_⟩)
        refine RepB.sets ?_ hd VV_any
        have hrl : (replC cs off (cellsOf u)).length = cs.length := by simp [replC]; omega
        refine hrep.turn hb rfl rfl hg1 (fun _ => ⟨⟨cs, rfl⟩, rfl⟩) (fun i hi => hmay i (by omega)) (kept_row hrep.below hh (by simp; omega) ?_) (by simp) (fun b' hb' => setRow_other w g b' _ hb') ?_
        · intro j hj
          have hcl : c.toList.length = c.size := Array.length_toList
          have hj' : ¬ (cap ≤ j ∧ j < cap + cs.length) := fun hc => hj (by have := hmay (j - cap) (by omega); rwa [Nat.add_sub_cancel' hc.1] at this)
          have hj2 : j < cap ∨ cap + cs.length ≤ j := by omega
          simp only [List.getElem?_toArray, List.append_assoc]
          by_cases h1 : j < cap + off
          · rw [List.getElem?_append_left (by simp; omega), List.getElem?_take, if_pos h1, Array.getElem?_toList]
          · rw [List.getElem?_append_right (by simp; omega), List.length_take, Array.length_toList, Nat.min_eq_left (by omega), List.getElem?_append_right (by omega), List.getElem?_drop, Array.getElem?_toList]
            congr 1; simp only [List.size_toArray]; omega
        · intro S' H' hs _
          refine ⟨g, cap, _, e, hg1, setRow_heap w g c _ e (0, 0) hh, by rw [hrl]; simp; omega, ?_⟩
          rw [hrl, List.toList_toArray, splice _ _ (by simpa using hbase) (by omega)]
          exact (replC_all hall hall').mono fun x v hx => ⟨hs x v hx.1, hx.2⟩
      · cases h
    · cases h
  · rename_i r b k off u hr hx hx'
    obtain ⟨i, d, z, hrow⟩ := tab_row hT hr
    split at h
    · rename_i x1 H' htake
      split at h
      · rename_i e u2 xs hb
        obtain ⟨x2, hx2, h2⟩ := Option.bind_eq_some_iff.1 h
        obtain ⟨x3, hx3, h3⟩ := Option.bind_eq_some_iff.1 h2
        clear h h2
        unfold takeD at htake
        split at htake
        · rename_i x1' hD
          simp only [Option.some.injEq, Prod.mk.injEq] at htake
          obtain ⟨rfl, rfl⟩ := htake
          have hrep' := hrep.frz (rowsOf σ.H u)
          obtain ⟨hk, g, cap, hg1, hv⟩ := VV_pe (ev_sound hrep' (σ := { σ with H := frz σ.H (rowsOf σ.H u) }) (x := x) (y := .s (.pe b k off)) (by rw [← hx]; cases x <;> rfl)) hb
          obtain ⟨ms, hms, hrm⟩ := toD_sound (own := false) hrep'.owns (fun t x cs h => h) (by simp) (ev_sound hrep' (σ := { σ with H := frz σ.H (rowsOf σ.H u) }) (x := x') (y := u) (by rw [← hx']; cases x' <;> rfl)) hD
          rcases hrep'.obj b _ hb with ⟨hq, _⟩ | ⟨g', cap', c, rows, hq, hh, hs, hl, hmx, hrows, hi⟩
          · rw [hg1] at hq; cases hq
          rw [hg1] at hq
          simp only [Option.some.injEq, Prod.mk.injEq] at hq
          obtain ⟨rfl, rfl⟩ := hq
          obtain ⟨row, hr1, hr2⟩ := RpL_get (fun _ _ => Rp_len) hrows hx2
          obtain ⟨hul, hur⟩ := upd_sound hx3 hr1 hrm
          have hml := Rp_len hrm
          have hrl := Rp_len hr1
          have hrowsl := RpL_len (fun _ _ => Rp_len) hrows
          have hle : k * sz u2 + sz u2 ≤ rows.length := by
            rw [hrowsl]
            have : (k + 1) * sz u2 ≤ xs.length * sz u2 := Nat.mul_le_mul_right _ hk
            rw [Nat.add_mul] at this; omega
          have hcap : rows.length ≤ c.size := by rw [hrowsl, hs]; exact Nat.mul_le_mul_right _ hl
          have hmay := (hrep'.own b _ g cap hb rfl hg1).1
          have hrun := run g _ _ hv (run_storeVar hrow hh (Val_cells hms (Rp_cell hrm)) (by omega) (by omega) (Rp_cell hrm))
          refine wp_skip' hrun (hg _ h3 (sets_nt ..) _ _ ⟨β, ?_⟩)
          refine RepB.sets ?_ hd VV_any
          refine hrep'.turn (σ := { σ with H := frz σ.H (rowsOf σ.H u) }) hb rfl rfl hg1 (fun _ => ⟨xs, rfl, by simp, rfl⟩) hmay (kept_row hrep'.below hh (by simp; omega) (fun i hi => absurd (hmay i) hi)) (by simp) (fun b' hb' => setRow_other w g b' _ hb') ?_
          intro S' H' _ hm
          refine .inr ⟨g, cap, _, rows.take (k * sz u2) ++ (row.take off ++ ms ++ row.drop (off + ms.length)) ++ rows.drop (k * sz u2 + sz u2), hg1, setRow_heap w g c _ e (0, 0) hh, ?_, by simpa using hl, hmx, ?_, ?_⟩
          · simp only [List.size_toArray, List.length_append, List.length_take, List.length_drop, Array.length_toList]
            rw [← hs]; omega
          · exact RpL_set (fun _ _ => Rp_len) (RpL_mono (fun _ _ => hm _ _ _) hrows) hk (hm _ _ _ hur)
          · intro j hj
            simp only [List.length_append, List.length_take, List.length_drop] at hj
            simp only [List.getElem?_toArray]
            have hcj : ∀ j, j < rows.length → c.toList[j]? = rows[j]? := fun j hj => by rw [Array.getElem?_toList]; exact hi j hj
            by_cases h1 : j < k * sz u2 + off
            · by_cases h2 : j < k * sz u2
              · rw [List.append_assoc, List.getElem?_append_left (by simp; omega), List.append_assoc, List.getElem?_append_left (by simp; omega), List.getElem?_take, if_pos h1, List.getElem?_take, if_pos h2, hcj j (by omega)]
              · rw [List.append_assoc, List.getElem?_append_left (by simp; omega), List.append_assoc, List.getElem?_append_right (by simp; omega)]
                rw [List.length_take, Nat.min_eq_left (by omega), List.getElem?_append_left (by simp; omega), List.append_assoc, List.getElem?_append_left (by simp; omega), List.getElem?_take, if_pos h1, List.getElem?_take, if_pos (by omega), ← hr2 _ (by omega), hcj j (by omega)]
                congr 1; omega
            · by_cases h2 : j < k * sz u2 + off + ms.length
              · rw [List.getElem?_append_left (by simp; omega), List.getElem?_append_right (by simp; omega), List.append_assoc, List.getElem?_append_right (by simp; omega)]
                rw [List.length_take, List.length_take, Array.length_toList, Nat.min_eq_left (by omega), Nat.min_eq_left (by omega), List.getElem?_append_left (by simp; omega), List.getElem?_append_left (by simp; omega), List.getElem?_append_right (by simp; omega)]
                rw [List.length_take, Nat.min_eq_left (by omega)]
                congr 1; omega
              · rw [List.getElem?_append_right (by simp; omega)]
                have el : (c.toList.take (k * sz u2 + off) ++ ms).length = k * sz u2 + off + ms.length := by simp; omega
                rw [el, List.getElem?_drop]
                by_cases h3 : j < k * sz u2 + sz u2
                · rw [List.append_assoc, List.getElem?_append_right (by simp; omega), List.length_take, Nat.min_eq_left (by omega), List.getElem?_append_left (by simp; omega), List.getElem?_append_right (by simp; omega)]
                  have el2 : (row.take off ++ ms).length = off + ms.length := by simp; omega
                  rw [el2, List.getElem?_drop, hcj _ (by omega), ← hr2 _ (by omega)]
                  congr 1; omega
                · rw [List.getElem?_append_right (by simp; omega)]
                  have el2 : (rows.take (k * sz u2) ++ (row.take off ++ ms ++ row.drop (off + ms.length))).length = k * sz u2 + sz u2 := by simp; omega
                  rw [el2, List.getElem?_drop, hcj _ (by omega)]
                  congr 1; omega
        · cases htake
      · cases h
    · cases h
  · cases h

end ops
end Go.Proofs.Yteddlkdbefloaaa.S
