/- Soundness of the machinery S, operation by operation, the fourth part: what is built, cut and indexed. -/
import Derived.Test.YteddlkdbefloaaaSg
namespace Go.Proofs.Yteddlkdbefloaaa.S
open Go Go.RowKit
set_option linter.unusedVariables false
set_option linter.unusedSimpArgs false

section ops
variable {P : Program} {T : Tab} {G : Env} {Z : Nat → Prop} {M : Nat → Nat → Prop} {N : Nat → Option (Option (Nat × Nat))} {w0 w w' : World} {β : Names} {σ : St} {a : Act} {o : Oper} {next : Act → World → Prop} {Q : Exit → Act → World → Prop} {v : Value}
variable {R : Type} {K : St → Option R} {y : R} {S : Nat → Prop} {H : Heap} {qo : Out}

theorem op_field (hT : tabOk P T = true) (hrep : RepB Z M N w0 β σ a w) (hd : dstOk o.dst σ.nt = true) (hg : GoP Z M N w0 σ o qo next) {t : TypeId} {x : Operand} {k : Nat} (ho : o.op = .field t x k)
    (h : pureR T o σ = some qo) : o.wp P a w next Q := by
  unfold pureR pureC at h
  rw [ho] at h
  simp only at h
  split at h
  · rename_i r hr
    obtain ⟨i, d, z, hrow⟩ := tab_row hT hr
    split at h
    · cases h
    · rename_i hag
      obtain ⟨fs, rfl, hfs⟩ := hrow.fields (by simpa using hag)
      split at h
      · rename_i off u hf
        obtain ⟨f, hf1, hf2, hf3⟩ := field_at hfs hf
        have run : ∀ (q : Row) (cs : List Value), look T u = some q → a.eval x = .agg cs.toArray → ∀ m : List Value, m.length = sz q.ty → off + m.length ≤ cs.length → (∀ j, j < m.length → cs[off + j]? = m[j]?) →
            (execOp a.eval o).run P w = .ok (.value (if isAg q.ty then .agg m.toArray else m.headD undef)) w := by
          intro q cs hq he m hm hle hj
          obtain ⟨i2, d2, z2, hrow2⟩ := tab_row hT hq
          have hext : (cs.drop off).take m.length = m := by
            apply List.ext_getElem?
            intro j
            rw [List.getElem?_take]
            by_cases hjl : j < m.length
            · rw [if_pos hjl, List.getElem?_drop]; exact hj j hjl
            · rw [if_neg hjl, List.getElem?_eq_none (by omega)]
          unfold execOp
          rw [ho]
          subst hf2 hf3
          by_cases ha2 : isAg q.ty = true
          · simp [Instr.field, run_underlying hrow.under, hf1, he, asAgg, part, hrow2.run_isAgg, hrow2.run_size, ha2, ← hm, hext]
          · simp only [Bool.not_eq_true] at ha2
            have h1 := sz_one ha2
            match m, hm, hj with
            | [], hm, _ => simp [h1] at hm
            | m0 :: ms, hm, hj =>
              have := hj 0 (by simp)
              simp only [Nat.add_zero, List.getElem?_cons_zero] at this
              simp [Instr.field, run_underlying hrow.under, hf1, he, asAgg, part, hrow2.run_isAgg, ha2, this]
        split at h
        · rename_i q cs hq hx
          split at h
          · rename_i hle
            obtain ⟨vs, e, hall⟩ := ev_sound hrep hx
            have hl := hall.len
            have hrun := run q vs hq e ((vs.drop off).take (sz q.ty)) (by rw [List.length_take, List.length_drop]; omega) (by rw [List.length_take, List.length_drop]; omega) (fun j hj => by
              rw [List.length_take, List.length_drop] at hj
              rw [List.getElem?_take, if_pos (by omega), List.getElem?_drop])
            split at h
            · rename_i ha
              obtain rfl := val1_some h
              rw [if_pos ha] at hrun
              exact wp_val hrun (hg _ _ ⟨β, hrep.val hd ⟨_, rfl, (hall.drop off).take _⟩⟩)
            · rename_i ha
              rw [if_neg ha] at hrun
              split at h
              · rename_i c1 hc1
                obtain rfl := val1_some h
                obtain ⟨v', hv', hvs⟩ := hall.get hc1
                have h1 := sz_one (by simpa using ha)
                have hu' : ((vs.drop off).take (sz q.ty)).headD undef = v' := by
                  rw [h1]
                  have : vs.drop off = v' :: vs.drop (off + 1) := by
                    obtain ⟨hlt, he⟩ := List.getElem?_eq_some_iff.1 hv'
                    rw [List.drop_eq_getElem_cons hlt, he]
                  rw [this]; rfl
                rw [hu'] at hrun
                exact wp_val hrun (hg _ _ ⟨β, hrep.val hd (VS_VV hvs)⟩)
              · cases h
          · cases h
        · rename_i q u0 y0 hq hx
          split at h
          · rename_i ha0
            obtain ⟨y1, hy1, h⟩ := Option.bind_eq_some_iff.1 h
            obtain rfl := val1_some h
            obtain ⟨cs, hv, hr1⟩ := ev_sound hrep hx
            have hv' : a.eval x = .agg cs.toArray := by simpa [Val, ha0] using hv
            obtain ⟨p, m, q', rfl, hp, hm⟩ := sub_sound hy1 hr1
            have hrun := run q _ hq hv' m (Rp_len hm) (by simp; omega) (fun j hj => by
              rw [List.append_assoc, List.getElem?_append_right (by omega), hp, Nat.add_sub_cancel_left, List.getElem?_append_left hj])
            exact wp_val hrun (hg _ _ ⟨β, hrep.val hd ⟨m, Val_load (Rp_len hm), hm⟩⟩)
          · cases h
        · cases h
      · cases h
  · cases h

theorem op_indexAddr (hT : tabOk P T = true) (hrep : RepB Z M N w0 β σ a w) (hd : dstOk o.dst σ.nt = true) (hg : GoP Z M N w0 σ o qo next) {t : TypeId} {x z : Operand} (ho : o.op = .indexAddr t x z)
    (h : pureR T o σ = some qo) : o.wp P a w next Q := by
  unfold pureR pureC at h
  rw [ho] at h
  simp only [ite2] at h
  have run : ∀ (r : Row) (u : Ty) A n cap k i, look T t = some r → r.ty = .slice u → a.eval x = .slice (some A) n cap → a.eval z = .int k i → 0 ≤ i → i < n →
      (execOp a.eval o).run P w = .ok (.value (.pointer (some (A.add (i.toNat * sz u))))) w := by
    intro r u A n cap k i hr hu hx hz h0 hn
    obtain ⟨i1, d, z1, hrow⟩ := tab_row hT hr
    obtain ⟨rfl, q, hq, hqu, _⟩ := hrow.slice hu
    obtain ⟨i2, d2, z2, hrow2⟩ := tab_row hT hq
    subst hqu
    unfold execOp
    rw [ho]
    simp [Instr.indexAt, hx, hz, asIntOf, run_underlying hrow.under, hrow2.run_size, h0, hn]
  have data : ∀ (r : Row) (u : Ty) (xs : List (den u)) k (i : Int) (x1 : den u), look T t = some r → r.ty = .slice u → Rp w (RO Z β σ.H) (.slice u) xs [a.eval x] → a.eval z = .int k i → 0 ≤ i → xs[i.toNat]? = some x1 →
      qo = { x := .v (.s (.pd u x1)), n := [], fr := [] } → o.wp P a w next Q := by
    intro r u xs k i x1 hr hu hxs hz h0 hx1 hqo
    subst hqo
    obtain ⟨hlt, _⟩ := List.getElem?_eq_some_iff.1 hx1
    obtain ⟨A, cap, e, hcap, hA⟩ := hxs
    obtain ⟨b, off, rfl, hS, rows, hrows, c, e', fz, hh, hi⟩ := hA (by intro e; subst e; simp at hlt)
    have ex : a.eval x = .slice (some ⟨b, off, none⟩) xs.length cap := by simpa using e
    have hrun := run r u _ _ _ k i hr hu ex hz h0 (by omega)
    rw [add_mk] at hrun
    obtain ⟨row, hr1, hr2⟩ := RpL_get (fun _ _ => Rp_len) hrows hx1
    have hrl := Rp_len hr1
    have hrowsl := RpL_len (fun _ _ => Rp_len) hrows
    have hle : i.toNat * sz u + sz u ≤ rows.length := by
      rw [hrowsl]
      have : (i.toNat + 1) * sz u ≤ xs.length * sz u := Nat.mul_le_mul_right _ hlt
      rw [Nat.add_mul] at this; omega
    refine wp_val hrun (hg _ _ ⟨β, hrep.val hd (VS_VV ?_)⟩)
    refine ⟨b, off + i.toNat * sz u, row, rfl, hS.2, hr1, c, e', fz, hh, fun j hj => ?_⟩
    rw [Nat.add_assoc, hi _ (by omega), hr2 j (by omega)]
  split at h
  · rename_i r b k i hr hx hz
    have hvx := (VV_s (by intros; simp)).1 (ev_sound hrep hx)
    have hvz := VV_int (ev_sound hrep hz)
    split at h
    · rename_i e u xs hb
      split at h
      · rename_i hc
        obtain ⟨hu, h0, hn⟩ := hc
        obtain rfl := val1_some h
        simp only [VS, hb, RowV] at hvx
        split at hvx
        · rename_i hq
          have e0 : xs.length = 0 := hvx.2
          rw [e0] at hn
          exact absurd hn (Int.not_lt.2 h0)
        · rename_i g cap hq
          have hrun := run r u _ _ _ k i hr hu hvx hvz h0 hn
          rw [add_mk, Nat.zero_add] at hrun
          refine wp_val hrun (hg _ _ ⟨β, hrep.val hd (VS_VV ?_)⟩)
          simp only [VS, hb]
          exact ⟨(Int.toNat_lt h0).2 hn, g, cap, hq, by rw [Nat.add_zero]⟩
      · cases h
    · rename_i u xs hb
      split at h
      · rename_i hc
        obtain ⟨x1, hx1, h⟩ := Option.bind_eq_some_iff.1 h
        simp only [VS, hb] at hvx
        exact data r u xs k i x1 hr hc.1 hvx hvz hc.2 hx1 (val1_some h)
      · cases h
    · cases h
  · rename_i r u xs k i hr hx hz
    have hvx := (VV_d rfl).1 (ev_sound hrep hx)
    have hvz := VV_int (ev_sound hrep hz)
    split at h
    · rename_i hc
      obtain ⟨x1, hx1, h⟩ := Option.bind_eq_some_iff.1 h
      exact data r u xs k i x1 hr hc.1 hvx hvz hc.2 hx1 (val1_some h)
    · cases h
  · cases h

theorem op_index (hT : tabOk P T = true) (hrep : RepB Z M N w0 β σ a w) (hd : dstOk o.dst σ.nt = true) (hg : GoP Z M N w0 σ o qo next) {t : TypeId} {x z : Operand} (ho : o.op = .index t x z)
    (h : pureR T o σ = some qo) : o.wp P a w next Q := by
  unfold pureR pureC at h
  rw [ho] at h
  simp only [ite2] at h
  split at h
  · rename_i r s k i hr hx hz
    obtain ⟨i1, d, z1, hrow⟩ := tab_row hT hr
    split at h
    · rename_i hc
      obtain ⟨hty, h0⟩ := hc
      obtain ⟨c, hc, h⟩ := Option.bind_eq_some_iff.1 h
      obtain rfl := val1_some h
      have hdd := hrow.desc
      unfold descOk at hdd
      rw [hty] at hdd
      cases d <;> first | (simp at hdd; done) | skip
      have e1 := VV_str (ev_sound hrep hx)
      have e2 := VV_int (ev_sound hrep hz)
      have hc' : (⟨(s : List UInt8).toArray⟩ : ByteArray)[i.toNat]? = some c := by
        obtain ⟨hlt, he⟩ := List.getElem?_eq_some_iff.1 hc
        rw [getElem?_pos _ _ (by simpa [ByteArray.size] using hlt)]
        congr 1
      refine wp_val (v := .int .u8 c.toNat) (w' := w) ?_ (hg _ _ ⟨β, hrep.val hd (VS_VV ⟨rfl, rfl⟩)⟩)
      unfold execOp
      rw [ho]
      simp [Instr.index, e1, e2, asIntOf, run_underlying hrow.under, h0, hc']
    · cases h
  · cases h

theorem op_len (hT : tabOk P T = true) (hrep : RepB Z M N w0 β σ a w) (hd : dstOk o.dst σ.nt = true) (hg : GoP Z M N w0 σ o qo next) {c : Call} (ho : o.op = .call c) (hc : c.callee = .builtin .len)
    (h : pureR T o σ = some qo) : o.wp P a w next Q := by
  unfold pureR pureC at h
  rw [ho] at h
  simp only [hc] at h
  split at h
  · rename_i x t hargs htys
    have eargs : c.args = #[x] := by rw [← Array.toList_inj]; simpa using hargs
    have etys : c.argTypes = #[t] := by rw [← Array.toList_inj]; simpa using htys
    split at h
    · rename_i r z hr hx
      obtain ⟨n, hn, h⟩ := Option.bind_eq_some_iff.1 h
      obtain rfl := val1_some h
      obtain ⟨i1, d, z1, hrow⟩ := tab_row hT hr
      have hvx := ev_sound hrep hx
      have hdd := hrow.desc
      unfold descOk at hdd
      refine wp_val (v := .int .i64 n) (w' := w) ?_ (hg _ _ ⟨β, hrep.val hd (VS_VV ⟨rfl, rfl⟩)⟩)
      unfold execOp
      rw [ho]
      unfold lenOf at hn
      have sl : ∀ A cap u, r.ty = .slice u → a.eval x = .slice A n cap → ((resolve a.eval c o.type).run P w).andThen (fun d w' => (invoke d.target d.args).run P w') = .ok (.value (.int .i64 n)) w := by
        intro A cap u hu hv
        obtain ⟨rfl, _⟩ := hrow.slice hu
        simp [resolve, hc, eargs, etys, invoke, builtin, Builtin.len_, hv, run_underlying hrow.under, goInt]
      split at hn
      · rename_i hty
        split at hn
        · rename_i s
          obtain rfl := Option.some.inj hn
          rw [hty] at hdd
          cases d <;> first | (simp at hdd; done) | skip
          have e1 := VV_str hvx
          have hs : (⟨(s : List UInt8).toArray⟩ : ByteArray).size = (s : List UInt8).length := rfl
          simp [resolve, hc, eargs, etys, invoke, builtin, Builtin.len_, e1, run_underlying hrow.under, goInt, hs]
        · cases hn
      · rename_i u hty
        rw [Sem.run_bind]
        split at hn
        · obtain rfl := Option.some.inj hn
          obtain ⟨A, cap, e, _⟩ := (VV_d rfl).1 hvx
          exact sl A cap u hty (by simpa using e)
        · obtain rfl := Option.some.inj hn
          have e := (VV_s (by intros; simp)).1 hvx
          exact sl none 0 u hty e
        · rename_i ob
          have e := (VV_s (by intros; simp)).1 hvx
          split at hn
          · rename_i e' t' xs hb
            obtain rfl := Option.some.inj hn
            simp only [VS, hb, RowV] at e
            split at e
            · exact sl none 0 u hty (by rw [e.2]; exact e.1)
            · exact sl _ _ u hty e
          · rename_i t' xs hb
            obtain rfl := Option.some.inj hn
            simp only [VS, hb] at e
            obtain ⟨A, cap, e, _⟩ := e
            exact sl A cap u hty (by simpa using e)
          · cases hn
        · cases hn
      · cases hn
    · cases h
  · cases h

theorem op_max (hrep : RepB Z M N w0 β σ a w) (hd : dstOk o.dst σ.nt = true) (hg : GoP Z M N w0 σ o qo next) {c : Call} (ho : o.op = .call c) (hc : c.callee = .builtin .max)
    (h : pureR T o σ = some qo) : o.wp P a w next Q := by
  unfold pureR pureC at h
  rw [ho] at h
  simp only [hc] at h
  split at h
  · rename_i x z hargs
    have eargs : c.args = #[x, z] := by rw [← Array.toList_inj]; simpa using hargs
    split at h
    · rename_i k x1 l z1 hx hz
      split at h
      · rename_i hk
        subst hk
        obtain rfl := val1_some h
        have e1 := VV_int (ev_sound hrep hx)
        have e2 := VV_int (ev_sound hrep hz)
        refine wp_val (v := .int k (if z1 > x1 then z1 else x1)) (w' := w) ?_ (hg _ _ ⟨β, hrep.val hd (VS_VV ⟨rfl, rfl⟩)⟩)
        unfold execOp
        rw [ho]
        simp [resolve, hc, eargs, invoke, builtin, Builtin.max_, Builtin.max2, e1, e2]
      · cases h
    · cases h
  · cases h

theorem op_min (hrep : RepB Z M N w0 β σ a w) (hd : dstOk o.dst σ.nt = true) (hg : GoP Z M N w0 σ o qo next) {c : Call} (ho : o.op = .call c) (hc : c.callee = .builtin .min)
    (h : pureR T o σ = some qo) : o.wp P a w next Q := by
  unfold pureR pureC at h
  rw [ho] at h
  simp only [hc] at h
  split at h
  · rename_i x z hargs
    have eargs : c.args = #[x, z] := by rw [← Array.toList_inj]; simpa using hargs
    split at h
    · rename_i k x1 l z1 hx hz
      split at h
      · rename_i hk
        subst hk
        obtain rfl := val1_some h
        have e1 := VV_int (ev_sound hrep hx)
        have e2 := VV_int (ev_sound hrep hz)
        refine wp_val (v := .int k (if z1 < x1 then z1 else x1)) (w' := w) ?_ (hg _ _ ⟨β, hrep.val hd (VS_VV ⟨rfl, rfl⟩)⟩)
        unfold execOp
        rw [ho]
        simp [resolve, hc, eargs, invoke, builtin, Builtin.min_, Builtin.min2, e1, e2]
      · cases h
    · cases h
  · cases h

end ops
end Go.Proofs.Yteddlkdbefloaaa.S
