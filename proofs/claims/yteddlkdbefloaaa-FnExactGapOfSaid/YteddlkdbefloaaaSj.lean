/- Soundness of the machinery S, operation by operation, the sixth part: rows that are made, slices that are cut. -/
import Derived.Test.YteddlkdbefloaaaSi
namespace Go.Proofs.Yteddlkdbefloaaa.S
open Go Go.RowKit
set_option linter.unusedVariables false
set_option linter.unusedSimpArgs false

theorem frz_none : ∀ {l : List Nat} {H : Heap} {j : Nat}, look H j = none → look (frz H l) j = none
  | [], _, _, h => h
  | o :: r, H, j, h => by
    have ih := frz_none (l := r) h
    unfold frz
    split
    · rename_i e t xs he
      rw [look_cons]
      have : o ≠ j := fun e' => by subst e'; rw [ih] at he; cases he
      rw [if_neg this]; exact ih
    · exact ih

section ops
variable {P : Program} {T : Tab} {G : Env} {Z : Nat → Prop} {M : Nat → Nat → Prop} {N : Nat → Option (Option (Nat × Nat))} {w0 w w' : World} {β : Names} {σ : St} {a : Act} {o : Oper} {next : Act → World → Prop} {Q : Exit → Act → World → Prop} {v : Value}
variable {R : Type} {K : St → Option R} {y : R} {S : Nat → Prop} {H : Heap} {qo : Out}

/-- A new row. -/
theorem RepB.newRow (h : RepB Z M N w0 β σ a w) {j : Nat} (hj : newName σ.H j = true) (hjn : j < σ.nt) {e : TypeId} {t : Ty} {xs : List (den t)} {c : Array Value} {rows : List Value} {cap : Nat}
    (hc : c.size = cap * sz t) (hl : xs.length ≤ cap) (hm : cap ≤ maxLen) (hr : RpL (Rp w (RO Z β σ.H) t) xs rows) (hi : ∀ i, i < rows.length → c[i]? = rows[i]?) :
    RepB Z M N w0 (β.put j (some (w.heap.size, cap))) ((σ.put j (.row e t xs)).set j (.s (.sl j))) (a.put (some j) (.slice (some ⟨w.heap.size, 0, none⟩) xs.length cap)) (w.alloc (.cells c e)) := by
  have h1 : RepB Z M N w0 (β.put j (some (w.heap.size, cap))) (σ.put j (.row e t xs)) a (w.alloc (.cells c e)) := by
    refine h.new hj (h.below.alloc _) (fun b hb => heap_alloc_old w _ b hb) (by simp) ?_ ?_
    · intro b cap' hq _
      simp only [Option.some.injEq, Prod.mk.injEq] at hq
      obtain ⟨rfl, _⟩ := hq
      simp
    · intro S' β' H' _ hs
      exact .inr ⟨w.heap.size, cap, c, rows, rfl, heap_new w _, hc, hl, hm, RpL_mono (fun _ _ => hs _ _ _) hr, hi⟩
  refine h1.set hjn ?_
  refine (VV_s (by intros; simp)).2 ?_
  simp only [VS, St.put, look_cons, if_true, put_same]
  rfl

theorem made_rows (z : List Value) : ∀ m : Nat, 0 < z.length → (madeCells z.toArray (m * z.length)).toList = (List.replicate m z).flatten := by
  intro m hz
  apply List.ext_getElem?
  intro i
  induction m generalizing i with
  | zero => simp [madeCells, Array.range_zero']
  | succ m ih =>
    rw [List.replicate_succ, List.flatten_cons]
    by_cases h1 : i < z.length
    · rw [List.getElem?_append_left h1]
      have hlt : i < (m + 1) * z.length := by rw [Nat.add_mul]; omega
      simp [madeCells, hlt, Nat.mod_eq_of_lt h1, h1]
    · rw [List.getElem?_append_right (by omega), ← ih]
      have e1 : (i - z.length) % z.length = i % z.length := by
        rw [← Nat.mod_eq_sub_mod (by omega)]
      by_cases h2 : i < (m + 1) * z.length
      · have h3 : i - z.length < m * z.length := by rw [Nat.add_mul] at h2; omega
        simp [madeCells, h2, h3, e1]
      · have h3 : ¬ i - z.length < m * z.length := by rw [Nat.add_mul] at h2; omega
        simp [madeCells, h2, h3]

theorem RpL_replicate {α : Type} {R : α → List Value → Prop} {x : α} {r : List Value} (h : R x r) : ∀ m : Nat, RpL R (List.replicate m x) (List.replicate m r).flatten
  | 0 => rfl
  | m + 1 => ⟨r, _, by rw [List.replicate_succ, List.flatten_cons], h, RpL_replicate h m⟩

theorem op_makeSlice (hT : tabOk P T = true) (hrep : RepB Z M N w0 β σ a w) (hd : dstOk o.dst σ.nt = true) (hg : GoP Z M N w0 σ o qo next) {t : TypeId} {x z : Operand} (ho : o.op = .makeSlice t x z)
    (h : pureR T o σ = some qo) : o.wp P a w next Q := by
  unfold pureR pureC at h
  rw [ho] at h
  simp only [ite2] at h
  split at h
  · rename_i r j n m hr hj hx hz
    split at h
    · rename_i q hq
      split at h
      · rename_i hc
        obtain ⟨⟨hty, hn⟩, hnm, h0, hb, h63⟩ := hc
        obtain rfl := (Option.some.inj h).symm
        obtain ⟨i, d, zv, hrow⟩ := tab_row hT hr
        obtain ⟨rfl, q', hq', hqt, hpos⟩ := hrow.slice hty
        rw [hq] at hq'
        obtain rfl := Option.some.inj hq'
        obtain ⟨i2, d2, z2, hrow2⟩ := tab_row hT hq
        unfold GoP at hg
        rw [hj] at hd hg
        have e1 := VV_int (ev_sound hrep hx)
        have e2 := VV_int (ev_sound hrep hz)
        have hnm' : (n : Int) = m := hnm
        subst hnm'
        have h0' : (0 : Int) ≤ n := h0
        have hb' : (n : Int) * q.bytes ≤ 140737488355328 := hb
        have h63' : (n : Int) ≤ 9223372036854775807 := h63
        have hrun := run_make w t r.elem i2 z2 hrow.under hrow2.info hrow2.zero .i64 .i64 n n h0' (Int.le_refl _) (by rw [hrow2.bytes, Int.mul_comm]; exact Int.le_trans hb' (by decide)) h63'
        have hzr := zD_Rp (w := w) (S := RO Z β σ.H) hrow2.zcells
        have hzl := Rp_len hzr
        have hcells : (madeCells z2.cells (Int.toNat n * sz q.ty)).toList = (List.replicate (Int.toNat n) z2.cells.toList).flatten := by
          have := made_rows z2.cells.toList (Int.toNat n) (by omega)
          rw [hzl, Array.toArray_toList] at this
          exact this
        have hnn : (Int.toNat n : Int) = n := Int.toNat_of_nonneg h0'
        refine wp_val (v := .slice (some ⟨w.heap.size, 0, none⟩) (Int.toNat n) (Int.toNat n)) (w' := w.alloc (.cells (madeCells z2.cells (Int.toNat n * i2.size)) r.elem)) ?_ ?_
        · unfold execOp
          rw [ho]
          simp only [e1, e2]
          rw [bind_pure_comp, Sem.run_map, hrun]
          rfl
        · rw [hj]
          refine hg _ _ ⟨β.put j (some (w.heap.size, Int.toNat n)), ?_⟩
          have := hrep.newRow hn (by simpa [dstOk] using hd) (e := r.elem) (t := q.ty) (xs := List.replicate (Int.toNat n) (zeroD q.ty)) (c := madeCells z2.cells (Int.toNat n * i2.size)) (rows := (List.replicate (Int.toNat n) z2.cells.toList).flatten) (cap := Int.toNat n)
            (by rw [size_madeCells, hrow2.size]) (by simp) (by unfold maxLen; exact Int.toNat_le.2 h63') (RpL_replicate hzr _) (by
              intro k hk
              rw [hrow2.size, ← hcells, Array.getElem?_toList])
          rw [List.length_replicate] at this
          exact this
      · cases h
    · cases h
  · cases h

/-- A part of a row of data is such a row. -/
theorem Rp_cut {t : Ty} {xs : List (den t)} {A : Option Addr} {n cap l k : Nat} (h : Rp w S (.slice t) xs [.slice A n cap]) (hlk : l ≤ k) (hk : k ≤ xs.length) :
    Rp w S (.slice t) ((xs.drop l).take (k - l)) [.slice (if cap = l then A else A.map (·.add (l * sz t))) (k - l) (cap - l)] := by
  obtain ⟨A', cap', e, hcap, hA⟩ := h
  simp only [List.cons.injEq, Value.slice.injEq, and_true] at e
  obtain ⟨rfl, hn, rfl⟩ := e
  have hlen : ((xs.drop l).take (k - l)).length = k - l := by rw [List.length_take, List.length_drop]; omega
  refine ⟨_, cap - l, by rw [hlen], by omega, fun hne => ?_⟩
  have hpos : 0 < k - l := by
    rw [← hlen]; exact List.length_pos_iff.2 hne
  have hc : ¬ cap = l := by omega
  rw [if_neg hc]
  obtain ⟨b, off, rfl, hS, rows, hr, c, e', fz, hh, hi⟩ := hA (by intro e; subst e; simp at hk; omega)
  have hrl := RpL_len (fun _ _ => Rp_len) hr
  refine ⟨b, off + l * sz t, by simp [add_mk], hS, (rows.drop (l * sz t)).take ((k - l) * sz t), RpL_take (fun _ _ => Rp_len) _ (RpL_drop (fun _ _ => Rp_len) _ hr), c, e', fz, hh, fun i hi' => ?_⟩
  rw [List.length_take, List.length_drop] at hi'
  rw [List.getElem?_take, if_pos (by omega), List.getElem?_drop, Nat.add_assoc]
  exact hi _ (by omega)

theorem optB_sound (hrep : RepB Z M N w0 β σ a w) {d : Int} {x : Option Operand} {n : Int} (h : optB σ d x = some n) : (x = none ∧ n = d) ∨ ∃ y, x = some y ∧ a.eval y = .int .i64 n := by
  unfold optB at h
  split at h
  · exact .inl ⟨rfl, (Option.some.inj h).symm⟩
  · rename_i y
    split at h
    · rename_i v hv
      unfold natOf at h
      split at h
      · obtain rfl := Option.some.inj h
        exact .inr ⟨y, rfl, VV_int (ev_sound hrep hv)⟩
      · cases h
    · cases h

theorem run_bounds (isSl : Bool) {len cap : Nat} (hlc : len ≤ cap) {lo hi : Option Value} {l h : Int} (hl : (lo = none ∧ l = 0) ∨ lo = some (.int .i64 l)) (hh : (hi = none ∧ h = len) ∨ hi = some (.int .i64 h))
    (h0 : 0 ≤ l) (h1 : l ≤ h) (h2 : h ≤ len) : (Instr.sliceBounds isSl len cap lo hi none).run P w = .ok (l.toNat, h.toNat, cap) w := by
  have h3 : 0 ≤ h := by omega
  have h4 : h ≤ (cap : Int) := by omega
  have h5 : l ≤ (h.toNat : Int) := by omega
  have h6 : max h 0 = h := by omega
  have h7 : ¬ h < l := by omega
  rcases hl with ⟨rfl, rfl⟩ | rfl <;> rcases hh with ⟨rfl, rfl⟩ | rfl <;>
    simp [Instr.sliceBounds, Instr.sliceBound, asIntOf, h0, h1, h3, h4, h5, h2, h6, h7]

theorem op_slice (hT : tabOk P T = true) (hrep : RepB Z M N w0 β σ a w) (hd : dstOk o.dst σ.nt = true) (hg : GoP Z M N w0 σ o qo next) {t : TypeId} {x : Operand} {lo hi mx : Option Operand} (ho : o.op = .slice t x lo hi mx)
    (h : pureR T o σ = some qo) : o.wp P a w next Q := by
  unfold pureR pureC at h
  rw [ho] at h
  simp only at h
  split at h
  · rename_i r y1 hr hx
    obtain ⟨i, d, z, hrow⟩ := tab_row hT hr
    have hdd := hrow.desc
    unfold descOk at hdd
    split at h
    · rename_i hty
      rw [hty] at hdd
      cases d <;> first | (simp at hdd; done) | skip
      split at h
      · rename_i s
        obtain ⟨l, hl, h⟩ := Option.bind_eq_some_iff.1 h
        obtain ⟨k, hk, h⟩ := Option.bind_eq_some_iff.1 h
        split at h
        · rename_i hc
          obtain ⟨h0, h1, h2⟩ := hc
          obtain rfl := val1_some h
          have e1 := VV_str (ev_sound hrep hx)
          have hb := run_bounds (P := P) (w := w) false (len := (s : List UInt8).length) (cap := (s : List UInt8).length) (Nat.le_refl _) (lo := lo.map a.eval) (hi := hi.map a.eval) (l := l) (h := k)
            (by rcases optB_sound hrep hl with ⟨rfl, rfl⟩ | ⟨y, rfl, hy⟩ <;> simp [*]) (by rcases optB_sound hrep hk with ⟨rfl, rfl⟩ | ⟨y, rfl, hy⟩ <;> simp [*]) h0 h1 h2
          have hs : (⟨(s : List UInt8).toArray⟩ : ByteArray).size = (s : List UInt8).length := rfl
          refine wp_val (v := .string ⟨((s.drop l.toNat).take (k.toNat - l.toNat) : List UInt8).toArray⟩) (w' := w) ?_ (hg _ _ ⟨β, hrep.val hd (VS_VV ⟨rfl, rfl⟩)⟩)
          unfold execOp
          rw [ho]
          have hex : (⟨(s : List UInt8).toArray⟩ : ByteArray).extract l.toNat k.toNat = ⟨((s.drop l.toNat).take (k.toNat - l.toNat) : List UInt8).toArray⟩ := by
            apply bytes_ext
            simp [ByteArray.data_extract]
          simp [Instr.sliceAt, Instr.slice, e1, run_underlying hrow.under, hs, hb, hex]
        · cases h
      · cases h
    · rename_i u hty
      obtain ⟨rfl, q, hq, hqt, hpos⟩ := hrow.slice hty
      obtain ⟨i2, d2, z2, hrow2⟩ := tab_row hT hq
      obtain ⟨xs, hxs, h⟩ := Option.bind_eq_some_iff.1 h
      obtain ⟨l, hl, h⟩ := Option.bind_eq_some_iff.1 h
      obtain ⟨k, hk, h⟩ := Option.bind_eq_some_iff.1 h
      split at h
      · rename_i hc
        obtain ⟨h0, h1, h2⟩ := hc
        obtain rfl := (Option.some.inj h).symm
        have hrep' := hrep.frz (rowsOf σ.H y1)
        obtain ⟨cs, hv, hr1⟩ := toD_sound (own := false) hrep'.owns (fun t x cs h => h) (by simp) (ev_sound hrep' (σ := { σ with H := frz σ.H (rowsOf σ.H y1) }) (x := x) (y := y1) (by rw [← hx]; cases x <;> rfl)) (toD_frz hxs)
        have hcs := Val_one rfl hv
        subst hcs
        have hr2 := hr1
        obtain ⟨A, cap, e, hcap, _⟩ := hr2
        have ex : a.eval x = .slice A xs.length cap := by simpa using e
        rw [ex] at hr1
        have hb := run_bounds (P := P) (w := w) true (len := xs.length) (cap := cap) hcap (lo := lo.map a.eval) (hi := hi.map a.eval) (l := l) (h := k)
          (by rcases optB_sound hrep hl with ⟨rfl, rfl⟩ | ⟨y, rfl, hy⟩ <;> simp [*]) (by rcases optB_sound hrep hk with ⟨rfl, rfl⟩ | ⟨y, rfl, hy⟩ <;> simp [*]) h0 h1 h2
        have hcut := Rp_cut (l := l.toNat) (k := k.toNat) hr1 (by omega) (by omega)
        refine wp_val (v := .slice (if cap = l.toNat then A else A.map (·.add (l.toNat * sz u))) (k.toNat - l.toNat) (cap - l.toNat)) (w' := w) ?_ ?_
        · unfold execOp
          rw [ho]
          subst hqt
          simp [Instr.sliceAt, Instr.slice, ex, run_underlying hrow.under, hb, hrow2.run_size]
        · refine hg _ _ ⟨β, ?_⟩
          have := hrep'.val (i := o.dst) (y := .s (.d (.slice u) ((xs.drop l.toNat).take (k.toNat - l.toNat)))) hd ((VV_d rfl).2 hcut)
          exact this
      · cases h
    · cases h
  · cases h

end ops
end Go.Proofs.Yteddlkdbefloaaa.S
