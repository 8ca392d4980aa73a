/- Soundness of the machinery S, operation by operation, the eighth part: append. -/
import Derived.Test.YteddlkdbefloaaaSk
namespace Go.Proofs.Yteddlkdbefloaaa.S
open Go Go.RowKit
set_option linter.unusedVariables false
set_option linter.unusedSimpArgs false

section ops
variable {P : Program} {T : Tab} {G : Env} {Z : Nat → Prop} {M : Nat → Nat → Prop} {N : Nat → Option (Option (Nat × Nat))} {w0 w w' : World} {β : Names} {σ : St} {a : Act} {o : Oper} {next : Act → World → Prop} {Q : Exit → Act → World → Prop} {v : Value}
variable {R : Type} {K : St → Option R} {y : R} {S : Nat → Prop} {H : Heap} {qo : Out}

theorem rows_sound (hO : Owns w S β H) {t : Ty} {x : SV} {v : Value} {ys : List (den t)} (hv : VV w S β H x v) (h : toD true H (.slice t) x = some ys) :
    ∃ A cap, v = .slice A ys.length cap ∧ ys.length ≤ cap ∧ (ys ≠ [] → ∃ b off rows, A = some ⟨b, off, none⟩ ∧ RpL (Rp w S t) ys rows ∧ At w b off rows) := by
  have ofRp : ∀ {zs : List (den t)} {u : Value}, Rp w S (.slice t) zs [u] → ∃ A cap, u = .slice A zs.length cap ∧ zs.length ≤ cap ∧ (zs ≠ [] → ∃ b off rows, A = some ⟨b, off, none⟩ ∧ RpL (Rp w S t) zs rows ∧ At w b off rows) := by
    rintro zs u ⟨A, cap, e, hc, hA⟩
    refine ⟨A, cap, by simpa using e, hc, fun hne => ?_⟩
    obtain ⟨b, off, e2, _, rows, hr, ha⟩ := hA hne
    exact ⟨b, off, rows, e2, hr, ha⟩
  cases x with
  | g cs => simp [toD, isAg] at h
  | s c =>
    simp only [toD] at h
    cases c with
    | any => simp [cell1] at h
    | p => simp [cell1] at h
    | pe => simp [cell1] at h
    | pd => simp [cell1] at h
    | fn => simp [cell1] at h
    | mp => simp [cell1] at h
    | d s z =>
      simp only [cell1] at h
      obtain ⟨e1, e2⟩ := cst_some h
      subst e1
      simp only at e2
      subst e2
      exact ofRp ((VV_d rfl).1 hv)
    | nls =>
      simp only [cell1] at h
      obtain rfl := Option.some.inj h
      have e := (VV_s (by intros; simp)).1 hv
      exact ⟨none, 0, e, by simp, fun h => absurd rfl h⟩
    | sl o =>
      have e := (VV_s (by intros; simp)).1 hv
      simp only [cell1] at h
      simp only [VS] at e
      split at h
      · rename_i e2 s xs ho
        rw [ho] at e
        rw [if_pos trivial] at h
        obtain ⟨e3, e4⟩ := cst_some h
        simp only [Ty.slice.injEq] at e3
        subst e3
        simp only at e4
        subst e4
        rcases hO o _ ho with ⟨hq, hx⟩ | ⟨b, cap, c, rows, hq, hh, hs, hl, hmx, hr, hi⟩
        · rw [hq] at e
          subst hx
          exact ⟨none, 0, e.1, by simp, fun h => absurd rfl h⟩
        · rw [hq] at e
          exact ⟨_, cap, e, hl, fun _ => ⟨b, 0, rows, rfl, hr, c, e2, _, hh, fun i hi' => by rw [Nat.zero_add]; exact hi i hi'⟩⟩
      · rename_i s xs ho
        rw [ho] at e
        obtain ⟨e3, e4⟩ := cst_some h
        simp only [Ty.slice.injEq] at e3
        subst e3
        simp only at e4
        subst e4
        exact ofRp e
      · cases h

theorem run_append_nothing' {t ty e : TypeId} {i : TypeInfo} (ht : P.underlying t = some (.slice e)) (hi : P.info? e = some i) {size : Nat} {v : Value} {n : Nat} {xs : List Value} (h : w.ownsRow 0 e size v n xs) (c : Nat) :
    (Builtin.append_ #[t, t] ty #[v, .slice none 0 c]).run P w = .ok v w := by
  rcases h.2 with ⟨rfl, rfl⟩ | ⟨g, cap, cur, rfl, _, hh, hn, _⟩
  · simp [Builtin.append_, run_underlying ht, sizeOf, typeInfo, hi, Builtin.lenOf, Builtin.firstCells]
  · simp [Builtin.append_, run_underlying ht, sizeOf, typeInfo, hi, Builtin.lenOf, Builtin.firstCells, hn, storeCells]

/-- append lengthens no block. -/
theorem append_turned {t ty : TypeId} {r q : Row} {i i2 : TypeInfo} {z z2 : Value} {d2 : TypeDesc} (hrow : RowOk P T t r i (.slice r.elem) z) (hrow2 : RowOk P T r.elem q i2 d2 z2) (hpos : 0 < sz q.ty)
    {v : Value} {n : Nat} {xs : List Value} (hown : w.ownsRow 0 r.elem (sz q.ty) v n xs) {ad : Addr} {m c : Nat} {news : List Value} (hl : news.length = m * sz q.ty)
    (hnews : ∀ j u, news[j]? = some u → w.cell? (ad.add j) = some u) (h1 : ∀ u ∈ news, u.oneCell' = true) (hsz : (n + m) * q.bytes ≤ 140737488355328) (h63 : n + m ≤ maxLen) {v' : Value} {w' : World}
    (hr : (Builtin.append_ #[t, t] ty #[v, .slice (some ad) m c]).run P w = .ok v' w') (hg : w.grownBy w' v.ownBlock) : Turned w w' := by
  intro g' hg'
  have hs : i2.size = sz q.ty := hrow2.size
  rcases hown.2 with ⟨rfl, rfl⟩ | ⟨g, cap, cur, rfl, hbg, hgh, hnc, hcm, hcs, htake⟩
  · exact .inl (hg.block g' hg' (by simp [Value.ownBlock]))
  · by_cases hroom : n + m ≤ cap
    · have hfit : n * i2.size + news.length ≤ cur.size := by rw [hl, hcs, hs, ← Nat.add_mul]; exact Nat.mul_le_mul_right _ hroom
      have := run_append_room (P := P) w t ty r.elem i2 hrow.under hrow2.info g n cap cur hgh ad m c news (by rw [hs]; exact hl) hnews h1 hroom hfit
      rw [this] at hr
      simp only [Result.ok.injEq] at hr
      obtain ⟨_, rfl⟩ := hr
      by_cases e : g' = g
      · subst e
        exact .inr ⟨cur, _, _, _, hgh, setRow_heap w g' cur _ _ _ hgh, by simp; omega⟩
      · exact .inl (setRow_other w g g' _ e)
    · have holds : ∀ j u, xs[j]? = some u → w.cell? ((⟨g, 0, none⟩ : Addr).add j) = some u := hown.cells (g := g) rfl
      have := run_append_grow (P := P) w t ty r.elem i2 z2 hrow.under hrow2.info hrow2.zero ⟨g, 0, none⟩ n cap xs (by rw [hs]; exact hown.1) holds ad m c news (by rw [hs]; exact hl) hnews (by omega) (by unfold maxLen at h63; omega)
        (growslice_fits (by omega) (by rw [hrow2.bytes]; exact hsz))
      rw [this] at hr
      simp only [Result.ok.injEq] at hr
      obtain ⟨_, rfl⟩ := hr
      exact .inl (heap_alloc_old w.drew _ g' hg')

/-- append on a row of the call's own, or on nil, whatever is appended. -/
theorem run_append_any {t ty : TypeId} {r q : Row} {i i2 : TypeInfo} {z z2 : Value} {d2 : TypeDesc} (hrow : RowOk P T t r i (.slice r.elem) z) (hrow2 : RowOk P T r.elem q i2 d2 z2) (hpos : 0 < sz q.ty) (hby : 0 < q.bytes)
    {v : Value} {n : Nat} {xs : List Value} (hown : w.ownsRow 0 r.elem (sz q.ty) v n xs) {u : Value} {ys : List (den q.ty)} {A : Option Addr} {cap : Nat} (hu : u = .slice A ys.length cap)
    (hA : ys ≠ [] → ∃ b off rows, A = some ⟨b, off, none⟩ ∧ RpL (Rp w S q.ty) ys rows ∧ At w b off rows) (hsz : (n + ys.length) * q.bytes ≤ 140737488355328) :
    ∃ v' w' news, (Builtin.append_ #[t, t] ty #[v, u]).run P w = .ok v' w' ∧ w'.ownsRow 0 r.elem (sz q.ty) v' (n + ys.length) (xs ++ news) ∧ w.grownBy w' v.ownBlock ∧
      (v'.ownBlock = v.ownBlock ∨ v'.ownBlock = some w.heap.size) ∧ Turned w w' ∧ RpL (Rp w S q.ty) ys news := by
  subst hu
  have hzs : z2.cells.size = sz q.ty := by have := Rp_len (zD_Rp (w := w) (S := fun _ => True) hrow2.zcells); simpa using this
  have h63 : n + ys.length ≤ maxLen := by
    have := Nat.le_mul_of_pos_right (n + ys.length) hby
    unfold maxLen; omega
  by_cases hys : ys = []
  · subst hys
    cases A with
    | none => exact ⟨v, w, [], run_append_nothing' hrow.under hrow2.info hown cap, by simpa using hown, ⟨rfl, rfl, rfl, Nat.le_refl _, fun _ _ _ => rfl⟩, .inl rfl, fun _ _ => .inl rfl, rfl⟩
    | some ad =>
      obtain ⟨v', w', h1, h2, h3, _, h5⟩ := run_append_own_at (P := P) w 0 t ty r.elem i2 z2 (sz q.ty) q.bytes hrow.under hrow2.info hrow2.zero hrow2.size hrow2.bytes hzs hpos v n xs hown ad 0 cap [] (by simp) (by simp) (by simp) (by simpa using h63) (by simpa using hsz) (Nat.zero_le _)
      exact ⟨v', w', [], h1, h2, h3, h5, append_turned hrow hrow2 hpos (ad := ad) (news := []) (m := 0) hown (by simp) (by simp) (by simp) (by simpa using hsz) h63 h1 h3, rfl⟩
  · obtain ⟨b, off, rows, rfl, hr, c, e', fz, hh, hi⟩ := hA hys
    have hrl := RpL_len (fun _ _ => Rp_len) hr
    obtain ⟨v', w', h1, h2, h3, _, h5⟩ := run_append_own_at (P := P) w 0 t ty r.elem i2 z2 (sz q.ty) q.bytes hrow.under hrow2.info hrow2.zero hrow2.size hrow2.bytes hzs hpos v n xs hown ⟨b, off, none⟩ ys.length cap rows hrl (fun j x hj => by
        have hlt := (List.getElem?_eq_some_iff.1 hj).1
        rw [add_mk, cell_at hh, hi j hlt, hj]) (RpL_cell hr) h63 hsz (Nat.zero_le _)
    exact ⟨v', w', rows, h1, h2, h3, h5, append_turned hrow hrow2 hpos (ad := ⟨b, off, none⟩) hown hrl (fun j x hj => by
        have hlt := (List.getElem?_eq_some_iff.1 hj).1
        rw [add_mk, cell_at hh, hi j hlt, hj]) (RpL_cell hr) hsz h63 h1 h3, hr⟩
where
  RpL_cell : ∀ {zs : List (den q.ty)} {rows : List Value}, RpL (Rp w S q.ty) zs rows → ∀ u ∈ rows, u.oneCell' = true
    | [], _, h, u, hu => by simp only [RpL] at h; subst h; simp at hu
    | x :: xs, _, ⟨r, rs, e, hx, hr⟩, u, hu => by
      subst e
      rcases List.mem_append.1 hu with hu | hu
      · exact Rp_cell hx u hu
      · exact RpL_cell hr u hu

theorem op_append {nm : Nat} (hT : tabOk P T = true) (hrep : RepB Z M N w0 β σ a w) (hd : dstOk o.dst σ.nt = true) (hg : GoOn Z M N w0 σ K y next) {c : Call} (ho : o.op = .call c) (hc : c.callee = .builtin .append)
    (h : opR T G nm o σ K = some y) : o.wp P a w next Q := by
  unfold opR at h
  rw [ho] at h
  simp only [hc, ite2] at h
  split at h
  · rename_i x x2 t t' j hargs htys hj
    have eargs : c.args = #[x, x2] := by rw [← Array.toList_inj]; simpa using hargs
    have etys : c.argTypes = #[t, t'] := by rw [← Array.toList_inj]; simpa using htys
    have run : ∀ v' w', (Builtin.append_ #[t, t'] o.type #[a.eval x, a.eval x2]).run P w = .ok v' w' → (execOp a.eval o).run P w = .ok (.value v') w' := by
      intro v' w' hr
      unfold execOp
      rw [ho]
      simp [resolve, hc, eargs, etys, invoke, builtin, hr]
    rw [hj] at hd
    split at h
    · rename_i r hr
      split at h
      · rename_i q hq
        split at h
        · rename_i hty
          obtain ⟨hty, htt⟩ := hty
          subst htt
          obtain ⟨i, d, zv, hrow⟩ := tab_row hT hr
          obtain ⟨rfl, q', hq', hqt, hpos⟩ := hrow.slice hty
          rw [hq] at hq'
          obtain rfl := Option.some.inj hq'
          obtain ⟨i2, d2, z2, hrow2⟩ := tab_row hT hq
          split at h
          · rename_i b y1 hx hx2
            split at h
            · rename_i e u xs hb
              obtain ⟨ys, hys, h⟩ := Option.bind_eq_some_iff.1 h
              obtain ⟨xs', hxs, h⟩ := Option.bind_eq_some_iff.1 h
              split at h
              · rename_i hcond
                obtain ⟨⟨rfl, hby, _, hn⟩, hsz⟩ := hcond
                obtain ⟨e3, e4⟩ := cst_some hxs
                simp only [Ty.slice.injEq] at e3
                subst e3
                simp only at e4
                subst e4
                obtain ⟨A, cap, hu, _, hA⟩ := rows_sound hrep.owns (ev_sound hrep hx2) hys
                have hvs := (VV_s (by intros; simp)).1 (ev_sound hrep hx)
                simp only [VS, hb] at hvs
                have hown : ∃ cs, w.ownsRow 0 r.elem (sz q.ty) (a.eval x) xs.length cs ∧ RpL (Rp w (RO Z β σ.H) q.ty) xs cs ∧ (a.eval x).ownBlock = (β b).map (·.1) := by
                  rcases hrep.obj b _ hb with ⟨hq1, hx1⟩ | ⟨g, cp, cc, rows, hq1, hh, hs, hl, hmx, hr1, hi⟩
                  · rw [hq1] at hvs
                    subst hx1
                    obtain ⟨e5, _⟩ := hvs
                    refine ⟨[], ?_, rfl, by rw [e5, hq1]; rfl⟩
                    rw [e5]
                    exact World.ownsRow_nil w 0 r.elem _
                  · rw [hq1] at hvs
                    simp only [RowV] at hvs
                    have hrl := RpL_len (fun _ _ => Rp_len) hr1
                    refine ⟨rows, ⟨hrl, .inr ⟨g, cp, cc, hvs, Nat.zero_le _, hh, hl, hmx, hs, ?_⟩⟩, hr1, by rw [hvs, hq1]; rfl⟩
                    apply List.ext_getElem?
                    intro k
                    rw [List.getElem?_take]
                    by_cases hk : k < rows.length
                    · rw [if_pos (by omega), Array.getElem?_toList]; exact hi k hk
                    · rw [if_neg (by omega), List.getElem?_eq_none (by omega)]
                obtain ⟨cs, hown, hcs, hblk⟩ := hown
                obtain ⟨v', w', news, h1, h2, h3, h4, htu, h5⟩ := run_append_any (ty := o.type) hrow hrow2 hpos hby hown hu hA hsz
                refine wp_val (run _ _ h1) ?_
                rw [hj]
                have hall := RpL_append hcs h5
                rcases h2.2 with ⟨hv', hn'⟩ | ⟨g, cp, cur, hv', _, hh', hle, hmx', hs', htk⟩
                · have hnil : xs ++ ys = [] := List.eq_nil_of_length_eq_zero (by rw [List.length_append]; exact hn')
                  refine hg _ h rfl _ _ ⟨β.put nm none, ?_⟩
                  have := hrep.append (w' := w') (q := none) (xs2 := xs ++ ys) hb hn (by rw [← hblk]; exact h3) htu (by intro g cap hq; cases hq) (fun S' β' H' _ => .inl ⟨rfl, hnil⟩)
                  refine this.set (show j < σ.nt by simpa [dstOk] using hd) ((VV_s (by intros; simp)).2 ?_)
                  simp only [VS, St.put, look_cons, if_true, put_same]
                  exact ⟨hv', by rw [hnil]; rfl⟩
                · refine hg _ h rfl _ _ ⟨β.put nm (some (g, cp)), ?_⟩
                  have hvb : v'.ownBlock = some g := by rw [hv']; rfl
                  have hglt : g < w'.heap.size := (Array.getElem?_eq_some_iff.1 hh').1
                  have := hrep.append (w' := w') (q := some (g, cp)) (xs2 := xs ++ ys) hb hn (by rw [← hblk]; exact h3) htu (by
                    intro g' cap' hq
                    simp only [Option.some.injEq, Prod.mk.injEq] at hq
                    obtain ⟨rfl, rfl⟩ := hq
                    rw [hvb, hblk] at h4
                    rcases h4 with h4 | h4
                    · obtain ⟨p, hp, e6⟩ := Option.map_eq_some_iff.1 h4.symm
                      have hpp : β b = some (g, p.2) := by rw [hp, ← e6]
                      exact ⟨.inl ⟨p.2, hpp⟩, hglt⟩
                    · simp only [Option.some.injEq] at h4
                      exact ⟨.inr (by omega), hglt⟩) (fun S' β' H' hm => by
                    refine .inr ⟨g, cp, cur, cs ++ news, rfl, hh', hs', by rw [List.length_append]; exact hle, hmx', RpL_mono (fun _ _ => hm _ _ _) hall, fun k hk => ?_⟩
                    rw [← htk, List.getElem?_take, if_pos (by rw [← h2.1]; exact hk), Array.getElem?_toList])
                  refine this.set (show j < σ.nt by simpa [dstOk] using hd) ((VV_s (by intros; simp)).2 ?_)
                  simp only [VS, St.put, look_cons, if_true, put_same, RowV]
                  rw [hv', List.length_append]
              · cases h
            · cases h
          · rename_i y1 hx hx2
            obtain ⟨ys, hys, h⟩ := Option.bind_eq_some_iff.1 h
            split at h
            · rename_i hcond
              obtain ⟨⟨hby, hn⟩, hsz⟩ := hcond
              obtain ⟨A, cap, hu, _, hA⟩ := rows_sound hrep.owns (ev_sound hrep hx2) hys
              have hvs : a.eval x = .slice none 0 0 := (VV_s (by intros; simp)).1 (ev_sound hrep hx)
              have hown : w.ownsRow 0 r.elem (sz q.ty) (a.eval x) 0 [] := by rw [hvs]; exact World.ownsRow_nil w 0 r.elem _
              obtain ⟨v', w', news, h1, h2, h3, h4, htu, h5⟩ := run_append_any (ty := o.type) hrow hrow2 hpos hby hown hu hA (by simpa using hsz)
              refine wp_val (run _ _ h1) ?_
              rw [hj]
              have hblk : (a.eval x).ownBlock = none := by rw [hvs]; rfl
              rw [hblk] at h3 h4
              rw [Nat.zero_add, List.nil_append] at h2
              have hbel : Kept M w0 w' := hrep.below.step h3.os h3.tape h3.output h3.size fun k hk => .inl (h3.block k (Nat.lt_of_lt_of_le hk hrep.below.size) (by simp))
              have hold : ∀ b, b < w.heap.size → w'.heap[b]? = w.heap[b]? := fun b hb => h3.block b hb (by simp)
              rcases h2.2 with ⟨hv', hn'⟩ | ⟨g, cp, cur, hv', _, hh', hle, hmx', hs', htk⟩
              · have hnil : ys = [] := List.eq_nil_of_length_eq_zero hn'
                refine hg _ h rfl _ _ ⟨β.put nm none, ?_⟩
                have := hrep.new (w' := w') (q := none) (ob := .row r.elem q.ty ys) hn hbel hold h3.size (by intro b cap hq; cases hq) (fun S' β' H' _ _ => .inl ⟨rfl, hnil⟩)
                refine this.set (show j < σ.nt by simpa [dstOk] using hd) ((VV_s (by intros; simp)).2 ?_)
                simp only [VS, St.put, look_cons, if_true, put_same]
                exact ⟨hv', hn'⟩
              · refine hg _ h rfl _ _ ⟨β.put nm (some (g, cp)), ?_⟩
                have hvb : v'.ownBlock = some g := by rw [hv']; rfl
                have hglt : g < w'.heap.size := (Array.getElem?_eq_some_iff.1 hh').1
                have := hrep.new (w' := w') (q := some (g, cp)) (ob := .row r.elem q.ty ys) hn hbel hold h3.size (by
                  intro b cap hq _
                  simp only [Option.some.injEq, Prod.mk.injEq] at hq
                  obtain ⟨rfl, rfl⟩ := hq
                  rw [hvb] at h4
                  rcases h4 with h4 | h4
                  · cases h4
                  · simp only [Option.some.injEq] at h4; omega) (fun S' β' H' _ hm => by
                  refine .inr ⟨g, cp, cur, news, rfl, hh', hs', hle, hmx', RpL_mono (fun _ _ => hm _ _ _) h5, fun k hk => ?_⟩
                  rw [← htk, List.getElem?_take, if_pos (by rw [← h2.1]; exact hk), Array.getElem?_toList])
                refine this.set (show j < σ.nt by simpa [dstOk] using hd) ((VV_s (by intros; simp)).2 ?_)
                simp only [VS, St.put, look_cons, if_true, put_same, RowV]
                exact hv'
            · cases h
          · cases h
        · cases h
      · cases h
    · cases h
  · cases h

end ops
end Go.Proofs.Yteddlkdbefloaaa.S
