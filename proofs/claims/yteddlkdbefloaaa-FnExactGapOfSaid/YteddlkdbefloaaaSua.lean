/- Soundness of the machinery S: maps from whole numbers to truth values, of the call's own. -/
import Derived.Test.YteddlkdbefloaaaSu
import Derived.MapKept
namespace Go.Proofs.Yteddlkdbefloaaa.S
open Go Go.RowKit
set_option linter.unusedVariables false
set_option linter.unusedSimpArgs false

variable {P : Program} {T : Tab} {G : Env} {w w' w0 : World} {Z : Nat → Prop} {M : Nat → Nat → Prop} {N : Nat → Option (Option (Nat × Nat))} {a : Act} {σ : St} {β : Names} {l : List Nat}
variable {o : Oper} {next : Act → World → Prop} {Q : Exit → Act → World → Prop} {R : Type} {K : St → Option R} {y : R} {qo : Out}

theorem mapIn_sound (hT : tabOk P T = true) : ∀ {T' : Tab}, (∀ p ∈ T', p ∈ T) → ∀ {m t k : TypeId}, mapIn T' m = some (t, k) →
    P.underlying m = some (.map k t) ∧ (∃ r i d, RowOk P T t r i d (.bool false)) ∧ ∃ q, look T k = some q ∧ q.ty = .int .i64
  | [], _, m, t, k, h => by simp [mapIn] at h
  | (t', r) :: l, hm, m, t, k, h => by
    simp only [mapIn] at h
    split at h
    · rename_i hty
      split at h
      · rename_i k' hk
        simp only [Option.some.injEq, Prod.mk.injEq] at h
        obtain ⟨rfl, rfl⟩ := h
        obtain ⟨i, d, z, hrow⟩ := tab_mem hT (hm (t', r) (by simp))
        have hmaps := hrow.maps
        unfold mapOk at hmaps
        rw [hty] at hmaps
        have := List.all_eq_true.1 hmaps _ (look_mem hk)
        simp only [Bool.and_eq_true] at this
        obtain ⟨⟨h1, h2⟩, h3⟩ := this
        have hz : z = .bool false := by
          rw [hrow.info] at h3
          simp only [hrow.zero] at h3
          split at h3
          · rename_i e
            simp only [Option.some.injEq] at e
            subst e
            simpa using h3
          · cases h3
        subst hz
        refine ⟨?_, ⟨r, i, d, hrow⟩, ?_⟩
        · split at h1
          · rename_i hu
            simp only [Bool.and_eq_true, decide_eq_true_eq] at h1
            rw [hu, h1.1, h1.2]
          · cases h1
        · split at h2
          · rename_i q hq
            exact ⟨q, hq, by simpa using h2⟩
          · cases h2
      · exact mapIn_sound hT (fun p hp => hm p (by simp [hp])) h
    · exact mapIn_sound hT (fun p hp => hm p (by simp [hp])) h

def findX : List (Int × Bool) → Int → Nat → Option (Nat × Value)
  | [], _, _ => none
  | p :: r, n, i => if p.1 = n then some (i, .bool p.2) else findX r n (i + 1)

theorem findNow_x {kind : TypeDesc} (hk : ∃ k, kind = .int k) {n : Int} : ∀ {es : List MapEntry} {xs : List (Int × Bool)} {i : Nat}, es.map (fun e => (e.key, e.val)) = xs.map (fun p => (Value.int .i64 p.1, Value.bool p.2)) →
    Instr.findNow kind (.int .i64 n) es i = some (findX xs n i)
  | [], [], _, _ => rfl
  | [], _ :: _, _, h => by simp at h
  | _ :: _, [], _, h => by simp at h
  | e :: es, p :: xs, i, h => by
    obtain ⟨k, rfl⟩ := hk
    simp only [List.map_cons, List.cons.injEq, Prod.mk.injEq] at h
    obtain ⟨⟨h1, h2⟩, h3⟩ := h
    have ih := findNow_x (kind := .int k) ⟨k, rfl⟩ (n := n) (i := i + 1) h3
    simp only [Instr.findNow, h1, Instr.sameNow, if_true, findX]
    by_cases e' : p.1 = n
    · simp [e', h2]
    · have : (n == p.1) = false := by simpa using fun h => e' h.symm
      simp [this, ih, e']

theorem findX_get : ∀ {xs : List (Int × Bool)} {n : Int} {i : Nat}, (match findX xs n i with | some q => q.2 | none => Value.bool false) = .bool (getM xs n)
  | [], _, _ => rfl
  | p :: r, n, i => by
    simp only [findX, getM]
    by_cases e : p.1 = n
    · simp [e]
    · simp only [if_neg e]; exact findX_get

theorem findX_set {y : Bool} : ∀ {xs : List (Int × Bool)} {n : Int} {i : Nat}, match findX xs n i with
    | some q => ∃ j, q.1 = i + j ∧ j < xs.length ∧ setM xs n y = xs.set j (n, y) ∧ (xs[j]?).map (·.1) = some n
    | none => setM xs n y = xs ++ [(n, y)]
  | [], _, _ => rfl
  | p :: r, n, i => by
    simp only [findX, setM]
    by_cases e : p.1 = n
    · simp only [if_pos e]
      exact ⟨0, rfl, by simp, by simp, by simp [e]⟩
    · simp only [if_neg e]
      have ih := findX_set (y := y) (xs := r) (n := n) (i := i + 1)
      split at ih
      · rename_i q hq
        obtain ⟨j, h1, h2, h3, h4⟩ := ih
        exact ⟨j + 1, by omega, by simp; omega, by simp [h3], by simpa using h4⟩
      · rename_i hq
        rw [ih]; rfl

theorem kept_map (hk : Kept M w0 w) {g : Nat} {es : Array MapEntry} {clock : Nat} (hh : w.heap[g]? = some (.map es clock)) (hM : ∀ i, M g i) {ob : Obj} : Kept M w0 { w with heap := w.heap.setIfInBounds g ob } where
  os := hk.os
  tape := hk.tape
  output := hk.output
  size := by simpa using hk.size
  block := by
    intro b hb hn
    by_cases e : b = g
    · subst e; exact absurd (hM 0) (hn 0)
    · rw [(MapKept.heap_set hh).2 b e]; exact hk.block b hb hn
  cells := by
    intro b c e fz hb
    obtain ⟨c', h1, h2⟩ := hk.cells b c e fz hb
    by_cases e' : b = g
    · subst e'; rw [hh] at h1; cases h1
    · exact ⟨c', by rw [(MapKept.heap_set hh).2 b e']; exact h1, h2⟩

theorem op_makeMap (hrep : RepB Z M N w0 β σ a w) (hd : dstOk o.dst σ.nt = true) (hg : GoP Z M N w0 σ o qo next) {t : TypeId} {r : Option Operand} (ho : o.op = .makeMap t r)
    (h : pureR T o σ = some qo) : o.wp P a w next Q := by
  unfold pureR pureC at h
  rw [ho] at h
  simp only at h
  split at h
  · rename_i j hj
    split at h
    · rename_i hn
      obtain rfl := (Option.some.inj h).symm
      unfold GoP at hg
      rw [hj] at hd hg
      refine wp_val (v := .map (some w.heap.size)) (w' := w.alloc (.map #[] 0)) ?_ ?_
      · unfold execOp
        rw [ho]
        simp [Instr.makeMap]
      · rw [hj]
        have hal := MapKept.heap_alloc w (.map #[] 0)
        have hsz : (w.alloc (.map #[] 0)).heap.size = w.heap.size + 1 := by
          rw [show (w.alloc (.map #[] 0)).heap = w.heap.push (.map #[] 0) from rfl]; simp
        refine hg _ _ ⟨β.put j (some (w.heap.size, 0)), ?_⟩
        have hnew := hrep.new (ob := .map []) (q := some (w.heap.size, 0)) hn (hrep.below.alloc _) hal.2 (by omega) (fun b cap e _ => by
          simp only [Option.some.injEq, Prod.mk.injEq] at e; omega) (fun S' β' H' _ _ => ⟨w.heap.size, 0, #[], 0, rfl, hal.1, rfl⟩)
        have := hnew.set (i := j) (y := .s (.mp j)) (v := .map (some w.heap.size)) (by show j < σ.nt; simpa [dstOk] using hd) ((VV_s (by intros; simp)).2 (by
          simp only [VS, St.put, look_cons, if_true]
          exact ⟨w.heap.size, 0, put_same, rfl⟩))
        exact this
    · cases h
  · cases h

theorem op_lookup (hT : tabOk P T = true) (hrep : RepB Z M N w0 β σ a w) (hd : dstOk o.dst σ.nt = true) (hg : GoP Z M N w0 σ o qo next) {t : TypeId} {m x : Operand} {ok : Bool} (ho : o.op = .lookup t m x ok)
    (h : pureR T o σ = some qo) : o.wp P a w next Q := by
  unfold pureR pureC at h
  rw [ho] at h
  simp only at h
  split at h
  · rename_i tk b n htk hm hx
    split at h
    · rename_i es hb
      obtain rfl := val1_some h
      obtain ⟨hu, ⟨r, i, d, hrow⟩, q, hq, hqt⟩ := mapIn_sound hT (fun p hp => hp) htk
      obtain ⟨i2, d2, z2, hrow2⟩ := tab_row hT hq
      have e1 : a.eval x = .int .i64 n := VV_int (ev_sound hrep hx)
      have e2 : VS w (RO Z β σ.H) β σ.H (.mp b) (a.eval m) := (VV_s (by intros; simp)).1 (ev_sound hrep hm)
      simp only [VS, hb] at e2
      obtain ⟨g, base, hg1, hv⟩ := e2
      obtain ⟨g', base', arr, clock, hq1, hh, harr⟩ := hrep.obj b _ hb
      rw [hg1] at hq1
      simp only [Option.some.injEq, Prod.mk.injEq] at hq1
      obtain ⟨rfl, rfl⟩ := hq1
      have hd2 : d2 = .int .i64 := by
        have := hrow2.desc
        unfold descOk at this
        rw [hqt] at this
        cases d2 <;> first | (simp at this; done) | (have e := of_decide_eq_true this; subst e; rfl)
      subst hd2
      have hfk := MapKept.run_findKey (w := w) hrow2.under (findNow_x (n := n) (i := 0) ⟨.i64, rfl⟩ harr)
      have hck : (Instr.checkKey arr.isEmpty 10000 tk.2 (.int .i64 n)).run P w = .ok () w := MapKept.run_checkKey hrow2.under (by simp [MapKept.IsKey]) _ 9999
      refine wp_val (v := .bool (getM es n)) (w' := w) ?_ (hg _ _ ⟨β, hrep.val hd (VS_VV ⟨rfl, rfl⟩)⟩)
      unfold execOp
      rw [ho]
      simp only [e1, hv]
      have hlk : (Instr.lookup t (.map (some g)) (.int .i64 n) false).run P w = .ok (.bool (getM es n)) w := by
        have hfin := findX_get (xs := es) (n := n) (i := 0)
        simp only [Instr.lookup, Sem.run_bind, run_underlying hu, Result.andThen_ok, MapKept.run_getObj_map hh, Sem.run_pure, hck, hfk]
        cases hf : findX es n 0 with
        | none => rw [hf] at hfin; simp only at hfin; simp [hrow.run_zero, hfin]
        | some q => rw [hf] at hfin; simp only at hfin; simp [hfin]
      simp [hlk]
    · cases h
  · cases h

theorem op_mapUpdate {nm : Nat} (hT : tabOk P T = true) (hrep : RepB Z M N w0 β σ a w) (hg : GoOn Z M N w0 σ K y next) {t : TypeId} {m x v : Operand} (ho : o.op = .mapUpdate t m x v)
    (h : opR T G nm o σ K = some y) : o.wp P a w next Q := by
  unfold opR at h
  rw [ho] at h
  simp only at h
  split at h
  · rename_i tk b n yv hdst htk hm hx hyv
    split at h
    · rename_i es hb
      obtain ⟨hu, ⟨r, i, d, hrow⟩, q, hq, hqt⟩ := mapIn_sound hT (fun p hp => hp) htk
      obtain ⟨i2, d2, z2, hrow2⟩ := tab_row hT hq
      have e1 : a.eval x = .int .i64 n := VV_int (ev_sound hrep hx)
      have e3 : a.eval v = .bool yv := VV_bool (ev_sound hrep hyv)
      have e2 : VS w (RO Z β σ.H) β σ.H (.mp b) (a.eval m) := (VV_s (by intros; simp)).1 (ev_sound hrep hm)
      simp only [VS, hb] at e2
      obtain ⟨g, base, hg1, hv⟩ := e2
      obtain ⟨g', base', arr, clock, hq1, hh, harr⟩ := hrep.obj b _ hb
      rw [hg1] at hq1
      simp only [Option.some.injEq, Prod.mk.injEq] at hq1
      obtain ⟨rfl, rfl⟩ := hq1
      have hd2 : d2 = .int .i64 := by
        have := hrow2.desc
        unfold descOk at this
        rw [hqt] at this
        cases d2 <;> first | (simp at this; done) | (have e := of_decide_eq_true this; subst e; rfl)
      subst hd2
      have hfk := MapKept.run_findKey (w := w) hrow2.under (findNow_x (n := n) (i := 0) ⟨.i64, rfl⟩ harr)
      have hck : (Instr.checkKey false 10000 tk.2 (.int .i64 n)).run P w = .ok () w := MapKept.run_checkKey hrow2.under (by simp [MapKept.IsKey]) _ 9999
      have hmay := (hrep.own b _ g base hb rfl hg1).1
      have hall : ∀ i, M g i := hmay
      have hlen : arr.toList.length = es.length := by have := congrArg List.length harr; simpa using this
      have done : ∀ (arr' : Array MapEntry) (clock' : Nat), (Instr.mapUpdate t (.map (some g)) (.int .i64 n) (.bool yv)).run P w = .ok () { w with heap := w.heap.setIfInBounds g (.map arr' clock') } →
          arr'.toList.map (fun e => (e.key, e.val)) = (setM es n yv).map (fun p => (Value.int .i64 p.1, Value.bool p.2)) → o.wp P a w next Q := by
        intro arr' clock' hrun harr'
        refine wp_skip' (w' := { w with heap := w.heap.setIfInBounds g (.map arr' clock') }) ?_ (hg _ h rfl _ _ ⟨β, ?_⟩)
        · unfold execOp
          rw [ho]
          simp [e1, e3, hv, hrun]
        · rw [hdst]
          have hs := MapKept.heap_set (o' := .map arr' clock') hh
          exact hrep.turn hb rfl rfl hg1 (fun _ => ⟨⟨es, rfl⟩, rfl⟩) hmay (kept_map hrep.below hh hall) (by simp) hs.2 (fun S' H' _ _ => ⟨g, base, arr', clock', hg1, hs.1, harr'⟩)
      have hfs := findX_set (y := yv) (xs := es) (n := n) (i := 0)
      cases hf : findX es n 0 with
      | none =>
        rw [hf] at hfs hfk
        simp only at hfs
        refine done (arr.push { key := .int .i64 n, val := .bool yv, born := clock }) (clock + 1) ?_ (by rw [hfs]; simp [harr])
        simp [Instr.mapUpdate, run_underlying hu, MapKept.run_getObj_map hh, hck, hfk, MapKept.run_setObj_map _ hh, Result.andThen]
      | some q =>
        rw [hf] at hfs hfk
        simp only [Nat.zero_add] at hfs
        obtain ⟨j, h1, h2, h3, h4⟩ := hfs
        have hjl : j < arr.size := by rw [← Array.length_toList, hlen]; exact h2
        obtain ⟨p, hp⟩ : ∃ p, es[j]? = some p := ⟨_, List.getElem?_eq_getElem h2⟩
        have hpn : p.1 = n := by rw [hp] at h4; simpa using h4
        have hej : (arr[j]).key = .int .i64 n := by
          have := congrArg (fun l => l[j]?) harr
          simp only [List.getElem?_map, hp, Option.map_some, Array.getElem?_toList, Array.getElem?_eq_getElem hjl, Option.some.injEq, Prod.mk.injEq] at this
          rw [this.1, hpn]
        refine done (arr.modify j fun e => { e with key := .int .i64 n, val := .bool yv }) clock ?_ ?_
        · have hstay : (Instr.keyThatStays (.int .i64 n) (.int .i64 n)).run P w = .ok (.int .i64 n) w := by
            simp [Instr.keyThatStays, Instr.sameBits]
          have hst : (Instr.keyThatStays (((arr[q.1]?).map (·.key)).getD (.int .i64 n)) (.int .i64 n)).run P w = .ok (.int .i64 n) w := by
            rw [h1, Array.getElem?_eq_getElem hjl]
            simp only [Option.map_some, Option.getD_some, hej]
            exact hstay
          obtain ⟨q1, q2⟩ := q
          simp only at h1 hst
          simp only [Instr.mapUpdate, Sem.run_bind, run_underlying hu, Result.andThen_ok, MapKept.run_getObj_map hh, hck, hfk, hst, MapKept.run_setObj_map _ hh]
          rw [h1]
        · rw [h3, Array.toList_modify, List.map_set, ← harr]
          apply List.ext_getElem?
          intro k
          simp only [List.getElem?_map, List.getElem?_modify, List.getElem?_set]
          by_cases e : j = k
          · subst e
            have hjl' : j < arr.toList.length := by rw [hlen]; exact h2
            simp [hjl']
            rw [if_pos hjl, Array.getElem?_eq_getElem hjl]
            simp
          · simp [e]
    · cases h
  · cases h

end Go.Proofs.Yteddlkdbefloaaa.S
