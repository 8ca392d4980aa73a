/- Machinery S: from the reading of a law's arguments to data, and from its run back to the row's form. -/
import Derived.Test.YteddlkdbefloaaaSz
import Derived.ProofKit
import Derived.WideKeyArgs
namespace Go.Proofs.Yteddlkdbefloaaa.S
open Go Go.RowKit Go.ChangeShapes Go.WideShapes Go.ChangeAt
set_option linter.unusedVariables false
set_option linter.unusedSimpArgs false

/-- A struct's data is its fields' data, one behind another. -/
def rowStr (T : Tab) : Ty → List (Nat × TypeId) → Nat → Bool
  | .unit, [], _ => true
  | .pair a b, (o, t) :: r, off => decide (o = off) && (match look T t with | some q => decide (q.ty = a) | none => false) && rowStr T b r (off + sz a)
  | _, _, _ => false

def strOk (T : Tab) : Bool := T.all fun p => !(isAg p.2.ty) || rowStr T p.2.ty p.2.fields 0

/-- Numbers in their kind's range, lists that a machine can hold. -/
def inR : (t : Ty) → den t → Prop
  | .int k, n => k.min ≤ n ∧ n ≤ k.max
  | .bool, _ => True
  | .str, s => s.length ≤ maxLen
  | .unit, _ => True
  | .pair a b, x => inR a x.1 ∧ inR b x.2
  | .slice t, xs => xs.length ≤ maxLen ∧ ∀ x ∈ xs, inR t x

section
variable {H : Type} {enc : TypeId × Value → H} {P : Program} {T : Tab} {w : World} {base : Nat} {spare : Nat → Bool} {held : Bool}

theorem RowOk.cells {t : TypeId} {r : Row} {i : TypeInfo} {d : TypeDesc} {z : Value} (h : RowOk P T t r i d z) : P.cellsOf t = sz r.ty := by
  simp [Program.cellsOf, h.info, h.size]

theorem list_choose {α : Type} {p : Nat → α → Prop} : ∀ {n : Nat}, (∀ i, i < n → ∃ x, p i x) → ∃ xs : List α, xs.length = n ∧ ∀ i x, xs[i]? = some x → p i x
  | 0, _ => ⟨[], rfl, fun i x h => by simp at h⟩
  | n + 1, h => by
    obtain ⟨xs, hl, hx⟩ := list_choose (p := p) (n := n) fun i hi => h i (by omega)
    obtain ⟨y, hy⟩ := h n (by omega)
    refine ⟨xs ++ [y], by simp [hl], fun i x hi => ?_⟩
    rcases Nat.lt_or_ge i n with hlt | hge
    · rw [List.getElem?_append_left (by omega)] at hi; exact hx i x hi
    · rw [List.getElem?_append_right (by omega)] at hi
      have : i = n := by
        have := (List.getElem?_eq_some_iff.1 hi).1
        simp at this; omega
      subst this
      rw [hl] at hi; simp at hi; subst hi; exact hy

theorem RpL_of {α : Type} {R : α → List Value → Prop} {m : Nat} {F : Nat → Option Value} : ∀ {xs : List α} {k : Nat}, (∀ i x, xs[i]? = some x → ∃ cs, R x cs ∧ cs.length = m ∧ ∀ j, j < m → F ((k + i) * m + j) = cs[j]?) →
    ∃ rows, RpL R xs rows ∧ rows.length = xs.length * m ∧ ∀ j, j < rows.length → F (k * m + j) = rows[j]?
  | [], k, _ => ⟨[], rfl, by simp, fun j hj => by simp at hj⟩
  | x :: xs, k, h => by
    obtain ⟨cs, hc, hl, hF⟩ := h 0 x rfl
    obtain ⟨rows, h1, h2, h3⟩ := RpL_of (R := R) (m := m) (F := F) (xs := xs) (k := k + 1) fun i y hy => by
      obtain ⟨cs', a1, a2, a3⟩ := h (i + 1) y (by simpa using hy)
      exact ⟨cs', a1, a2, fun j hj => by rw [← a3 j hj, show k + 1 + i = k + (i + 1) by omega]⟩
    refine ⟨cs ++ rows, ⟨cs, rows, rfl, hc, h1⟩, by simp [hl, h2, Nat.add_mul]; omega, fun j hj => ?_⟩
    rcases Nat.lt_or_ge j m with hlt | hge
    · rw [List.getElem?_append_left (by omega), ← hF j hlt]; congr 1
    · rw [List.getElem?_append_right (by omega), hl, ← h3 (j - m) (by simp at hj; omega)]
      congr 1
      rw [Nat.add_mul]; omega

theorem fields_Rp {f : TypeId → List Value → Prop} (hf : ∀ t q, look T t = some q → ∀ cs, f t cs → ∃ d : den q.ty, Rp w (fun _ => True) q.ty d cs ∧ inR q.ty d) {cs : List Value} :
    ∀ {ty : Ty} {fl : List (Nat × TypeId)} {off : Nat}, rowStr T ty fl off = true → cs.length = off + sz ty → (∀ p ∈ fl, ∀ q, look T p.2 = some q → f p.2 ((cs.drop p.1).take (sz q.ty))) →
    ∃ d : den ty, Rp w (fun _ => True) ty d (cs.drop off) ∧ inR ty d
  | .unit, [], off, _, hl, _ => ⟨(), by
      have : cs.drop off = [] := List.drop_of_length_le (by simp [sz] at hl; omega)
      rw [this]; exact ⟨rfl, trivial⟩⟩
  | .pair a b, (o, t) :: r, off, h, hl, hp => by
    simp only [rowStr, Bool.and_eq_true, decide_eq_true_eq] at h
    obtain ⟨⟨rfl, h1⟩, h2⟩ := h
    split at h1
    · rename_i q hq
      have e : q.ty = a := of_decide_eq_true h1
      subst e
      obtain ⟨d1, r1, i1⟩ := hf t q hq _ (hp (o, t) (by simp) q hq)
      obtain ⟨d2, r2, i2⟩ := fields_Rp hf (ty := b) (fl := r) (off := o + sz q.ty) h2 (by simp [sz] at hl; omega) fun p hpm => hp p (by simp [hpm])
      refine ⟨(d1, d2), ⟨_, _, ?_, r1, r2⟩, i1, i2⟩
      rw [← List.drop_drop, List.take_append_drop]
    · cases h1
  | .unit, _ :: _, _, h, _, _ => by simp [rowStr] at h
  | .pair _ _, [], _, h, _, _ => by simp [rowStr] at h
  | .int _, _, _, h, _, _ => by simp [rowStr] at h
  | .bool, _, _, h, _, _ => by simp [rowStr] at h
  | .str, _, _, h, _, _ => by simp [rowStr] at h
  | .slice _, _, _, h, _, _ => by simp [rowStr] at h

theorem cell_block {a : Addr} {v : Value} (h : w.cell? a = some v) : ∃ c e fz, w.heap[a.block]? = some (.cells c e fz) ∧ c[a.off]? = some v ∧ a.spot = none := by
  unfold World.cell? at h
  split at h
  · rename_i c e fz hh
    split at h
    · cases h
    · rename_i hs
      exact ⟨c, e, fz, hh, h, by cases hq : a.spot <;> simp [hq] at hs ⊢⟩
  · cases h

/-- What is read is data. -/
theorem trod_Rp (hT : tabOk P T = true) (hS : strOk T = true) : ∀ (fuel : Nat) (t : TypeId) (r : Row) (cs : List Value) (x : DataW H × List MemPlace), look T t = some r → DataW.trod enc P w base spare held fuel t cs = some x →
    ∃ d : den r.ty, Rp w (fun _ => True) r.ty d cs ∧ inR r.ty d := by
  intro fuel
  induction fuel with
  | zero => intro t r cs x _ h; simp [DataW.trod] at h
  | succ fuel ih =>
    intro t r cs x hr h
    obtain ⟨i, d, z, hrow⟩ := tab_row hT hr
    have hu := hrow.under
    have hd := hrow.desc
    have hc := hrow.cells
    have he := hrow.elem
    have hs := List.all_eq_true.1 hS _ (look_mem hr)
    obtain ⟨ty, fields, elem, bytes⟩ := r
    simp only at hd hc he hs ⊢
    have agg : isAg ty = true → ∃ d : den ty, Rp w (fun _ => True) ty d cs ∧ inR ty d := by
      intro hag
      rw [hag] at hs
      obtain ⟨fs, rfl, hfs⟩ := hrow.fields hag
      obtain ⟨xs, n, e1, _, hl, hlen, hx⟩ := DataW.trod_struct hu h
      obtain rfl := Nat.succ.inj e1
      have := fields_Rp (T := T) (w := w) (f := fun t cs => ∃ y, DataW.trod enc P w base spare held fuel t cs = some y) (fun t q hq cs ⟨y, hy⟩ => ih t q cs y hq hy) (cs := cs) (ty := ty) (fl := fields) (off := 0)
        (by simpa using hs) (by rw [hl, hc]; omega) (fun p hp q hq => by
          have hp' : p ∈ List.map (fun f : Field => (f.offset, f.type)) fs.toList := by rw [hfs]; exact hp
          obtain ⟨f, hf, rfl⟩ := List.mem_map.1 hp'
          obtain ⟨k, hk, he⟩ := List.getElem_of_mem hf
          have hk' : fs[k]? = some f := by
            rw [Array.getElem?_eq_getElem (by simpa using hk)]
            simpa using he
          obtain ⟨i2, d2, z2, hrow2⟩ := tab_row hT hq
          rw [← hrow2.cells, hx k f hk']
          have hkx : k < xs.length := by rw [hlen]; simpa using hk
          exact ⟨xs[k], List.getElem?_eq_getElem hkx⟩)
      simpa using this
    cases ty with
    | int k =>
      simp only [descOk] at hd
      cases d <;> first | (simp at hd; done) | skip
      simp only [decide_eq_true_eq] at hd
      subst hd
      obtain ⟨n, rfl, _, hw⟩ := DataW.trod_int hu h
      simp only [Lit.wf, Bool.and_eq_true, decide_eq_true_eq] at hw
      exact ⟨n, rfl, hw⟩
    | bool =>
      simp only [descOk] at hd
      cases d <;> first | (simp at hd; done) | skip
      obtain ⟨b, rfl, _⟩ := DataW.trod_bool hu h
      exact ⟨b, rfl, trivial⟩
    | str =>
      simp only [descOk] at hd
      cases d <;> first | (simp at hd; done) | skip
      obtain ⟨s, rfl, _, hw⟩ := DataW.trod_string hu h
      exact ⟨s.data.toList, rfl, by show s.data.toList.length ≤ maxLen; rw [Array.length_toList]; exact hw⟩
    | unit => exact agg rfl
    | pair a b => exact agg rfl
    | slice u =>
      simp only [descOk] at hd
      cases d <;> first | (simp at hd; done) | skip
      rename_i e
      simp only [decide_eq_true_eq] at hd
      subst hd
      simp only [elemOk] at he
      split at he
      · rename_i q hq
        simp only [Bool.and_eq_true, decide_eq_true_eq] at he
        obtain ⟨rfl, hpos⟩ := he
        obtain ⟨i2, d2, z2, hrow2⟩ := tab_row hT hq
        have hce := hrow2.cells
        rcases DataW.trod_slice hu h with ⟨rfl, _⟩ | ⟨a, len, cap, elems, rest, n, e1, rfl, _, hb, hl, hm, hlen, hel, _, _⟩
        · exact ⟨[], ⟨none, 0, rfl, by simp, fun hx => absurd rfl hx⟩, Nat.zero_le _, fun x hx => by simp at hx⟩
        · obtain rfl := Nat.succ.inj e1
          have each : ∀ i, i < len → ∃ d : den q.ty, ∃ cs', w.cells? base (a.add (i * sz q.ty)) (sz q.ty) = some cs' ∧ Rp w (fun _ => True) q.ty d cs' ∧ inR q.ty d := by
            intro i hi
            have := hel i hi
            rw [List.getElem?_eq_getElem (by omega), hce] at this
            obtain ⟨cs', h1, h2⟩ := Option.bind_eq_some_iff.1 this
            obtain ⟨d, h3, h4⟩ := ih _ q cs' _ hq h2
            exact ⟨d, cs', h1, h3, h4⟩
          obtain ⟨xs, hxl, hx⟩ := list_choose each
          refine ⟨xs, ⟨some a, cap, by rw [hxl], by omega, fun hne => ?_⟩, by simp only [inR]; exact ⟨by omega, fun x hxm => by
            obtain ⟨i, hi⟩ := List.getElem?_of_mem hxm
            obtain ⟨_, _, _, h⟩ := hx i x hi
            exact h⟩⟩
          have h0 : 0 < len := by rw [← hxl]; exact List.length_pos_iff.2 hne
          obtain ⟨d0, cs0, hc0, hr0, _⟩ := each 0 h0
          obtain ⟨_, hl0, hg0⟩ := World.cells?_some hc0
          have hlt0 : 0 < cs0.length := by omega
          have hcell0 := hg0 0 hpos
          rw [List.getElem?_eq_getElem hlt0] at hcell0
          obtain ⟨c, el, fz, hh, _, hsp⟩ := cell_block hcell0
          simp [Addr.add] at hh hsp
          obtain ⟨rows, hrows, hrl, hF⟩ := RpL_of (R := Rp w (fun _ => True) q.ty) (m := sz q.ty) (F := fun j => c[a.off + j]?) (xs := xs) (k := 0) (fun i y hy => by
            obtain ⟨cs', h1, h2, h3⟩ := hx i y hy
            obtain ⟨_, h4, h5⟩ := World.cells?_some h1
            refine ⟨cs', h2, h4, fun j hj => ?_⟩
            have h6 := h5 j hj
            rw [List.getElem?_eq_getElem (by omega)] at h6 ⊢
            obtain ⟨c', e', fz', h7, h8, _⟩ := cell_block h6
            have hblk : ((a.add (i * sz q.ty)).add j).block = a.block := by
              unfold Addr.add; split <;> split <;> rfl
            have hoff : ((a.add (i * sz q.ty)).add j).off = a.off + (i * sz q.ty + j) := by
              unfold Addr.add
              split <;> split <;> simp_all <;> omega
            rw [hblk, hh] at h7
            simp only [Option.some.injEq, Obj.cells.injEq] at h7
            rw [hoff, ← h7.1] at h8
            rw [Nat.zero_add]; exact h8)
          refine ⟨a.block, a.off, by cases a; simp_all, trivial, rows, hrows, c, el, fz, hh, fun i hi => ?_⟩
          have := hF i hi
          simpa using this
      · cases he

/-- Do the parameters' kinds agree with their types? -/
def psTy (T : Tab) : List TypeId → List PK → Bool
  | [], [] => true
  | t :: ts, .val u :: ps => (match look T t with | some r => decide (r.ty = u) | none => false) && psTy T ts ps
  | _, _ => false

def inRP : (ps : List PK) → denP ps → Prop
  | [], _ => True
  | .val t :: r, x => inR t x.1 ∧ inRP r x.2
  | _ :: _, _ => True

theorem okWide_Val (hT : tabOk P T = true) {t : TypeId} {r : Row} (hr : look T t = some r) {rc : Reach} {b0 : Nat} {v : Value} (hv : Value.okWide P w rc b0 t v) {cs : List Value} (hcs : v.cells.toList = cs) {d : den r.ty} (hd : Rp w (fun _ => True) r.ty d cs) : Val r.ty v cs := by
  obtain ⟨i, dd, z, hrow⟩ := tab_row hT hr
  have hu := hrow.under
  have hdesc := hrow.desc
  unfold Val
  split
  · rename_i hag
    obtain ⟨fs, rfl, _⟩ := hrow.fields hag
    unfold Value.okWide at hv
    rw [hu] at hv
    simp only at hv
    obtain ⟨c, rfl, _⟩ := hv
    simp [Value.cells] at hcs
    rw [← hcs]
  · rename_i hag
    have hone : ∀ c, v ≠ .agg c := by
      intro c e
      subst e
      unfold Value.okWide at hv
      rw [hu] at hv
      unfold descOk at hdesc
      cases hty : r.ty <;> rw [hty] at hdesc hag <;> first | (exact absurd rfl hag) | skip
      all_goals (cases dd <;> simp at hdesc)
      all_goals (simp [Cell.okWide, hu, Cell.ok] at hv)
    have : v.cells = #[v] := by
      cases v <;> first | rfl | exact absurd rfl (hone _)
    rw [this] at hcs
    simpa using hcs.symm

theorem args_read (hT : tabOk P T = true) (hS : strOk T = true) {rc : Reach} {b0 : Nat} : ∀ {ts : List TypeId} {ps : List PK} {vs : List Value} {ds : List (DataW H)} {pl : List MemPlace} {i : Nat}, psTy T ts ps = true → DataW.TrodAll enc P w base spare held ts vs ds pl →
    (∀ (j : Nat) t v, ts[j]? = some t → vs[j]? = some v → Value.okWide P w rc b0 t v) → ∃ x : denP ps, ArgsR w (fun _ => True) (fun _ => True) noB i ps x vs [] ∧ inRP ps x
  | [], [], [], [], _, _, _, _, _ => ⟨(), ⟨rfl, rfl⟩, trivial⟩
  | t :: ts, .val u :: ps, v :: vs, d :: ds, _, i, h, ⟨p, q, ⟨fuel, h1⟩, h2, _⟩, hv => by
    simp only [psTy, Bool.and_eq_true] at h
    obtain ⟨h3, h4⟩ := h
    split at h3
    · rename_i r hr
      have e : r.ty = u := of_decide_eq_true h3
      subst e
      obtain ⟨x, hx, hin⟩ := trod_Rp hT hS fuel t r _ _ hr h1
      obtain ⟨y, hy, hyn⟩ := args_read hT hS (ps := ps) (i := i + 1) h4 h2 fun j t v ht hvj => hv (j + 1) t v (by simpa using ht) (by simpa using hvj)
      exact ⟨(x, y), ⟨v, vs, rfl, ⟨_, okWide_Val hT hr (hv 0 t v rfl rfl) rfl hx, hx⟩, hy⟩, hin, hyn⟩
    · cases h3

/-- What is old stays. -/
theorem kept_heap {W W' : World} (hk : Kept (fun b _ => W.heap.size ≤ b) W W') {b : Nat} (hb : b < W.heap.size) : W'.heap[b]? = W.heap[b]? :=
  hk.block b hb fun i hi => by omega

theorem kept_same {W W' : World} (hk : Kept (fun b _ => W.heap.size ≤ b) W W') {p : MemPlace} (hp : p.block < W.heap.size) : W.sameAt W' p := by
  cases p with
  | cell b off =>
    have := kept_heap hk hp
    simp only [MemPlace.block] at this
    simp only [World.sameAt, World.cell?]; rw [this]
  | map b => simp only [World.sameAt]; exact kept_heap hk hp

theorem kept_but {W W' : World} (hk : Kept (fun b _ => W.heap.size ≤ b) W W') (may : MemPlace → Prop) : W.keptBut W' may := by
  refine ⟨hk.os, hk.output, fun i hi => ?_⟩
  rw [kept_heap hk hi]
  cases h : W.heap[i]? with
  | none => rfl
  | some o => cases o <;> simp

theorem trodAll_stays (hl : laidOutB P = true) {W W' : World} {sp' : Nat → Bool} : ∀ {ts : List TypeId} {vs : List Value} {ds : List (DataW H)} {pl : List MemPlace}, (∀ t ∈ ts, P.readableRec t = true ∧ t < P.types.size) →
    DataW.TrodAll enc P W base (fun _ => true) true ts vs ds pl → (∀ p ∈ pl, W.sameAt W' p) → (∀ p ∈ pl, sp' p.block = true) → DataW.TrodAll enc P W' base sp' true ts vs ds pl
  | [], [], [], _, _, h, _, _ => h
  | t :: ts, v :: vs, d :: ds, _, hr, ⟨p, q, h1, h2, e⟩, hs, hb => by
    subst e
    exact ⟨p, q, Go.WideElems.Trod_stays hl (hr t (by simp)).1 (hr t (by simp)).2 h1 (fun x hx => hs x (List.mem_append_left _ hx)) (fun x hx => hb x (List.mem_append_left _ hx)),
      trodAll_stays hl (fun t ht => hr t (by simp [ht])) h2 (fun x hx => hs x (List.mem_append_right _ hx)) (fun x hx => hb x (List.mem_append_right _ hx)), rfl⟩

/-- The row's form behind the run of a law that answers true. -/
theorem law_post {f : Func} {s : ChangeSpec} {apart fresh handsOn again : Bool} {W W' : World} {args : Array Value} {ds gs : List (DataW H)} {before : List MemPlace} {tb : TypeId} (hl : laidOutB P = true)
    (hr : ∀ t ∈ f.params.toList, P.readableRec t = true ∧ t < P.types.size) (hb : P.underlying tb = some .bool) (hres : f.resultTypes = #[tb]) (hvs : s.vars = [])
    (hsp : ∀ ds : List (DataW H), ds.length = f.params.size → s.fn H ds = { results := [.lit (.bool true)], args := ds }) (hW : DataW.Whole enc P f.params.toList s.vars apart W args.toList ds gs before)
    (hk : Kept (fun b _ => W.heap.size ≤ b) W W') : s.post enc P f apart fresh handsOn again W args (.bool true) W' := by
  have hW0 := hW
  obtain ⟨p, q, hA, hV, rfl, hz, hn⟩ := hW
  rw [hvs] at hV
  have hgq : gs = [] ∧ q = [] := by
    cases gs with
    | nil => exact ⟨rfl, hV⟩
    | cons g gs => exact hV.elim
  obtain ⟨rfl, rfl⟩ := hgq
  have hlen : ∀ {ts : List TypeId} {vs : List Value} {ds : List (DataW H)} {pl : List MemPlace}, DataW.TrodAll enc P W 0 (fun _ => true) true ts vs ds pl → ds.length = ts.length := by
    intro ts
    induction ts with
    | nil =>
      intro vs ds pl h
      cases vs with
      | nil => cases ds with
        | nil => rfl
        | cons _ _ => exact h.elim
      | cons _ _ => exact h.elim
    | cons t ts ih =>
      intro vs ds pl h
      cases vs with
      | nil => exact h.elim
      | cons v vs => cases ds with
        | nil => exact h.elim
        | cons d ds =>
          obtain ⟨p, q, _, h2, _⟩ := h
          simp [ih h2]
  have hsp' := hsp (ds ++ []) (by rw [List.append_nil, hlen hA]; simp)
  have hold : ∀ x ∈ p, x.block < W.heap.size := fun x hx => hW0.lt x (List.mem_append_left _ hx)
  have hargs : ∀ sp : Nat → Bool, (∀ x ∈ p, sp x.block = true) → DataW.TrodAll enc P W' 0 sp true f.params.toList args.toList ds p := fun sp hsp =>
    trodAll_stays hl hr hA (fun x hx => kept_same hk (hold x hx)) hsp
  have hresT : ∀ (b : Nat) (sp : Nat → Bool) (hd : Bool), DataW.TrodAll enc P W' b sp hd f.resultTypes.toList ((Value.bool true).resultList f.resultTypes.size) [.lit (.bool true)] [] := fun b sp hd => by
    rw [hres]
    exact ⟨[], [], shut_bool hb true, rfl, rfl⟩
  refine ⟨ds, [], p ++ [], [], p, [], hW0, ?_, ?_, ?_, kept_but hk _, fun _ => ⟨?_, [.lit (.bool true)] ++ ds, [], p, ⟨p, [], ?_, by rw [hvs]; exact rfl, by simp, ?_, ?_⟩, fun x hx _ => by simpa using hx⟩⟩
  · rw [hsp']; exact hresT _ _ _
  · rw [hsp', List.append_nil]; exact hargs _ fun x hx => by simpa using hold x hx
  · rw [hvs, hsp']; rfl
  · exact ok_one hres rfl (okWide_bool_mk hb _)
  · have := trodAll_append (hargs (fun _ => true) fun _ _ => rfl) (hresT 0 (fun _ => true) true)
    simpa using this
  · intro b off hp
    have hlt := hold _ hp
    have := hz b off (List.mem_append_left _ hp)
    simp only [World.frozen?] at this ⊢
    simp only [MemPlace.block] at hlt
    rw [kept_heap hk hlt]; exact this
  · intro ha
    have := hn ha
    simpa using this

/-- A law's run. -/
theorem law_run {f : FuncId} {cn : Con} (hs : Sound P f cn) (hrs : cn.rs = [.s (.dat .bool)]) (hT : tabOk P T = true) (hS : strOk T = true) {rc : Reach} {b0 : Nat} {ts : List TypeId} {args : Array Value} {ds : List (DataW H)} {pl : List MemPlace}
    (hps : psTy T ts cn.ps = true) (hbx : parBx 0 cn.ps = [] ∧ parRw 0 cn.ps = []) (hA : DataW.TrodAll enc P w base spare held ts args.toList ds pl) (hv : ∀ (j : Nat) t v, ts[j]? = some t → args[j]? = some v → Value.okWide P w rc b0 t v)
    (hF : ∀ x, inRP cn.ps x → ∃ y, cn.F x = some y ∧ ∀ vs F1 w' S Q B, VKsR w' S Q B cn.rs y.1 vs F1 → vs = [.bool true]) (hnl : cn.nl = false := by rfl) : Calls P f args w fun e w' => e = .returned (.bool true) ∧ Kept (fun b _ => w.heap.size ≤ b) w w' := by
  obtain ⟨x, hx, hin⟩ := args_read (i := 0) hT hS hps hA fun j t v ht hvj => hv j t v ht (by simpa using hvj)
  obtain ⟨y, hy, hyv⟩ := hF x hin
  have hpre : Pre (fun b _ => w.heap.size ≤ b) w cn.ps (fun _ => True) (fun _ => True) noB [] :=
    { fresh := fun b hb _ => hb
      nodup := by simp
      mine := fun b hb => by simp at hb
      box := fun o b base h => by simp [noB] at h
      row := fun o q n h => by simp [noB] at h
      inj := fun o o' b base base' h => by simp [noB] at h
      data := fun b _ _ => ⟨by simp, fun o base h => by simp [noB] at h⟩
      ptr := fun b _ => ⟨by simp, fun o base h => by simp [noB] at h⟩ }
  have := hs x y hy w args.toList _ _ _ _ _ hpre hx (by rw [hnl]; trivial)
  rw [Array.toArray_toList] at this
  refine this.mono fun e w' hp => ?_
  obtain ⟨v, rfl, hk, vs, F1, F2, rfl, hvk, _⟩ := hp
  have := hyv vs F1 w' _ _ _ hvk
  subst this
  exact ⟨rfl, hk⟩

end
end Go.Proofs.Yteddlkdbefloaaa.S
