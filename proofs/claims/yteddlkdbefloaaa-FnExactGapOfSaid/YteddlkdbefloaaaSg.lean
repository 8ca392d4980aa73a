/- Soundness of the machinery S, operation by operation, the third part: arithmetic, places, fields. -/
import Derived.Test.YteddlkdbefloaaaSf
import Derived.Laws.Concat
import Derived.Laws.Strings
import Derived.Laws.Small
import Derived.Laws.StructEq
namespace Go.Proofs.Yteddlkdbefloaaa.S
open Go Go.RowKit
set_option linter.unusedVariables false
set_option linter.unusedSimpArgs false

section ops
variable {P : Program} {T : Tab} {G : Env} {Z : Nat → Prop} {M : Nat → Nat → Prop} {N : Nat → Option (Option (Nat × Nat))} {w0 w w' : World} {β : Names} {σ : St} {a : Act} {o : Oper} {next : Act → World → Prop} {Q : Exit → Act → World → Prop} {v : Value}
variable {R : Type} {K : St → Option R} {y : R} {S : Nat → Prop} {H : Heap} {qo : Out}

theorem bytes_ext {a b : ByteArray} (h : a.data.toList = b.data.toList) : a = b := by
  cases a; cases b; congr; exact Array.toList_inj.1 h

theorem op_nilCheck (hrep : RepB Z M N w0 β σ a w) (hd : dstOk o.dst σ.nt = true) (hg : GoP Z M N w0 σ o qo next) {x : Operand} (ho : o.op = .nilCheck x)
    (h : pureR T o σ = some qo) : o.wp P a w next Q := by
  unfold pureR pureC at h
  rw [ho] at h
  simp only at h
  have run : ∀ q, a.eval x = .pointer (some q) → (execOp a.eval o).run P w = .ok (.value (a.eval x)) w := by
    intro q he
    unfold execOp
    rw [ho]
    simp [he]
  split at h
  · rename_i b off hx
    have hv := ev_sound hrep hx
    have h1 := (VV_s (by intros; simp)).1 hv
    split at h
    · rename_i hb
      simp only [VS, hb] at h1
      obtain ⟨g, cap, _, e⟩ := h1
      obtain rfl := val1_some h
      exact wp_val (run _ e) (hg _ _ ⟨β, hrep.val hd hv⟩)
    · cases h
  · rename_i u z hx
    have hv := ev_sound hrep hx
    obtain ⟨b, off, cs, e, _⟩ := VV_pd hv
    obtain rfl := val1_some h
    exact wp_val (run _ e) (hg _ _ ⟨β, hrep.val hd hv⟩)
  · rename_i b i off hx
    have hv := ev_sound hrep hx
    have h1 := (VV_s (by intros; simp)).1 hv
    split at h
    · rename_i hb
      simp only [VS, hb] at h1
      obtain ⟨_, g, cap, _, e⟩ := h1
      obtain rfl := val1_some h
      exact wp_val (run _ e) (hg _ _ ⟨β, hrep.val hd hv⟩)
    · cases h
  · cases h

theorem bin_sound {op : BinOp} {k : IntKind} {x z : Int} {r : S1} (h : bin op k x z = some r) (hns : isShift op = false) (t : TypeId) :
    ∃ u, (binOp op t (.int k x) (.int k z)).run P w = .ok u w ∧ VS w S β H r u := by
  cases op <;> simp only [bin, isShift, reduceCtorEq, ltI_eq, leI_eq] at h hns <;> first
    | (cases h; done)
    | (obtain rfl := Option.some.inj h; refine ⟨_, by simp [binOp, Op.intArith, Op.intBits, Op.intCmp]; rfl, ⟨rfl, ?_⟩⟩; simp [Rp])
    | skip
  all_goals
    split at h
    · cases h
    · rename_i hz
      obtain rfl := Option.some.inj h
      exact ⟨_, by simp [binOp, Op.intDiv, hz] <;> rfl, ⟨rfl, rfl⟩⟩

theorem shf_sound {op : BinOp} {k l : IntKind} {x z : Int} {r : S1} (h : shf op k x z = some r) (t : TypeId) :
    ∃ u, (binOp op t (.int k x) (.int l z)).run P w = .ok u w ∧ VS w S β H r u := by
  unfold shf at h
  split at h
  · cases h
  · rename_i hz
    cases op <;> simp only [reduceCtorEq] at h <;> first
      | (cases h; done)
      | (obtain rfl := Option.some.inj h; exact ⟨_, by simp [binOp, Op.shift, hz] <;> rfl, ⟨rfl, rfl⟩⟩)

theorem binC_bind {R : Type} {t : TypeId} {op : BinOp} {x z : SV} {K : S1 → Option R} : binC T t op x z K = (bin2 T t op x z).bind K := by
  unfold binC
  split <;> (try rfl)
  · simp only [bin2, isShift, bin, Bool.false_eq_true, if_false]
    split
    · split <;> rfl
    · rfl
  · simp only [bin2, isShift, bin, Bool.false_eq_true, if_false]
    split
    · split <;> rfl
    · rfl
  · simp only [bin2, isShift, shf, if_true]
    split <;> rfl
  · simp only [bin2, isShift, shf, if_true]
    split <;> rfl
  · simp only [bin2]
    split <;> rfl

theorem cell1_nil {t : Ty} {c : S1} {x : den t} (h : cell1 false [] t c = some x) : cell1 false H t c = some x := by
  cases c <;> first | exact h | (simp [cell1, look] at h; done)

theorem gat_nil : ∀ {t : Ty} {cs : List S1} {x : den t} {r : List S1}, gat false [] t cs = some (x, r) → gat false H t cs = some (x, r) := by
  intro t
  induction t with
  | unit => intro cs x r h; exact h
  | pair p q ihp ihq =>
    intro cs x r h
    simp only [gat] at h ⊢
    split at h
    · rename_i x1 r1 h1
      split at h
      · rename_i y1 r2 h2
        rw [ihp h1]
        simp only
        rw [ihq h2]
        exact h
      · cases h
    · cases h
  | _ =>
    intro cs x r h
    cases cs with
    | nil => simp [gat] at h
    | cons c cs =>
      simp only [gat] at h ⊢
      split at h
      · rename_i y hy
        rw [cell1_nil hy]
        exact h
      · cases h

theorem toD_nil {t : Ty} {x : SV} {y : den t} (h : toD false [] t x = some y) : toD false H t x = some y := by
  cases x with
  | s c => exact cell1_nil h
  | g cs =>
    simp only [toD] at h ⊢
    split at h
    · rename_i ha
      rw [if_pos ha]
      split at h
      · rename_i z hz
        rw [gat_nil hz]
        exact h
      · cases h
    · cases h

theorem part_one (hT : tabOk P T = true) {u : TypeId} {q : Row} (hq : look T u = some q) (ha : isAg q.ty = false) {xs : Array Value} {off : Nat} {v : Value} (hv : xs[off]? = some v) : (part u xs off).run P w = .ok v w := by
  obtain ⟨i, d, z, hrow⟩ := tab_row hT hq
  simp [part, hrow.run_isAgg, ha, hv]

theorem eqFields_run (hT : tabOk P T = true) {dep : Nat} : ∀ (fs : List Field) (k : Nat) (ty : Ty) (x y : den ty) (p1 p2 c1 c2 : List Value), eqRow T k ty (fs.map fun f => (f.offset, f.type)) = true → (∀ f ∈ fs, f.name ≠ "_") →
    Rp w S ty x c1 → Rp w S ty y c2 → p1.length = k → p2.length = k → (Op.eqFields (dep + 1) (p1 ++ c1).toArray (p2 ++ c2).toArray fs).run P w = .ok (eqD ty x y) w
  | [], k, ty, x, y, p1, p2, c1, c2, h, _, _, _, _, _ => by
    cases ty <;> first | (simp [eqRow] at h; done) | skip
    simp [Op.eqFields, eqD]
  | f :: fs, k, ty, x, y, p1, p2, c1, c2, h, hn, h1, h2, hp1, hp2 => by
    cases ty <;> first | (simp [eqRow] at h; done) | skip
    rename_i a b
    simp only [List.map_cons, eqRow, Bool.and_eq_true, decide_eq_true_eq] at h
    obtain ⟨⟨⟨hoff, hlk⟩, hprim⟩, hrest⟩ := h
    split at hlk
    · rename_i q hq
      have hqa : q.ty = a := by simpa using hlk
      obtain ⟨a1, b1, rfl, ha1, hb1⟩ := h1
      obtain ⟨a2, b2, rfl, ha2, hb2⟩ := h2
      have hnm : f.name ≠ "_" := hn f (by simp)
      obtain ⟨i, d, z, hrow⟩ := tab_row hT hq
      have hd := hrow.desc
      unfold descOk at hd
      have go : ∀ (v1 v2 : Value) (r : Bool), isAg q.ty = false → a1 = [v1] → a2 = [v2] → (Op.equalIn (dep + 1) f.type v1 v2).run P w = .ok r w → r = eqD a x.1 y.1 →
          (Op.eqFields (dep + 1) (p1 ++ (a1 ++ b1)).toArray (p2 ++ (a2 ++ b2)).toArray (f :: fs)).run P w = .ok (eqD (.pair a b) x y) w := by
        intro v1 v2 r hag e1 e2 hr her
        subst e1; subst e2
        have g1 : (part f.type (p1 ++ ([v1] ++ b1)).toArray f.offset).run P w = .ok v1 w := part_one hT hq hag (by simp [hoff, ← hp1])
        have g2 : (part f.type (p2 ++ ([v2] ++ b2)).toArray f.offset).run P w = .ok v2 w := part_one hT hq hag (by simp [hoff, ← hp2])
        have ih := eqFields_run hT (dep := dep) fs (k + 1) b x.2 y.2 (p1 ++ [v1]) (p2 ++ [v2]) b1 b2 hrest (fun f hf => hn f (by simp [hf])) hb1 hb2 (by simp [hp1]) (by simp [hp2])
        rw [List.append_assoc, List.append_assoc] at ih
        simp only [Op.eqFields, if_pos hnm, Sem.run_bind, g1, Result.andThen_ok, g2, hr]
        cases r with
        | false => simp [eqD, ← her]
        | true =>
          simp only [Bool.not_true, Bool.false_eq_true, if_false]
          rw [ih]
          simp [eqD, ← her]
      cases a <;> first | (simp at hprim; done) | skip
      · rename_i kk
        simp only [Rp] at ha1 ha2
        rw [hqa] at hd
        cases d <;> first | (simp at hd; done) | skip
        exact go _ _ _ (by rw [hqa]; rfl) ha1 ha2 (run_equalIn_int w dep f.type kk _ _ _ hrow.under) rfl
      · simp only [Rp] at ha1 ha2
        rw [hqa] at hd
        cases d <;> first | (simp at hd; done) | skip
        exact go _ _ _ (by rw [hqa]; rfl) ha1 ha2 (run_equalIn_bool w dep f.type _ _ hrow.under) rfl
      · simp only [Rp] at ha1 ha2
        rw [hqa] at hd
        cases d <;> first | (simp at hd; done) | skip
        exact go _ _ _ (by rw [hqa]; rfl) ha1 ha2 (run_equalIn_string w dep f.type _ _ hrow.under) (by simp [eqD, ByteArray.toList_eq])
    · cases hlk

theorem eqA_sound (hT : tabOk P T = true) (hO : Owns w (RO Z β H) β H) {t : TypeId} {op : BinOp} {va vb : SV} {u1 u2 : Value} {r : S1} (h1 : VV w (RO Z β H) β H va u1) (h2 : VV w (RO Z β H) β H vb u2) (h : eqA T t op va vb = some r) (x z : Operand) :
    ∃ u, (do eqGuard op t x z u1 u2; binOp op t u1 u2 : Sem Value).run P w = .ok u w ∧ VS w (RO Z β H) β H r u := by
  unfold eqA at h
  split at h
  · rename_i q hq
    split at h
    · rename_i hag
      split at h
      · rename_i x1 y1 hx hy
        obtain ⟨i, d, z0, hrow⟩ := tab_row hT hq
        have he := hrow.eqs
        unfold eqOk at he
        rw [hag] at he
        simp only [Bool.and_eq_true, Bool.not_eq_true'] at he
        obtain ⟨⟨⟨e1, e2⟩, e3⟩, e4⟩ := he
        have ha : isAg q.ty = true := by simp only [Bool.and_eq_true] at hag; exact hag.1
        obtain ⟨fs, rfl, hfs⟩ := hrow.fields ha
        obtain ⟨c1, hv1, hr1⟩ := toD_sound (own := false) (S' := RO Z β H) hO (fun _ _ _ h => h) (by simp) h1 (toD_nil hx)
        obtain ⟨c2, hv2, hr2⟩ := toD_sound (own := false) (S' := RO Z β H) hO (fun _ _ _ h => h) (by simp) h2 (toD_nil hy)
        simp only [Val, ha, if_true] at hv1 hv2
        subst hv1; subst hv2
        have hfo : P.fieldsOf t = fs := by simp [Program.fieldsOf, hrow.under]
        have hrun : (Op.equalIn 10000 t (.agg c1.toArray) (.agg c2.toArray)).run P w = .ok (eqD q.ty x1 y1) w := by
          rw [show (10000 : Nat) = (9998 + 1) + 1 from rfl, run_equalIn_struct w (9998 + 1) t _ _ (by rw [hrow.under, hfo]) e1, hfo]
          have := eqFields_run (w := w) (S := RO Z β H) hT (dep := 9998) fs.toList 0 q.ty x1 y1 [] [] c1 c2 (by rw [hfs]; exact e3) (fun f hf => by
            have := List.all_eq_true.1 e4 f hf
            simpa using this) hr1 hr2 rfl rfl
          simpa using this
        split at h
        · obtain rfl := Option.some.inj h
          refine ⟨.bool (eqD q.ty x1 y1), ?_, rfl, rfl⟩
          simp only [Sem.run_bind, run_eqGuard_agg w .eql t x z _ _ e2, Result.andThen_ok, run_eql_struct, hrun]
        · obtain rfl := Option.some.inj h
          refine ⟨.bool (!eqD q.ty x1 y1), ?_, rfl, rfl⟩
          simp only [Sem.run_bind, run_eqGuard_agg w .neq t x z _ _ e2, Result.andThen_ok, run_neq_struct, hrun]
        · cases h
      · cases h
    · cases h
  · cases h

theorem op_binOp (hrep : RepB Z M N w0 β σ a w) (hd : dstOk o.dst σ.nt = true) (hg : GoP Z M N w0 σ o qo next) {op : BinOp} {t t' : TypeId} {x z : Operand} (ho : o.op = .binOp op t x z t')
    (hT : tabOk P T = true) (h : pureR T o σ = some qo) : o.wp P a w next Q := by
  unfold pureR pureC at h
  rw [ho] at h
  simp only at h
  split at h
  · rename_i va vb hx hz
    rw [binC_bind] at h
    obtain ⟨r, hr, h⟩ := Option.bind_eq_some_iff.1 h
    have hvx := ev_sound hrep hx
    have hvz := ev_sound hrep hz
    have fin : ∀ u, (do eqGuard op t x z (a.eval x) (a.eval z); binOp op t (a.eval x) (a.eval z) : Sem Value).run P w = .ok u w → VS w (RO Z β σ.H) β σ.H r u → o.wp P a w next Q := by
      intro u hu hv
      obtain rfl := val1_some h
      refine wp_val (v := u) (w' := w) ?_ (hg _ _ ⟨β, hrep.val hd (VS_VV hv)⟩)
      unfold execOp
      rw [ho]
      rw [Sem.run_bind, hu]
      rfl
    unfold bin2 at hr
    split at hr
    · rename_i k x1 l z1
      have e1 := VV_int hvx
      have e2 := VV_int hvz
      rw [e1, e2] at fin
      split at hr
      · obtain ⟨u, hu, hv⟩ := shf_sound (P := P) (w := w) (l := l) hr t
        exact fin u (by simp [eqGuard_at_int, hu]) hv
      · split at hr
        · rename_i hs hk
          subst hk
          obtain ⟨u, hu, hv⟩ := bin_sound (P := P) (w := w) hr (by simpa using hs) t
          exact fin u (by simp [eqGuard_at_int, hu]) hv
        · cases hr
    · rename_i x1 z1
      have e1 := VV_str hvx
      have e2 := VV_str hvz
      rw [e1, e2] at fin
      split at hr
      · split at hr
        · rename_i hle
          obtain rfl := Option.some.inj hr
          refine fin (.string ⟨(x1 ++ z1 : List UInt8).toArray⟩) ?_ ⟨rfl, rfl⟩
          have h1 := run_string_add_sum (P := P) (w := w) ⟨(x1 : List UInt8).toArray⟩ ⟨(z1 : List UInt8).toArray⟩ (by simpa [ByteArray.size] using hle)
          rw [eqGuard_at_string, binOp_string_add]
          simp only [pure_bind]
          rw [h1]
          congr 2
          first | done | (apply bytes_ext; simp)
        · cases hr
      · obtain rfl := Option.some.inj hr
        refine fin (.bool ((x1 : List UInt8) == z1)) ?_ ⟨rfl, rfl⟩
        rw [eqGuard_at_string, binOp_string_eql]
        simp [ByteArray.toList_eq]
      · obtain rfl := Option.some.inj hr
        refine fin (.bool (!((x1 : List UInt8) == z1))) ?_ ⟨rfl, rfl⟩
        rw [eqGuard_at_string, binOp_string_neq]
        simp [ByteArray.toList_eq]
      · cases hr
    · rename_i x1 z1
      have e1 := VV_bool hvx
      have e2 := VV_bool hvz
      rw [e1, e2] at fin
      split at hr
      · cases hr
      · rename_i q hq
        split at hr
        · rename_i hty
          obtain ⟨i, d, zz, hrow⟩ := tab_row hT hq
          have hdd := hrow.desc
          unfold descOk at hdd
          rw [hty] at hdd
          cases d <;> first | (simp at hdd; done) | skip
          split at hr
          · obtain rfl := Option.some.inj hr
            refine fin (.bool (x1 == z1)) ?_ ⟨rfl, rfl⟩
            rw [eqGuard_at_bool]
            simp only [pure_bind]
            exact run_eql_bool w t x1 z1 hrow.under
          · obtain rfl := Option.some.inj hr
            refine fin (.bool (!(x1 == z1))) ?_ ⟨rfl, rfl⟩
            rw [eqGuard_at_bool]
            simp only [pure_bind]
            exact run_neq_bool w t x1 z1 hrow.under
          · cases hr
        · cases hr
    · obtain ⟨u, hu, hv⟩ := eqA_sound hT hrep.owns hvx hvz hr x z
      exact fin u hu hv
  · cases h

theorem op_unOp (hrep : RepB Z M N w0 β σ a w) (hd : dstOk o.dst σ.nt = true) (hg : GoP Z M N w0 σ o qo next) {op : UnOp} {t : TypeId} {x : Operand} (ho : o.op = .unOp op t x)
    (h : pureR T o σ = some qo) : o.wp P a w next Q := by
  unfold pureR pureC at h
  rw [ho] at h
  simp only at h
  split at h
  · rename_i b hx
    have e := VV_bool (ev_sound hrep hx)
    obtain rfl := val1_some h
    refine wp_val (v := .bool (!b)) (w' := w) ?_ (hg _ _ ⟨β, hrep.val hd (VS_VV ⟨rfl, rfl⟩)⟩)
    unfold execOp
    rw [ho]
    simp [Op.unary, e]
  · rename_i k n hx
    have e := VV_int (ev_sound hrep hx)
    obtain rfl := val1_some h
    refine wp_val (v := .int k (k.wrap (0 - n))) (w' := w) ?_ (hg _ _ ⟨β, hrep.val hd (VS_VV ⟨rfl, rfl⟩)⟩)
    unfold execOp
    rw [ho]
    simp [Op.unary, e, Op.intArith]
  · cases h

theorem op_convert (hT : tabOk P T = true) (hrep : RepB Z M N w0 β σ a w) (hd : dstOk o.dst σ.nt = true) (hg : GoP Z M N w0 σ o qo next) {t u : TypeId} {x : Operand} (ho : o.op = .convert t u x)
    (h : pureR T o σ = some qo) : o.wp P a w next Q := by
  unfold pureR pureC at h
  rw [ho] at h
  simp only at h
  split at h
  · rename_i r1 r k n hr1 hr hx
    obtain ⟨i1, d1, z1, hrow1⟩ := tab_row hT hr1
    obtain ⟨i, d, z, hrow⟩ := tab_row hT hr
    split at h
    · rename_i l hty
      have hdd := hrow.desc
      unfold descOk at hdd
      rw [hty] at hdd
      cases d <;> first | (simp at hdd; done) | skip
      rename_i l'
      obtain rfl : l = l' := by simpa using hdd
      have e := VV_int (ev_sound hrep hx)
      obtain rfl := val1_some h
      refine wp_val (v := .int l (l.wrap n)) (w' := w) ?_ (hg _ _ ⟨β, hrep.val hd (VS_VV ⟨rfl, rfl⟩)⟩)
      unfold execOp
      rw [ho]
      simp [convert, e, run_underlying hrow1.under, run_underlying hrow.under, Conv.intToInt]
    · cases h
  · cases h

theorem run_fieldPlace {t : TypeId} {r : Row} {i : TypeInfo} {d : TypeDesc} {z : Value} (hrow : RowOk P T t r i d z) (f : Field) (hf : f.type = t) (hs : 0 < sz r.ty) (b off : Nat) :
    (fieldPlace ⟨b, off, none⟩ f).run P w = .ok ⟨b, off + f.offset, none⟩ w := by
  subst hf
  have : sz r.ty ≠ 0 := by omega
  simp [fieldPlace, hrow.run_size, this, add_mk]

theorem field_at {fs : Array Field} {l : List (Nat × TypeId)} (h : fs.toList.map (fun f => (f.offset, f.type)) = l) {k off : Nat} {u : TypeId} (hl : l[k]? = some (off, u)) :
    ∃ f, fs[k]? = some f ∧ f.offset = off ∧ f.type = u := by
  subst h
  rw [List.getElem?_map] at hl
  obtain ⟨f, hf, e⟩ := Option.map_eq_some_iff.1 hl
  simp only [Prod.mk.injEq] at e
  exact ⟨f, by simpa using hf, e.1, e.2⟩

theorem op_fieldAddr (hT : tabOk P T = true) (hrep : RepB Z M N w0 β σ a w) (hd : dstOk o.dst σ.nt = true) (hg : GoP Z M N w0 σ o qo next) {t : TypeId} {x : Operand} {k : Nat} (ho : o.op = .fieldAddr t x k)
    (h : pureR T o σ = some qo) : o.wp P a w next Q := by
  unfold pureR pureC at h
  rw [ho] at h
  simp only at h
  split at h
  · rename_i r hr
    obtain ⟨i, d, z, hrow⟩ := tab_row hT hr
    split at h
    · cases h
    · rename_i hag
      obtain ⟨fs, rfl, hfs⟩ := hrow.fields (by simpa using hag)
      split at h
      · rename_i off u hf
        obtain ⟨f, hf1, hf2, hf3⟩ := field_at hfs hf
        split at h
        · rename_i q hq
          obtain ⟨i2, d2, z2, hrow2⟩ := tab_row hT hq
          split at h
          · cases h
          · rename_i hs
            have run : ∀ b off', a.eval x = .pointer (some ⟨b, off', none⟩) → (execOp a.eval o).run P w = .ok (.value (.pointer (some ⟨b, off' + off, none⟩))) w := by
              intro b off' he
              have := run_fieldPlace (w := w) hrow2 f hf3 (by omega) b off'
              unfold execOp
              rw [ho]
              simp [Instr.fieldAt, run_underlying hrow.under, hf1, he, Instr.sureAddr, this, hf2]
            split at h
            · rename_i b k2 hx
              have h1 := (VV_s (by intros; simp)).1 (ev_sound hrep hx)
              split at h
              · rename_i hb
                simp only [VS, hb] at h1
                obtain ⟨g, cap, hg1, e⟩ := h1
                obtain rfl := val1_some h
                refine wp_val (run _ _ e) (hg _ _ ⟨β, hrep.val hd (VS_VV ?_)⟩)
                simp only [VS, hb]
                exact ⟨g, cap, hg1, by rw [Nat.add_assoc]⟩
              · cases h
            · rename_i b i2 k2 hx
              have h1 := (VV_s (by intros; simp)).1 (ev_sound hrep hx)
              split at h
              · rename_i hb
                simp only [VS, hb] at h1
                obtain ⟨hi, g, cap, hg1, e⟩ := h1
                obtain rfl := val1_some h
                refine wp_val (run _ _ e) (hg _ _ ⟨β, hrep.val hd (VS_VV ?_)⟩)
                simp only [VS, hb]
                exact ⟨hi, g, cap, hg1, by rw [Nat.add_assoc]⟩
              · cases h
            · rename_i v0 y0 hx
              obtain ⟨y1, hy1, h⟩ := Option.bind_eq_some_iff.1 h
              obtain ⟨b, off', cs, e, hS, hr1, c, e', fz, hh, hi⟩ := VV_pd (ev_sound hrep hx)
              obtain ⟨p, m, q', rfl, hp, hm⟩ := sub_sound hy1 hr1
              obtain rfl := val1_some h
              refine wp_val (run _ _ e) (hg _ _ ⟨β, hrep.val hd (VS_VV ?_)⟩)
              refine ⟨b, off' + off, m, rfl, hS, hm, c, e', fz, hh, fun j hj => ?_⟩
              rw [Nat.add_assoc, hi _ (by simp; omega), List.append_assoc, List.getElem?_append_right (by omega), hp, Nat.add_sub_cancel_left, List.getElem?_append_left hj]
            · cases h
        · cases h
      · cases h
  · cases h

theorem op_extract (hrep : RepB Z M N w0 β σ a w) (hd : dstOk o.dst σ.nt = true) (hg : GoP Z M N w0 σ o qo next) {x : Operand} {k : Nat} (ho : o.op = .extract x k)
    (h : pureR T o σ = some qo) : o.wp P a w next Q := by
  unfold pureR pureC at h
  rw [ho] at h
  simp only at h
  split at h
  · rename_i t
    split at h
    · rename_i xs hx
      split at h
      · rename_i u hu
        obtain ⟨_, vs, e, hall⟩ := hrep.env t _ hx
        obtain ⟨v', hv', hvv⟩ := hall.get hu
        obtain rfl := val1_some h
        refine wp_val (v := v') (w' := w) ?_ (hg _ _ ⟨β, hrep.val hd hvv⟩)
        unfold execOp
        rw [ho]
        have e' : a.eval (.tmp t) = .tuple vs.toArray := e
        simp [Instr.extract, e', hv']
      · cases h
    · cases h
  · cases h

end ops
end Go.Proofs.Yteddlkdbefloaaa.S
