/- Soundness of the machinery S: a function keeps what is promised of it. -/
import Derived.Test.YteddlkdbefloaaaSx
namespace Go.Proofs.Yteddlkdbefloaaa.S
open Go Go.RowKit
set_option linter.unusedVariables false
set_option linter.unusedSimpArgs false

variable {P : Program} {T : Tab} {G : Env} {L : List (Nat × Cut)} {w w' w0 : World} {Z S S' Qp : Nat → Prop} {M : Nat → Nat → Prop} {N : Nat → Option (Option (Nat × Nat))} {a : Act} {σ : St} {β : Names} {B B' : Nat → Option Pl} {H : Heap} {fr l : List Nat}
variable {Q : Exit → Act → World → Prop} {nt : Nat}

theorem CellR_res (hS : ∀ t (x : den t) cs, Rp w S t x cs → Rp w S' t x cs) {c : CK} {x : c.den} {v : Value} {F : List Nat} (h : CellR w S Qp B c x v F) (hc : resC c = true) : CellR w S' (fun _ => False) noB c x v F := by
  cases c with
  | dat t => obtain ⟨⟨h1, h2⟩, h3⟩ := h; exact ⟨⟨h1, hS _ _ _ h2⟩, h3⟩
  | own e t => obtain ⟨q, h1, h2⟩ := h; exact ⟨q, RowO_S (fun _ _ => hS _ _ _) h1, h2⟩
  | fn f ts =>
    obtain ⟨⟨us, e, h⟩, h4⟩ := h
    cases ts with
    | nil => exact ⟨⟨us, e, h⟩, h4⟩
    | cons t r => simp [resC] at hc
  | any => exact h
  | _ => simp [resC] at hc

theorem CellsR_res (hS : ∀ t (x : den t) cs, Rp w S t x cs → Rp w S' t x cs) : ∀ {cs : List CK} {x : denC cs} {vs : List Value} {F : List Nat}, CellsR w S Qp B cs x vs F → cs.all resC = true → CellsR w S' (fun _ => False) noB cs x vs F
  | [], _, _, _, h, _ => h
  | c :: r, _, _, _, ⟨v, vs', F1, F2, h1, h2, h3, h4⟩, hc => by
    simp only [List.all_cons, Bool.and_eq_true] at hc
    exact ⟨v, vs', F1, F2, h1, h2, CellR_res hS h3 hc.1, CellsR_res hS h4 hc.2⟩

theorem VKR_res (hS : ∀ t (x : den t) cs, Rp w S t x cs → Rp w S' t x cs) {k : VK} {x : k.den} {v : Value} {F : List Nat} (h : VKR w S Qp B k x v F) (hc : resK k = true) : VKR w S' (fun _ => False) noB k x v F := by
  cases k with
  | g cs => obtain ⟨vs, e, h⟩ := h; exact ⟨vs, e, CellsR_res hS h hc⟩
  | s c =>
    by_cases hd : ∃ t, c = .dat t
    · obtain ⟨t, rfl⟩ := hd
      obtain ⟨⟨cs, h1, h2⟩, h3⟩ := h
      exact ⟨⟨cs, h1, hS _ _ _ h2⟩, h3⟩
    · have hn : ∀ t, c ≠ .dat t := fun t e => hd ⟨t, e⟩
      exact (VKR_s hn).2 (CellR_res hS ((VKR_s hn).1 h) hc)

theorem VKsR_res (hS : ∀ t (x : den t) cs, Rp w S t x cs → Rp w S' t x cs) : ∀ {ks : List VK} {x : denV ks} {vs : List Value} {F : List Nat}, VKsR w S Qp B ks x vs F → ks.all resK = true → VKsR w S' (fun _ => False) noB ks x vs F
  | [], _, _, _, h, _ => h
  | c :: r, _, _, _, ⟨v, vs', F1, F2, h1, h2, h3, h4⟩, hc => by
    simp only [List.all_cons, Bool.and_eq_true] at hc
    exact ⟨v, vs', F1, F2, h1, h2, VKR_res hS h3 hc.1, VKsR_res hS h4 hc.2⟩

theorem resC_ptr : ∀ {cs : List CK}, cs.all resC = true → cs.all (ptrC []) = true
  | [], _ => rfl
  | c :: r, h => by
    simp only [List.all_cons, Bool.and_eq_true] at h ⊢
    exact ⟨by cases c <;> first | rfl | simp [resC] at h, resC_ptr h.2⟩

theorem resK_ptr {k : VK} (h : resK k = true) : ptrV [] k = true := by
  cases k with
  | g cs => exact resC_ptr h
  | s c => cases c <;> first | rfl | simp [resK, resC] at h

theorem resKs_ptr : ∀ {ks : List VK}, ks.all resK = true → ks.all (ptrV []) = true
  | [], _ => rfl
  | c :: r, h => by
    simp only [List.all_cons, Bool.and_eq_true] at h ⊢
    exact ⟨resK_ptr h.1, resKs_ptr h.2⟩

theorem unR_rows {o : Nat} {e : TypeId} {t : Ty} {ys : List (den t)} (h : unR H o e t = some ys) : look H o = some (.row e t ys) := by
  unfold unR at h
  split at h
  · rename_i e' t' zs ho
    split at h
    · rename_i he
      subst he
      split at h
      · rename_i us hus
        obtain rfl := Option.some.inj h
        obtain ⟨e1, e2⟩ := cst_some hus
        simp only [Ty.slice.injEq] at e1
        subst e1
        simp only at e2
        subst e2
        exact ho
      · cases h
    · cases h
  · cases h

theorem unRs_rows : ∀ {cs : List CK} {nm : Nat} {x : denC cs} {y : denCw cs} {l1 : List Nat}, unRs H nm cs x = some (y, l1) → Rows H l1
  | [], _, _, _, _, h => by
    simp only [unRs, Option.some.injEq, Prod.mk.injEq] at h
    rw [← h.2]; exact fun o ho => by simp at ho
  | .own e t :: r, nm, x, _, _, h => by
    simp only [unRs] at h
    split at h
    · rename_i y z hy hz
      simp only [Option.some.injEq, Prod.mk.injEq] at h
      rw [← h.2]
      intro o ho
      rcases List.mem_cons.1 ho with rfl | ho
      · exact ⟨_, unR_rows hy, rfl⟩
      · exact unRs_rows hz o ho
    · cases h
  | .dat _ :: r, _, _, _, _, h => unRs_rows (cs := r) h
  | .ptr _ _ :: r, _, _, _, _, h => unRs_rows (cs := r) h
  | .ref _ :: r, _, _, _, _, h => unRs_rows (cs := r) h
  | .pd _ :: r, _, _, _, _, h => unRs_rows (cs := r) h
  | .fn _ _ :: r, _, _, _, _, h => unRs_rows (cs := r) h
  | .mp :: r, _, _, _, _, h => unRs_rows (cs := r) h
  | .bx _ :: r, _, _, _, _, h => unRs_rows (cs := r) h
  | .any :: r, _, _, _, _, h => unRs_rows (cs := r) h

theorem unA_rows : ∀ {ps : List PK} {i : Nat} {x : denP ps} {y : denQ ps} {l1 : List Nat}, unA H i ps x = some (y, l1) → Rows H l1 ∧ ∀ p ∈ parBx i ps, ∃ cs, look H p.1 = some (.box cs) ∧ cs.length = p.2.length
  | [], _, _, _, _, h => by
    simp only [unA, Option.some.injEq, Prod.mk.injEq] at h
    rw [← h.2]; exact ⟨fun o ho => by simp at ho, fun p hp => by simp [parBx] at hp⟩
  | .val _ :: r, _, _, _, _, h => unA_rows (ps := r) h
  | .ptr _ :: r, _, _, _, _, h => unA_rows (ps := r) h
  | .fn _ _ :: r, _, _, _, _, h => unA_rows (ps := r) h
  | .box ci co :: r, i, x, _, _, h => by
    simp only [unA] at h
    split at h
    · rename_i cs hk
      split at h
      · rename_i hl
        split at h
        · rename_i q hq
          split at h
          · rename_i q' hq'
            simp only [Option.some.injEq, Prod.mk.injEq] at h
            rw [← h.2]
            have ih := unA_rows (ps := r) hq'
            refine ⟨(unCs_rows hq).1.append ih.1, fun p hp => ?_⟩
            simp only [parBx, List.mem_cons] at hp
            rcases hp with rfl | hp
            · exact ⟨cs, hk, hl.1⟩
            · exact ih.2 p hp
          · cases h
        · cases h
      · cases h
    · cases h
  | .row e t :: r, i, x, _, _, h => by
    simp only [unA] at h
    split at h
    · rename_i y q' hy hq'
      simp only [Option.some.injEq, Prod.mk.injEq] at h
      rw [← h.2]
      have ih := unA_rows (ps := r) hq'
      refine ⟨fun o ho => ?_, ih.2⟩
      rcases List.mem_cons.1 ho with rfl | ho
      · exact ⟨_, unR_rows hy, rfl⟩
      · exact ih.1 o ho
    · cases h
  | .agg cs :: r, i, x, _, _, h => by
    simp only [unA] at h
    split at h
    · rename_i y q' hy hq'
      simp only [Option.some.injEq, Prod.mk.injEq] at h
      rw [← h.2]
      have ih := unA_rows (ps := r) hq'
      exact ⟨(unRs_rows hy).append ih.1, ih.2⟩
    · cases h

/-- Behind the call the rows with names are where they were. -/
def Pinned (β : Names) (B : Nat → Option Pl) : Prop := (∀ o b base, B o = some (.box b base) → β o = some (b, base)) ∧ ∀ o q n, B o = some (.row q n) → β o = q

theorem unRs_sound {w1 : World} {S1 Q1 : Nat → Prop} (hO : Owns w S β (frz H fr)) (hfr : ∀ o, o ∈ l → o ∉ fr) (hpin : Pinned β B) : ∀ {cs : List CK} {nm : Nat} {x : denC cs} {y : denCw cs} {l1 : List Nat} {us : List Value} {F : List Nat},
    AggR w1 S1 Q1 B nm cs x us F → unRs H nm cs x = some (y, l1) → (∀ o ∈ l1, o ∈ l) → lenCs cs x y = true → CwR w S cs y us (blks β l1)
  | [], _, _, _, _, _, _, ⟨h1, _⟩, h, _, _ => by
    simp only [unRs, Option.some.injEq, Prod.mk.injEq] at h
    rw [← h.2]; exact ⟨h1, rfl⟩
  | .own e t :: r, nm, x, _, _, _, _, ⟨v, vs', q, F2, e1, e2, e3, e4, e5, e6⟩, h, hl, hln => by
    simp only [unRs] at h
    split at h
    · rename_i y z hy hz
      simp only [Option.some.injEq, Prod.mk.injEq] at h
      obtain ⟨h1, h2⟩ := h
      subst h1; subst h2; subst e1
      have hk := unR_rows hy
      simp only [lenCs, Bool.and_eq_true, beq_iff_eq] at hln
      obtain ⟨hlen, hln⟩ := hln
      have hb := hpin.2 nm q _ e3
      have hk' := frz_row (l := fr) hk
      rw [if_neg (hfr nm (hl nm (by simp)))] at hk'
      refine ⟨v, vs', q, blks β z.2, rfl, by simp [blks, hb], ?_, by rw [← hlen]; exact e5, unRs_sound hO hfr hpin e6 hz (fun o ho => hl o (List.mem_cons_of_mem _ ho)) hln⟩
      rw [← hb]; exact hO nm _ hk'
    · cases h
  | .dat _ :: r, _, _, _, _, _, _, ⟨v, vs', e1, _, e3⟩, h, hl, hln => ⟨v, vs', e1, unRs_sound hO hfr hpin e3 h hl hln⟩
  | .pd _ :: r, _, _, _, _, _, _, ⟨v, vs', e1, _, e3⟩, h, hl, hln => ⟨v, vs', e1, unRs_sound hO hfr hpin e3 h hl hln⟩
  | .fn _ _ :: r, _, _, _, _, _, _, ⟨v, vs', e1, _, e3⟩, h, hl, hln => ⟨v, vs', e1, unRs_sound hO hfr hpin e3 h hl hln⟩
  | .any :: r, _, _, _, _, _, _, ⟨v, vs', e1, e3⟩, h, hl, hln => ⟨v, vs', e1, unRs_sound hO hfr hpin e3 h hl hln⟩
  | .ptr _ _ :: _, _, _, _, _, _, _, h, _, _, _ => h.elim
  | .ref _ :: _, _, _, _, _, _, _, h, _, _, _ => h.elim
  | .mp :: _, _, _, _, _, _, _, h, _, _, _ => h.elim
  | .bx _ :: _, _, _, _, _, _, _, h, _, _, _ => h.elim

theorem unA_sound {w1 : World} {S1 Q1 : Nat → Prop} (hO : Owns w S β (frz H fr)) (hQ : ∀ b, ¬ Own β (frz H fr) b → Qp b) (hS : ∀ t (x : den t) cs, Rp w S t x cs → Rp w S' t x cs) (hS2 : ∀ e t xs q, RowO w S e t xs q → RowO w S' e t xs q) (hfr : ∀ o, o ∈ l → o ∉ fr) (hpin : Pinned β B) (hc : ∀ sh, Cuts H fr l sh) :
    ∀ {ps : List PK} {i : Nat} {x : denP ps} {y : denQ ps} {l1 : List Nat} {vs : List Value} {F : List Nat}, ArgsR w1 S1 Q1 B i ps x vs F → unA H i ps x = some (y, l1) → (∀ o ∈ l1, o ∈ l) → freeO H l i ps = true → ps.all noPtr = true → lenQ ps x y = true → OutsR w S' ps y vs (blks β l1)
  | [], _, _, _, _, _, _, ⟨h1, _⟩, h, _, _, _, _ => by
    simp only [unA, Option.some.injEq, Prod.mk.injEq] at h
    rw [← h.2]; exact ⟨h1, rfl⟩
  | .val _ :: r, _, _, _, _, _, _, ⟨v, vs', e1, _, e3⟩, h, hl, hf, hp, hln => by
    simp only [List.all_cons, Bool.and_eq_true] at hp
    exact ⟨v, vs', e1, unA_sound hO hQ hS hS2 hfr hpin hc e3 h hl hf hp.2 hln⟩
  | .ptr _ :: r, _, _, _, _, _, _, ⟨v, vs', e1, _, e3⟩, h, hl, hf, hp, hln => by
    simp only [List.all_cons, Bool.and_eq_true] at hp
    exact ⟨v, vs', e1, unA_sound hO hQ hS hS2 hfr hpin hc e3 h hl hf hp.2 hln⟩
  | .fn _ _ :: r, _, _, _, _, _, _, ⟨v, vs', e1, _, e3⟩, h, hl, hf, hp, hln => by
    simp only [List.all_cons, Bool.and_eq_true] at hp
    exact ⟨v, vs', e1, unA_sound hO hQ hS hS2 hfr hpin hc e3 h hl hf hp.2 hln⟩
  | .box ci co :: r, i, x, _, _, _, _, ⟨v, vs', F1, F2, b, base, c, e, e1, e2, e3, e4, e5, e6, e7, e8, e9⟩, h, hl, hf, hp, hln => by
    simp only [List.all_cons, Bool.and_eq_true, noPtr] at hp
    simp only [unA] at h
    split at h
    · rename_i cs hk
      split at h
      · rename_i hlen
        split at h
        · rename_i q hq
          split at h
          · rename_i q' hq'
            simp only [Option.some.injEq, Prod.mk.injEq] at h
            obtain ⟨h1, h2⟩ := h
            subst h1; subst h2; subst e1
            simp only [freeO, hk, Bool.and_eq_true] at hf
            have hb := hpin.1 _ _ _ e3
            obtain ⟨b', base', c', e', i1, i2, i3, i4⟩ := hO _ _ (look_box (fr := fr) hk)
            rw [hb] at i1
            simp only [Option.some.injEq, Prod.mk.injEq] at i1
            obtain ⟨rfl, rfl⟩ := i1
            have hl1 : cs.length = co.length := by rw [hlen.1, hlen.2]
            rw [hl1] at i3 i4
            have hcr := unCs_sound hO hQ (i4.mono fun _ _ h => h.1) hq (fun o ho => hl o (List.mem_append_left _ ho)) hf.1 (bs := []) (resC_ptr hp.1.2) (fun o ho => by simp at ho) (hc _)
            refine ⟨v, vs', _, _, b, base, c', e', rfl, blks_append, e4, hlen.2, i2, i3, CellsR_res hS hcr hp.1.2, i4.right fun _ _ h => h.2, unA_sound hO hQ hS hS2 hfr hpin hc e9 hq' (fun o ho => hl o (List.mem_append_right _ ho)) hf.2 hp.2 hln⟩
          · cases h
        · cases h
      · cases h
    · cases h
  | .row e t :: r, i, x, _, _, _, _, ⟨v, vs', q, F2, e1, e2, e3, e4, e5, e6⟩, h, hl, hf, hp, hln => by
    simp only [List.all_cons, Bool.and_eq_true] at hp
    simp only [unA] at h
    split at h
    · rename_i y q' hy hq'
      simp only [Option.some.injEq, Prod.mk.injEq] at h
      obtain ⟨h1, h2⟩ := h
      subst h1; subst h2; subst e1
      have hk := unR_rows hy
      simp only [lenQ, Bool.and_eq_true, beq_iff_eq] at hln
      obtain ⟨hlen, hln⟩ := hln
      have hb := hpin.2 _ q _ e3
      have hk' := frz_row (l := fr) hk
      rw [if_neg (hfr _ (hl _ (by simp)))] at hk'
      refine ⟨v, vs', q, blks β q'.2, rfl, by simp [blks, hb], ?_, by rw [← hlen]; exact e5, unA_sound hO hQ hS hS2 hfr hpin hc e6 hq' (fun o ho => hl o (List.mem_cons_of_mem _ ho)) hf hp.2 hln⟩
      rw [← hb]; exact hS2 _ _ _ _ (hO _ _ hk')
    · cases h
  | .agg cs :: r, i, x, _, _, _, _, ⟨v, vs', us, F1, F2, e1, e2, e3, e4, e5⟩, h, hl, hf, hp, hln => by
    simp only [List.all_cons, Bool.and_eq_true] at hp
    simp only [unA] at h
    split at h
    · rename_i y q' hy hq'
      simp only [Option.some.injEq, Prod.mk.injEq] at h
      obtain ⟨h1, h2⟩ := h
      subst h1; subst h2; subst e1
      simp only [lenQ, Bool.and_eq_true] at hln
      have hcw := unRs_sound hO hfr hpin e4 hy (fun o ho => hl o (List.mem_append_left _ ho)) hln.1
      exact ⟨v, vs', us, _, _, rfl, blks_append, e3, CwR_S (sl := true) (S' := S') (fun t x cs _ h => hS _ _ _ h) (fun e => by cases e) hcw, unA_sound hO hQ hS hS2 hfr hpin hc e5 hq' (fun o ho => hl o (List.mem_append_right _ ho)) hf hp.2 hln.2⟩
    · cases h

theorem args_len : ∀ {ps : List PK} {i : Nat} {x : denP ps} {vs : List Value} {F : List Nat}, ArgsR w S Qp B i ps x vs F → vs.length = ps.length
  | [], _, _, _, _, ⟨h, _⟩ => by rw [h]; rfl
  | k :: r, _, _, _, _, h => by
    cases k with
    | val t => obtain ⟨v, vs', h1, _, h3⟩ := h; rw [h1]; simp [args_len h3]
    | ptr t => obtain ⟨v, vs', h1, _, h3⟩ := h; rw [h1]; simp [args_len h3]
    | fn f ts => obtain ⟨v, vs', h1, _, h3⟩ := h; rw [h1]; simp [args_len h3]
    | box ci co => obtain ⟨v, vs', _, _, _, _, _, _, h1, _, _, _, _, _, _, _, h3⟩ := h; rw [h1]; simp [args_len h3]
    | row e t => obtain ⟨v, vs', _, _, h1, _, _, _, _, h3⟩ := h; rw [h1]; simp [args_len h3]
    | agg cs => obtain ⟨v, vs', _, _, _, h1, _, _, _, h3⟩ := h; rw [h1]; simp [args_len h3]

/-- A function's state as it is entered. -/
def st0 (fn : Func) (ps : List PK) (x : denP ps) : St := mk (Nat.max fn.ntmps ps.length) { slots := parSl 0 ps, boxes := parBx 0 ps, rows := parRw 0 ps } (parXs 0 ps x, parXb 0 ps x, parXr 0 ps x)

theorem fn_sound_wp (hT : tabOk P T = true) {f : FuncId} {fn : Func} {c : Code} {cn : Con} (hf : P.funcs[f]? = some fn) (hb : fn.body = some c) (hn2 : cn.ps.all noPtr = true ∧ cn.rs.all resK = true)
    (hW : ∀ x y, cn.F x = some y → namesOk (st0 fn cn.ps x) = true ∧ ∀ (Z : Nat → Prop) (M : Nat → Nat → Prop) (N : Nat → Option (Option (Nat × Nat))) (w0 : World) (a : Act) (w : World) (Q : Exit → Act → World → Prop), Rep Z M N w0 (st0 fn cn.ps x) a w →
      (∀ e σ', endE T fn cn.ps cn.rs x e σ' = some y → σ'.nt = (st0 fn cn.ps x).nt → ∀ a' w', Rep Z M N w0 σ' a' w' → Q (exOf e) a' w') → c.wp P Q a w) : Sound P f cn := by
  intro x y hx w args S Qp B M F hp ha _
  obtain ⟨hn1, hW⟩ := hW x y hx
  have hal := args_len ha
  refine calls_of_wp hf hb ?_
  generalize hac : ({ tmps := args.toArray ++ Array.replicate (fn.ntmps - args.toArray.size) undef, defers := [] } : Act) = a
  have hsz : a.tmps.size = Nat.max fn.ntmps cn.ps.length := by
    rw [← hac, show Nat.max fn.ntmps cn.ps.length = max fn.ntmps cn.ps.length from rfl]; simp [hal]; omega
  have hget : ∀ k, k < args.length → 0 + k < a.tmps.size ∧ a.tmps.getD (0 + k) undef = args.getD k undef := by
    intro k hk
    refine ⟨by rw [hsz, ← hal, show Nat.max fn.ntmps args.length = max fn.ntmps args.length from rfl]; omega, ?_⟩
    rw [← hac, Nat.zero_add]
    simp [Array.getElem?_append, hk]
  obtain ⟨hs, _, F2, F3, hbx, hrw, hperm⟩ := par_sound (a := a) ha hget
  have hin : ∀ b, b ∈ F ↔ b ∈ ([] ++ F2) ++ F3 := fun b => by rw [List.nil_append]; exact hperm.mem_iff
  let N : Nat → Option (Option (Nat × Nat)) := fun o => match B o with | some (.box b base) => some (some (b, base)) | some (.row q n) => some q | none => none
  have hrep : Rep (fun b => S b ∨ ∀ i, M b i) M N w (mk (Nat.max fn.ntmps cn.ps.length) { slots := parSl 0 cn.ps, boxes := parBx 0 cn.ps, rows := parRw 0 cn.ps } (parXs 0 cn.ps x, parXb 0 cn.ps x, parXr 0 cn.ps x)) a w := by
    refine mk_sound (B := B) hp.fresh (fun b h => .inr h) (by rw [← hac]) hsz (Kept.refl M w) hn1 hs hbx hrw ?_ ?_ ?_ hp.row hp.inj ?_ ?_ ?_
    · rw [List.nil_append]; exact (hperm.nodup_iff).1 hp.nodup
    · intro b hb; exact hp.mine b ((hin b).2 hb)
    · intro o b base ho
      have := hp.box o b base ho
      exact ⟨this.1, fun h => this.2.1 ((hin b).2 h), this.2.2⟩
    · intro b hb h
      have := hp.data b hb h
      exact ⟨.inl h, fun h => this.1 ((hin b).2 h), this.2⟩
    · intro b h
      have := hp.ptr b h
      exact ⟨fun h => this.1 ((hin b).2 h), this.2⟩
    · intro o q ho
      simp only [N] at ho
      split at ho
      · rename_i b base hbo
        obtain rfl := Option.some.inj ho
        exact ⟨parBx_ge (hp.box o b base hbo).1, .inl ⟨b, base, rfl, hbo⟩⟩
      · rename_i q' n hbo
        obtain rfl := Option.some.inj ho
        exact ⟨parRw_ge (hp.row o q' n hbo), .inr ⟨n, hbo⟩⟩
      · cases ho
  have hpinB : ∀ {σ' : St} {a' : Act} {w' : World} {β : Names}, RepB (fun b => S b ∨ ∀ i, M b i) M N w β σ' a' w' → Pinned β B := by
    intro σ' a' w' β h
    refine ⟨fun o b base ho => (h.pin o (some (b, base)) (by simp [N, ho])).1, fun o q n ho => (h.pin o q (by simp [N, ho])).1⟩
  refine hW _ _ _ _ _ _ (bodyPost P fn _) hrep ?_
  intro e σ' h1 hn a' w' hr
  obtain ⟨β, hr⟩ := hr
  have key : endK T fn cn.ps cn.rs x σ' = some y →
      a'.defers = [] ∧ ∃ v, (results fn a'.tmps).run P w' = .ok v w' ∧ ∃ v', Ending.returned v = .returned v' ∧ Post M w S B cn args y v' w' := by
    intro h1
    unfold endK at h1
    split at h1
    · cases h1
    · rename_i ss hss
      split at h1
      · cases h1
      · rename_i y1 hy1
        split at h1
        · cases h1
        · rename_i z hz
          split at h1
          · rename_i hc
            by_cases hln : lenQ cn.ps x z.1 = true
            case neg => rw [if_neg hln] at h1; cases h1
            rw [if_pos hln] at h1
            obtain rfl := Option.some.inj h1
            simp only [Bool.and_eq_true] at hc
            obtain ⟨⟨c1, c2⟩, c3⟩ := hc
            let l := y1.2 ++ z.2
            let fr := others σ'.H l
            have hr1 := hr.frz fr
            obtain ⟨vs, hres, hall⟩ := results_sound hT hr hss
            obtain ⟨vs1, hres1, hall1⟩ := results_sound (fn := fn) hT hr1 (by
              have : resV T { σ' with H := frz σ'.H fr } = resV T σ' := by
                funext r
                cases r with
                | tmp t => rfl
                | cell x t =>
                  simp only [resV]
                  split
                  · rename_i r b off hr' hx'
                    by_cases hb' : ∃ cs, look σ'.H b = some (.box cs)
                    · obtain ⟨cs, hb'⟩ := hb'
                      rw [hb', look_box hb']
                    · have e1 : ∀ {z : Option SV}, (match look σ'.H b with | some (.box cs) => z | _ => (none : Option SV)) = none := by
                        intro z
                        split
                        · rename_i cs hcs; exact absurd ⟨cs, hcs⟩ hb'
                        · rfl
                      split
                      · rename_i cs hcs
                        exfalso
                        by_cases hrow : ∃ e t xs, look σ'.H b = some (.row e t xs)
                        · obtain ⟨e, t', xs, hk⟩ := hrow
                          rw [frz_row (l := fr) hk] at hcs
                          split at hcs <;> cases hcs
                        · rw [frz_same fun e t xs e' => hrow ⟨e, t, xs, e'⟩] at hcs
                          exact hb' ⟨cs, hcs⟩
                      · split
                        · rename_i cs hcs; exact absurd ⟨cs, hcs⟩ hb'
                        · rfl
                  · rfl
              rw [this]; exact hss)
            have hpin := hpinB hr
            have hrows1 : Rows σ'.H y1.2 := by
              have : ∀ {rs : List VK} {ss : List SV} {x : denV rs} {l1 : List Nat}, unVs σ'.H rs ss = some (x, l1) → Rows σ'.H l1 := by
                intro rs
                induction rs with
                | nil =>
                  intro ss x l1 h
                  cases ss with
                  | nil =>
                    simp only [unVs, Option.some.injEq, Prod.mk.injEq] at h
                    rw [← h.2]; exact fun o ho => by simp at ho
                  | cons _ _ => simp [unVs] at h
                | cons k r ih =>
                  intro ss x l1 h
                  cases ss with
                  | nil => simp [unVs] at h
                  | cons s ss =>
                    simp only [unVs] at h
                    split at h
                    · rename_i q hq
                      split at h
                      · rename_i q' hq'
                        simp only [Option.some.injEq, Prod.mk.injEq] at h
                        rw [← h.2]
                        exact (unV_rows hq).append (ih hq')
                      · cases h
                    · cases h
              exact this hy1
            have hrows2 := unA_rows hz
            have hrows := hrows1.append hrows2.1
            have hlive : ∀ o ∈ l, ∃ ob, look (frz σ'.H fr) o = some ob ∧ rowLike ob = true := by
              intro o ho
              obtain ⟨ob, hk, hl⟩ := hrows o ho
              exact ⟨ob, frz_live hk hl (others_out o ho), hl⟩
            have hboxes : ∀ o b base, B o = some (.box b base) → ∃ cs, look (frz σ'.H fr) o = some (.box cs) ∧ β o = some (b, base) := by
              intro o b base ho
              obtain ⟨p, hp1, rfl⟩ := List.mem_map.1 (hp.box o b base ho).1
              obtain ⟨cs, e1, _⟩ := hrows2.2 p hp1
              exact ⟨cs, look_box e1, hpin.1 _ _ _ ho⟩
            have hF' : ∀ b, b ∈ blks β y1.2 ++ blks β z.2 ↔ ∃ o ∈ l, ∃ cap, β o = some (b, cap) := by
              intro b; rw [← blks_append]; exact mem_blks
            have hS' : ∀ b, RO (fun b => S b ∨ ∀ i, M b i) β (frz σ'.H fr) b → after S M B (blks β y1.2 ++ blks β z.2) b := by
              intro b hb
              refine ⟨hb.1, fun hbF => ?_, fun o base ho => ?_⟩
              · obtain ⟨o', ho', cap, hbo⟩ := (hF' b).1 hbF
                obtain ⟨ob, hk', hl'⟩ := hlive o' ho'
                exact hb.2 ⟨o', _, cap, hk', rowLike_live hl', hbo⟩
              · obtain ⟨cs, hk, hb'⟩ := hboxes o b base ho
                exact hb.2 ⟨o, _, base, hk, rfl, hb'⟩
            have hdata : ∀ t (d : den t) cs, Rp w' (RO (fun b => S b ∨ ∀ i, M b i) β (frz σ'.H fr)) t d cs → Rp w' (after S M B (blks β y1.2 ++ blks β z.2)) t d cs :=
              fun t d cs => Rp_keep fun b _ hb => ⟨hS' b hb, rfl⟩
            refine ⟨hr.defers, _, hres1, _, rfl, hr.below, _, blks β y1.2, blks β z.2, rfl, ?_, ?_, ?_, ?_⟩
            · exact VKsR_res hdata (unVs_sound hr1.owns (Q := fun _ => True) (fun _ _ => trivial) hall1 hy1 (fun o ho => List.mem_append_left _ ho) c2 (bs := []) (resKs_ptr hn2.2) (fun o ho => by simp at ho) (fun s _ => others_cuts)) hn2.2
            · exact unA_sound (Qp := fun _ => True) hr1.owns (fun _ _ => trivial) hdata (fun e t xs q h => RowO_S (fun _ _ => hdata _ _ _) h) others_out hpin (fun sh => others_cuts) ha hz (fun o ho => List.mem_append_right _ ho) c3 hn2.1 hln
            · rw [← blks_append]
              refine blks_nodup (l := l) ?_ (fun o ho => ho) (nodupB_nodup c1)
              intro o o' b cap cap' ho ho' hb hb'
              obtain ⟨ob, hk, hl⟩ := hlive o ho
              obtain ⟨ob', hk', hl'⟩ := hlive o' ho'
              exact hr1.inj o o' _ _ b cap cap' hk (rowLike_live hl) hk' (rowLike_live hl') hb hb'
            · intro b hb
              obtain ⟨o, ho, cap, hbo⟩ := (hF' b).1 hb
              obtain ⟨ob, hk, hl⟩ := hlive o ho
              have hown := hr1.own o _ b cap hk (rowLike_live hl) hbo
              refine ⟨rowLike_M hl hown.1, hown.2, fun o' base ho' => ?_⟩
              obtain ⟨cs, hk', hb'⟩ := hboxes o' b base ho'
              have := hr1.inj o o' _ _ b cap base hk (rowLike_live hl) hk' rfl hbo hb'
              subst this
              rw [hk] at hk'
              cases hk'
              cases hl
          · cases h1
  cases e with
  | exit i => cases h1
  | normal => exact key h1
  | ret => exact key h1

theorem fn_sound (hT : tabOk P T = true) (hG : EnvOk P G) {f : FuncId} {fn : Func} {c : Code} {cn : Con} (hf : P.funcs[f]? = some fn) (hb : fn.body = some c) (hL : CodeOk P (Nat.max fn.ntmps cn.ps.length) L c)
    (hF : ∀ x, runFn T G L fn cn.ps cn.rs x = cn.F x) : Sound P f cn := by
  by_cases hn : cn.ps.all noPtr = true ∧ cn.rs.all resK = true
  · refine fn_sound_wp (T := T) hT hf hb hn fun x y hx => ?_
    rw [← hF] at hx
    unfold runFn at hx
    rw [hb] at hx
    simp only at hx
    split at hx
    · cases hx
    · rename_i hchk
      have hn1 : namesOk (st0 fn cn.ps x) = true := by
        simp only [not_or, Bool.not_eq_false] at hchk; exact hchk.1
      exact ⟨hn1, fun Z M N w0 a w Q hrep hK => run_sound hT hG (by exact hL) hrep hx hK⟩
  · intro x y hx
    exfalso
    rw [← hF] at hx
    unfold runFn at hx
    rw [hb] at hx
    simp only at hx
    split at hx
    · cases hx
    · rename_i hchk
      apply hn
      simp only [not_or, Bool.not_eq_false, Bool.and_eq_true] at hchk
      exact hchk.2

end Go.Proofs.Yteddlkdbefloaaa.S
