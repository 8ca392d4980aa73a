/- The machinery S: what a call leaves of what was handed over. -/
import Derived.Test.YteddlkdbefloaaaSp
namespace Go.Proofs.Yteddlkdbefloaaa.S
open Go Go.RowKit
set_option linter.unusedVariables false
set_option linter.unusedSimpArgs false

variable {w w' w0 : World} {S S' S3 Q Z : Nat → Prop} {M : Nat → Nat → Prop} {N : Nat → Option (Option (Nat × Nat))} {B : Nat → Option Pl} {a : Act} {σ : St} {β : Names} {H : Heap} {fr l : List Nat}

/-- A row that is written in place. -/
def RwRow (w' : World) (S3 : Nat → Prop) (β : Names) (H : Heap) (l1 Fb : List Nat) (p : Nat × Ob) : Prop :=
  ∃ e t ys xs0, p.2 = .row e t ys ∧ p.1 ∈ l1 ∧ look H p.1 = some (.row e t xs0) ∧ xs0.length = ys.length ∧ RowO w' S3 e t ys (β p.1) ∧ ∀ b ∈ blkq (β p.1), b ∈ Fb

def RwBox (w' : World) (S' : Nat → Prop) (β β' : Names) (H H' : Heap) (bl : List (Nat × Nat × Nat × Nat)) (b1 : List Nat) (p : Nat × Ob) : Prop :=
  ∃ cs newc off b base c' e' pn, look H p.1 = some (.box cs) ∧ p.1 ∈ b1 ∧ (pn, p.1, off, newc.length) ∈ bl ∧ p.2 = .box (replC cs off newc) ∧ off + newc.length ≤ cs.length ∧ β p.1 = some (b, base) ∧
    w'.heap[b]? = some (.cells c' e' (0, 0)) ∧ All2 (fun x v => VS w' S' β' H' x v ∧ v.oneCell' = true) newc ((c'.toList.drop (base + off)).take newc.length)

theorem RowV_inj {q q' : Option (Nat × Nat)} {n : Nat} {v : Value} (h : RowV q n v) (h' : RowV q' n v) : q = q' := by
  cases q with
  | none =>
    cases q' with
    | none => rfl
    | some p => simp only [RowV] at h h'; rw [h.1] at h'; simp at h'
  | some p =>
    cases q' with
    | none => simp only [RowV] at h h'; rw [h'.1] at h; simp at h
    | some p' =>
      simp only [RowV] at h h'
      rw [h] at h'
      simp only [Value.slice.injEq, Option.some.injEq, Addr.mk.injEq] at h'
      obtain ⟨⟨h1, _⟩, _, h2⟩ := h'
      rw [Prod.ext h1 h2]

theorem RwRow.mono {l1 l2 Fb Fb' : List Nat} {p : Nat × Ob} (h : RwRow w' S3 β H l1 Fb p) (hl : ∀ o ∈ l1, o ∈ l2) (hF : ∀ b ∈ Fb, b ∈ Fb') : RwRow w' S3 β H l2 Fb' p := by
  obtain ⟨e, t, ys, xs0, h1, h2, h3, h4, h5, h6⟩ := h
  exact ⟨e, t, ys, xs0, h1, hl _ h2, h3, h4, h5, fun b hb => hF b (h6 b hb)⟩

theorem RwBox.mono {β' : Names} {H' : Heap} {bl bl' : List (Nat × Nat × Nat × Nat)} {b1 b2 : List Nat} {p : Nat × Ob} (h : RwBox w' S' β β' H H' bl b1 p) (hl : ∀ o ∈ bl, o ∈ bl') (hb : ∀ b ∈ b1, b ∈ b2) : RwBox w' S' β β' H H' bl' b2 p := by
  obtain ⟨cs, newc, off, b, base, c', e', pn, h1, h2, h3, h4⟩ := h
  exact ⟨cs, newc, off, b, base, c', e', pn, h1, hb _ h2, hl _ h3, h4⟩

/-- One row that is given back. -/
theorem reR_sound (hfr : ∀ o, o ∈ l → o ∉ fr) {e : TypeId} {t : Ty} {s : S1} {v : Value} {x ys : List (den t)} {l1 : List Nat} (hv : VS w S β (frz H fr) s v) (h : unC H (.own e t) s = some (x, l1)) (hl1 : ∀ o ∈ l1, o ∈ l)
    (hlen : x.length = ys.length) {q : Option (Nat × Nat)} (hr : RowO w' S3 e t ys q) (hq : RowV q ys.length v) : blks β l1 = blkq q ∧ ∀ p ∈ reR e t ys s, RwRow w' S3 β H l1 (blkq q) p := by
  simp only [unC] at h
  split at h
  · simp only [Option.some.injEq, Prod.mk.injEq] at h
    obtain ⟨rfl, rfl⟩ := h
    simp only [VS] at hv
    have : q = none := RowV_inj hq ⟨hv, hlen.symm⟩
    subst this
    exact ⟨rfl, fun p hp => by simp [reR] at hp⟩
  · rename_i o
    split at h
    · rename_i e' t' xs ho
      split at h
      · rename_i he
        subst he
        split at h
        · rename_i zs hys
          simp only [Option.some.injEq, Prod.mk.injEq] at h
          obtain ⟨rfl, rfl⟩ := h
          obtain ⟨e1, e2⟩ := cst_some hys
          simp only [Ty.slice.injEq] at e1
          subst e1
          simp only at e2
          subst e2
          have hof := hfr o (hl1 o (by simp))
          have hk := frz_row (l := fr) ho
          rw [if_neg hof] at hk
          simp only [VS, hk] at hv
          rw [hlen] at hv
          have := RowV_inj hv hq
          refine ⟨by simp [blks, this], fun p hp => ?_⟩
          simp only [reR, List.mem_singleton] at hp
          subst hp
          exact ⟨_, _, ys, xs, rfl, by simp, ho, hlen, by simp only; rw [this]; exact hr, fun b hb => by simp only at hb; rw [this] at hb; exact hb⟩
        · cases h
      · cases h
    · cases h
  · cases h

theorem reCs_sound (hfr : ∀ o, o ∈ l → o ∉ fr) : ∀ {cs : List CK} {ss : List S1} {vs : List Value} {x : denC cs} {y : denCw cs} {l1 F : List Nat}, All2 (VS w S β (frz H fr)) ss vs → unCs H cs ss = some (x, l1) → (∀ o ∈ l1, o ∈ l) → lenCs cs x y = true →
    CwR w' S3 cs y vs F → ∃ Fb, F = Fb ∧ ∀ p ∈ reCs cs y ss, RwRow w' S3 β H l1 Fb p
  | [], [], _, _, _, _, F, _, _, _, _, h => ⟨F, rfl, fun p hp => by simp [reCs] at hp⟩
  | c :: r, s :: ss, _, x, y, l1, F, hv, h, hl, hlen, hc => by
    cases hv with
    | @cons _ v _ vs' h1 h2 =>
      simp only [unCs] at h
      split at h
      · rename_i x1 l2 hy
        split at h
        · rename_i x2 l3 hz
          simp only [Option.some.injEq, Prod.mk.injEq] at h
          obtain ⟨rfl, rfl⟩ := h
          have hl2 : ∀ o ∈ l2, o ∈ l := fun o ho => hl o (List.mem_append_left _ ho)
          have hl3 : ∀ o ∈ l3, o ∈ l := fun o ho => hl o (List.mem_append_right _ ho)
          cases c with
          | own e t =>
            obtain ⟨v1, vs1, q, F2, e1, e2, e3, e4, e5⟩ := hc
            simp only [List.cons.injEq] at e1
            obtain ⟨rfl, rfl⟩ := e1
            subst e2
            simp only [lenCs, Bool.and_eq_true, beq_iff_eq] at hlen
            have g1 := reR_sound hfr h1 hy hl2 hlen.1 e3 e4
            obtain ⟨Fb, rfl, g2⟩ := reCs_sound hfr h2 hz hl3 hlen.2 e5
            refine ⟨_, rfl, fun p hp => ?_⟩
            simp only [reCs, List.mem_append] at hp
            rcases hp with hp | hp
            · exact (g1.2 p hp).mono (fun o ho => List.mem_append_left _ ho) (fun b hb => List.mem_append_left _ hb)
            · exact (g2 p hp).mono (fun o ho => List.mem_append_right _ ho) (fun b hb => List.mem_append_right _ hb)
          | _ =>
            obtain ⟨v1, vs1, e1, e2⟩ := hc
            simp only [List.cons.injEq] at e1
            obtain ⟨rfl, rfl⟩ := e1
            obtain ⟨Fb, rfl, g2⟩ := reCs_sound hfr h2 hz hl3 hlen e2
            exact ⟨_, rfl, fun p hp => (g2 p hp).mono (fun o ho => List.mem_append_right _ ho) (fun b hb => hb)⟩
        · cases h
      · cases h
  | [], _ :: _, _, _, _, _, _, _, h, _, _, _ => by simp [unCs] at h
  | _ :: _, [], _, _, _, _, _, _, h, _, _, _ => by simp [unCs] at h

theorem outs_sound (hO : Owns w S β (frz σ.H fr)) (hfr : ∀ o, o ∈ l → o ∉ fr) : ∀ {ps : List PK} {xs : List SV} {vs : List Value} {x : denP ps} {y : denQ ps} {l1 b1 F2 : List Nat} {i nm : Nat},
    All2 (VV w S β (frz σ.H fr)) xs vs → argsD σ ps xs = some (x, l1, b1) → (∀ o ∈ l1, o ∈ l) → lenQ ps x y = true → OutsR w' S3 ps y vs F2 →
    ∃ qs Fa Fb, Grs w' S3 (outA nm σ.H ps y xs).1 qs Fa ∧ F2.Perm (Fa ++ Fb) ∧ (∀ o ∈ b1, ∃ p ∈ (outA nm σ.H ps y xs).2, p.1 = o) ∧
      ∀ {S' : Nat → Prop} {β' : Names} {H' : Heap}, Agree S3 (fun _ => False) noB w' S' β' H' → (∀ p ∈ (outA nm σ.H ps y xs).1, look H' p.1 = some p.2) → (∀ p ∈ qs, β' p.1 = p.2) →
        ∀ p ∈ (outA nm σ.H ps y xs).2, RwRow w' S3 β σ.H l1 Fb p ∨ RwBox w' S' β β' σ.H H' (bxl i ps xs) b1 p
  | [], [], _, _, _, _, _, _, _, _, hv, h, _, _, ho => by
    simp only [argsD, Option.some.injEq, Prod.mk.injEq] at h
    obtain ⟨_, rfl, rfl⟩ := h
    obtain ⟨_, rfl⟩ := ho
    exact ⟨[], [], [], ⟨rfl, rfl⟩, by simp, fun o ho => by simp at ho, fun _ _ _ p hp => by simp [outA] at hp⟩
  | k :: r, s :: ss, _, x, y, l1, b1, F2, i, nm, hv, h, hl, hlen, ho => by
    cases hv with
    | @cons _ v _ vs' h1 h2 =>
      simp only [argsD] at h
      split at h
      · rename_i x1 hy
        split at h
        · rename_i z hz
          simp only [Option.some.injEq, Prod.mk.injEq] at h
          obtain ⟨rfl, rfl, rfl⟩ := h
          have hl2 : ∀ o ∈ x1.2.1, o ∈ l := fun o ho => hl o (List.mem_append_left _ ho)
          have hl3 : ∀ o ∈ z.2.1, o ∈ l := fun o ho => hl o (List.mem_append_right _ ho)
          have same : ∀ {yr : denQ r}, x1.2.1 = [] → x1.2.2 = [] → lenQ r z.1 yr = true → (∃ v1 vs1, v :: vs' = v1 :: vs1 ∧ OutsR w' S3 r yr vs1 F2) → ∃ qs Fa Fb, Grs w' S3 (outA nm σ.H r yr ss).1 qs Fa ∧ F2.Perm (Fa ++ Fb) ∧ (∀ o ∈ x1.2.2 ++ z.2.2, ∃ p ∈ (outA nm σ.H r yr ss).2, p.1 = o) ∧
              ∀ {S' : Nat → Prop} {β' : Names} {H' : Heap}, Agree S3 (fun _ => False) noB w' S' β' H' → (∀ p ∈ (outA nm σ.H r yr ss).1, look H' p.1 = some p.2) → (∀ p ∈ qs, β' p.1 = p.2) →
                ∀ p ∈ (outA nm σ.H r yr ss).2, RwRow w' S3 β σ.H (x1.2.1 ++ z.2.1) Fb p ∨ RwBox w' S' β β' σ.H H' (bxl (i + 1) r ss) (x1.2.2 ++ z.2.2) p := by
            intro yr e1 e2 hlen' hh
            obtain ⟨v1, vs1, e3, hh⟩ := hh
            simp only [List.cons.injEq] at e3
            obtain ⟨rfl, rfl⟩ := e3
            rw [e1, e2, List.nil_append, List.nil_append]
            exact outs_sound hO hfr h2 (l1 := z.2.1) (b1 := z.2.2) hz hl3 hlen' hh
          cases k with
          | val t =>
            have hn : x1.2.1 = [] ∧ x1.2.2 = [] := by
              simp only [argD] at hy
              split at hy
              · obtain rfl := Option.some.inj hy; exact ⟨rfl, rfl⟩
              · cases hy
            exact same hn.1 hn.2 hlen ho
          | fn f ts =>
            have hn : x1.2.1 = [] ∧ x1.2.2 = [] := by
              simp only [argD] at hy
              split at hy
              · split at hy
                · split at hy
                  · obtain rfl := Option.some.inj hy; exact ⟨rfl, rfl⟩
                  · cases hy
                · cases hy
              · cases hy
            exact same hn.1 hn.2 hlen ho
          | ptr t =>
            have hn : x1.2.1 = [] ∧ x1.2.2 = [] := by
              simp only [argD] at hy
              split at hy
              · split at hy
                · obtain rfl := Option.some.inj hy; exact ⟨rfl, rfl⟩
                · cases hy
              · split at hy
                · split at hy
                  · obtain rfl := Option.some.inj hy; exact ⟨rfl, rfl⟩
                  · cases hy
                · cases hy
              · split at hy
                · obtain ⟨d, hd, hy⟩ := Option.bind_eq_some_iff.1 hy
                  obtain ⟨d', hd', hy⟩ := Option.bind_eq_some_iff.1 hy
                  obtain rfl := Option.some.inj hy; exact ⟨rfl, rfl⟩
                · cases hy
              · cases hy
            exact same hn.1 hn.2 hlen ho
          | box ci co =>
            obtain ⟨v1, vs1, F3, F4, b, base, c', e', e1, e2, e3, e4, e5, e6, e7, e8, e9⟩ := ho
            simp only [List.cons.injEq] at e1
            obtain ⟨rfl, rfl⟩ := e1
            subst e2
            simp only [argD] at hy
            split at hy
            · rename_i o off
              split at hy
              · rename_i cs hk
                split at hy
                · rename_i hle
                  split at hy
                  · rename_i q hq
                    obtain rfl := Option.some.inj hy
                    obtain ⟨qs, Fa, Fb, g1, g2, g3, g4⟩ := outs_sound hO hfr (i := i + 1) (nm := nm + 30) h2 (l1 := z.2.1) (b1 := z.2.2) hz hl3 hlen e9
                    obtain ⟨qs0, g5, g6⟩ := mkCs_sound nm e7
                    have hk' : look (frz σ.H fr) o = some (.box cs) := by rw [frz_same (by intro e t xs e'; rw [hk] at e'; cases e'), hk]
                    obtain ⟨b', base', e10, e11⟩ := VV_p h1 hk'
                    rw [e3] at e11
                    simp only [Value.pointer.injEq, Option.some.injEq, Addr.mk.injEq, and_true] at e11
                    obtain ⟨rfl, rfl⟩ := e11
                    refine ⟨qs0 ++ qs, F3 ++ Fa, Fb, ?_, by rw [List.append_assoc]; exact g2.append_left F3, ?_, ?_⟩
                    · simp only [outA, hk]; exact g5.append g1
                    · intro o' ho'
                      simp only [outA, hk]
                      simp only [List.cons_append, List.nil_append, List.mem_cons] at ho'
                      rcases ho' with rfl | ho'
                      · exact ⟨(o', _), List.mem_cons_self .., rfl⟩
                      · obtain ⟨p, hp, e⟩ := g3 o' ho'
                        exact ⟨p, by simp [hp], e⟩
                    · intro S' β' H' ha hH hb p hp
                      simp only [outA, hk] at hH hp
                      simp only [List.mem_cons] at hp
                      rcases hp with rfl | hp
                      · right
                        have hlen2 := mkCs_len nm co y.1
                        refine ⟨cs, (mkCs nm co y.1).1, off, b, base', c', e', 9000000 + i, hk, by simp, by simp [bxl, hlen2, e4], rfl, by rw [hlen2]; omega, e10, e5, ?_⟩
                        rw [hlen2]
                        exact (g6 ha (fun p hp => hH p (List.mem_append_left _ hp)) (fun p hp => hb p (List.mem_append_left _ hp))).and e8
                      · rcases g4 ha (fun p hp => hH p (List.mem_append_right _ hp)) (fun p hp => hb p (List.mem_append_right _ hp)) p hp with h | h
                        · exact .inl (h.mono (fun o ho => List.mem_append_right _ ho) (fun b hb => hb))
                        · exact .inr (h.mono (fun o ho => by simp [bxl, ho]) (fun b hb => by simp [hb]))
                  · cases hy
                · cases hy
              · cases hy
            · cases hy
          | row e t =>
            obtain ⟨v1, vs1, q, F4, e1, e2, e3, e4, e5⟩ := ho
            simp only [List.cons.injEq] at e1
            obtain ⟨rfl, rfl⟩ := e1
            subst e2
            simp only [lenQ, Bool.and_eq_true, beq_iff_eq] at hlen
            simp only [argD] at hy
            split at hy
            · rename_i s1
              split at hy
              · rename_i q' hq
                obtain rfl := Option.some.inj hy
                have h1' : VS w S β (frz σ.H fr) s1 v := by
                  by_cases hd : ∃ t' z, s1 = .d t' z
                  · obtain ⟨t', z', rfl⟩ := hd; simp [unC] at hq
                  · exact (VV_s fun t z e => hd ⟨t, z, e⟩).1 h1
                have g0 := reR_sound hfr h1' hq hl2 hlen.1 e3 e4
                obtain ⟨qs, Fa, Fb, g1, g2, g3, g4⟩ := outs_sound hO hfr (i := i + 1) (nm := nm) h2 (l1 := z.2.1) (b1 := z.2.2) hz hl3 hlen.2 e5
                refine ⟨qs, Fa, blkq q ++ Fb, g1, ?_, ?_, ?_⟩
                · refine (g2.append_left (blkq q)).trans ?_
                  rw [← List.append_assoc, ← List.append_assoc]
                  exact List.perm_append_comm.append_right Fb
                · intro o' ho'
                  obtain ⟨p, hp, e⟩ := g3 o' ho'
                  exact ⟨p, by simp [outA, hp], e⟩
                · intro S' β' H' ha hH hb p hp
                  simp only [outA, List.mem_append] at hp
                  rcases hp with hp | hp
                  · exact .inl ((g0.2 p hp).mono (fun o ho => List.mem_append_left _ ho) (fun b hb => List.mem_append_left _ hb))
                  · rcases g4 ha hH hb p hp with h | h
                    · exact .inl (h.mono (fun o ho => List.mem_append_right _ ho) (fun b hb => List.mem_append_right _ hb))
                    · exact .inr (h.mono (fun o ho => by simp [bxl, ho]) (fun b hb => by simp [hb]))
              · cases hy
            · cases hy
          | agg cs =>
            obtain ⟨v1, vs1, us, F3, F4, e1, e2, e3, e4, e5⟩ := ho
            simp only [List.cons.injEq] at e1
            obtain ⟨rfl, rfl⟩ := e1
            subst e2
            simp only [lenQ, Bool.and_eq_true] at hlen
            simp only [argD] at hy
            split at hy
            · rename_i s1
              split at hy
              · rename_i q' hq
                obtain rfl := Option.some.inj hy
                obtain ⟨us', e6, hall⟩ := h1
                rw [e3] at e6
                simp only [Value.agg.injEq] at e6
                have e7 : us = us' := by simpa using e6
                subst e7
                obtain ⟨Fb0, rfl, g0⟩ := reCs_sound hfr hall hq hl2 hlen.1 e4
                obtain ⟨qs, Fa, Fb, g1, g2, g3, g4⟩ := outs_sound hO hfr (i := i + 1) (nm := nm) h2 (l1 := z.2.1) (b1 := z.2.2) hz hl3 hlen.2 e5
                refine ⟨qs, Fa, F3 ++ Fb, g1, ?_, ?_, ?_⟩
                · refine (g2.append_left F3).trans ?_
                  rw [← List.append_assoc, ← List.append_assoc]
                  exact List.perm_append_comm.append_right Fb
                · intro o' ho'
                  obtain ⟨p, hp, e⟩ := g3 o' ho'
                  exact ⟨p, by simp [outA, hp], e⟩
                · intro S' β' H' ha hH hb p hp
                  simp only [outA, List.mem_append] at hp
                  rcases hp with hp | hp
                  · exact .inl ((g0 p hp).mono (fun o ho => List.mem_append_left _ ho) (fun b hb => List.mem_append_left _ hb))
                  · rcases g4 ha hH hb p hp with h | h
                    · exact .inl (h.mono (fun o ho => List.mem_append_right _ ho) (fun b hb => List.mem_append_right _ hb))
                    · exact .inr (h.mono (fun o ho => by simp [bxl, ho]) (fun b hb => by simp [hb]))
              · cases hy
            · cases hy
        · cases h
      · cases h
  | [], _ :: _, _, _, _, _, _, _, _, _, _, h, _, _, _ => by simp [argsD] at h
  | _ :: _, [], _, _, _, _, _, _, _, _, _, h, _, _, _ => by simp [argsD] at h

end Go.Proofs.Yteddlkdbefloaaa.S
