/- Machinery S: an operation done at a state that agrees with another one on all that it looks at. -/
import Derived.Test.YteddlkdbefloaaaSva
namespace Go.Proofs.Yteddlkdbefloaaa.S
open Go Go.RowKit
set_option linter.unusedVariables false
set_option linter.unusedSimpArgs false

variable {T : Tab} {G : Env} {σ σ2 : St} {o : Oper} {R : Type} {H H2 : Heap} {own : Bool}

structure AgO (o : Oper) (σ σ2 : St) : Prop where
  nt : σ2.nt = σ.nt
  ev : ∀ x ∈ o.op.operands, S.ev σ2 x = S.ev σ x
  env : ∀ t, Operand.tmp t ∈ o.op.operands → look σ2.env t = look σ.env t
  nm : ∀ x ∈ o.op.operands, ∀ v, S.ev σ x = some v → agN σ.H σ2.H (closeN σ.H (namesV v))

theorem newName_agr {j : Nat} (h : agN H H2 [j]) : newName H2 j = newName H j := by
  unfold newName; rw [h j (by simp)]

theorem optB_agr (hg : AgO o σ σ2) {d : Int} {x : Option Operand} (hx : ∀ y, x = some y → y ∈ o.op.operands) : optB σ2 d x = optB σ d x := by
  cases x with
  | none => rfl
  | some y => simp only [optB]; rw [hg.ev y (hx y rfl)]

theorem tupOf_agr (hg : AgO o σ σ2) {x : Operand} (hx : x ∈ o.op.operands) : tupOf σ2 x = tupOf σ x := by
  cases x with
  | tmp t => simp only [tupOf]; rw [hg.env t hx]
  | _ => rfl

theorem pureR_agr (hg : AgO o σ σ2) {q : Out} (h : pureR T o σ = some q) (hq : agN σ.H σ2.H (q.n.map (·.1))) : pureR T o σ2 = some q ∧ agN σ.H σ2.H q.fr := by
  have nf : q.fr = [] → pureR T o σ2 = some q → pureR T o σ2 = some q ∧ agN σ.H σ2.H q.fr := fun e h => ⟨h, by rw [e]; intro n hn; simp at hn⟩
  unfold pureR pureC at h nf ⊢
  cases ho : o.op with
  | move x =>
    rw [ho] at h nf
    have e := hg.ev x (by simp [ho, Op.operands])
    have e' := tupOf_agr hg (x := x) (by simp [ho, Op.operands])
    simp only at h nf ⊢
    rw [e, e'] at nf ⊢
    refine nf ?_ h
    split at h
    · obtain rfl := Option.some.inj h; rfl
    · split at h
      · obtain rfl := Option.some.inj h; rfl
      · cases h
  | assign x =>
    rw [ho] at h nf
    have e := hg.ev x (by simp [ho, Op.operands])
    have e' := tupOf_agr hg (x := x) (by simp [ho, Op.operands])
    simp only at h nf ⊢
    rw [e, e'] at nf ⊢
    refine nf ?_ h
    split at h
    · obtain rfl := Option.some.inj h; rfl
    · split at h
      · obtain rfl := Option.some.inj h; rfl
      · cases h
  | pick c x z =>
    rw [ho] at h nf
    have e1 := hg.ev c (by simp [ho, Op.operands])
    have e2 := hg.ev x (by simp [ho, Op.operands])
    have e3 := hg.ev z (by simp [ho, Op.operands])
    simp only at h nf ⊢
    rw [e1, e2, e3] at nf ⊢
    refine nf ?_ h
    split at h
    · split at h <;> (obtain rfl := Option.some.inj h; rfl)
    · cases h
  | alloc t =>
    rw [ho] at h nf
    simp only at h nf ⊢
    split at h
    · rename_i r j h1 h2
      split at h
      · rename_i hj
        obtain rfl := Option.some.inj h
        simp only [h1, h2] at nf ⊢
        refine nf (by trivial) ?_
        rw [newName_agr (H := σ.H) (by simpa using hq), if_pos hj]
      · cases h
    · cases h
  | box t x =>
    rw [ho] at h nf
    have e := hg.ev x (by simp [ho, Op.operands])
    simp only at h nf ⊢
    rw [e] at nf ⊢
    split at h
    · rename_i r z j h1 h2 h3
      split at h
      · rename_i hj
        obtain rfl := Option.some.inj h
        simp only [h1, h2, h3] at nf ⊢
        refine nf (by trivial) ?_
        rw [newName_agr (H := σ.H) (by simpa using hq), if_pos hj]
      · cases h
    · cases h
  | build t ps =>
    rw [ho] at h nf
    have e : mapO (fun p : Nat × Operand => (S.ev σ2 p.2).map fun y => (p.1, cellsOf y)) ps.toList = mapO (fun p : Nat × Operand => (S.ev σ p.2).map fun y => (p.1, cellsOf y)) ps.toList :=
      mapO_congr fun p hp => by rw [hg.ev p.2 (by simp only [ho, Op.operands]; simp; exact ⟨p.1, by simpa using hp⟩)]
    simp only at h nf ⊢
    rw [e] at nf ⊢
    refine nf ?_ h
    split at h
    · split at h
      · cases h
      · split at h
        · split at h
          · obtain rfl := Option.some.inj h; rfl
          · cases h
        · cases h
    · cases h
  | buildSlice t len ps =>
    rw [ho] at h
    have hm : ∀ p ∈ ps.toList, p.2 ∈ o.op.operands := fun p hp => by simp only [ho, Op.operands]; simp; exact ⟨p.1, by simpa using hp⟩
    have e : mapO (fun p : Nat × Operand => S.ev σ2 p.2) ps.toList = mapO (fun p : Nat × Operand => S.ev σ p.2) ps.toList :=
      mapO_congr fun p hp => by rw [hg.ev p.2 (hm p hp)]
    simp only at h ⊢
    rw [e]
    split at h
    · rename_i r j h1 h2
      try simp only [h1, h2]
      split at h
      · rename_i q' xs h3 h4
        have hxs : ∀ x ∈ xs, agN σ.H σ2.H (closeN σ.H (namesV x)) := fun x hx => by
          obtain ⟨p, hp, hpx⟩ := mapO_mem h4 x hx
          exact hg.nm p.2 (hm p hp) x hpx
        have hrows : xs.flatMap (rowsOf σ2.H) = xs.flatMap (rowsOf σ.H) := by
          rw [List.flatMap_def, List.flatMap_def]
          congr 1
          exact List.map_congr_left fun x hx => rowsOf_agr (hxs x hx).close
        have hfr : agN σ.H σ2.H (xs.flatMap (rowsOf σ.H)) := fun n hn => by
          obtain ⟨x, hx, hn⟩ := List.mem_flatMap.1 hn
          exact rowsOf_ag (hxs x hx) n hn
        try simp only [h3, h4]
        rw [hrows]
        split at h
        · rename_i hc
          split at h
          · rename_i ys hys
            obtain rfl := Option.some.inj h
            have hnn : newName σ2.H j = newName σ.H j := newName_agr (by simpa using hq)
            rw [if_pos (by rw [hnn]; exact hc)]
            have e2 : mapO (toD false (frz σ2.H (xs.flatMap (rowsOf σ.H))) q'.ty) xs = mapO (toD false (frz σ.H (xs.flatMap (rowsOf σ.H))) q'.ty) xs :=
              mapO_congr fun x hx => toD_agr ((hxs x hx).close.frz hfr)
            rw [e2, hys]
            exact ⟨rfl, hfr⟩
          · cases h
        · cases h
      · cases h
    · cases h
  | load t x =>
    rw [ho] at h nf
    have e := hg.ev x (by simp [ho, Op.operands])
    simp only at h nf ⊢
    rw [e] at nf ⊢
    have hn := hg.nm x (by simp [ho, Op.operands])
    split at h
    · rename_i r b off h1 h2
      simp only [h1, h2] at nf ⊢
      have hl := (hn _ h2).close b (by simp [namesV, namesC])
      rw [hl] at nf ⊢
      refine nf ?_ h
      split at h
      · split at h
        · split at h
          · obtain rfl := Option.some.inj h; rfl
          · split at h
            · obtain rfl := Option.some.inj h; rfl
            · cases h
        · cases h
      · cases h
    · rename_i r b i off h1 h2
      simp only [h1, h2] at nf ⊢
      have hl := (hn _ h2).close b (by simp [namesV, namesC])
      rw [hl] at nf ⊢
      refine nf ?_ h
      split at h
      · obtain ⟨z, hz, h⟩ := Option.bind_eq_some_iff.1 h
        obtain ⟨z', hz', h⟩ := Option.bind_eq_some_iff.1 h
        obtain rfl := Option.some.inj h; rfl
      · cases h
    · rename_i r u z h1 h2
      simp only [h1, h2] at nf ⊢
      refine nf ?_ h
      obtain ⟨z', hz', h⟩ := Option.bind_eq_some_iff.1 h
      obtain rfl := Option.some.inj h; rfl
    · cases h
  | nilCheck x =>
    rw [ho] at h nf
    have e := hg.ev x (by simp [ho, Op.operands])
    simp only at h nf ⊢
    rw [e] at nf ⊢
    have hn := hg.nm x (by simp [ho, Op.operands])
    split at h
    · rename_i b off h2
      simp only [h2] at nf ⊢
      have hl := (hn _ h2).close b (by simp [namesV, namesC])
      rw [hl] at nf ⊢
      refine nf ?_ h
      split at h
      · obtain rfl := Option.some.inj h; rfl
      · cases h
    · rename_i u z h2
      simp only [h2] at nf ⊢
      refine nf ?_ h
      obtain rfl := Option.some.inj h; rfl
    · rename_i b i off h2
      simp only [h2] at nf ⊢
      have hl := (hn _ h2).close b (by simp [namesV, namesC])
      rw [hl] at nf ⊢
      refine nf ?_ h
      split at h
      · obtain rfl := Option.some.inj h; rfl
      · cases h
    · cases h
  | binOp op t x z t' =>
    rw [ho] at h nf
    have e1 := hg.ev x (by simp [ho, Op.operands])
    have e2 := hg.ev z (by simp [ho, Op.operands])
    simp only at h nf ⊢
    rw [e1, e2] at nf ⊢
    refine nf ?_ h
    split at h
    · rw [binC_bind] at h
      obtain ⟨z', hz', h⟩ := Option.bind_eq_some_iff.1 h
      obtain rfl := Option.some.inj h; rfl
    · cases h
  | unOp op t x =>
    rw [ho] at h nf
    have e := hg.ev x (by simp [ho, Op.operands])
    simp only at h nf ⊢
    rw [e] at nf ⊢
    refine nf ?_ h
    split at h
    · obtain rfl := Option.some.inj h; rfl
    · obtain rfl := Option.some.inj h; rfl
    · cases h
  | convert t u x =>
    rw [ho] at h nf
    have e := hg.ev x (by simp [ho, Op.operands])
    simp only at h nf ⊢
    rw [e] at nf ⊢
    refine nf ?_ h
    split at h
    · split at h
      · obtain rfl := Option.some.inj h; rfl
      · cases h
    · cases h
  | makeSlice t l c =>
    rw [ho] at h nf
    have e1 := hg.ev l (by simp [ho, Op.operands])
    have e2 := hg.ev c (by simp [ho, Op.operands])
    simp only at h nf ⊢
    rw [e1, e2] at nf ⊢
    split at h
    · rename_i r j n m h1 h2 h3 h4
      simp only [h1, h2, h3, h4] at nf ⊢
      split at h
      · rename_i q' h5
        simp only [h5] at nf ⊢
        split at h
        · rename_i hc
          split at h
          · rename_i hc2
            obtain rfl := Option.some.inj h
            refine nf (by trivial) ?_
            rw [newName_agr (H := σ.H) (by simpa using hq), if_pos hc, if_pos hc2]
          · cases h
        · cases h
      · cases h
    · cases h
  | slice t x lo hi mx =>
    rw [ho] at h
    have e := hg.ev x (by simp [ho, Op.operands])
    have hn := hg.nm x (by simp [ho, Op.operands])
    have el : ∀ d, optB σ2 d lo = optB σ d lo := fun d => optB_agr hg fun y hy => by simp [ho, Op.operands, hy]
    have eh : ∀ d, optB σ2 d hi = optB σ d hi := fun d => optB_agr hg fun y hy => by simp [ho, Op.operands, hy]
    simp only at h ⊢
    rw [e]
    split at h
    · rename_i r z h1 h2 
      try simp only [h1, h2]
      split at h
      · rename_i hty
        try simp only [hty]
        split at h
        · rename_i s
          try simp only
          rw [el]
          have e3 : (optB σ 0 lo).bind (fun l => (optB σ2 (s.length : Int) hi).bind fun h => if 0 ≤ l ∧ l ≤ h ∧ h ≤ (s.length : Int) then kv (R := Out) some (.s (.d .str ((s.drop l.toNat).take (h.toNat - l.toNat)))) else none) = (optB σ 0 lo).bind (fun l => (optB σ (s.length : Int) hi).bind fun h => if 0 ≤ l ∧ l ≤ h ∧ h ≤ (s.length : Int) then kv (R := Out) some (.s (.d .str ((s.drop l.toNat).take (h.toNat - l.toNat)))) else none) := by rw [eh]
          refine ⟨e3.trans h, ?_⟩
          obtain ⟨z1, _, h⟩ := Option.bind_eq_some_iff.1 h
          obtain ⟨z2, _, h⟩ := Option.bind_eq_some_iff.1 h
          split at h
          · obtain rfl := Option.some.inj h; intro n hn; simp at hn
          · cases h
        · cases h
      · rename_i u hty
        try simp only [hty]
        rw [toD_agr (hn _ h2).close, rowsOf_agr (hn _ h2).close]
        obtain ⟨xs, hxs, h⟩ := Option.bind_eq_some_iff.1 h
        rw [hxs, Option.bind_some]
        rw [el, eh]
        refine ⟨h, ?_⟩
        obtain ⟨z1, _, h⟩ := Option.bind_eq_some_iff.1 h
        obtain ⟨z2, _, h⟩ := Option.bind_eq_some_iff.1 h
        split at h
        · obtain rfl := Option.some.inj h; exact rowsOf_ag (hn _ h2)
        · cases h
      · cases h
    · cases h
  | fieldAddr s x f =>
    rw [ho] at h nf
    have e := hg.ev x (by simp [ho, Op.operands])
    have hn := hg.nm x (by simp [ho, Op.operands])
    simp only at h nf ⊢
    rw [e] at nf ⊢
    split at h
    · rename_i r h1
      simp only [h1] at nf ⊢
      split at h
      · cases h
      · rename_i hag
        rw [if_neg hag] at nf ⊢
        split at h
        · rename_i off u h2
          simp only [h2] at nf ⊢
          split at h
          · rename_i q' h3
            simp only [h3] at nf ⊢
            split at h
            · cases h
            · rename_i hz
              rw [if_neg hz] at nf ⊢
              split at h
              · rename_i b k h4
                simp only [h4] at nf ⊢
                have hl := (hn _ h4).close b (by simp [namesV, namesC])
                rw [hl] at nf ⊢
                refine nf ?_ h
                split at h
                · obtain rfl := Option.some.inj h; rfl
                · cases h
              · rename_i b i k h4
                simp only [h4] at nf ⊢
                have hl := (hn _ h4).close b (by simp [namesV, namesC])
                rw [hl] at nf ⊢
                refine nf ?_ h
                split at h
                · obtain rfl := Option.some.inj h; rfl
                · cases h
              · rename_i w z h4
                simp only [h4] at nf ⊢
                refine nf ?_ h
                obtain ⟨z1, _, h⟩ := Option.bind_eq_some_iff.1 h
                obtain rfl := Option.some.inj h; rfl
              · cases h
          · cases h
        · cases h
    · cases h
  | field s x f =>
    rw [ho] at h nf
    have e := hg.ev x (by simp [ho, Op.operands])
    simp only at h nf ⊢
    rw [e] at nf ⊢
    refine nf ?_ h
    split at h
    · split at h
      · cases h
      · split at h
        · split at h
          · split at h
            · split at h
              · obtain rfl := Option.some.inj h; rfl
              · split at h
                · obtain rfl := Option.some.inj h; rfl
                · cases h
            · cases h
          · split at h
            · obtain ⟨z1, _, h⟩ := Option.bind_eq_some_iff.1 h
              obtain rfl := Option.some.inj h; rfl
            · cases h
          · cases h
        · cases h
    · cases h
  | indexAddr t x ix =>
    rw [ho] at h nf
    have e1 := hg.ev x (by simp [ho, Op.operands])
    have e2 := hg.ev ix (by simp [ho, Op.operands])
    have hn := hg.nm x (by simp [ho, Op.operands])
    simp only at h nf ⊢
    rw [e1, e2] at nf ⊢
    split at h
    · rename_i r b k i h1 h2 h3
      simp only [h1, h2, h3] at nf ⊢
      have hl := (hn _ h2).close b (by simp [namesV, namesC])
      rw [hl] at nf ⊢
      refine nf ?_ h
      split at h
      · split at h
        · split at h
          · obtain rfl := Option.some.inj h; rfl
          · cases h
        · cases h
      · split at h
        · split at h
          · obtain ⟨z1, _, h⟩ := Option.bind_eq_some_iff.1 h
            obtain rfl := Option.some.inj h; rfl
          · cases h
        · cases h
      · cases h
    · rename_i r u xs k i h1 h2 h3
      simp only [h1, h2, h3] at nf ⊢
      refine nf ?_ h
      split at h
      · split at h
        · obtain ⟨z1, _, h⟩ := Option.bind_eq_some_iff.1 h
          obtain rfl := Option.some.inj h; rfl
        · cases h
      · cases h
    · cases h
  | index t x ix =>
    rw [ho] at h nf
    have e1 := hg.ev x (by simp [ho, Op.operands])
    have e2 := hg.ev ix (by simp [ho, Op.operands])
    simp only at h nf ⊢
    rw [e1, e2] at nf ⊢
    refine nf ?_ h
    split at h
    · split at h
      · split at h
        · obtain ⟨z1, _, h⟩ := Option.bind_eq_some_iff.1 h
          obtain rfl := Option.some.inj h; rfl
        · cases h
      · cases h
    · cases h
  | extract x i =>
    rw [ho] at h nf
    simp only at h nf ⊢
    cases x with
    | tmp t =>
      have e := hg.env t (by simp [ho, Op.operands])
      simp only at h nf ⊢
      rw [e] at nf ⊢
      refine nf ?_ h
      split at h
      · split at h
        · obtain rfl := Option.some.inj h; rfl
        · cases h
      · cases h
    | _ => cases h
  | makeMap t r =>
    rw [ho] at h nf
    simp only at h nf ⊢
    split at h
    · rename_i j h1
      split at h
      · rename_i hj
        obtain rfl := Option.some.inj h
        simp only [h1] at nf ⊢
        refine nf (by trivial) ?_
        rw [newName_agr (H := σ.H) (by simpa using hq), if_pos hj]
      · cases h
    · cases h
  | lookup t m x ok =>
    rw [ho] at h nf
    have e1 := hg.ev m (by simp [ho, Op.operands])
    have e2 := hg.ev x (by simp [ho, Op.operands])
    have hn := hg.nm m (by simp [ho, Op.operands])
    simp only at h nf ⊢
    rw [e1, e2] at nf ⊢
    split at h
    · rename_i tk b n h1 h2 h3
      simp only [h1, h2, h3] at nf ⊢
      rw [(hn _ h2).close b (by simp [namesV, namesC])] at nf ⊢
      refine nf ?_ h
      split at h
      · obtain rfl := Option.some.inj h; rfl
      · cases h
    · cases h
  | makeFunc g first caps =>
    rw [ho] at h nf
    have e : mapO (S.ev σ2) caps.toList = mapO (S.ev σ) caps.toList := mapO_congr fun x hx => hg.ev x (by
      simp only [ho, Op.operands]; simp at hx; simp [hx])
    simp only at h nf ⊢
    rw [e] at nf ⊢
    refine nf ?_ h
    split at h
    · split at h
      · obtain rfl := Option.some.inj h; rfl
      · cases h
    · cases h
  | call c =>
    rw [ho] at h nf
    have hm : ∀ x ∈ c.args.toList, x ∈ o.op.operands := fun x hx => by
      simp only [ho, Op.operands, Call.operands]; simp at hx; simp [hx]
    simp only at h nf ⊢
    cases hc : c.callee with
    | builtin b =>
      simp only [hc] at h nf ⊢
      cases b with
      | len =>
        simp only at h nf ⊢
        split at h
        · rename_i x t h1 h2
          have hx := hm x (by rw [h1]; simp)
          have e := hg.ev x hx
          have hn := hg.nm x hx
          simp only [h1, h2] at nf ⊢
          rw [e] at nf ⊢
          split at h
          · rename_i r z h3 h4
            simp only [h3, h4] at nf ⊢
            rw [lenOf_agr (hn _ h4).close] at nf ⊢
            refine nf ?_ h
            obtain ⟨z1, _, h⟩ := Option.bind_eq_some_iff.1 h
            obtain rfl := Option.some.inj h; rfl
          · cases h
        · cases h
      | max =>
        simp only at h nf ⊢
        split at h
        · rename_i x z h1
          have e1 := hg.ev x (hm x (by rw [h1]; simp))
          have e2 := hg.ev z (hm z (by rw [h1]; simp))
          simp only [h1] at nf ⊢
          rw [e1, e2] at nf ⊢
          refine nf ?_ h
          split at h
          · split at h
            · obtain rfl := Option.some.inj h; rfl
            · cases h
          · cases h
        · cases h
      | min =>
        simp only at h nf ⊢
        split at h
        · rename_i x z h1
          have e1 := hg.ev x (hm x (by rw [h1]; simp))
          have e2 := hg.ev z (hm z (by rw [h1]; simp))
          simp only [h1] at nf ⊢
          rw [e1, e2] at nf ⊢
          refine nf ?_ h
          split at h
          · split at h
            · obtain rfl := Option.some.inj h; rfl
            · cases h
          · cases h
        · cases h
      | _ => cases h
    | _ => simp only [hc] at h; cases h
  | _ => rw [ho] at h; cases h

end Go.Proofs.Yteddlkdbefloaaa.S
