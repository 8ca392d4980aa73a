/- Machinery S: what any operation puts ahead of a state, and that it does so at every state that agrees on what it looks at. -/
import Derived.Test.YteddlkdbefloaaaSvb
namespace Go.Proofs.Yteddlkdbefloaaa.S
open Go Go.RowKit
set_option linter.unusedVariables false
set_option linter.unusedSimpArgs false

variable {T : Tab} {G : Env} {σ σ2 : St} {o : Oper} {R : Type} {H H2 : Heap} {own : Bool}

def preE (i : Option Nat) (x : Sl) : List (Nat × Sl) := match i with | some j => [(j, x)] | none => []

theorem sets_pre {σ : St} {i : Option Nat} {x : SV} : σ.sets i x = ⟨σ.nt, preE i (.v x) ++ σ.env, σ.H⟩ := by
  cases i <;> rfl

theorem skip_pre {σ : St} {i : Option Nat} : σ.skip i = ⟨σ.nt, preE i (.t []) ++ σ.env, σ.H⟩ := by
  cases i <;> rfl

theorem setDst_pre {i : Option Nat} {x : Sl} {env : List (Nat × Sl)} : setDst i x env = preE i x ++ env := by
  cases i <;> rfl

theorem preE_mem {i : Option Nat} {x : Sl} : ∀ p ∈ preE i x, i = some p.1 := by
  intro p hp
  cases i with
  | none => simp [preE] at hp
  | some j => simp [preE] at hp; subst hp; rfl

/-- A state with some knowledge put ahead. -/
def St.pre (σ : St) (pe : List (Nat × Sl)) (pH : Heap) : St := ⟨σ.nt, pe ++ σ.env, pH ++ σ.H⟩

def Loc (T : Tab) (G : Env) (nm : Nat) (o : Oper) (σ : St) (pe : List (Nat × Sl)) (pH : Heap) : Prop :=
  ∀ σ2, AgO o σ σ2 → agN σ.H σ2.H (pH.map (·.1)) → opR T G nm o σ2 some = some (σ2.pre pe pH)

theorem addO_pre {q : Out} {p : Heap} (h : frz σ.H q.fr = p ++ σ.H) : addO σ o.dst q = σ.pre (preE o.dst q.x) (q.n ++ p) := by
  unfold addO St.pre
  rw [h, List.append_assoc]
  cases o.dst <;> rfl

theorem pure_loc {nm : Nat} {σ' : St} (hp : ∀ σ, opR T G nm o σ some = pureC T o σ fun q => some (addO σ o.dst q)) (h : opR T G nm o σ some = some σ') :
    ∃ pe pH, σ' = σ.pre pe pH ∧ (∀ p ∈ pe, o.dst = some p.1) ∧ Loc T G nm o σ pe pH := by
  rw [hp, pureC_bind] at h
  obtain ⟨q, hq, h⟩ := Option.bind_eq_some_iff.1 h
  obtain rfl := Option.some.inj h
  obtain ⟨p, hfp, h2⟩ := frz_pre (H := σ.H) q.fr
  refine ⟨preE o.dst q.x, q.n ++ p, addO_pre hfp, preE_mem, fun σ2 hg hn => ?_⟩
  obtain ⟨e1, e2⟩ := pureR_agr hg hq (hn.sub fun n hm => by rw [List.map_append]; exact List.mem_append_left _ hm)
  rw [hp, pureC_bind, e1, Option.bind_some, addO_pre (h2 σ2.H e2)]

theorem store_loc {nm : Nat} {σ' : St} {t : TypeId} {a x : Operand} (ho : o.op = .store t a x) (h : opR T G nm o σ some = some σ') :
    ∃ pe pH, σ' = σ.pre pe pH ∧ (∀ p ∈ pe, o.dst = some p.1) ∧ Loc T G nm o σ pe pH := by
  have hma : a ∈ o.op.operands := by simp [ho, Op.operands]
  have hmx : x ∈ o.op.operands := by simp [ho, Op.operands]
  unfold opR at h
  rw [ho] at h
  simp only at h
  split at h
  · rename_i r b off y h1 h2 h3
    split at h
    · rename_i cs hb
      split at h
      · rename_i hc
        obtain rfl := Option.some.inj h
        refine ⟨preE o.dst (.v (.s .any)), [(b, .box (replC cs off (cellsOf y)))], sets_pre, preE_mem, fun σ2 hg hn => ?_⟩
        unfold opR
        rw [ho]
        simp only
        rw [hg.ev a hma, hg.ev x hmx]
        simp only [h1, h2, h3]
        rw [(hg.nm a hma _ h2).close b (by simp [namesV, namesC]), hb]
        simp only
        rw [if_pos hc]
        exact congrArg some sets_pre
      · cases h
    · cases h
  · rename_i r b i off y h1 h2 h3
    split at h
    · rename_i v H' htk
      split at h
      · rename_i e u xs hb
        obtain ⟨z, hz, h⟩ := Option.bind_eq_some_iff.1 h
        obtain ⟨z', hz', h⟩ := Option.bind_eq_some_iff.1 h
        obtain rfl := Option.some.inj h
        obtain ⟨p, hp, -⟩ := takeD_agr (H2 := σ.H) (fun n _ => rfl) htk
        refine ⟨preE o.dst (.v (.s .any)), (b, .row e u (xs.set i z')) :: p, ?_, preE_mem, fun σ2 hg hn => ?_⟩
        · rw [sets_pre, hp]; rfl
        · unfold opR
          rw [ho]
          simp only
          rw [hg.ev a hma, hg.ev x hmx]
          simp only [h1, h2, h3]
          obtain ⟨p2, hp2, htk2⟩ := takeD_agr (hg.nm x hmx _ h3) htk
          obtain rfl : p = p2 := List.append_cancel_right (hp.symm.trans hp2)
          rw [htk2]
          simp only
          have hag := ((hg.nm a hma _ h2).close.pre p) b (by simp [namesV, namesC])
          rw [hag, ← hp, hb]
          simp only [hz, hz', Option.bind_some]
          exact congrArg some sets_pre
      · cases h
    · cases h
  · cases h

theorem update_loc {nm : Nat} {σ' : St} {t : TypeId} {m x v : Operand} (ho : o.op = .mapUpdate t m x v) (h : opR T G nm o σ some = some σ') :
    ∃ pe pH, σ' = σ.pre pe pH ∧ (∀ p ∈ pe, o.dst = some p.1) ∧ Loc T G nm o σ pe pH := by
  have hmm : m ∈ o.op.operands := by simp [ho, Op.operands]
  have hmx : x ∈ o.op.operands := by simp [ho, Op.operands]
  have hmv : v ∈ o.op.operands := by simp [ho, Op.operands]
  unfold opR at h
  rw [ho] at h
  simp only at h
  split at h
  · rename_i tk b n yv h0 h1 h2 h3 h4
    split at h
    · rename_i es hb
      obtain rfl := Option.some.inj h
      refine ⟨[], [(b, .map (setM es n yv))], rfl, fun p hp => by simp at hp, fun σ2 hg hn => ?_⟩
      unfold opR
      rw [ho]
      simp only
      rw [hg.ev m hmm, hg.ev x hmx, hg.ev v hmv]
      simp only [h0, h1, h2, h3, h4]
      rw [(hg.nm m hmm _ h2).close b (by simp [namesV, namesC]), hb]
      rfl
    · cases h
  · cases h

theorem append_loc {nm : Nat} {σ' : St} {c : Call} (ho : o.op = .call c) (hc : c.callee = .builtin .append) (h : opR T G nm o σ some = some σ') :
    ∃ pe pH, σ' = σ.pre pe pH ∧ (∀ p ∈ pe, o.dst = some p.1) ∧ Loc T G nm o σ pe pH := by
  unfold opR at h
  rw [ho] at h
  simp only [hc] at h
  split at h
  · rename_i s x t t' j h1 h2 h3
    have hms : s ∈ o.op.operands := by
      have : s ∈ c.args := by rw [← Array.mem_toList_iff, h1]; simp
      simp [ho, Op.operands, Call.operands, this]
    have hmx : x ∈ o.op.operands := by
      have : x ∈ c.args := by rw [← Array.mem_toList_iff, h1]; simp
      simp [ho, Op.operands, Call.operands, this]
    split at h
    · rename_i r h4
      split at h
      · rename_i q h5
        split at h
        · rename_i hty
          split at h
          · rename_i b y h6 h7
            split at h
            · rename_i e u xs hb
              obtain ⟨ys, hys, h⟩ := Option.bind_eq_some_iff.1 h
              obtain ⟨xs', hxs, h⟩ := Option.bind_eq_some_iff.1 h
              split at h
              · rename_i hcd
                split at h
                · rename_i hle
                  obtain rfl := Option.some.inj h
                  refine ⟨preE o.dst (.v (.s (.sl nm))), [(nm, .row r.elem q.ty (xs' ++ ys)), (b, .dead)], ?_, preE_mem, fun σ2 hg hn => ?_⟩
                  · rw [h3]; rfl
                  · unfold opR
                    rw [ho]
                    simp only [hc, h1, h2, h3, h4, h5]
                    rw [if_pos hty, hg.ev s hms, hg.ev x hmx]
                    simp only [h6, h7]
                    have hny := hg.nm x hmx _ h7
                    rw [(hg.nm s hms _ h6).close b (by simp [namesV, namesC]), hb]
                    simp only
                    rw [toD_agr hny.close, hys, Option.bind_some, hxs, Option.bind_some, rowsOf_agr hny.close, newName_agr (hn.sub (by simp)), if_pos hcd, if_pos hle]
                    rfl
                · cases h
              · cases h
            · cases h
          · rename_i y h6 h7
            obtain ⟨ys, hys, h⟩ := Option.bind_eq_some_iff.1 h
            split at h
            · rename_i hcd
              split at h
              · rename_i hle
                obtain rfl := Option.some.inj h
                refine ⟨preE o.dst (.v (.s (.sl nm))), [(nm, .row r.elem q.ty ys)], ?_, preE_mem, fun σ2 hg hn => ?_⟩
                · rw [h3]; rfl
                · unfold opR
                  rw [ho]
                  simp only [hc, h1, h2, h3, h4, h5]
                  rw [if_pos hty, hg.ev s hms, hg.ev x hmx]
                  simp only [h6, h7]
                  have hny := hg.nm x hmx _ h7
                  rw [toD_agr hny.close, hys, Option.bind_some, newName_agr (hn.sub (by simp)), if_pos hcd, if_pos hle]
                  rfl
              · cases h
            · cases h
          · cases h
        · cases h
      · cases h
    · cases h
  · cases h

theorem call_loc {nm : Nat} {σ' : St} {c : Call} {f : Operand} (ho : o.op = .call c) (hc : c.callee = .value f) (h : opR T G nm o σ some = some σ') :
    ∃ pe pH, σ' = σ.pre pe pH ∧ (∀ p ∈ pe, o.dst = some p.1) ∧ Loc T G nm o σ pe pH := by
  unfold opR at h
  rw [ho] at h
  simp only [hc] at h
  have hmf : f ∈ o.op.operands := by simp [ho, Op.operands, Call.operands, hc]
  have hm : ∀ x ∈ c.args.toList, x ∈ o.op.operands := fun x hx => by
    simp only [ho, Op.operands, Call.operands]; simp at hx; simp [hx]
  split at h
  · rename_i g lc xs0 h1 h2
    generalize hxx : (xs0 ++ lc.map fun c => SV.s (capS c)) = xs at h
    split at h
    · rename_i cn h3
      unfold callR at h
      obtain ⟨q, hq, h⟩ := Option.bind_eq_some_iff.1 h
      split at h
      · rename_i hck
        obtain ⟨y, hy, h⟩ := Option.bind_eq_some_iff.1 h
        simp only at h
        split at h
        · rename_i hck2
          obtain rfl := Option.some.inj h
          have hxs : ∀ (σ2 : St), AgO o σ σ2 → ∀ x ∈ xs, agN σ.H σ2.H (closeN σ.H (namesV x)) := fun σ2 hg x hx => by
            rw [← hxx] at hx
            rcases List.mem_append.1 hx with hx | hx
            · obtain ⟨p, hp, hpx⟩ := mapO_mem h2 x hx
              exact hg.nm p (hm p hp) x hpx
            · obtain ⟨c, hc, rfl⟩ := List.mem_map.1 hx
              refine (hg.nm f hmf _ h1).sub (close_mono fun n hn => ?_)
              simp only [namesV, namesC, List.mem_flatMap]
              refine ⟨c, hc, ?_⟩
              cases c with
              | pd t z => simp [capS, namesV, namesC] at hn
              | p o off => simpa [capS, namesV, namesC] using hn
          generalize hfr : (if roRes cn.ps cn.rs = true then List.filter (fun o => !q.2.1.contains o) (List.flatMap (rowsOf σ.H) xs) else []) = fr at *
          obtain ⟨p, hp, h4⟩ := frz_pre (H := σ.H) fr
          refine ⟨preE o.dst (tup (mkVs nm cn.rs y.1).1), ((mkVs nm cn.rs y.1).2 ++ (outA (nm + 250) σ.H cn.ps y.2 xs).1) ++ ((outA (nm + 250) σ.H cn.ps y.2 xs).2 ++ (q.2.1.map (fun o => (o, Ob.dead)) ++ p)), ?_, preE_mem, fun σ2 hg hn => ?_⟩
          · rw [setDst_pre, hp]
            simp only [St.pre, List.append_assoc]
          · have hx := hxs σ2 hg
            unfold opR
            rw [ho]
            simp only [hc]
            rw [hg.ev f hmf, mapO_congr (g := S.ev σ) fun x hx => hg.ev x (hm x hx)]
            simp only [h1, h2, hxx, h3]
            unfold callR
            rw [argsD_agr hx, hq, Option.bind_some, freeAs_agr hx, if_pos hck, hy, Option.bind_some]
            simp only
            rw [outA_agr hx, newNames_agr (H := σ.H) (hn.sub fun n hn => by
              rw [List.map_append]; exact List.mem_append_left _ hn), if_pos hck2]
            have hrows : xs.flatMap (rowsOf σ2.H) = xs.flatMap (rowsOf σ.H) := by
              rw [List.flatMap_def, List.flatMap_def]
              congr 1
              exact List.map_congr_left fun x hm => rowsOf_agr (hx x hm).close
            rw [hrows, hfr, h4 σ2.H (fun n hn => by
              rw [← hfr] at hn
              split at hn
              · obtain ⟨x, hxm, hn⟩ := List.mem_flatMap.1 (List.mem_filter.1 hn).1
                exact rowsOf_ag (hx x hxm) n hn
              · simp at hn), setDst_pre]
            simp only [St.pre, List.append_assoc]
        · cases h
      · cases h
    · cases h
  · cases h

theorem opR_loc {nm : Nat} {σ' : St} (h : opR T G nm o σ some = some σ') :
    ∃ pe pH, σ' = σ.pre pe pH ∧ (∀ p ∈ pe, o.dst = some p.1) ∧ Loc T G nm o σ pe pH := by
  cases ho : o.op with
  | store t a x => exact store_loc ho h
  | mapUpdate t m x v => exact update_loc ho h
  | call c =>
    cases hc : c.callee with
    | builtin b =>
      cases b with
      | append => exact append_loc ho hc h
      | _ => exact pure_loc (fun σ => by unfold opR; rw [ho]; simp only [hc]) h
    | value f => exact call_loc ho hc h
    | _ => exact pure_loc (fun σ => by unfold opR; rw [ho]; simp only [hc]) h
  | _ => exact pure_loc (fun σ => by unfold opR; rw [ho]) h

theorem callR_bind {nm : Nat} {cn : Con} {xs : List SV} {dst : Option Nat} {K : St → Option R} : callR nm cn xs dst σ K = (callR nm cn xs dst σ some).bind K := by
  unfold callR
  rw [Option.bind_assoc]
  congr 1
  funext q
  split
  · rw [Option.bind_assoc]
    congr 1
    funext y
    simp only
    split <;> rfl
  · rfl

theorem opR_bind {nm : Nat} {K : St → Option R} : opR T G nm o σ K = (opR T G nm o σ some).bind K := by
  have pure : (pureC T o σ fun q => K (addO σ o.dst q)) = (pureC T o σ fun q => some (addO σ o.dst q)).bind K := by
    rw [pureC_bind, pureC_bind (K := fun q => some (addO σ o.dst q)), Option.bind_assoc]; rfl
  cases ho : o.op with
  | mapUpdate t m x v =>
    unfold opR
    rw [ho]
    simp only
    split
    · split <;> rfl
    · rfl
  | store t a x =>
    unfold opR
    rw [ho]
    simp only
    split
    · split
      · split <;> rfl
      · rfl
    · split
      · split
        · rw [Option.bind_assoc]
          congr 1
          funext z
          rw [Option.bind_assoc]
          rfl
        · rfl
      · rfl
    · rfl
  | call c =>
    cases hc : c.callee with
    | builtin b =>
      cases b with
      | append =>
        unfold opR
        rw [ho]
        simp only [hc]
        split
        · split
          · split
            · split
              · split
                · split
                  · rw [Option.bind_assoc]
                    congr 1
                    funext z
                    rw [Option.bind_assoc]
                    congr 1
                    funext z'
                    split
                    · split <;> rfl
                    · rfl
                  · rfl
                · rw [Option.bind_assoc]
                  congr 1
                  funext z
                  split
                  · split <;> rfl
                  · rfl
                · rfl
              · rfl
            · rfl
          · rfl
        · rfl
      | _ => unfold opR; rw [ho]; simp only [hc]; exact pure
    | value f =>
      unfold opR
      rw [ho]
      simp only [hc]
      split
      · split
        · exact callR_bind
        · rfl
      · rfl
    | _ => unfold opR; rw [ho]; simp only [hc]; exact pure
  | _ => unfold opR; rw [ho]; exact pure

end Go.Proofs.Yteddlkdbefloaaa.S
