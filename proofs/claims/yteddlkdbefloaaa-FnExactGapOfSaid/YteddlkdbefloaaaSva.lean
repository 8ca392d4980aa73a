/- Machinery S: what an operation knows depends on what it looks at alone. -/
import Derived.Test.YteddlkdbefloaaaSv
namespace Go.Proofs.Yteddlkdbefloaaa.S
open Go Go.RowKit
set_option linter.unusedVariables false
set_option linter.unusedSimpArgs false

variable {T : Tab} {G : Env} {σ σ2 : St} {o : Oper} {R : Type} {H H2 : Heap} {own : Bool}

/-- Two heaps agree on names. -/
def agN (H H2 : Heap) (l : List Nat) : Prop := ∀ n ∈ l, look H2 n = look H n

theorem agN.sub {l m : List Nat} (h : agN H H2 l) (hs : ∀ n ∈ m, n ∈ l) : agN H H2 m := fun n hn => h n (hs n hn)
theorem agN.left {l m : List Nat} (h : agN H H2 (l ++ m)) : agN H H2 l := h.sub fun n hn => List.mem_append_left _ hn
theorem agN.right {l m : List Nat} (h : agN H H2 (l ++ m)) : agN H H2 m := h.sub fun n hn => List.mem_append_right _ hn
theorem agN.pre {l : List Nat} (h : agN H H2 l) (p : Heap) : agN (p ++ H) (p ++ H2) l := fun n hn => by rw [look_append, look_append, h n hn]

theorem mem_boxNames {o : Nat} {cs : List S1} (h : look H o = some (.box cs)) {n : Nat} (hn : n ∈ cs.flatMap namesC) : n ∈ boxNames H o := by
  unfold boxNames; rw [h]; exact hn

theorem mem_close {l : List Nat} {o n : Nat} (ho : o ∈ l) (hn : n ∈ boxNames H o) : n ∈ closeN H l := List.mem_append_right _ (List.mem_flatMap.2 ⟨o, ho, hn⟩)

theorem close_mono {l m : List Nat} (h : ∀ n ∈ m, n ∈ l) : ∀ n ∈ closeN H m, n ∈ closeN H l := by
  intro n hn
  rcases List.mem_append.1 hn with hn | hn
  · exact List.mem_append_left _ (h n hn)
  · obtain ⟨o, ho, hn⟩ := List.mem_flatMap.1 hn
    exact mem_close (h o ho) hn

theorem agN.close {l : List Nat} (h : agN H H2 (closeN H l)) : agN H H2 l := h.left

theorem agN.box {l : List Nat} (h : agN H H2 (closeN H l)) {o : Nat} (ho : o ∈ l) {cs : List S1} (hb : look H o = some (.box cs)) : agN H H2 (cs.flatMap namesC) :=
  h.sub fun n hn => mem_close ho (mem_boxNames hb hn)

theorem cell1_agr {t : Ty} {s : S1} (h : agN H H2 (namesC s)) : cell1 own H2 t s = cell1 own H t s := by
  cases s with
  | sl o => simp only [cell1]; rw [h o (by simp [namesC])]
  | _ => rfl

theorem gat_agr : ∀ {t : Ty} {cs : List S1}, agN H H2 (cs.flatMap namesC) → gat own H2 t cs = gat own H t cs
  | .unit, cs, _ => rfl
  | .pair a b, cs, h => by
    simp only [gat]
    rw [gat_agr (t := a) h]
    cases hg : gat own H a cs with
    | none => rfl
    | some q =>
      obtain ⟨x, r⟩ := q
      obtain ⟨pre, e⟩ := gat_left hg
      simp only
      rw [gat_agr (t := b) (cs := r) (h.sub fun n hn => by rw [e, List.flatMap_append]; exact List.mem_append_right _ hn)]
  | .int k, [], _ => rfl
  | .bool, [], _ => rfl
  | .str, [], _ => rfl
  | .slice t, [], _ => rfl
  | .int k, c :: r, h => by
    simp only [gat]; rw [cell1_agr (h.sub fun n hn => by simp [hn])]
  | .bool, c :: r, h => by
    simp only [gat]; rw [cell1_agr (h.sub fun n hn => by simp [hn])]
  | .str, c :: r, h => by
    simp only [gat]; rw [cell1_agr (h.sub fun n hn => by simp [hn])]
  | .slice t, c :: r, h => by
    simp only [gat]; rw [cell1_agr (h.sub fun n hn => by simp [hn])]

theorem toD_agr {t : Ty} {x : SV} (h : agN H H2 (namesV x)) : toD own H2 t x = toD own H t x := by
  cases x with
  | s c => exact cell1_agr h
  | g cs => simp only [toD]; rw [gat_agr h]

theorem mem_slNames {o : Nat} : ∀ {cs : List S1}, o ∈ slNames cs → o ∈ cs.flatMap namesC := by
  intro cs h
  obtain ⟨c, hc, h⟩ := List.mem_filterMap.1 h
  refine List.mem_flatMap.2 ⟨c, hc, ?_⟩
  cases c <;> simp at h
  subst h; simp [namesC]

theorem rowsOf_agr {x : SV} (h : agN H H2 (namesV x)) : rowsOf H2 x = rowsOf H x := by
  cases x with
  | g cs => rfl
  | s c =>
    cases c with
    | p o off => simp only [rowsOf]; rw [h o (by simp [namesV, namesC])]
    | fn f l =>
      simp only [rowsOf, List.flatMap_def]
      congr 1
      refine List.map_congr_left fun c hc => ?_
      cases c with
      | pd t z => rfl
      | p o off => simp only; rw [h o (by simp only [namesV, namesC, List.mem_flatMap]; exact ⟨_, hc, by simp⟩)]
    | _ => rfl

theorem rowsOf_mem {x : SV} : ∀ n ∈ rowsOf H x, n ∈ closeN H (namesV x) := by
  intro n hn
  cases x with
  | g cs => exact List.mem_append_left _ (mem_slNames hn)
  | s c =>
    cases c with
    | p o off =>
      simp only [rowsOf] at hn
      split at hn
      · rename_i cs hb
        exact mem_close (o := o) (by simp [namesV, namesC]) (mem_boxNames hb (mem_slNames hn))
      · simp at hn
    | sl o => exact List.mem_append_left _ (by simpa [rowsOf, namesV, namesC] using hn)
    | pe o i off => exact List.mem_append_left _ (by simpa [rowsOf, namesV, namesC] using hn)
    | fn f l =>
      simp only [rowsOf, List.mem_flatMap] at hn
      obtain ⟨c, hc, hn⟩ := hn
      cases c with
      | pd t z => simp at hn
      | p o off =>
        simp only at hn
        split at hn
        · rename_i cs hb
          exact mem_close (o := o) (by simp only [namesV, namesC, List.mem_flatMap]; exact ⟨_, hc, by simp⟩) (mem_boxNames hb (mem_slNames hn))
        · simp at hn
    | _ => simp [rowsOf] at hn

theorem rowsOf_ag {x : SV} (h : agN H H2 (closeN H (namesV x))) : agN H H2 (rowsOf H x) := h.sub rowsOf_mem

theorem frz_pre : ∀ (l : List Nat), ∃ p : Heap, frz H l = p ++ H ∧ ∀ H2, agN H H2 l → frz H2 l = p ++ H2
  | [] => ⟨[], rfl, fun _ _ => rfl⟩
  | o :: r => by
    obtain ⟨p, hp, h2⟩ := frz_pre r
    have hl : ∀ H2, agN H H2 (o :: r) → look (frz H2 r) o = look (frz H r) o := by
      intro H2 h
      rw [h2 H2 (h.sub fun n hn => List.mem_cons_of_mem _ hn), hp, look_append, look_append, h o (by simp)]
    cases hq : look (frz H r) o with
    | none => 
      refine ⟨p, by simp only [frz, hq]; exact hp, fun H2 h => ?_⟩
      simp only [frz, hl H2 h, hq]; exact h2 H2 (h.sub fun n hn => List.mem_cons_of_mem _ hn)
    | some ob =>
      cases ob with
      | row e t xs =>
        refine ⟨(o, .fro t xs) :: p, by simp only [frz, hq]; rw [hp]; rfl, fun H2 h => ?_⟩
        simp only [frz, hl H2 h, hq]; rw [h2 H2 (h.sub fun n hn => List.mem_cons_of_mem _ hn)]; rfl
      | _ =>
        refine ⟨p, by simp only [frz, hq]; exact hp, fun H2 h => ?_⟩
        simp only [frz, hl H2 h, hq]; exact h2 H2 (h.sub fun n hn => List.mem_cons_of_mem _ hn)

theorem agN.frz {l m : List Nat} (h : agN H H2 m) (hl : agN H H2 l) : agN (S.frz H l) (S.frz H2 l) m := by
  obtain ⟨p, hp, h2⟩ := frz_pre (H := H) l
  rw [hp, h2 H2 hl]
  exact h.pre p

theorem lenOf_agr {t : Ty} {x : SV} (h : agN H H2 (namesV x)) : lenOf t H2 x = lenOf t H x := by
  cases t <;> try rfl
  cases x with
  | g cs => rfl
  | s c =>
    cases c with
    | sl o => simp only [lenOf]; rw [h o (by simp [namesV, namesC])]
    | d u z => cases u <;> rfl
    | _ => rfl

theorem unC_agr {c : CK} {s : S1} (h : agN H H2 (namesC s)) : unC H2 c s = unC H c s := by
  cases c with
  | dat t => simp only [unC]; rw [cell1_agr h]
  | own e t =>
    cases s with
    | sl o => simp only [unC]; rw [h o (by simp [namesC])]
    | _ => rfl
  | ptr o off =>
    cases s with
    | p o' off' =>
      simp only [unC]
      by_cases e : o' = o ∧ off' = off
      · rw [if_pos e, if_pos e, ← e.1, h o' (by simp [namesC])]
      · rw [if_neg e, if_neg e]
    | _ => rfl
  | ref o =>
    cases s with
    | sl o' =>
      simp only [unC]
      by_cases e : o' = o
      · rw [if_pos e, if_pos e, ← e, h o' (by simp [namesC])]
      · rw [if_neg e, if_neg e]
    | _ => rfl
  | mp =>
    cases s with
    | mp o => simp only [unC]; rw [h o (by simp [namesC])]
    | _ => rfl
  | _ => cases s <;> rfl

theorem unCs_agr : ∀ {ks : List CK} {ss : List S1}, agN H H2 (ss.flatMap namesC) → unCs H2 ks ss = unCs H ks ss
  | [], [], _ => rfl
  | [], _ :: _, _ => rfl
  | _ :: _, [], _ => rfl
  | c :: r, s :: ss, h => by
    simp only [unCs]
    rw [unC_agr (h.sub fun n hn => by simp [hn]), unCs_agr (h.sub fun n hn => by simp only [List.flatMap_cons]; exact List.mem_append_right _ hn)]

theorem freeC_agr {l : List Nat} {c : CK} {s : S1} (h : agN H H2 (namesC s)) : freeC H2 l c s = freeC H l c s := by
  cases c with
  | dat t =>
    cases s with
    | sl o => simp only [freeC]; rw [h o (by simp [namesC])]
    | _ => rfl
  | _ => cases s <;> rfl

theorem freeCs_agr {l : List Nat} : ∀ {ks : List CK} {ss : List S1}, agN H H2 (ss.flatMap namesC) → freeCs H2 l ks ss = freeCs H l ks ss
  | [], [], _ => rfl
  | [], _ :: _, _ => rfl
  | _ :: _, [], _ => rfl
  | c :: r, s :: ss, h => by
    simp only [freeCs]
    rw [freeC_agr (h.sub fun n hn => by simp [hn]), freeCs_agr (h.sub fun n hn => by simp only [List.flatMap_cons]; exact List.mem_append_right _ hn)]

theorem flat_sub {cs ds : List S1} (h : ∀ c ∈ ds, c ∈ cs) : ∀ n ∈ ds.flatMap namesC, n ∈ cs.flatMap namesC := by
  intro n hn
  obtain ⟨c, hc, hn⟩ := List.mem_flatMap.1 hn
  exact List.mem_flatMap.2 ⟨c, h c hc, hn⟩

theorem mem_dt {cs : List S1} {i j : Nat} : ∀ c ∈ (cs.drop i).take j, c ∈ cs := fun c hc => List.mem_of_mem_drop (List.mem_of_mem_take hc)

theorem capD_agr (f : FuncId) : ∀ {ts : List Ty} {l : List Cap}, agN H H2 (closeN H (namesC (.fn f l))) → capD H2 ts l = capD H ts l
  | [], [], _ => rfl
  | [], _ :: _, _ => rfl
  | _ :: _, [], _ => rfl
  | t :: r, c :: l, h => by
    have hr : agN H H2 (closeN H (namesC (.fn f l))) := h.sub (close_mono fun n hn => by
      simp only [namesC, List.flatMap_cons]; exact List.mem_append_right _ hn)
    simp only [capD]
    rw [capD_agr f hr]
    cases c with
    | pd s y => rfl
    | p o off =>
      have ho : o ∈ namesC (.fn f (.p o off :: l)) := by simp [namesC]
      simp only [capV]
      rw [h.close o ho]
      cases hb : look H o with
      | none => rfl
      | some ob =>
        cases ob with
        | box cs =>
          simp only
          rw [gat_agr ((h.box (o := o) ho hb).sub (flat_sub fun c hc => List.mem_of_mem_drop hc))]
        | _ => rfl

theorem argD_agr {k : PK} {x : SV} (hn : agN σ.H σ2.H (closeN σ.H (namesV x))) : argD σ2 k x = argD σ k x := by
  have h1 := hn.close
  cases k with
  | val t => simp only [argD]; rw [toD_agr h1]
  | ptr t =>
    cases x with
    | g cs => rfl
    | s c =>
      cases c with
      | p o off =>
        simp only [argD]
        rw [h1 o (by simp [namesV, namesC])]
        cases hb : look σ.H o with
        | none => rfl
        | some ob =>
          cases ob with
          | box cs =>
            simp only
            rw [gat_agr ((hn.box (o := o) (by simp [namesV, namesC]) hb).sub (flat_sub fun c hc => List.mem_of_mem_drop hc))]
          | _ => rfl
      | pe o i off =>
        simp only [argD]
        rw [h1 o (by simp [namesV, namesC])]
      | _ => rfl
  | box ci co =>
    cases x with
    | g cs => rfl
    | s c =>
      cases c with
      | p o off =>
        simp only [argD]
        rw [h1 o (by simp [namesV, namesC])]
        cases hb : look σ.H o with
        | none => rfl
        | some ob =>
          cases ob with
          | box cs =>
            simp only
            rw [unCs_agr ((hn.box (o := o) (by simp [namesV, namesC]) hb).sub (flat_sub mem_dt))]
          | _ => rfl
      | _ => rfl
  | row e t =>
    cases x with
    | g cs => rfl
    | s c => simp only [argD]; rw [unC_agr h1]
  | agg cs =>
    cases x with
    | g ss => simp only [argD]; rw [unCs_agr h1]
    | s c => rfl
  | fn f ts =>
    cases x with
    | g ss => rfl
    | s c =>
      cases c with
      | fn g l => simp only [argD]; rw [capD_agr g hn]
      | _ => rfl

theorem argsD_agr : ∀ {ps : List PK} {xs : List SV}, (∀ x ∈ xs, agN σ.H σ2.H (closeN σ.H (namesV x))) → argsD σ2 ps xs = argsD σ ps xs
  | [], [], _ => rfl
  | [], _ :: _, _ => rfl
  | _ :: _, [], _ => rfl
  | p :: r, x :: xs, h => by
    simp only [argsD]
    rw [argD_agr (h x (by simp)), argsD_agr fun y hy => h y (by simp [hy])]

theorem freeA_agr {l bs : List Nat} {k : PK} {x : SV} (hn : agN H H2 (closeN H (namesV x))) : freeA H2 l bs k x = freeA H l bs k x := by
  have h1 := hn.close
  cases k with
  | val t => simp only [freeA]; rw [rowsOf_agr h1]
  | ptr t => simp only [freeA]; rw [rowsOf_agr h1]
  | row e t => rfl
  | fn f ts => simp only [freeA]; rw [rowsOf_agr h1]
  | box ci co =>
    cases x with
    | g cs => rfl
    | s c =>
      cases c with
      | p o off =>
        simp only [freeA]
        rw [h1 o (by simp [namesV, namesC])]
        cases hb : look H o with
        | none => rfl
        | some ob =>
          cases ob with
          | box cs => exact freeCs_agr ((hn.box (o := o) (by simp [namesV, namesC]) hb).sub (flat_sub mem_dt))
          | _ => rfl
      | _ => rfl
  | agg cs =>
    cases x with
    | g ss => exact freeCs_agr h1
    | s c => rfl

theorem freeAs_agr {l bs : List Nat} : ∀ {ps : List PK} {xs : List SV}, (∀ x ∈ xs, agN H H2 (closeN H (namesV x))) → freeAs H2 l bs ps xs = freeAs H l bs ps xs
  | [], [], _ => rfl
  | [], _ :: _, _ => rfl
  | _ :: _, [], _ => rfl
  | p :: r, x :: xs, h => by
    simp only [freeAs]
    rw [freeA_agr (h x (by simp)), freeAs_agr fun y hy => h y (by simp [hy])]

theorem outA_agr : ∀ {nm : Nat} {ps : List PK} {y : denQ ps} {xs : List SV}, (∀ x ∈ xs, agN H H2 (closeN H (namesV x))) → outA nm H2 ps y xs = outA nm H ps y xs
  | _, [], _, _, _ => rfl
  | _, .val _ :: _, _, [], _ => rfl
  | _, .ptr _ :: _, _, [], _ => rfl
  | _, .fn _ _ :: _, _, [], _ => rfl
  | _, .box _ _ :: _, _, [], _ => rfl
  | _, .row _ _ :: _, _, [], _ => rfl
  | _, .agg _ :: _, _, [], _ => rfl
  | nm, .val _ :: r, y, x :: xs, h => outA_agr (ps := r) fun z hz => h z (by simp [hz])
  | nm, .ptr _ :: r, y, x :: xs, h => outA_agr (ps := r) fun z hz => h z (by simp [hz])
  | nm, .fn _ _ :: r, y, x :: xs, h => outA_agr (ps := r) fun z hz => h z (by simp [hz])
  | nm, .row _ _ :: r, y, x :: xs, h => by simp only [outA]; rw [outA_agr (ps := r) fun z hz => h z (by simp [hz])]
  | nm, .agg _ :: r, y, x :: xs, h => by simp only [outA]; rw [outA_agr (ps := r) fun z hz => h z (by simp [hz])]
  | nm, .box _ _ :: r, y, x :: xs, h => by
    simp only [outA]
    rw [outA_agr (ps := r) fun z hz => h z (by simp [hz])]
    cases x with
    | g cs => rfl
    | s c =>
      cases c with
      | p o off =>
        have h1 := (h (.s (.p o off)) (by simp)).close
        simp only
        rw [h1 o (by simp [namesV, namesC])]
      | _ => rfl

theorem newNames_agr : ∀ {l : List (Nat × Ob)}, agN H H2 (l.map (·.1)) → newNames H2 l = newNames H l
  | [], _ => rfl
  | p :: r, h => by
    simp only [newNames, newName]
    rw [h p.1 (by simp), newNames_agr fun n hn => h n (by simp at hn ⊢; exact .inr hn)]

theorem takeD_agr {t : Ty} {x : SV} {y : den t} {H' : Heap} (hn : agN H H2 (closeN H (namesV x))) (h : takeD H t x = some (y, H')) :
    ∃ p, H' = p ++ H ∧ takeD H2 t x = some (y, p ++ H2) := by
  obtain ⟨p, hp, h2⟩ := frz_pre (H := H) (rowsOf H x)
  have h3 := h2 H2 (rowsOf_ag hn)
  unfold takeD at h ⊢
  rw [rowsOf_agr hn.close, h3]
  rw [hp] at h
  rw [toD_agr (hn.close.pre p)]
  split at h
  · rename_i z hz
    simp only [Option.some.injEq, Prod.mk.injEq] at h
    obtain ⟨rfl, rfl⟩ := h
    exact ⟨p, rfl, rfl⟩
  · cases h

theorem mapO_congr {α β : Type} {f g : α → Option β} : ∀ {l : List α}, (∀ x ∈ l, f x = g x) → mapO f l = mapO g l
  | [], _ => rfl
  | x :: r, h => by simp only [mapO]; rw [h x (by simp), mapO_congr fun y hy => h y (by simp [hy])]

theorem mapO_mem {α β : Type} {f : α → Option β} : ∀ {l : List α} {r : List β}, mapO f l = some r → ∀ y ∈ r, ∃ x ∈ l, f x = some y
  | [], r, h, y, hy => by simp [mapO] at h; subst h; simp at hy
  | x :: l, r, h, y, hy => by
    simp only [mapO] at h
    split at h
    · rename_i z hz
      split at h
      · rename_i zs hzs
        obtain rfl := Option.some.inj h
        rcases List.mem_cons.1 hy with rfl | hy
        · exact ⟨x, by simp, hz⟩
        · obtain ⟨x', hx', e⟩ := mapO_mem hzs y hy
          exact ⟨x', by simp [hx'], e⟩
      · cases h
    · cases h

end Go.Proofs.Yteddlkdbefloaaa.S
