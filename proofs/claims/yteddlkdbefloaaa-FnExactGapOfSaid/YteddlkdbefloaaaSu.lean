/- Soundness of the machinery S: behind a call. -/
import Derived.Test.YteddlkdbefloaaaSt
namespace Go.Proofs.Yteddlkdbefloaaa.S
open Go Go.RowKit
set_option linter.unusedVariables false
set_option linter.unusedSimpArgs false

variable {P : Program} {T : Tab} {G : Env} {w w' w0 : World} {Z : Nat → Prop} {M : Nat → Nat → Prop} {N : Nat → Option (Option (Nat × Nat))} {a : Act} {σ : St} {β : Names} {l : List Nat}

theorem look_isSome {α : Type} : ∀ {l : List (Nat × α)} {p : Nat × α}, p ∈ l → (look l p.1).isSome = true
  | q :: r, p, hp => by
    obtain ⟨k, z⟩ := q
    rw [look_cons]
    split
    · rfl
    · rename_i hne
      rcases List.mem_cons.1 hp with rfl | hp
      · exact absurd rfl hne
      · exact look_isSome hp

theorem hand_back {cn : Con} {xs : List SV} {vs : List Value} {x : denP cn.ps} {bs : List Nat} (h : Hand Z M N w0 β σ a w cn.ps xs vs x l bs)
    {y : denV cn.rs × denQ cn.ps} {v : Value} (hpost : Post (callM w β l (bxl 0 cn.ps xs)) w (RO Z β (frz σ.H (shown σ xs l))) (fun o => look (callB β (bxl 0 cn.ps xs) (rwl β σ.H 0 cn.ps xs)) o) cn vs y v w')
    (hlen : lenQ cn.ps x y.2 = true) {nm nm' : Nat} (hnew : newNames σ.H ((mkVs nm cn.rs y.1).2 ++ (outA nm' σ.H cn.ps y.2 xs).1) = true) {dst : Option Nat} (hd : dstOk dst σ.nt = true) :
    Rep Z M N w0 { nt := σ.nt, env := setDst dst (tup (mkVs nm cn.rs y.1).1) σ.env, H := ((mkVs nm cn.rs y.1).2 ++ (outA nm' σ.H cn.ps y.2 xs).1) ++ ((outA nm' σ.H cn.ps y.2 xs).2 ++ (l.map (fun o => (o, Ob.dead)) ++ frz σ.H (if roRes cn.ps cn.rs then shown σ xs l else []))) } (a.put dst v) w' := by
  obtain ⟨hkept, us, F1, F2, rfl, hvk, hout, hnd, hF⟩ := hpost
  generalize hS : RO Z β (frz σ.H (shown σ xs l)) = S at hvk hout
  generalize hfr2 : (if roRes cn.ps cn.rs then shown σ xs l else []) = fr2
  have hfl : ∀ o, o ∈ l → o ∉ fr2 := by
    intro o ho
    rw [← hfr2]
    split
    · exact h.out o ho
    · simp
  have hr1 := h.rep.frz (shown σ xs l)
  have hr2 := h.rep.frz fr2
  -- where the answer's data lie
  let S3 : Nat → Prop := if roRes cn.ps cn.rs = true then after S (callM w β l (bxl 0 cn.ps xs)) (fun o => look (callB β (bxl 0 cn.ps xs) (rwl β σ.H 0 cn.ps xs)) o) (F1 ++ F2) else fun _ => False
  have hshift : Shift w' (after S (callM w β l (bxl 0 cn.ps xs)) (fun o => look (callB β (bxl 0 cn.ps xs) (rwl β σ.H 0 cn.ps xs)) o) (F1 ++ F2)) S3 (roRes cn.ps cn.rs) := by
    intro t d cs hs hr
    by_cases e : roRes cn.ps cn.rs = true
    · simp only [S3, e, if_true]; exact hr
    · exact Rp_noSl (hs (by simpa using e)) hr
  have hro : roRes cn.ps cn.rs = false → cn.rs.any VK.sl = false ∧ cn.ps.any PK.sl = false := by
    intro e; simpa [roRes] using e
  have hvk := VKsR_S hshift (fun e => (hro e).1) hvk
  have hout := OutsR_S hshift (fun e => (hro e).2) hout
  obtain ⟨qs1, g1, k1⟩ := mkVs_sound nm hvk
  obtain ⟨qs2, Fa, Fb, g2, hperm, hcov, k2⟩ := outs_sound (nm := nm') (i := 0) hr1.owns h.out h.vals1 h.args (fun o ho => ho) hlen hout
  have g := g1.append g2
  have hnd' : (F1 ++ (Fa ++ Fb)).Nodup := ((hperm.append_left F1).nodup_iff).1 hnd
  have hin : ∀ b, b ∈ F1 ++ F2 ↔ b ∈ F1 ++ (Fa ++ Fb) := fun b => (hperm.append_left F1).mem_iff
  have hndn : (F1 ++ Fa).Nodup := by rw [← List.append_assoc] at hnd'; exact (List.nodup_append.1 hnd').1
  have hdis : ∀ b, b ∈ F1 ++ Fa → b ∉ Fb := by
    intro b h1 h2
    rw [← List.append_assoc] at hnd'
    exact (List.nodup_append.1 hnd').2.2 b h1 b h2 rfl
  have inN : ∀ b, b ∈ F1 ++ Fa → b ∈ F1 ++ F2 := fun b hb => (hin b).2 (by rw [← List.append_assoc]; exact List.mem_append_left _ hb)
  have inB : ∀ b, b ∈ Fb → b ∈ F1 ++ F2 := fun b hb => (hin b).2 (by rw [← List.append_assoc]; exact List.mem_append_right _ hb)
  generalize hNEW : (mkVs nm cn.rs y.1).2 ++ (outA nm' σ.H cn.ps y.2 xs).1 = NEW at g hnew ⊢
  generalize hRWd : (outA nm' σ.H cn.ps y.2 xs).2 = RW at k2 hcov ⊢
  obtain ⟨hnone, hnn⟩ := newNames_none hnew
  let β' : Names := fun o => match look (qs1 ++ qs2) o with | some q => q | none => β o
  let H' : Heap := NEW ++ (RW ++ (l.map (fun o => (o, Ob.dead)) ++ frz σ.H fr2))
  have hβq : ∀ p ∈ qs1 ++ qs2, β' p.1 = p.2 := by
    intro p hp
    show (match look (qs1 ++ qs2) p.1 with | some q => q | none => β p.1) = p.2
    rw [look_of_mem (by rw [g.names]; exact hnn) hp]
  have hold : ∀ o, (look σ.H o).isSome = true → look NEW o = none ∧ β' o = β o := by
    intro o ho
    have h1 : ∀ p ∈ NEW, p.1 ≠ o := fun p hp e => by rw [← e, hnone p hp] at ho; cases ho
    refine ⟨look_none_of h1, ?_⟩
    show (match look (qs1 ++ qs2) o with | some q => q | none => β o) = β o
    rw [look_none_of]
    intro p hp e
    have : p.1 ∈ NEW.map (·.1) := by rw [← g.names]; exact List.mem_map_of_mem (f := (·.1)) hp
    obtain ⟨p', hp', e'⟩ := List.mem_map.1 this
    exact h1 p' hp' (by rw [e', e])
  have hNl : ∀ p ∈ NEW, look H' p.1 = some p.2 := by
    intro p hp
    show look (NEW ++ _) p.1 = _
    rw [look_append, look_of_mem hnn hp]
  have hNl1 : ∀ p ∈ (mkVs nm cn.rs y.1).2, look H' p.1 = some p.2 := fun p hp => hNl p (by rw [← hNEW]; exact List.mem_append_left _ hp)
  have hNl2 : ∀ p ∈ (outA nm' σ.H cn.ps y.2 xs).1, look H' p.1 = some p.2 := fun p hp => hNl p (by rw [← hNEW]; exact List.mem_append_right _ hp)
  have hst : ∀ p ∈ RW, RwRow w' S3 β σ.H l Fb p ∨ RwBox w' (fun _ => True) β β' σ.H H' (bxl 0 cn.ps xs) bs p :=
    k2 ⟨fun _ _ _ e => (by cases e), fun _ _ _ e => (by cases e), fun _ e => e.elim, fun t d cs => Rp_keep fun b _ _ => ⟨trivial, rfl⟩⟩ hNl2 (fun p hp => hβq p (List.mem_append_right _ hp))
  have hRWin : ∀ p ∈ RW, (look σ.H p.1).isSome = true := by
    intro p hp
    rcases hst p hp with ⟨e, t, ys, xs0, _, _, h3, _⟩ | ⟨cs, nc, off, b, base, c', e', pn, h1, _⟩
    · rw [h3]; rfl
    · rw [h1]; rfl
  -- what a name is known as
  have hcase : ∀ o ob, look H' o = some ob → (o, ob) ∈ NEW ∨ (o, ob) ∈ RW ∨ (o ∈ l ∧ ob = .dead) ∨ (o ∉ l ∧ o ∉ bs ∧ look (frz σ.H fr2) o = some ob) := by
    intro o ob ho
    have ho : look (NEW ++ (RW ++ (l.map (fun o => (o, Ob.dead)) ++ frz σ.H fr2))) o = some ob := ho
    rw [look_append, look_append, look_append, look_dead] at ho
    split at ho
    · rename_i z hz
      obtain rfl := Option.some.inj ho
      exact .inl (look_mem hz)
    · split at ho
      · rename_i z hz
        obtain rfl := Option.some.inj ho
        exact .inr (.inl (look_mem hz))
      · rename_i hz
        by_cases hl : o ∈ l
        · rw [if_pos hl] at ho
          exact .inr (.inr (.inl ⟨hl, (Option.some.inj ho).symm⟩))
        · rw [if_neg hl] at ho
          refine .inr (.inr (.inr ⟨hl, fun hb => ?_, ho⟩))
          obtain ⟨p, hp, e⟩ := hcov o hb
          have := look_isSome hp
          rw [e] at this
          rw [hz] at this
          cases this
  have hsome : ∀ o ob, look (frz σ.H fr2) o = some ob → (look σ.H o).isSome = true := by
    intro o ob ho
    rw [← frz_isSome (fr := fr2), ho]; rfl
  have hinj := hr2.inj
  -- an elder object that was not handed over lies apart
  have hapart : ∀ o ob b cap, look (frz σ.H fr2) o = some ob → live ob = true → β o = some (b, cap) → o ∉ l → o ∉ bs → ∀ i, ¬ callM w β l (bxl 0 cn.ps xs) b i := by
    intro o ob b cap ho hl hb h1 h2 i hm
    have hlt := (hr2.own o ob b cap ho hl hb).2
    rcases hm with hm | hm | ⟨p, hp, base, e1, _⟩
    · omega
    · obtain ⟨o', ho', cap', hc⟩ := mem_blks.1 hm
      obtain ⟨e, t, ys, hk⟩ := h.live hfl o' ho'
      exact h1 (hinj o o' _ _ b cap cap' ho hl hk rfl hb hc ▸ ho')
    · obtain ⟨cs, _, _, _, _, h4, _, _, _, _, _, _, h5⟩ := h.box hp
      exact h2 (hinj o p.2.1 _ _ b cap base ho hl (look_box h4) rfl hb e1 ▸ h5)
  -- who owns what
  have hwho : ∀ o ob b cap, look H' o = some ob → live ob = true → β' o = some (b, cap) → ((o, some (b, cap)) ∈ qs1 ++ qs2 ∧ b ∈ F1 ++ Fa ∧ True) ∨
      (b ∉ F1 ++ Fa ∧ β o = some (b, cap) ∧ (∃ ob0, look (frz σ.H fr2) o = some ob0 ∧ live ob0 = true) ∧
        ((o ∈ l ∧ b ∈ Fb) ∨ (∃ p ∈ bxl 0 cn.ps xs, p.2.1 = o) ∨ (o ∉ l ∧ o ∉ bs ∧ look (frz σ.H fr2) o = some ob))) := by
    intro o ob b cap ho hl hb
    rcases hcase o ob ho with hm | hm | ⟨_, e⟩ | ⟨hl1, hb1, hk⟩
    · left
      obtain ⟨q, h1, h2, h3⟩ := g.mem _ hm
      have h4 := hβq _ h1
      simp only at h4 h1
      rw [hb] at h4
      rw [← h4] at h1 h2
      exact ⟨h1, h2 b (blkq_mem.2 ⟨cap, rfl⟩), trivial⟩
    · right
      have hs := hRWin _ hm
      rw [(hold o hs).2] at hb
      rcases hst _ hm with ⟨e, t, ys, xs0, h1, h2, h3, h4, h5, h6⟩ | ⟨cs, nc, off, b', base, c', e', pn, h1, h2, h3, _, _, h6, _⟩
      · simp only at h2 h3 h6
        have hbF := h6 b (blkq_mem.2 ⟨cap, hb⟩)
        refine ⟨fun hh => hdis b hh hbF, hb, ⟨.row e t xs0, ?_, rfl⟩, .inl ⟨h2, hbF⟩⟩
        rw [frz_row (l := fr2) h3, if_neg (hfl o h2)]
      · simp only at h1 h2 h3 h6
        rw [hb] at h6
        simp only [Option.some.injEq, Prod.mk.injEq] at h6
        obtain ⟨rfl, rfl⟩ := h6
        refine ⟨fun hh => (hF b (inN b hh)).2.2 pn _ (h.bl_mem h3 hb), hb, ⟨.box cs, look_box h1, rfl⟩, .inr (.inl ⟨_, h3, rfl⟩)⟩
    · subst e; simp [live] at hl
    · right
      rw [(hold o (hsome o ob hk)).2] at hb
      exact ⟨fun hh => hapart o ob b cap hk hl hb hl1 hb1 0 ((hF b (inN b hh)).1 0), hb, ⟨ob, hk, hl⟩, .inr (.inr ⟨hl1, hb1, hk⟩)⟩
  have hk : ∀ b, b < w.heap.size → ¬ Own β (frz σ.H fr2) b → ¬ Own β' H' b ∧ w'.heap[b]? = w.heap[b]? := by
    intro b hb hn
    refine ⟨?_, hkept.block b hb fun i hm => hn (h.MOwn hfl hm hb)⟩
    rintro ⟨o, ob, cap, ho, hl, hbo⟩
    rcases hwho o ob b cap ho hl hbo with ⟨_, h2, _⟩ | ⟨_, h2, ⟨ob0, h3, h4⟩, _⟩
    · exact hn (h.MOwn hfl ((hF b (inN b h2)).1 0) hb)
    · exact hn ⟨o, ob0, cap, h3, h4, h2⟩
  have hS3 : ∀ b, S3 b → RO Z β' H' b := by
    intro b hb
    by_cases e : roRes cn.ps cn.rs = true
    · simp only [S3, e, if_true] at hb
      obtain ⟨h1, h2, h3⟩ := hb
      rw [if_pos e] at hfr2
      subst hfr2
      refine ⟨?_, ?_⟩
      · rcases h1 with h1 | h1
        · rw [← hS] at h1; exact h1.1
        · exact h.rep.whole b fun i => h.may b i (h1 i)
      · rintro ⟨o, ob, cap, ho, hl, hbo⟩
        rcases hwho o ob b cap ho hl hbo with ⟨_, h4, _⟩ | ⟨_, h4, ⟨ob0, h5, h6⟩, h7⟩
        · exact h2 (inN b h4)
        · rcases h7 with ⟨_, h7⟩ | ⟨p, hp, h7⟩ | ⟨h7, h8, h9⟩
          · exact h2 (inB b h7)
          · subst h7
            exact h3 p.1 _ (h.bl_mem hp h4)
          · rcases h1 with h1 | h1
            · rw [← hS] at h1; exact h1.2 ⟨o, ob0, cap, h5, h6, h4⟩
            · exact hapart o ob b cap h9 hl h4 h7 h8 0 (h1 0)
    · simp only [S3, e, if_false] at hb
      exact hb.elim
  have hag : Agree S3 (fun _ => False) noB w' (RO Z β' H') β' H' :=
    ⟨fun _ _ _ e => (by cases e), fun _ _ _ e => (by cases e), fun _ e => e.elim, fun t d cs => Rp_keep fun b _ hb => ⟨hS3 b hb, rfl⟩⟩
  have hRW := k2 hag hNl2 (fun p hp => hβq p (List.mem_append_right _ hp))
  have hn : ∀ o ob, look (frz σ.H fr2) o = some ob → Step w' (RO Z β' H') (β o) ob (β' o) (look H' o) := by
    intro o ob ho
    obtain ⟨e1, e2⟩ := hold o (hsome o ob ho)
    rw [e2]
    cases hk' : look H' o with
    | none =>
      exfalso
      have hk' : look (NEW ++ (RW ++ (l.map (fun o => (o, Ob.dead)) ++ frz σ.H fr2))) o = none := hk'
      rw [look_append, look_append, look_append, look_dead, e1] at hk'
      simp only at hk'
      split at hk'
      · cases hk'
      · split at hk'
        · cases hk'
        · rw [ho] at hk'; cases hk'
    | some ob' =>
      rcases hcase o ob' hk' with hm | hm | ⟨_, e⟩ | ⟨_, _, hk2⟩
      · rw [look_of_mem hnn hm] at e1; cases e1
      · rcases hst _ hm with ⟨e, t, ys, xs0, h1, h2, h3, h4, _⟩ | ⟨cs, nc, off, b', base, c', e', pn, h1, h2, h3, h4, _⟩
        · simp only at h1 h2 h3
          subst h1
          rw [frz_row (l := fr2) h3, if_neg (hfl o h2)] at ho
          obtain rfl := Option.some.inj ho
          exact ⟨xs0, rfl, h4, rfl⟩
        · simp only at h1 h4
          subst h4
          rw [look_box h1] at ho
          obtain rfl := Option.some.inj ho
          exact ⟨⟨cs, rfl⟩, rfl⟩
      · subst e; trivial
      · rw [ho] at hk2
        obtain rfl := Option.some.inj hk2
        exact step_self
  have hmain : RepB Z M N w0 β' { { σ with H := frz σ.H fr2 } with H := H' } a w' := by
    refine hr2.move (h.rep.below.trans hkept h.may) ?_ hk hn ?_ ?_ ?_
    · intro o q hq hs _
      have hs' : (look σ.H o).isSome = true := by rw [← frz_isSome (fr := fr2)]; exact hs
      refine ⟨by rw [(hold o hs').2]; exact hq, ?_⟩
      show (look (NEW ++ (RW ++ (l.map (fun o => (o, Ob.dead)) ++ frz σ.H fr2))) o).isSome = true
      rw [look_append, look_append, look_append, look_dead, (hold o hs').1]
      simp only
      split
      · rfl
      · split
        · rfl
        · exact hs
    · intro o ob b cap ho hl hb
      rcases hwho o ob b cap ho hl hb with ⟨h1, h2, _⟩ | ⟨_, h2, ⟨ob0, h3, h4⟩, h5⟩
      · have := hF b (inN b h2)
        exact ⟨mayW_all fun i => h.may b i (this.1 i), this.2.1⟩
      · have hown := hr2.own o ob0 b cap h3 h4 h2
        refine ⟨?_, Nat.lt_of_lt_of_le hown.2 hkept.size⟩
        rcases hcase o ob ho with hm | hm | ⟨_, e⟩ | ⟨_, _, hk2⟩
        · have := hold o (hsome o ob0 h3)
          rw [look_of_mem hnn hm] at this
          cases this.1
        · rcases hst _ hm with ⟨e, t, ys, xs0, g1, g2, g3, g4, _⟩ | ⟨cs, nc, off, b', base, c', e', pn, g1, g2, g3, g4, g5, _⟩
          · simp only at g1 g2 g3
            subst g1
            rw [frz_row (l := fr2) g3, if_neg (hfl o g2)] at h3
            obtain rfl := Option.some.inj h3
            exact hown.1
          · simp only at g1 g4
            subst g4
            rw [look_box g1] at h3
            obtain rfl := Option.some.inj h3
            intro i hi
            exact hown.1 i (by simp only [replC, List.length_append, List.length_take, List.length_drop] at hi; omega)
        · subst e; simp [live] at hl
        · rw [h3] at hk2
          obtain rfl := Option.some.inj hk2
          exact hown.1
    · intro o o' ob ob' b cap cap' ho hl ho' hl' hb hb'
      rcases hwho o ob b cap ho hl hb with ⟨h1, h2, _⟩ | ⟨h1, h2, ⟨ob0, h3, h4⟩, _⟩
      · rcases hwho o' ob' b cap' ho' hl' hb' with ⟨h1', h2', _⟩ | ⟨h1', _⟩
        · have := g.inj hndn _ h1 _ h1' b (blkq_mem.2 ⟨cap, rfl⟩) (blkq_mem.2 ⟨cap', rfl⟩)
          exact (Prod.mk.inj this).1
        · exact absurd h2 h1'
      · rcases hwho o' ob' b cap' ho' hl' hb' with ⟨h1', h2', _⟩ | ⟨h1', h2', ⟨ob0', h3', h4'⟩, _⟩
        · exact absurd h2' h1
        · exact hinj o o' _ _ b cap cap' h3 h4 h3' h4' h2 h2'
    · intro o ob ho
      rcases hcase o ob ho with hm | hm | ⟨_, e⟩ | ⟨h7, h8, hk2⟩
      · obtain ⟨q, h1, h2, h4⟩ := g.mem _ hm
        simp only at h1 h4
        rw [hβq _ h1]
        exact h4.or hag.data
      · rw [(hold o (hRWin _ hm)).2]
        rcases hRW _ hm with ⟨e, t, ys, xs0, g1, g2, g3, g4, g5, _⟩ | ⟨cs, nc, off, b, base, c', e', pn, g1, g2, g3, g4, g5, g6, g7, g8⟩
        · simp only at g1 g5
          subst g1
          exact RowO_S (fun _ _ => hag.data _ _ _) g5
        · simp only at g1 g3 g4 g6
          subst g4
          obtain ⟨b0, base0, c, e, i1, i2, i3, i4⟩ := hr2.obj o _ (look_box g1)
          rw [g6] at i1
          simp only [Option.some.injEq, Prod.mk.injEq] at i1
          obtain ⟨rfl, rfl⟩ := i1
          obtain ⟨c2, j1, j2, j3⟩ := hkept.cells _ _ _ _ i2
          rw [g7] at j1
          simp only [Option.some.injEq, Obj.cells.injEq] at j1
          obtain ⟨rfl, rfl, _⟩ := j1
          have hrl : (replC cs off nc).length = cs.length := by simp [replC]; omega
          refine ⟨b, base, c', e', g6, g7, by rw [hrl]; omega, ?_⟩
          rw [hrl, splice2 (c := c.toList) (c' := c'.toList) (by simpa using j2) (by simpa using i3) g5 ?_]
          · have hst' := i4.mono (R' := fun x v => VS w' (RO Z β' H') β' H' x v ∧ v.oneCell' = true) fun x v hx => ⟨VS_step (RO_step hk) hk hn hx.1, hx.2⟩
            exact ((hst'.take off).append g8).append (hst'.drop _)
          · intro i hi
            rw [Array.getElem?_toList, Array.getElem?_toList]
            refine j3 i fun hm' => ?_
            have hlt := (hr2.own o _ b base (look_box g1) rfl g6).2
            rcases hm' with hm' | hm' | ⟨p, hp, base1, e1, e2, e3⟩
            · omega
            · obtain ⟨o', ho', cap', hc⟩ := mem_blks.1 hm'
              obtain ⟨e4, t, ys, hk'⟩ := h.live hfl o' ho'
              have := hinj o o' _ _ b base cap' (look_box g1) rfl hk' rfl g6 hc
              subst this
              rw [look_box g1] at hk'
              cases hk'
            · obtain ⟨cs', _, _, _, _, h4, _⟩ := h.box hp
              have := hinj o p.2.1 _ _ b base base1 (look_box g1) rfl (look_box h4) rfl g6 e1
              have hpe := h.box1 g3 hp this
              rw [← hpe] at e1 e2 e3
              simp only at e1 e2 e3
              rw [g6] at e1
              simp only [Option.some.injEq, Prod.mk.injEq] at e1
              omega
      · subst e; trivial
      · rw [(hold o (hsome o ob hk2)).2]
        refine OR_step (RO_step hk) hk hn (fun b cap hb hl => ?_) (hr2.obj o ob hk2)
        exact hkept.block b (hr2.own o ob b cap hk2 hl hb).2 (hapart o ob b cap hk2 hl hb h7 h8)
  have hres := tup_sound (k1 hag hNl1 (fun p hp => hβq p (List.mem_append_left _ hp)))
  refine ⟨β', ?_⟩
  cases dst with
  | none => exact hmain
  | some j => exact hmain.setL (by simpa [dstOk] using hd) hres

end Go.Proofs.Yteddlkdbefloaaa.S
