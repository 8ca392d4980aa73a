/- The machinery S: a state read as data, and made of it again. -/
import Derived.Test.YteddlkdbefloaaaSn
namespace Go.Proofs.Yteddlkdbefloaaa.S
open Go Go.RowKit
set_option linter.unusedVariables false
set_option linter.unusedSimpArgs false

variable {w w0 : World} {S S' Q Z : Nat → Prop} {M : Nat → Nat → Prop} {N : Nat → Option (Option (Nat × Nat))} {B B' : Nat → Option Pl} {a : Act} {σ : St} {β : Names} {H : Heap} {fr l : List Nat}

theorem CellR_B {bs : List Nat} (hB : ∀ o ∈ bs, B o = B' o) {c : CK} {x : c.den} {v : Value} {F : List Nat} (h : CellR w S Q B c x v F) (hp : ptrC bs c = true) : CellR w S Q B' c x v F := by
  cases c with
  | ptr o off =>
    obtain ⟨⟨b, base, h1, h2⟩, h3⟩ := h
    simp only [ptrC, List.contains_eq_mem, decide_eq_true_eq] at hp
    exact ⟨⟨b, base, by rw [← hB o hp]; exact h1, h2⟩, h3⟩
  | ref o =>
    obtain ⟨⟨q, n, h1, h2⟩, h3⟩ := h
    simp only [ptrC, List.contains_eq_mem, decide_eq_true_eq] at hp
    exact ⟨⟨q, n, by rw [← hB o hp]; exact h1, h2⟩, h3⟩
  | _ => exact h

theorem CellsR_B {bs : List Nat} (hB : ∀ o ∈ bs, B o = B' o) : ∀ {cs : List CK} {x : denC cs} {vs : List Value} {F : List Nat}, CellsR w S Q B cs x vs F → cs.all (ptrC bs) = true → CellsR w S Q B' cs x vs F
  | [], _, _, _, h, _ => h
  | c :: r, _, _, _, ⟨v, vs', F1, F2, h1, h2, h3, h4⟩, hp => by
    simp only [List.all_cons, Bool.and_eq_true] at hp
    exact ⟨v, vs', F1, F2, h1, h2, CellR_B hB h3 hp.1, CellsR_B hB h4 hp.2⟩

theorem VKR_B {bs : List Nat} (hB : ∀ o ∈ bs, B o = B' o) {k : VK} {x : k.den} {v : Value} {F : List Nat} (h : VKR w S Q B k x v F) (hp : ptrV bs k = true) : VKR w S Q B' k x v F := by
  cases k with
  | g cs => obtain ⟨vs, e, h⟩ := h; exact ⟨vs, e, CellsR_B hB h hp⟩
  | s c =>
    by_cases hd : ∃ t, c = .dat t
    · obtain ⟨t, rfl⟩ := hd; exact h
    · have hn : ∀ t, c ≠ .dat t := fun t e => hd ⟨t, e⟩
      exact (VKR_s hn).2 (CellR_B hB ((VKR_s hn).1 h) hp)

/-! ### what is handed over are rows -/
def rowLike : Ob → Bool
  | .row _ _ _ => true
  | .map _ => true
  | _ => false

def Rows (H : Heap) (l : List Nat) : Prop := ∀ o ∈ l, ∃ ob, look H o = some ob ∧ rowLike ob = true

theorem rowLike_live {ob : Ob} (h : rowLike ob = true) : live ob = true := by cases ob <;> first | rfl | cases h

theorem rowLike_M {ob : Ob} {b cap : Nat} (h : rowLike ob = true) (hm : mayW M b cap ob) : ∀ i, M b i := by
  cases ob <;> first | exact hm | cases h

theorem frz_live {o : Nat} {ob : Ob} (h : look H o = some ob) (hl : rowLike ob = true) (ho : o ∉ fr) : look (frz H fr) o = some ob := by
  cases ob with
  | row e t xs => rw [frz_row (l := fr) h, if_neg ho]
  | map es => rw [frz_same (by intro e t xs e'; rw [h] at e'; cases e'), h]
  | _ => cases hl

theorem Rows.append {l m : List Nat} (h : Rows H l) (h' : Rows H m) : Rows H (l ++ m) := fun o ho => by
  rcases List.mem_append.1 ho with ho | ho
  · exact h o ho
  · exact h' o ho

theorem unC_rows {c : CK} {s : S1} {x : c.den} {l : List Nat} (h : unC H c s = some (x, l)) : Rows H l := by
  intro o ho
  cases c with
  | own e t =>
    simp only [unC] at h
    split at h
    · simp only [Option.some.injEq, Prod.mk.injEq] at h; rw [← h.2] at ho; simp at ho
    · rename_i o'
      split at h
      · rename_i e' t' xs ho'
        split at h
        · split at h
          · simp only [Option.some.injEq, Prod.mk.injEq] at h
            rw [← h.2] at ho
            simp only [List.mem_singleton] at ho
            subst ho
            exact ⟨_, ho', rfl⟩
          · cases h
        · cases h
      · cases h
    · cases h
  | dat t =>
    simp only [unC] at h
    split at h
    · simp only [Option.some.injEq, Prod.mk.injEq] at h; rw [← h.2] at ho; simp at ho
    · cases h
  | ptr o' off =>
    simp only [unC] at h
    split at h
    · split at h
      · split at h
        · simp only [Option.some.injEq, Prod.mk.injEq] at h; rw [← h.2] at ho; simp at ho
        · cases h
      · cases h
    · cases h
  | ref o' =>
    simp only [unC] at h
    split at h
    · split at h
      · split at h
        · simp only [Option.some.injEq, Prod.mk.injEq] at h; rw [← h.2] at ho; simp at ho
        · cases h
      · cases h
    · cases h
  | pd t =>
    simp only [unC] at h
    split at h
    · split at h
      · simp only [Option.some.injEq, Prod.mk.injEq] at h; rw [← h.2] at ho; simp at ho
      · cases h
    · cases h
  | fn f ts =>
    simp only [unC] at h
    split at h
    · split at h
      · split at h
        · simp only [Option.some.injEq, Prod.mk.injEq] at h; rw [← h.2] at ho; simp at ho
        · cases h
      · cases h
    · cases h
  | mp =>
    simp only [unC] at h
    split at h
    · split at h
      · rename_i es hk
        simp only [Option.some.injEq, Prod.mk.injEq] at h
        rw [← h.2] at ho
        simp only [List.mem_singleton] at ho
        subst ho
        exact ⟨_, hk, rfl⟩
      · cases h
    · cases h
  | bx t => simp [unC] at h
  | any => simp only [unC, Option.some.injEq, Prod.mk.injEq] at h; rw [← h.2] at ho; simp at ho

theorem unCs_rows : ∀ {cs : List CK} {ss : List S1} {x : denC cs} {l : List Nat}, unCs H cs ss = some (x, l) → Rows H l ∧ ss.length = cs.length
  | [], [], _, _, h => by
    simp only [unCs, Option.some.injEq, Prod.mk.injEq] at h
    rw [← h.2]; exact ⟨fun o ho => by simp at ho, rfl⟩
  | c :: r, s :: ss, _, _, h => by
    simp only [unCs] at h
    split at h
    · rename_i hy
      split at h
      · rename_i hz
        simp only [Option.some.injEq, Prod.mk.injEq] at h
        rw [← h.2]
        have := unCs_rows hz
        exact ⟨(unC_rows hy).append this.1, by simp [this.2]⟩
      · cases h
    · cases h
  | [], _ :: _, _, _, h => by simp [unCs] at h
  | _ :: _, [], _, _, h => by simp [unCs] at h

theorem unV_rows {k : VK} {s : SV} {x : k.den} {l : List Nat} (h : unV H k s = some (x, l)) : Rows H l := by
  cases k with
  | g cs =>
    cases s with
    | g ss => exact (unCs_rows h).1
    | s y =>
      cases y <;> simp only [unV] at h <;> first | (cases h; done) | skip
      split at h
      · exact (unCs_rows h).1
      · cases h
  | s c =>
    by_cases hd : ∃ t, c = .dat t
    · obtain ⟨t, rfl⟩ := hd
      simp only [unV] at h
      split at h
      · simp only [Option.some.injEq, Prod.mk.injEq] at h
        rw [← h.2]; exact fun o ho => by simp at ho
      · cases h
    · have hn : ∀ t, c ≠ .dat t := fun t e => hd ⟨t, e⟩
      have e1 : unV H (.s c) s = (match s with | .s y => unC H c y | .g _ => none) := by
        cases c <;> first | exact absurd rfl (hn _) | (cases s <;> rfl)
      rw [e1] at h
      cases s with
      | g ss => cases h
      | s y => exact unC_rows h

theorem unS_rows {env : List (Nat × Sl)} : ∀ {ls : List (Nat × VK)} {x : denS ls} {l : List Nat}, unS H env ls = some (x, l) → Rows H l
  | [], _, _, h => by
    simp only [unS, Option.some.injEq, Prod.mk.injEq] at h
    rw [← h.2]; exact fun o ho => by simp at ho
  | (i, c) :: r, _, _, h => by
    simp only [unS] at h
    split at h
    · split at h
      · rename_i hy
        split at h
        · rename_i hz
          simp only [Option.some.injEq, Prod.mk.injEq] at h
          rw [← h.2]
          exact (unV_rows hy).append (unS_rows hz)
        · cases h
      · cases h
    · cases h

theorem unB_rows : ∀ {ls : List (Nat × List CK)} {x : denB ls} {l : List Nat}, unB H ls = some (x, l) → Rows H l ∧ ∀ p ∈ ls, ∃ ss, look H p.1 = some (.box ss) ∧ ss.length = p.2.length
  | [], _, _, h => by
    simp only [unB, Option.some.injEq, Prod.mk.injEq] at h
    rw [← h.2]; exact ⟨fun o ho => by simp at ho, fun p hp => by simp at hp⟩
  | (i, c) :: r, _, _, h => by
    simp only [unB] at h
    split at h
    · rename_i ss hs
      split at h
      · rename_i hy
        split at h
        · rename_i hz
          simp only [Option.some.injEq, Prod.mk.injEq] at h
          rw [← h.2]
          have h1 := unCs_rows hy
          have h2 := unB_rows hz
          refine ⟨h1.1.append h2.1, fun p hp => ?_⟩
          rcases List.mem_cons.1 hp with rfl | hp
          · exact ⟨ss, hs, h1.2⟩
          · exact h2.2 p hp
        · cases h
      · cases h
    · cases h

/-- All names that are not handed over. -/
def others (H : Heap) (l : List Nat) : List Nat := (H.map (·.1)).filter fun o => !(l.contains o)

theorem others_out {l : List Nat} : ∀ o, o ∈ l → o ∉ others H l := by
  intro o ho h
  simp [others] at h
  exact h.2 ho

theorem others_in {l : List Nat} {o : Nat} {ob : Ob} (h : look H o = some ob) (ho : o ∉ l) : o ∈ others H l := by
  simp only [others, List.mem_filter, List.mem_map, List.contains_eq_mem, Bool.not_eq_true', decide_eq_false_iff_not]
  exact ⟨⟨(o, ob), look_mem h, rfl⟩, ho⟩

theorem others_cuts {l sh : List Nat} : Cuts H (others H l) l sh := ⟨others_out, fun o _ e t xs h ho => others_in h ho⟩

theorem unS_sound (hO : Owns w S β (frz H fr)) (hQ : ∀ b, ¬ Own β (frz H fr) b → Q b) (hc : ∀ sh, Cuts H fr l sh) {env : List (Nat × Sl)} (henv : ∀ i x, look env i = some x → i < a.tmps.size ∧ VL w S β (frz H fr) x (a.tmps.getD i undef)) :
    ∀ {ls : List (Nat × VK)} {x : denS ls} {l1 : List Nat}, unS H env ls = some (x, l1) → (∀ o ∈ l1, o ∈ l) → freeS H env l ls = true → ∀ {bs : List Nat}, ls.all (fun p => ptrV bs p.2) = true → RefsOut H fr bs → SlotsR w S Q (boxOf β (frz H fr)) a ls x (blks β l1)
  | [], _, _, h, _, _, _, _, _ => by
    simp only [unS, Option.some.injEq, Prod.mk.injEq] at h
    rw [← h.2]; rfl
  | (i, c) :: r, _, _, h, hl, hf, bs, hp, hbs => by
    simp only [List.all_cons, Bool.and_eq_true] at hp
    simp only [unS] at h
    split at h
    · rename_i v hv
      split at h
      · rename_i hy
        split at h
        · rename_i hz
          simp only [Option.some.injEq, Prod.mk.injEq] at h
          obtain ⟨h1, h2⟩ := h
          subst h1; subst h2
          simp only [freeS, hv, Bool.and_eq_true] at hf
          obtain ⟨hi, hvl⟩ := henv i _ hv
          exact ⟨_, _, blks_append, hi, unV_sound hO hQ hvl hy (fun o ho => hl o (List.mem_append_left _ ho)) hf.1 hp.1 hbs (hc _), unS_sound hO hQ hc henv hz (fun o ho => hl o (List.mem_append_right _ ho)) hf.2 hp.2 hbs⟩
        · cases h
      · cases h
    · cases h

theorem unB_sound (hO : Owns w S β (frz H fr)) (hQ : ∀ b, ¬ Own β (frz H fr) b → Q b) (hc : ∀ sh, Cuts H fr l sh) :
    ∀ {ls : List (Nat × List CK)} {x : denB ls} {l1 : List Nat}, unB H ls = some (x, l1) → (∀ o ∈ l1, o ∈ l) → freeB H l ls = true → ∀ {bs : List Nat}, ls.all (fun p => p.2.all (ptrC bs)) = true → RefsOut H fr bs → BoxesR w S Q (boxOf β (frz H fr)) ls x (blks β l1)
  | [], _, _, h, _, _, _, _, _ => by
    simp only [unB, Option.some.injEq, Prod.mk.injEq] at h
    rw [← h.2]; rfl
  | (i, c) :: r, _, _, h, hl, hf, bs, hp, hbs => by
    simp only [List.all_cons, Bool.and_eq_true] at hp
    simp only [unB] at h
    split at h
    · rename_i ss hs
      split at h
      · rename_i hy
        split at h
        · rename_i hz
          simp only [Option.some.injEq, Prod.mk.injEq] at h
          obtain ⟨h1, h2⟩ := h
          subst h1; subst h2
          simp only [freeB, hs, Bool.and_eq_true] at hf
          have hs' : look (frz H fr) i = some (.box ss) := by rw [frz_same (by intro e t xs e'; rw [hs] at e'; cases e'), hs]
          obtain ⟨b, base, cc, e, h1, h2, h3, h4⟩ := hO i _ hs'
          have hlen := (unCs_rows hy).2
          rw [hlen] at h3 h4
          refine ⟨_, _, b, base, cc, e, blks_append, by simp [boxOf, hs', h1], h2, h3,
            unCs_sound hO hQ (h4.mono fun _ _ h => h.1) hy (fun o ho => hl o (List.mem_append_left _ ho)) hf.1 hp.1 hbs (hc _), h4.right fun _ _ h => h.2, unB_sound hO hQ hc hz (fun o ho => hl o (List.mem_append_right _ ho)) hf.2 hp.2 hbs⟩
        · cases h
      · cases h
    · cases h

theorem SlotsR_B {bs : List Nat} (hB : ∀ o ∈ bs, B o = B' o) : ∀ {ls : List (Nat × VK)} {x : denS ls} {F : List Nat}, SlotsR w S Q B a ls x F → ls.all (fun p => ptrV bs p.2) = true → SlotsR w S Q B' a ls x F
  | [], _, _, h, _ => h
  | (i, k) :: r, _, _, ⟨F1, F2, h1, h2, h3, h4⟩, hp => by
    simp only [List.all_cons, Bool.and_eq_true] at hp
    exact ⟨F1, F2, h1, h2, VKR_B hB h3 hp.1, SlotsR_B hB h4 hp.2⟩

theorem BoxesR_B {bs : List Nat} (hB : ∀ o ∈ bs, B o = B' o) : ∀ {ls : List (Nat × List CK)} {x : denB ls} {F : List Nat}, BoxesR w S Q B ls x F → ls.all (fun p => p.2.all (ptrC bs)) = true → (∀ p ∈ ls, p.1 ∈ bs) → BoxesR w S Q B' ls x F
  | [], _, _, h, _, _ => h
  | (o, cs) :: r, _, _, ⟨F1, F2, b, base, c, e, h1, h2, h3, h4, h5, h6, h7⟩, hp, hm => by
    simp only [List.all_cons, Bool.and_eq_true] at hp
    exact ⟨F1, F2, b, base, c, e, h1, by rw [← hB o (hm (o, cs) (by simp))]; exact h2, h3, h4, CellsR_B hB h5 hp.1, h6, BoxesR_B hB h7 hp.2 fun p hp => hm p (by simp [hp])⟩

theorem unW_sound (hO : Owns w S β (frz H fr)) : ∀ {ls : List (Nat × TypeId × Ty)} {x : denW ls}, unW H ls = some x → (∀ o ∈ ls.map (·.1), o ∉ fr) →
    RowsR w S (boxOf β (frz H fr)) ls x (blks β (ls.map (·.1))) ∧ ∀ o ∈ ls.map (·.1), ∃ e t xs, look H o = some (.row e t xs)
  | [], _, _, _ => ⟨rfl, fun o ho => by simp at ho⟩
  | (o, e, t) :: r, _, h, hf => by
    simp only [unW] at h
    split at h
    · rename_i e' t' xs ho
      split at h
      · rename_i he
        subst he
        split at h
        · rename_i ys hys
          split at h
          · rename_i y hy
            obtain rfl := Option.some.inj h
            obtain ⟨e1, e2⟩ := cst_some hys
            simp only [Ty.slice.injEq] at e1
            subst e1
            simp only at e2
            subst e2
            have hk := frz_row (l := fr) ho
            rw [if_neg (hf o (by simp))] at hk
            have ih := unW_sound hO hy (fun o ho => hf o (by simp only [List.map_cons, List.mem_cons]; exact .inr ho))
            refine ⟨⟨β o, blks β (r.map (·.1)), ?_, by simp [boxOf, hk], hO o _ hk, ih.1⟩, fun o' ho' => ?_⟩
            · simp [blks]
            · simp only [List.map_cons, List.mem_cons] at ho'
              rcases ho' with rfl | ho'
              · exact ⟨_, _, _, ho⟩
              · exact ih.2 o' ho'
          · cases h
        · cases h
      · cases h
    · cases h

theorem RowsR_B {bs : List Nat} (hB : ∀ o ∈ bs, B o = B' o) : ∀ {ls : List (Nat × TypeId × Ty)} {x : denW ls} {F : List Nat}, RowsR w S B ls x F → (∀ p ∈ ls, p.1 ∈ bs) → RowsR w S B' ls x F
  | [], _, _, h, _ => h
  | (o, e, t) :: r, _, _, ⟨q, F2, h1, h2, h3, h4⟩, hm => ⟨q, F2, h1, by rw [← hB o (hm (o, e, t) (by simp))]; exact h2, h3, RowsR_B hB h4 fun p hp => hm p (by simp [hp])⟩

/-- A state read as data, and made of it again, stands for the same world. -/
theorem un_mk {s : Shp} {x : s.den} (hrep : Rep Z M N w0 σ a w) (h : un s σ = some x) : Rep Z M N w0 (mk σ.nt s x) a w := by
  obtain ⟨β, hrep⟩ := hrep
  unfold un at h
  split at h
  · rename_i xs l hl
    split at h
    · rename_i xb m hm
      split at h
      · rename_i xw hw
        simp only at h
        split at h
        · rename_i hc
          obtain rfl := Option.some.inj h
          simp only [Bool.and_eq_true] at hc
          obtain ⟨⟨⟨⟨⟨⟨h1, h2⟩, h3⟩, h4⟩, h5⟩, h6⟩, h7⟩ := hc
          let n := s.rows.map (·.1)
          let fr := others σ.H ((l ++ m) ++ n)
          have hr1 := hrep.frz fr
          have hW := unW_sound hr1.owns hw (fun o ho => others_out o (List.mem_append_right _ ho))
          have hrows := ((unS_rows hl).append (unB_rows hm).1).append (m := n) fun o ho => by obtain ⟨e, t, ys, hk⟩ := hW.2 o ho; exact ⟨_, hk, rfl⟩
          have hlive : ∀ o ∈ (l ++ m) ++ n, ∃ ob, look (frz σ.H fr) o = some ob ∧ rowLike ob = true := by
            intro o ho
            obtain ⟨ob, hk, hl⟩ := hrows o ho
            exact ⟨ob, frz_live hk hl (others_out o ho), hl⟩
          have hliveN : ∀ o ∈ n, ∃ e t xs, look (frz σ.H fr) o = some (.row e t xs) := by
            intro o ho
            obtain ⟨e, t, ys, hk⟩ := hW.2 o ho
            exact ⟨e, t, ys, frz_live hk rfl (others_out o (List.mem_append_right _ ho))⟩
          have hbx0 := (unB_rows hm).2
          have hbx : ∀ p ∈ s.boxes, ∃ ss, look (frz σ.H fr) p.1 = some (.box ss) ∧ ss.length = p.2.length := by
            intro p hp
            obtain ⟨ss, e1, e2⟩ := hbx0 p hp
            exact ⟨ss, by rw [frz_same (by intro e t xs e'; rw [e1] at e'; cases e'), e1], e2⟩
          have hQ : ∀ b, ¬ Own β (frz σ.H fr) b → ¬ Own β (frz σ.H fr) b := fun _ h => h
          let bs := s.boxes.map (·.1) ++ n
          have hrefs : RefsOut σ.H fr bs := by
            intro o ho e t xs hk
            rcases List.mem_append.1 ho with ho | ho
            · obtain ⟨p, hp, rfl⟩ := List.mem_map.1 ho
              obtain ⟨ss, e1, _⟩ := hbx0 p hp
              rw [hk] at e1; cases e1
            · exact others_out o (List.mem_append_right _ ho)
          simp only [ptrsOk, Bool.and_eq_true] at h3
          have hS := unS_sound hr1.owns hQ (fun sh => others_cuts) hr1.env hl (fun o ho => List.mem_append_left _ (List.mem_append_left _ ho)) h4 h3.1 hrefs
          have hB := unB_sound hr1.owns hQ (fun sh => others_cuts) hm (fun o ho => List.mem_append_left _ (List.mem_append_right _ ho)) h5 h3.2 hrefs
          let B : Nat → Option Pl := fun o => if o ∈ bs then boxOf β (frz σ.H fr) o else none
          have hBB : ∀ o ∈ bs, boxOf β (frz σ.H fr) o = B o := by intro o ho; simp [B, ho]
          have hBo : ∀ o b base, B o = some (.box b base) → o ∈ s.boxes.map (·.1) ∧ (∃ ss, look (frz σ.H fr) o = some (.box ss)) ∧ β o = some (b, base) := by
            intro o b base ho
            simp only [B] at ho
            split at ho
            · rename_i hm'
              rcases List.mem_append.1 hm' with hm' | hm'
              · obtain ⟨p, hp, rfl⟩ := List.mem_map.1 hm'
                obtain ⟨ss, e1, _⟩ := hbx p hp
                refine ⟨List.mem_map_of_mem hp, ⟨ss, e1⟩, ?_⟩
                simp only [boxOf, e1] at ho
                cases hq : β p.1 with
                | none => rw [hq] at ho; cases ho
                | some q => rw [hq] at ho; simp at ho; rw [← ho.1, ← ho.2]
              · obtain ⟨e, t, ys, hk⟩ := hliveN o hm'
                simp only [boxOf, hk] at ho
                cases ho
            · cases ho
          have hBr : ∀ o q k, B o = some (.row q k) → o ∈ n := by
            intro o q k ho
            simp only [B] at ho
            split at ho
            · rename_i hm'
              rcases List.mem_append.1 hm' with hm' | hm'
              · obtain ⟨p, hp, rfl⟩ := List.mem_map.1 hm'
                obtain ⟨ss, e1, _⟩ := hbx p hp
                simp only [boxOf, e1] at ho
                cases hq : β p.1 with
                | none => rw [hq] at ho; cases ho
                | some q => rw [hq] at ho; cases ho
              · exact hm'
            · cases ho
          have hF : ∀ b, b ∈ (blks β l ++ blks β m) ++ blks β n ↔ ∃ o ∈ (l ++ m) ++ n, ∃ cap, β o = some (b, cap) := by
            intro b; rw [← blks_append, ← blks_append]; exact mem_blks
          refine mk_sound (B := B) hr1.fresh hr1.whole hr1.defers hr1.size hr1.below ?_ (SlotsR_B hBB hS h3.1) (BoxesR_B hBB hB h3.2 (fun p hp => List.mem_append_left _ (List.mem_map_of_mem hp)))
            (RowsR_B hBB hW.1 (fun p hp => List.mem_append_right _ (List.mem_map_of_mem hp))) ?_ ?_ ?_ hBr ?_ ?_ ?_ ?_
          · exact h6
          · rw [← blks_append, ← blks_append]
            refine blks_nodup (l := (l ++ m) ++ n) ?_ (fun o ho => ho) (nodupB_nodup h1)
            intro o o' b cap cap' ho ho' hb hb'
            obtain ⟨ob, hk, hl⟩ := hlive o ho
            obtain ⟨ob', hk', hl'⟩ := hlive o' ho'
            exact hr1.inj o o' _ _ b cap cap' hk (rowLike_live hl) hk' (rowLike_live hl') hb hb'
          · intro b hb
            obtain ⟨o, ho, cap, hbo⟩ := (hF b).1 hb
            obtain ⟨ob, hk, hl⟩ := hlive o ho
            have hown := hr1.own o _ b cap hk (rowLike_live hl) hbo
            exact ⟨rowLike_M hl hown.1, hown.2⟩
          · intro o b base ho
            obtain ⟨hm', ⟨ss, hk⟩, hb⟩ := hBo o b base ho
            have hown := hr1.own o _ b base hk rfl hb
            refine ⟨hm', ?_, hown.2, ?_⟩
            · intro hbF
              obtain ⟨o', ho', cap, hbo⟩ := (hF b).1 hbF
              obtain ⟨ob, hk', hl'⟩ := hlive o' ho'
              have := hr1.inj o o' _ _ b base cap hk rfl hk' (rowLike_live hl') hb hbo
              subst this
              rw [hk] at hk'
              cases hk'
              cases hl'
            · intro cs hcs i hi
              obtain ⟨ss', e1, e2⟩ := hbx _ hcs
              simp only at hk e1 e2
              rw [hk] at e1
              cases e1
              exact hown.1 i (by omega)
          · intro o o' b base base' ho ho'
            obtain ⟨_, ⟨ss, hk⟩, hb⟩ := hBo o b base ho
            obtain ⟨_, ⟨ss', hk'⟩, hb'⟩ := hBo o' b base' ho'
            exact hr1.inj o o' _ _ b base base' hk rfl hk' rfl hb hb'
          · intro b _ hb
            refine ⟨hb.1, fun hbF => ?_, fun o base ho => ?_⟩
            · obtain ⟨o', ho', cap, hbo⟩ := (hF b).1 hbF
              obtain ⟨ob, hk', hl'⟩ := hlive o' ho'
              exact hb.2 ⟨o', _, cap, hk', rowLike_live hl', hbo⟩
            · obtain ⟨_, ⟨ss, hk⟩, hb'⟩ := hBo o b base ho
              exact hb.2 ⟨o, _, base, hk, rfl, hb'⟩
          · intro b hb
            refine ⟨fun hbF => ?_, fun o base ho => ?_⟩
            · obtain ⟨o', ho', cap, hbo⟩ := (hF b).1 hbF
              obtain ⟨ob, hk', hl'⟩ := hlive o' ho'
              exact hb ⟨o', _, cap, hk', rowLike_live hl', hbo⟩
            · obtain ⟨_, ⟨ss, hk⟩, hb'⟩ := hBo o b base ho
              exact hb ⟨o, _, base, hk, rfl, hb'⟩
          · intro o q ho
            obtain ⟨p1, p2, p3⟩ := hrep.pin o q ho
            refine ⟨p3, ?_⟩
            obtain ⟨ob, hob⟩ := Option.isSome_iff_exists.1 p2
            have hin : o ∈ bs := by
              have := List.all_eq_true.1 h7 _ (look_mem hob)
              simp only [Bool.or_eq_true, decide_eq_true_eq, List.contains_eq_mem] at this
              rcases this with h | h
              · omega
              · exact h
            have hBo' : B o = boxOf β (frz σ.H fr) o := (hBB o hin).symm
            rcases List.mem_append.1 hin with hm' | hm'
            · left
              obtain ⟨p, hp, rfl⟩ := List.mem_map.1 hm'
              obtain ⟨ss, e1, _⟩ := hbx p hp
              obtain ⟨b, base, c, e, e2, _⟩ := hr1.obj p.1 _ e1
              refine ⟨b, base, by rw [← p1, e2], by rw [hBo']; simp [boxOf, e1, e2]⟩
            · right
              obtain ⟨e, t, ys, hk⟩ := hliveN o hm'
              exact ⟨ys.length, by rw [hBo']; simp [boxOf, hk, p1]⟩
        · cases h
      · cases h
    · cases h
  · cases h

end Go.Proofs.Yteddlkdbefloaaa.S
