/- Soundness of the machinery S: a call, the whole. -/
import Derived.Test.YteddlkdbefloaaaSr
namespace Go.Proofs.Yteddlkdbefloaaa.S
open Go Go.RowKit
set_option linter.unusedVariables false
set_option linter.unusedSimpArgs false

variable {P : Program} {T : Tab} {G : Env} {w w' w0 : World} {S S' S3 Q Z : Nat → Prop} {M M' : Nat → Nat → Prop} {N : Nat → Option (Option (Nat × Nat))} {B : Nat → Option Pl} {a : Act} {σ : St} {β : Names} {H : Heap} {fr l : List Nat}
variable {o : Oper} {next : Act → World → Prop} {Q' : Exit → Act → World → Prop} {R : Type} {K : St → Option R} {y : R}

theorem bxl_par : ∀ {ps : List PK} {xs : List SV} {i : Nat}, ((bxl i ps xs).map (·.1)).Sublist ((parBx i ps).map (·.1)) ∧ ∀ p ∈ bxl i ps xs, ∃ ci, (p.1, ci) ∈ parBx i ps ∧ ci.length = p.2.2.2
  | [], xs, i => by cases xs <;> exact ⟨by simp [bxl], fun p hp => by simp [bxl] at hp⟩
  | k :: r, [], i => by cases k <;> exact ⟨by simp [bxl], fun p hp => by simp [bxl] at hp⟩
  | .val _ :: r, x :: xs, i => bxl_par (ps := r)
  | .ptr _ :: r, x :: xs, i => bxl_par (ps := r)
  | .fn _ _ :: r, x :: xs, i => bxl_par (ps := r)
  | .row _ _ :: r, x :: xs, i => bxl_par (ps := r)
  | .agg _ :: r, x :: xs, i => bxl_par (ps := r)
  | .box ci co :: r, x :: xs, i => by
    have ih := bxl_par (ps := r) (xs := xs) (i := i + 1)
    by_cases hx : ∃ o off, x = .s (.p o off)
    · obtain ⟨o, off, rfl⟩ := hx
      refine ⟨by simp only [bxl, parBx, List.map_cons]; exact ih.1.cons_cons _, fun p hp => ?_⟩
      simp only [bxl, List.mem_cons] at hp
      rcases hp with rfl | hp
      · exact ⟨ci, by simp [parBx], rfl⟩
      · obtain ⟨c', h1, h2⟩ := ih.2 p hp
        exact ⟨c', by simp [parBx, h1], h2⟩
    · have e : bxl i (.box ci co :: r) (x :: xs) = bxl (i + 1) r xs := by
        cases x with
        | g _ => rfl
        | s s => cases s <;> first | rfl | exact absurd ⟨_, _, rfl⟩ hx
      rw [e]
      refine ⟨by simp only [parBx, List.map_cons]; exact ih.1.cons _, fun p hp => ?_⟩
      obtain ⟨c', h1, h2⟩ := ih.2 p hp
      exact ⟨c', by simp [parBx, h1], h2⟩

theorem rowCs_eq {nm : Nat} {z : List (Nat × TypeId × Ty)} : ∀ {cs : List CK}, rowCs nm z cs = rowCs nm [] cs ++ z := by
  intro cs
  induction cs generalizing nm with
  | nil => rfl
  | cons c r ih => cases c <;> simp only [rowCs, List.cons_append] <;> first | exact ih | rw [ih]

theorem rwC_par {β : Names} {H : Heap} : ∀ {cs : List CK} {ss : List S1} {nm : Nat}, ((rwC β H nm cs ss).map (·.1)).Sublist ((rowCs nm [] cs).map (·.1)) ∧ ∀ p ∈ rwC β H nm cs ss, ∃ q n, p.2 = .row q n
  | [], ss, nm => by cases ss <;> exact ⟨by simp [rwC], fun p hp => by simp [rwC] at hp⟩
  | c :: r, [], nm => by cases c <;> exact ⟨by simp [rwC], fun p hp => by simp [rwC] at hp⟩
  | .own e t :: r, s :: ss, nm => by
    have ih := rwC_par (β := β) (H := H) (cs := r) (ss := ss) (nm := nm + 1)
    refine ⟨by simp only [rwC, rowCs, List.map_cons]; exact ih.1.cons_cons _, fun p hp => ?_⟩
    simp only [rwC, List.mem_cons] at hp
    rcases hp with rfl | hp
    · cases s <;> exact ⟨_, _, rfl⟩
    · exact ih.2 p hp
  | .dat t :: r, s :: ss, nm => rwC_par (cs := r)
  | .ptr _ _ :: r, s :: ss, nm => rwC_par (cs := r)
  | .ref _ :: r, s :: ss, nm => rwC_par (cs := r)
  | .pd _ :: r, s :: ss, nm => rwC_par (cs := r)
  | .fn _ _ :: r, s :: ss, nm => rwC_par (cs := r)
  | .mp :: r, s :: ss, nm => rwC_par (cs := r)
  | .bx _ :: r, s :: ss, nm => rwC_par (cs := r)
  | .any :: r, s :: ss, nm => rwC_par (cs := r)

theorem rwl_par {β : Names} {H : Heap} : ∀ {ps : List PK} {xs : List SV} {i : Nat}, ((rwl β H i ps xs).map (·.1)).Sublist ((parRw i ps).map (·.1)) ∧ ∀ p ∈ rwl β H i ps xs, ∃ q n, p.2 = .row q n
  | [], xs, i => by cases xs <;> exact ⟨by simp [rwl], fun p hp => by simp [rwl] at hp⟩
  | k :: r, [], i => by cases k <;> exact ⟨by simp [rwl], fun p hp => by simp [rwl] at hp⟩
  | .val _ :: r, x :: xs, i => rwl_par (ps := r)
  | .ptr _ :: r, x :: xs, i => rwl_par (ps := r)
  | .fn _ _ :: r, x :: xs, i => rwl_par (ps := r)
  | .box _ _ :: r, x :: xs, i => rwl_par (ps := r)
  | .row e t :: r, x :: xs, i => by
    have ih := rwl_par (β := β) (H := H) (ps := r) (xs := xs) (i := i + 1)
    cases x with
    | g _ => exact ⟨by simp only [rwl, parRw, List.map_cons]; exact ih.1.cons _, ih.2⟩
    | s s =>
      refine ⟨by simp only [rwl, parRw, List.map_cons]; exact ih.1.cons_cons _, fun p hp => ?_⟩
      simp only [rwl, List.mem_cons] at hp
      rcases hp with rfl | hp
      · cases s <;> exact ⟨_, _, rfl⟩
      · exact ih.2 p hp
  | .agg cs :: r, x :: xs, i => by
    have ih := rwl_par (β := β) (H := H) (ps := r) (xs := xs) (i := i + 1)
    cases x with
    | s _ => exact ⟨by simp only [rwl, parRw]; rw [rowCs_eq, List.map_append]; exact ih.1.trans (List.sublist_append_right _ _), ih.2⟩
    | g ss =>
      have ic := rwC_par (β := β) (H := H) (cs := cs) (ss := ss) (nm := 9000100 + 100 * i)
      refine ⟨by simp only [rwl, parRw]; rw [rowCs_eq, List.map_append, List.map_append]; exact ic.1.append ih.1, fun p hp => ?_⟩
      simp only [rwl, List.mem_append] at hp
      rcases hp with hp | hp
      · exact ic.2 p hp
      · exact ih.2 p hp

def RowsS (H : Heap) (l : List Nat) : Prop := ∀ o ∈ l, ∃ e t xs, look H o = some (.row e t xs)

theorem RowsS.append {l m : List Nat} (h : RowsS H l) (h' : RowsS H m) : RowsS H (l ++ m) := fun o ho => by
  rcases List.mem_append.1 ho with ho | ho
  · exact h o ho
  · exact h' o ho

theorem unC_rowsS {c : CK} {s : S1} {x : c.den} {l : List Nat} (h : unC H c s = some (x, l)) (hc : aggC c = true) : RowsS H l := by
  intro o ho
  have h0 := unC_rows h o ho
  obtain ⟨ob, hk, hl⟩ := h0
  cases ob with
  | row e t xs => exact ⟨e, t, xs, hk⟩
  | map es =>
    exfalso
    cases c with
    | own e t =>
      simp only [unC] at h
      split at h
      · simp only [Option.some.injEq, Prod.mk.injEq] at h; rw [← h.2] at ho; simp at ho
      · split at h
        · rename_i hk'
          split at h
          · split at h
            · simp only [Option.some.injEq, Prod.mk.injEq] at h
              rw [← h.2] at ho
              simp only [List.mem_singleton] at ho
              subst ho
              rw [hk] at hk'
              cases hk'
            · cases h
          · cases h
        · cases h
      · cases h
    | dat t =>
      simp only [unC] at h
      split at h
      · simp only [Option.some.injEq, Prod.mk.injEq] at h; rw [← h.2] at ho; simp at ho
      · cases h
    | pd t =>
      simp only [unC] at h
      split at h
      · split at h
        · simp only [Option.some.injEq, Prod.mk.injEq] at h; rw [← h.2] at ho; simp at ho
        · cases h
      · cases h
    | fn f ts =>
      simp only [unC] at h
      split at h
      · split at h
        · split at h
          · simp only [Option.some.injEq, Prod.mk.injEq] at h; rw [← h.2] at ho; simp at ho
          · cases h
        · cases h
      · cases h
    | any => simp only [unC, Option.some.injEq, Prod.mk.injEq] at h; rw [← h.2] at ho; simp at ho
    | _ => simp [aggC] at hc
  | _ => cases hl

theorem unCs_rowsS : ∀ {cs : List CK} {ss : List S1} {x : denC cs} {l : List Nat}, unCs H cs ss = some (x, l) → cs.all aggC = true → RowsS H l
  | [], [], _, _, h, _ => by
    simp only [unCs, Option.some.injEq, Prod.mk.injEq] at h
    rw [← h.2]; exact fun o ho => by simp at ho
  | c :: r, s :: ss, _, _, h, hc => by
    simp only [List.all_cons, Bool.and_eq_true] at hc
    simp only [unCs] at h
    split at h
    · rename_i hy
      split at h
      · rename_i hz
        simp only [Option.some.injEq, Prod.mk.injEq] at h
        rw [← h.2]
        exact (unC_rowsS hy hc.1).append (unCs_rowsS hz hc.2)
      · cases h
    · cases h
  | [], _ :: _, _, _, h, _ => by simp [unCs] at h
  | _ :: _, [], _, _, h, _ => by simp [unCs] at h

theorem argsD_facts : ∀ {ps : List PK} {xs : List SV} {x : denP ps} {l1 b1 : List Nat} {i : Nat}, ps.all noPtr = true → argsD σ ps xs = some (x, l1, b1) → RowsS σ.H l1 ∧ (bxl i ps xs).map (·.2.1) = b1 ∧ ∀ p ∈ bxl i ps xs, ∃ cs, look σ.H p.2.1 = some (.box cs) ∧ p.2.2.1 + p.2.2.2 ≤ cs.length
  | [], [], _, _, _, _, _, h => by
    simp only [argsD, Option.some.injEq, Prod.mk.injEq] at h
    obtain ⟨_, rfl, rfl⟩ := h
    exact ⟨fun o ho => by simp at ho, rfl, fun p hp => by simp [bxl] at hp⟩
  | k :: r, s :: ss, _, l1, b1, i, hno, h => by
    simp only [List.all_cons, Bool.and_eq_true] at hno
    simp only [argsD] at h
    split at h
    · rename_i x1 hy
      split at h
      · rename_i z hz
        simp only [Option.some.injEq, Prod.mk.injEq] at h
        obtain ⟨_, rfl, rfl⟩ := h
        have ih := argsD_facts (l1 := z.2.1) (b1 := z.2.2) (i := i + 1) hno.2 hz
        cases k with
        | val t =>
          simp only [argD] at hy
          split at hy
          · obtain rfl := Option.some.inj hy
            exact ih
          · cases hy
        | fn f ts =>
          have hn : x1.2.1 = [] ∧ x1.2.2 = [] := by
            simp only [argD] at hy
            split at hy
            · split at hy
              · split at hy
                · obtain rfl := Option.some.inj hy; exact ⟨rfl, rfl⟩
                · cases hy
              · cases hy
            · cases hy
          rw [hn.1, hn.2, List.nil_append, List.nil_append]
          exact ih
        | ptr t =>
          have hn : x1.2.1 = [] ∧ x1.2.2 = [] := by
            simp only [argD] at hy
            split at hy
            · split at hy
              · obtain rfl := Option.some.inj hy; exact ⟨rfl, rfl⟩
              · cases hy
            · split at hy
              · split at hy
                · obtain rfl := Option.some.inj hy; exact ⟨rfl, rfl⟩
                · cases hy
              · cases hy
            · split at hy
              · obtain ⟨d, hd, hy⟩ := Option.bind_eq_some_iff.1 hy
                obtain ⟨d', hd', hy⟩ := Option.bind_eq_some_iff.1 hy
                obtain rfl := Option.some.inj hy; exact ⟨rfl, rfl⟩
              · cases hy
            · cases hy
          rw [hn.1, hn.2]
          exact ih
        | box ci co =>
          simp only [argD] at hy
          split at hy
          · rename_i o off
            split at hy
            · rename_i cs hk
              split at hy
              · rename_i hle
                split at hy
                · rename_i q hq
                  obtain rfl := Option.some.inj hy
                  have hno1 := hno.1
                  simp only [noPtr, Bool.and_eq_true] at hno1
                  refine ⟨(unCs_rowsS hq hno1.1).append ih.1, by simp only [bxl, List.map_cons, ih.2.1]; rfl, fun p hp => ?_⟩
                  simp only [bxl, List.mem_cons] at hp
                  rcases hp with rfl | hp
                  · exact ⟨cs, hk, hle⟩
                  · exact ih.2.2 p hp
                · cases hy
              · cases hy
            · cases hy
          · cases hy
        | row e t =>
          simp only [argD] at hy
          split at hy
          · split at hy
            · rename_i q hq
              obtain rfl := Option.some.inj hy
              exact ⟨(unC_rowsS hq rfl).append ih.1, ih.2⟩
            · cases hy
          · cases hy
        | agg cs =>
          simp only [argD] at hy
          split at hy
          · split at hy
            · rename_i q hq
              obtain rfl := Option.some.inj hy
              exact ⟨(unCs_rowsS hq hno.1).append ih.1, ih.2⟩
            · cases hy
          · cases hy
      · cases h
    · cases h
  | [], _ :: _, _, _, _, _, _, h => by simp [argsD] at h
  | _ :: _, [], _, _, _, _, _, h => by simp [argsD] at h

/-- The middle of a row, cut out. -/
theorem splice2 {α : Type} {c c' : List α} {base L off n : Nat} (hl : c'.length = c.length) (hb : base + L ≤ c.length) (hn : off + n ≤ L) (hs : ∀ i, ¬ (base + off ≤ i ∧ i < base + off + n) → c'[i]? = c[i]?) :
    (c'.drop base).take L = ((c.drop base).take L).take off ++ (c'.drop (base + off)).take n ++ ((c.drop base).take L).drop (off + n) := by
  apply List.ext_getElem?
  intro i
  have l1 : (((c.drop base).take L).take off).length = off := by simp; omega
  have l2 : ((c'.drop (base + off)).take n).length = n := by simp; omega
  by_cases h1 : i < off
  · rw [List.append_assoc, List.getElem?_append_left (by omega), List.getElem?_take, if_pos (by omega), List.getElem?_take, if_pos h1, List.getElem?_take, if_pos (by omega), List.getElem?_drop, List.getElem?_drop]
    exact hs _ (by omega)
  · by_cases h2 : i < off + n
    · rw [List.append_assoc, List.getElem?_append_right (by omega), l1, List.getElem?_append_left (by omega), List.getElem?_take, if_pos (by omega), List.getElem?_drop, List.getElem?_take, if_pos (by omega), List.getElem?_drop]
      congr 1; omega
    · rw [List.getElem?_append_right (by rw [List.length_append]; omega), List.length_append, l1, l2, List.getElem?_drop, List.getElem?_take, List.getElem?_take]
      have e : off + n + (i - (off + n)) = i := by omega
      rw [e]
      by_cases h3 : i < L
      · rw [if_pos h3, if_pos h3, List.getElem?_drop, List.getElem?_drop]
        exact hs _ (by omega)
      · rw [if_neg h3, if_neg h3]

end Go.Proofs.Yteddlkdbefloaaa.S
