/- Plain laws: what the functions compute, and that both programs compute the same. -/
import Derived.Test.YtmoninjbahccoaaGreatDoorPb3
namespace Go.Proofs.YtmoninjbahccoaaGreatDoor
open Go Go.RowKit S Go.Proofs
set_option maxRecDepth 100000
set_option linter.unusedVariables false
set_option linter.unusedSimpArgs false
theorem QlK {p : PolD} (hok : OkPol p) (g : Int) : QfQ p (QbX p g) := by
 refine Classical.byContradiction fun h3 => ?_
 have a0 := Qko hok g
 have a1 := a0.rnd hok
 have a2 := a1.rnd hok
 have a3 := a2.rnd hok
 have h2 : ¬ QfQ p (rnd p (rnd p (Qbe p g))) := fun h => h3 (QfV a2.up h)
 have h1 : ¬ QfQ p (rnd p (Qbe p g)) := fun h => h2 (QfV a1.up h)
 have h0 : ¬ QfQ p (Qbe p g) := fun h => h1 (QfV a0.up h)
 have l0 := QiV a0.up h0
 have l1 := QiV a1.up h1
 have l2 := QiV a2.up h2
 have l3 := a3.len hok
 have e : Qbe p g = [] := List.eq_nil_of_length_eq_zero (by omega)
 exact h0 (by rw [e]; intro y hy; cases hy)
def Rch (p : PolD) (g x : Int) : Prop := ∀ C : Int → Prop, (∀ k, QaG p k g = true → C k) → (∀ y k, C y → QaG p k y = true → C k) → C x
theorem Qho {p : PolD} (hok : OkPol p) (g x : Int) : x ∈ QbX p g ↔ Rch p g x := by
 have a0 := Qko hok g
 have a1 := a0.rnd hok
 have a2 := a1.rnd hok
 constructor
 ·intro hx C h1 h2
  have up : ∀ {L : List Int}, L.Pairwise (· < ·) → (∀ x ∈ L, C x) → ∀ x ∈ rnd p L, C x := by
   intro L hL hC x hx
   rcases ((QeT hL).2 x).1 hx with h | ⟨y, h3, h4⟩
   ·exact hC x h
   ·exact h2 y x (hC y h3) (QcV.1 h4)
  exact up a2.up (up a1.up (up a0.up fun x hx => h1 x (QcV.1 hx))) x hx
 ·intro h
  refine h (· ∈ QbX p g) (fun k hk => ?_) fun y k hy hk => QlK hok g y hy k (QcV.2 hk)
  exact ((QeT a2.up).2 k).2 (.inl (((QeT a1.up).2 k).2 (.inl (((QeT a0.up).2 k).2 (.inl (QcV.2 hk))))))
def gL (n : Nat) (P : Int → Bool) : List Int := ((List.range n).map fun i : Nat => (i : Int)).filter P
theorem Qlo (n : Nat) (P : Int → Bool) : gL (n + 1) P = if P (n : Int) = true then gL n P ++ [(n : Int)] else gL n P := by
 unfold gL
 rw [List.range_succ, List.map_append, List.filter_append, List.map_singleton]
 by_cases c : P (n : Int) = true
 ·rw [if_pos c]; simp only [List.filter_cons, c, if_true, List.filter_nil]
 ·rw [if_neg c]; simp only [List.filter_cons, c, List.filter_nil]; simp
theorem Qhd (n : Nat) (P : Int → Bool) : (gL n P).length ≤ n := by
 unfold gL
 refine Nat.le_trans (List.length_filter_le _ _) (by simp)
theorem QeF {n : Nat} {P : Int → Bool} {x : Int} : x ∈ gL n P ↔ (0 ≤ x ∧ x < (n : Int)) ∧ P x = true := by
 unfold gL
 rw [List.mem_filter, List.mem_map]
 refine and_congr_left fun _ => ⟨?_, fun h => ⟨x.toNat, ?_, ?_⟩⟩
 ·rintro ⟨i, h1, rfl⟩
  rw [List.mem_range] at h1
  omega
 ·rw [List.mem_range]; omega
 ·omega
theorem Qrx {n : Nat} {P Q : Int → Bool} (h : ∀ x, P x = Q x) : gL n P = gL n Q := by rw [show P = Q from funext h]
theorem Qlv (m : List QA) (x g : Int) (hm : m.length ≤ 1048576) : F_bl_1 (m, (x, (g, ())), ()) = some ((m.any (fun l => l.1 == x && l.2.1 == g), ()), ()) := by
 have key := Qak (step := l_bk_2) (γ := denO o_j_2) (fun i => ((m, ((x, (g, ())), (((m.length : Nat) : Int), (((i : Nat) : Int), ())))), ((), ()))) m
  (fun i l => if (l.1 == x && l.2.1 == g) = true then some ((i : Nat) : Int) else none) (fun c => some (.inr (.inl ((c, ()), ((), ()))))) (some (.inl ((), ((), ())))) (QbI hm) ?_ ?_
 ·unfold F_bl_1 F_bj_1
  show ((Qc l_bk_2 lots ((m, ((x, (g, ())), (((m.length : Nat) : Int), (((0 : Nat) : Int), ())))), ((), ()))).bind _).bind _ = _
  rw [key, ← Qdn (P := fun l : QA => l.1 == x && l.2.1 == g) (m := m) (f := fun i l => if (l.1 == x && l.2.1 == g) = true then some ((i : Nat) : Int) else none) (fun _ _ => rfl)]
  cases scan (fun i (l : QA) => if (l.1 == x && l.2.1 == g) = true then some ((i : Nat) : Int) else none) 0 m <;> rfl
 ·intro rec i hi
  unfold l_bk_2
  dsimp only
  rw [if_pos (lt_t hi), if_pos nat0, Qr hi, QW (lt1 hi hm)]
  unfold F_bi_1
  dsimp only
  cases c1 : m[i].1 == x
  ·rw [if_neg (by simp), Obn, Bool.false_and]; rfl
  ·rw [if_pos rfl, Obn, Bool.true_and]
   cases m[i].2.1 == g <;> rfl
 ·intro rec
  unfold l_bk_2
  dsimp only
  rw [if_neg QaP]
theorem QmB {p : PolD} (hok : OkPol p) (x g : Int) : F_bi (p, x, g, ()) = some ((QaG p x g, ()), ()) := by
 have hl := hok.lanes.1
 have hb := hok.bells.1
 unfold F_bi QaG
 dsimp only
 rw [Qlv _ _ _ (by omega), Obn]
 dsimp only
 by_cases c : (p.2.1.any fun l => l.1 == x && l.2.1 == g) = true
 ·rw [if_neg (by rw [c]; simp), c]; rfl
 ·have c : (p.2.1.any fun l => l.1 == x && l.2.1 == g) = false := Bool.eq_false_iff.2 c
  rw [if_pos c, Qex (x, g, ()) p.2.2.1 (by omega), c]; rfl
theorem QmI {p : PolD} (hok : OkPol p) (g : Int) : F_bm (p, g, ()) = some ((gL p.1.length (fun x => QaG p x g), ()), ()) := by
 have hn := hok.own.2
 refine Dr.eq ?_
 unfold F_bm F_bn_1
 dsimp only
 have key : Dr (L_bo_3 (((((), p), (g, ())), (([] : List Int), (((p.1.length : Nat) : Int), ((0 : Int), ())))), ((), ()))) fun o => o = .inl ((gL p.1.length (fun x => QaG p x g), ()), ((), ())) := by
  refine Qap (fun m u => ∃ i : Nat, i ≤ p.1.length ∧ m + i = 3 ∧ u = (((((), p), (g, ())), (gL i (fun x => QaG p x g), (((p.1.length : Nat) : Int), ((i : Int), ())))), ((), ()))) ?_ 3 _ ⟨0, by omega, rfl, rfl⟩ (by rw [QK]; omega)
  rintro rec m _ ⟨i, hi, hm, rfl⟩ ih
  unfold l_bo_3
  dsimp only
  by_cases c : i < p.1.length
  ·rw [if_pos (lt_t c)]
   have e : F_bm_1 ((i : Int), ((), p), g, ()) = some ((QaG p (i : Int) g, ()), ()) := by
    unfold F_bm_1
    dsimp only
    rw [QmB hok]; rfl
   refine Dr.step e ?_
   dsimp only
   rw [QW (by omega)]
   by_cases cl : QaG p (i : Int) g = true
   ·rw [if_pos cl]
    have := Qhd i (fun x => QaG p x g)
    refine Dr.guard (by simp; omega) (ih (m - 1) _ (by omega) ⟨i + 1, by omega, by omega, ?_⟩)
    rw [Qlo, if_pos cl]
   ·rw [if_neg cl]
    refine ih (m - 1) _ (by omega) ⟨i + 1, by omega, by omega, ?_⟩
    rw [Qlo, if_neg cl]
  ·rw [if_neg (lt_f c)]
   refine Dr.ret ?_
   rw [show i = p.1.length by omega]
 refine Dr.step (v := ((gL p.1.length (fun x => QaG p x g), ()), ())) ?_ (Dr.ret rfl)
 refine Dr.eq ?_
 refine key.bind fun o ho => ?_
 subst ho
 exact Dr.ret rfl
structure Seen (p : PolD) (g : Int) (out : List Int) : Prop where
 nd : out.Nodup
 rch : ∀ x ∈ out, Rch p g x
 fst : ∀ k, QaG p k g = true → k ∈ out
theorem QqG {p : PolD} (hok : OkPol p) {g x : Int} (h : Rch p g x) : isG p x = true := h (fun x => isG p x = true) (fun _ h => Qch hok h) fun _ _ _ h => Qch hok h
theorem Qof : ∀ {A B : List Int}, A.Nodup → (∀ x ∈ A, x ∈ B) → A.length ≤ B.length
 | [], _, _, _ => Nat.zero_le _
 | a :: r, B, h, hs => by
  rw [List.nodup_cons] at h
  have ha := hs a (by simp)
  have hl := List.length_erase_of_mem ha
  have h1 := Qof (B := B.erase a) h.2 fun x hx => by
   have hne : x ≠ a := fun e => h.1 (e ▸ hx)
   exact (List.mem_erase_of_ne hne).2 (hs x (List.mem_cons_of_mem _ hx))
  have hp := List.length_pos_of_mem ha
  rw [List.length_cons]; omega
theorem Seen.len {p : PolD} (hok : OkPol p) {g : Int} {out : List Int} (h : Seen p g out) : out.length ≤ 3 := by
 have hn := hok.own.2
 have := Qof (B := gL p.1.length fun _ => true) h.nd fun x hx => QeF.2 ⟨Qaz.1 (QqG hok (h.rch x hx)), rfl⟩
 have := Qhd p.1.length fun _ => true
 omega
theorem QtS (n : Nat) (P : Int → Bool) : (gL n P).Nodup := by
 unfold gL List.Nodup
 refine List.Pairwise.filter _ ?_
 rw [List.pairwise_map]
 exact List.Pairwise.imp (fun h e => by omega) List.pairwise_lt_range
def addM (out : List Int) (k : Int) : List Int := if out.contains k = true then out else out ++ [k]
theorem QsO {p : PolD} {g : Int} {out : List Int} {k : Int} (h : Seen p g out) (hk : Rch p g k) : Seen p g (addM out k) ∧ (∃ r, addM out k = out ++ r) ∧ k ∈ addM out k := by
 unfold addM
 by_cases c : out.contains k = true
 ·rw [if_pos c]
  exact ⟨h, ⟨[], by simp⟩, by simpa using c⟩
 ·rw [if_neg c]
  have c' : k ∉ out := by simpa using c
  refine ⟨⟨?_, ?_, fun j hj => List.mem_append_left _ (h.fst j hj)⟩, ⟨[k], rfl⟩, by simp⟩
  ·rw [List.nodup_append]
   refine ⟨h.nd, by simp, ?_⟩
   intro a ha b hb e
   rw [List.mem_singleton.1 hb] at e
   exact c' (e ▸ ha)
  ·intro x hx
   rcases List.mem_append.1 hx with hx | hx
   ·exact h.rch x hx
   ·rw [List.mem_singleton.1 hx]; exact hk
theorem Qlf {p : PolD} {g : Int} : ∀ {l : List Int} {out : List Int}, Seen p g out → (∀ k ∈ l, Rch p g k) → Seen p g (l.foldl addM out) ∧ (∃ r, l.foldl addM out = out ++ r) ∧ ∀ k ∈ l, k ∈ l.foldl addM out
 | [], out, h, _ => ⟨h, ⟨[], by simp⟩, by simp⟩
 | k :: r, out, h, hk => by
  obtain ⟨h1, ⟨r1, e1⟩, h2⟩ := QsO h (hk k (by simp))
  obtain ⟨h3, ⟨r2, e2⟩, h4⟩ := Qlf (l := r) h1 fun j hj => hk j (List.mem_cons_of_mem _ hj)
  refine ⟨h3, ⟨r1 ++ r2, by rw [List.foldl_cons, e2, e1, List.append_assoc]⟩, fun j hj => ?_⟩
  rcases List.mem_cons.1 hj with rfl | hj
  ·rw [List.foldl_cons, e2]; exact List.mem_append_left _ h2
  ·exact h4 j hj
theorem Qpo {A B r : List Int} (er : B = A ++ r) {j : Nat} (hA : j < A.length) (hB : j < B.length) : B[j] = A[j] := by subst er; exact List.getElem_append_left hA
theorem QhA {p : PolD} (hok : OkPol p) (g : Int) : ∃ out : List Int, (∀ x, x ∈ out ↔ Rch p g x) ∧ out.length ≤ 3 ∧ F_bu (p, g, ()) = some ((out, ()), ()) := by
 have hn := hok.own.2
 have toR : ∀ y, Rch p g y → ∀ k ∈ gL p.1.length (fun x => QaG p x y), Rch p g k := fun y hy k hk C h1 h2 => h2 y k (hy C h1 h2) (QeF.1 hk).2
 have s0 : Seen p g (gL p.1.length fun x => QaG p x g) := ⟨QtS _ _, fun x hx C h1 _ => h1 x (QeF.1 hx).2, fun k hk => QeF.2 ⟨Qaz.1 (Qch hok hk), hk⟩⟩
 have inner : ∀ (out row : List Int) (i : Int), Seen p g out → row.length ≤ 3 → (∀ k ∈ row, Rch p g k) → Dr (L_bu_6 ((p, (out, (i, (row, (((row.length : Nat) : Int), ((0 : Int), ())))))), ((), ()))) fun o => o = .inl ((p, (row.foldl addM out, (i, ()))), ((), ())) := by
  intro out row i ho hr hk
  refine Qap (fun m u => ∃ j : Nat, m + j = 3 ∧ u = ((p, ((row.take j).foldl addM out, (i, (row, (((row.length : Nat) : Int), ((j : Int), ())))))), ((), ()))) ?_ 3 _ ⟨0, rfl, rfl⟩ (by rw [QK]; omega)
  rintro rec m _ ⟨j, hm, rfl⟩ ih
  unfold l_bu_6
  dsimp only
  by_cases c : j < row.length
  ·have hin : 0 ≤ (j : Int) ∧ (j : Int) < ((row.length : Nat) : Int) := by omega
   have sj := (Qlf (l := row.take j) ho fun k h => hk k (List.mem_of_mem_take h)).1
   have lj := sj.len hok
   rw [if_pos (lt_t c), if_pos hin, Qr c, QW (by omega)]
   refine Dr.step (Qey _ _ (by omega)) ?_
   dsimp only
   cases cc : ((row.take j).foldl addM out).contains row[j] with
   | false =>
    rw [if_pos (by simp)]
    refine Dr.guard (by simp; omega) (ih (m - 1) _ (by omega) ⟨j + 1, by omega, ?_⟩)
    rw [Qfs c, List.foldl_append]
    have e : [row[j]].foldl addM ((row.take j).foldl addM out) = (row.take j).foldl addM out ++ [row[j]] := if_neg (by rw [cc]; simp)
    rw [e]
   | true =>
    rw [if_neg (by simp)]
    refine ih (m - 1) _ (by omega) ⟨j + 1, by omega, ?_⟩
    rw [Qfs c, List.foldl_append]
    have e : [row[j]].foldl addM ((row.take j).foldl addM out) = (row.take j).foldl addM out := if_pos cc
    rw [e]
  ·rw [if_neg (lt_f c), List.take_of_length_le (by omega)]
   exact Dr.ret rfl
 have outer : Dr (L_bu_3 ((p, (gL p.1.length (fun x => QaG p x g), ((0 : Int), ()))), ((), ()))) fun o => ∃ out, o = .inl ((out, ()), ((), ())) ∧ Seen p g out ∧ ∀ y ∈ out, ∀ k, QaG p k y = true → k ∈ out := by
  refine Qap (fun m u => ∃ (out : List Int) (i : Nat), m + i = 3 ∧ i ≤ out.length ∧ Seen p g out ∧ (∀ j (hj : j < out.length), j < i → ∀ k, QaG p k out[j] = true → k ∈ out) ∧ u = ((p, (out, ((i : Int), ()))), ((), ()))) ?_ 3 _ ⟨_, 0, rfl, by omega, s0, fun j _ h => by omega, rfl⟩ (by rw [QK]; omega)
  rintro rec m _ ⟨out, i, hm, hi, ho, hc, rfl⟩ ih
  unfold l_bu_3
  dsimp only
  have lo := ho.len hok
  by_cases c : i < out.length
  ·have hin : 0 ≤ (i : Int) ∧ (i : Int) < ((out.length : Nat) : Int) := by omega
   rw [if_pos (lt_t c), if_pos hin, Qr c]
   refine Dr.step (QmI hok _) ?_
   dsimp only
   have gl := Qhd p.1.length fun x => QaG p x out[i]
   have ry := toR _ (ho.rch _ (List.getElem_mem c))
   refine (inner _ _ _ ho (by omega) ry).bind fun o ho2 => ?_
   subst ho2
   dsimp only
   rw [QW (by omega)]
   obtain ⟨s1, ⟨r, er⟩, s2⟩ := Qlf ho ry
   refine ih (m - 1) _ (by omega) ⟨_, i + 1, by omega, by rw [er, List.length_append]; omega, s1, fun j hj hlt k hk => ?_, rfl⟩
   by_cases ji : j = i
   ·subst ji
    have e : ((gL p.1.length fun x => QaG p x out[j]).foldl addM out)[j] = out[j] := Qpo er c hj
    rw [e] at hk
    exact s2 k (QeF.2 ⟨Qaz.1 (Qch hok hk), hk⟩)
   ·have jl : j < out.length := by omega
    have e : ((gL p.1.length fun x => QaG p x out[i]).foldl addM out)[j] = out[j] := Qpo er jl hj
    rw [e] at hk
    rw [er]
    exact List.mem_append_left _ (hc j jl (by omega) k hk)
  ·rw [if_neg (lt_f c)]
   refine Dr.ret ⟨out, rfl, ho, fun y hy k hk => ?_⟩
   obtain ⟨j, hj, rfl⟩ := List.mem_iff_getElem.1 hy
   exact hc j hj (by omega) k hk
 obtain ⟨o, e, out, rfl, ho, hc⟩ := outer
 have lo := ho.len hok
 have so := Qoz ho.nd
 refine ⟨srt out, fun x => ?_, by rw [so.2.2]; exact lo, ?_⟩
 ·rw [so.2.1]
  exact ⟨ho.rch x, fun h => h (· ∈ out) ho.fst fun y k hy hk => hc y hy k hk⟩
 ·refine Dr.eq ?_
  unfold F_bu
  refine Dr.step (QmI hok g) ?_
  dsimp only
  refine Dr.step e ?_
  dsimp only
  exact Dr.step (QuE ho.nd (by omega)) (Dr.guard (by simp [so.2.2]) (Dr.ret rfl))
def strM (p : PolD) (g : Int) : QuK := if askM p g ≠ 0 then (askM p g, [], ()) else (0, gL p.1.length (fun x => x != g && !(QbX p g).contains x), ())
theorem Qqr (p : PolD) (g : Int) (hp : Qnc 1048576 p) : F_bv (p, g, ()) = some ((strM p g, ()), ()) := by
 refine Dr.eq ?_
 unfold F_bv strM
 refine Dr.step (Qgc p g hp) ?_
 by_cases h : askM p g = 0
 case neg => rw [if_pos (c := askM p g ≠ 0) h]; exact Dr.pos (by simpa using h) (Dr.ret rfl)
 rw [if_neg (c := askM p g ≠ 0) (by simpa using h)]
 refine Dr.neg (by simpa using h) ?_
 obtain ⟨h1, hg⟩ := QsR h
 have hok := QdM h1
 have hn := hok.own.2
 obtain ⟨out, ho, lo, eo⟩ := QhA hok g
 refine Dr.step eo ?_
 dsimp only
 have same : ∀ x, (x != g && !(QbX p g).contains x) = (x != g && !out.contains x) := fun x => by
  have : (QbX p g).contains x = out.contains x := by
   rw [Bool.eq_iff_iff, List.contains_iff_mem, List.contains_iff_mem, Qho hok, ho]
  rw [this]
 rw [Qrx same]
 unfold F_bw_1
 dsimp only
 have key : Dr (L_bx_3 (((g, (out, ())), (([] : List Int), (((p.1.length : Nat) : Int), ((0 : Int), ())))), ((), ()))) fun o => o = .inl ((gL p.1.length (fun x => x != g && !out.contains x), ()), ((), ())) := by
  refine Qap (fun m u => ∃ i : Nat, i ≤ p.1.length ∧ m + i = 3 ∧ u = (((g, (out, ())), (gL i (fun x => x != g && !out.contains x), (((p.1.length : Nat) : Int), ((i : Int), ())))), ((), ()))) ?_ 3 _ ⟨0, by omega, rfl, rfl⟩ (by rw [QK]; omega)
  rintro rec m _ ⟨i, hi, hm, rfl⟩ ih
  unfold l_bx_3
  dsimp only
  by_cases c : i < p.1.length
  ·rw [if_pos (lt_t c)]
   have e : F_bv_1 ((i : Int), g, out, ()) = some ((((i : Int) != g && !out.contains (i : Int)), ()), ()) := by
    unfold F_bv_1
    dsimp only
    cases (i : Int) != g
    ·rfl
    ·rw [if_pos rfl, Qey _ _ (by omega)]; rfl
   refine Dr.step e ?_
   dsimp only
   rw [QW (by omega)]
   have gl := Qhd i (fun x => x != g && !out.contains x)
   have sn := Qlo i (fun x => x != g && !out.contains x)
   by_cases cl : ((i : Int) != g && !out.contains (i : Int)) = true
   ·rw [if_pos cl] at sn ⊢
    refine Dr.guard (by have : [(i : Int)].length = 1 := rfl; omega) (ih (m - 1) _ (by omega) ⟨i + 1, by omega, by omega, by rw [sn]⟩)
   ·rw [if_neg cl] at sn ⊢
    exact ih (m - 1) _ (by omega) ⟨i + 1, by omega, by omega, by rw [sn]⟩
  ·rw [if_neg (lt_f c)]
   refine Dr.ret ?_
   rw [show i = p.1.length by omega]
 refine Dr.step (v := ((gL p.1.length (fun x => x != g && !out.contains x), ()), ())) ?_ (Dr.ret rfl)
 refine Dr.eq ?_
 refine key.bind fun o ho => ?_
 subst ho
 exact Dr.ret rfl
theorem QnF {p : PolD} {g : Int} (hp : polM p = 0) (hg : isG p g = true) : askM p g = 0 := by
 unfold askM
 rw [if_neg (by simpa using hp), if_pos hg]
theorem QjU {x : List (List Int)} (h : x.length ≤ 1000) : F_au (x, ()) = some ((x, ()), ()) := by
 unfold F_au
 rw [if_pos (by simp; omega)]
 rfl
theorem QoX {p : PolD} {I : List (List Int)} {k : Int} {im : List Int} (hI : Fit p I) (hl : im.length ≤ 8 * (ownL p k).length) : Fit p (I.set k.toNat im) := by
 refine ⟨by rw [List.length_set]; exact hI.1, fun j h1 h2 => ?_⟩
 rw [List.length_set] at h2
 rw [List.getElem_set]
 by_cases c : k.toNat = j
 ·rw [if_pos c]
  subst c
  rw [ownL, gget h1] at hl
  exact hl
 ·rw [if_neg c]; exact hI.2 j h1 h2
theorem Qmo {p : PolD} {J : List (List Int)} {k : Nat} {q : List Int} (hJ : FitQ p J) (hq : OkQ q) : FitQ p (J.set k q) := by
 refine ⟨by rw [List.length_set]; exact hJ.1, fun x hx => ?_⟩
 rcases List.mem_or_eq_of_mem_set hx with hx | rfl
 ·exact hJ.2 x hx
 ·exact hq
theorem QnZ {p : PolD} {I J : List (List Int)} {k : Int} {im q : List Int} (hp : polM p = 0) (hk : isG p k = true) (hI : Fit p I) (hJ : FitQ p J) (hl : im.length ≤ 8 * (ownL p k).length) (hq : OkQ q) :
  F_by (p, I, J, k, im, q, ()) = some (((0, boxH (Qdk p (I.set k.toNat im) (J.set k.toNat q))), ()), ()) := by
 have hok := QdM hp
 have h3 := hok.own
 have hk' := Qaz.1 hk
 have ci : k.toNat < I.length := by rw [hI.1]; omega
 have cj : k.toNat < J.length := by rw [hJ.1]; omega
 refine Dr.eq ?_
 unfold F_by
 refine Dr.step (Qgc p k (Qfm hok)) ?_
 rw [QnF hp hk]
 refine Dr.neg (by simp) (Dr.pos (by rw [hI.1]; simp) (Dr.neg (by rw [hJ.1]; simp) ?_))
 refine Dr.step (QjU (by rw [hI.1]; omega)) (Dr.step (QjU (by rw [hJ.1]; omega)) ?_)
 refine Dr.guard (by show 0 ≤ k ∧ k < ((I.length : Nat) : Int); omega) (Dr.step (List.getElem?_eq_getElem ci) ?_)
 refine Dr.guard (by show 0 ≤ k ∧ k < ((J.length : Nat) : Int); omega) (Dr.step (List.getElem?_eq_getElem cj) ?_)
 exact Dr.step (QiA hp (QoX hI hl) (Qmo hJ hq)) (Dr.ret rfl)
def Kin (p : PolD) (g z : Int) : Prop := z = g ∨ Rch p g z
theorem QrJ (p : PolD) (g : Int) : Shut p (Kin p g) := by
 have step : ∀ {z w : Int}, QaG p z w = true → Kin p g w → Kin p g z := by
  rintro z w h (rfl | hw)
  ·exact .inr fun C h1 _ => h1 z h
  ·exact .inr fun C h1 h2 => h2 w z (hw C h1 h2) h
 refine ⟨fun y hy ha => step ?_ ha, fun b hb ha => step ?_ ha⟩
 ·unfold QaG
  rw [Bool.or_eq_true, List.any_eq_true]
  exact .inl ⟨y, hy, by simp⟩
 ·unfold QaG
  rw [Bool.or_eq_true, List.any_eq_true, List.any_eq_true]
  exact .inr ⟨b, hb, QgL.2 ⟨rfl, rfl⟩⟩
theorem QtJ {p : PolD} {I J : List (List Int)} {k : Int} {im q : List Int} {A : Int → Prop} (hp : polM p = 0) (hk : isG p k = true) (hI : Fit p I) (hJ : FitQ p J) (hl : im.length ≤ 8 * (ownL p k).length) (hq : OkQ q) (hs : Shut p A) (hn : ¬ A k) :
  Tw (Qdk p I J) (Qdk p (I.set k.toNat im) (J.set k.toNat q)) A := by
 have hok := QdM hp
 have hI' := QoX (k := k) hI hl
 have hJ' := Qmo (k := k.toNat) hJ hq
 have hkk := Qaz.1 hk
 have own0 : ∀ l ∈ p.1, ∀ x ∈ l, 0 ≤ x ∧ x ≤ 23 := fun l hl x hx => (hok.own1 l hl).2.2 x hx
 have ne : ∀ g, isG p g = true → A g → k.toNat ≠ g.toNat := fun g hg ha e => by
  have := Qaz.1 hg
  exact hn (show k = g by omega ▸ ha)
 refine ⟨Qic hp hJ.1 hJ.2, Qic hp hJ'.1 hJ'.2, rfl, rfl, rfl, rfl, hs, fun g hg ha => ?_, fun g hg ha P hP => ?_, fun l hm ha => ?_⟩
 ·show (J.map QfA).getD g.toNat Qag = ((J.set k.toNat q).map QfA).getD g.toNat Qag
  rw [List.map_set, Qcd (ne g hg ha)]
 ·have hg : isG p g = true := hg
  have hgi := Qaz.1 hg
  have hgn : g.toNat < p.1.length := by omega
  have hP : P ∈ ownL p g := hP
  have eo : ownL p g = p.1[g.toNat] := gget hgn
  rw [eo] at hP
  obtain ⟨j, hj, rfl⟩ := List.mem_iff_getElem.1 hP
  have zero : ∀ l ∈ p.1, ∀ k, k < l.length → pg (List.replicate 192 0) (l.getD k 0) = pg (List.replicate 64 0) (k : Int) := fun l hl k hk => by
   have b := own0 l hl _ (QT (k := k) (d := 0) hk)
   have l5 := (hok.own1 l hl).2.1
   rw [Qpl b.1 (by omega), Qpl (by omega) (by omega)]
  have gi : g.toNat < I.length := by rw [hI.1]; exact hgn
  have gi' : g.toNat < (I.set k.toNat im).length := by rw [hI'.1]; exact hgn
  have a1 := QiG p.1 I _ _ (fun l hl => ⟨(QcJ hok).1 l hl, fun x hx => (own0 l hl x hx).1⟩) (QcJ hok).2 hI.2 zero g.toNat hgn gi j hj
  have a2 := QiG p.1 (I.set k.toNat im) _ _ (fun l hl => ⟨(QcJ hok).1 l hl, fun x hx => (own0 l hl x hx).1⟩) (QcJ hok).2 hI'.2 zero g.toNat hgn gi' j hj
  rw [gget hj] at a1 a2
  show pg (QaN p.1 I (List.replicate 192 0)) _ = pg (QaN p.1 (I.set k.toNat im) (List.replicate 192 0)) _
  rw [a1, a2, List.getElem_set_ne (ne g hg ha)]
 ·have hm : l ∈ p.2.1 := hm
  have b := Qcq hok l hm
  show pg (QaN p.1 I (List.replicate 192 0)) _ = pg (QaN p.1 (I.set k.toNat im) (List.replicate 192 0)) _
  rw [Qds b.2.1.1 p.1 I _ (fun x hx => ⟨QdH hok hm hx, fun y hy => (own0 x hx y hy).1⟩) hI.2,
   Qds b.2.1.1 p.1 (I.set k.toNat im) _ (fun x hx => ⟨QdH hok hm hx, fun y hy => (own0 x hx y hy).1⟩) hI'.2]
theorem QjW {A : Int → Prop} {g : Int} : ∀ (n : Nat) (k : Int) (x y : Qx), Tw x y A → isG x.1 g = true → A g → x.2.2.2.2.2.1 + (n : Int) ≤ 1000000 → Qco g n k x y = (0, 0, true, ())
 | 0, k, x, y, h, hg, ha, _ => by
  rw [Qco, if_pos]
  rw [h.views hg ha]
  exact Qjb (Qjw h.hy (by rw [← h.pol]; exact hg))
 | n + 1, k, x, y, h, hg, ha, hc => by
  rw [Qco, if_pos]
  ·exact QjW n (k + 1) _ _ (h.next (by omega)) hg ha (by show x.2.2.2.2.2.1 + 1 + (n : Int) ≤ 1000000; omega)
  ·rw [h.views hg ha]
   exact Qjb (Qjw h.hy (by rw [← h.pol]; exact hg))
theorem QnM {A : Int → Prop} {g n : Int} {x y : Qx} (h : Tw x y A) (hg : isG x.1 g = true) (ha : A g) (hn : 0 ≤ n ∧ n ≤ 200) (hc : x.2.2.2.2.2.1 + n ≤ 1000000) : QoS x y g n = (0, 0, true, ()) := by
 have h0 := h.hx.clock
 have cl := h.clock
 have ok : ∀ z : Qx, z.2.2.2.2.2.1 = x.2.2.2.2.2.1 → QaA z n = true := fun z e => by
  unfold QaA
  rw [QdE.2 hn, e, Qu (by omega) (by omega), QbH.2 hc]
  rfl
 unfold QoS
 rw [if_neg (by rw [h.hx.to]; simp), if_neg (by rw [h.hy.to]; simp), if_pos hg, if_pos (by rw [← h.pol]; exact hg), if_pos (ok x rfl), if_pos (ok y cl.symm), QjW n.toNat 0 x y h hg ha (by omega)]
theorem Qsw {p : PolD} {g : Int} (hp : polM p = 0) (hg : isG p g = true) : F_bv (p, g, ()) = some (((0, gL p.1.length (fun x => x != g && !(QbX p g).contains x), ()), ()), ()) := by
 rw [Qqr p g (Qfm (QdM hp))]
 unfold strM
 rw [if_neg (by simpa using QnF hp hg)]
theorem QiU {p : PolD} {c : List Int} {i : Nat} (hok : OkPol p) (hi : i < 3) (h : ¬ (1048576 : Int) < ((c.length : Nat) : Int)) (hb : ∀ b ∈ c, 0 ≤ b ∧ b ≤ 255) : Dr (F_x ([IntKind.u8.wrap (i : Int)] ++ c, p, ())) fun r => Fit p r.1.1 := by
 have hw : 0 ≤ IntKind.u8.wrap (i : Int) ∧ IntKind.u8.wrap (i : Int) ≤ 255 := by
  have : i = 0 ∨ i = 1 ∨ i = 2 := by omega
  rcases this with rfl | rfl | rfl <;> decide
 have hc : Byt ([3] ++ ([IntKind.u8.wrap (i : Int)] ++ c)) := ⟨fun b hm => by
  rcases List.mem_append.1 hm with hm | hm
  ·rw [List.mem_singleton.1 hm]; omega
  ·rcases List.mem_append.1 hm with hm | hm
   ·rw [List.mem_singleton.1 hm]; exact hw
   ·exact hb b hm, by simp; omega⟩
 obtain ⟨v, e, h⟩ := QfK hok hc
 exact ⟨v, e, h.1⟩
theorem QrW : OkQ [(9 : Int), 9] := ⟨by simp, fun w hw => by
 simp only [List.mem_cons, List.not_mem_nil, or_false] at hw
 unfold WW
 omega⟩
theorem QpL (c : List Int) (hb : ∀ b ∈ c, 0 ≤ b ∧ b ≤ 255) : Yes (F_ek (c, ())) := by
 unfold F_ek F_a
 refine Dr.step rfl (Dr.ite (fun _ => yes rfl) fun h0 => ?_)
 have h0 : ¬ (1048576 : Int) < ((c.length : Nat) : Int) := by rw [QM] at h0; exact h0
 refine (Qoc (Qug h0 hb) (byt3 h0 hb)).bind fun r2 h2 => ?_
 obtain ⟨⟨p, I, J, _⟩, _⟩ := r2
 obtain ⟨hp, hI, hJ⟩ := h2
 have hp : polM p = 0 := hp
 have hI : Fit p I := hI
 have hJ : FitQ p J := hJ
 have hok := QdM hp
 have h3 := hok.own
 have hk := Qic (I := I) hp hJ.1 hJ.2
 refine Dr.step (QiA hp hI hJ) (Dr.pos (by simp) ?_)
 have hlen : (Qdk p I J).2.2.1.length = p.1.length := hk.len
 refine Dr.neg (by
  show ¬ ((((Qdk p I J).2.2.1.length : Nat) : Int) == 0) = true
  rw [hlen, beq_iff_eq]; omega) ?_
 have inner : ∀ g : Int, isG p g = true → Dr (L_ek_14 ((c, ((), (I, (J, ((), (g, ((), ((0 : Int), ())))))))), ((p, (((0 : Int), boxH (Qdk p I J)), (((0 : Int), (gL p.1.length (fun x => x != g && !(QbX p g).contains x), ())), ()))), ()))) fun o =>
   o = .inl ((c, ((), (I, (J, ((), (g, ())))))), ((p, (((0 : Int), boxH (Qdk p I J)), ())), ())) := by
  intro g hg
  have hS : ∀ k ∈ gL p.1.length (fun x => x != g && !(QbX p g).contains x), isG p k = true ∧ ¬ Kin p g k := fun k hk => by
   rw [QeF, Bool.and_eq_true] at hk
   obtain ⟨h1, h2, h3⟩ := hk
   refine ⟨Qaz.2 h1, ?_⟩
   rintro (rfl | hr)
   ·simp at h2
   ·rw [← Qho hok, ← List.contains_iff_mem] at hr
    rw [hr] at h3
    cases h3
  have hSl := Qhd p.1.length (fun x => x != g && !(QbX p g).contains x)
  generalize gL p.1.length (fun x => x != g && !(QbX p g).contains x) = L at hS hSl ⊢
  refine Qap (fun m u => ∃ i : Nat, m + i = 3 ∧ u = ((c, ((), (I, (J, ((), (g, ((), ((i : Int), ())))))))), ((p, (((0 : Int), boxH (Qdk p I J)), (((0 : Int), (L, ())), ()))), ()))) ?_ 3 _ ⟨0, rfl, rfl⟩ (by rw [QK]; omega)
  rintro rec m _ ⟨i, hm, rfl⟩ ih
  unfold l_ek_14
  dsimp only
  by_cases ci : i < L.length
  ·have hin : 0 ≤ (i : Int) ∧ (i : Int) < ((L.length : Nat) : Int) := by omega
   obtain ⟨gk, nk⟩ := hS L[i] (List.getElem_mem ci)
   have gk' := Qaz.1 gk
   rw [if_pos (lt_t ci)]
   refine Dr.guard (by show (1 + c.length) * 1 ≤ _; omega) ((QiU hok (by omega) h0 hb).bind fun r26 h26 => ?_)
   rw [if_pos hin, Qr ci, if_pos hin, Qr ci]
   have kl : L[i].toNat < r26.1.1.length := by rw [h26.1]; omega
   refine Dr.guard (by
    have e : List.length r26.1.1 = p.1.length := h26.1
    show 0 ≤ L[i] ∧ L[i] < ((List.length r26.1.1 : Nat) : Int)
    rw [e]; exact gk') (Dr.step (List.getElem?_eq_getElem kl) ?_)
   have eo : ownL p L[i] = p.1[L[i].toNat]'(by omega) := gget (by omega)
   have him : r26.1.1[L[i].toNat].length ≤ 8 * (ownL p L[i]).length := by rw [eo]; exact h26.2 _ (by omega) kl
   have tw := QtJ hp gk hI hJ him QrW (QrJ p g) nk
   have hd := QnR (Qdk p I J) (Qdk p (I.set L[i].toNat r26.1.1[L[i].toNat]) (J.set L[i].toNat [9, 9])) g 60 hk.le tw.hy.le
   rw [QnM tw hg (.inl rfl) (by omega) (by show (0 : Int) + 60 ≤ 1000000; omega)] at hd
   refine Dr.step (QnZ hp gk hI hJ him QrW) (Dr.step hd ?_)
   refine Dr.pos (by simp) (Dr.pos (by simp) (Dr.neg (by simp) ?_))
   rw [QW (by omega)]
   exact ih (m - 1) _ (by omega) ⟨i + 1, by omega, rfl⟩
  ·rw [if_neg (lt_f ci)]
   exact Dr.ret rfl
 have key : Dr (L_ek_8 ((c, ((), (I, (J, ((), ((0 : Int), ())))))), ((p, (((0 : Int), boxH (Qdk p I J)), ())), ()))) fun o => o = .inl (((), ()), ((p, ()), ())) := by
  refine Qap (fun m u => ∃ i : Nat, u = ((c, ((), (I, (J, ((), ((i : Int), ())))))), ((p, (((0 : Int), boxH (Qdk p I J)), ())), ())) ∧ m + i = p.1.length) ?_ p.1.length _ ⟨0, rfl, by omega⟩ (by rw [QK]; omega)
  rintro rec m _ ⟨i, rfl, hm⟩ ih
  unfold l_ek_8
  dsimp only
  by_cases ci : i < p.1.length
  ·have hg : isG p (i : Int) = true := Qaz.2 (by omega)
   rw [if_pos (lt_t ci)]
   refine Dr.step (Qsw hp hg) (Dr.neg (by simp) ?_)
   refine (inner _ hg).bind fun o ho => ?_
   subst ho
   dsimp only
   rw [QW (by omega)]
   exact ih (m - 1) _ (by omega) ⟨i + 1, rfl, by omega⟩
  ·rw [if_neg (lt_f ci)]
   exact Dr.ret rfl
 refine key.bind fun o ho => ?_
 subst ho
 dsimp only
 have hg0 : isG p 0 = true := Qaz.2 (by omega)
 obtain ⟨out, hout, hol, eo⟩ := QhA hok 0
 have er : F_ej (p, 0, ()) = some (((0, out, ()), ()), ()) := by
  refine Dr.eq ?_
  unfold F_ej
  refine Dr.step (Qgc p 0 (Qfm hok)) ?_
  rw [QnF hp hg0]
  exact Dr.neg (by simp) (Dr.step eo (Dr.ret rfl))
 refine Dr.step er (Dr.step (Qsw hp hg0) (yes ?_))
 dsimp only
 have l2 := Qhd p.1.length (fun x => x != 0 && !(QbX p 0).contains x)
 rw [Qu (n := ((out.length : Nat) : Int) + _) (by omega) (by omega), Qu (n := ((p.1.length : Nat) : Int) - 1) (by omega) (by omega), QbH]
 have cnt := Qof (A := gL p.1.length fun x => x != 0) (B := out ++ gL p.1.length (fun x => x != 0 && !(QbX p 0).contains x)) (QtS _ _) fun x hx => by
  rw [QeF] at hx
  rw [List.mem_append]
  by_cases cr : x ∈ out
  ·exact .inl cr
  ·right
   rw [QeF, Bool.and_eq_true]
   refine ⟨hx.1, hx.2, ?_⟩
   rw [Bool.not_eq_true', Bool.eq_false_iff]
   intro e
   rw [List.contains_iff_mem, Qho hok, ← hout] at e
   exact cr e
 have l0 : (gL p.1.length fun x => x != 0).length = p.1.length - 1 := by
  have : p.1.length = 1 ∨ p.1.length = 2 ∨ p.1.length = 3 := by omega
  rcases this with e | e | e <;> rw [e] <;> rfl
 rw [l0, List.length_append] at cnt
 omega
theorem QsQ : ∀ x, inRP P_a x → F_ek x = some ((true, ()), ()) := by
 rintro ⟨c, _⟩ ⟨hc, _⟩
 exact (QpL c fun b hb => by
  have := hc.2 b hb
  have h1 : IntKind.u8.min = 0 := by decide
  have h2 : IntKind.u8.max = 255 := by decide
  simp only [inR, h1, h2] at this
  exact this).eq
end Go.Proofs.YtmoninjbahccoaaGreatDoor
