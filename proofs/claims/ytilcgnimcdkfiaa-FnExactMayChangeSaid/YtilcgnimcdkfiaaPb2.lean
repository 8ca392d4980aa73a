/- Plain laws: what the functions compute, and that both programs compute the same. -/
import Derived.Test.YtilcgnimcdkfiaaPb1
namespace Go.Proofs.Ytilcgnimcdkfiaa
open Go Go.RowKit S Go.Proofs
set_option maxRecDepth 100000
set_option linter.unusedVariables false
set_option linter.unusedSimpArgs false
theorem implPages_e {p : PolD} {g : Int} (hok : OkPol p) (hg : isG p g = true) : F_bc (p, g, ()) = some ((pgM p g, ()), ()) := by
 have hgi := isG_t.1 hg
 have hi : g.toNat < p.1.length := by omega
 have hown := hok.own1 _ (own_mem hok hg)
 have hlane := okLane hok
 have hll := hok.lanes.1
 refine Dr.eq ?_
 unfold F_bc
 refine Dr.step rfl (Dr.step repeat8_e (Dr.guard hgi.1 ?_))
 have e1 : p.1[g.toNat]? = some (p.1.getD g.toNat []) := by rw [List.getD_eq_getElem?_getD, List.getElem?_eq_getElem hi]; rfl
 refine Dr.step e1 ?_
 have k1 : Dr (L_bc_3 ((p, (g, (basePg, (p.1.getD g.toNat [], ((((p.1.getD g.toNat []).length : Nat) : Int), ((0 : Int), ())))))), ((), ()))) fun o => o = .inl ((p, (g, (ownPg 0 (p.1.getD g.toNat []) basePg, ()))), ((), ())) := by
  generalize p.1.getD g.toNat [] = w at *
  refine iter_d (fun n u => ∃ (i : Nat) (l : List TwoD), u = ((p, (g, (l, (w, (((w.length : Nat) : Int), ((i : Int), ())))))), ((), ())) ∧ n = w.length - i ∧ i ≤ w.length ∧ l.length = 8 ∧ ownPg (0 + i) (w.drop i) l = ownPg 0 w basePg) ?_ _ _ ⟨0, basePg, rfl, rfl, Nat.zero_le _, rfl, rfl⟩ (by rw [lots_eq]; omega)
  rintro rec n _ ⟨i, l, rfl, hn, hin, hl, he⟩ ih
  unfold l_bc_3
  dsimp only
  by_cases hlt : i < w.length
  case neg =>
   rw [if_neg (lt_f hlt)]
   rw [List.drop_of_length_le (by omega)] at he
   exact Dr.ret (by rw [← he]; rfl)
  rw [if_pos (lt_t hlt), if_pos nat0, at_get hlt, wrapS (by omega)]
  refine Dr.gat hl (by omega) fun _ _ => ih (n - 1) _ (by omega) ⟨i + 1, _, rfl, by omega, by omega, by simpa using hl, ?_⟩
  rw [← he, ownPg_step hlt, Int.toNat_natCast]
  simp only [Nat.zero_add]
 refine k1.bind fun o ho => ?_
 subst ho
 dsimp only
 have k2 : Dr (L_bc_8 ((g, (ownPg 0 (p.1.getD g.toNat []) basePg, (p.2.1, (((p.2.1.length : Nat) : Int), ((0 : Int), ()))))), ((), ()))) fun o => o = .inl ((pgM p g, ()), ((), ())) := by
  refine iter_d (fun n u => ∃ (i : Nat) (l : List TwoD), u = ((g, (l, (p.2.1, (((p.2.1.length : Nat) : Int), ((i : Int), ()))))), ((), ())) ∧ n = p.2.1.length - i ∧ i ≤ p.2.1.length ∧ l.length = 8 ∧ lanePg g (p.2.1.drop i) l = pgM p g) ?_ _ _ ⟨0, _, rfl, rfl, Nat.zero_le _, by rw [ownPg_len]; rfl, rfl⟩ (by rw [lots_eq]; omega)
  rintro rec n _ ⟨i, l, rfl, hn, hin, hl, he⟩ ih
  unfold l_bc_8
  dsimp only
  by_cases hlt : i < p.2.1.length
  case neg =>
   rw [if_neg (lt_f hlt)]
   rw [List.drop_of_length_le (by omega)] at he
   exact Dr.ret (by rw [← he]; rfl)
  rw [if_pos (lt_t hlt), if_pos nat0, at_get hlt, wrapS (by omega)]
  have hla := hlane _ (List.getElem_mem hlt)
  rw [lanePg_step hlt] at he
  have hl1 := lane1_len g p.2.1[i] l
  have fin : ∀ l', l' = lane1 g p.2.1[i] l → Dr (rec ((g, (l', (p.2.1, (((p.2.1.length : Nat) : Int), (((i + 1 : Nat) : Int), ()))))), ((), ()))) fun o => o = .inl ((pgM p g, ()), ((), ())) := fun l' e => by
   subst e
   exact ih (n - 1) _ (by omega) ⟨i + 1, _, rfl, by omega, by omega, by rw [hl1]; exact hl, he⟩
  generalize p.2.1[i] = x at *
  by_cases h1 : x.1 = g
  ·rw [if_pos (by simpa using h1)]
   refine Dr.gat hl (by omega) fun _ _ => ?_
   by_cases h2 : x.2.1 = g
   ·rw [if_pos (by simpa using h2)]
    refine Dr.gat (n := 8) (by simpa using hl) (by omega) fun _ _ => fin _ ?_
    unfold lane1
    dsimp only
    rw [if_pos h1, if_pos h2]
   ·rw [if_neg (by simpa using h2)]
    refine fin _ ?_
    unfold lane1
    dsimp only
    rw [if_pos h1, if_neg h2]
  ·rw [if_neg (by simpa using h1)]
   by_cases h2 : x.2.1 = g
   ·rw [if_pos (by simpa using h2)]
    refine Dr.gat hl (by omega) fun _ _ => fin _ ?_
    unfold lane1
    dsimp only
    rw [if_neg h1, if_pos h2]
   ·rw [if_neg (by simpa using h2)]
    refine fin _ ?_
    unfold lane1
    dsimp only
    rw [if_neg h1, if_neg h2]
 refine k2.bind fun o ho => ?_
 subst ho
 exact Dr.ret rfl
theorem take_snoc {α : Type} {l : List α} {i : Nat} (h : i < l.length) : l.take (i + 1) = l.take i ++ [l[i]] := by rw [List.take_add_one, List.getElem?_eq_getElem h]; rfl
def aloneM (l : List TwoD) : List TwoD := l.mapIdx fun k p => if 0 ≤ p.1 then ((k : Int), p.2) else p
theorem pg_len8 {m : List Int} {p : Int} (h : 0 ≤ p ∧ 8 * p + 8 ≤ (m.length : Int)) : (pg m p).length = 8 := by unfold pg; simp; omega
structure HK (x : HostD) : Prop where
 pol : polM x.1 = 0
 mem : memFault x.2.1 = 0 ∧ x.2.1.length = 192
 len : x.2.2.1.length = x.1.1.length
 harts : ∀ h ∈ x.2.2.1, hartM h = 0
 clock : 0 ≤ x.2.2.2.2.2.1 ∧ x.2.2.2.2.2.1 ≤ 1000000
 slot : x.2.2.2.1 = (turnM x.1 x.2.2.2.2.2.1).1
 left : x.2.2.2.2.1 = (turnM x.1 x.2.2.2.2.2.1).2
theorem HK.ok {x : HostD} (h : HK x) : OkPol x.1 := okPol h.pol
theorem hartsM_zero : ∀ {m : List HartD}, hartsM m = none ↔ ∀ h ∈ m, hartM h = 0 := by
 have key : ∀ {m : List HartD} {i : Nat}, scan (fun (_ : Nat) h => nz (hartM h)) i m = none ↔ ∀ h ∈ m, hartM h = 0 := by
  intro m
  induction m with
  | nil => intro i; simp [scan]
  | cons y r ih =>
   intro i
   simp only [scan]
   by_cases hy : hartM y = 0
   ·have : nz (hartM y) = none := by unfold nz; rw [if_neg (by simpa using hy)]
    rw [this]
    simp only
    rw [ih]
    simp [hy]
   ·have : nz (hartM y) = some (hartM y) := by unfold nz; rw [if_pos hy]
    rw [this]
    simp [hy]
 intro m
 unfold hartsM
 exact key
theorem HK.of {x : HostD} (h : hostM x = 0) : HK x := by
 have hp := host_pol h
 unfold hostM at h
 rw [if_neg (by simpa using hp)] at h
 split at h
 ·rename_i g
  cases hh : hartsM x.2.2.1 with
  | some c =>
   rw [hh] at h
   have : c ≠ 0 := by
    have : ∀ {m : List HartD} {i : Nat} {c : Int}, scan (fun (_ : Nat) h => nz (hartM h)) i m = some c → c ≠ 0 := by
     intro m
     induction m with
     | nil => intro i c h; simp [scan] at h
     | cons y r ih =>
      intro i c h
      simp only [scan] at h
      split at h
      ·rename_i c' hc'
       obtain rfl := Option.some.inj h
       unfold nz at hc'
       split at hc'
       ·obtain rfl := Option.some.inj hc'; assumption
       ·cases hc'
      ·exact ih h
    exact this hh
   exact absurd h this
  | none =>
   rw [hh] at h
   simp only at h
   split at h
   ·rename_i hc
    split at h
    ·rename_i hs
     exact ⟨hp, g.1, g.2, hartsM_zero.1 hh, inB_t.1 hc, hs.1, hs.2⟩
    ·cases h
   ·cases h
 ·cases h
theorem HK.to {x : HostD} (h : HK x) : hostM x = 0 := by
 unfold hostM
 rw [if_neg (by simpa using h.pol), if_pos ⟨h.mem, h.len⟩, hartsM_zero.2 h.harts]
 simp only
 rw [if_pos (inB_t.2 h.clock), if_pos ⟨h.slot, h.left⟩]
theorem hart0_le {h : HartD} (hh : hartM h = 0) : hartLe 1048576 h := by
 unfold hartM at hh
 split at hh
 ·rename_i c1
  split at hh
  ·split at hh
   ·rename_i c3
    exact ⟨by omega, by omega, by omega, by omega⟩
   ·cases hh
  ·cases hh
 ·cases hh
theorem pol0_le {p : PolD} (h : OkPol p) : polLe 1048576 p := by
 have h1 := h.own; have h2 := h.lanes.1; have h3 := h.bells.1; have h4 := h.plan.2
 exact ⟨⟨by omega, fun l hl => by have := (h.own1 l hl).2.1; omega⟩, by omega, by omega, by omega⟩
theorem HK.le {x : HostD} (h : HK x) : hostLe 1048576 x := by
 have h1 := h.mem.2; have h2 := h.len; have h3 := h.ok.own
 exact ⟨pol0_le h.ok, by omega, by omega, fun y hy => hart0_le (h.harts y hy)⟩
def setM (s : SoloD) (m : List Int) : SoloD := (s.1, s.2.1, m, ())
theorem words_of {m : List Int} (h : memFault m = 0) : ∀ w ∈ m, WW w := by
 unfold memFault at h
 split at h
 ·split at h
  ·exact allW_iff.1 ‹_›
  ·cases h
 ·cases h
theorem pg_words {m : List Int} {p : Int} (h : ∀ w ∈ m, WW w) : ∀ w ∈ pg m p, WW w := fun w hw => h w (List.mem_of_mem_drop (List.mem_of_mem_take hw))
/-- A lane of a right host, and what it brings. -/
theorem lane_in {x : HostD} (h : HK x) {l : LaneD} (hl : l ∈ x.1.2.1) : (0 ≤ l.2.2.1 ∧ 8 * l.2.2.1 + 8 ≤ (x.2.1.length : Int)) ∧ (0 ≤ l.2.2.2.2.1 ∧ l.2.2.2.2.1 < 8) ∧ (pg x.2.1 l.2.2.1).length = 8 ∧ ∀ w ∈ pg x.2.1 l.2.2.1, WW w := by
 have hm := h.mem.2
 obtain ⟨_, h2, h3, h4⟩ := okLane h.ok l hl
 have e : 0 ≤ l.2.2.1 ∧ 8 * l.2.2.1 + 8 ≤ (x.2.1.length : Int) := by omega
 exact ⟨e, by omega, pg_len8 e, pg_words (words_of h.mem.1)⟩
abbrev pgAt (l : List TwoD) (k : Nat) : TwoD := l.getD k (-1, 0, ())
theorem getD_get {α : Type} {l : List α} {k : Nat} {d : α} : l.getD k d = (l[k]?).getD d := List.getD_eq_getElem?_getD
theorem gset_ne {α : Type} {l : List α} {i j : Nat} {y d : α} (h : i ≠ j) : (l.set i y).getD j d = l.getD j d := by rw [getD_get, getD_get, List.getElem?_set_ne h]
theorem gset_eq {α : Type} {l : List α} {i : Nat} {y d : α} (h : i < l.length) : (l.set i y).getD i d = y := by rw [getD_get, List.getElem?_set_self h]; rfl
theorem gget {α : Type} {l : List α} {i : Nat} {d : α} (h : i < l.length) : l.getD i d = l[i] := by rw [getD_get, List.getElem?_eq_getElem h]; rfl
theorem dupM_nodup : ∀ {l seen : List Int}, dupM seen l = false → l.Nodup ∧ ∀ x ∈ l, x ∉ seen
 | [], _, _ => ⟨List.nodup_nil, by simp⟩
 | x :: r, seen, h => by
  simp only [dupM, Bool.or_eq_false_iff] at h
  obtain ⟨h1, h2⟩ := dupM_nodup h.2
  have hx : x ∉ seen := by simpa using h.1
  refine ⟨List.nodup_cons.2 ⟨fun hm => h2 x hm (by simp), h1⟩, fun y hy => ?_⟩
  rcases List.mem_cons.1 hy with rfl | hy
  ·exact hx
  ·exact fun hm => h2 y hy (List.mem_append_left _ hm)
theorem own_parts {p : PolD} (hok : OkPol p) : (∀ l ∈ p.1, l.Nodup) ∧ p.1.Pairwise fun a b => ∀ x ∈ a, ∀ y ∈ b, x ≠ y := by
 have := (dupM_nodup hok.nodup).1
 unfold List.Nodup at this
 rw [List.pairwise_flatten] at this
 exact this
abbrev ownL (p : PolD) (g : Int) : List Int := p.1.getD g.toNat []
theorem lane_zero {p : PolD} (hok : OkPol p) {j : Nat} (hj : j < p.2.1.length) : laneM p p.2.1[j] (p.2.1.take j) = 0 := by
 have e := hok.lanes.2
 unfold lanesM at e
 have := nz_none (scan_none e j hj)
 rw [Nat.zero_add] at this
 exact this
theorem lanes_pw {p : PolD} (hok : OkPol p) : p.2.1.Pairwise fun o l => clash l o = false := by
 rw [List.pairwise_iff_getElem]
 intro i j hi hj hij
 have e := lane_zero hok hj
 unfold laneM at e
 split at e
 ·rename_i h; exact absurd e h
 split at e
 ·split at e
  ·cases e
  ·split at e
   ·cases e
   ·rename_i h
    have h : (p.2.1.take j).any (clash p.2.1[j]) = false := by simpa using h
    rw [List.any_eq_false] at h
    have := h p.2.1[i] (by
     rw [← List.getElem_take (j := j) (h := by rw [List.length_take]; omega)]
     exact List.getElem_mem _)
    simpa using this
 ·cases e
theorem lane_free {p : PolD} (hok : OkPol p) {x : LaneD} (hx : x ∈ p.2.1) {l : List Int} (hl : l ∈ p.1) : x.2.2.1 ∉ l := by
 obtain ⟨j, hj, rfl⟩ := List.mem_iff_getElem.1 hx
 have e := lane_zero hok hj
 unfold laneM at e
 split at e
 ·rename_i h; exact absurd e h
 split at e
 ·split at e
  ·cases e
  ·rename_i h
   intro hm
   apply h
   rw [leI_eq, decide_eq_true_eq]
   unfold ownerM
   cases hs : scan (fun i (l : List Int) => if l.contains p.2.1[j].2.2.1 = true then some ((i : Nat) : Int) else none) 0 p.1 with
   | none =>
    obtain ⟨i, hi⟩ := scan_none_all hs l hl
    rw [if_pos (by simpa using hm)] at hi
    cases hi
   | some k =>
    refine scan_le (P := fun c : Int => 0 ≤ c) (fun i hi c hc => ?_) _ hs
    split at hc
    ·obtain rfl := Option.some.inj hc; omega
    ·cases hc
 ·cases e
theorem lane_uniq {p : PolD} (hok : OkPol p) {x y : LaneD} (hx : x ∈ p.2.1) (hy : y ∈ p.2.1) (h : x.2.2.1 = y.2.2.1) : x = y := by
 obtain ⟨i, hi, rfl⟩ := List.mem_iff_getElem.1 hx
 obtain ⟨j, hj, rfl⟩ := List.mem_iff_getElem.1 hy
 have hp := List.pairwise_iff_getElem.1 (lanes_pw hok)
 have key : ∀ {i j : Nat} (hi : i < p.2.1.length) (hj : j < p.2.1.length), i < j → p.2.1[i].2.2.1 = p.2.1[j].2.2.1 → False := fun hi hj hij e => by
  have := hp _ _ hi hj hij
  unfold clash at this
  rw [e] at this
  simp at this
 rcases Nat.lt_trichotomy i j with c | c | c
 ·exact (key hi hj c h).elim
 ·subst c; rfl
 ·exact (key hj hi c h.symm).elim
theorem ownPg_at : ∀ (r : List Int) (k : Nat) (l : List TwoD) (j : Nat), k + r.length ≤ l.length → pgAt (ownPg k r l) j = if k ≤ j ∧ j < k + r.length then (r.getD (j - k) 0, 7, ()) else pgAt l j
 | [], k, l, j, _ => by rw [if_neg (by simp only [List.length_nil]; omega)]; rfl
 | p :: r, k, l, j, h => by
  simp only [List.length_cons] at h
  rw [ownPg, ownPg_at r (k + 1) _ j (by rw [List.length_set]; omega)]
  simp only [List.length_cons]
  by_cases e : j = k
  ·subst e
   rw [if_neg (by omega), if_pos (by omega), Nat.sub_self]
   exact gset_eq (by omega)
  ·by_cases c : k + 1 ≤ j ∧ j < k + 1 + r.length
   ·rw [if_pos c, if_pos (by omega), show j - k = (j - (k + 1)) + 1 by omega]; rfl
   ·rw [if_neg c, if_neg (by omega)]; exact gset_ne (Ne.symm e)
theorem base_at (j : Nat) : pgAt basePg j = (-1, 0, ()) := by
 match j with
 | 0 | 1 | 2 | 3 | 4 | 5 | 6 | 7 => rfl
 | n + 8 => rfl
/-- A lane has its places. -/
def LaneOk (x : LaneD) : Prop := x.1 ≠ x.2.1 ∧ (5 ≤ x.2.2.2.1 ∧ x.2.2.2.1 ≤ 6) ∧ (5 ≤ x.2.2.2.2.1 ∧ x.2.2.2.2.1 ≤ 6)
theorem lane1_at {g : Int} {x : LaneD} (hx : LaneOk x) {l : List TwoD} (hl : l.length = 8) (k : Nat) : pgAt (lane1 g x l) k = if x.1 = g ∧ x.2.2.2.1 = (k : Int) then (x.2.2.1, 3, ()) else if x.2.1 = g ∧ x.2.2.2.2.1 = (k : Int) then (x.2.2.1, 1, ()) else pgAt l k := by
 obtain ⟨h0, h1, h2⟩ := hx
 unfold lane1
 dsimp only
 by_cases a : x.1 = g
 ·have b : ¬ x.2.1 = g := fun b => h0 (a.trans b.symm)
  rw [if_neg b, if_pos a, if_neg (c := x.2.1 = g ∧ _) (fun c => b c.1)]
  by_cases c : x.2.2.2.1 = (k : Int)
  ·rw [if_pos ⟨a, c⟩, show x.2.2.2.1.toNat = k by omega]; exact gset_eq (by omega)
  ·rw [if_neg (fun d => c d.2)]; exact gset_ne (by omega)
 ·rw [if_neg a, if_neg (c := x.1 = g ∧ _) (fun c => a c.1)]
  by_cases b : x.2.1 = g
  ·rw [if_pos b]
   by_cases c : x.2.2.2.2.1 = (k : Int)
   ·rw [if_pos ⟨b, c⟩, show x.2.2.2.2.1.toNat = k by omega]; exact gset_eq (by omega)
   ·rw [if_neg (fun d => c d.2)]; exact gset_ne (by omega)
  ·rw [if_neg b, if_neg (fun c => b c.1)]
theorem lanePg_cases {g : Int} {k : Nat} : ∀ (r : List LaneD) (l : List TwoD), l.length = 8 → (∀ y ∈ r, LaneOk y) → pgAt (lanePg g r l) k = pgAt l k ∨
  (∃ x ∈ r, x.1 = g ∧ x.2.2.2.1 = (k : Int) ∧ pgAt (lanePg g r l) k = (x.2.2.1, 3, ())) ∨ (∃ x ∈ r, x.2.1 = g ∧ x.2.2.2.2.1 = (k : Int) ∧ pgAt (lanePg g r l) k = (x.2.2.1, 1, ()))
 | [], _, _, _ => .inl rfl
 | y :: r, l, hl, h1 => by
  rw [lanePg]
  rcases lanePg_cases (k := k) r (lane1 g y l) (by rw [lane1_len]; exact hl) (fun y hy => h1 y (List.mem_cons_of_mem _ hy)) with e | ⟨x, hx, e⟩ | ⟨x, hx, e⟩
  ·rw [e, lane1_at (h1 y (by simp)) hl]
   by_cases a : y.1 = g ∧ y.2.2.2.1 = (k : Int)
   ·rw [if_pos a]; exact .inr (.inl ⟨y, by simp, a.1, a.2, rfl⟩)
   ·rw [if_neg a]
    by_cases b : y.2.1 = g ∧ y.2.2.2.2.1 = (k : Int)
    ·rw [if_pos b]; exact .inr (.inr ⟨y, by simp, b.1, b.2, rfl⟩)
    ·rw [if_neg b]; exact .inl rfl
  ·exact .inr (.inl ⟨x, List.mem_cons_of_mem _ hx, e⟩)
  ·exact .inr (.inr ⟨x, List.mem_cons_of_mem _ hx, e⟩)
theorem lanes_ok {p : PolD} (hok : OkPol p) : ∀ x ∈ p.2.1, LaneOk x := fun x hx => by
 have := okLane hok x hx
 exact ⟨this.1.2.2, this.2.2.1, this.2.2.2⟩
theorem ownL_len {p : PolD} {g : Int} (hok : OkPol p) (hg : isG p g = true) : 1 ≤ (ownL p g).length ∧ (ownL p g).length ≤ 5 := by
 have := hok.own1 _ (own_mem hok hg)
 exact ⟨this.1, this.2.1⟩
theorem own8 (p : PolD) (g : Int) : (ownPg 0 (ownL p g) basePg).length = 8 := by rw [ownPg_len]; rfl
theorem pg_cases {p : PolD} {g : Int} (hok : OkPol p) (hg : isG p g = true) {k : Nat} (h0 : 0 ≤ (pgAt (pgM p g) k).1) : (k < (ownL p g).length ∧ pgAt (pgM p g) k = ((ownL p g).getD k 0, 7, ())) ∨
  (∃ x ∈ p.2.1, x.1 = g ∧ x.2.2.2.1 = (k : Int) ∧ pgAt (pgM p g) k = (x.2.2.1, 3, ())) ∨ (∃ x ∈ p.2.1, x.2.1 = g ∧ x.2.2.2.2.1 = (k : Int) ∧ pgAt (pgM p g) k = (x.2.2.1, 1, ())) := by
 have h5 := (ownL_len hok hg).2
 rcases lanePg_cases (g := g) (k := k) p.2.1 (ownPg 0 (ownL p g) basePg) (own8 p g) (lanes_ok hok) with e | e | e
 ·refine .inl ?_
  have e : pgAt (pgM p g) k = pgAt (ownPg 0 (ownL p g) basePg) k := e
  rw [e, ownPg_at _ _ _ _ (by show 0 + (ownL p g).length ≤ 8; omega)] at h0 ⊢
  by_cases c : 0 ≤ k ∧ k < 0 + (ownL p g).length
  ·rw [if_pos c] at h0 ⊢
   exact ⟨by omega, by rw [Nat.sub_zero]⟩
  ·rw [if_neg c, base_at] at h0
   exact absurd h0 (by decide)
 ·exact .inr (.inl e)
 ·exact .inr (.inr e)
theorem own_at {p : PolD} {g : Int} {k : Nat} (hk : k < (ownL p g).length) : (ownL p g).getD k 0 ∈ ownL p g := getD_mem hk
theorem pg_inj {p : PolD} {g : Int} (hok : OkPol p) (hg : isG p g = true) (i j : Nat) (h0 : 0 ≤ (pgAt (pgM p g) i).1) (he : (pgAt (pgM p g) i).1 = (pgAt (pgM p g) j).1) : i = j := by
 have hm := own_mem hok hg
 have nd := List.pairwise_iff_getElem.1 ((own_parts hok).1 _ hm)
 have lf := fun {x : LaneD} (hx : x ∈ p.2.1) => lane_free hok hx hm
 have sep := fun {x : LaneD} (hx : x ∈ p.2.1) => (lanes_ok hok x hx).1
 rcases pg_cases hok hg h0 with ⟨a1, a2⟩ | ⟨x, hx, a1, a2, a3⟩ | ⟨x, hx, a1, a2, a3⟩ <;> rcases pg_cases hok hg (k := j) (by omega) with ⟨b1, b2⟩ | ⟨y, hy, b1, b2, b3⟩ | ⟨y, hy, b1, b2, b3⟩
 ·rw [a2, b2] at he
  dsimp only at he
  rw [gget a1, gget b1] at he
  rcases Nat.lt_trichotomy i j with c | c | c
  ·exact (nd i j a1 b1 c he).elim
  ·exact c
  ·exact (nd j i b1 a1 c he.symm).elim
 ·rw [a2, b3] at he; exact (lf hy (he ▸ own_at a1)).elim
 ·rw [a2, b3] at he; exact (lf hy (he ▸ own_at a1)).elim
 ·rw [a3, b2] at he; exact (lf hx (he.symm ▸ own_at b1)).elim
 ·rw [a3, b3] at he
  obtain rfl := lane_uniq hok hx hy he
  omega
 ·rw [a3, b3] at he
  obtain rfl := lane_uniq hok hx hy he
  exact (sep hx (a1.trans b1.symm)).elim
 ·rw [a3, b2] at he; exact (lf hx (he.symm ▸ own_at b1)).elim
 ·rw [a3, b3] at he
  obtain rfl := lane_uniq hok hx hy he
  exact (sep hx (b1.trans a1.symm)).elim
 ·rw [a3, b3] at he
  obtain rfl := lane_uniq hok hx hy he
  omega
/-- A machine but for what is rung. -/
def calm (h : HartD) : HartD := (h.1, h.2.1, h.2.2.1, h.2.2.2.1, h.2.2.2.2.1, false, h.2.2.2.2.2.2)
/-- A guest of a host, and a lonely machine that is as it is. -/
structure Rl (x : HostD) (s : SoloD) (g : Int) : Prop where
 hk : HK x
 hs : soloM s = 0
 hg : isG x.1 g = true
 pages : s.2.1 = aloneM (pgM x.1 g)
 hart : calm s.1 = calm (x.2.2.1.getD g.toNat zeroH)
 own : ∀ k, k < (ownL x.1 g).length → pg x.2.1 ((ownL x.1 g).getD k 0) = pg s.2.2.1 (k : Nat)
 gives : ∀ y ∈ x.1.2.1, y.1 = g → pg x.2.1 y.2.2.1 = pg s.2.2.1 y.2.2.2.1
section
variable {x : HostD} {s : SoloD} {g : Int}
theorem Rl.lanes (h : Rl x s g) : ∀ y ∈ x.1.2.1, LaneOk y ∧ (pg x.2.1 y.2.2.1).length = 8 := fun y hy => ⟨lanes_ok h.hk.ok y hy, (lane_in h.hk hy).2.2.1⟩
end
theorem HK.pgs {x : HostD} (h : HK x) {g : Int} (hg : isG x.1 g = true) : ∀ q ∈ pgM x.1 g, 0 ≤ q.1 → 8 * q.1 + 8 ≤ (x.2.1.length : Int) := fun q hq _ => by
 have := pgM_in h.ok hg q hq
 rw [h.mem.2]
 omega
def sinM (v : Int) : List Int → List Int
 | [] => [v]
 | x :: r => if x < v then x :: sinM v r else if x = v then x :: r else v :: x :: r
def srt (l : List Int) : List Int := l.foldl (fun acc v => sinM v acc) []
theorem sinM_skip {v : Int} : ∀ {A B : List Int}, (∀ a ∈ A, a < v) → sinM v (A ++ B) = A ++ sinM v B
 | [], _, _ => rfl
 | a :: A, B, h => by
  rw [List.cons_append, sinM, if_pos (h a (by simp)), sinM_skip fun x hx => h x (List.mem_cons_of_mem _ hx)]
  rfl
theorem sinM_low {v : Int} {B : List Int} (h : ∀ b ∈ B, v < b) : sinM v B = v :: B := by
 cases B with
 | nil => rfl
 | cons b r =>
  have := h b (by simp)
  rw [sinM, if_neg (by omega), if_neg (by omega)]
theorem sinM_mem {v x : Int} : ∀ {L : List Int}, x ∈ sinM v L ↔ x = v ∨ x ∈ L
 | [] => by simp [sinM]
 | y :: r => by
  rw [sinM]
  by_cases c : y < v
  ·rw [if_pos c, List.mem_cons, sinM_mem, List.mem_cons]
   constructor
   ·rintro (h | h | h) <;> simp [h]
   ·rintro (h | h | h) <;> simp [h]
  ·rw [if_neg c]
   by_cases d : y = v
   ·rw [if_pos d, List.mem_cons]
    subst d
    simp
   ·rw [if_neg d]; simp
theorem sinM_up {v : Int} : ∀ {L : List Int}, L.Pairwise (· < ·) → (sinM v L).Pairwise (· < ·)
 | [], _ => by simp [sinM]
 | y :: r, h => by
  have h' := h
  rw [List.pairwise_cons] at h'
  rw [sinM]
  by_cases c : y < v
  ·rw [if_pos c, List.pairwise_cons]
   refine ⟨fun x hx => ?_, sinM_up h'.2⟩
   rcases sinM_mem.1 hx with rfl | hx
   ·exact c
   ·exact h'.1 x hx
  ·rw [if_neg c]
   by_cases d : y = v
   ·rw [if_pos d]; exact h
   ·rw [if_neg d, List.pairwise_cons]
    refine ⟨fun x hx => ?_, h⟩
    rcases List.mem_cons.1 hx with rfl | hx
    ·omega
    ·have := h'.1 x hx; omega
theorem sinM_len {v : Int} : ∀ {L : List Int}, L.Pairwise (· < ·) → v ∉ L → (sinM v L).length = L.length + 1
 | [], _, _ => rfl
 | y :: r, h, hv => by
  rw [List.pairwise_cons] at h
  rw [sinM]
  by_cases c : y < v
  ·rw [if_pos c, List.length_cons, sinM_len h.2 fun q => hv (List.mem_cons_of_mem _ q), List.length_cons]
  ·rw [if_neg c, if_neg (fun e => hv (by simp [e]))]; simp
theorem srt_snoc (l : List Int) (v : Int) : srt (l ++ [v]) = sinM v (srt l) := by unfold srt; rw [List.foldl_append]; rfl
theorem srt_ok : ∀ {l : List Int}, l.Nodup → (srt l).Pairwise (· < ·) ∧ (∀ x, x ∈ srt l ↔ x ∈ l) ∧ (srt l).length = l.length := by
 have key : ∀ {l acc : List Int}, l.Nodup → (∀ x ∈ l, x ∉ acc) → acc.Pairwise (· < ·) → (l.foldl (fun acc v => sinM v acc) acc).Pairwise (· < ·) ∧ (∀ x, x ∈ l.foldl (fun acc v => sinM v acc) acc ↔ x ∈ acc ∨ x ∈ l) ∧ (l.foldl (fun acc v => sinM v acc) acc).length = acc.length + l.length := by
  intro l
  induction l with
  | nil => intro acc _ _ h; exact ⟨h, by simp, by simp⟩
  | cons v r ih =>
   intro acc hn ha hp
   rw [List.nodup_cons] at hn
   obtain ⟨h1, h2, h3⟩ := ih (acc := sinM v acc) hn.2 (fun x hx hm => by
    rcases sinM_mem.1 hm with rfl | hm
    ·exact hn.1 hx
    ·exact ha x (List.mem_cons_of_mem _ hx) hm) (sinM_up hp)
   refine ⟨h1, fun x => ?_, ?_⟩
   ·rw [List.foldl_cons, h2, sinM_mem, List.mem_cons]
    constructor
    ·rintro ((h | h) | h) <;> simp [h]
    ·rintro (h | h | h) <;> simp [h]
   ·rw [List.foldl_cons, h3, sinM_len hp (ha v (by simp)), List.length_cons]; omega
 intro l h
 obtain ⟨h1, h2, h3⟩ := key (acc := []) h (by simp) List.Pairwise.nil
 exact ⟨h1, fun x => by rw [srt, h2]; simp, by rw [srt, h3]; simp⟩
theorem rise_e {L : List Int} {v : Int} (h : L.Pairwise (· < ·)) (hl : L.length ≤ 1000) : F_ac (L, v, ()) = some ((sinM v L, ()), ()) := by
 refine Dr.eq ?_
 unfold F_ac
 have key : Dr (L_ac_2 ((L, (v, ((0 : Int), ()))), ((), ()))) fun o => ∃ A B : List Int, L = A ++ B ∧ (∀ a ∈ A, a < v) ∧ (∀ b r, B = b :: r → ¬ b < v) ∧ o = .inl ((L, (v, (((A.length : Nat) : Int), ()))), ((), ())) := by
  refine iter_d (fun m u => ∃ A B : List Int, L = A ++ B ∧ (∀ a ∈ A, a < v) ∧ u = ((L, (v, (((A.length : Nat) : Int), ()))), ((), ())) ∧ m = B.length) ?_ L.length _ ⟨[], L, rfl, by simp, rfl, rfl⟩ (by rw [lots_eq]; omega)
  rintro rec m _ ⟨A, B, rfl, hA, rfl, rfl⟩ ih
  unfold l_ac_2
  dsimp only
  simp only [List.length_append] at hl
  cases B with
  | nil =>
   rw [if_neg (by rw [ltI_t]; simp)]
   exact Dr.ret ⟨A, [], rfl, hA, (fun b r h => by cases h), rfl⟩
  | cons b r =>
   simp only [List.length_cons] at hl
   rw [if_pos (lt_t (by simp)), if_pos nat0, at_get (by simp : A.length < (A ++ b :: r).length)]
   rw [show (A ++ b :: r)[A.length]'(by simp) = b by simp]
   by_cases c : b < v
   ·rw [if_pos (by rw [ltI_t]; exact c), wrapS (by omega)]
    exact ih r.length _ (by simp) ⟨A ++ [b], r, by simp, fun a ha => by
     rcases List.mem_append.1 ha with ha | ha
     ·exact hA a ha
     ·rw [List.mem_singleton.1 ha]; exact c, by simp, rfl⟩
   ·rw [if_neg (by rw [ltI_t]; exact c)]
    exact Dr.ret ⟨A, b :: r, rfl, hA, (fun b' r' h => by cases h; exact c), rfl⟩
 refine key.bind fun o ho => ?_
 obtain ⟨A, B, rfl, hA, hB, rfl⟩ := ho
 dsimp only
 rw [sinM_skip hA]
 have t1 : ((A ++ B).drop ((0 : Int)).toNat).take ((((A.length : Nat) : Int)).toNat - ((0 : Int)).toNat) = A := by simp
 have t2 : ((A ++ B).drop (((A.length : Nat) : Int)).toNat).take (((((A ++ B).length : Nat) : Int)).toNat - (((A.length : Nat) : Int)).toNat) = B := by
  rw [Int.toNat_natCast, Int.toNat_natCast, List.drop_append_of_le_length (Nat.le_refl _), List.drop_length, List.nil_append]
  exact List.take_of_length_le (by simp)
 simp only [List.length_append] at hl
 have g1 : 0 ≤ (0 : Int) ∧ (0 : Int) ≤ ((A.length : Nat) : Int) ∧ ((A.length : Nat) : Int) ≤ (((A ++ B).length : Nat) : Int) := by rw [List.length_append]; omega
 have g2 : 0 ≤ ((A.length : Nat) : Int) ∧ ((A.length : Nat) : Int) ≤ (((A ++ B).length : Nat) : Int) ∧ (((A ++ B).length : Nat) : Int) ≤ (((A ++ B).length : Nat) : Int) := by rw [List.length_append]; omega
 cases B with
 | nil =>
  rw [if_neg (by rw [ltI_t]; simp)]
  refine Dr.guard g1 (Dr.guard (by rw [t1]; simp; omega) (Dr.guard (by rw [t1]; simp; omega) (Dr.guard g2 (Dr.guard (by rw [t1, t2]; simp; omega) (Dr.ret ?_)))))
  rw [t1, t2]; simp [sinM]
 | cons b r =>
  have nb := hB b r rfl
  rw [if_pos (lt_t (by simp)), if_pos nat0, at_get (by simp : A.length < (A ++ b :: r).length), show (A ++ b :: r)[A.length]'(by simp) = b by simp, sinM, if_neg nb]
  by_cases d : b = v
  ·rw [if_pos (by simpa using d), if_pos d]; exact Dr.ret rfl
  ·rw [if_neg (by simpa using d), if_neg d]
   simp only [List.length_cons] at hl
   refine Dr.guard g1 (Dr.guard (by rw [t1]; simp; omega) (Dr.guard (by rw [t1]; simp; omega) (Dr.guard g2 (Dr.guard (by rw [t1, t2]; simp; omega) (Dr.ret ?_)))))
   rw [t1, t2]; simp
theorem less_e (a b : Int) : F_cmp_Less_int64 (a, b, ()) = some ((ltI a b, ()), ()) := by
 unfold F_cmp_Less_int64 F_cmp_isNaN_int64
 simp
theorem sort4_e {pre rest : List Int} {v n i : Int} (hp : pre.Pairwise (· < ·)) (hv : v ∉ pre) (hl : (pre ++ v :: rest).length ≤ 1000) :
  L_bf_4 (((), ((0 : Int), (n, (i, (((pre.length : Nat) : Int), ()))))), ((), (pre ++ v :: rest, ()))) = some (.inl (((), ((0 : Int), (n, (i, ())))), ((), (sinM v pre ++ rest, ())))) := by
 refine Dr.eq ?_
 refine iter_d (fun m u => ∃ A B : List Int, pre = A ++ B ∧ (∀ b ∈ B, v < b) ∧ u = (((), ((0 : Int), (n, (i, (((A.length : Nat) : Int), ()))))), ((), (A ++ v :: (B ++ rest), ()))) ∧ m = A.length) ?_ pre.length _ ⟨pre, [], by simp, by simp, rfl, rfl⟩ (by simp at hl; rw [lots_eq]; omega)
 rintro rec m _ ⟨A, B, rfl, hB, rfl, rfl⟩ ih
 unfold l_bf_4
 dsimp only
 simp only [List.length_append, List.length_cons] at hl
 rcases List.eq_nil_or_concat A with rfl | ⟨A', y, rfl⟩
 ·rw [if_neg (by rw [ltI_t]; simp)]
  simp only [List.nil_append]
  rw [sinM_low hB]
  exact Dr.ret rfl
 ·rw [List.concat_eq_append] at *
  simp only [List.length_append, List.length_singleton] at hl
  have hy : y ∈ (A' ++ [y]) ++ B := by simp
  have d0 : (A' ++ [y]) ++ v :: (B ++ rest) = A' ++ y :: v :: (B ++ rest) := by simp
  have lt1 : A'.length < (A' ++ y :: v :: (B ++ rest)).length := by simp
  have lt2 : A'.length + 1 < (A' ++ y :: v :: (B ++ rest)).length := by simp
  have g1 : (A' ++ y :: v :: (B ++ rest))[A'.length]'lt1 = y := by simp
  have g2 : (A' ++ y :: v :: (B ++ rest))[A'.length + 1]'lt2 = v := by
   rw [List.getElem_append_right (by omega)]
   simp
  have ej : ((((A' ++ [y]).length : Nat)) : Int) = ((A'.length + 1 : Nat) : Int) := by simp
  have ej1 : IntKind.i64.wrap (((A'.length + 1 : Nat) : Int) - 1) = ((A'.length : Nat) : Int) := by rw [wrap64 (by omega) (by omega)]; omega
  rw [d0, ej, ej1, if_pos (by rw [ltI_t]; omega)]
  have in1 : 0 ≤ ((A'.length : Nat) : Int) ∧ ((A'.length : Nat) : Int) < (((A' ++ y :: v :: (B ++ rest)).length : Nat) : Int) := by omega
  have in2 : 0 ≤ ((A'.length + 1 : Nat) : Int) ∧ ((A'.length + 1 : Nat) : Int) < (((A' ++ y :: v :: (B ++ rest)).length : Nat) : Int) := by omega
  rw [if_pos in2, at_get lt2, if_pos in1, at_get lt1, g1, g2, less_e, Option.bind_some]
  dsimp only
  by_cases c : v < y
  ·have s1 : (A' ++ y :: v :: (B ++ rest)).set (((A'.length + 1 : Nat) : Int)).toNat y = A' ++ y :: y :: (B ++ rest) := by
    rw [Int.toNat_natCast, List.set_append_right _ _ (by omega), show A'.length + 1 - A'.length = 1 by omega]; rfl
   have lt3 : A'.length < (A' ++ y :: y :: (B ++ rest)).length := by simp
   have in3 : 0 ≤ ((A'.length : Nat) : Int) ∧ ((A'.length : Nat) : Int) < (((A' ++ y :: y :: (B ++ rest)).length : Nat) : Int) := by omega
   have s2 : (A' ++ y :: y :: (B ++ rest)).set (((A'.length : Nat) : Int)).toNat v = A' ++ v :: (y :: B ++ rest) := by
    rw [Int.toNat_natCast, List.set_append_right _ _ (by omega), Nat.sub_self]; rfl
   rw [if_pos (by rw [ltI_t]; exact c), if_pos in1, at_get lt1, if_pos in2, at_get lt2, if_pos in2, at_get lt2, g1, g2, s1, if_pos in3, at_get lt3, s2]
   exact ih A'.length _ (by simp) ⟨A', y :: B, by simp, fun b hb => by
    rcases List.mem_cons.1 hb with rfl | hb
    ·exact c
    ·exact hB b hb, rfl, rfl⟩
  ·rw [if_neg (by rw [ltI_t]; exact c)]
   have yv : y < v := by
    have : v ≠ y := fun e => hv (e ▸ hy)
    omega
   rw [List.pairwise_append] at hp
   have hA : ∀ a ∈ A' ++ [y], a < v := fun a ha => by
    rcases List.mem_append.1 ha with ha' | ha'
    ·have := (List.pairwise_append.1 hp.1).2.2 a ha' y (by simp)
     omega
    ·rw [List.mem_singleton.1 ha']; exact yv
   rw [sinM_skip hA, sinM_low hB]
   refine Dr.ret ?_
   simp
theorem sort1_e {l : List Int} (h : l.Nodup) (hl : l.length ≤ 1000) : L_bf_1 (((), ((0 : Int), (((l.length : Nat) : Int), ((1 : Int), ())))), ((), (l, ()))) = some (.inl ((), ((), (srt l, ())))) := by
 refine Dr.eq ?_
 refine iter_d (fun m u => ∃ i : Nat, 1 ≤ i ∧ m = l.length - i ∧ u = (((), ((0 : Int), (((l.length : Nat) : Int), ((i : Int), ())))), ((), (srt (l.take i) ++ l.drop i, ())))) ?_ (l.length - 1) _ ⟨1, by omega, rfl, ?_⟩ (by rw [lots_eq]; omega)
 ·rintro rec m _ ⟨i, h1, hm, rfl⟩ ih
  unfold l_bf_1
  dsimp only
  by_cases c : i < l.length
  ·rw [if_pos (lt_t c)]
   have nd := h.sublist (List.take_sublist i l)
   obtain ⟨o1, o2, o3⟩ := srt_ok nd
   have lt : (srt (l.take i)).length = i := by rw [o3, List.length_take]; omega
   have hv : l[i] ∉ srt (l.take i) := fun hm => by
    rw [o2, List.mem_take_iff_getElem] at hm
    obtain ⟨j, hj, e⟩ := hm
    have := List.pairwise_iff_getElem.1 h j i (by omega) c (by omega)
    exact this e
   rw [List.drop_eq_getElem_cons c]
   have key := sort4_e (n := ((l.length : Nat) : Int)) (i := (i : Int)) (rest := l.drop (i + 1)) o1 hv (by simp [lt]; omega)
   rw [lt] at key
   refine Dr.step key ?_
   dsimp only
   rw [wrapS (by omega)]
   refine ih (m - 1) _ (by omega) ⟨i + 1, by omega, by omega, ?_⟩
   rw [take_snoc c, srt_snoc]
  ·rw [if_neg (lt_f c), List.take_of_length_le (by omega), List.drop_of_length_le (by omega), List.append_nil]
   exact Dr.ret rfl
 ·cases l with
  | nil => rfl
  | cons x r => rfl
theorem len12_e (n : Nat) (h : n ≤ 12) : ∃ r : Int, F_be (IntKind.u64.wrap ((n : Nat) : Int), ()) = some ((r, ()), ()) := by
 have : n = 0 ∨ n = 1 ∨ n = 2 ∨ n = 3 ∨ n = 4 ∨ n = 5 ∨ n = 6 ∨ n = 7 ∨ n = 8 ∨ n = 9 ∨ n = 10 ∨ n = 11 ∨ n = 12 := by omega
 rcases this with rfl | rfl | rfl | rfl | rfl | rfl | rfl | rfl | rfl | rfl | rfl | rfl | rfl
 ·exact ⟨0, by kernel_rfl⟩
 ·exact ⟨1, by kernel_rfl⟩
 ·exact ⟨2, by kernel_rfl⟩
 ·exact ⟨2, by kernel_rfl⟩
 ·exact ⟨3, by kernel_rfl⟩
 ·exact ⟨3, by kernel_rfl⟩
 ·exact ⟨3, by kernel_rfl⟩
 ·exact ⟨3, by kernel_rfl⟩
 ·exact ⟨4, by kernel_rfl⟩
 ·exact ⟨4, by kernel_rfl⟩
 ·exact ⟨4, by kernel_rfl⟩
 ·exact ⟨4, by kernel_rfl⟩
 ·exact ⟨4, by kernel_rfl⟩
theorem sort_e {l : List Int} (h : l.Nodup) (hl : l.length ≤ 12) : F_bh (l, ()) = some ((), (srt l, ())) := by
 have o3 := (srt_ok h).2.2
 obtain ⟨r, er⟩ := len12_e l.length hl
 have e1 : F_bf (l, 0, ((l.length : Nat) : Int), ()) = some ((), (srt l, ())) := by
  refine Dr.eq ?_
  unfold F_bf
  exact Dr.step (sort1_e h (by omega)) (Dr.guard (by simp [o3]) (Dr.ret rfl))
 have e2 : F_bg (l, 0, ((l.length : Nat) : Int), r, ()) = some ((), (srt l, ())) := by
  refine Dr.eq ?_
  unfold F_bg
  have k : L_bg_2 (((), ((0 : Int), (((l.length : Nat) : Int), (r, (true, (true, ())))))), ((), (l, ()))) = some (.inl ((), ((), (srt l, ())))) := by
   refine Dr.eq ?_
   refine iter_d (fun m u => u = (((), ((0 : Int), (((l.length : Nat) : Int), (r, (true, (true, ())))))), ((), (l, ())))) ?_ 0 _ rfl (by rw [lots_eq]; omega)
   rintro rec m _ rfl _
   unfold l_bg_2
   dsimp only
   rw [wrap64 (by omega) (by omega)]
   exact Dr.pos (by rw [leI_t]; omega) (Dr.step e1 (Dr.guard (by simp [o3]) (Dr.ret rfl)))
  exact Dr.step k (Dr.guard (by simp [o3]) (Dr.ret rfl))
 refine Dr.eq ?_
 unfold F_bh
 exact Dr.step er (Dr.step e2 (Dr.guard (by simp [o3]) (Dr.guard (by simp [o3]) (Dr.ret rfl))))
def wrP (q : TwoD) : Bool := iand .i64 q.2.1 2 != 0
theorem wrP_t {q : TwoD} : wrP q = true ↔ (iand .i64 q.2.1 2 != 0) = true := Iff.rfl
def wpgs (l : List TwoD) : List Int := (l.filter wrP).map (·.1)
theorem wpgs_len (l : List TwoD) : (wpgs l).length ≤ l.length := by unfold wpgs; rw [List.length_map]; exact List.length_filter_le _ _
theorem wpgs_snoc (l : List TwoD) (q : TwoD) : wpgs (l ++ [q]) = if wrP q = true then wpgs l ++ [q.1] else wpgs l := by
 unfold wpgs
 rw [List.filter_append, List.map_append]
 by_cases c : wrP q = true
 ·rw [if_pos c, List.filter_cons_of_pos c]; rfl
 ·rw [if_neg c, List.filter_cons_of_neg c]; simp
theorem pg_none {p : PolD} {g : Int} (hok : OkPol p) (hg : isG p g = true) {k : Nat} (h0 : ¬ 0 ≤ (pgAt (pgM p g) k).1) : pgAt (pgM p g) k = (-1, 0, ()) := by
 rcases lanePg_cases (g := g) (k := k) p.2.1 (ownPg 0 (ownL p g) basePg) (own8 p g) (lanes_ok hok) with e | ⟨x, hx, _, _, e⟩ | ⟨x, hx, _, _, e⟩
 ·have e : pgAt (pgM p g) k = pgAt (ownPg 0 (ownL p g) basePg) k := e
  have h5 := (ownL_len hok hg).2
  rw [ownPg_at _ _ _ _ (by show 0 + (ownL p g).length ≤ 8; omega)] at e
  by_cases c : 0 ≤ k ∧ k < 0 + (ownL p g).length
  ·rw [if_pos c] at e
   rw [e] at h0
   exact absurd ((hok.own1 _ (own_mem hok hg)).2.2 _ (getD_mem (l := ownL p g) (k := k - 0) (d := 0) (by omega))).1 h0
  ·rw [if_neg c, base_at] at e
   exact e
 ·have e : pgAt (pgM p g) k = (x.2.2.1, 3, ()) := e
  rw [e] at h0
  exact absurd (okLane hok x hx).2.1.1 h0
 ·have e : pgAt (pgM p g) k = (x.2.2.1, 1, ()) := e
  rw [e] at h0
  exact absurd (okLane hok x hx).2.1.1 h0
theorem wr_pos {p : PolD} {g : Int} (hok : OkPol p) (hg : isG p g = true) {k : Nat} (hw : wrP (pgAt (pgM p g) k) = true) : 0 ≤ (pgAt (pgM p g) k).1 := by
 by_cases h0 : 0 ≤ (pgAt (pgM p g) k).1
 ·exact h0
 ·rw [pg_none hok hg h0] at hw
  exact absurd hw (by decide)
theorem wpgs_nd {p : PolD} {g : Int} (hok : OkPol p) (hg : isG p g = true) : (wpgs (pgM p g)).Nodup := by
 unfold wpgs List.Nodup
 rw [List.pairwise_map, List.pairwise_filter, List.pairwise_iff_getElem]
 intro i j hi hj hij a b e
 have ei : (pgM p g)[i] = pgAt (pgM p g) i := (gget hi).symm
 have ej : (pgM p g)[j] = pgAt (pgM p g) j := (gget hj).symm
 rw [ei] at a e
 rw [ej] at e
 have := pg_inj hok hg i j (wr_pos hok hg a) e
 omega
abbrev IntsR := Int × List Int × Unit
def mayM (p : PolD) (g : Int) : IntsR := if askM p g ≠ 0 then (askM p g, [], ()) else (0, srt (wpgs (pgM p g)), ())
theorem ask_inv {p : PolD} {g : Int} (h : askM p g = 0) : polM p = 0 ∧ isG p g = true := by
 unfold askM at h
 split at h
 ·exact absurd h ‹_›
 ·rename_i h1
  split at h
  ·exact ⟨by simpa using h1, ‹_›⟩
  ·cases h
theorem mayM_len (p : PolD) (g : Int) : (mayM p g).2.1.length ≤ 8 := by
 unfold mayM
 split
 ·simp
 ·rename_i h
  obtain ⟨h1, h2⟩ := ask_inv (by simpa using h)
  have := wpgs_len (pgM p g)
  rw [pgM_len] at this
  show (srt (wpgs (pgM p g))).length ≤ 8
  rw [(srt_ok (wpgs_nd (okPol h1) h2)).2.2]; exact this
theorem specMay_e (p : PolD) (g : Int) (hp : polLe 1048576 p) : F_ad (p, g, ()) = some ((mayM p g, ()), ()) := by
 refine Dr.eq ?_
 unfold F_ad mayM
 refine Dr.step (specAsk_eq p g hp) ?_
 by_cases h : askM p g = 0
 case neg => rw [if_pos (c := askM p g ≠ 0) h]; exact Dr.pos (by simpa using h) (Dr.ret rfl)
 rw [if_neg (c := askM p g ≠ 0) (by simpa using h)]
 refine Dr.neg (by simpa using h) ?_
 obtain ⟨h1, hg⟩ := ask_inv h
 have hok := okPol h1
 refine Dr.step (specPages_e hok hg) ?_
 have nd := wpgs_nd hok hg
 have hl := pgM_len p g
 generalize pgM p g = l at nd hl ⊢
 have key : ∀ Z : IntsR, Dr (L_ad_7 (((), ((), (l, ((0 : Int), ())))), ((Z, (((0 : Int), (([] : List Int), ())), ())), ()))) fun o => o = .inl (((), ((), ())), ((Z, (((0 : Int), (srt (wpgs l), ())), ())), ())) := by
  intro Z
  refine iter_d (fun m u => ∃ i : Nat, m + i = 8 ∧ u = (((), ((), (l, ((i : Int), ())))), ((Z, (((0 : Int), (srt (wpgs (l.take i)), ())), ())), ()))) ?_ 8 _ ⟨0, rfl, rfl⟩ (by rw [lots_eq]; omega)
  rintro rec m _ ⟨i, hm, rfl⟩ ih
  unfold l_ad_7
  dsimp only
  by_cases c : i < l.length
  ·have hin : 0 ≤ (i : Int) ∧ (i : Int) < ((l.length : Nat) : Int) := by omega
   rw [if_pos (lt_t c), if_pos hin, at_get c, wrapS (by omega)]
   by_cases cw : wrP l[i] = true
   ·rw [if_pos (wrP_t.1 cw), if_pos hin, at_get c]
    have sub : (wpgs (l.take i)).Nodup := nd.sublist ((((List.take_sublist i l).filter wrP).map _))
    have o := srt_ok sub
    refine Dr.step (rise_e o.1 (by rw [o.2.2]; have := wpgs_len (l.take i); rw [List.length_take] at this; omega)) ?_
    refine ih (m - 1) _ (by omega) ⟨i + 1, by omega, ?_⟩
    rw [take_snoc c, wpgs_snoc, if_pos cw, srt_snoc]
   ·rw [if_neg (fun q => cw (wrP_t.2 q))]
    refine ih (m - 1) _ (by omega) ⟨i + 1, by omega, ?_⟩
    rw [take_snoc c, wpgs_snoc, if_neg cw]
  ·rw [if_neg (lt_f c), List.take_of_length_le (by omega)]
   exact Dr.ret rfl
 refine (key _).bind fun o ho => ?_
 subst ho
 exact Dr.ret rfl
theorem implMay_e (p : PolD) (g : Int) (hp : polLe 1048576 p) : F_bi (p, g, ()) = some ((mayM p g, ()), ()) := by
 refine Dr.eq ?_
 unfold F_bi mayM
 refine Dr.step (implAsk_eq p g hp) ?_
 by_cases h : askM p g = 0
 case neg => rw [if_pos (c := askM p g ≠ 0) h]; exact Dr.pos (by simpa using h) (Dr.ret rfl)
 rw [if_neg (c := askM p g ≠ 0) (by simpa using h)]
 refine Dr.neg (by simpa using h) ?_
 obtain ⟨h1, hg⟩ := ask_inv h
 have hok := okPol h1
 refine Dr.step (implPages_e hok hg) ?_
 have nd := wpgs_nd hok hg
 have hl := pgM_len p g
 generalize pgM p g = l at nd hl ⊢
 have key : ∀ Z : IntsR, Dr (L_bi_6 (((), (([] : List Int), (l, (((l.length : Nat) : Int), ((0 : Int), ()))))), ((Z, ()), ()))) fun o => o = .inl (((), (wpgs l, ())), ((Z, ()), ())) := by
  intro Z
  refine iter_d (fun m u => ∃ i : Nat, m + i = 8 ∧ u = (((), (wpgs (l.take i), (l, (((l.length : Nat) : Int), ((i : Int), ()))))), ((Z, ()), ()))) ?_ 8 _ ⟨0, rfl, rfl⟩ (by rw [lots_eq]; omega)
  rintro rec m _ ⟨i, hm, rfl⟩ ih
  unfold l_bi_6
  dsimp only
  by_cases c : i < l.length
  ·have hin : 0 ≤ (i : Int) ∧ (i : Int) < ((l.length : Nat) : Int) := by omega
   have wl := wpgs_len (l.take i)
   rw [List.length_take] at wl
   rw [if_pos (lt_t c), if_pos hin, at_get c, wrapS (by omega)]
   by_cases cw : wrP l[i] = true
   ·rw [if_pos (wrP_t.1 cw)]
    refine Dr.guard (by simp; omega) (ih (m - 1) _ (by omega) ⟨i + 1, by omega, ?_⟩)
    rw [take_snoc c, wpgs_snoc, if_pos cw]
   ·rw [if_neg (fun q => cw (wrP_t.2 q))]
    refine ih (m - 1) _ (by omega) ⟨i + 1, by omega, ?_⟩
    rw [take_snoc c, wpgs_snoc, if_neg cw]
  ·rw [if_neg (lt_f c), List.take_of_length_le (by omega)]
   exact Dr.ret rfl
 refine (key _).bind fun o ho => ?_
 subst ho
 have wl := wpgs_len l
 exact Dr.step (sort_e (l := wpgs l) nd (by omega)) (Dr.guard (by simp [(srt_ok nd).2.2]) (Dr.ret rfl))
theorem mayChange_law (p : PolD) (g : Int) (hp : polLe maxLen p) : F_cc (p, g, ()) = some ((true, ()), ()) := by
 unfold F_cc
 simp only [ltI_eq, decide_eq_true_eq]
 obtain ⟨r1, e1, c1⟩ := szPol_eq p 1048576 (by omega) (by omega) hp
 rw [e1, Option.bind_some]
 by_cases d1 : r1 < 0
 ·rw [if_pos d1]
 rw [if_neg d1]
 have c1 := c1.resolve_left d1
 have hp := c1.2.2
 have hr : (mayM p g).2.1.length ≤ 1048576 := by have := mayM_len p g; omega
 have hi := implMay_e p g hp
 have he := eqInts_eq (mayM p g) (leM hr)
 rw [toPol_eq p hp, Option.bind_some]
 show (F_ad (p, g, ())).bind _ = _
 rw [specMay_e p g hp, Option.bind_some, Option.bind_some]
 show (F_bi (p, g, ())).bind _ = _
 rw [hi, Option.bind_some]
 show (F_bk (mayM p g, mayM p g, ())).bind _ = _
 rw [he, Option.bind_some, if_neg (by simp), Option.bind_some]
 show (F_bs (p, p, ())).bind _ = _
 rw [eqPol_eq p hp, Option.bind_some, if_neg (by simp)]
 obtain ⟨k1, p', m1, ⟨a1, a2, a3, a4⟩, m2, m3⟩ := markPol_ok p 1 hp (by omega) (by omega)
 dsimp only
 rw [m1, Option.bind_some]
 dsimp only
 rw [if_pos (by rw [a1, a2, a3, a4]; simp), if_pos (by simp; omega)]
 rw [Option.bind_some, if_neg (by simp)]
 show (F_bz (((mayM p g).1, (mayM p g).2.1, ()), 1, ())).bind _ = _
 rw [markInts_eq (mayM p g) 1 hr (by omega), Option.bind_some]
 have n2 : ((((mayM p g).2.1.length == (seqFrom 1 (mayM p g).2.1.length).length && true) && true) && true) = true := by simp [seqFrom_len]
 rw [if_pos n2, heldInts_eq _ _ 1 hr (by omega), Option.bind_some]
 have n3 : ¬ (1 + ((mayM p g).2.1.length : Int) < 0) := by omega
 rw [if_neg n3, if_neg (by simp), Option.bind_some]
 show (F_bi (p, g, ())).bind _ = _
 rw [hi, Option.bind_some]
 show (F_bk (mayM p g, mayM p g, ())).bind _ = _
 rw [he, Option.bind_some, if_neg (by simp), Option.bind_some, if_neg n3, if_neg (by simp)]
theorem mayChange_F : ∀ x, inRP P_cc x → F_cc x = some ((true, ()), ()) := by
 rintro ⟨p, g, _⟩ ⟨hp, _⟩
 exact mayChange_law p g ⟨⟨hp.1.1, fun l hl => (hp.1.2 l hl).1⟩, hp.2.1.1, hp.2.2.1.1, hp.2.2.2.1.1⟩
end Go.Proofs.Ytilcgnimcdkfiaa
