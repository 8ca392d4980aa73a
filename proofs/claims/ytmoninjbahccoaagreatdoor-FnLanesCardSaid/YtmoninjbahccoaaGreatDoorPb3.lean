/- Plain laws: what the functions compute, and that both programs compute the same. -/
import Derived.Test.YtmoninjbahccoaaGreatDoorPb2
namespace Go.Proofs.YtmoninjbahccoaaGreatDoor
open Go Go.RowKit S Go.Proofs
set_option maxRecDepth 100000
set_option linter.unusedVariables false
set_option linter.unusedSimpArgs false
theorem QlL {x : QB} (h : HK x) (hc : x.2.2.2.2.2.1 < 1000000) : F_dg (boxH x, ()) = some ((), (boxH (QbJ x), ())) := by
 obtain ⟨h1, h2, h3, h4⟩ := h.turn
 obtain ⟨g1, g2, g3⟩ := h.guest h3
 have hS := h.okS
 have hm := h.mem.2
 have hrang := QkR h
 have hcl := h.clock
 have hle := QhO g3
 have hpl := h.ok.plan
 have hturn : F_br (x, ()) = some ((turnG x, ()), ()) := by
  refine Dr.eq ?_
  unfold F_br
  exact Dr.guard h1.1 (Dr.step h4 (Dr.ret rfl))
 have hst : F_df (x.2.2.1.getD (turnG x).toNat QV, pgM x.1 (turnG x), x.2.1, 1, ()) = some (((QU x).res (QU x).fall (QU x).ring, ()), ()) := QhY hle (by omega) hS
 refine Dr.eq ?_
 unfold F_dg
 refine Dr.step hturn (Dr.guard g1 (Dr.step g2 (Dr.step (Qeu h.ok h3) (Dr.step hst ?_))))
 refine Dr.guard g1 (Dr.step g2 ?_)
 refine Dr.step (QgV (turnG x, (QU x).ring, ()) x.1.2.2.1 (by have := h.ok.bells.1; omega)) ?_
 have e1 : IntKind.i64.wrap (x.2.2.2.2.2.1 + 1) = x.2.2.2.2.2.1 + 1 := Qq (by omega) (by omega)
 have e2 : IntKind.i64.wrap (x.2.2.2.2.1 - 1) = x.2.2.2.2.1 - 1 := Qq (by omega) (by omega)
 have e3 : IntKind.i64.wrap (x.2.2.2.1 + 1) = x.2.2.2.1 + 1 := Qq (by omega) (by omega)
 have hpos : 0 < (x.1.2.2.2.1.length : Int) := by omega
 have hmod : (x.2.2.2.1 + 1).tmod ((x.1.2.2.2.1.length : Nat) : Int) = (x.2.2.2.1 + 1) % (x.1.2.2.2.1.length : Int) := Int.tmod_eq_emod_of_nonneg (by omega)
 have m0 := Int.emod_nonneg (x.2.2.2.1 + 1) (b := (x.1.2.2.2.1.length : Int)) (by omega)
 have m1 := Int.emod_lt_of_pos (x.2.2.2.1 + 1) (b := (x.1.2.2.2.1.length : Int)) hpos
 have hmi : ((x.2.2.2.1 + 1) % (x.1.2.2.2.1.length : Int)).toNat < x.1.2.2.2.1.length := by omega
 have hd : x.1.2.2.2.1[((x.2.2.2.1 + 1) % (x.1.2.2.2.1.length : Int)).toNat]? = some (x.1.2.2.2.1.getD ((x.2.2.2.1 + 1) % (x.1.2.2.2.1.length : Int)).toNat (0, 0, ())) := by
  rw [List.getD_eq_getElem?_getD, List.getElem?_eq_getElem hmi]; rfl
 have fin : ∀ hs : List QX, hs = (if Qcl x = true then QdD (QU x).ring (QO x) else QO x) →
   (∀ (a : Int), a = x.2.2.2.2.1 - 1 → Dr (if (a == (0 : Int)) = true then (if ((x.1.2.2.2.1.length : Nat) : Int) = 0 then none else if 0 ≤ (x.2.2.2.1 + 1).tmod ((x.1.2.2.2.1.length : Nat) : Int) then (x.1.2.2.2.1[((x.2.2.2.1 + 1).tmod ((x.1.2.2.2.1.length : Nat) : Int)).toNat]?).bind fun y => some ((), ((x.1.1, x.1.2.1, x.1.2.2.1, x.1.2.2.2.1, (QU x).m, hs, (x.2.2.2.1 + 1).tmod ((x.1.2.2.2.1.length : Nat) : Int), y.2.1, x.2.2.2.2.2.1 + 1, ()), ())) else none)
    else some ((), ((x.1.1, x.1.2.1, x.1.2.2.1, x.1.2.2.2.1, (QU x).m, hs, x.2.2.2.1, a, x.2.2.2.2.2.1 + 1, ()), ()))) fun r => r = ((), (boxH (QbJ x), ()))) := by
  rintro hs rfl a rfl
  rw [hmod]
  by_cases hz : x.2.2.2.2.1 - 1 = 0
  ·refine Dr.pos (by simpa using hz) (Dr.nguard (by omega) (Dr.guard m0 (Dr.step hd (Dr.ret ?_))))
   unfold boxH QbJ Qfk
   dsimp only
   rw [if_pos hz]
  ·refine Dr.neg (by simpa using hz) (Dr.ret ?_)
   unfold boxH QbJ Qfk
   dsimp only
   rw [if_neg hz]
 by_cases hin : Qcl x = true
 ·refine Dr.pos hin ?_
  have hg := QbX.1 (hrang hin)
  refine Dr.gatE (n := (QO x).length) rfl (by rw [QbN, h.len]; exact hg) fun z hz => ?_
  have hz' : (QO x)[(QU x).ring.toNat]? = some z := hz
  have ez : QdD (QU x).ring (QO x) = (QO x).set (QU x).ring.toNat (Qok z) := by
   unfold QdD
   rw [List.getD_eq_getElem?_getD, hz']
   rfl
  have q := fin ((QO x).set (QU x).ring.toNat (Qok z)) (by rw [if_pos hin, ez]) (IntKind.i64.wrap (x.2.2.2.2.1 - 1)) e2
  rw [← e1, ← e3] at q
  exact q
 ·refine Dr.neg hin ?_
  have q := fin (QO x) (by rw [if_neg hin]) (IntKind.i64.wrap (x.2.2.2.2.1 - 1)) e2
  rw [← e1, ← e3] at q
  exact q
theorem QeG {X : Type} {xs : List X} {i : Nat} (h : i < xs.length) : xs.set i xs[i] = xs := by
 apply List.ext_getElem (by simp)
 intro j h1 h2
 rw [List.getElem_set]
 split
 ·rename_i e; subst e; rfl
 ·rfl
theorem Qfg {p : PolD} (hok : OkPol p) : F_az (p, ()) = some (((p.1, p.2.1, p.2.2.1, p.2.2.2.1, ()), ()), ()) := by
 have hle := Qhr hok
 have ho := hok.own
 have hb := hok.bells.1
 have hp := hok.plan.2
 have hl := hok.lanes.1
 refine Dr.eq ?_
 unfold F_az F_au
 dsimp only
 rw [if_pos (by simp; omega), Obn]
 have k1 : Dr (L_az_3 (((), ((), (((p.1.length : Nat) : Int), ((0 : Int), ())))), (((p.1, (p.2.1, (p.2.2.1, (p.2.2.2.1, ())))), (([], ([], ([], ([], ())))), ())), ()))) fun o => o = .inl (((), ((), ())), (((p.1, (p.2.1, (p.2.2.1, (p.2.2.2.1, ())))), (([], ([], ([], ([], ())))), ())), ())) := by
  refine QaN (fun n u => ∃ i : Nat, u = (((), ((), (((p.1.length : Nat) : Int), ((i : Int), ())))), (((p.1, (p.2.1, (p.2.2.1, (p.2.2.2.1, ())))), (([], ([], ([], ([], ())))), ())), ())) ∧ n = p.1.length - i ∧ i ≤ p.1.length) ?_ _ _ ⟨0, rfl, rfl, Nat.zero_le _⟩ (by rw [Qai]; omega)
  rintro rec n _ ⟨i, rfl, hn, hi⟩ ih
  unfold l_az_3
  dsimp only
  by_cases hlt : i < p.1.length
  case neg =>
   rw [if_neg (lt_f hlt)]
   exact Dr.ret rfl
  have hy := (hok.own1 _ (List.getElem_mem hlt)).2.1
  rw [if_pos (lt_t hlt), if_pos ⟨nat0, Int.ofNat_lt.2 hlt⟩, Qy hlt, Qah (by omega), QbV (by omega), Obn, if_pos ⟨nat0, Int.ofNat_lt.2 hlt⟩, Qy hlt, Int.toNat_natCast]
  dsimp only
  rw [QeG hlt]
  exact ih (n - 1) _ (by omega) ⟨i + 1, rfl, by omega, by omega⟩
 refine k1.bind fun o h => ?_
 subst h
 unfold F_aw F_ax F_ay
 dsimp only
 rw [if_pos (by simp; omega), Obn, if_pos (by simp; omega), Obn, if_pos (by simp; omega), Obn]
 exact Dr.ret rfl
theorem QlE {x : QB} (h : HK x) : F_bq (x, ()) = some ((boxH x, ()), ()) := by
 have hle := h.le
 have hm := h.mem.2
 have hh := hle.2.2.1
 refine Dr.eq ?_
 unfold F_bq
 refine Dr.step (Qfg h.ok) (.step (QbV (q := x.2.1) (by omega)) ?_)
 unfold F_bo
 dsimp only
 rw [if_pos (by simp; omega), Obn]
 have k1 : Dr (L_bq_5 (((), ((), (((x.2.2.1.length : Nat) : Int), ((0 : Int), ())))), ((boxH x, (([], ([], ([], ([], ([], ([], ((0 : Int), ((0 : Int), ((0 : Int), ()))))))))), ())), ()))) fun o => o = .inl (((), ((), ())), ((boxH x, (([], ([], ([], ([], ([], ([], ((0 : Int), ((0 : Int), ((0 : Int), ()))))))))), ())), ())) := by
  refine QaN (fun n u => ∃ i : Nat, u = (((), ((), (((x.2.2.1.length : Nat) : Int), ((i : Int), ())))), ((boxH x, (([], ([], ([], ([], ([], ([], ((0 : Int), ((0 : Int), ((0 : Int), ()))))))))), ())), ())) ∧ n = x.2.2.1.length - i ∧ i ≤ x.2.2.1.length) ?_ _ _ ⟨0, rfl, rfl, Nat.zero_le _⟩ (by rw [Qai]; omega)
  rintro rec n _ ⟨i, rfl, hn, hi⟩ ih
  unfold l_bq_5 boxH
  dsimp only
  by_cases hlt : i < x.2.2.1.length
  case neg =>
   rw [if_neg (lt_f hlt)]
   exact Dr.ret rfl
  rw [if_pos (lt_t hlt), if_pos ⟨nat0, Int.ofNat_lt.2 hlt⟩, Qy hlt, Qah (by omega), QhP _ (hle.2.2.2 _ (List.getElem_mem hlt)), Obn, if_pos ⟨nat0, Int.ofNat_lt.2 hlt⟩, Qy hlt, Int.toNat_natCast]
  dsimp only
  rw [QeG hlt]
  exact ih (n - 1) _ (by omega) ⟨i + 1, rfl, by omega, by omega⟩
 refine k1.bind fun o h => ?_
 subst h
 exact Dr.ret rfl
def sB (s : Qav) : Qsl := (s.1.1, s.1.2.1, s.1.2.2.1, s.1.2.2.2.1, s.1.2.2.2.2.1, s.1.2.2.2.2.2.1, s.1.2.2.2.2.2.2.1, s.1.2.2.2.2.2.2.2.1, s.1.2.2.2.2.2.2.2.2.1, s.2.1, s.2.2.1, ())
def setM (s : Qav) (m : List Int) : Qav := (s.1, s.2.1, m, ())
def Qsw (s : Qav) (h : QX) : Qav := ((s.1.1, s.1.2.1, s.1.2.2.1, s.1.2.2.2.1, s.1.2.2.2.2.1, h.2.2.2.2.2.1, s.1.2.2.2.2.2.2), s.2.1, s.2.2.1, ())
theorem Qgt {m : List Int} (h : QG m = 0) : ∀ w ∈ m, WW w := by
 unfold QG at h
 split at h
 ·split at h
  ·exact Qaj.1 ‹_›
  ·cases h
 ·cases h
theorem Qqe {m : List Int} (hl : m.length = 64) (h : ∀ w ∈ m, WW w) : QG m = 0 := by
 unfold QG
 rw [if_pos (by rw [hl]; decide), if_pos (Qaj.2 h)]
theorem Qgo {s : Qav} (h1 : hartM s.1 = 0) (h2 : QaO s.2.1 8 = 0) (h3 : s.2.2.1.length = 64) (h4 : ∀ w ∈ s.2.2.1, WW w) : Qbj s = 0 := by
 unfold Qbj
 rw [if_neg (by simpa using h1), if_neg (by simpa using h2), if_pos ⟨Qqe h3 h4, h3⟩]
theorem Qra {s : Qav} (h : Qbj s = 0) : QqZ 1048576 s := by
 obtain ⟨h1, h2, h3, h4⟩ := Qdl h
 have := (Qim (by decide) h2).1
 exact ⟨QhO h1, by omega, by omega⟩
theorem Qnu {s : Qav} (h : Qbj s = 0) {m : List Int} (hl : m.length = 64) (hw : ∀ w ∈ m, WW w) : Qbj (setM s m) = 0 := by
 obtain ⟨h1, h2, h3, h4⟩ := Qdl h
 exact Qgo h1 h2 hl hw
theorem Qml {s : Qav} (h : Qbj s = 0) (y : QX) : Qbj (Qsw s y) = 0 := by
 obtain ⟨h1, h2, h3, h4⟩ := Qdl h
 exact Qgo h1 h2 h4 (Qgt h3)
def Qen (m : List Int) (g : Int) : List QE → List Int → List Int
 | [], q => q
 | l :: r, q => Qen m g r (if l.2.1 = g then Qdj q l.2.2.2.2.1.toNat (pg m l.2.2.1) else q)
theorem Qhh {s ws : List Int} {k : Nat} (h1 : ∀ w ∈ s, WW w) (h2 : ∀ w ∈ ws, WW w) : ∀ w ∈ Qdj s k ws, WW w := by
 intro w hw
 unfold Qdj at hw
 rcases List.mem_append.1 hw with hw | hw
 ·exact h1 w (List.mem_of_mem_take hw)
 ·rcases List.mem_append.1 hw with hw | hw
  ·exact h2 w hw
  ·exact h1 w (List.mem_of_mem_drop hw)
theorem Qmc {m : List Int} {p : Int} (h : ∀ w ∈ m, WW w) : ∀ w ∈ pg m p, WW w := fun w hw => h w (List.mem_of_mem_drop (List.mem_of_mem_take hw))
theorem QnY {x : QB} (h : HK x) {l : QE} (hl : l ∈ x.1.2.1) : (0 ≤ l.2.2.1 ∧ 8 * l.2.2.1 + 8 ≤ (x.2.1.length : Int)) ∧ (0 ≤ l.2.2.2.2.1 ∧ l.2.2.2.2.1 < 8) ∧ (pg x.2.1 l.2.2.1).length = 8 ∧ ∀ w ∈ pg x.2.1 l.2.2.1, WW w := by
 have hm := h.mem.2
 obtain ⟨_, h2, h3, h4⟩ := Qcf h.ok l hl
 have e : 0 ≤ l.2.2.1 ∧ 8 * l.2.2.1 + 8 ≤ (x.2.1.length : Int) := by omega
 exact ⟨e, by omega, Qdi e, Qmc (Qgt h.mem.1)⟩
theorem QhI {x : QB} (h : HK x) {g : Int} : ∀ {r : List QE} {q : List Int}, (∀ l ∈ r, l ∈ x.1.2.1) → q.length = 64 → (∀ w ∈ q, WW w) → (Qen x.2.1 g r q).length = 64 ∧ ∀ w ∈ Qen x.2.1 g r q, WW w
 | [], q, _, h1, h2 => ⟨h1, h2⟩
 | l :: r, q, hr, h1, h2 => by
  obtain ⟨_, l2, l3, l4⟩ := QnY h (hr l (by simp))
  rw [Qen]
  split
  ·exact QhI h (fun y hy => hr y (List.mem_cons_of_mem _ hy)) (QcA h1 (by omega) l3) (Qhh h2 l4)
  ·exact QhI h (fun y hy => hr y (List.mem_cons_of_mem _ hy)) h1 h2
def fedS (x : QB) (s : Qav) (g : Int) : Qav := setM s (Qen x.2.1 g x.1.2.1 s.2.2.1)
def Qhk (x : QB) (s : Qav) (g : Int) : Qav := Qsw (fedS x s g) (x.2.2.1.getD g.toNat QV)
def Qgp (x : QB) (s : Qav) (g : Int) : Mc := Qac (Mc.of (Qhk x s g).1 (Qhk x s g).2.2.1) (Qhk x s g).2.1
def Qsy (x : QB) (s : Qav) (g : Int) : Qav := ((Qgp x s g).hart, s.2.1, (Qgp x s g).m, ())
theorem Qrz {x : QB} {s : Qav} (g : Int) (hx : HK x) (hs : Qbj s = 0) : Qbj (fedS x s g) = 0 := by
 obtain ⟨h1, h2, h3, h4⟩ := Qdl hs
 obtain ⟨f1, f2⟩ := QhI hx (g := g) (r := x.1.2.1) (q := s.2.2.1) (fun _ h => h) h4 (Qgt h3)
 exact Qnu hs f1 f2
theorem QqW {x : QB} {s : Qav} (g : Int) (hx : HK x) (hs : Qbj s = 0) : Qbj (Qhk x s g) = 0 := Qml (Qrz g hx hs) _
theorem Qrb {x : QB} {s : Qav} (g : Int) (hx : HK x) (hs : Qbj s = 0) : Qbj (Qsy x s g) = 0 := by
 have hr := QqW g hx hs
 have ho : OkS (Qgp x s g) (Qhk x s g).2.1 := QiA (QqD hr)
 have hl := ho.l
 obtain ⟨h1, h2, h3, h4⟩ := Qdl hr
 exact Qgo ho.hartM h2 (by show (Qgp x s g).m.length = 64; unfold Qgp; rw [Qiz]; exact h4) hl.words
abbrev pgAt (l : List TwoD) (k : Nat) : TwoD := l.getD k (-1, 0, ())
theorem Qdt {α : Type} {l : List α} {k : Nat} {d : α} : l.getD k d = (l[k]?).getD d := List.getD_eq_getElem?_getD
theorem Qoe {m : List Int} {a : Int} {o : Nat} (ho : o < 8) : (pg m a).getD o 0 = m.getD (8 * a.toNat + o) 0 := by
 unfold pg
 rw [Qdt, Qdt, List.getElem?_take, if_pos ho, List.getElem?_drop]
theorem QqO {m : List Int} {a b : Int} {o : Nat} {w : Int} (ho : o < 8) (ha : 0 ≤ a) (hb : 0 ≤ b) : pg (m.set (8 * a.toNat + o) w) b = if a = b then (pg m b).set o w else pg m b := by
 unfold pg
 by_cases h : a = b
 ·subst h
  rw [if_pos rfl]
  apply List.ext_getElem?
  intro i
  by_cases hi : i < 8
  ·simp only [List.getElem?_take, if_pos hi, List.getElem?_drop, List.getElem?_set, List.length_take, List.length_drop]
   by_cases e : o = i
   ·subst e
    simp only [if_true]
    by_cases hl : 8 * a.toNat + o < m.length
    ·rw [if_pos hl, if_pos (by omega)]
    ·rw [if_neg hl, if_neg (by omega)]
   ·rw [if_neg (by omega), if_neg e]
  ·rw [List.getElem?_eq_none (by simp; omega), List.getElem?_eq_none (by simp; omega)]
 ·rw [if_neg h]
  apply List.ext_getElem?
  intro i
  by_cases hi : i < 8
  ·simp only [List.getElem?_take, if_pos hi, List.getElem?_drop, List.getElem?_set]
   rw [if_neg (by omega)]
  ·rw [List.getElem?_eq_none (by simp; omega), List.getElem?_eq_none (by simp; omega)]
structure Sim (l l' : List TwoD) (m m' : List Int) : Prop where
 len : l.length = 8 ∧ l'.length = 8
 kind : ∀ k, k < 8 → (pgAt l' k).2 = (pgAt l k).2
 neg : ∀ k, k < 8 → (0 ≤ (pgAt l k).1 ↔ 0 ≤ (pgAt l' k).1)
 top : ∀ k, k < 8 → (pgAt l k).1 ≤ 23 ∧ (pgAt l' k).1 ≤ 23
 inj : ∀ i j, i < 8 → j < 8 → 0 ≤ (pgAt l i).1 → (pgAt l i).1 = (pgAt l j).1 → i = j
 inj' : ∀ i j, i < 8 → j < 8 → 0 ≤ (pgAt l' i).1 → (pgAt l' i).1 = (pgAt l' j).1 → i = j
 same : ∀ k, k < 8 → 0 ≤ (pgAt l k).1 → pg m (pgAt l k).1 = pg m' (pgAt l' k).1
section
variable {l l' : List TwoD} {m m' cs : List Int}
def Spot (l l' : List TwoD) (kind : Int) (x y : Int) : Prop := ∃ k o : Nat, k < 8 ∧ o < 8 ∧ 0 ≤ (pgAt l k).1 ∧ mayP (pgAt l k) kind = true ∧ x = (pgAt l k).1 * 8 + (o : Int) ∧ y = (pgAt l' k).1 * 8 + (o : Int)
theorem Sim.walk (h : Sim l l' m m') (at_ kind : Int) : (Qad l at_ kind = -1 ∧ Qad l' at_ kind = -1) ∨
  ∃ k o : Nat, k < 8 ∧ o < 8 ∧ at_ = 8 * (k : Int) + (o : Int) ∧ 0 ≤ (pgAt l k).1 ∧ mayP (pgAt l k) kind = true ∧ Qad l at_ kind = (pgAt l k).1 * 8 + (o : Int) ∧ Qad l' at_ kind = (pgAt l' k).1 * 8 + (o : Int) := by
 unfold Qad
 by_cases ha : 0 ≤ at_ ∧ at_ ≤ 63
 ·rw [if_pos ha, if_pos ha]
  have hk : (at_ / 8).toNat < 8 := by omega
  have e : mayP (l'.getD (at_ / 8).toNat (-1, 0, ())) kind = mayP (l.getD (at_ / 8).toNat (-1, 0, ())) kind := by
   unfold mayP
   rw [show (l'.getD (at_ / 8).toNat (-1, 0, ())).2.1 = (l.getD (at_ / 8).toNat (-1, 0, ())).2.1 from congrArg (·.1) (h.kind _ hk), decide_eq_decide.2 (h.neg _ hk)]
  rw [e]
  by_cases hm : mayP (l.getD (at_ / 8).toNat (-1, 0, ())) kind = true
  ·rw [if_pos hm, if_pos hm]
   refine .inr ⟨(at_ / 8).toNat, (at_ % 8).toNat, hk, by omega, by omega, ?_, hm, by dsimp only [pgAt]; omega, by dsimp only [pgAt]; omega⟩
   simp only [mayP, Bool.and_eq_true, decide_eq_true_eq] at hm
   exact hm.1
  ·rw [if_neg hm, if_neg hm]; exact .inl ⟨rfl, rfl⟩
 ·rw [if_neg ha, if_neg ha]; exact .inl ⟨rfl, rfl⟩
theorem Sim.space (h : Sim l l' m m') (cs : List Int) : Qcg cs l m = Qcg cs l' m' := by
 unfold Qcg
 by_cases h0 : cs.getD 10 0 = 0
 ·rw [if_pos h0, if_pos h0]
 by_cases h8 : cs.getD 10 0 = 8
 ·rw [if_neg h0, if_neg h0, if_pos h8, if_pos h8]
 rw [if_neg h0, if_neg h0, if_neg h8, if_neg h8]
 rcases h.walk ((cs.getD 10 0 - 1) * 8) 1 with ⟨e1, e2⟩ | ⟨k, o, hk, ho, ha, hp, _, e1, e2⟩
 ·rw [e1, e2]; rfl
 ·have hp' := (h.neg k hk).1 hp
  have o0 : o = 0 := by omega
  subst o0
  rw [if_neg (by omega), if_neg (by omega), e1, e2]
  have := h.same k hk hp
  unfold pg at this
  rw [show ((pgAt l k).1 * 8 + ((0 : Nat) : Int)).toNat = 8 * (pgAt l k).1.toNat by omega, show ((pgAt l' k).1 * 8 + ((0 : Nat) : Int)).toNat = 8 * (pgAt l' k).1.toNat by omega, this]
theorem Sim.place (h : Sim l l' m m') (cs : List Int) (at_ kind : Int) :
  (Qt cs l m at_ kind = Qt cs l' m' at_ kind ∧ ((Qt cs l m at_ kind).2 = 0 → 1000 ≤ (Qt cs l m at_ kind).1 ∧ kind ≠ 4)) ∨
  ((Qt cs l m at_ kind).2 = 0 ∧ (Qt cs l' m' at_ kind).2 = 0 ∧ Spot l l' kind (Qt cs l m at_ kind).1 (Qt cs l' m' at_ kind).1) := by
 unfold Qt
 rw [← h.space cs]
 cases Qcg cs l m with
 | none => exact .inl ⟨rfl, fun h => by simp at h⟩
 | some s =>
  dsimp only
  by_cases c1 : Qad s at_ kind < 0
  ·rw [if_pos c1, if_pos c1]; exact .inl ⟨rfl, fun h => absurd h (QcG kind)⟩
  rw [if_neg c1, if_neg c1]
  by_cases c2 : Qad s at_ kind / 8 = 7
  ·rw [if_pos c2, if_pos c2]
   refine .inl ⟨rfl, fun hz => ?_⟩
   by_cases c3 : kind = 4
   ·rw [if_pos c3] at hz; simp at hz
   ·rw [if_neg c3]; dsimp only; omega
  rw [if_neg c2, if_neg c2]
  rcases h.walk (Qad s at_ kind) kind with ⟨e1, e2⟩ | ⟨k, o, hk, ho, ha, hp, hm, e1, e2⟩
  ·rw [e1, e2]; exact .inl ⟨rfl, fun h => absurd h (QcG kind)⟩
  ·have hp' := (h.neg k hk).1 hp
   rw [e1, e2, if_neg (by omega), if_neg (by omega)]
   exact .inr ⟨rfl, rfl, k, o, hk, ho, hp, hm, rfl, rfl⟩
theorem Sim.spot {kind x y : Int} (h : Sim l l' m m') (hs : Spot l l' kind x y) : (0 ≤ x ∧ x < 1000) ∧ (0 ≤ y ∧ y < 1000) ∧ m.getD x.toNat 0 = m'.getD y.toNat 0 ∧ ∀ w, Sim l l' (m.set x.toNat w) (m'.set y.toNat w) := by
 obtain ⟨k, o, hk, ho, hp, _, rfl, rfl⟩ := hs
 have hp' := (h.neg k hk).1 hp
 have ht := h.top k hk
 have ex : ((pgAt l k).1 * 8 + (o : Int)).toNat = 8 * (pgAt l k).1.toNat + o := by omega
 have ey : ((pgAt l' k).1 * 8 + (o : Int)).toNat = 8 * (pgAt l' k).1.toNat + o := by omega
 rw [ex, ey]
 refine ⟨by omega, by omega, ?_, fun w => ?_⟩
 ·rw [← Qoe ho, ← Qoe ho, h.same k hk hp]
 ·refine { h with same := fun j hj hq => ?_ }
  have hq' := (h.neg j hj).1 hq
  rw [QqO ho hp hq, QqO ho hp' hq', h.same j hj hq]
  by_cases e : k = j
  ·subst e; rw [if_pos rfl, if_pos rfl]
  ·rw [if_neg fun c => e (h.inj k j hk hj hp c), if_neg fun c => e (h.inj' k j hk hj hp' c)]
def Like (l l' : List TwoD) (s t : Mc) : Prop := t = { s with m := t.m } ∧ Sim l l' s.m t.m
def Qec (l l' : List TwoD) (x y : Bool × Int × Int × Mc) : Prop := x.1 = y.1 ∧ x.2.1 = y.2.1 ∧ x.2.2.1 = y.2.2.1 ∧ Like l l' x.2.2.2 y.2.2.2
theorem Qgb {b : Bool} {n r : Int} {s t : Mc} (h : Like l l' s t) : Qec l l' (b, n, r, s) (b, n, r, t) := ⟨rfl, rfl, rfl, h⟩
theorem Qap {α : Type} {R : α → α → Prop} {c : Prop} [Decidable c] {a b x y : α} (h1 : c → R a x) (h2 : ¬ c → R b y) : R (if c then a else b) (if c then x else y) := by
 by_cases h : c
 ·rw [if_pos h, if_pos h]; exact h1 h
 ·rw [if_neg h, if_neg h]; exact h2 h
theorem Qqb {s : Mc} (h : Sim l l' s.m m') (op d a i : Int) : Qec l l' (exM s l op d a i) (exM { s with m := m' } l' op d a i) := by
 unfold exM
 dsimp only
 have t : ∀ {c v : Int}, Qec l l' (false, 0, 0, s.trap c v) (false, 0, 0, Mc.trap { s with m := m' } c v) := Qgb ⟨rfl, h⟩
 refine Qap (R := Qec l l') (fun _ => Qgb ⟨rfl, h⟩) fun _ => Qap (R := Qec l l') (fun _ => Qgb ⟨rfl, h⟩) fun _ => Qap (R := Qec l l') (fun _ => ?_) fun _ => Qap (R := Qec l l') (fun _ => ?_) fun _ => ?_
 ·rcases h.place s.cs (addW (s.r.getD a.toNat 0) (off i)) 1 with ⟨e, hd⟩ | ⟨e1, e2, hs⟩
  ·rw [← e]
   exact Qap (R := Qec l l') (fun _ => t) fun c => Qap (R := Qec l l') (fun _ => Qgb ⟨rfl, h⟩) fun c2 => absurd (hd (by simpa using c)).1 c2
  ·obtain ⟨hx, hy, e3, _⟩ := h.spot hs
   rw [if_neg (c := (Qt s.cs l s.m (addW (s.r.getD a.toNat 0) (off i)) 1).2 ≠ 0) (by rw [e1]; simp), if_neg (c := (Qt s.cs l' m' (addW (s.r.getD a.toNat 0) (off i)) 1).2 ≠ 0) (by rw [e2]; simp), if_neg (c := 1000 ≤ (Qt s.cs l s.m (addW (s.r.getD a.toNat 0) (off i)) 1).1) (by omega), if_neg (c := 1000 ≤ (Qt s.cs l' m' (addW (s.r.getD a.toNat 0) (off i)) 1).1) (by omega), e3]
   exact Qgb ⟨rfl, h⟩
 ·rcases h.place s.cs (addW (s.r.getD a.toNat 0) (off i)) 2 with ⟨e, hd⟩ | ⟨e1, e2, hs⟩
  ·rw [← e]
   exact Qap (R := Qec l l') (fun _ => t) fun c => Qap (R := Qec l l') (fun _ => Qgb ⟨rfl, h⟩) fun c2 => absurd (hd (by simpa using c)).1 c2
  ·generalize Qt s.cs l s.m (addW (s.r.getD a.toNat 0) (off i)) 2 = P at e1 hs ⊢
   generalize Qt s.cs l' m' (addW (s.r.getD a.toNat 0) (off i)) 2 = Q at e2 hs ⊢
   obtain ⟨hx, hy, _, e3⟩ := h.spot hs
   rw [if_neg (c := P.2 ≠ 0) (by rw [e1]; simp), if_neg (c := Q.2 ≠ 0) (by rw [e2]; simp), if_neg (c := 1000 ≤ P.1) (by omega), if_neg (c := 1000 ≤ Q.1) (by omega)]
   exact Qgb ⟨rfl, e3 _⟩
 repeat' (refine Qap (R := Qec l l') (fun _ => Qgb ⟨rfl, h⟩) fun _ => ?_)
 exact Qgb ⟨rfl, h⟩
theorem QpY {s : Mc} (h : Sim l l' s.m m') (op d a i : Int) : (doM s l op d a i).1 = (doM { s with m := m' } l' op d a i).1 ∧ Like l l' (doM s l op d a i).2 (doM { s with m := m' } l' op d a i).2 := by
 have hx := Qqb h op d a i
 unfold doM
 dsimp only
 generalize exM s l op d a i = x at hx
 generalize exM { s with m := m' } l' op d a i = y at hx
 obtain ⟨x1, x2, x3, x4⟩ := x
 obtain ⟨y1, y2, y3, y4⟩ := y
 obtain ⟨e1, e2, e3, e4, e5⟩ := hx
 dsimp only at e1 e2 e3 e4 e5 ⊢
 subst e1 e2 e3
 rw [e4]
 dsimp only
 split
 ·exact ⟨rfl, rfl, e5⟩
 ·exact ⟨rfl, rfl, e5⟩
theorem QjY {s : Mc} (h : Sim l l' s.m m') : Like l l' (runM s l) (runM { s with m := m' } l') := by
 have t : ∀ {c v : Int}, Like l l' (s.trap c v) (Mc.trap { s with m := m' } c v) := ⟨rfl, h⟩
 unfold runM
 dsimp only
 have k : ∀ w : Int, Like l l' (if decF w = 0 then (if (doM s l (decM w).1 (decM w).2.1 (decM w).2.2.1 (decM w).2.2.2.1).1 = true then Qfi (doM s l (decM w).1 (decM w).2.1 (decM w).2.2.1 (decM w).2.2.2.1).2 else (doM s l (decM w).1 (decM w).2.1 (decM w).2.2.1 (decM w).2.2.2.1).2) else s.trap 1 w)
   (if decF w = 0 then (if (doM { s with m := m' } l' (decM w).1 (decM w).2.1 (decM w).2.2.1 (decM w).2.2.2.1).1 = true then Qfi (doM { s with m := m' } l' (decM w).1 (decM w).2.1 (decM w).2.2.1 (decM w).2.2.2.1).2 else (doM { s with m := m' } l' (decM w).1 (decM w).2.1 (decM w).2.2.1 (decM w).2.2.2.1).2) else Mc.trap { s with m := m' } 1 w) := fun w => by
  refine Qap (R := Like l l') (fun _ => ?_) fun _ => t
  obtain ⟨e1, e2, e3⟩ := QpY h (decM w).1 (decM w).2.1 (decM w).2.2.1 (decM w).2.2.2.1
  rw [← e1]
  refine Qap (R := Like l l') (fun _ => ⟨?_, e3⟩) fun _ => ⟨e2, e3⟩
  unfold Qfi
  rw [e2]
 rcases h.place s.cs s.pc 4 with ⟨e, hd⟩ | ⟨e1, e2, hs⟩
 ·rw [← e]
  refine Qap (R := Like l l') (fun _ => t) fun c => ?_
  have c : (Qt s.cs l s.m s.pc 4).2 = 0 := by simpa using c
  exact absurd rfl (hd c).2
 ·obtain ⟨hx, hy, e3, _⟩ := h.spot hs
  rw [if_neg (c := (Qt s.cs l s.m s.pc 4).2 ≠ 0) (by rw [e1]; simp), if_neg (c := (Qt s.cs l' m' s.pc 4).2 ≠ 0) (by rw [e2]; simp), ← e3]
  exact k _
theorem Qiy {s : Mc} (h : Sim l l' s.m m') : Like l l' (Qac s l) (Qac { s with m := m' } l') := by
 unfold Qac
 dsimp only
 refine Qap (R := Like l l') (fun _ => ⟨rfl, h⟩) fun _ => Qap (R := Like l l') (fun _ => ⟨rfl, h⟩) fun _ => Qap (R := Like l l') (fun _ => Qap (R := Like l l') (fun _ => ⟨rfl, h⟩) fun _ => ?_) fun _ => ?_
 ·exact QjY (s := { s with ring := -1, fall := -1, wa := false }) h
 ·exact QjY (s := { s with ring := -1, fall := -1 }) h
end
theorem Qco {α : Type} {l : List α} {i j : Nat} {y d : α} (h : i ≠ j) : (l.set i y).getD j d = l.getD j d := by rw [Qdt, Qdt, List.getElem?_set_ne h]
theorem Qdb {α : Type} {l : List α} {i : Nat} {y d : α} (h : i < l.length) : (l.set i y).getD i d = y := by rw [Qdt, List.getElem?_set_self h]; rfl
theorem gget {α : Type} {l : List α} {i : Nat} {d : α} (h : i < l.length) : l.getD i d = l[i] := by rw [Qdt, List.getElem?_eq_getElem h]; rfl
theorem QhF : ∀ {l seen : List Int}, dupM seen l = false → l.Nodup ∧ ∀ x ∈ l, x ∉ seen
 | [], _, _ => ⟨List.nodup_nil, by simp⟩
 | x :: r, seen, h => by
  simp only [dupM, Bool.or_eq_false_iff] at h
  obtain ⟨h1, h2⟩ := QhF h.2
  have hx : x ∉ seen := by simpa using h.1
  refine ⟨List.nodup_cons.2 ⟨fun hm => h2 x hm (by simp), h1⟩, fun y hy => ?_⟩
  rcases List.mem_cons.1 hy with rfl | hy
  ·exact hx
  ·exact fun hm => h2 y hy (List.mem_append_left _ hm)
theorem QjN {p : PolD} (hok : OkPol p) : (∀ l ∈ p.1, l.Nodup) ∧ p.1.Pairwise fun a b => ∀ x ∈ a, ∀ y ∈ b, x ≠ y := by
 have := (QhF hok.nodup).1
 unfold List.Nodup at this
 rw [List.pairwise_flatten] at this
 exact this
abbrev ownL (p : PolD) (g : Int) : List Int := p.1.getD g.toNat []
theorem Qpq {p : PolD} (hok : OkPol p) {g t : Int} (hg : isG p g = true) (ht : isG p t = true) (hne : t ≠ g) {x : Int} (h1 : x ∈ ownL p g) (h2 : x ∈ ownL p t) : False := by
 have a := QbX.1 hg
 have b := QbX.1 ht
 have hp := List.pairwise_iff_getElem.1 (QjN hok).2
 rw [ownL, gget (by omega)] at h1 h2
 rcases Nat.lt_or_gt_of_ne (show g.toNat ≠ t.toNat by omega) with c | c
 ·exact hp g.toNat t.toNat (by omega) (by omega) c x h1 x h2 rfl
 ·exact hp t.toNat g.toNat (by omega) (by omega) c x h2 x h1 rfl
theorem QjA {p : PolD} (hok : OkPol p) {j : Nat} (hj : j < p.2.1.length) : Qdu p p.2.1[j] (p.2.1.take j) = 0 := by
 have e := hok.lanes.2
 unfold QbB at e
 have := QkH (QeX e j hj)
 rw [Nat.zero_add] at this
 exact this
theorem Qga {p : PolD} (hok : OkPol p) : p.2.1.Pairwise fun o l => clash l o = false := by
 rw [List.pairwise_iff_getElem]
 intro i j hi hj hij
 have e := QjA hok hj
 unfold Qdu at e
 split at e
 ·rename_i h; exact absurd e h
 split at e
 ·split at e
  ·cases e
  ·split at e
   ·cases e
   ·rename_i h
    have h : (p.2.1.take j).any (clash p.2.1[j]) = false := by simpa using h
    rw [List.any_eq_false] at h
    have := h p.2.1[i] (by
     rw [← List.getElem_take (j := j) (h := by rw [List.length_take]; omega)]
     exact List.getElem_mem _)
    simpa using this
 ·cases e
theorem QgI {p : PolD} (hok : OkPol p) {x : QE} (hx : x ∈ p.2.1) {l : List Int} (hl : l ∈ p.1) : x.2.2.1 ∉ l := by
 obtain ⟨j, hj, rfl⟩ := List.mem_iff_getElem.1 hx
 have e := QjA hok hj
 unfold Qdu at e
 split at e
 ·rename_i h; exact absurd e h
 split at e
 ·split at e
  ·cases e
  ·rename_i h
   intro hm
   apply h
   rw [Qbm, decide_eq_true_eq]
   unfold Qez
   cases hs : scan (fun i (l : List Int) => if l.contains p.2.1[j].2.2.1 = true then some ((i : Nat) : Int) else none) 0 p.1 with
   | none =>
    obtain ⟨i, hi⟩ := QaL hs l hl
    rw [if_pos (by simpa using hm)] at hi
    cases hi
   | some k =>
    refine Qcv (P := fun c : Int => 0 ≤ c) (fun i hi c hc => ?_) _ hs
    split at hc
    ·obtain rfl := Osj hc; omega
    ·cases hc
 ·cases e
theorem Qdv {p : PolD} (hok : OkPol p) {x y : QE} (hx : x ∈ p.2.1) (hy : y ∈ p.2.1) (h : x.2.2.1 = y.2.2.1) : x = y := by
 obtain ⟨i, hi, rfl⟩ := List.mem_iff_getElem.1 hx
 obtain ⟨j, hj, rfl⟩ := List.mem_iff_getElem.1 hy
 have hp := List.pairwise_iff_getElem.1 (Qga hok)
 have key : ∀ {i j : Nat} (hi : i < p.2.1.length) (hj : j < p.2.1.length), i < j → p.2.1[i].2.2.1 = p.2.1[j].2.2.1 → False := fun hi hj hij e => by
  have := hp _ _ hi hj hij
  unfold clash at this
  rw [e] at this
  simp at this
 rcases Nat.lt_trichotomy i j with c | c | c
 ·exact (key hi hj c h).elim
 ·subst c; rfl
 ·exact (key hj hi c h.symm).elim
theorem Qgf : ∀ (r : List Int) (k : Nat) (l : List TwoD) (j : Nat), k + r.length ≤ l.length → pgAt (QbF k r l) j = if k ≤ j ∧ j < k + r.length then (r.getD (j - k) 0, 7, ()) else pgAt l j
 | [], k, l, j, _ => by rw [if_neg (by simp only [List.length_nil]; omega)]; rfl
 | p :: r, k, l, j, h => by
  simp only [List.length_cons] at h
  rw [QbF, Qgf r (k + 1) _ j (by rw [List.length_set]; omega)]
  simp only [List.length_cons]
  by_cases e : j = k
  ·subst e
   rw [if_neg (by omega), if_pos (by omega), Nat.sub_self]
   exact Qdb (by omega)
  ·by_cases c : k + 1 ≤ j ∧ j < k + 1 + r.length
   ·rw [if_pos c, if_pos (by omega), show j - k = (j - (k + 1)) + 1 by omega]; rfl
   ·rw [if_neg c, if_neg (by omega)]; exact Qco (Ne.symm e)
theorem QnL (j : Nat) : pgAt Qbw j = (-1, 0, ()) := by
 match j with
 | 0 | 1 | 2 | 3 | 4 | 5 | 6 | 7 => rfl
 | n + 8 => rfl
theorem QcK {x : QE} {g k : Int} : QaU x g k = true ↔ (x.1 = g ∧ x.2.2.2.1 = k) ∨ (x.2.1 = g ∧ x.2.2.2.2.1 = k) := by
 unfold QaU
 simp
theorem Qru {l o : QE} : clash l o = false ↔ o.2.2.1 ≠ l.2.2.1 ∧ ¬ (QaU o l.1 l.2.2.2.1 = true) ∧ ¬ (QaU o l.2.1 l.2.2.2.2.1 = true) := by
 unfold clash
 simp [Bool.or_eq_false_iff]
theorem Qgz {z x : QE} (h : clash z x = false) {g k : Int} (hx : QaU x g k = true) : QaU z g k = false := by
 obtain ⟨_, h1, h2⟩ := Qru.1 h
 rw [← Bool.not_eq_true]
 intro hz
 rcases QcK.1 hz with ⟨a, b⟩ | ⟨a, b⟩
 ·exact h1 (by rw [a, b]; exact hx)
 ·exact h2 (by rw [a, b]; exact hx)
def QdJ (x : QE) : Prop := x.1 ≠ x.2.1 ∧ (5 ≤ x.2.2.2.1 ∧ x.2.2.2.1 ≤ 6) ∧ (5 ≤ x.2.2.2.2.1 ∧ x.2.2.2.2.1 ≤ 6)
theorem QfZ {g : Int} {x : QE} (hx : QdJ x) {l : List TwoD} (hl : l.length = 8) (k : Nat) : pgAt (Qdd g x l) k = if x.1 = g ∧ x.2.2.2.1 = (k : Int) then (x.2.2.1, 3, ()) else if x.2.1 = g ∧ x.2.2.2.2.1 = (k : Int) then (x.2.2.1, 1, ()) else pgAt l k := by
 obtain ⟨h0, h1, h2⟩ := hx
 unfold Qdd
 dsimp only
 by_cases a : x.1 = g
 ·have b : ¬ x.2.1 = g := fun b => h0 (a.trans b.symm)
  rw [if_neg b, if_pos a, if_neg (c := x.2.1 = g ∧ _) (fun c => b c.1)]
  by_cases c : x.2.2.2.1 = (k : Int)
  ·rw [if_pos ⟨a, c⟩, show x.2.2.2.1.toNat = k by omega]; exact Qdb (by omega)
  ·rw [if_neg (fun d => c d.2)]; exact Qco (by omega)
 ·rw [if_neg a, if_neg (c := x.1 = g ∧ _) (fun c => a c.1)]
  by_cases b : x.2.1 = g
  ·rw [if_pos b]
   by_cases c : x.2.2.2.2.1 = (k : Int)
   ·rw [if_pos ⟨b, c⟩, show x.2.2.2.2.1.toNat = k by omega]; exact Qdb (by omega)
   ·rw [if_neg (fun d => c d.2)]; exact Qco (by omega)
  ·rw [if_neg b, if_neg (fun c => b c.1)]
theorem Qde {g : Int} {k : Nat} : ∀ (r : List QE) (l : List TwoD), l.length = 8 → (∀ x ∈ r, QdJ x) → (∀ x ∈ r, QaU x g (k : Int) = false) → pgAt (QaI g r l) k = pgAt l k
 | [], _, _, _, _ => rfl
 | x :: r, l, hl, h1, h2 => by
  rw [QaI, Qde r _ (by rw [Qbu]; exact hl) (fun y hy => h1 y (List.mem_cons_of_mem _ hy)) (fun y hy => h2 y (List.mem_cons_of_mem _ hy)), QfZ (h1 x (by simp)) hl]
  have := h2 x (by simp)
  have : ¬ QaU x g (k : Int) = true := by rw [this]; simp
  rw [QcK] at this
  rw [if_neg fun c => this (.inl c), if_neg fun c => this (.inr c)]
theorem Qhc {g : Int} {x : QE} : ∀ (r : List QE) (l : List TwoD), l.length = 8 → (∀ y ∈ r, QdJ y) → r.Pairwise (fun o l => clash l o = false) → x ∈ r → x.1 = g → pgAt (QaI g r l) x.2.2.2.1.toNat = (x.2.2.1, 3, ())
 | y :: r, l, hl, h1, h2, hx, hg => by
  rw [List.pairwise_cons] at h2
  rw [QaI]
  rcases List.mem_cons.1 hx with rfl | hx
  ·have b := h1 x (by simp)
   have e : ((x.2.2.2.1.toNat : Nat) : Int) = x.2.2.2.1 := by have := b.2.1; omega
   rw [Qde r _ (by rw [Qbu]; exact hl) (fun y hy => h1 y (List.mem_cons_of_mem _ hy)) (fun z hz => Qgz (h2.1 z hz) (QcK.2 (.inl ⟨hg, e.symm⟩))), QfZ b hl, if_pos ⟨hg, e.symm⟩]
  ·exact Qhc r _ (by rw [Qbu]; exact hl) (fun y hy => h1 y (List.mem_cons_of_mem _ hy)) h2.2 hx hg
theorem Qjz {g : Int} {x : QE} : ∀ (r : List QE) (l : List TwoD), l.length = 8 → (∀ y ∈ r, QdJ y) → r.Pairwise (fun o l => clash l o = false) → x ∈ r → x.2.1 = g → pgAt (QaI g r l) x.2.2.2.2.1.toNat = (x.2.2.1, 1, ())
 | y :: r, l, hl, h1, h2, hx, hg => by
  rw [List.pairwise_cons] at h2
  rw [QaI]
  rcases List.mem_cons.1 hx with rfl | hx
  ·have b := h1 x (by simp)
   have e : ((x.2.2.2.2.1.toNat : Nat) : Int) = x.2.2.2.2.1 := by have := b.2.2; omega
   rw [Qde r _ (by rw [Qbu]; exact hl) (fun y hy => h1 y (List.mem_cons_of_mem _ hy)) (fun z hz => Qgz (h2.1 z hz) (QcK.2 (.inr ⟨hg, e.symm⟩))), QfZ b hl, if_neg (fun c => b.1 (c.1.trans hg.symm)), if_pos ⟨hg, e.symm⟩]
  ·exact Qjz r _ (by rw [Qbu]; exact hl) (fun y hy => h1 y (List.mem_cons_of_mem _ hy)) h2.2 hx hg
theorem QdV {g : Int} {k : Nat} : ∀ (r : List QE) (l : List TwoD), l.length = 8 → (∀ y ∈ r, QdJ y) → pgAt (QaI g r l) k = pgAt l k ∨
  (∃ x ∈ r, x.1 = g ∧ x.2.2.2.1 = (k : Int) ∧ pgAt (QaI g r l) k = (x.2.2.1, 3, ())) ∨ (∃ x ∈ r, x.2.1 = g ∧ x.2.2.2.2.1 = (k : Int) ∧ pgAt (QaI g r l) k = (x.2.2.1, 1, ()))
 | [], _, _, _ => .inl rfl
 | y :: r, l, hl, h1 => by
  rw [QaI]
  rcases QdV (k := k) r (Qdd g y l) (by rw [Qbu]; exact hl) (fun y hy => h1 y (List.mem_cons_of_mem _ hy)) with e | ⟨x, hx, e⟩ | ⟨x, hx, e⟩
  ·rw [e, QfZ (h1 y (by simp)) hl]
   by_cases a : y.1 = g ∧ y.2.2.2.1 = (k : Int)
   ·rw [if_pos a]; exact .inr (.inl ⟨y, by simp, a.1, a.2, rfl⟩)
   ·rw [if_neg a]
    by_cases b : y.2.1 = g ∧ y.2.2.2.2.1 = (k : Int)
    ·rw [if_pos b]; exact .inr (.inr ⟨y, by simp, b.1, b.2, rfl⟩)
    ·rw [if_neg b]; exact .inl rfl
  ·exact .inr (.inl ⟨x, List.mem_cons_of_mem _ hx, e⟩)
  ·exact .inr (.inr ⟨x, List.mem_cons_of_mem _ hx, e⟩)
theorem Qbf {p : PolD} (hok : OkPol p) : ∀ x ∈ p.2.1, QdJ x := fun x hx => by
 have := Qcf hok x hx
 exact ⟨this.1.2.2, this.2.2.1, this.2.2.2⟩
theorem Qdz {p : PolD} {g : Int} (hok : OkPol p) (hg : isG p g = true) : 1 ≤ (ownL p g).length ∧ (ownL p g).length ≤ 5 := by
 have := hok.own1 _ (Qcr hok hg)
 exact ⟨this.1, this.2.1⟩
theorem own8 (p : PolD) (g : Int) : (QbF 0 (ownL p g) Qbw).length = 8 := by rw [QeT]; rfl
theorem QkN {p : PolD} {g : Int} (hok : OkPol p) (hg : isG p g = true) {k : Nat} (hk : k < (ownL p g).length) : pgAt (pgM p g) k = ((ownL p g).getD k 0, 7, ()) := by
 have h5 := (Qdz hok hg).2
 unfold pgM
 rw [Qde _ _ (own8 p g) (Qbf hok) (fun x hx => ?_), Qgf _ _ _ _ (by show 0 + (ownL p g).length ≤ 8; omega), if_pos (by omega), Nat.sub_zero]
 have hx := Qbf hok x hx
 rw [← Bool.not_eq_true, QcK]
 have := hx.2
 omega
theorem QeU {p : PolD} {g : Int} (hok : OkPol p) (hg : isG p g = true) {x : QE} (hx : x ∈ p.2.1) (h : x.1 = g) : pgAt (pgM p g) x.2.2.2.1.toNat = (x.2.2.1, 3, ()) := Qhc _ _ (own8 p g) (Qbf hok) (Qga hok) hx h
theorem Qsu {p : PolD} {g : Int} (hok : OkPol p) (hg : isG p g = true) {x : QE} (hx : x ∈ p.2.1) (h : x.2.1 = g) : pgAt (pgM p g) x.2.2.2.2.1.toNat = (x.2.2.1, 1, ()) := Qjz _ _ (own8 p g) (Qbf hok) (Qga hok) hx h
theorem QeC {p : PolD} {g : Int} (hok : OkPol p) (hg : isG p g = true) {k : Nat} (h0 : 0 ≤ (pgAt (pgM p g) k).1) : (k < (ownL p g).length ∧ pgAt (pgM p g) k = ((ownL p g).getD k 0, 7, ())) ∨
  (∃ x ∈ p.2.1, x.1 = g ∧ x.2.2.2.1 = (k : Int) ∧ pgAt (pgM p g) k = (x.2.2.1, 3, ())) ∨ (∃ x ∈ p.2.1, x.2.1 = g ∧ x.2.2.2.2.1 = (k : Int) ∧ pgAt (pgM p g) k = (x.2.2.1, 1, ())) := by
 have h5 := (Qdz hok hg).2
 rcases QdV (g := g) (k := k) p.2.1 (QbF 0 (ownL p g) Qbw) (own8 p g) (Qbf hok) with e | e | e
 ·refine .inl ?_
  have e : pgAt (pgM p g) k = pgAt (QbF 0 (ownL p g) Qbw) k := e
  rw [e, Qgf _ _ _ _ (by show 0 + (ownL p g).length ≤ 8; omega)] at h0 ⊢
  by_cases c : 0 ≤ k ∧ k < 0 + (ownL p g).length
  ·rw [if_pos c] at h0 ⊢
   exact ⟨by omega, by rw [Nat.sub_zero]⟩
  ·rw [if_neg c, QnL] at h0
   exact absurd h0 (by decide)
 ·exact .inr (.inl e)
 ·exact .inr (.inr e)
theorem Qey {p : PolD} {g : Int} {k : Nat} (hk : k < (ownL p g).length) : (ownL p g).getD k 0 ∈ ownL p g := Qao hk
theorem Qnn {p : PolD} {g : Int} (hok : OkPol p) (hg : isG p g = true) (i j : Nat) (h0 : 0 ≤ (pgAt (pgM p g) i).1) (he : (pgAt (pgM p g) i).1 = (pgAt (pgM p g) j).1) : i = j := by
 have hm := Qcr hok hg
 have nd := List.pairwise_iff_getElem.1 ((QjN hok).1 _ hm)
 have lf := fun {x : QE} (hx : x ∈ p.2.1) => QgI hok hx hm
 have sep := fun {x : QE} (hx : x ∈ p.2.1) => (Qbf hok x hx).1
 rcases QeC hok hg h0 with ⟨a1, a2⟩ | ⟨x, hx, a1, a2, a3⟩ | ⟨x, hx, a1, a2, a3⟩ <;> rcases QeC hok hg (k := j) (by omega) with ⟨b1, b2⟩ | ⟨y, hy, b1, b2, b3⟩ | ⟨y, hy, b1, b2, b3⟩
 ·rw [a2, b2] at he
  dsimp only at he
  rw [gget a1, gget b1] at he
  rcases Nat.lt_trichotomy i j with c | c | c
  ·exact (nd i j a1 b1 c he).elim
  ·exact c
  ·exact (nd j i b1 a1 c he.symm).elim
 ·rw [a2, b3] at he; exact (lf hy (he ▸ Qey a1)).elim
 ·rw [a2, b3] at he; exact (lf hy (he ▸ Qey a1)).elim
 ·rw [a3, b2] at he; exact (lf hx (he.symm ▸ Qey b1)).elim
 ·rw [a3, b3] at he
  obtain rfl := Qdv hok hx hy he
  omega
 ·rw [a3, b3] at he
  obtain rfl := Qdv hok hx hy he
  exact (sep hx (a1.trans b1.symm)).elim
 ·rw [a3, b2] at he; exact (lf hx (he.symm ▸ Qey b1)).elim
 ·rw [a3, b3] at he
  obtain rfl := Qdv hok hx hy he
  exact (sep hx (b1.trans a1.symm)).elim
 ·rw [a3, b3] at he
  obtain rfl := Qdv hok hx hy he
  omega
theorem QqN (p : PolD) (g : Int) {k : Nat} (hk : k < 8) : pgAt (pgM p g) k ∈ pgM p g := Qao (by rw [QaZ]; exact hk)
theorem QkP {p : PolD} {g : Int} (hok : OkPol p) (hg : isG p g = true) {k : Nat} (hk : k < 8) : -1 ≤ (pgAt (pgM p g) k).1 ∧ (pgAt (pgM p g) k).1 ≤ 23 := (Qio hok hg _ (QqN p g hk)).1
theorem QqC {p : PolD} {g t : Int} (hok : OkPol p) (hg : isG p g = true) (ht : isG p t = true) (hne : t ≠ g) {P : Int} (h0 : 0 ≤ P) (hP : P ∈ ownL p g ∨ ∃ y ∈ p.2.1, y.1 = g ∧ y.2.2.1 = P) : ∀ q ∈ pgM p t, q.1 = P → iand .i64 q.2.1 2 = 0 := by
 intro q hq e
 obtain ⟨k, hk, rfl⟩ := List.mem_iff_getElem.1 hq
 have ek : (pgM p t)[k] = pgAt (pgM p t) k := (gget hk).symm
 rw [ek] at e ⊢
 rcases QeC hok ht (k := k) (by omega) with ⟨a1, a2⟩ | ⟨x, hx, a1, a2, a3⟩ | ⟨x, hx, a1, a2, a3⟩
 ·rw [a2] at e
  have hm : P ∈ ownL p t := e ▸ Qey a1
  rcases hP with hP | ⟨y, hy, c1, c2⟩
  ·exact (Qpq hok hg ht hne hP hm).elim
  ·exact (QgI hok hy (Qcr hok ht) (c2 ▸ hm)).elim
 ·rw [a3] at e
  dsimp only at e
  rcases hP with hP | ⟨y, hy, c1, c2⟩
  ·exact (QgI hok hx (Qcr hok hg) (e ▸ hP)).elim
  ·obtain rfl := Qdv hok hx hy (e.trans c2.symm)
   exact (hne (a1.symm.trans c1)).elim
 ·rw [a3]; show iand .i64 1 2 = 0; decide
theorem QrJ {l : List TwoD} {m m' : List Int} (h : MemW l m m') {P : Int} (h0 : 0 ≤ P) (hq : ∀ q ∈ l, q.1 = P → iand .i64 q.2.1 2 = 0) : pg m' P = pg m P := by
 unfold pg
 apply List.ext_getElem?
 intro i
 by_cases hi : i < 8
 ·simp only [List.getElem?_take, if_pos hi, List.getElem?_drop]
  apply Decidable.byContradiction
  intro hne
  obtain ⟨q, hm, e1, e2⟩ := h _ hne
  exact e2 (hq q hm (by rw [e1]; omega))
 ·rw [List.getElem?_eq_none (by simp; omega), List.getElem?_eq_none (by simp; omega)]
theorem QfL {l : List TwoD} (hl : l.length = 8) {k : Nat} (hk : k < 8) : pgAt (QaG l) k = if 0 ≤ (pgAt l k).1 then ((k : Int), (pgAt l k).2) else pgAt l k := by
 have h1 : k < l.length := by omega
 rw [pgAt, gget (by rw [Qbk]; exact h1), Qgv h1, pgAt, gget h1]
theorem Qpy {p : PolD} {g : Int} (hok : OkPol p) (hg : isG p g = true) {m m' : List Int} (h : ∀ k, k < 8 → 0 ≤ (pgAt (pgM p g) k).1 → pg m (pgAt (pgM p g) k).1 = pg m' (k : Nat)) : Sim (pgM p g) (QaG (pgM p g)) m m' := by
 have hl := QaZ p g
 have ha := fun {k : Nat} (hk : k < 8) => QfL hl hk
 refine ⟨⟨hl, by rw [Qbk]; exact hl⟩, fun k hk => ?_, fun k hk => ?_, fun k hk => ⟨(QkP hok hg hk).2, ?_⟩, fun i j _ _ => Qnn hok hg i j, fun i j hi hj h0 he => ?_, fun k hk h0 => ?_⟩
 ·rw [ha hk]; split <;> rfl
 ·rw [ha hk]; split
  ·rename_i c; exact ⟨fun _ => by dsimp only; omega, fun _ => c⟩
  ·exact Iff.rfl
 ·have := (QkP hok hg hk).2
  rw [ha hk]; split
  ·dsimp only; omega
  ·exact this
 ·rw [ha hi] at h0 he
  rw [ha hj] at he
  split at h0
  ·rename_i c
   rw [if_pos c] at he
   split at he
   ·dsimp only at he; omega
   ·dsimp only at he; omega
  ·rename_i c; exact absurd h0 c
 ·rw [ha hk, if_pos h0]; exact h k hk h0
theorem QkO {s ws : List Int} {k : Nat} {j : Int} (hs : s.length = 64) (hk : k < 8) (hw : ws.length = 8) (hj : 0 ≤ j ∧ j < 8) : pg (Qdj s k ws) j = if j = (k : Int) then ws else pg s j := by
 obtain ⟨J, rfl⟩ : ∃ J : Nat, j = (J : Int) := ⟨j.toNat, by omega⟩
 unfold pg Qdj
 rw [Int.toNat_natCast]
 apply List.ext_getElem?
 intro i
 by_cases hi : i < 8
 ·rw [List.getElem?_take, if_pos hi, List.getElem?_drop]
  by_cases c : J = k
  ·subst c
   rw [if_pos rfl, List.getElem?_append_right (by simp; omega), List.length_take, Nat.min_eq_left (by omega), Nat.add_sub_cancel_left, List.getElem?_append_left (by omega)]
  ·rw [if_neg (by omega), List.getElem?_take, if_pos hi, List.getElem?_drop]
   by_cases d : J < k
   ·rw [List.getElem?_append_left (by simp; omega), List.getElem?_take, if_pos (by omega)]
   ·rw [List.getElem?_append_right (by simp; omega), List.length_take, Nat.min_eq_left (by omega), List.getElem?_append_right (by omega), List.getElem?_drop, hw]
    congr 1
    omega
 ·rw [List.getElem?_eq_none (by simp; omega)]
  split
  ·rw [List.getElem?_eq_none (by omega)]
  ·rw [List.getElem?_eq_none (by simp; omega)]
def calm (h : QX) : QX := (h.1, h.2.1, h.2.2.1, h.2.2.2.1, h.2.2.2.2.1, false, h.2.2.2.2.2.2)
theorem Qrt {h k : QX} (e : calm h = calm k) (er : h.2.2.2.2.2.1 = k.2.2.2.2.2.1) : h = k := by
 obtain ⟨a1, a2, a3, a4, a5, a6, a7⟩ := h
 obtain ⟨b1, b2, b3, b4, b5, b6, b7⟩ := k
 unfold calm at e
 simp only [Pmi] at e er
 obtain ⟨rfl, rfl, rfl, rfl, rfl, _, rfl⟩ := e
 rw [er]
structure Rl (x : QB) (s : Qav) (g : Int) : Prop where
 hk : HK x
 hs : Qbj s = 0
 hg : isG x.1 g = true
 pages : s.2.1 = QaG (pgM x.1 g)
 hart : calm s.1 = calm (x.2.2.1.getD g.toNat QV)
 own : ∀ k, k < (ownL x.1 g).length → pg x.2.1 ((ownL x.1 g).getD k 0) = pg s.2.2.1 (k : Nat)
 gives : ∀ y ∈ x.1.2.1, y.1 = g → pg x.2.1 y.2.2.1 = pg s.2.2.1 y.2.2.2.1
theorem QeN {m : List Int} {g : Int} {j : Int} : ∀ {r : List QE} {q : List Int}, q.length = 64 → (∀ y ∈ r, QdJ y ∧ (pg m y.2.2.1).length = 8) → 0 ≤ j ∧ j < 8 → (∀ y ∈ r, y.2.1 = g → y.2.2.2.2.1 ≠ j) → pg (Qen m g r q) j = pg q j
 | [], _, _, _, _, _ => rfl
 | y :: r, q, hq, h1, hj, h2 => by
  have b := h1 y (by simp)
  rw [Qen]
  by_cases c : y.2.1 = g
  ·rw [if_pos c, QeN (QcA hq (by have := b.1.2.2; omega) b.2) (fun z hz => h1 z (List.mem_cons_of_mem _ hz)) hj (fun z hz => h2 z (List.mem_cons_of_mem _ hz)), QkO hq (by have := b.1.2.2; omega) b.2 hj, if_neg (by have := h2 y (by simp) c; have := b.1.2.2; omega)]
  ·rw [if_neg c]
   exact QeN hq (fun z hz => h1 z (List.mem_cons_of_mem _ hz)) hj (fun z hz => h2 z (List.mem_cons_of_mem _ hz))
theorem QnR {m : List Int} {g : Int} {x : QE} : ∀ {r : List QE} {q : List Int}, q.length = 64 → (∀ y ∈ r, QdJ y ∧ (pg m y.2.2.1).length = 8) → r.Pairwise (fun o l => clash l o = false) → x ∈ r → x.2.1 = g → pg (Qen m g r q) x.2.2.2.2.1 = pg m x.2.2.1
 | y :: r, q, hq, h1, h2, hx, hg => by
  have b := h1 y (by simp)
  rw [List.pairwise_cons] at h2
  have hp : (Qdj q y.2.2.2.2.1.toNat (pg m y.2.2.1)).length = 64 := QcA hq (by have := b.1.2.2; omega) b.2
  rw [Qen]
  rcases List.mem_cons.1 hx with rfl | hx
  ·have := b.1.2.2
   rw [if_pos hg, QeN hp (fun z hz => h1 z (List.mem_cons_of_mem _ hz)) (by omega) (fun z hz zg ze => ?_), QkO hq (by omega) b.2 (by omega), if_pos (by omega)]
   have := Qgz (h2.1 z hz) (QcK (x := x) (g := g) (k := x.2.2.2.2.1).2 (.inr ⟨hg, rfl⟩))
   rw [QcK.2 (.inr ⟨zg, ze⟩)] at this
   cases this
  ·exact QnR (by split; exact hp; exact hq) (fun z hz => h1 z (List.mem_cons_of_mem _ hz)) h2.2 hx hg
section
variable {x : QB} {s : Qav} {g : Int}
theorem Rl.lanes (h : Rl x s g) : ∀ y ∈ x.1.2.1, QdJ y ∧ (pg x.2.1 y.2.2.1).length = 8 := fun y hy => ⟨Qbf h.hk.ok y hy, (QnY h.hk hy).2.2.1⟩
theorem Rl.sim (h : Rl x s g) : Sim (pgM x.1 g) (QaG (pgM x.1 g)) x.2.1 (Qen x.2.1 g x.1.2.1 s.2.2.1) := by
 have hok := h.hk.ok
 have hm : s.2.2.1.length = 64 := (Qdl h.hs).2.2.2
 refine Qpy hok h.hg fun k hk h0 => ?_
 have keep : (∀ y ∈ x.1.2.1, y.2.1 = g → y.2.2.2.2.1 ≠ (k : Int)) → pg (Qen x.2.1 g x.1.2.1 s.2.2.1) ((k : Nat) : Int) = pg s.2.2.1 (k : Nat) := fun c => QeN hm h.lanes (by omega) c
 rcases QeC hok h.hg h0 with ⟨a1, a2⟩ | ⟨y, hy, a1, a2, a3⟩ | ⟨y, hy, a1, a2, a3⟩
 ·have h5 := (Qdz hok h.hg).2
  rw [a2, keep fun y hy _ => by have := (Qbf hok y hy).2.2; omega]
  exact h.own k a1
 ·rw [a3, keep fun z hz zg ze => ?_]
  ·rw [← a2]; exact h.gives y hy a1
  ·have q1 := QeU hok h.hg hy a1
   have q2 := Qsu hok h.hg hz zg
   rw [a2] at q1
   rw [ze, q1] at q2
   exact absurd (congrArg (fun w : TwoD => w.2.1) q2) (by dsimp only; decide)
 ·rw [a3, ← a2]
  exact (QnR hm h.lanes (Qga hok) hy a1).symm
theorem QhS (x : QB) (g : Int) : calm ((QbJ x).2.2.1.getD g.toNat QV) = calm ((QO x).getD g.toNat QV) := by
 unfold QbJ
 dsimp only
 split
 ·unfold QdD
  by_cases e : (QU x).ring.toNat = g.toNat
  ·rw [e]
   by_cases hl : g.toNat < (QO x).length
   ·rw [Qdb hl]; rfl
   ·rw [List.set_eq_of_length_le (by omega)]
  ·rw [Qco e]
 ·rfl
theorem HK.stepP (h : HK x) : StepP (pgM x.1 (turnG x)) { (Mc.of (x.2.2.1.getD (turnG x).toNat QV) x.2.1) with ring := -1, fall := -1 } (QU x) := by
 have := (Qsa (QaZ x.1 (turnG x)) (Mc.of (x.2.2.1.getD (turnG x).toNat QV) x.2.1) (h.okS.d.2)).1
 exact this
theorem HK.stays (h : HK x) (hg : isG x.1 g = true) (hne : turnG x ≠ g) {P : Int} (h0 : 0 ≤ P) (hP : P ∈ ownL x.1 g ∨ ∃ y ∈ x.1.2.1, y.1 = g ∧ y.2.2.1 = P) : pg (QbJ x).2.1 P = pg x.2.1 P :=
 QrJ (l := pgM x.1 (turnG x)) (m := x.2.1) (m' := (QU x).m) h.stepP.mem h0 (QqC h.ok hg h.turn.2.2.1 hne h0 hP)
theorem HK.ownP (h : HK x) (hg : isG x.1 g = true) {k : Nat} (hk : k < (ownL x.1 g).length) : 0 ≤ (ownL x.1 g).getD k 0 := ((h.ok.own1 _ (Qcr h.ok hg)).2.2 _ (Qey hk)).1
theorem Rl.next (h : Rl x s g) (hc : x.2.2.2.2.2.1 < 1000000) : Rl (QbJ x) (if turnG x = g then Qsy x s g else s) g := by
 have hok := h.hk.ok
 by_cases ht : turnG x = g
 ·rw [if_pos ht]
  have e1 : (Qhk x s g).1 = x.2.2.1.getD g.toNat QV := Qrt h.hart rfl
  have e2 : (Qhk x s g).2.1 = QaG (pgM x.1 g) := h.pages
  have hsim : Sim (pgM x.1 g) (QaG (pgM x.1 g)) x.2.1 (Qhk x s g).2.2.1 := h.sim
  have key : Like (pgM x.1 g) (QaG (pgM x.1 g)) (QU x) (Qgp x s g) := by
   unfold QU Qgp
   rw [e1, e2, ht]
   exact Qiy (s := Mc.of (x.2.2.1.getD g.toNat QV) x.2.1) hsim
  obtain ⟨k1, k2⟩ := key
  have eh : (Qgp x s g).hart = (QU x).hart := by rw [k1]; rfl
  refine ⟨h.hk.next hc, Qrb g h.hk h.hs, h.hg, h.pages, ?_, fun k hk => ?_, fun y hy hyg => ?_⟩
  ·rw [QhS]
   have := (h.hk.guest h.hg).1
   show calm (Qgp x s g).hart = _
   rw [eh]
   unfold QO
   rw [ht, Qdb (by omega)]
  ·have h5 := (Qdz hok h.hg).2
   have hk : k < (ownL x.1 g).length := hk
   have q := k2.same k (by omega) (by rw [QkN hok h.hg hk]; exact h.hk.ownP h.hg hk)
   rw [QfL (QaZ x.1 g) (by omega), QkN hok h.hg hk, if_pos (by exact h.hk.ownP h.hg hk)] at q
   exact q
  ·have hy : y ∈ x.1.2.1 := hy
   have b := Qbf hok y hy
   have e5 : ((y.2.2.2.1.toNat : Nat) : Int) = y.2.2.2.1 := by have := b.2.1; omega
   have p0 := (Qcf hok y hy).2.1.1
   have q := k2.same y.2.2.2.1.toNat (by have := b.2.1; omega) (by rw [QeU hok h.hg hy hyg]; exact p0)
   rw [QfL (QaZ x.1 g) (by have := b.2.1; omega), QeU hok h.hg hy hyg, if_pos (by exact p0)] at q
   rw [e5] at q
   exact q
 ·rw [if_neg ht]
  refine ⟨h.hk.next hc, h.hs, h.hg, h.pages, ?_, fun k hk => ?_, fun y hy hyg => ?_⟩
  ·rw [QhS]
   unfold QO
   have a := QbX.1 h.hg
   have b := QbX.1 h.hk.turn.2.2.1
   rw [Qco (by omega)]
   exact h.hart
  ·have hk : k < (ownL x.1 g).length := hk
   rw [← h.own k hk]
   exact h.hk.stays h.hg ht (h.hk.ownP h.hg hk) (.inl (Qey hk))
  ·rw [← h.gives y hy hyg]
   exact h.hk.stays h.hg ht (Qcf hok y hy).2.1.1 (.inr ⟨y, hy, hyg, rfl⟩)
end
structure Shut (p : PolD) (A : Int → Prop) : Prop where
 lane : ∀ y ∈ p.2.1, A y.2.1 → A y.1
 bell : ∀ b ∈ p.2.2.1, A b.2.1 → A b.1
structure Tw (x y : QB) (A : Int → Prop) : Prop where
 hx : HK x
 hy : HK y
 pol : x.1 = y.1
 slot : x.2.2.2.1 = y.2.2.2.1
 left : x.2.2.2.2.1 = y.2.2.2.2.1
 clock : x.2.2.2.2.2.1 = y.2.2.2.2.2.1
 shut : Shut x.1 A
 hart : ∀ g, isG x.1 g = true → A g → x.2.2.1.getD g.toNat QV = y.2.2.1.getD g.toNat QV
 own : ∀ g, isG x.1 g = true → A g → ∀ P ∈ ownL x.1 g, pg x.2.1 P = pg y.2.1 P
 gives : ∀ l ∈ x.1.2.1, A l.1 → pg x.2.1 l.2.2.1 = pg y.2.1 l.2.2.1
section
variable {x y : QB} {A : Int → Prop} {g : Int}
theorem Tw.turnEq (h : Tw x y A) : turnG y = turnG x := by
 unfold turnG
 rw [← h.pol, ← h.slot]
theorem Qjw (x : QB) (g : Int) (hne : Qcl x = true → (QU x).ring.toNat ≠ g.toNat) : (QbJ x).2.2.1.getD g.toNat QV = (QO x).getD g.toNat QV := by
 unfold QbJ
 dsimp only
 split
 ·rename_i hr
  unfold QdD
  rw [Qco (hne hr)]
 ·rfl
theorem QfW {g : Int} (h : HK x) (hg : isG x.1 g = true) (hne : turnG x ≠ g) : (QO x).getD g.toNat QV = x.2.2.1.getD g.toNat QV := by
 have a := QbX.1 hg
 have b := QbX.1 h.turn.2.2.1
 unfold QO
 rw [Qco (by omega)]
theorem QlD (h : HK x) : (QO x).getD (turnG x).toNat QV = (QU x).hart := by
 have := (h.guest h.turn.2.2.1).1
 unfold QO
 rw [Qdb (by omega)]
theorem Tw.sim (h : Tw x y A) (ha : A (turnG x)) : Sim (pgM x.1 (turnG x)) (pgM x.1 (turnG x)) x.2.1 y.2.1 := by
 have hok := h.hx.ok
 have ht := h.hx.turn.2.2.1
 have hl := QaZ x.1 (turnG x)
 refine ⟨⟨hl, hl⟩, fun _ _ => rfl, fun _ _ => Iff.rfl, fun k hk => ⟨(QkP hok ht hk).2, (QkP hok ht hk).2⟩, fun i j _ _ => Qnn hok ht i j, fun i j _ _ => Qnn hok ht i j, fun k hk h0 => ?_⟩
 rcases QeC hok ht h0 with ⟨a1, a2⟩ | ⟨l, hl, a1, a2, a3⟩ | ⟨l, hl, a1, a2, a3⟩
 ·rw [a2]; exact h.own _ ht ha _ (Qey a1)
 ·rw [a3]; exact h.gives l hl (a1 ▸ ha)
 ·rw [a3]; exact h.gives l hl (h.shut.lane l hl (a1 ▸ ha))
theorem Tw.next (h : Tw x y A) (hc : x.2.2.2.2.2.1 < 1000000) : Tw (QbJ x) (QbJ y) A := by
 have hok := h.hx.ok
 have te := h.turnEq
 have hc' : y.2.2.2.2.2.1 < 1000000 := by rw [← h.clock]; exact hc
 have slots : Qfk x.1.2.2.2.1 x.2.2.2.1 x.2.2.2.2.1 = Qfk y.1.2.2.2.1 y.2.2.2.1 y.2.2.2.2.1 := by rw [h.pol, h.slot, h.left]
 have ok' := h.hy.ok
 have stay : ∀ g, isG x.1 g = true → turnG x ≠ g → ∀ P, 0 ≤ P → (P ∈ ownL x.1 g ∨ ∃ l ∈ x.1.2.1, l.1 = g ∧ l.2.2.1 = P) → pg x.2.1 P = pg y.2.1 P → pg (QbJ x).2.1 P = pg (QbJ y).2.1 P := fun g hg hne P h0 hP e => by
  rw [h.hx.stays hg hne h0 hP, h.hy.stays (by rw [← h.pol]; exact hg) (by rw [te]; exact hne) h0 (by rw [← h.pol]; exact hP)]
  exact e
 have own0 : ∀ g, isG x.1 g = true → ∀ P ∈ ownL x.1 g, 0 ≤ P := fun g hg P hP => ((hok.own1 _ (Qcr hok hg)).2.2 P hP).1
 by_cases ha : A (turnG x)
 ·have ht := h.hx.turn.2.2.1
  have key : Like (pgM x.1 (turnG x)) (pgM x.1 (turnG x)) (QU x) (QU y) := by
   unfold QU
   rw [te, ← h.pol, ← h.hart _ ht ha]
   exact Qiy (s := Mc.of (x.2.2.1.getD (turnG x).toNat QV) x.2.1) (h.sim ha)
  obtain ⟨k1, k2⟩ := key
  have eh : (QU y).hart = (QU x).hart := by rw [k1]; rfl
  have er : (QU y).ring = (QU x).ring := by rw [k1]
  have eb : Qcl y = Qcl x := by unfold Qcl; rw [te, er, h.pol]
  have hh : ∀ g, isG x.1 g = true → A g → (QO x).getD g.toNat QV = (QO y).getD g.toNat QV := fun g hg ag => by
   by_cases e : turnG x = g
   ·subst e
    rw [QlD h.hx, ← te, QlD h.hy, eh]
   ·rw [QfW h.hx hg e, QfW h.hy (by rw [← h.pol]; exact hg) (by rw [te]; exact e)]
    exact h.hart g hg ag
  refine ⟨h.hx.next hc, h.hy.next hc', h.pol, congrArg (·.1) slots, congrArg (·.2) slots, congrArg (· + 1) h.clock, h.shut, fun g hg ag => ?_, fun g hg ag P hP => ?_, fun l hl al => ?_⟩
  ·have hg : isG x.1 g = true := hg
   show (if Qcl x = true then QdD (QU x).ring (QO x) else QO x).getD g.toNat QV = (if Qcl y = true then QdD (QU y).ring (QO y) else QO y).getD g.toNat QV
   rw [eb, er]
   by_cases c : Qcl x = true
   ·rw [if_pos c, if_pos c]
    unfold QdD
    by_cases e : (QU x).ring.toNat = g.toNat
    ·have hlt := (h.hx.guest hg).1
     have hlt' := (h.hy.guest (g := g) (by rw [← h.pol]; exact hg)).1
     rw [e, Qdb (by rw [QbN]; omega), Qdb (by rw [QbN]; omega), hh g hg ag]
    ·rw [Qco e, Qco e, hh g hg ag]
   ·rw [if_neg c, if_neg c, hh g hg ag]
  ·have hg : isG x.1 g = true := hg
   have hP : P ∈ ownL x.1 g := hP
   by_cases e : turnG x = g
   ·subst e
    obtain ⟨k, hk, ek⟩ := List.mem_iff_getElem.1 hP
    have p0 := h.hx.ownP hg hk
    have h5 := (Qdz hok hg).2
    have q := k2.same k (by omega) (by rw [QkN hok hg hk]; exact p0)
    rw [QkN hok hg hk] at q
    dsimp only at q
    rw [gget hk, ek] at q
    exact q
   ·exact stay g hg e P (own0 g hg P hP) (.inl hP) (h.own g hg ag P hP)
  ·have hl : l ∈ x.1.2.1 := hl
   have b := Qcf hok l hl
   by_cases e : turnG x = l.1
   ·have q := k2.same l.2.2.2.1.toNat (by have := b.2.2.1; omega) (by rw [QeU hok ht hl e.symm]; exact b.2.1.1)
    rw [QeU hok ht hl e.symm] at q
    exact q
   ·exact stay l.1 b.1.1 e _ b.2.1.1 (.inr ⟨l, hl, rfl, rfl⟩) (h.gives l hl al)
 ·have ring : ∀ z : QB, HK z → z.1 = x.1 → turnG z = turnG x → ∀ g, A g → isG x.1 g = true → Qcl z = true → (QU z).ring.toNat ≠ g.toNat := fun z hz ez et g ag hg hr e => by
   have hk := QbX.1 (QkR hz hr)
   have hg' := QbX.1 hg
   have e : (QU z).ring = g := by omega
   unfold Qcl at hr
   obtain ⟨b, hb, eb⟩ := List.any_eq_true.1 hr
   unfold Qeh at eb
   simp only [Bool.and_true, Bool.and_eq_true, beq_iff_eq] at eb
   rw [ez] at hb
   have := h.shut.bell b hb (by rw [← eb.2, e]; exact ag)
   rw [← eb.1, et] at this
   exact ha this
  refine ⟨h.hx.next hc, h.hy.next hc', h.pol, congrArg (·.1) slots, congrArg (·.2) slots, congrArg (· + 1) h.clock, h.shut, fun g hg ag => ?_, fun g hg ag P hP => ?_, fun l hl al => ?_⟩
  ·have hg : isG x.1 g = true := hg
   have hne : turnG x ≠ g := fun e => ha (e ▸ ag)
   have hg' : isG y.1 g = true := by rw [← h.pol]; exact hg
   rw [Qjw x g (ring x h.hx rfl rfl g ag hg), Qjw y g (ring y h.hy h.pol.symm te g ag hg), QfW h.hx hg hne, QfW h.hy hg' (by rw [te]; exact hne)]
   exact h.hart g hg ag
  ·have hg : isG x.1 g = true := hg
   have hP : P ∈ ownL x.1 g := hP
   exact stay g hg (fun e => ha (e ▸ ag)) P (own0 g hg P hP) (.inl hP) (h.own g hg ag P hP)
  ·have hl : l ∈ x.1.2.1 := hl
   have b := Qcf hok l hl
   exact stay l.1 b.1.1 (fun e => ha (e ▸ al)) _ b.2.1.1 (.inr ⟨l, hl, rfl, rfl⟩) (h.gives l hl al)
end
theorem QdE {α β : Type} {f : Nat → α → Option β} : ∀ {m : List α} {i : Nat}, (∀ j x, x ∈ m → f j x = none) → scan f i m = none
 | [], _, _ => rfl
 | x :: r, i, h => by
  simp only [scan]
  rw [h i x (by simp)]
  exact QdE fun j y hy => h j y (List.mem_cons_of_mem _ hy)
def imgH (own : List Int) : Nat → List Int → List Int → List Int
 | _, [], m => m
 | i, w :: r, m => imgH own (i + 1) r (m.set (8 * (own.getD (i / 8) 0).toNat + i % 8) (wd w))
def Qck : List (List Int) → List (List Int) → List Int → List Int
 | own :: ro, im :: ri, m => Qck ro ri (imgH own 0 im m)
 | _, _, m => m
theorem QhU (own : List Int) : ∀ (im : List Int) (i : Nat) (m : List Int), (imgH own i im m).length = m.length
 | [], _, _ => rfl
 | w :: r, i, m => by rw [imgH, QhU own r]; simp
theorem QgJ : ∀ (L I : List (List Int)) (m : List Int), (Qck L I m).length = m.length
 | [], _, _ => by simp [Qck]
 | _ :: _, [], _ => by simp [Qck]
 | own :: ro, im :: ri, m => by rw [Qck, QgJ ro ri, QhU]
theorem Qpw {m : List Int} {i : Nat} {w : Int} (h : ∀ x ∈ m, WW x) (hw : WW w) : ∀ x ∈ m.set i w, WW x := fun x hx => by
 rcases List.mem_or_eq_of_mem_set hx with hx | rfl
 ·exact h x hx
 ·exact hw
theorem QhV (own : List Int) : ∀ (im : List Int) (i : Nat) (m : List Int), (∀ x ∈ m, WW x) → ∀ x ∈ imgH own i im m, WW x
 | [], _, _, h => h
 | w :: r, i, m, h => QhV own r (i + 1) _ (Qpw h (Qag w))
theorem Qhe : ∀ (L I : List (List Int)) (m : List Int), (∀ x ∈ m, WW x) → ∀ x ∈ Qck L I m, WW x
 | [], _, _, h => by simpa [Qck] using h
 | _ :: _, [], _, h => by simpa [Qck] using h
 | own :: ro, im :: ri, m, h => Qhe ro ri _ (QhV own im 0 m h)
def QgY (q : List Int) : QX := (List.replicate 16 0, 0, List.replicate 11 0, false, false, false, 0, q, [], ())
def Qjh (p : PolD) (I J : List (List Int)) : QB := (p, Qck p.1 I (List.replicate 192 0), J.map QgY, 0, (p.2.2.2.1.getD 0 (0, 0, ())).2.1, 0, ())
theorem Qqi {q : List Int} (h : OkQ q) : hartM (QgY q) = 0 := by
 unfold hartM QgY
 dsimp only
 rw [if_pos ⟨by simp, by simp, by simp⟩, if_pos ⟨by decide, by decide, by decide, Qaj.2 h.words, by decide⟩, if_pos ⟨h.len, by simp⟩, if_pos (by decide), if_pos (by decide)]
theorem Qkg {p : PolD} (hok : OkPol p) : QaY p 0 = (0, (p.2.2.2.1.getD 0 (0, 0, ())).2.1) := by
 unfold QaY
 dsimp only
 rw [Int.zero_emod, Qmt (QdF hok) hok.plan.1]
 rfl
theorem QjT (n : Nat) : ∀ x ∈ List.replicate n (0 : Int), WW x := fun x hx => by
 rw [(List.mem_replicate.1 hx).2]; unfold WW; omega
theorem QpV {p : PolD} {I J : List (List Int)} (hp : polM p = 0) (hj : J.length = p.1.length) (hq : ∀ q ∈ J, OkQ q) : HK (Qjh p I J) := by
 have hok := Qge hp
 refine ⟨hp, ⟨?_, ?_⟩, ?_, fun h hh => ?_, by show (0 : Int) ≤ 0 ∧ (0 : Int) ≤ 1000000; omega, ?_, ?_⟩
 ·show QG (Qck p.1 I (List.replicate 192 0)) = 0
  unfold QG
  rw [QgJ, if_pos (by simp), if_pos (Qaj.2 (Qhe _ _ _ (QjT _)))]
 ·show (Qck p.1 I (List.replicate 192 0)).length = 192
  rw [QgJ]; simp
 ·show (J.map QgY).length = p.1.length
  rw [List.length_map]; exact hj
 ·obtain ⟨q, hm, rfl⟩ := List.mem_map.1 (show h ∈ J.map QgY from hh)
  exact Qqi (hq q hm)
 ·show (0 : Int) = (QaY p 0).1
  rw [Qkg hok]
 ·show (p.2.2.2.1.getD 0 (0, 0, ())).2.1 = (QaY p 0).2
  rw [Qkg hok]
theorem Qlh {p : PolD} {g : Int} (hok : OkPol p) (hg : isG p g = true) : QaO (QaG (pgM p g)) 8 = 0 := by
 have hl := QaZ p g
 unfold QaO
 rw [if_pos (by decide), if_pos (by rw [Qbk]; exact hl), QdE]
 intro _ q hq
 obtain ⟨k, hk, rfl⟩ := List.mem_iff_getElem.1 hq
 rw [Qbk, hl] at hk
 have ek : (QaG (pgM p g))[k] = pgAt (QaG (pgM p g)) k := (gget (by rw [Qbk, hl]; exact hk)).symm
 have hi := Qio hok hg _ (QqN p g hk)
 rw [ek, QfL hl hk]
 unfold Qgg
 by_cases h0 : 0 ≤ (pgAt (pgM p g) k).1
 ·rw [if_pos h0]
  dsimp only
  rw [if_pos (QbK.2 (by omega)), if_pos (QbK.2 hi.2), if_neg (by omega)]
 ·rw [if_neg h0]
  have e : pgAt (pgM p g) k = (-1, 0, ()) := by
   rcases QdV (g := g) (k := k) p.2.1 (QbF 0 (ownL p g) Qbw) (own8 p g) (Qbf hok) with e | ⟨x, hx, _, _, e⟩ | ⟨x, hx, _, _, e⟩
   ·have e : pgAt (pgM p g) k = pgAt (QbF 0 (ownL p g) Qbw) k := e
    have h5 := (Qdz hok hg).2
    rw [Qgf _ _ _ _ (by show 0 + (ownL p g).length ≤ 8; omega)] at e
    by_cases c : 0 ≤ k ∧ k < 0 + (ownL p g).length
    ·rw [if_pos c] at e
     rw [e] at h0
     exact absurd ((hok.own1 _ (Qcr hok hg)).2.2 _ (Qao (l := ownL p g) (k := k - 0) (d := 0) (by omega))).1 h0
    ·rw [if_neg c, QnL] at e
     exact e
   ·have e : pgAt (pgM p g) k = (x.2.2.1, 3, ()) := e
    rw [e] at h0
    exact absurd (Qcf hok x hx).2.1.1 h0
   ·have e : pgAt (pgM p g) k = (x.2.2.1, 1, ()) := e
    rw [e] at h0
    exact absurd (Qcf hok x hx).2.1.1 h0
  rw [e]
  decide
theorem bdLt {n x : Int} (h : Bd n x) (hn : 1 ≤ n) : 0 ≤ x ∧ x < n := by unfold Bd at h; omega
structure OwnI (L : List (List Int)) (page : Int) : Prop where
 one : ∀ l ∈ L, 1 ≤ l.length ∧ l.length ≤ 3
 up : L.flatten.Pairwise (· < ·)
 bd : ∀ x ∈ L.flatten, 0 ≤ x ∧ x < page
 top : 0 ≤ page ∧ page ≤ 2 + 3 * (L.length : Int)
theorem OwnI.snoc {L : List (List Int)} {page : Int} (h : OwnI L page) {own : List Int} {K : Nat} (hK : 1 ≤ K ∧ K ≤ 3) (hl : own.length = K) (hu : own.Pairwise (· < ·)) (hb : ∀ x ∈ own, page ≤ x ∧ x < page + (K : Int)) : OwnI (L ++ [own]) (page + (K : Int)) := by
 have hp := h.top
 have ef : (L ++ [own]).flatten = L.flatten ++ own := by simp
 refine ⟨fun l hm => ?_, ?_, fun x hx => ?_, ?_⟩
 ·rcases List.mem_append.1 hm with hm | hm
  ·exact h.one l hm
  ·rw [List.mem_singleton.1 hm]; omega
 ·rw [ef, List.pairwise_append]
  exact ⟨h.up, hu, fun a ha b hb' => by have := (h.bd a ha).2; have := (hb b hb').1; omega⟩
 ·rw [ef] at hx
  rcases List.mem_append.1 hx with hx | hx
  ·have := h.bd x hx; omega
  ·have := hb x hx; omega
 ·rw [List.length_append, List.length_singleton]; omega
theorem Qjm : ∀ {l seen : List Int}, l.Nodup → (∀ x ∈ l, x ∉ seen) → dupM seen l = false
 | [], _, _, _ => rfl
 | x :: r, seen, h, hs => by
  rw [List.nodup_cons] at h
  simp only [dupM, Bool.or_eq_false_iff]
  refine ⟨by simpa using hs x (by simp), Qjm h.2 fun y hy hm => ?_⟩
  rcases List.mem_append.1 hm with hm | hm
  ·exact hs y (List.mem_cons_of_mem _ hy) hm
  ·rw [List.mem_singleton.1 hm] at hy; exact h.1 hy
theorem OwnI.owns {L : List (List Int)} {page : Int} (h : OwnI L page) (hl : 1 ≤ L.length ∧ L.length ≤ 3) : QdA L = 0 := by
 have hp := h.top
 have e : scan (fun (_ : Nat) l => Go.Proofs.YtmoninjbahccoaaGreatDoor.own1 l) 0 L = none := QdE fun _ l hm => by
  have := h.one l hm
  unfold Go.Proofs.YtmoninjbahccoaaGreatDoor.own1
  rw [if_pos (by omega)]
  refine QdE fun _ x hx => ?_
  have := h.bd x (List.mem_flatten.2 ⟨l, hm, hx⟩)
  rw [if_pos (QbK.2 (by omega))]
 unfold QdA
 rw [if_pos hl, e, Qjm (h.up.imp fun h => Int.ne_of_lt h) (by simp)]
 rfl
theorem QsZ {X p : PolD} {s : SrcD} {page g : Int} (K : Nat) (hp : 0 ≤ page ∧ page ≤ 1000) (hK : K ≤ 10) :
  Dr (L_m_8 (((), ((), ((), (page, (g, (([] : List Int), ((K : Int), ()))))))), ((X, (p, (s, ()))), ()))) fun o => ∃ own : List Int, o = .inl (((), ((), ((), (page + (K : Int), (g, (own, ())))))), ((X, (p, (s, ()))), ())) ∧ own.length = K ∧ own.Pairwise (· < ·) ∧ ∀ x ∈ own, page ≤ x ∧ x < page + (K : Int) := by
 refine QaN (fun m u => ∃ own : List Int, u = (((), ((), ((), (page + (own.length : Int), (g, (own, ((m : Int), ()))))))), ((X, (p, (s, ()))), ())) ∧ own.length + m = K ∧ own.Pairwise (· < ·) ∧ ∀ x ∈ own, page ≤ x ∧ x < page + (own.length : Int)) ?_ K _ ⟨[], by simp, by simp, by simp, by simp⟩ (by rw [Qai]; omega)
 rintro rec m _ ⟨own, rfl, hm, hu, hb⟩ ih
 unfold l_m_8
 dsimp only
 by_cases c : 0 < m
 ·rw [if_pos (by rw [QL]; omega)]
  refine Dr.guard (by simp; omega) ?_
  rw [Qq (by omega) (by omega), Qq (by omega) (by omega)]
  refine ih (m - 1) _ (by omega) ⟨own ++ [page + (own.length : Int)], ?_, by simp; omega, ?_, fun x hx => ?_⟩
  ·rw [List.length_append, List.length_singleton, show page + (own.length : Int) + 1 = page + ((own.length + 1 : Nat) : Int) by omega, show ((m : Int) - 1) = ((m - 1 : Nat) : Int) by omega]
  ·rw [List.pairwise_append]
   exact ⟨hu, by simp, fun a ha b hb' => by rw [List.mem_singleton.1 hb']; exact (hb a ha).2⟩
  ·rw [List.length_append, List.length_singleton]
   rcases List.mem_append.1 hx with hx | hx
   ·have := hb x hx; omega
   ·rw [List.mem_singleton.1 hx]; omega
 ·obtain rfl : m = 0 := by omega
  rw [if_neg (by rw [QL]; omega)]
  have : own.length = K := by omega
  subst this
  exact Dr.ret ⟨own, rfl, rfl, hu, hb⟩
theorem QsY {X : PolD} {s : SrcD} {k page : Int} (G : Nat) (hG : 1 ≤ G ∧ G ≤ 3) (hp : 0 ≤ page ∧ page ≤ 2) (hs : Sr s k) (hk : k ≤ 1000000) :
  Dr (L_m_4 (((), ((), ((), (page, ((G : Int), ()))))), ((X, ((([] : List (List Int)), (([] : List QE), (([] : List TwoD), (([] : List TwoD), ())))), (s, ()))), ()))) fun o => ∃ (L : List (List Int)) (page' : Int) (s' : SrcD),
   o = .inl (((), ((), ((), (page', ())))), ((X, ((L, (([] : List QE), (([] : List TwoD), (([] : List TwoD), ())))), (s', ()))), ())) ∧ Sr s' (k + 3) ∧ L.length = G ∧ OwnI L page' := by
 have hk0 := hs.pos
 refine QaN (fun m u => ∃ (L : List (List Int)) (page' : Int) (s' : SrcD), u = (((), ((), ((), (page', ((m : Int), ()))))), ((X, ((L, (([] : List QE), (([] : List TwoD), (([] : List TwoD), ())))), (s', ()))), ())) ∧ Sr s' (k + (G : Int) - (m : Int)) ∧ L.length + m = G ∧ OwnI L page') ?_ G _
  ⟨[], page, s, rfl, hs.le (by omega), by simp, ⟨by simp, by simp, by simp, by simp; omega⟩⟩ (by rw [Qai]; omega)
 rintro rec m _ ⟨L, pa, s', rfl, hs', hl, hI⟩ ih
 unfold l_m_4
 dsimp only
 have hpa := hI.top
 by_cases c : 0 < m
 ·rw [if_pos (by rw [QL]; omega)]
  refine (Qbp hs' (by omega) _).bind fun r6 h6 => ?_
  have hb := bdLt h6.2 (by omega)
  have e : IntKind.i64.wrap (1 + (r6.1.1 : Int)) = ((r6.1.1.toNat + 1 : Nat) : Int) := by rw [Qq (by omega) (by omega)]; omega
  rw [e]
  refine (QsZ (r6.1.1.toNat + 1) (by omega) (by omega)).bind fun z hz => ?_
  obtain ⟨own, rfl, ho, hu, hbd⟩ := hz
  dsimp only
  refine Dr.guard (by simp; omega) ?_
  rw [Qq (by omega) (by omega)]
  refine ih (m - 1) _ (by omega) ⟨L ++ [own], pa + ((r6.1.1.toNat + 1 : Nat) : Int), r6.2.1, ?_, h6.1.le (by omega), by simp; omega, hI.snoc (by omega) ho hu hbd⟩
  rw [show ((m : Int) - 1) = ((m - 1 : Nat) : Int) by omega]
 ·obtain rfl : m = 0 := by omega
  rw [if_neg (by rw [QL]; omega)]
  exact Dr.ret ⟨L, pa, s', rfl, hs'.le (by omega), by omega, hI⟩
theorem QrU {X : PolD} {L : List (List Int)} {s : SrcD} {k page : Int} (hL : QdA L = 0) (hl : 1 ≤ L.length ∧ L.length ≤ 3) (hl2 : ∀ l ∈ L, l.length ≤ 1048576) (hp : 0 ≤ page ∧ page ≤ 100) (K : Nat) (hK : K ≤ 3) (hs : Sr s k) (hk : k ≤ 1000000) :
  Dr (L_m_15 (((), ((), ((), (page, (((L.length : Nat) : Int), ((K : Int), ())))))), ((X, ((L, (([] : List QE), (([] : List TwoD), (([] : List TwoD), ())))), (s, ()))), ()))) fun o => ∃ (ls : List QE) (s' : SrcD),
   o = .inl (((), ((), ((), (((L.length : Nat) : Int), ())))), ((X, ((L, (ls, (([] : List TwoD), (([] : List TwoD), ())))), (s', ()))), ())) ∧ Sr s' (k + 12) ∧ ls.length ≤ 3 ∧ QbB (L, ls, [], [], ()) = none := by
 have hk0 := hs.pos
 refine QaN (fun m u => ∃ (ls : List QE) (pa : Int) (s' : SrcD), u = (((), ((), ((), (pa, (((L.length : Nat) : Int), ((m : Int), ())))))), ((X, ((L, (ls, (([] : List TwoD), (([] : List TwoD), ())))), (s', ()))), ())) ∧ Sr s' (k + 4 * (3 - (m : Int))) ∧ ls.length + m ≤ 3 ∧ (0 ≤ pa ∧ pa + (m : Int) ≤ 103) ∧ QbB (L, ls, [], [], ()) = none) ?_ K _
  ⟨[], page, s, rfl, hs.le (by omega), by simp; omega, by omega, rfl⟩ (by rw [Qai]; omega)
 rintro rec m _ ⟨ls, pa, s', rfl, hs', hm, hpa, hI⟩ ih
 unfold l_m_15
 dsimp only
 by_cases c : 0 < m
 ·rw [if_pos (by rw [QL]; omega)]
  refine Dr.guard (by simp; omega) ?_
  refine (Qbp hs' (by omega) _).bind fun r26 h26 => (Qbp h26.1 (by omega) _).bind fun r27 h27 => (Qbp h27.1 (by omega) _).bind fun r28 h28 => (Qbp h28.1 (by omega) _).bind fun r30 h30 => ?_
  have em : ((m : Int) - 1) = ((m - 1 : Nat) : Int) := by omega
  dsimp only [List.nil_append]
  refine Dr.guard (by simp; omega) ?_
  rw [Qq (n := pa + 1) (by omega) (by omega), Qq (n := (m : Int) - 1) (by omega) (by omega)]
  generalize hx : ((r26.1.1, (r27.1.1, (pa, (IntKind.i64.wrap (5 + r28.1.1), (IntKind.i64.wrap (5 + r30.1.1), ()))))) : QE) = x
  have hlen : (ls ++ [x]).length = ls.length + 1 := by simp
  have skip : Dr (rec (((), ((), ((), (pa, (((L.length : Nat) : Int), ((m : Int) - 1, ())))))), ((X, ((L, (ls, (([] : List TwoD), (([] : List TwoD), ())))), (r30.2.1, ()))), ()))) fun o => ∃ (ls : List QE) (s' : SrcD),
    o = .inl (((), ((), ((), (((L.length : Nat) : Int), ())))), ((X, ((L, (ls, (([] : List TwoD), (([] : List TwoD), ())))), (s', ()))), ())) ∧ Sr s' (k + 12) ∧ ls.length ≤ 3 ∧ QbB (L, ls, [], [], ()) = none :=
   ih (m - 1) _ (by omega) ⟨ls, pa, r30.2.1, by rw [em], h30.1.le (by omega), by omega, by omega, hI⟩
  refine Dr.step (Qmo (L, ls ++ [x], [], [], ()) (by dsimp only; omega) hl2) (Dr.ite (fun _ => ?_) fun _ => skip)
  refine Dr.step (QkT (L, ls ++ [x], [], [], ()) (by dsimp only; omega) hl2 (by dsimp only; omega)) (Dr.ite (fun h0 => ?_) fun _ => skip)
  refine ih (m - 1) _ (by omega) ⟨ls ++ [x], pa + 1, r30.2.1, by rw [em], h30.1.le (by omega), by omega, by omega, ?_⟩
  dsimp only at h0
  rw [if_pos (by simp; omega)] at h0
  cases hM : QbB (L, ls ++ [x], [], [], ()) with
  | none => rfl
  | some c' =>
   rw [hM] at h0
   exact absurd (by simpa using h0) (QjB hM)
 ·obtain rfl : m = 0 := by omega
  rw [if_neg (by rw [QL]; omega)]
  exact Dr.ret ⟨ls, s', rfl, hs'.le (by omega), by omega, hI⟩
theorem QrV {X : PolD} {L : List (List Int)} {ls : List QE} {s : SrcD} {k : Int} (hl : 1 ≤ L.length ∧ L.length ≤ 3) (K : Nat) (hK : K ≤ 3) (hs : Sr s k) (hk : k ≤ 1000000) :
  Dr (L_m_23 (((), ((), ((), (((L.length : Nat) : Int), ((K : Int), ()))))), ((X, ((L, (ls, (([] : List TwoD), (([] : List TwoD), ())))), (s, ()))), ()))) fun o => ∃ (bs : List TwoD) (s' : SrcD),
   o = .inl (((), ((), ((), (((L.length : Nat) : Int), ())))), ((X, ((L, (ls, (bs, (([] : List TwoD), ())))), (s', ()))), ())) ∧ Sr s' (k + 6) ∧ bs.length ≤ 1 ∧ ∀ b ∈ bs, (0 ≤ b.1 ∧ b.1 < (L.length : Int)) ∧ (0 ≤ b.2.1 ∧ b.2.1 < (L.length : Int)) ∧ b.1 ≠ b.2.1 := by
 have hk0 := hs.pos
 refine QaN (fun m u => ∃ (bs : List TwoD) (s' : SrcD), u = (((), ((), ((), (((L.length : Nat) : Int), ((m : Int), ()))))), ((X, ((L, (ls, (bs, (([] : List TwoD), ())))), (s', ()))), ())) ∧ Sr s' (k + 2 * (3 - (m : Int))) ∧ m ≤ 3 ∧ bs.length ≤ 1 ∧ ∀ b ∈ bs, (0 ≤ b.1 ∧ b.1 < (L.length : Int)) ∧ (0 ≤ b.2.1 ∧ b.2.1 < (L.length : Int)) ∧ b.1 ≠ b.2.1) ?_ K _
  ⟨[], s, rfl, hs.le (by omega), hK, by simp, by simp⟩ (by rw [Qai]; omega)
 rintro rec m _ ⟨bs, s', rfl, hs', hm, hb1, hI⟩ ih
 unfold l_m_23
 dsimp only
 by_cases c : 0 < m
 ·rw [if_pos (by rw [QL]; omega)]
  refine (Qbp hs' (by omega) _).bind fun r44 h44 => (Qbp h44.1 (by omega) _).bind fun r45 h45 => ?_
  have em : ((m : Int) - 1) = ((m - 1 : Nat) : Int) := by omega
  have b1 := bdLt h44.2 (by omega)
  have b2 := bdLt h45.2 (by omega)
  rw [Qq (n := (m : Int) - 1) (by omega) (by omega)]
  have skip : ∀ {Q}, (∀ x, (∃ (bs : List TwoD) (s' : SrcD), x = (((), ((), ((), (((L.length : Nat) : Int), (((m - 1 : Nat) : Int), ()))))), ((X, ((L, (ls, (bs, (([] : List TwoD), ())))), (s', ()))), ())) ∧ Sr s' (k + 2 * (3 - ((m - 1 : Nat) : Int))) ∧ m - 1 ≤ 3 ∧ bs.length ≤ 1 ∧ ∀ b ∈ bs, (0 ≤ b.1 ∧ b.1 < (L.length : Int)) ∧ (0 ≤ b.2.1 ∧ b.2.1 < (L.length : Int)) ∧ b.1 ≠ b.2.1) → Dr (rec x) Q) → Dr (rec (((), ((), ((), (((L.length : Nat) : Int), ((m : Int) - 1, ()))))), ((X, ((L, (ls, (bs, (([] : List TwoD), ())))), (r45.2.1, ()))), ()))) Q := fun h =>
   h _ ⟨bs, r45.2.1, by rw [em], h45.1.le (by omega), by omega, hb1, hI⟩
  refine Dr.ite (fun hne => Dr.ite (fun h0 => Dr.guard (by simp; omega) ?_) fun _ => skip fun x hx => ih (m - 1) x (by omega) hx) fun _ => skip fun x hx => ih (m - 1) x (by omega) hx
  rw [QL] at h0
  have e0 : bs = [] := List.eq_nil_of_length_eq_zero (by omega)
  subst e0
  refine ih (m - 1) _ (by omega) ⟨[(r44.1.1, (r45.1.1, ()))], r45.2.1, by rw [em]; rfl, h45.1.le (by omega), by omega, by simp, fun b hb => ?_⟩
  rw [List.mem_singleton.1 hb]
  exact ⟨b1, b2, by simpa using hne⟩
 ·obtain rfl : m = 0 := by omega
  rw [if_neg (by rw [QL]; omega)]
  exact Dr.ret ⟨bs, s', rfl, hs'.le (by omega), hb1, hI⟩
theorem QrW {X : PolD} {L : List (List Int)} {ls : List QE} {bs : List TwoD} {s : SrcD} {k : Int} (hl : 1 ≤ L.length ∧ L.length ≤ 3) (K : Nat) (hK : K ≤ 4) (hs : Sr s k) (hk : k ≤ 1000000) :
  Dr (L_m_29 (((), ((), ((), (((L.length : Nat) : Int), ((K : Int), ()))))), ((X, ((L, (ls, (bs, (([] : List TwoD), ())))), (s, ()))), ()))) fun o => ∃ (pl : List TwoD) (s' : SrcD),
   o = .inl (((), ((), ())), ((X, ((L, (ls, (bs, (pl, ())))), (s', ()))), ())) ∧ Sr s' (k + 8) ∧ pl.length = K ∧ ∀ b ∈ pl, (0 ≤ b.1 ∧ b.1 < (L.length : Int)) ∧ 1 ≤ b.2.1 ∧ b.2.1 ≤ 9 := by
 have hk0 := hs.pos
 refine QaN (fun m u => ∃ (pl : List TwoD) (s' : SrcD), u = (((), ((), ((), (((L.length : Nat) : Int), ((m : Int), ()))))), ((X, ((L, (ls, (bs, (pl, ())))), (s', ()))), ())) ∧ Sr s' (k + 2 * (4 - (m : Int))) ∧ pl.length + m = K ∧ ∀ b ∈ pl, (0 ≤ b.1 ∧ b.1 < (L.length : Int)) ∧ 1 ≤ b.2.1 ∧ b.2.1 ≤ 9) ?_ K _
  ⟨[], s, rfl, hs.le (by omega), by simp, by simp⟩ (by rw [Qai]; omega)
 rintro rec m _ ⟨pl, s', rfl, hs', hm, hI⟩ ih
 unfold l_m_29
 dsimp only
 by_cases c : 0 < m
 ·rw [if_pos (by rw [QL]; omega)]
  refine (Qbp hs' (by omega) _).bind fun r57 h57 => (Qbp h57.1 (by omega) _).bind fun r58 h58 => ?_
  have em : ((m : Int) - 1) = ((m - 1 : Nat) : Int) := by omega
  have b1 := bdLt h57.2 (by omega)
  have b2 := bdLt h58.2 (by omega)
  rw [Qq (n := (m : Int) - 1) (by omega) (by omega), Qq (n := 1 + (r58.1.1 : Int)) (by omega) (by omega)]
  refine Dr.guard (by simp; omega) ?_
  refine ih (m - 1) _ (by omega) ⟨pl ++ [(r57.1.1, (1 + (r58.1.1 : Int), ()))], r58.2.1, by rw [em], h58.1.le (by omega), by simp; omega, fun b hb => ?_⟩
  rcases List.mem_append.1 hb with hb | hb
  ·exact hI b hb
  ·rw [List.mem_singleton.1 hb]; exact ⟨b1, by dsimp only; omega, by dsimp only; omega⟩
 ·obtain rfl : m = 0 := by omega
  rw [if_neg (by rw [QL]; omega)]
  exact Dr.ret ⟨pl, s', rfl, hs'.le (by omega), by omega, hI⟩
theorem Qpt {L : List (List Int)} {ls : List QE} {bs pl : List TwoD} (h1 : QdA L = 0) (h2 : ls.length ≤ 3) (h3 : QbB (L, ls, [], [], ()) = none) (h4 : bs.length ≤ 1)
  (h5 : ∀ b ∈ bs, (0 ≤ b.1 ∧ b.1 < (L.length : Int)) ∧ (0 ≤ b.2.1 ∧ b.2.1 < (L.length : Int)) ∧ b.1 ≠ b.2.1) (h6 : 1 ≤ pl.length ∧ pl.length ≤ 4) (h7 : ∀ b ∈ pl, (0 ≤ b.1 ∧ b.1 < (L.length : Int)) ∧ 1 ≤ b.2.1 ∧ b.2.1 ≤ 9) : polM (L, ls, bs, pl, ()) = 0 := by
 have e1 : QbB (L, ls, bs, pl, ()) = none := h3
 have e2 : Qfv (L, ls, bs, pl, ()) = none := by
  unfold Qfv
  match bs, h4, h5 with
  | [], _, _ => rfl
  | [b], _, h5 =>
   have := h5 b (by simp)
   simp only [scan]
   unfold QgU Qcj
   rw [if_pos (QbX.2 this.1), if_pos (QbX.2 this.2.1), if_neg this.2.2]
   rfl
 have e3 : QjR (L, ls, bs, pl, ()) = 0 := by
  unfold QjR
  rw [if_pos (by dsimp only; omega), QdE]
  intro _ b hb
  have := h7 b hb
  rw [if_pos (QbX.2 this.1), if_pos (QbK.2 (by omega))]
 unfold polM
 rw [if_neg (by simpa using h1), if_pos (by dsimp only; omega), e1]
 dsimp only
 rw [e2]
 exact e3
theorem QpR {n x : Int} (h : Bd n x) : ∃ K : Nat, x = (K : Int) ∧ ((K : Int) < n ∨ K = 0) := ⟨x.toNat, by unfold Bd at h; omega, by unfold Bd at h; omega⟩
theorem Qnc {s : SrcD} {k : Int} (hs : Sr s k) (hk : k ≤ 900000) : Dr (F_m (s, ())) fun r => Sr r.2.1 (k + 100) ∧ polM r.1.1 = 0 := by
 have hk0 := hs.pos
 unfold F_m
 refine (Qbp hs (by omega) _).bind fun r1 h1 => (QsW h1.1 (by omega) _ _).bind fun r2 h2 => ?_
 have b1 := bdLt h1.2 (by omega)
 obtain ⟨G, eG, hG⟩ : ∃ G : Nat, (r2.1.1 : Int) = (G : Int) ∧ 1 ≤ G ∧ G ≤ 3 := by
  have key : ∀ v : Int, v ∈ [(2 : Int), 3, 3, 1] → ∃ G : Nat, v = (G : Int) ∧ 1 ≤ G ∧ G ≤ 3 := fun v hv => by
   simp only [List.mem_cons, List.not_mem_nil, or_false] at hv
   exact ⟨v.toNat, by omega, by omega⟩
  exact key _ h2.2
 rw [eG]
 refine (QsY G hG (by omega) h2.1 (by omega)).bind fun z hz => ?_
 obtain ⟨L, page, s1, rfl, hs1, hl, hI⟩ := hz
 dsimp only
 have hl3 : 1 ≤ L.length ∧ L.length ≤ 3 := by omega
 have hO := hI.owns hl3
 have hp := hI.top
 have hl2 : ∀ l ∈ L, l.length ≤ 1048576 := fun l hm => by have := hI.one l hm; omega
 refine (Qbp hs1 (by omega) _).bind fun r18 h18 => ?_
 obtain ⟨K1, e1, c1⟩ := QpR h18.2
 rw [e1]
 refine (QrU hO hl3 hl2 (by omega) K1 (by omega) h18.1 (by omega)).bind fun z hz => ?_
 obtain ⟨ls, s2, rfl, hs2, hls, hlm⟩ := hz
 dsimp only
 refine (Qbp hs2 (by omega) _).bind fun r41 h41 => ?_
 obtain ⟨K2, e2, c2⟩ := QpR h41.2
 rw [e2]
 refine (QrV hl3 K2 (by omega) h41.1 (by omega)).bind fun z hz => ?_
 obtain ⟨bs, s3, rfl, hs3, hbs, hbm⟩ := hz
 dsimp only
 refine (Qbp hs3 (by omega) _).bind fun r53 h53 => ?_
 obtain ⟨K3, e3, c3⟩ := QpR h53.2
 rw [e3, Qq (by omega) (by omega), show (1 : Int) + (K3 : Int) = ((K3 + 1 : Nat) : Int) by omega]
 refine (QrW hl3 (K3 + 1) (by omega) h53.1 (by omega)).bind fun z hz => ?_
 obtain ⟨pl, s4, rfl, hs4, hpl, hpm⟩ := hz
 exact Dr.ret ⟨hs4.le (by omega), Qpt hO hls hlm hbs hbm (by omega) hpm⟩
def Fit (p : PolD) (I : List (List Int)) : Prop := I.length = p.1.length ∧ ∀ j (h1 : j < p.1.length) (h2 : j < I.length), I[j].length ≤ 8 * p.1[j].length
theorem QoS {p : PolD} {s : SrcD} {k : Int} (hok : OkPol p) (hs : Sr s k) (hk : k ≤ 1000000) : Dr (F_w (s, p, ())) fun r => Sr r.2.1 (k + 4000) ∧ Fit p r.1.1 := by
 have hk0 := hs.pos
 have h3 := hok.own
 unfold F_w
 have key : Dr (L_w_3 (((), ((), (([] : List (List Int)), ((0 : Int), ())))), (((p.1, (p.2.1, (p.2.2.1, (p.2.2.2.1, ())))), (s, ())), ()))) fun o => ∃ (I : List (List Int)) (s' : SrcD), o = .inl ((I, ()), ((s', ()), ())) ∧ Sr s' (k + 4000) ∧ Fit p I := by
  refine QaN (fun m u => ∃ (I : List (List Int)) (s' : SrcD), u = (((), ((), (I, (((I.length : Nat) : Int), ())))), ((p, (s', ())), ())) ∧ Sr s' (k + 1100 * (I.length : Int)) ∧ I.length + m = p.1.length ∧ ∀ j (h1 : j < p.1.length) (h2 : j < I.length), I[j].length ≤ 8 * p.1[j].length) ?_ p.1.length _
   ⟨[], s, rfl, hs.le (by simp), by simp, fun j _ h2 => by simp at h2⟩ (by rw [Qai]; omega)
  rintro rec m _ ⟨I, s', rfl, hs', hm, hI⟩ ih
  unfold l_w_3
  dsimp only
  by_cases c : I.length < p.1.length
  ·have hm0 : p.1[I.length] ∈ p.1 := List.getElem_mem c
   have h5 := hok.own1 _ hm0
   rw [if_pos (lt_t c), if_pos nat0, Qy c]
   rw [Qq (n := (((p.1[I.length]).length : Nat) : Int) * 8) (by omega) (by omega), Qq (n := (((p.1[I.length]).length : Nat) : Int) * 8 + 1) (by omega) (by omega)]
   refine (Qbp hs' (by omega) _).bind fun r9 h9 => ?_
   have b9 := bdLt h9.2 (by omega)
   refine (QrC h9.1 (by omega) r9.1.1 b9.1 (by omega)).bind fun r10 h10 => ?_
   refine Dr.guard (by simp; omega) ?_
   rw [Qah (by omega)]
   refine ih (m - 1) _ (by omega) ⟨I ++ [r10.1.1], r10.2.1, by simp, h10.1.le (by simp; omega), by simp; omega, fun j h1 h2 => ?_⟩
   by_cases cj : j < I.length
   ·rw [List.getElem_append_left cj]; exact hI j h1 cj
   ·have : j = I.length := by simp at h2; omega
    subst this
    rw [List.getElem_concat_length (by rfl)]
    have := h10.2
    omega
  ·rw [if_neg (lt_f c)]
   exact Dr.ret ⟨I, s', rfl, hs'.le (by omega), by omega, hI⟩
 refine key.bind fun z hz => ?_
 obtain ⟨I, s', rfl, hs', hI⟩ := hz
 exact Dr.ret ⟨hs', hI⟩
def FitQ (p : PolD) (J : List (List Int)) : Prop := J.length = p.1.length ∧ ∀ q ∈ J, OkQ q
theorem QrM (n : Nat) : OkQ ([(5 : Int), 6, 7].take n) := ⟨by rw [List.length_take]; simp; omega, fun w hw => by
 have := List.mem_of_mem_take hw
 simp only [List.mem_cons, List.not_mem_nil, or_false] at this
 unfold WW
 omega⟩
theorem Bd.to4 {x : Int} (h : Bd 4 x) : 0 ≤ x ∧ x ≤ 3 := by unfold Bd at h; omega
theorem QiU {p : PolD} {c : List Int} (hok : OkPol p) (hc : Byt ([3] ++ c)) : Dr (F_x (c, p, ())) fun r => Fit p r.1.1 ∧ FitQ p r.1.2.1 := by
 have h3 := hok.own
 have hc1 := hc.2
 unfold F_x
 refine Dr.guard (by have := hc.2; simp at this ⊢; omega) ?_
 refine (Qmm hc).bind fun r2 h2 => (QoS hok h2 (by omega)).bind fun r3 h3' => ?_
 have key : Dr (L_x_5 (((), ((), (r3.1.1, (([] : List (List Int)), ((0 : Int), ()))))), (((p.1, (p.2.1, (p.2.2.1, (p.2.2.2.1, ())))), (r3.2.1, ())), ()))) fun o => ∃ J : List (List Int), o = .inl ((r3.1.1, (J, ())), ((), ())) ∧ FitQ p J := by
  refine QaN (fun m u => ∃ (J : List (List Int)) (s' : SrcD), u = (((), ((), (r3.1.1, (J, (((J.length : Nat) : Int), ()))))), ((p, (s', ())), ())) ∧ Sr s' (4000 + (J.length : Int)) ∧ J.length + m = p.1.length ∧ ∀ q ∈ J, OkQ q) ?_ p.1.length _
   ⟨[], r3.2.1, rfl, h3'.1.le (by simp), by simp, by simp⟩ (by rw [Qai]; omega)
  rintro rec m _ ⟨J, s', rfl, hs', hm, hJ⟩ ih
  unfold l_x_5
  dsimp only
  by_cases c : J.length < p.1.length
  ·rw [if_pos (lt_t c)]
   refine (Qbp hs' (by omega) _).bind fun r6 h6 => ?_
   have b6 := h6.2.to4
   refine Dr.guard ⟨Int.le_refl _, b6.1, by show (r6.1.1 : Int) ≤ 3; exact b6.2⟩ (Dr.guard (by simp; omega) ?_)
   rw [Qah (by omega)]
   refine ih (m - 1) _ (by omega) ⟨J ++ [(([(5 : Int), 6, 7].drop (0 + ((0 : Int)).toNat)).take ((r6.1.1 : Int).toNat - ((0 : Int)).toNat))], r6.2.1, by simp, h6.1.le (by simp; omega), by simp; omega, fun q hq => ?_⟩
   rcases List.mem_append.1 hq with hq | hq
   ·exact hJ q hq
   ·rw [List.mem_singleton.1 hq]
    exact QrM _
  ·rw [if_neg (lt_f c)]
   exact Dr.ret ⟨J, rfl, by omega, hJ⟩
 refine key.bind fun z hz => ?_
 obtain ⟨J, rfl, hJ⟩ := hz
 exact Dr.ret ⟨h3'.2, hJ⟩
theorem Qnd {c : List Int} (hc : Byt c) (hc2 : Byt ([3] ++ c)) : Dr (F_y (c, ())) fun r => polM r.1.1 = 0 ∧ Fit r.1.1 r.1.2.1 ∧ FitQ r.1.1 r.1.2.2.1 := by
 unfold F_y F_n
 refine Dr.bind (Q := fun r => polM r.1.1 = 0) ?_ fun r1 h1 => ?_
 ·exact (Qmm hc).bind fun r1 h1 => (Qnc h1 (by omega)).bind fun r2 h2 => Dr.ret h2.2
 ·exact (QiU (Qge h1) hc2).bind fun r2 h2 => Dr.ret ⟨h1, h2⟩
theorem Qqw {p : PolD} {Z : Int × List Int × Unit} {own im m : List Int} {I : List (List Int)} {n g : Int} (hown : ∀ x ∈ own, 0 ≤ x ∧ x ≤ 23) (hl : im.length ≤ 8 * own.length) (h5 : own.length ≤ 5) (hm : m.length = 192) :
  L_at_14 (((), ((), (m, (own, (I, (n, (g, (im, (((im.length : Nat) : Int), ((0 : Int), ())))))))))), ((p, (Z, ())), ())) = some (.inl (((), ((), (imgH own 0 im m, (I, (n, (g, ())))))), ((p, (Z, ())), ()))) := by
 refine Dr.eq ?_
 refine QaN (fun k u => ∃ (i : Nat) (m' : List Int), u = (((), ((), (m', (own, (I, (n, (g, (im, (((im.length : Nat) : Int), ((i : Int), ())))))))))), ((p, (Z, ())), ())) ∧ k + i = im.length ∧ m'.length = 192 ∧ imgH own i (im.drop i) m' = imgH own 0 im m) ?_ im.length _ ⟨0, m, rfl, by omega, hm, rfl⟩ (by rw [Qai]; omega)
 rintro rec k _ ⟨i, m', rfl, hk, hm', he⟩ ih
 unfold l_at_14
 dsimp only
 by_cases c : i < im.length
 ·have hi8 : i / 8 < own.length := by omega
  have hx := hown _ (Qao (l := own) (k := i / 8) (d := 0) hi8)
  have e1 : Int.tdiv (i : Int) 8 = ((i / 8 : Nat) : Int) := by rw [Int.tdiv_eq_ediv_of_nonneg (by omega)]; omega
  have e2 : Int.tmod (i : Int) 8 = ((i % 8 : Nat) : Int) := by rw [Int.tmod_eq_emod_of_nonneg (by omega)]; omega
  rw [if_pos (lt_t c), if_pos nat0, Qy c, e1, e2, Qq (n := ((i / 8 : Nat) : Int)) (by omega) (by omega), if_pos nat0, Qy hi8]
  rw [gget hi8] at hx
  rw [Qq (n := own[i / 8] * 8) (by omega) (by omega), Qq (n := own[i / 8] * 8 + ((i % 8 : Nat) : Int)) (by omega) (by omega), QdS, Obn, Qah (by omega)]
  refine Dr.gat hm' (by omega) fun _ _ => ih (k - 1) _ (by omega) ⟨i + 1, _, rfl, by omega, by simpa using hm', ?_⟩
  rw [← he, List.drop_eq_getElem_cons c, imgH, gget hi8]
  congr 2
  omega
 ·rw [if_neg (lt_f c)]
  rw [List.drop_of_length_le (by omega)] at he
  exact Dr.ret (by rw [← he]; rfl)
theorem QkB {p : PolD} {I : List (List Int)} (hp : polM p = 0) (hI : Fit p I) : F_at (p, I, ()) = some (((0, (Qck p.1 I (List.replicate 192 0), ())), ()), ()) := by
 have hok := Qge hp
 have h3 := hok.own
 obtain ⟨hI1, hI2⟩ := hI
 refine Dr.eq ?_
 unfold F_at
 refine Dr.step (QfA p (Qhr hok)) (Dr.neg (by rw [hp]; simp) ?_)
 dsimp only
 refine Dr.neg (by rw [hI1]; simp) ?_
 have key : L_at_8 (((), ((), ((List.replicate ((192 : Int)).toNat (QbI (.int .i64))), (I, (((I.length : Nat) : Int), ((0 : Int), ())))))), ((p, (((0 : Int), (([] : List Int), ())), ())), ())) = some (.inl (((), (Qck p.1 I (List.replicate 192 0), ())), ((((0 : Int), (([] : List Int), ())), ()), ()))) := by
  refine Dr.eq ?_
  refine QaN (fun k u => ∃ (g : Nat) (m' : List Int), u = (((), ((), (m', (I, (((I.length : Nat) : Int), ((g : Int), ())))))), ((p, (((0 : Int), (([] : List Int), ())), ())), ())) ∧ k + g = I.length ∧ m'.length = 192 ∧ Qck (p.1.drop g) (I.drop g) m' = Qck p.1 I (List.replicate 192 0)) ?_ I.length _
   ⟨0, _, rfl, by omega, by simp, rfl⟩ (by rw [Qai]; omega)
  rintro rec k _ ⟨g, m', rfl, hk, hm', he⟩ ih
  unfold l_at_8
  dsimp only
  by_cases c : g < I.length
  ·have c' : g < p.1.length := by omega
   have h5 := hok.own1 _ (List.getElem_mem c')
   have hl := hI2 g c' c
   rw [if_pos (lt_t c), if_pos nat0, Qy c, if_pos nat0, Qy c', Qq (n := (((p.1[g]).length : Nat) : Int) * 8) (by omega) (by omega), if_neg (by rw [QL]; omega), Qqw h5.2.2 hl h5.2.1 hm', Obn]
   dsimp only
   rw [Qah (by omega)]
   refine ih (k - 1) _ (by omega) ⟨g + 1, _, rfl, by omega, by rw [QhU]; exact hm', ?_⟩
   rw [← he, List.drop_eq_getElem_cons c, List.drop_eq_getElem_cons c', Qck]
  ·rw [if_neg (lt_f c)]
   rw [List.drop_of_length_le (by omega : I.length ≤ g), List.drop_of_length_le (by omega : p.1.length ≤ g)] at he
   exact Dr.ret (by rw [← he]; rfl)
 exact Dr.step key (Dr.ret rfl)
theorem Qpb {q : List Int} (h : OkQ q) : F_bf (q, ()) = some (((0, QgY q), ()), ()) := by
 have hl := h.len
 refine Dr.eq ?_
 unfold F_bf
 dsimp only
 refine Dr.neg (by rw [QL]; omega) (Dr.step (QaS q (by rw [Qdx]; omega)) (Dr.neg (by rw [Qaj.2 h.words]; simp) (Dr.step (QbV (by omega)) (Dr.ret rfl))))
theorem QmR {p : PolD} {I J : List (List Int)} (hp : polM p = 0) (hI : Fit p I) (hJ : FitQ p J) : F_bg (p, I, J, ()) = some (((0, boxH (Qjh p I J)), ()), ()) := by
 have hok := Qge hp
 have h3 := hok.own
 obtain ⟨hJ1, hJ2⟩ := hJ
 have hpl : 0 < p.2.2.2.1.length := by have := hok.plan; omega
 refine Dr.eq ?_
 unfold F_bg
 refine Dr.step (QkB hp hI) (Dr.neg (by simp) (Dr.neg (by rw [hJ1]; simp) (Dr.step (Qfg hok) ?_)))
 refine Dr.step (v := p.2.2.2.1.getD 0 (0, 0, ())) (QcI (l := p.2.2.2.1) (k := 0) _ hpl) ?_
 dsimp only
 have key : ∀ (Z : Int × QiZ) (M : List Int) (t : Int), L_bg_8 (((), ((), (J, (((J.length : Nat) : Int), ((0 : Int), ()))))), ((Z, (((p.1, (p.2.1, (p.2.2.1, (p.2.2.2.1, (M, (([] : List QX), ((0 : Int), (t, ((0 : Int), ()))))))))) : QiZ), ())), ())) =
   some (.inl (((), ((), ())), ((Z, (((p.1, (p.2.1, (p.2.2.1, (p.2.2.2.1, (M, (J.map QgY, ((0 : Int), (t, ((0 : Int), ()))))))))) : QiZ), ())), ()))) := by
  intro Z M t
  refine Dr.eq ?_
  refine QaN (fun k u => ∃ i : Nat, u = (((), ((), (J, (((J.length : Nat) : Int), ((i : Int), ()))))), ((Z, (((p.1, (p.2.1, (p.2.2.1, (p.2.2.2.1, (M, ((J.take i).map QgY, ((0 : Int), (t, ((0 : Int), ()))))))))) : QiZ), ())), ())) ∧ k + i = J.length) ?_ J.length _ ⟨0, rfl, by omega⟩ (by rw [Qai]; omega)
  rintro rec k _ ⟨i, rfl, hk⟩ ih
  unfold l_bg_8
  dsimp only
  by_cases c : i < J.length
  ·rw [if_pos (lt_t c), if_pos nat0, Qy c, Qpb (hJ2 _ (List.getElem_mem c)), Obn]
   refine Dr.neg (by simp) (Dr.guard (by simp; omega) ?_)
   rw [Qah (by omega)]
   refine ih (k - 1) _ (by omega) ⟨i + 1, ?_, by omega⟩
   rw [QgP c, List.map_append]
   rfl
  ·rw [if_neg (lt_f c), List.take_of_length_le (by omega)]
   exact Dr.ret rfl
 exact Dr.step (key _ _ _) (Dr.ret rfl)
theorem byt3 {c : List Int} (h : ¬ (1048576 : Int) < ((c.length : Nat) : Int)) (hb : ∀ b ∈ c, 0 ≤ b ∧ b ≤ 255) : Byt ([3] ++ c) := ⟨fun b hm => by
 rcases List.mem_append.1 hm with hm | hm
 ·rw [List.mem_singleton.1 hm]; omega
 ·exact hb b hm, by simp; omega⟩
def goH : Nat → QB → QB
 | 0, x => x
 | n + 1, x => goH n (QbJ x)
theorem Qqh : ∀ (n : Nat) {x : QB}, HK x → x.2.2.2.2.2.1 + (n : Int) ≤ 1000000 → HK (goH n x)
 | 0, _, h, _ => h
 | n + 1, x, h, hc => Qqh n (h.next (by omega)) (by show x.2.2.2.2.2.1 + 1 + (n : Int) ≤ 1000000; omega)
theorem QnV : ∀ (n : Nat) (x : QB), (goH n x).1 = x.1
 | 0, _ => rfl
 | n + 1, x => QnV n (QbJ x)
theorem QkE {Z : Int × QiZ} {n : Int} {x : QB} (h : HK x) (hn : 0 ≤ n ∧ n ≤ 500) (hc : x.2.2.2.2.2.1 + n ≤ 1000000) :
  L_dh_8 (((), ((), (n, ((0 : Int), ())))), ((Z, (boxH x, ())), ())) = some (.inl (((), ((), ())), ((Z, (boxH (goH n.toNat x), ())), ()))) := by
 refine Dr.eq ?_
 refine QaN (fun m u => ∃ (k : Int) (y : QB), u = (((), ((), (n, (k, ())))), ((Z, (boxH y, ())), ())) ∧ k + (m : Int) = n ∧ 0 ≤ k ∧ HK y ∧ y.2.2.2.2.2.1 + (m : Int) ≤ 1000000 ∧ goH m y = goH n.toNat x) ?_ n.toNat _ ⟨0, x, rfl, by omega, by omega, h, by omega, rfl⟩ (by rw [Qai]; omega)
 rintro rec m _ ⟨k, y, rfl, hm, hk, hy, hcy, he⟩ ih
 unfold l_dh_8
 dsimp only
 by_cases c : 0 < m
 ·rw [if_pos (by rw [QL]; omega)]
  obtain ⟨m', rfl⟩ : ∃ m', m = m' + 1 := ⟨m - 1, by omega⟩
  refine Dr.step (QlL hy (by omega)) ?_
  dsimp only
  rw [Qq (n := k + 1) (by omega) (by omega)]
  refine ih m' _ (by omega) ⟨k + 1, QbJ y, rfl, by omega, by omega, hy.next (by omega), ?_, he⟩
  show y.2.2.2.2.2.1 + 1 + (m' : Int) ≤ 1000000
  omega
 ·obtain rfl : m = 0 := by omega
  rw [if_neg (by rw [QL]; omega)]
  have he : y = goH n.toNat x := he
  subst he
  exact Dr.ret rfl
theorem QiR {x : QB} {n : Int} (h : HK x) (hn : 0 ≤ n ∧ n ≤ 500) (hc : x.2.2.2.2.2.1 + n ≤ 1000000) : F_dh (x, n, ()) = some (((0, boxH (goH n.toNat x)), ()), ()) := by
 have h0 := h.clock
 refine Dr.eq ?_
 unfold F_dh
 refine Dr.step (Qhb x h.le) (Dr.neg (by rw [h.to]; simp) (Dr.step (QM n 0 500) (Dr.pos (by rw [QbK.2 hn]; rfl) ?_)))
 dsimp only
 rw [Qq (n := x.2.2.2.2.2.1 + n) (by omega) (by omega)]
 exact Dr.neg (by rw [QL]; omega) (Dr.step (QlE h) (Dr.step (QkE h hn hc) (Dr.ret rfl)))
def Qmi (x : QB) (g : Int) : Qav := (x.2.2.1.getD g.toNat QV, QaG (pgM x.1 g), Qbl x.2.1 0 (pgM x.1 g) (List.replicate 64 0), ())
theorem Qjo {m : List Int} {j : Nat} (hj : j < 8) : ∀ (l : List TwoD) (k : Nat) (s : List Int), k + l.length ≤ 8 → s.length = 64 → (∀ q ∈ l, 0 ≤ q.1 → 8 * q.1 + 8 ≤ (m.length : Int)) →
  pg (Qbl m k l s) (j : Int) = if k ≤ j ∧ j < k + l.length ∧ 0 ≤ (pgAt l (j - k)).1 then pg m (pgAt l (j - k)).1 else pg s (j : Int)
 | [], k, s, _, _, _ => by rw [if_neg (by simp only [List.length_nil]; omega)]; rfl
 | p :: r, k, s, hk, hs, hp => by
  simp only [List.length_cons] at hk
  have hp0 := hp p (by simp)
  have hs' : (if 0 ≤ p.1 then Qdj s k (pg m p.1) else s).length = 64 := by
   split
   ·exact QcA hs (by omega) (Qdi ⟨‹_›, hp0 ‹_›⟩)
   ·exact hs
  rw [Qbl, Qjo hj r (k + 1) _ (by omega) hs' (fun q hq => hp q (List.mem_cons_of_mem _ hq))]
  simp only [List.length_cons]
  by_cases e : j = k
  ·subst e
   rw [if_neg (by omega), Nat.sub_self]
   show _ = if j ≤ j ∧ j < j + (r.length + 1) ∧ 0 ≤ p.1 then pg m p.1 else _
   by_cases c : 0 ≤ p.1
   ·rw [if_pos c, if_pos (by omega), QkO hs hj (Qdi ⟨c, hp0 c⟩) (by omega), if_pos rfl]
   ·rw [if_neg c, if_neg (by omega)]
  ·have e2 : pg (if 0 ≤ p.1 then Qdj s k (pg m p.1) else s) (j : Int) = pg s (j : Int) := by
    split
    ·rename_i c
     rw [QkO hs (by omega) (Qdi ⟨c, hp0 c⟩) (by omega), if_neg (by omega)]
    ·rfl
   rw [e2]
   by_cases c : k + 1 ≤ j
   ·rw [show j - k = (j - (k + 1)) + 1 by omega]
    show (if k + 1 ≤ j ∧ j < k + 1 + r.length ∧ 0 ≤ (pgAt r (j - (k + 1))).1 then _ else _) = if k ≤ j ∧ j < k + (r.length + 1) ∧ 0 ≤ (pgAt r (j - (k + 1))).1 then _ else _
    by_cases d : j < k + 1 + r.length ∧ 0 ≤ (pgAt r (j - (k + 1))).1
    ·rw [if_pos ⟨c, d.1, d.2⟩, if_pos ⟨by omega, by omega, d.2⟩]; rfl
    ·rw [if_neg (fun q => d q.2), if_neg (fun q => d ⟨by omega, q.2.2⟩)]
   ·rw [if_neg (fun q => c q.1), if_neg (fun q => by omega)]
theorem QfS {m : List Int} (hm : ∀ w ∈ m, WW w) : ∀ (l : List TwoD) (k : Nat) (s : List Int), (∀ w ∈ s, WW w) → ∀ w ∈ Qbl m k l s, WW w
 | [], _, _, h => h
 | p :: r, k, s, h => QfS hm r (k + 1) _ (by split; exact Qhh h (Qmc hm); exact h)
theorem HK.pgs {x : QB} (h : HK x) {g : Int} (hg : isG x.1 g = true) : ∀ q ∈ pgM x.1 g, 0 ≤ q.1 → 8 * q.1 + 8 ≤ (x.2.1.length : Int) := fun q hq _ => by
 have := Qio h.ok hg q hq
 rw [h.mem.2]
 omega
theorem Qmj {x : QB} {g : Int} (h : HK x) (hg : isG x.1 g = true) : Qbj (Qmi x g) = 0 :=
 Qgo (h.guest hg).2.2 (Qlh h.ok hg) (QhH (by rw [QaZ]; exact Nat.le_refl _) (by simp) (h.pgs hg)) (QfS (Qgt h.mem.1) _ _ _ (QjT _))
theorem Qmk {x : QB} {g : Int} (h : HK x) (hg : isG x.1 g = true) {k : Nat} (hk : k < 8) (h0 : 0 ≤ (pgAt (pgM x.1 g) k).1) : pg (Qmi x g).2.2.1 (k : Int) = pg x.2.1 (pgAt (pgM x.1 g) k).1 := by
 show pg (Qbl x.2.1 0 (pgM x.1 g) (List.replicate 64 0)) (k : Int) = _
 rw [Qjo hk _ _ _ (by rw [QaZ]; exact Nat.le_refl _) (by simp) (h.pgs hg), Nat.sub_zero, if_pos ⟨by omega, by rw [QaZ]; omega, h0⟩]
theorem QhW {x : QB} {g : Int} (h : HK x) (hg : isG x.1 g = true) : F_dk (x, g, ()) = some (((0, sB (Qmi x g)), ()), ()) := by
 rw [QhX x g h.le]
 unfold QgO
 rw [if_neg (by rw [h.to]; simp), if_pos hg]
 rfl
theorem Qef {s : Qav} {k : Int} (h : Qbj s = 0) (hk : 0 ≤ k ∧ k ≤ 7) : F_do (s, k, ()) = some (((0, (pg s.2.2.1 k, ())), ()), ()) := by
 have hm := (Qdl h).2.2.2
 refine Dr.eq ?_
 unfold F_do
 exact Dr.step (QlJ s (Qra h)) (Dr.neg (by rw [h]; simp) (Dr.step (QM k 0 7) (Dr.neg (by rw [QbK.2 hk]; simp) (Dr.step (Qet s.2.2.1 k (by omega) (by omega)) (Dr.ret rfl)))))
theorem QmU {p : PolD} {m : List Int} {i : Nat} (hp : polM p = 0) (hm : QG m = 0 ∧ m.length = 192) (hi : i < p.2.1.length) : F_di (p, m, (i : Int), ()) = some (((0, (pg m p.2.1[i].2.2.1, ())), ()), ()) := by
 have hok := Qge hp
 have hl := hok.lanes.1
 have b := (Qcf hok _ (List.getElem_mem hi)).2.1
 refine Dr.eq ?_
 unfold F_di
 refine Dr.step (QfA p (Qhr hok)) (Dr.neg (by rw [hp]; simp) ?_)
 dsimp only
 rw [Qq (n := ((p.2.1.length : Nat) : Int) - 1) (by omega) (by omega)]
 refine Dr.step (QM (i : Int) 0 _) (Dr.neg (by rw [QbK.2 (by omega)]; simp) (Dr.step (QfY m (by omega)) (Dr.neg (by simp [hm]) (Dr.guard nat0 ?_))))
 rw [Qy hi]
 exact Dr.step (Qet m _ (by omega) (by omega)) (Dr.ret rfl)
theorem Qph (c : List Int) (hb : ∀ b ∈ c, 0 ≤ b ∧ b ≤ 255) : Yes (F_dq (c, ())) := by
 unfold F_dq F_a
 refine Dr.step rfl (Dr.ite (fun _ => yes rfl) fun h0 => ?_)
 have h0 : ¬ (1048576 : Int) < ((c.length : Nat) : Int) := by rw [QL] at h0; exact h0
 refine (Qnd (QpS h0 hb) (byt3 h0 hb)).bind fun r2 h2 => ?_
 obtain ⟨⟨p, I, J, _⟩, _⟩ := r2
 obtain ⟨hp, hI, hJ⟩ := h2
 have hp : polM p = 0 := hp
 have hI : Fit p I := hI
 have hJ : FitQ p J := hJ
 have hok := Qge hp
 have hk := QpV (I := I) hp hJ.1 hJ.2
 refine Dr.step (QmR hp hI hJ) ((QsM (QpS h0 hb) 5 60 (by omega) (by omega)).bind fun r4 h4 => ?_)
 obtain ⟨⟨n, _⟩, _⟩ := r4
 have hn := bdLt (x := n) h4 (by omega)
 have c0 : (Qjh p I J).2.2.2.2.2.1 = 0 := rfl
 refine Dr.step (QiR (x := Qjh p I J) (n := n) hk ⟨hn.1, by omega⟩ (by rw [c0]; omega)) (Dr.pos (by simp) (Dr.pos (by simp) ?_))
 have hx := Qqh (Int.toNat n) hk (by rw [c0]; omega)
 have ep : (goH (Int.toNat n) (Qjh p I J)).1 = p := QnV (Int.toNat n) _
 generalize goH (Int.toNat n) (Qjh p I J) = x at hx ep ⊢
 have hlen : x.2.2.1.length = p.1.length := by rw [hx.len, ep]
 refine Dr.neg (by
  show ¬ ((((x.2.2.1.length : Nat) : Int) != ((p.1.length : Nat) : Int)) = true)
  rw [hlen]; simp) ?_
 have hll := hok.lanes.1
 have key : Dr (L_dq_9 (((), ((), ((0 : Int), ()))), ((p, (((0 : Int), boxH x), ())), ()))) fun o => o = .inl ((), ((), ())) := by
  refine QaN (fun m u => ∃ i : Nat, u = (((), ((), ((i : Int), ()))), ((p, (((0 : Int), boxH x), ())), ())) ∧ m + i = p.2.1.length) ?_ p.2.1.length _ ⟨0, rfl, by omega⟩ (by rw [Qai]; omega)
  rintro rec m _ ⟨i, rfl, hm⟩ ih
  unfold l_dq_9
  dsimp only
  by_cases ci : i < p.2.1.length
  ·have hmem : p.2.1[i] ∈ p.2.1 := List.getElem_mem ci
   have b := Qcf hok _ hmem
   rw [if_pos (lt_t ci), if_pos nat0, Qy ci]
   refine Dr.step (QmU hp hx.mem ci) ?_
   generalize p.2.1[i] = y at hmem b
   have g1 : isG x.1 y.1 = true := by rw [ep]; exact b.1.1
   have g2 : isG x.1 y.2.1 = true := by rw [ep]; exact b.1.2.1
   have s1 := Qmj hx g1
   have s2 := Qmj hx g2
   have mem' : y ∈ x.1.2.1 := by rw [ep]; exact hmem
   have q1 := QeU hx.ok g1 mem' rfl
   have q2 := Qsu hx.ok g2 mem' rfl
   have p1 := Qmk hx g1 (k := y.2.2.2.1.toNat) (by have := b.2.2.1; omega) (by rw [q1]; exact b.2.1.1)
   have p2 := Qmk hx g2 (k := y.2.2.2.2.1.toNat) (by have := b.2.2.2; omega) (by rw [q2]; exact b.2.1.1)
   rw [q1, show ((y.2.2.2.1.toNat : Nat) : Int) = y.2.2.2.1 by have := b.2.2.1; omega] at p1
   rw [q2, show ((y.2.2.2.2.1.toNat : Nat) : Int) = y.2.2.2.2.1 by have := b.2.2.2; omega] at p2
   have n8 : (pg x.2.1 y.2.2.1).length ≤ 9223372036854775000 := by have := QsV x.2.1 y.2.2.1; omega
   have w2 : F_do (Qmi x y.2.1, y.2.2.2.2.1, ()) = some (((0, (pg x.2.1 y.2.2.1, ())), ()), ()) := by rw [Qef s2 (by have := b.2.2.2; omega), p2]
   have w1 : F_do (Qmi x y.1, y.2.2.2.1, ()) = some (((0, (pg x.2.1 y.2.2.1, ())), ()), ()) := by rw [Qef s1 (by have := b.2.2.1; omega), p1]
   refine Dr.step (QhW hx g2) (Dr.step (QhW hx g1) (Dr.pos (by simp) (Dr.step w2 (Dr.step (QjL _ n8) (Dr.pos (by simp) (Dr.step w1 (Dr.step (QjL _ n8) (Dr.neg (by simp) ?_))))))))
   rw [Qah (by omega)]
   exact ih (m - 1) _ (by omega) ⟨i + 1, rfl, by omega⟩
  ·rw [if_neg (lt_f ci)]
   exact Dr.ret rfl
 refine key.bind fun o ho => ?_
 subst ho
 exact yes rfl
theorem QrE : ∀ x, inRP P_a x → F_dq x = some ((true, ()), ()) := by
 rintro ⟨c, _⟩ ⟨hc, _⟩
 exact (Qph c fun b hb => by
  have := hc.2 b hb
  have h1 : IntKind.u8.min = 0 := by decide
  have h2 : IntKind.u8.max = 255 := by decide
  simp only [inR, h1, h2] at this
  exact this).eq
end Go.Proofs.YtmoninjbahccoaaGreatDoor
