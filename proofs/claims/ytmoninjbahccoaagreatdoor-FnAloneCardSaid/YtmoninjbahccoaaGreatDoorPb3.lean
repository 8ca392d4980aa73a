/- Plain laws: what the functions compute, and that both programs compute the same. -/
import Derived.Test.YtmoninjbahccoaaGreatDoorPb2
namespace Go.Proofs.YtmoninjbahccoaaGreatDoor
open Go Go.RowKit S Go.Proofs
set_option maxRecDepth 100000
set_option linter.unusedVariables false
set_option linter.unusedSimpArgs false
theorem Qhv {x : Qw} (h : HK x) (hc : x.2.2.2.2.2.1 < 1000000) : F_eb (boxH x, ()) = some ((), (boxH (QbT x), ())) := by
 obtain ⟨h1, h2, h3, h4⟩ := h.turn
 obtain ⟨g1, g2, g3⟩ := h.guest h3
 have hS := h.okS
 have hm := h.mem.2
 have hrang := Qls h
 have hcl := h.clock
 have hle := Qgn g3
 have hpl := h.ok.plan
 have hturn : F_cn (x, ()) = some ((turnG x, ()), ()) := by
  refine Dr.eq ?_
  unfold F_cn
  exact Dr.guard h1.1 (Dr.step h4 (Dr.ret rfl))
 have hst : F_dy (x.2.2.1.getD (turnG x).toNat Qal, pgM x.1 (turnG x), x.2.1, 1, ()) = some (((QW x).res (QW x).fall (QW x).ring, ()), ()) := Qiu hle (by omega) hS
 refine Dr.eq ?_
 unfold F_eb
 refine Dr.step hturn (Dr.guard g1 (Dr.step g2 (Dr.step (Qhu h.ok h3) (Dr.step hst ?_))))
 refine Dr.guard g1 (Dr.step g2 ?_)
 refine Dr.step (Qho (turnG x, (QW x).ring, ()) x.1.2.2.1 (by have := h.ok.bells.1; omega)) ?_
 have e1 : IntKind.i64.wrap (x.2.2.2.2.2.1 + 1) = x.2.2.2.2.2.1 + 1 := Qr (by omega) (by omega)
 have e2 : IntKind.i64.wrap (x.2.2.2.2.1 - 1) = x.2.2.2.2.1 - 1 := Qr (by omega) (by omega)
 have e3 : IntKind.i64.wrap (x.2.2.2.1 + 1) = x.2.2.2.1 + 1 := Qr (by omega) (by omega)
 have hpos : 0 < (x.1.2.2.2.1.length : Int) := by omega
 have hmod : (x.2.2.2.1 + 1).tmod ((x.1.2.2.2.1.length : Nat) : Int) = (x.2.2.2.1 + 1) % (x.1.2.2.2.1.length : Int) := Int.tmod_eq_emod_of_nonneg (by omega)
 have m0 := Int.emod_nonneg (x.2.2.2.1 + 1) (b := (x.1.2.2.2.1.length : Int)) (by omega)
 have m1 := Int.emod_lt_of_pos (x.2.2.2.1 + 1) (b := (x.1.2.2.2.1.length : Int)) hpos
 have hmi : ((x.2.2.2.1 + 1) % (x.1.2.2.2.1.length : Int)).toNat < x.1.2.2.2.1.length := by omega
 have hd : x.1.2.2.2.1[((x.2.2.2.1 + 1) % (x.1.2.2.2.1.length : Int)).toNat]? = some (x.1.2.2.2.1.getD ((x.2.2.2.1 + 1) % (x.1.2.2.2.1.length : Int)).toNat (0, 0, ())) := by
  rw [List.getD_eq_getElem?_getD, List.getElem?_eq_getElem hmi]; rfl
 have fin : ∀ hs : List QZ, hs = (if Qcw x = true then QdL (QW x).ring (QP x) else QP x) →
   (∀ (a : Int), a = x.2.2.2.2.1 - 1 → Dr (if (a == (0 : Int)) = true then (if ((x.1.2.2.2.1.length : Nat) : Int) = 0 then none else if 0 ≤ (x.2.2.2.1 + 1).tmod ((x.1.2.2.2.1.length : Nat) : Int) then (x.1.2.2.2.1[((x.2.2.2.1 + 1).tmod ((x.1.2.2.2.1.length : Nat) : Int)).toNat]?).bind fun y => some ((), ((x.1.1, x.1.2.1, x.1.2.2.1, x.1.2.2.2.1, (QW x).m, hs, (x.2.2.2.1 + 1).tmod ((x.1.2.2.2.1.length : Nat) : Int), y.2.1, x.2.2.2.2.2.1 + 1, ()), ())) else none)
    else some ((), ((x.1.1, x.1.2.1, x.1.2.2.1, x.1.2.2.2.1, (QW x).m, hs, x.2.2.2.1, a, x.2.2.2.2.2.1 + 1, ()), ()))) fun r => r = ((), (boxH (QbT x), ()))) := by
  rintro hs rfl a rfl
  rw [hmod]
  by_cases hz : x.2.2.2.2.1 - 1 = 0
  ·refine Dr.pos (by simpa using hz) (Dr.nguard (by omega) (Dr.guard m0 (Dr.step hd (Dr.ret ?_))))
   unfold boxH QbT Qfy
   dsimp only
   rw [if_pos hz]
  ·refine Dr.neg (by simpa using hz) (Dr.ret ?_)
   unfold boxH QbT Qfy
   dsimp only
   rw [if_neg hz]
 by_cases hin : Qcw x = true
 ·refine Dr.pos hin ?_
  have hg := Qby.1 (hrang hin)
  refine Dr.gatE (n := (QP x).length) rfl (by rw [QbX, h.len]; exact hg) fun z hz => ?_
  have hz' : (QP x)[(QW x).ring.toNat]? = some z := hz
  have ez : QdL (QW x).ring (QP x) = (QP x).set (QW x).ring.toNat (Qpa z) := by
   unfold QdL
   rw [List.getD_eq_getElem?_getD, hz']
   rfl
  have q := fin ((QP x).set (QW x).ring.toNat (Qpa z)) (by rw [if_pos hin, ez]) (IntKind.i64.wrap (x.2.2.2.2.1 - 1)) e2
  rw [← e1, ← e3] at q
  exact q
 ·refine Dr.neg hin ?_
  have q := fin (QP x) (by rw [if_neg hin]) (IntKind.i64.wrap (x.2.2.2.2.1 - 1)) e2
  rw [← e1, ← e3] at q
  exact q
theorem QeP {X : Type} {xs : List X} {i : Nat} (h : i < xs.length) : xs.set i xs[i] = xs := by
 apply List.ext_getElem (by simp)
 intro j h1 h2
 rw [List.getElem_set]
 split
 ·rename_i e; subst e; rfl
 ·rfl
theorem Qfs {p : PolD} (hok : OkPol p) : F_az (p, ()) = some (((p.1, p.2.1, p.2.2.1, p.2.2.2.1, ()), ()), ()) := by
 have hle := QhM hok
 have ho := hok.own
 have hb := hok.bells.1
 have hp := hok.plan.2
 have hl := hok.lanes.1
 refine Dr.eq ?_
 unfold F_az F_au
 dsimp only
 rw [if_pos (by simp; omega), Obn]
 have k1 : Dr (L_az_3 (((), ((), (((p.1.length : Nat) : Int), ((0 : Int), ())))), (((p.1, (p.2.1, (p.2.2.1, (p.2.2.2.1, ())))), (([], ([], ([], ([], ())))), ())), ()))) fun o => o = .inl (((), ((), ())), (((p.1, (p.2.1, (p.2.2.1, (p.2.2.2.1, ())))), (([], ([], ([], ([], ())))), ())), ())) := by
  refine QaK (fun n u => ∃ i : Nat, u = (((), ((), (((p.1.length : Nat) : Int), ((i : Int), ())))), (((p.1, (p.2.1, (p.2.2.1, (p.2.2.2.1, ())))), (([], ([], ([], ([], ())))), ())), ())) ∧ n = p.1.length - i ∧ i ≤ p.1.length) ?_ _ _ ⟨0, rfl, rfl, Nat.zero_le _⟩ (by rw [Qac]; omega)
  rintro rec n _ ⟨i, rfl, hn, hi⟩ ih
  unfold l_az_3
  dsimp only
  by_cases hlt : i < p.1.length
  case neg =>
   rw [if_neg (lt_f hlt)]
   exact Dr.ret rfl
  have hy := (hok.own1 _ (List.getElem_mem hlt)).2.1
  rw [if_pos (lt_t hlt), if_pos ⟨nat0, Int.ofNat_lt.2 hlt⟩, Qx hlt, Qai (by omega), QbE (by omega), Obn, if_pos ⟨nat0, Int.ofNat_lt.2 hlt⟩, Qx hlt, Int.toNat_natCast]
  dsimp only
  rw [QeP hlt]
  exact ih (n - 1) _ (by omega) ⟨i + 1, rfl, by omega, by omega⟩
 refine k1.bind fun o h => ?_
 subst h
 unfold F_aw F_ax F_ay
 dsimp only
 rw [if_pos (by simp; omega), Obn, if_pos (by simp; omega), Obn, if_pos (by simp; omega), Obn]
 exact Dr.ret rfl
theorem Qmj {x : Qw} (h : HK x) : F_ce (x, ()) = some ((boxH x, ()), ()) := by
 have hle := h.le
 have hm := h.mem.2
 have hh := hle.2.2.1
 refine Dr.eq ?_
 unfold F_ce
 refine Dr.step (Qfs h.ok) (.step (QbE (q := x.2.1) (by omega)) ?_)
 unfold F_cc
 dsimp only
 rw [if_pos (by simp; omega), Obn]
 have k1 : Dr (L_ce_5 (((), ((), (((x.2.2.1.length : Nat) : Int), ((0 : Int), ())))), ((boxH x, (([], ([], ([], ([], ([], ([], ((0 : Int), ((0 : Int), ((0 : Int), ()))))))))), ())), ()))) fun o => o = .inl (((), ((), ())), ((boxH x, (([], ([], ([], ([], ([], ([], ((0 : Int), ((0 : Int), ((0 : Int), ()))))))))), ())), ())) := by
  refine QaK (fun n u => ∃ i : Nat, u = (((), ((), (((x.2.2.1.length : Nat) : Int), ((i : Int), ())))), ((boxH x, (([], ([], ([], ([], ([], ([], ((0 : Int), ((0 : Int), ((0 : Int), ()))))))))), ())), ())) ∧ n = x.2.2.1.length - i ∧ i ≤ x.2.2.1.length) ?_ _ _ ⟨0, rfl, rfl, Nat.zero_le _⟩ (by rw [Qac]; omega)
  rintro rec n _ ⟨i, rfl, hn, hi⟩ ih
  unfold l_ce_5 boxH
  dsimp only
  by_cases hlt : i < x.2.2.1.length
  case neg =>
   rw [if_neg (lt_f hlt)]
   exact Dr.ret rfl
  rw [if_pos (lt_t hlt), if_pos ⟨nat0, Int.ofNat_lt.2 hlt⟩, Qx hlt, Qai (by omega), QdY _ (hle.2.2.2 _ (List.getElem_mem hlt)), Obn, if_pos ⟨nat0, Int.ofNat_lt.2 hlt⟩, Qx hlt, Int.toNat_natCast]
  dsimp only
  rw [QeP hlt]
  exact ih (n - 1) _ (by omega) ⟨i + 1, rfl, by omega, by omega⟩
 refine k1.bind fun o h => ?_
 subst h
 exact Dr.ret rfl
abbrev Qel := List Int × Int × List Int × Bool × Bool × Bool × Int × List Int × List Int × List Int × List Int × Unit
def QbU (x : Qw) (g : Int) : Qel := (Qji 0 (x.2.2.1.getD g.toNat Qal) (QY x.2.1 (x.1.1.getD g.toNat [])) (QY x.2.1 (Qam g true x.1.2.1))).2
def vD (r : Qel) : Qtm := ((r.1, r.2.1, r.2.2.1, r.2.2.2.1, r.2.2.2.2.1, r.2.2.2.2.2.1, r.2.2.2.2.2.2.1, r.2.2.2.2.2.2.2.1, r.2.2.2.2.2.2.2.2.1, ()), r.2.2.2.2.2.2.2.2.2.1, r.2.2.2.2.2.2.2.2.2.2.1, ())
theorem Qse {x : Qw} {g : Int} (h : HK x) (hg : isG x.1 g = true) : Qpn x g = (0, QbU x g) := by
 unfold Qpn QbU
 rw [if_neg (by simpa using h.to), if_pos hg]
 rfl
theorem Qmu {x : Qw} {g : Int} (hk : HK x) (hg : isG x.1 g = true) : F_ch (x, g, ()) = some ((QbU x g, ()), ()) := by
 obtain ⟨⟨g0, e1, e2⟩, a1, ⟨a2, a3⟩, a4⟩ := Qmg hk.le hk.to hg
 have hok := hk.ok
 have hm := hk.mem.2
 have hll := hok.lanes.1
 unfold QbU
 unfold F_ch
 dsimp only
 rw [if_pos g0, e1, Obn, QdY _ a1, Obn, if_pos g0, e2, Obn, Qlf _ _ (by omega) a3 (by omega), Obn]
 generalize x.2.2.1.getD g.toNat Qal = h at *
 generalize QY x.2.1 (x.1.1.getD g.toNat []) = ow at *
 dsimp only
 have key := Qfu (step := l_ch_3) (γ := denO o_ch_3)
  (fun k (out : List Int) => ((x, g, (), (), x.1.2.1, ((x.1.2.1.length : Nat) : Int), ((k : Nat) : Int), ()), (([], 0, [], false, false, false, 0, [], [], [], [], ()), (h.1, h.2.1, h.2.2.1, h.2.2.2.1, h.2.2.2.2.1, h.2.2.2.2.2.1, h.2.2.2.2.2.2.1, h.2.2.2.2.2.2.2.1, h.2.2.2.2.2.2.2.2.1, ow, out, ()), ()), ()))
  x.1.2.1.length (QaP (by omega)) (fun k out => out.length ≤ 8 * k)
  (fun k out => some (.inl (((), (), ()), (([], 0, [], false, false, false, 0, [], [], [], [], ()), (h.1, h.2.1, h.2.2.1, h.2.2.2.1, h.2.2.2.2.1, h.2.2.2.2.2.1, h.2.2.2.2.2.2.1, h.2.2.2.2.2.2.2.1, h.2.2.2.2.2.2.2.2.1, ow, out ++ QY x.2.1 (Qam g true (x.1.2.1.drop k)), ()), ()), ()))) ?_ 0 [] (by omega) (by simp)
 ·have e0 : ((0 : Nat) : Int) = 0 := rfl
  rw [e0, List.drop_zero, List.nil_append] at key
  show (Qc l_ch_3 lots _).bind _ = _
  rw [key, Obn]
  rfl
 ·rintro rec k out hk' ho ih
  unfold l_ch_3
  dsimp only
  by_cases hlt : k < x.1.2.1.length
  ·have hln := (QbO hok _ (List.getElem_mem hlt)).2.1
   rw [if_pos (lt_t hlt), if_pos nat0, Qx hlt, QaO hlt, Qam, Qai (by omega)]
   by_cases hq : (x.1.2.1[k]).1 = g
   ·rw [if_pos (by simpa using hq), if_pos hq, Qdp x.2.1 _ (by omega) (by omega), Obn]
    dsimp only
    have := QiI x.2.1 (x.1.2.1[k]).2.2.1
    rw [if_pos (by omega), ih _ hlt (by rw [List.length_append]; omega), List.append_assoc]
    rfl
   ·rw [if_neg (by simpa using hq), if_neg hq]
    exact ih _ hlt (by omega)
  ·rw [if_neg (lt_f hlt), QbG hlt]
   simp only [Qam, QY, List.flatMap_nil, List.append_nil]
def QgD (v w : Qel) : Bool := match F_cl (vD v, vD w, ()) with
 | some r => r.1.1
 | none => false
theorem QsU {v w : Qel} (h : Qly maxLen (vD v)) : True ∧ F_cl (vD v, vD w, ()) = some ((QgD v w, ()), ()) := by
 obtain ⟨b, _, e2⟩ := Qsf (vD v, vD w, ()) h
 unfold QgD
 rw [e2]
 exact ⟨trivial, rfl⟩
theorem Qni {x : Qw} {g : Int} (h : HK x) (hg : isG x.1 g = true) : Qly maxLen (vD (QbU x g)) := by
 have := Qsd x g h.le
 rw [Qse h hg] at this
 obtain ⟨h1, h2, h3, h4, h5, h6⟩ := this
 exact ⟨⟨leM h1, leM h2, leM h3, leM h4⟩, leM h5, leM h6⟩
abbrev Qti := Int × Int × Bool × Unit
theorem Qqv {x : Qw} {n : Int} (h : HK x) (hs : Qcg x n = true) : (0 ≤ n ∧ n ≤ 200) ∧ x.2.2.2.2.2.1 + n ≤ 1000000 := by
 unfold Qcg at hs
 obtain ⟨h1, h2⟩ := Bool.and_eq_true_iff.1 hs
 have h1 := Qci.1 h1
 have hc := h.clock
 rw [Qr (by omega) (by omega)] at h2
 refine ⟨h1, ?_⟩
 rw [Qbk] at h2
 have := of_decide_eq_true h2
 omega
def QjO (v : Qel) : Bool := v.2.2.2.2.2.1
def setF (v : Qel) (b : Bool) : Qel := (v.1, v.2.1, v.2.2.1, v.2.2.2.1, v.2.2.2.2.1, b, v.2.2.2.2.2.2)
theorem Qof (v w : Qel) (b c : Bool) : QgD (setF v b) (setF w b) = QgD (setF v c) (setF w c) := by
 unfold QgD vD setF F_cl F_ck
 simp only [beq_self_eq_true, if_true]
def QfJ (v w : Qel) : Bool := QgD v (setF w (QjO v))
theorem Qpp (v w : Qel) : QgD (setF v (QjO w)) w = QfJ v w := Qof v w (QjO w) (QjO v)
def sB (s : QT) : Qtk := (s.1.1, s.1.2.1, s.1.2.2.1, s.1.2.2.2.1, s.1.2.2.2.2.1, s.1.2.2.2.2.2.1, s.1.2.2.2.2.2.2.1, s.1.2.2.2.2.2.2.2.1, s.1.2.2.2.2.2.2.2.2.1, s.2.1, s.2.2.1, ())
def setM (s : QT) (m : List Int) : QT := (s.1, s.2.1, m, ())
def Qtv (s : QT) (h : QZ) : QT := ((s.1.1, s.1.2.1, s.1.2.2.1, s.1.2.2.2.1, s.1.2.2.2.2.1, h.2.2.2.2.2.1, s.1.2.2.2.2.2.2), s.2.1, s.2.2.1, ())
theorem QgN {m : List Int} (h : QG m = 0) : ∀ w ∈ m, WW w := by
 unfold QG at h
 split at h
 ·split at h
  ·exact Qao.1 ‹_›
  ·cases h
 ·cases h
theorem QqY {m : List Int} (hl : m.length = 64) (h : ∀ w ∈ m, WW w) : QG m = 0 := by
 unfold QG
 rw [if_pos (by rw [hl]; decide), if_pos (Qao.2 h)]
theorem QgI {s : QT} (h1 : hartM s.1 = 0) (h2 : QaU s.2.1 8 = 0) (h3 : s.2.2.1.length = 64) (h4 : ∀ w ∈ s.2.2.1, WW w) : Qav s = 0 := by
 unfold Qav
 rw [if_neg (by simpa using h1), if_neg (by simpa using h2), if_pos ⟨QqY h3 h4, h3⟩]
theorem QiS {s : QT} (h : Qav s = 0) : Qoi 1048576 s := by
 obtain ⟨h1, h2, h3, h4⟩ := QbS h
 have := (QfT (by decide) h2).1
 exact ⟨Qgn h1, by omega, by omega⟩
theorem QiT {s : QT} (h : Qav s = 0) {m : List Int} (hl : m.length = 64) (hw : ∀ w ∈ m, WW w) : Qav (setM s m) = 0 := by
 obtain ⟨h1, h2, h3, h4⟩ := QbS h
 exact QgI h1 h2 hl hw
theorem QmS {s : QT} (h : Qav s = 0) (y : QZ) : Qav (Qtv s y) = 0 := by
 obtain ⟨h1, h2, h3, h4⟩ := QbS h
 exact QgI h1 h2 h4 (QgN h3)
def QcU (m : List Int) (g : Int) : List QD → List Int → List Int
 | [], q => q
 | l :: r, q => QcU m g r (if l.2.1 = g then QeL q l.2.2.2.2.1.toNat (pg m l.2.2.1) else q)
theorem QhB {s ws : List Int} {k : Nat} (h1 : ∀ w ∈ s, WW w) (h2 : ∀ w ∈ ws, WW w) : ∀ w ∈ QeL s k ws, WW w := by
 intro w hw
 unfold QeL at hw
 rcases List.mem_append.1 hw with hw | hw
 ·exact h1 w (List.mem_of_mem_take hw)
 ·rcases List.mem_append.1 hw with hw | hw
  ·exact h2 w hw
  ·exact h1 w (List.mem_of_mem_drop hw)
theorem QrI {m : List Int} {p : Int} (h : ∀ w ∈ m, WW w) : ∀ w ∈ pg m p, WW w := fun w hw => h w (List.mem_of_mem_drop (List.mem_of_mem_take hw))
theorem Qlh {x : Qw} (h : HK x) {l : QD} (hl : l ∈ x.1.2.1) : (0 ≤ l.2.2.1 ∧ 8 * l.2.2.1 + 8 ≤ (x.2.1.length : Int)) ∧ (0 ≤ l.2.2.2.2.1 ∧ l.2.2.2.2.1 < 8) ∧ (pg x.2.1 l.2.2.1).length = 8 ∧ ∀ w ∈ pg x.2.1 l.2.2.1, WW w := by
 have hm := h.mem.2
 obtain ⟨_, h2, h3, h4⟩ := QbO h.ok l hl
 have e : 0 ≤ l.2.2.1 ∧ 8 * l.2.2.1 + 8 ≤ (x.2.1.length : Int) := by omega
 exact ⟨e, by omega, QsO e, QrI (QgN h.mem.1)⟩
theorem Qid {x : Qw} (h : HK x) {g : Int} : ∀ {r : List QD} {q : List Int}, (∀ l ∈ r, l ∈ x.1.2.1) → q.length = 64 → (∀ w ∈ q, WW w) → (QcU x.2.1 g r q).length = 64 ∧ ∀ w ∈ QcU x.2.1 g r q, WW w
 | [], q, _, h1, h2 => ⟨h1, h2⟩
 | l :: r, q, hr, h1, h2 => by
  obtain ⟨_, l2, l3, l4⟩ := Qlh h (hr l (by simp))
  rw [QcU]
  split
  ·exact Qid h (fun y hy => hr y (List.mem_cons_of_mem _ hy)) (Qfg h1 (by omega) l3) (QhB h2 l4)
  ·exact Qid h (fun y hy => hr y (List.mem_cons_of_mem _ hy)) h1 h2
def fedS (x : Qw) (s : QT) (g : Int) : QT := setM s (QcU x.2.1 g x.1.2.1 s.2.2.1)
def QgC (x : Qw) (s : QT) (g : Int) : QT := Qtv (fedS x s g) (x.2.2.1.getD g.toNat Qal)
def QgJ (x : Qw) (s : QT) (g : Int) : Mc := QV (Mc.of (QgC x s g).1 (QgC x s g).2.2.1) (QgC x s g).2.1
def QmT (x : Qw) (s : QT) (g : Int) : QT := ((QgJ x s g).hart, s.2.1, (QgJ x s g).m, ())
theorem Qsv {x : Qw} {s : QT} (g : Int) (hx : HK x) (hs : Qav s = 0) : Qav (fedS x s g) = 0 := by
 obtain ⟨h1, h2, h3, h4⟩ := QbS hs
 obtain ⟨f1, f2⟩ := Qid hx (g := g) (r := x.1.2.1) (q := s.2.2.1) (fun _ h => h) h4 (QgN h3)
 exact QiT hs f1 f2
theorem QmQ {x : Qw} {s : QT} (g : Int) (hx : HK x) (hs : Qav s = 0) : Qav (QgC x s g) = 0 := QmS (Qsv g hx hs) _
theorem QmU {x : Qw} {s : QT} (g : Int) (hx : HK x) (hs : Qav s = 0) : Qav (QmT x s g) = 0 := by
 have hr := QmQ g hx hs
 have ho : OkS (QgJ x s g) (QgC x s g).2.1 := QiW (QmG hr)
 have hl := ho.l
 obtain ⟨h1, h2, h3, h4⟩ := QbS hr
 exact QgI ho.hartM h2 (by show (QgJ x s g).m.length = 64; unfold QgJ; rw [QiV]; exact h4) hl.words
theorem QpU {s : QT} {k : Int} {ws : List Int} (hs : Qav s = 0) (hk : 0 ≤ k ∧ k < 8) (hw : ws.length = 8) : F_cq (s, k, ws, ()) = some ((sB (setM s (QeL s.2.2.1 k.toNat ws)), ()), ()) := by
 obtain ⟨K, rfl⟩ : ∃ K : Nat, k = (K : Int) := ⟨k.toNat, by omega⟩
 obtain ⟨h1, h2, h3, h4⟩ := QbS hs
 have hp := (QfT (by decide) h2).1
 refine Dr.eq ?_
 unfold F_cq
 dsimp only
 rw [QbE (by omega), Obn]
 dsimp only
 rw [Qr (n := (K : Int) * 8) (by omega) (by omega), if_pos (by rw [h4]; omega), if_pos (by rw [h4, hw]; omega), h4]
 have e1 : ((K : Int) * 8).toNat = 8 * K := by omega
 have e2 : (((64 : Nat) : Int)).toNat = 64 := rfl
 rw [e1, e2, QrU h4 (by omega) hw]
 refine Dr.step (QdY _ (Qgn h1)) ?_
 unfold F_cp F_co
 dsimp only
 rw [if_pos (by simp; omega), Obn, Obn]
 exact Dr.ret rfl
theorem QnI {s : QT} (hs : Qav s = 0) : F_dz (s, 1, ()) = some ((sB ((QV (Mc.of s.1 s.2.2.1) s.2.1).hart, s.2.1, (QV (Mc.of s.1 s.2.2.1) s.2.1).m, ()), ()), ()) := by
 have hl := QiS hs
 have h2 := hl.2.1
 refine Dr.eq ?_
 unfold F_dz F_cp F_co
 dsimp only
 rw [Qft s.1 s.2.1 s.2.2.1 1 hl.1 hl.2.2 (QmG hs) (by omega), Obn, if_pos (by simp; omega), Obn, Obn, QoO]
 exact Dr.ret rfl
theorem Qld {x : Qw} {s : QT} {g : Int} (hx : HK x) (hg : isG x.1 g = true) (hs : Qav s = 0) : F_ea (x, s, g, ()) = some ((sB (QmT x s g), ()), ()) := by
 obtain ⟨_, _, s3, s4⟩ := QbS hs
 have hl4 := hx.ok.lanes.1
 have hm := hx.mem.2
 refine Dr.eq ?_
 unfold F_ea
 have k1 : Dr (L_ea_2 ((x, (g, ((), ((), (x.1.2.1, (((x.1.2.1.length : Nat) : Int), ((0 : Int), ()))))))), ((sB s, (([], ((0 : Int), ([], (false, (false, (false, ((0 : Int), ([], ([], ([], ([], ()))))))))))), ())), ()))) fun o => o = .inl ((x, (g, ((), ((), ())))), ((sB (fedS x s g), (([], ((0 : Int), ([], (false, (false, (false, ((0 : Int), ([], ([], ([], ([], ()))))))))))), ())), ())) := by
  refine QaK (fun m u => ∃ (i : Nat) (q : List Int), u = ((x, (g, ((), ((), (x.1.2.1, (((x.1.2.1.length : Nat) : Int), ((i : Int), ()))))))), ((sB (setM s q), (([], ((0 : Int), ([], (false, (false, (false, ((0 : Int), ([], ([], ([], ([], ()))))))))))), ())), ())) ∧ m = x.1.2.1.length - i ∧ i ≤ x.1.2.1.length ∧ (q.length = 64 ∧ ∀ w ∈ q, WW w) ∧ QcU x.2.1 g (x.1.2.1.drop i) q = QcU x.2.1 g x.1.2.1 s.2.2.1) ?_ _ _ ⟨0, s.2.2.1, rfl, rfl, Nat.zero_le _, ⟨s4, QgN s3⟩, rfl⟩ (by rw [Qac]; omega)
  rintro rec m _ ⟨i, q, rfl, hn, hi, hq, he⟩ ih
  unfold l_ea_2
  dsimp only
  by_cases hlt : i < x.1.2.1.length
  case neg =>
   rw [if_neg (lt_f hlt)]
   rw [List.drop_of_length_le (by omega), QcU] at he
   exact Dr.ret (by rw [he]; rfl)
  rw [if_pos (lt_t hlt), if_pos nat0, Qx hlt, Qai (by omega)]
  rw [List.drop_eq_getElem_cons hlt, QcU] at he
  obtain ⟨l1, l2, l3, l4⟩ := Qlh hx (List.getElem_mem hlt)
  generalize x.1.2.1[i] = y at *
  by_cases hg : y.2.1 = g
  ·rw [if_pos hg] at he
   rw [if_pos (by simpa using hg)]
   refine Dr.step (Qdp x.2.1 y.2.2.1 (by omega) l1) (.step (QpU (s := setM s q) (QiT hs hq.1 hq.2) l2 l3) ?_)
   exact ih (m - 1) _ (by omega) ⟨i + 1, _, rfl, by omega, by omega, ⟨Qfg hq.1 (by omega) l3, QhB hq.2 l4⟩, he⟩
  ·rw [if_neg hg] at he
   rw [if_neg (by simpa using hg)]
   exact ih (m - 1) _ (by omega) ⟨i + 1, _, rfl, by omega, by omega, hq, he⟩
 refine k1.bind fun o ho => ?_
 subst ho
 obtain ⟨g1, g2, _⟩ := hx.guest hg
 dsimp only
 rw [if_pos g1.1, g2, Obn]
 exact Dr.step (QnI (s := QgC x s g) (QmQ g hx hs)) (.ret rfl)
def Qeq (p : PolD) (s : QT) (g : Int) : Qel := (Qji 0 s.1 (s.2.2.1.take (8 * (p.1.getD g.toNat []).length)) (QY s.2.2.1 (Qam g false p.2.1))).2
theorem QlP {p : PolD} {g : Int} (hp : polM p = 0) (hg : isG p g = true) : askM p g = 0 := by
 unfold askM
 rw [if_neg (by simpa using hp), if_pos hg]
theorem QhG {p : PolD} {x : QT} {g : Int} (hp : polM p = 0) (hg : isG p g = true) (h1 : Qav x = 0) : F_ci (x, p, g, ()) = some ((Qeq p x g, ()), ()) := by
 have hx := QiS h1
 obtain ⟨hok, g0, e2, hl5⟩ := Qpw (QlP hp hg)
 obtain ⟨_, _, _, hm⟩ := QbS h1
 unfold Qeq
 generalize p.1.getD g.toNat [] = ow at *
 unfold F_ci
 dsimp only
 rw [QdY _ hx.1, Obn, if_pos g0, e2, Obn, Qr (n := ((ow.length : Nat) : Int) * 8) (by omega) (by omega), if_pos ⟨by omega, by omega, by omega⟩]
 have e3 : (x.2.2.1.drop (0 : Int).toNat).take ((((ow.length : Nat) : Int) * 8).toNat - (0 : Int).toNat) = x.2.2.1.take (8 * ow.length) := by
  have a : (((ow.length : Nat) : Int) * 8).toNat - (0 : Int).toNat = 8 * ow.length := by omega
  rw [a]; rfl
 rw [e3, Qeu _ (by simp; omega), Obn]
 dsimp only
 generalize x.2.2.1.take (8 * ow.length) = tk at *
 have key := Qfu (step := l_ci_3) (γ := denO o_ci_3)
  (fun k (out : List Int) => ((g, (), (), (), p.2.1, ((p.2.1.length : Nat) : Int), ((k : Nat) : Int), ()), ((x.1.1, x.1.2.1, x.1.2.2.1, x.1.2.2.2.1, x.1.2.2.2.2.1, x.1.2.2.2.2.2.1, x.1.2.2.2.2.2.2.1, x.1.2.2.2.2.2.2.2.1, x.1.2.2.2.2.2.2.2.2.1, x.2.1, x.2.2.1, ()), ([], 0, [], false, false, false, 0, [], [], [], [], ()), (x.1.1, x.1.2.1, x.1.2.2.1, x.1.2.2.2.1, x.1.2.2.2.2.1, x.1.2.2.2.2.2.1, x.1.2.2.2.2.2.2.1, x.1.2.2.2.2.2.2.2.1, x.1.2.2.2.2.2.2.2.2.1, tk, out, ()), ()), ()))
  p.2.1.length (QaP (by have := hok.lanes.1; omega)) (fun k out => out.length ≤ 8 * k)
  (fun k out => some (.inl (((), (), ()), (([], 0, [], false, false, false, 0, [], [], [], [], ()), (x.1.1, x.1.2.1, x.1.2.2.1, x.1.2.2.2.1, x.1.2.2.2.2.1, x.1.2.2.2.2.2.1, x.1.2.2.2.2.2.2.1, x.1.2.2.2.2.2.2.2.1, x.1.2.2.2.2.2.2.2.2.1, tk, out ++ QY x.2.2.1 (Qam g false (p.2.1.drop k)), ()), ()), ()))) ?_ 0 [] (by omega) (by simp)
 ·have e0 : ((0 : Nat) : Int) = 0 := rfl
  rw [e0, List.drop_zero, List.nil_append] at key
  show (Qc l_ci_3 lots _).bind _ = _
  rw [key, Obn]
  rfl
 ·rintro rec k out hk ho ih
  have hl4 := hok.lanes.1
  unfold l_ci_3
  dsimp only
  by_cases hlt : k < p.2.1.length
  ·have hln := (QbO hok _ (List.getElem_mem hlt)).2.2.1
   rw [if_pos (lt_t hlt), if_pos nat0, Qx hlt, QaO hlt, Qam, Qai (by omega)]
   by_cases hq : (p.2.1[k]).1 = g
   ·rw [if_pos (by simpa using hq), if_pos hq, Qdp x.2.2.1 _ (by omega) (by omega), Obn]
    dsimp only
    have := QiI x.2.2.1 (p.2.1[k]).2.2.2.1
    rw [if_pos (by omega), ih _ hlt (by rw [List.length_append]; omega), List.append_assoc]
    rfl
   ·rw [if_neg (by simpa using hq), if_neg hq]
    exact ih _ hlt (by omega)
  ·rw [if_neg (lt_f hlt), QbG hlt]
   simp only [Qam, QY, List.flatMap_nil, List.append_nil]
theorem Qjn {x : Qw} {s : QT} {g : Int} (hx : HK x) (hg : isG x.1 g = true) : F_cm (vD (QbU x g), vD (Qeq x.1 s g), ()) = some ((QfJ (QbU x g) (Qeq x.1 s g), ()), ()) := by
 refine Dr.eq ?_
 unfold F_cm
 have e := (QsU (v := setF (QbU x g) (QjO (Qeq x.1 s g))) (w := Qeq x.1 s g) (Qni hx hg)).2
 rw [Qpp] at e
 exact Dr.step e (.ret rfl)
def sdGo (g : Int) : Nat → Int → Qw → QT → Qti
 | 0, k, x, s => if QfJ (QbU x g) (Qeq x.1 s g) = true then (0, 0, true, ()) else (0, k, false, ())
 | r + 1, k, x, s => if QfJ (QbU x g) (Qeq x.1 s g) = true then sdGo g r (k + 1) (QbT x) (if turnG x = g then QmT x s g else s) else (0, k, false, ())
theorem QnJ {g n : Int} {x : Qw} {s : QT} (hx : HK x) (hs : Qav s = 0) (gx : isG x.1 g = true) (hn : 0 ≤ n ∧ n ≤ 200) (cx : x.2.2.2.2.2.1 + n ≤ 1000000) :
  L_ec_10 ((g, (n, ((), ((), ((), ((0 : Int), ())))))), ((sB s, (((0 : Int), ((0 : Int), (false, ()))), (boxH x, ()))), ())) = some (.inl (((), ()), ((sdGo g n.toNat 0 x s, ()), ()))) := by
 refine Dr.eq ?_
 refine QaK (fun m u => ∃ (k : Int) (x' : Qw) (s' : QT), u = ((g, (n, ((), ((), ((), (k, ())))))), ((sB s', (((0 : Int), ((0 : Int), (false, ()))), (boxH x', ()))), ())) ∧ k + (m : Int) = n ∧ 0 ≤ k ∧ HK x' ∧ Qav s' = 0 ∧ isG x'.1 g = true ∧ x'.2.2.2.2.2.1 + (m : Int) ≤ 1000000 ∧ sdGo g m k x' s' = sdGo g n.toNat 0 x s) ?_ n.toNat _ ⟨0, x, s, rfl, by omega, by omega, hx, hs, gx, by omega, rfl⟩ (by rw [Qac]; omega)
 rintro rec m _ ⟨k, x, s, rfl, hk, h0, hx, hs, gx, cx, he⟩ ih
 unfold l_ec_10
 refine Dr.step (Qmu (x := x) hx gx) (.step (QhG (x := s) (p := x.1) hx.pol gx hs) (.step (Qjn (x := x) (s := s) hx gx) ?_))
 cases ha : QfJ (QbU x g) (Qeq x.1 s g) with
 | false =>
  refine Dr.pos rfl (.ret ?_)
  cases m with
  | zero => rw [← he, sdGo, ha]; rfl
  | succ m => rw [← he, sdGo, ha]; rfl
 | true =>
  refine Dr.neg (by simp) ?_
  cases m with
  | zero =>
   have e : k = n := by omega
   refine Dr.pos (by simpa using e) (.ret ?_)
   rw [← he, sdGo, ha]; rfl
  | succ m =>
   have e : ¬ k = n := by omega
   rw [sdGo, ha, if_pos rfl] at he
   have ht0 : F_cn (x, ()) = some ((turnG x, ()), ()) := by
    obtain ⟨t1, _, _, t4⟩ := hx.turn
    unfold F_cn
    dsimp only
    rw [if_pos t1.1, t4]
    rfl
   refine Dr.neg (by simpa using e) (.step ht0 ?_)
   by_cases ht : turnG x = g
   ·rw [if_pos ht] at he
    refine Dr.pos (by simpa using ht) (.step (Qld hx gx hs) (.step (Qhv hx (by omega)) ?_))
    dsimp only
    rw [Qr (n := k + 1) (by omega) (by omega)]
    refine ih m _ (by omega) ⟨k + 1, QbT x, QmT x s g, rfl, by omega, by omega, hx.next (by omega), QmU g hx hs, gx, ?_, he⟩
    show x.2.2.2.2.2.1 + 1 + (m : Int) ≤ 1000000
    omega
   ·rw [if_neg ht] at he
    refine Dr.neg (by simpa using ht) (.step (Qhv hx (by omega)) ?_)
    dsimp only
    rw [Qr (n := k + 1) (by omega) (by omega)]
    refine ih m _ (by omega) ⟨k + 1, QbT x, s, rfl, by omega, by omega, hx.next (by omega), hs, gx, ?_, he⟩
    show x.2.2.2.2.2.1 + 1 + (m : Int) ≤ 1000000
    omega
def sdM (x : Qw) (s : QT) (g n : Int) : Qti :=
 if QbI x ≠ 0 then (QbI x, 0, false, ())
 else if Qav s ≠ 0 then (Qav s, 0, false, ())
 else if isG x.1 g = true then
  if Qcg x n = true then sdGo g n.toNat 0 x s else (3, 0, false, ())
 else (4, 0, false, ())
theorem Qrg (x : Qw) (s : QT) (g n : Int) (lx : Qio 1048576 x) (ls : Qoi 1048576 s) : F_ec (x, s, g, n, ()) = some ((sdM x s g n, ()), ()) := by
 refine Dr.eq ?_
 unfold F_ec sdM
 have f1 := QbW (QbI x) (Qav s)
 refine Dr.step (Qmm x lx) (.step (Qmq s ls) ?_)
 by_cases h1 : QbI x = 0
 case neg =>
  rw [if_pos h1] at f1
  refine Dr.step f1 ?_
  dsimp only
  rw [if_neg (by simpa using h1)]
  have f2 := QbW (QbI x) (if Qcg x n = true then 0 else 3)
  rw [if_pos h1] at f2
  refine Dr.step (QcA x n) (.step f2 ?_)
  dsimp only
  rw [if_pos (by simpa using h1), if_pos h1]
  exact Dr.ret rfl
 rw [if_neg (by simpa using h1)] at f1
 refine Dr.step f1 ?_
 dsimp only
 by_cases h2 : Qav s = 0
 case neg =>
  rw [if_neg (by simpa using h2)]
  have f2 := QbW (Qav s) (if Qcg x n = true then 0 else 3)
  rw [if_pos h2] at f2
  refine Dr.step (QcA x n) (.step f2 ?_)
  dsimp only
  rw [if_pos (by simpa using h2), if_neg (by simpa using h1), if_pos h2]
  exact Dr.ret rfl
 rw [if_pos (by simpa using h2), if_neg (by simpa using h1), if_neg (by simpa using h2)]
 have hx := HK.of h1
 refine Dr.step (QcW x.1 g lx.1.1.1) ?_
 dsimp only
 by_cases h3 : isG x.1 g = true
 case neg =>
  rw [if_pos (by simpa using h3), if_neg h3]
  refine Dr.step (QcA x n) (.step (QbW _ _) ?_)
  dsimp only
  rw [if_pos (show (4 : Int) ≠ 0 by decide), if_pos (by decide)]
  exact Dr.ret rfl
 rw [if_neg (by simpa using h3), if_pos h3]
 have f2 := QbW (Qav s) (if Qcg x n = true then 0 else 3)
 rw [if_neg (show ¬ Qav s ≠ 0 by simpa using h2)] at f2
 refine Dr.step (QcA x n) (.step f2 ?_)
 dsimp only
 by_cases h5 : Qcg x n = true
 case neg =>
  rw [if_neg h5, if_neg h5, if_pos (by decide)]
  exact Dr.ret rfl
 rw [if_pos h5, if_pos h5, if_neg (by decide)]
 have s1 := Qqv hx h5
 exact Dr.step (Qmj hx) (.step (QnJ hx h2 h3 s1.1 s1.2) (.ret rfl))
abbrev pgAt (l : List TwoD) (k : Nat) : TwoD := l.getD k (-1, 0, ())
theorem QdD {α : Type} {l : List α} {k : Nat} {d : α} : l.getD k d = (l[k]?).getD d := List.getD_eq_getElem?_getD
theorem QoT {m : List Int} {a : Int} {o : Nat} (ho : o < 8) : (pg m a).getD o 0 = m.getD (8 * a.toNat + o) 0 := by
 unfold pg
 rw [QdD, QdD, List.getElem?_take, if_pos ho, List.getElem?_drop]
theorem Qhh {m : List Int} {a b : Int} {o : Nat} {w : Int} (ho : o < 8) (ha : 0 ≤ a) (hb : 0 ≤ b) : pg (m.set (8 * a.toNat + o) w) b = if a = b then (pg m b).set o w else pg m b := by
 unfold pg
 by_cases h : a = b
 ·subst h
  rw [if_pos rfl]
  apply List.ext_getElem?
  intro i
  by_cases hi : i < 8
  ·simp only [List.getElem?_take, if_pos hi, List.getElem?_drop, List.getElem?_set, List.length_take, List.length_drop]
   by_cases e : o = i
   ·subst e
    simp only [if_true]
    by_cases hl : 8 * a.toNat + o < m.length
    ·rw [if_pos hl, if_pos (by omega)]
    ·rw [if_neg hl, if_neg (by omega)]
   ·rw [if_neg (by omega), if_neg e]
  ·rw [List.getElem?_eq_none (by simp; omega), List.getElem?_eq_none (by simp; omega)]
 ·rw [if_neg h]
  apply List.ext_getElem?
  intro i
  by_cases hi : i < 8
  ·simp only [List.getElem?_take, if_pos hi, List.getElem?_drop, List.getElem?_set]
   rw [if_neg (by omega)]
  ·rw [List.getElem?_eq_none (by simp; omega), List.getElem?_eq_none (by simp; omega)]
structure Sim (l l' : List TwoD) (m m' : List Int) : Prop where
 len : l.length = 8 ∧ l'.length = 8
 kind : ∀ k, k < 8 → (pgAt l' k).2 = (pgAt l k).2
 neg : ∀ k, k < 8 → (0 ≤ (pgAt l k).1 ↔ 0 ≤ (pgAt l' k).1)
 top : ∀ k, k < 8 → (pgAt l k).1 ≤ 23 ∧ (pgAt l' k).1 ≤ 23
 inj : ∀ i j, i < 8 → j < 8 → 0 ≤ (pgAt l i).1 → (pgAt l i).1 = (pgAt l j).1 → i = j
 inj' : ∀ i j, i < 8 → j < 8 → 0 ≤ (pgAt l' i).1 → (pgAt l' i).1 = (pgAt l' j).1 → i = j
 same : ∀ k, k < 8 → 0 ≤ (pgAt l k).1 → pg m (pgAt l k).1 = pg m' (pgAt l' k).1
section
variable {l l' : List TwoD} {m m' cs : List Int}
def Spot (l l' : List TwoD) (kind : Int) (x y : Int) : Prop := ∃ k o : Nat, k < 8 ∧ o < 8 ∧ 0 ≤ (pgAt l k).1 ∧ mayP (pgAt l k) kind = true ∧ x = (pgAt l k).1 * 8 + (o : Int) ∧ y = (pgAt l' k).1 * 8 + (o : Int)
theorem Sim.walk (h : Sim l l' m m') (at_ kind : Int) : (Qag l at_ kind = -1 ∧ Qag l' at_ kind = -1) ∨
  ∃ k o : Nat, k < 8 ∧ o < 8 ∧ at_ = 8 * (k : Int) + (o : Int) ∧ 0 ≤ (pgAt l k).1 ∧ mayP (pgAt l k) kind = true ∧ Qag l at_ kind = (pgAt l k).1 * 8 + (o : Int) ∧ Qag l' at_ kind = (pgAt l' k).1 * 8 + (o : Int) := by
 unfold Qag
 by_cases ha : 0 ≤ at_ ∧ at_ ≤ 63
 ·rw [if_pos ha, if_pos ha]
  have hk : (at_ / 8).toNat < 8 := by omega
  have e : mayP (l'.getD (at_ / 8).toNat (-1, 0, ())) kind = mayP (l.getD (at_ / 8).toNat (-1, 0, ())) kind := by
   unfold mayP
   rw [show (l'.getD (at_ / 8).toNat (-1, 0, ())).2.1 = (l.getD (at_ / 8).toNat (-1, 0, ())).2.1 from congrArg (·.1) (h.kind _ hk), decide_eq_decide.2 (h.neg _ hk)]
  rw [e]
  by_cases hm : mayP (l.getD (at_ / 8).toNat (-1, 0, ())) kind = true
  ·rw [if_pos hm, if_pos hm]
   refine .inr ⟨(at_ / 8).toNat, (at_ % 8).toNat, hk, by omega, by omega, ?_, hm, by dsimp only [pgAt]; omega, by dsimp only [pgAt]; omega⟩
   simp only [mayP, Bool.and_eq_true, decide_eq_true_eq] at hm
   exact hm.1
  ·rw [if_neg hm, if_neg hm]; exact .inl ⟨rfl, rfl⟩
 ·rw [if_neg ha, if_neg ha]; exact .inl ⟨rfl, rfl⟩
theorem Sim.space (h : Sim l l' m m') (cs : List Int) : Qcs cs l m = Qcs cs l' m' := by
 unfold Qcs
 by_cases h0 : cs.getD 10 0 = 0
 ·rw [if_pos h0, if_pos h0]
 by_cases h8 : cs.getD 10 0 = 8
 ·rw [if_neg h0, if_neg h0, if_pos h8, if_pos h8]
 rw [if_neg h0, if_neg h0, if_neg h8, if_neg h8]
 rcases h.walk ((cs.getD 10 0 - 1) * 8) 1 with ⟨e1, e2⟩ | ⟨k, o, hk, ho, ha, hp, _, e1, e2⟩
 ·rw [e1, e2]; rfl
 ·have hp' := (h.neg k hk).1 hp
  have o0 : o = 0 := by omega
  subst o0
  rw [if_neg (by omega), if_neg (by omega), e1, e2]
  have := h.same k hk hp
  unfold pg at this
  rw [show ((pgAt l k).1 * 8 + ((0 : Nat) : Int)).toNat = 8 * (pgAt l k).1.toNat by omega, show ((pgAt l' k).1 * 8 + ((0 : Nat) : Int)).toNat = 8 * (pgAt l' k).1.toNat by omega, this]
theorem Sim.place (h : Sim l l' m m') (cs : List Int) (at_ kind : Int) :
  (Qt cs l m at_ kind = Qt cs l' m' at_ kind ∧ ((Qt cs l m at_ kind).2 = 0 → 1000 ≤ (Qt cs l m at_ kind).1 ∧ kind ≠ 4)) ∨
  ((Qt cs l m at_ kind).2 = 0 ∧ (Qt cs l' m' at_ kind).2 = 0 ∧ Spot l l' kind (Qt cs l m at_ kind).1 (Qt cs l' m' at_ kind).1) := by
 unfold Qt
 rw [← h.space cs]
 cases Qcs cs l m with
 | none => exact .inl ⟨rfl, fun h => by simp at h⟩
 | some s =>
  dsimp only
  by_cases c1 : Qag s at_ kind < 0
  ·rw [if_pos c1, if_pos c1]; exact .inl ⟨rfl, fun h => absurd h (QcS kind)⟩
  rw [if_neg c1, if_neg c1]
  by_cases c2 : Qag s at_ kind / 8 = 7
  ·rw [if_pos c2, if_pos c2]
   refine .inl ⟨rfl, fun hz => ?_⟩
   by_cases c3 : kind = 4
   ·rw [if_pos c3] at hz; simp at hz
   ·rw [if_neg c3]; dsimp only; omega
  rw [if_neg c2, if_neg c2]
  rcases h.walk (Qag s at_ kind) kind with ⟨e1, e2⟩ | ⟨k, o, hk, ho, ha, hp, hm, e1, e2⟩
  ·rw [e1, e2]; exact .inl ⟨rfl, fun h => absurd h (QcS kind)⟩
  ·have hp' := (h.neg k hk).1 hp
   rw [e1, e2, if_neg (by omega), if_neg (by omega)]
   exact .inr ⟨rfl, rfl, k, o, hk, ho, hp, hm, rfl, rfl⟩
theorem Sim.spot {kind x y : Int} (h : Sim l l' m m') (hs : Spot l l' kind x y) : (0 ≤ x ∧ x < 1000) ∧ (0 ≤ y ∧ y < 1000) ∧ m.getD x.toNat 0 = m'.getD y.toNat 0 ∧ ∀ w, Sim l l' (m.set x.toNat w) (m'.set y.toNat w) := by
 obtain ⟨k, o, hk, ho, hp, _, rfl, rfl⟩ := hs
 have hp' := (h.neg k hk).1 hp
 have ht := h.top k hk
 have ex : ((pgAt l k).1 * 8 + (o : Int)).toNat = 8 * (pgAt l k).1.toNat + o := by omega
 have ey : ((pgAt l' k).1 * 8 + (o : Int)).toNat = 8 * (pgAt l' k).1.toNat + o := by omega
 rw [ex, ey]
 refine ⟨by omega, by omega, ?_, fun w => ?_⟩
 ·rw [← QoT ho, ← QoT ho, h.same k hk hp]
 ·refine { h with same := fun j hj hq => ?_ }
  have hq' := (h.neg j hj).1 hq
  rw [Qhh ho hp hq, Qhh ho hp' hq', h.same j hj hq]
  by_cases e : k = j
  ·subst e; rw [if_pos rfl, if_pos rfl]
  ·rw [if_neg fun c => e (h.inj k j hk hj hp c), if_neg fun c => e (h.inj' k j hk hj hp' c)]
def Like (l l' : List TwoD) (s t : Mc) : Prop := t = { s with m := t.m } ∧ Sim l l' s.m t.m
def Qej (l l' : List TwoD) (x y : Bool × Int × Int × Mc) : Prop := x.1 = y.1 ∧ x.2.1 = y.2.1 ∧ x.2.2.1 = y.2.2.1 ∧ Like l l' x.2.2.2 y.2.2.2
theorem Qgt {b : Bool} {n r : Int} {s t : Mc} (h : Like l l' s t) : Qej l l' (b, n, r, s) (b, n, r, t) := ⟨rfl, rfl, rfl, h⟩
theorem Qat {α : Type} {R : α → α → Prop} {c : Prop} [Decidable c] {a b x y : α} (h1 : c → R a x) (h2 : ¬ c → R b y) : R (if c then a else b) (if c then x else y) := by
 by_cases h : c
 ·rw [if_pos h, if_pos h]; exact h1 h
 ·rw [if_neg h, if_neg h]; exact h2 h
theorem QqV {s : Mc} (h : Sim l l' s.m m') (op d a i : Int) : Qej l l' (exM s l op d a i) (exM { s with m := m' } l' op d a i) := by
 unfold exM
 dsimp only
 have t : ∀ {c v : Int}, Qej l l' (false, 0, 0, s.trap c v) (false, 0, 0, Mc.trap { s with m := m' } c v) := Qgt ⟨rfl, h⟩
 refine Qat (R := Qej l l') (fun _ => Qgt ⟨rfl, h⟩) fun _ => Qat (R := Qej l l') (fun _ => Qgt ⟨rfl, h⟩) fun _ => Qat (R := Qej l l') (fun _ => ?_) fun _ => Qat (R := Qej l l') (fun _ => ?_) fun _ => ?_
 ·rcases h.place s.cs (addW (s.r.getD a.toNat 0) (off i)) 1 with ⟨e, hd⟩ | ⟨e1, e2, hs⟩
  ·rw [← e]
   exact Qat (R := Qej l l') (fun _ => t) fun c => Qat (R := Qej l l') (fun _ => Qgt ⟨rfl, h⟩) fun c2 => absurd (hd (by simpa using c)).1 c2
  ·obtain ⟨hx, hy, e3, _⟩ := h.spot hs
   rw [if_neg (c := (Qt s.cs l s.m (addW (s.r.getD a.toNat 0) (off i)) 1).2 ≠ 0) (by rw [e1]; simp), if_neg (c := (Qt s.cs l' m' (addW (s.r.getD a.toNat 0) (off i)) 1).2 ≠ 0) (by rw [e2]; simp), if_neg (c := 1000 ≤ (Qt s.cs l s.m (addW (s.r.getD a.toNat 0) (off i)) 1).1) (by omega), if_neg (c := 1000 ≤ (Qt s.cs l' m' (addW (s.r.getD a.toNat 0) (off i)) 1).1) (by omega), e3]
   exact Qgt ⟨rfl, h⟩
 ·rcases h.place s.cs (addW (s.r.getD a.toNat 0) (off i)) 2 with ⟨e, hd⟩ | ⟨e1, e2, hs⟩
  ·rw [← e]
   exact Qat (R := Qej l l') (fun _ => t) fun c => Qat (R := Qej l l') (fun _ => Qgt ⟨rfl, h⟩) fun c2 => absurd (hd (by simpa using c)).1 c2
  ·generalize Qt s.cs l s.m (addW (s.r.getD a.toNat 0) (off i)) 2 = P at e1 hs ⊢
   generalize Qt s.cs l' m' (addW (s.r.getD a.toNat 0) (off i)) 2 = Q at e2 hs ⊢
   obtain ⟨hx, hy, _, e3⟩ := h.spot hs
   rw [if_neg (c := P.2 ≠ 0) (by rw [e1]; simp), if_neg (c := Q.2 ≠ 0) (by rw [e2]; simp), if_neg (c := 1000 ≤ P.1) (by omega), if_neg (c := 1000 ≤ Q.1) (by omega)]
   exact Qgt ⟨rfl, e3 _⟩
 repeat' (refine Qat (R := Qej l l') (fun _ => Qgt ⟨rfl, h⟩) fun _ => ?_)
 exact Qgt ⟨rfl, h⟩
theorem QqT {s : Mc} (h : Sim l l' s.m m') (op d a i : Int) : (doM s l op d a i).1 = (doM { s with m := m' } l' op d a i).1 ∧ Like l l' (doM s l op d a i).2 (doM { s with m := m' } l' op d a i).2 := by
 have hx := QqV h op d a i
 unfold doM
 dsimp only
 generalize exM s l op d a i = x at hx
 generalize exM { s with m := m' } l' op d a i = y at hx
 obtain ⟨x1, x2, x3, x4⟩ := x
 obtain ⟨y1, y2, y3, y4⟩ := y
 obtain ⟨e1, e2, e3, e4, e5⟩ := hx
 dsimp only at e1 e2 e3 e4 e5 ⊢
 subst e1 e2 e3
 rw [e4]
 dsimp only
 split
 ·exact ⟨rfl, rfl, e5⟩
 ·exact ⟨rfl, rfl, e5⟩
theorem Qkt {s : Mc} (h : Sim l l' s.m m') : Like l l' (runM s l) (runM { s with m := m' } l') := by
 have t : ∀ {c v : Int}, Like l l' (s.trap c v) (Mc.trap { s with m := m' } c v) := ⟨rfl, h⟩
 unfold runM
 dsimp only
 have k : ∀ w : Int, Like l l' (if decF w = 0 then (if (doM s l (decM w).1 (decM w).2.1 (decM w).2.2.1 (decM w).2.2.2.1).1 = true then Qfw (doM s l (decM w).1 (decM w).2.1 (decM w).2.2.1 (decM w).2.2.2.1).2 else (doM s l (decM w).1 (decM w).2.1 (decM w).2.2.1 (decM w).2.2.2.1).2) else s.trap 1 w)
   (if decF w = 0 then (if (doM { s with m := m' } l' (decM w).1 (decM w).2.1 (decM w).2.2.1 (decM w).2.2.2.1).1 = true then Qfw (doM { s with m := m' } l' (decM w).1 (decM w).2.1 (decM w).2.2.1 (decM w).2.2.2.1).2 else (doM { s with m := m' } l' (decM w).1 (decM w).2.1 (decM w).2.2.1 (decM w).2.2.2.1).2) else Mc.trap { s with m := m' } 1 w) := fun w => by
  refine Qat (R := Like l l') (fun _ => ?_) fun _ => t
  obtain ⟨e1, e2, e3⟩ := QqT h (decM w).1 (decM w).2.1 (decM w).2.2.1 (decM w).2.2.2.1
  rw [← e1]
  refine Qat (R := Like l l') (fun _ => ⟨?_, e3⟩) fun _ => ⟨e2, e3⟩
  unfold Qfw
  rw [e2]
 rcases h.place s.cs s.pc 4 with ⟨e, hd⟩ | ⟨e1, e2, hs⟩
 ·rw [← e]
  refine Qat (R := Like l l') (fun _ => t) fun c => ?_
  have c : (Qt s.cs l s.m s.pc 4).2 = 0 := by simpa using c
  exact absurd rfl (hd c).2
 ·obtain ⟨hx, hy, e3, _⟩ := h.spot hs
  rw [if_neg (c := (Qt s.cs l s.m s.pc 4).2 ≠ 0) (by rw [e1]; simp), if_neg (c := (Qt s.cs l' m' s.pc 4).2 ≠ 0) (by rw [e2]; simp), ← e3]
  exact k _
theorem QiU {s : Mc} (h : Sim l l' s.m m') : Like l l' (QV s l) (QV { s with m := m' } l') := by
 unfold QV
 dsimp only
 refine Qat (R := Like l l') (fun _ => ⟨rfl, h⟩) fun _ => Qat (R := Like l l') (fun _ => ⟨rfl, h⟩) fun _ => Qat (R := Like l l') (fun _ => Qat (R := Like l l') (fun _ => ⟨rfl, h⟩) fun _ => ?_) fun _ => ?_
 ·exact Qkt (s := { s with ring := -1, fall := -1, wa := false }) h
 ·exact Qkt (s := { s with ring := -1, fall := -1 }) h
end
theorem Qcz {α : Type} {l : List α} {i j : Nat} {y d : α} (h : i ≠ j) : (l.set i y).getD j d = l.getD j d := by rw [QdD, QdD, List.getElem?_set_ne h]
theorem Qdo {α : Type} {l : List α} {i : Nat} {y d : α} (h : i < l.length) : (l.set i y).getD i d = y := by rw [QdD, List.getElem?_set_self h]; rfl
theorem gget {α : Type} {l : List α} {i : Nat} {d : α} (h : i < l.length) : l.getD i d = l[i] := by rw [QdD, List.getElem?_eq_getElem h]; rfl
theorem Qib : ∀ {l seen : List Int}, dupM seen l = false → l.Nodup ∧ ∀ x ∈ l, x ∉ seen
 | [], _, _ => ⟨List.nodup_nil, by simp⟩
 | x :: r, seen, h => by
  simp only [dupM, Bool.or_eq_false_iff] at h
  obtain ⟨h1, h2⟩ := Qib h.2
  have hx : x ∉ seen := by simpa using h.1
  refine ⟨List.nodup_cons.2 ⟨fun hm => h2 x hm (by simp), h1⟩, fun y hy => ?_⟩
  rcases List.mem_cons.1 hy with rfl | hy
  ·exact hx
  ·exact fun hm => h2 y hy (List.mem_append_left _ hm)
theorem Qff {p : PolD} (hok : OkPol p) : (∀ l ∈ p.1, l.Nodup) ∧ p.1.Pairwise fun a b => ∀ x ∈ a, ∀ y ∈ b, x ≠ y := by
 have := (Qib hok.nodup).1
 unfold List.Nodup at this
 rw [List.pairwise_flatten] at this
 exact this
abbrev ownL (p : PolD) (g : Int) : List Int := p.1.getD g.toNat []
theorem Qql {p : PolD} (hok : OkPol p) {g t : Int} (hg : isG p g = true) (ht : isG p t = true) (hne : t ≠ g) {x : Int} (h1 : x ∈ ownL p g) (h2 : x ∈ ownL p t) : False := by
 have a := Qby.1 hg
 have b := Qby.1 ht
 have hp := List.pairwise_iff_getElem.1 (Qff hok).2
 rw [ownL, gget (by omega)] at h1 h2
 rcases Nat.lt_or_gt_of_ne (show g.toNat ≠ t.toNat by omega) with c | c
 ·exact hp g.toNat t.toNat (by omega) (by omega) c x h1 x h2 rfl
 ·exact hp t.toNat g.toNat (by omega) (by omega) c x h2 x h1 rfl
theorem QjX {p : PolD} (hok : OkPol p) {j : Nat} (hj : j < p.2.1.length) : QdE p p.2.1[j] (p.2.1.take j) = 0 := by
 have e := hok.lanes.2
 unfold QbJ at e
 have := Qli (Qfj e j hj)
 rw [Nat.zero_add] at this
 exact this
theorem Qgs {p : PolD} (hok : OkPol p) : p.2.1.Pairwise fun o l => clash l o = false := by
 rw [List.pairwise_iff_getElem]
 intro i j hi hj hij
 have e := QjX hok hj
 unfold QdE at e
 split at e
 ·rename_i h; exact absurd e h
 split at e
 ·split at e
  ·cases e
  ·split at e
   ·cases e
   ·rename_i h
    have h : (p.2.1.take j).any (clash p.2.1[j]) = false := by simpa using h
    rw [List.any_eq_false] at h
    have := h p.2.1[i] (by
     rw [← List.getElem_take (j := j) (h := by rw [List.length_take]; omega)]
     exact List.getElem_mem _)
    simpa using this
 ·cases e
theorem Qfa {p : PolD} (hok : OkPol p) {x : QD} (hx : x ∈ p.2.1) {l : List Int} (hl : l ∈ p.1) : x.2.2.1 ∉ l := by
 obtain ⟨j, hj, rfl⟩ := List.mem_iff_getElem.1 hx
 have e := QjX hok hj
 unfold QdE at e
 split at e
 ·rename_i h; exact absurd e h
 split at e
 ·split at e
  ·cases e
  ·rename_i h
   intro hm
   apply h
   rw [Qbk, decide_eq_true_eq]
   unfold QeH
   cases hs : scan (fun i (l : List Int) => if l.contains p.2.1[j].2.2.1 = true then some ((i : Nat) : Int) else none) 0 p.1 with
   | none =>
    obtain ⟨i, hi⟩ := QaR hs l hl
    rw [if_pos (by simpa using hm)] at hi
    cases hi
   | some k =>
    refine QcI (P := fun c : Int => 0 ≤ c) (fun i hi c hc => ?_) _ hs
    split at hc
    ·obtain rfl := Osj hc; omega
    ·cases hc
 ·cases e
theorem QdF {p : PolD} (hok : OkPol p) {x y : QD} (hx : x ∈ p.2.1) (hy : y ∈ p.2.1) (h : x.2.2.1 = y.2.2.1) : x = y := by
 obtain ⟨i, hi, rfl⟩ := List.mem_iff_getElem.1 hx
 obtain ⟨j, hj, rfl⟩ := List.mem_iff_getElem.1 hy
 have hp := List.pairwise_iff_getElem.1 (Qgs hok)
 have key : ∀ {i j : Nat} (hi : i < p.2.1.length) (hj : j < p.2.1.length), i < j → p.2.1[i].2.2.1 = p.2.1[j].2.2.1 → False := fun hi hj hij e => by
  have := hp _ _ hi hj hij
  unfold clash at this
  rw [e] at this
  simp at this
 rcases Nat.lt_trichotomy i j with c | c | c
 ·exact (key hi hj c h).elim
 ·subst c; rfl
 ·exact (key hj hi c h.symm).elim
theorem Qgw : ∀ (r : List Int) (k : Nat) (l : List TwoD) (j : Nat), k + r.length ≤ l.length → pgAt (QbP k r l) j = if k ≤ j ∧ j < k + r.length then (r.getD (j - k) 0, 7, ()) else pgAt l j
 | [], k, l, j, _ => by rw [if_neg (by simp only [List.length_nil]; omega)]; rfl
 | p :: r, k, l, j, h => by
  simp only [List.length_cons] at h
  rw [QbP, Qgw r (k + 1) _ j (by rw [List.length_set]; omega)]
  simp only [List.length_cons]
  by_cases e : j = k
  ·subst e
   rw [if_neg (by omega), if_pos (by omega), Nat.sub_self]
   exact Qdo (by omega)
  ·by_cases c : k + 1 ≤ j ∧ j < k + 1 + r.length
   ·rw [if_pos c, if_pos (by omega), show j - k = (j - (k + 1)) + 1 by omega]; rfl
   ·rw [if_neg c, if_neg (by omega)]; exact Qcz (Ne.symm e)
theorem QoA (j : Nat) : pgAt QbC j = (-1, 0, ()) := by
 match j with
 | 0 | 1 | 2 | 3 | 4 | 5 | 6 | 7 => rfl
 | n + 8 => rfl
theorem QcX {x : QD} {g k : Int} : Qbb x g k = true ↔ (x.1 = g ∧ x.2.2.2.1 = k) ∨ (x.2.1 = g ∧ x.2.2.2.2.1 = k) := by
 unfold Qbb
 simp
theorem Qsq {l o : QD} : clash l o = false ↔ o.2.2.1 ≠ l.2.2.1 ∧ ¬ (Qbb o l.1 l.2.2.2.1 = true) ∧ ¬ (Qbb o l.2.1 l.2.2.2.2.1 = true) := by
 unfold clash
 simp [Bool.or_eq_false_iff]
theorem QgT {z x : QD} (h : clash z x = false) {g k : Int} (hx : Qbb x g k = true) : Qbb z g k = false := by
 obtain ⟨_, h1, h2⟩ := Qsq.1 h
 rw [← Bool.not_eq_true]
 intro hz
 rcases QcX.1 hz with ⟨a, b⟩ | ⟨a, b⟩
 ·exact h1 (by rw [a, b]; exact hx)
 ·exact h2 (by rw [a, b]; exact hx)
def QdR (x : QD) : Prop := x.1 ≠ x.2.1 ∧ (5 ≤ x.2.2.2.1 ∧ x.2.2.2.1 ≤ 6) ∧ (5 ≤ x.2.2.2.2.1 ∧ x.2.2.2.2.1 ≤ 6)
theorem Qgr {g : Int} {x : QD} (hx : QdR x) {l : List TwoD} (hl : l.length = 8) (k : Nat) : pgAt (Qdq g x l) k = if x.1 = g ∧ x.2.2.2.1 = (k : Int) then (x.2.2.1, 3, ()) else if x.2.1 = g ∧ x.2.2.2.2.1 = (k : Int) then (x.2.2.1, 1, ()) else pgAt l k := by
 obtain ⟨h0, h1, h2⟩ := hx
 unfold Qdq
 dsimp only
 by_cases a : x.1 = g
 ·have b : ¬ x.2.1 = g := fun b => h0 (a.trans b.symm)
  rw [if_neg b, if_pos a, if_neg (c := x.2.1 = g ∧ _) (fun c => b c.1)]
  by_cases c : x.2.2.2.1 = (k : Int)
  ·rw [if_pos ⟨a, c⟩, show x.2.2.2.1.toNat = k by omega]; exact Qdo (by omega)
  ·rw [if_neg (fun d => c d.2)]; exact Qcz (by omega)
 ·rw [if_neg a, if_neg (c := x.1 = g ∧ _) (fun c => a c.1)]
  by_cases b : x.2.1 = g
  ·rw [if_pos b]
   by_cases c : x.2.2.2.2.1 = (k : Int)
   ·rw [if_pos ⟨b, c⟩, show x.2.2.2.2.1.toNat = k by omega]; exact Qdo (by omega)
   ·rw [if_neg (fun d => c d.2)]; exact Qcz (by omega)
  ·rw [if_neg b, if_neg (fun c => b c.1)]
theorem Qdr {g : Int} {k : Nat} : ∀ (r : List QD) (l : List TwoD), l.length = 8 → (∀ x ∈ r, QdR x) → (∀ x ∈ r, Qbb x g (k : Int) = false) → pgAt (QaL g r l) k = pgAt l k
 | [], _, _, _, _ => rfl
 | x :: r, l, hl, h1, h2 => by
  rw [QaL, Qdr r _ (by rw [Qbz]; exact hl) (fun y hy => h1 y (List.mem_cons_of_mem _ hy)) (fun y hy => h2 y (List.mem_cons_of_mem _ hy)), Qgr (h1 x (by simp)) hl]
  have := h2 x (by simp)
  have : ¬ Qbb x g (k : Int) = true := by rw [this]; simp
  rw [QcX] at this
  rw [if_neg fun c => this (.inl c), if_neg fun c => this (.inr c)]
theorem Qhw {g : Int} {x : QD} : ∀ (r : List QD) (l : List TwoD), l.length = 8 → (∀ y ∈ r, QdR y) → r.Pairwise (fun o l => clash l o = false) → x ∈ r → x.1 = g → pgAt (QaL g r l) x.2.2.2.1.toNat = (x.2.2.1, 3, ())
 | y :: r, l, hl, h1, h2, hx, hg => by
  rw [List.pairwise_cons] at h2
  rw [QaL]
  rcases List.mem_cons.1 hx with rfl | hx
  ·have b := h1 x (by simp)
   have e : ((x.2.2.2.1.toNat : Nat) : Int) = x.2.2.2.1 := by have := b.2.1; omega
   rw [Qdr r _ (by rw [Qbz]; exact hl) (fun y hy => h1 y (List.mem_cons_of_mem _ hy)) (fun z hz => QgT (h2.1 z hz) (QcX.2 (.inl ⟨hg, e.symm⟩))), Qgr b hl, if_pos ⟨hg, e.symm⟩]
  ·exact Qhw r _ (by rw [Qbz]; exact hl) (fun y hy => h1 y (List.mem_cons_of_mem _ hy)) h2.2 hx hg
theorem QjW {g : Int} {x : QD} : ∀ (r : List QD) (l : List TwoD), l.length = 8 → (∀ y ∈ r, QdR y) → r.Pairwise (fun o l => clash l o = false) → x ∈ r → x.2.1 = g → pgAt (QaL g r l) x.2.2.2.2.1.toNat = (x.2.2.1, 1, ())
 | y :: r, l, hl, h1, h2, hx, hg => by
  rw [List.pairwise_cons] at h2
  rw [QaL]
  rcases List.mem_cons.1 hx with rfl | hx
  ·have b := h1 x (by simp)
   have e : ((x.2.2.2.2.1.toNat : Nat) : Int) = x.2.2.2.2.1 := by have := b.2.2; omega
   rw [Qdr r _ (by rw [Qbz]; exact hl) (fun y hy => h1 y (List.mem_cons_of_mem _ hy)) (fun z hz => QgT (h2.1 z hz) (QcX.2 (.inr ⟨hg, e.symm⟩))), Qgr b hl, if_neg (fun c => b.1 (c.1.trans hg.symm)), if_pos ⟨hg, e.symm⟩]
  ·exact QjW r _ (by rw [Qbz]; exact hl) (fun y hy => h1 y (List.mem_cons_of_mem _ hy)) h2.2 hx hg
theorem Qec {g : Int} {k : Nat} : ∀ (r : List QD) (l : List TwoD), l.length = 8 → (∀ y ∈ r, QdR y) → pgAt (QaL g r l) k = pgAt l k ∨
  (∃ x ∈ r, x.1 = g ∧ x.2.2.2.1 = (k : Int) ∧ pgAt (QaL g r l) k = (x.2.2.1, 3, ())) ∨ (∃ x ∈ r, x.2.1 = g ∧ x.2.2.2.2.1 = (k : Int) ∧ pgAt (QaL g r l) k = (x.2.2.1, 1, ()))
 | [], _, _, _ => .inl rfl
 | y :: r, l, hl, h1 => by
  rw [QaL]
  rcases Qec (k := k) r (Qdq g y l) (by rw [Qbz]; exact hl) (fun y hy => h1 y (List.mem_cons_of_mem _ hy)) with e | ⟨x, hx, e⟩ | ⟨x, hx, e⟩
  ·rw [e, Qgr (h1 y (by simp)) hl]
   by_cases a : y.1 = g ∧ y.2.2.2.1 = (k : Int)
   ·rw [if_pos a]; exact .inr (.inl ⟨y, by simp, a.1, a.2, rfl⟩)
   ·rw [if_neg a]
    by_cases b : y.2.1 = g ∧ y.2.2.2.2.1 = (k : Int)
    ·rw [if_pos b]; exact .inr (.inr ⟨y, by simp, b.1, b.2, rfl⟩)
    ·rw [if_neg b]; exact .inl rfl
  ·exact .inr (.inl ⟨x, List.mem_cons_of_mem _ hx, e⟩)
  ·exact .inr (.inr ⟨x, List.mem_cons_of_mem _ hx, e⟩)
theorem Qbn {p : PolD} (hok : OkPol p) : ∀ x ∈ p.2.1, QdR x := fun x hx => by
 have := QbO hok x hx
 exact ⟨this.1.2.2, this.2.2.1, this.2.2.2⟩
theorem Qbo {p : PolD} {g : Int} (hok : OkPol p) (hg : isG p g = true) : 1 ≤ (ownL p g).length ∧ (ownL p g).length ≤ 5 := by
 have := hok.own1 _ (QcD hok hg)
 exact ⟨this.1, this.2.1⟩
theorem own8 (p : PolD) (g : Int) : (QbP 0 (ownL p g) QbC).length = 8 := by rw [Qfe]; rfl
theorem Qlp {p : PolD} {g : Int} (hok : OkPol p) (hg : isG p g = true) {k : Nat} (hk : k < (ownL p g).length) : pgAt (pgM p g) k = ((ownL p g).getD k 0, 7, ()) := by
 have h5 := (Qbo hok hg).2
 unfold pgM
 rw [Qdr _ _ (own8 p g) (Qbn hok) (fun x hx => ?_), Qgw _ _ _ _ (by show 0 + (ownL p g).length ≤ 8; omega), if_pos (by omega), Nat.sub_zero]
 have hx := Qbn hok x hx
 rw [← Bool.not_eq_true, QcX]
 have := hx.2
 omega
theorem QgA {p : PolD} {g : Int} (hok : OkPol p) (hg : isG p g = true) {x : QD} (hx : x ∈ p.2.1) (h : x.1 = g) : pgAt (pgM p g) x.2.2.2.1.toNat = (x.2.2.1, 3, ()) := Qhw _ _ (own8 p g) (Qbn hok) (Qgs hok) hx h
theorem Qum {p : PolD} {g : Int} (hok : OkPol p) (hg : isG p g = true) {x : QD} (hx : x ∈ p.2.1) (h : x.2.1 = g) : pgAt (pgM p g) x.2.2.2.2.1.toNat = (x.2.2.1, 1, ()) := QjW _ _ (own8 p g) (Qbn hok) (Qgs hok) hx h
theorem QeK {p : PolD} {g : Int} (hok : OkPol p) (hg : isG p g = true) {k : Nat} (h0 : 0 ≤ (pgAt (pgM p g) k).1) : (k < (ownL p g).length ∧ pgAt (pgM p g) k = ((ownL p g).getD k 0, 7, ())) ∨
  (∃ x ∈ p.2.1, x.1 = g ∧ x.2.2.2.1 = (k : Int) ∧ pgAt (pgM p g) k = (x.2.2.1, 3, ())) ∨ (∃ x ∈ p.2.1, x.2.1 = g ∧ x.2.2.2.2.1 = (k : Int) ∧ pgAt (pgM p g) k = (x.2.2.1, 1, ())) := by
 have h5 := (Qbo hok hg).2
 rcases Qec (g := g) (k := k) p.2.1 (QbP 0 (ownL p g) QbC) (own8 p g) (Qbn hok) with e | e | e
 ·refine .inl ?_
  have e : pgAt (pgM p g) k = pgAt (QbP 0 (ownL p g) QbC) k := e
  rw [e, Qgw _ _ _ _ (by show 0 + (ownL p g).length ≤ 8; omega)] at h0 ⊢
  by_cases c : 0 ≤ k ∧ k < 0 + (ownL p g).length
  ·rw [if_pos c] at h0 ⊢
   exact ⟨by omega, by rw [Nat.sub_zero]⟩
  ·rw [if_neg c, QoA] at h0
   exact absurd h0 (by decide)
 ·exact .inr (.inl e)
 ·exact .inr (.inr e)
theorem QeG {p : PolD} {g : Int} {k : Nat} (hk : k < (ownL p g).length) : (ownL p g).getD k 0 ∈ ownL p g := QM hk
theorem QnZ {p : PolD} {g : Int} (hok : OkPol p) (hg : isG p g = true) (i j : Nat) (h0 : 0 ≤ (pgAt (pgM p g) i).1) (he : (pgAt (pgM p g) i).1 = (pgAt (pgM p g) j).1) : i = j := by
 have hm := QcD hok hg
 have nd := List.pairwise_iff_getElem.1 ((Qff hok).1 _ hm)
 have lf := fun {x : QD} (hx : x ∈ p.2.1) => Qfa hok hx hm
 have sep := fun {x : QD} (hx : x ∈ p.2.1) => (Qbn hok x hx).1
 rcases QeK hok hg h0 with ⟨a1, a2⟩ | ⟨x, hx, a1, a2, a3⟩ | ⟨x, hx, a1, a2, a3⟩ <;> rcases QeK hok hg (k := j) (by omega) with ⟨b1, b2⟩ | ⟨y, hy, b1, b2, b3⟩ | ⟨y, hy, b1, b2, b3⟩
 ·rw [a2, b2] at he
  dsimp only at he
  rw [gget a1, gget b1] at he
  rcases Nat.lt_trichotomy i j with c | c | c
  ·exact (nd i j a1 b1 c he).elim
  ·exact c
  ·exact (nd j i b1 a1 c he.symm).elim
 ·rw [a2, b3] at he; exact (lf hy (he ▸ QeG a1)).elim
 ·rw [a2, b3] at he; exact (lf hy (he ▸ QeG a1)).elim
 ·rw [a3, b2] at he; exact (lf hx (he.symm ▸ QeG b1)).elim
 ·rw [a3, b3] at he
  obtain rfl := QdF hok hx hy he
  omega
 ·rw [a3, b3] at he
  obtain rfl := QdF hok hx hy he
  exact (sep hx (a1.trans b1.symm)).elim
 ·rw [a3, b2] at he; exact (lf hx (he.symm ▸ QeG b1)).elim
 ·rw [a3, b3] at he
  obtain rfl := QdF hok hx hy he
  exact (sep hx (b1.trans a1.symm)).elim
 ·rw [a3, b3] at he
  obtain rfl := QdF hok hx hy he
  omega
theorem QrG (p : PolD) (g : Int) {k : Nat} (hk : k < 8) : pgAt (pgM p g) k ∈ pgM p g := QM (by rw [QcE]; exact hk)
theorem Qlq {p : PolD} {g : Int} (hok : OkPol p) (hg : isG p g = true) {k : Nat} (hk : k < 8) : -1 ≤ (pgAt (pgM p g) k).1 ∧ (pgAt (pgM p g) k).1 ≤ 23 := (Qlo hok hg _ (QrG p g hk)).1
theorem Qrw {p : PolD} {g t : Int} (hok : OkPol p) (hg : isG p g = true) (ht : isG p t = true) (hne : t ≠ g) {P : Int} (h0 : 0 ≤ P) (hP : P ∈ ownL p g ∨ ∃ y ∈ p.2.1, y.1 = g ∧ y.2.2.1 = P) : ∀ q ∈ pgM p t, q.1 = P → iand .i64 q.2.1 2 = 0 := by
 intro q hq e
 obtain ⟨k, hk, rfl⟩ := List.mem_iff_getElem.1 hq
 have ek : (pgM p t)[k] = pgAt (pgM p t) k := (gget hk).symm
 rw [ek] at e ⊢
 rcases QeK hok ht (k := k) (by omega) with ⟨a1, a2⟩ | ⟨x, hx, a1, a2, a3⟩ | ⟨x, hx, a1, a2, a3⟩
 ·rw [a2] at e
  have hm : P ∈ ownL p t := e ▸ QeG a1
  rcases hP with hP | ⟨y, hy, c1, c2⟩
  ·exact (Qql hok hg ht hne hP hm).elim
  ·exact (Qfa hok hy (QcD hok ht) (c2 ▸ hm)).elim
 ·rw [a3] at e
  dsimp only at e
  rcases hP with hP | ⟨y, hy, c1, c2⟩
  ·exact (Qfa hok hx (QcD hok hg) (e ▸ hP)).elim
  ·obtain rfl := QdF hok hx hy (e.trans c2.symm)
   exact (hne (a1.symm.trans c1)).elim
 ·rw [a3]; show iand .i64 1 2 = 0; decide
theorem QsE {l : List TwoD} {m m' : List Int} (h : MemW l m m') {P : Int} (h0 : 0 ≤ P) (hq : ∀ q ∈ l, q.1 = P → iand .i64 q.2.1 2 = 0) : pg m' P = pg m P := by
 unfold pg
 apply List.ext_getElem?
 intro i
 by_cases hi : i < 8
 ·simp only [List.getElem?_take, if_pos hi, List.getElem?_drop]
  apply Decidable.byContradiction
  intro hne
  obtain ⟨q, hm, e1, e2⟩ := h _ hne
  exact e2 (hq q hm (by rw [e1]; omega))
 ·rw [List.getElem?_eq_none (by simp; omega), List.getElem?_eq_none (by simp; omega)]
theorem Qge {l : List TwoD} (hl : l.length = 8) {k : Nat} (hk : k < 8) : pgAt (QaT l) k = if 0 ≤ (pgAt l k).1 then ((k : Int), (pgAt l k).2) else pgAt l k := by
 have h1 : k < l.length := by omega
 rw [pgAt, gget (by rw [Qbr]; exact h1), QgP h1, pgAt, gget h1]
theorem Qqs {p : PolD} {g : Int} (hok : OkPol p) (hg : isG p g = true) {m m' : List Int} (h : ∀ k, k < 8 → 0 ≤ (pgAt (pgM p g) k).1 → pg m (pgAt (pgM p g) k).1 = pg m' (k : Nat)) : Sim (pgM p g) (QaT (pgM p g)) m m' := by
 have hl := QcE p g
 have ha := fun {k : Nat} (hk : k < 8) => Qge hl hk
 refine ⟨⟨hl, by rw [Qbr]; exact hl⟩, fun k hk => ?_, fun k hk => ?_, fun k hk => ⟨(Qlq hok hg hk).2, ?_⟩, fun i j _ _ => QnZ hok hg i j, fun i j hi hj h0 he => ?_, fun k hk h0 => ?_⟩
 ·rw [ha hk]; split <;> rfl
 ·rw [ha hk]; split
  ·rename_i c; exact ⟨fun _ => by dsimp only; omega, fun _ => c⟩
  ·exact Iff.rfl
 ·have := (Qlq hok hg hk).2
  rw [ha hk]; split
  ·dsimp only; omega
  ·exact this
 ·rw [ha hi] at h0 he
  rw [ha hj] at he
  split at h0
  ·rename_i c
   rw [if_pos c] at he
   split at he
   ·dsimp only at he; omega
   ·dsimp only at he; omega
  ·rename_i c; exact absurd h0 c
 ·rw [ha hk, if_pos h0]; exact h k hk h0
theorem QrH {s ws : List Int} {k : Nat} {j : Int} (hs : s.length = 64) (hk : k < 8) (hw : ws.length = 8) (hj : 0 ≤ j ∧ j < 8) : pg (QeL s k ws) j = if j = (k : Int) then ws else pg s j := by
 obtain ⟨J, rfl⟩ : ∃ J : Nat, j = (J : Int) := ⟨j.toNat, by omega⟩
 unfold pg QeL
 rw [Int.toNat_natCast]
 apply List.ext_getElem?
 intro i
 by_cases hi : i < 8
 ·rw [List.getElem?_take, if_pos hi, List.getElem?_drop]
  by_cases c : J = k
  ·subst c
   rw [if_pos rfl, List.getElem?_append_right (by simp; omega), List.length_take, Nat.min_eq_left (by omega), Nat.add_sub_cancel_left, List.getElem?_append_left (by omega)]
  ·rw [if_neg (by omega), List.getElem?_take, if_pos hi, List.getElem?_drop]
   by_cases d : J < k
   ·rw [List.getElem?_append_left (by simp; omega), List.getElem?_take, if_pos (by omega)]
   ·rw [List.getElem?_append_right (by simp; omega), List.length_take, Nat.min_eq_left (by omega), List.getElem?_append_right (by omega), List.getElem?_drop, hw]
    congr 1
    omega
 ·rw [List.getElem?_eq_none (by simp; omega)]
  split
  ·rw [List.getElem?_eq_none (by omega)]
  ·rw [List.getElem?_eq_none (by simp; omega)]
def calm (h : QZ) : QZ := (h.1, h.2.1, h.2.2.1, h.2.2.2.1, h.2.2.2.2.1, false, h.2.2.2.2.2.2)
theorem Qsp {h k : QZ} (e : calm h = calm k) (er : h.2.2.2.2.2.1 = k.2.2.2.2.2.1) : h = k := by
 obtain ⟨a1, a2, a3, a4, a5, a6, a7⟩ := h
 obtain ⟨b1, b2, b3, b4, b5, b6, b7⟩ := k
 unfold calm at e
 simp only [Pmi] at e er
 obtain ⟨rfl, rfl, rfl, rfl, rfl, _, rfl⟩ := e
 rw [er]
structure Rl (x : Qw) (s : QT) (g : Int) : Prop where
 hk : HK x
 hs : Qav s = 0
 hg : isG x.1 g = true
 pages : s.2.1 = QaT (pgM x.1 g)
 hart : calm s.1 = calm (x.2.2.1.getD g.toNat Qal)
 own : ∀ k, k < (ownL x.1 g).length → pg x.2.1 ((ownL x.1 g).getD k 0) = pg s.2.2.1 (k : Nat)
 gives : ∀ y ∈ x.1.2.1, y.1 = g → pg x.2.1 y.2.2.1 = pg s.2.2.1 y.2.2.2.1
theorem Qjk {m m' : List Int} : ∀ {l : List Int} {k : Nat}, (∀ i, i < l.length → pg m (l.getD i 0) = pg m' ((k + i : Nat) : Int)) → k + l.length ≤ 8 → m'.length = 64 → QY m l = (m'.drop (8 * k)).take (8 * l.length)
 | [], k, _, _, _ => by simp [QY]
 | a :: r, k, h, hk, hl => by
  simp only [List.length_cons] at hk
  have h0 := h 0 (by simp)
  have ih := Qjk (l := r) (k := k + 1) (fun i hi => by
   have := h (i + 1) (by simp; omega)
   rw [show k + 1 + i = k + (i + 1) by omega]
   exact this) (by omega) hl
  unfold QY at ih ⊢
  rw [List.flatMap_cons, ih]
  have e0 : pg m a = (m'.drop (8 * k)).take 8 := h0
  rw [e0, List.length_cons, show 8 * (r.length + 1) = 8 + 8 * r.length by omega, List.take_add, List.drop_drop, show 8 * k + 8 = 8 * (k + 1) by omega]
theorem Qil {m m' : List Int} {g : Int} : ∀ {r : List QD}, (∀ y ∈ r, y.1 = g → pg m y.2.2.1 = pg m' y.2.2.2.1) → QY m (Qam g true r) = QY m' (Qam g false r)
 | [], _ => rfl
 | y :: r, h => by
  have ih := Qil (r := r) fun z hz => h z (List.mem_cons_of_mem _ hz)
  simp only [Qam]
  by_cases c : y.1 = g
  ·rw [if_pos c, if_pos c, if_pos trivial, if_neg (by simp)]
   unfold QY at ih ⊢
   rw [List.flatMap_cons, List.flatMap_cons, h y (by simp) c, ih]
  ·rw [if_neg c, if_neg c]; exact ih
theorem Rl.views {x : Qw} {s : QT} {g : Int} (h : Rl x s g) : setF (Qeq x.1 s g) (QjO (QbU x g)) = QbU x g := by
 have h5 := (Qbo h.hk.ok h.hg).2
 have hm : s.2.2.1.length = 64 := (QbS h.hs).2.2.2
 have e1 := Qjk (m := x.2.1) (m' := s.2.2.1) (l := ownL x.1 g) (k := 0) (fun i hi => by rw [Nat.zero_add]; exact h.own i hi) (by omega) hm
 rw [Nat.mul_zero, List.drop_zero] at e1
 have e2 := Qil (m := x.2.1) (m' := s.2.2.1) (g := g) h.gives
 have eh := h.hart
 unfold Qeq QbU
 rw [← e1, ← e2]
 generalize QY x.2.1 (ownL x.1 g) = W
 generalize QY x.2.1 (Qam g true x.1.2.1) = G
 generalize x.2.2.1.getD g.toNat Qal = k at eh
 generalize s.1 = q at eh
 obtain ⟨a1, a2, a3, a4, a5, a6, a7, a8, a9, _⟩ := q
 obtain ⟨b1, b2, b3, b4, b5, b6, b7, b8, b9, _⟩ := k
 unfold calm at eh
 simp only [Pmi] at eh
 obtain ⟨rfl, rfl, rfl, rfl, rfl, _, rfl, rfl, rfl, _⟩ := eh
 rfl
theorem QeX {m : List Int} {g : Int} {j : Int} : ∀ {r : List QD} {q : List Int}, q.length = 64 → (∀ y ∈ r, QdR y ∧ (pg m y.2.2.1).length = 8) → 0 ≤ j ∧ j < 8 → (∀ y ∈ r, y.2.1 = g → y.2.2.2.2.1 ≠ j) → pg (QcU m g r q) j = pg q j
 | [], _, _, _, _, _ => rfl
 | y :: r, q, hq, h1, hj, h2 => by
  have b := h1 y (by simp)
  rw [QcU]
  by_cases c : y.2.1 = g
  ·rw [if_pos c, QeX (Qfg hq (by have := b.1.2.2; omega) b.2) (fun z hz => h1 z (List.mem_cons_of_mem _ hz)) hj (fun z hz => h2 z (List.mem_cons_of_mem _ hz)), QrH hq (by have := b.1.2.2; omega) b.2 hj, if_neg (by have := h2 y (by simp) c; have := b.1.2.2; omega)]
  ·rw [if_neg c]
   exact QeX hq (fun z hz => h1 z (List.mem_cons_of_mem _ hz)) hj (fun z hz => h2 z (List.mem_cons_of_mem _ hz))
theorem QoG {m : List Int} {g : Int} {x : QD} : ∀ {r : List QD} {q : List Int}, q.length = 64 → (∀ y ∈ r, QdR y ∧ (pg m y.2.2.1).length = 8) → r.Pairwise (fun o l => clash l o = false) → x ∈ r → x.2.1 = g → pg (QcU m g r q) x.2.2.2.2.1 = pg m x.2.2.1
 | y :: r, q, hq, h1, h2, hx, hg => by
  have b := h1 y (by simp)
  rw [List.pairwise_cons] at h2
  have hp : (QeL q y.2.2.2.2.1.toNat (pg m y.2.2.1)).length = 64 := Qfg hq (by have := b.1.2.2; omega) b.2
  rw [QcU]
  rcases List.mem_cons.1 hx with rfl | hx
  ·have := b.1.2.2
   rw [if_pos hg, QeX hp (fun z hz => h1 z (List.mem_cons_of_mem _ hz)) (by omega) (fun z hz zg ze => ?_), QrH hq (by omega) b.2 (by omega), if_pos (by omega)]
   have := QgT (h2.1 z hz) (QcX (x := x) (g := g) (k := x.2.2.2.2.1).2 (.inr ⟨hg, rfl⟩))
   rw [QcX.2 (.inr ⟨zg, ze⟩)] at this
   cases this
  ·exact QoG (by split; exact hp; exact hq) (fun z hz => h1 z (List.mem_cons_of_mem _ hz)) h2.2 hx hg
section
variable {x : Qw} {s : QT} {g : Int}
theorem Rl.lanes (h : Rl x s g) : ∀ y ∈ x.1.2.1, QdR y ∧ (pg x.2.1 y.2.2.1).length = 8 := fun y hy => ⟨Qbn h.hk.ok y hy, (Qlh h.hk hy).2.2.1⟩
theorem Rl.sim (h : Rl x s g) : Sim (pgM x.1 g) (QaT (pgM x.1 g)) x.2.1 (QcU x.2.1 g x.1.2.1 s.2.2.1) := by
 have hok := h.hk.ok
 have hm : s.2.2.1.length = 64 := (QbS h.hs).2.2.2
 refine Qqs hok h.hg fun k hk h0 => ?_
 have keep : (∀ y ∈ x.1.2.1, y.2.1 = g → y.2.2.2.2.1 ≠ (k : Int)) → pg (QcU x.2.1 g x.1.2.1 s.2.2.1) ((k : Nat) : Int) = pg s.2.2.1 (k : Nat) := fun c => QeX hm h.lanes (by omega) c
 rcases QeK hok h.hg h0 with ⟨a1, a2⟩ | ⟨y, hy, a1, a2, a3⟩ | ⟨y, hy, a1, a2, a3⟩
 ·have h5 := (Qbo hok h.hg).2
  rw [a2, keep fun y hy _ => by have := (Qbn hok y hy).2.2; omega]
  exact h.own k a1
 ·rw [a3, keep fun z hz zg ze => ?_]
  ·rw [← a2]; exact h.gives y hy a1
  ·have q1 := QgA hok h.hg hy a1
   have q2 := Qum hok h.hg hz zg
   rw [a2] at q1
   rw [ze, q1] at q2
   exact absurd (congrArg (fun w : TwoD => w.2.1) q2) (by dsimp only; decide)
 ·rw [a3, ← a2]
  exact (QoG hm h.lanes (Qgs hok) hy a1).symm
theorem Qip (x : Qw) (g : Int) : calm ((QbT x).2.2.1.getD g.toNat Qal) = calm ((QP x).getD g.toNat Qal) := by
 unfold QbT
 dsimp only
 split
 ·unfold QdL
  by_cases e : (QW x).ring.toNat = g.toNat
  ·rw [e]
   by_cases hl : g.toNat < (QP x).length
   ·rw [Qdo hl]; rfl
   ·rw [List.set_eq_of_length_le (by omega)]
  ·rw [Qcz e]
 ·rfl
theorem HK.stepP (h : HK x) : StepP (pgM x.1 (turnG x)) { (Mc.of (x.2.2.1.getD (turnG x).toNat Qal) x.2.1) with ring := -1, fall := -1 } (QW x) := by
 have := (QsY (QcE x.1 (turnG x)) (Mc.of (x.2.2.1.getD (turnG x).toNat Qal) x.2.1) (h.okS.d.2)).1
 exact this
theorem HK.stays (h : HK x) (hg : isG x.1 g = true) (hne : turnG x ≠ g) {P : Int} (h0 : 0 ≤ P) (hP : P ∈ ownL x.1 g ∨ ∃ y ∈ x.1.2.1, y.1 = g ∧ y.2.2.1 = P) : pg (QbT x).2.1 P = pg x.2.1 P :=
 QsE (l := pgM x.1 (turnG x)) (m := x.2.1) (m' := (QW x).m) h.stepP.mem h0 (Qrw h.ok hg h.turn.2.2.1 hne h0 hP)
theorem HK.ownP (h : HK x) (hg : isG x.1 g = true) {k : Nat} (hk : k < (ownL x.1 g).length) : 0 ≤ (ownL x.1 g).getD k 0 := ((h.ok.own1 _ (QcD h.ok hg)).2.2 _ (QeG hk)).1
theorem Rl.next (h : Rl x s g) (hc : x.2.2.2.2.2.1 < 1000000) : Rl (QbT x) (if turnG x = g then QmT x s g else s) g := by
 have hok := h.hk.ok
 by_cases ht : turnG x = g
 ·rw [if_pos ht]
  have e1 : (QgC x s g).1 = x.2.2.1.getD g.toNat Qal := Qsp h.hart rfl
  have e2 : (QgC x s g).2.1 = QaT (pgM x.1 g) := h.pages
  have hsim : Sim (pgM x.1 g) (QaT (pgM x.1 g)) x.2.1 (QgC x s g).2.2.1 := h.sim
  have key : Like (pgM x.1 g) (QaT (pgM x.1 g)) (QW x) (QgJ x s g) := by
   unfold QW QgJ
   rw [e1, e2, ht]
   exact QiU (s := Mc.of (x.2.2.1.getD g.toNat Qal) x.2.1) hsim
  obtain ⟨k1, k2⟩ := key
  have eh : (QgJ x s g).hart = (QW x).hart := by rw [k1]; rfl
  refine ⟨h.hk.next hc, QmU g h.hk h.hs, h.hg, h.pages, ?_, fun k hk => ?_, fun y hy hyg => ?_⟩
  ·rw [Qip]
   have := (h.hk.guest h.hg).1
   show calm (QgJ x s g).hart = _
   rw [eh]
   unfold QP
   rw [ht, Qdo (by omega)]
  ·have h5 := (Qbo hok h.hg).2
   have hk : k < (ownL x.1 g).length := hk
   have q := k2.same k (by omega) (by rw [Qlp hok h.hg hk]; exact h.hk.ownP h.hg hk)
   rw [Qge (QcE x.1 g) (by omega), Qlp hok h.hg hk, if_pos (by exact h.hk.ownP h.hg hk)] at q
   exact q
  ·have hy : y ∈ x.1.2.1 := hy
   have b := Qbn hok y hy
   have e5 : ((y.2.2.2.1.toNat : Nat) : Int) = y.2.2.2.1 := by have := b.2.1; omega
   have p0 := (QbO hok y hy).2.1.1
   have q := k2.same y.2.2.2.1.toNat (by have := b.2.1; omega) (by rw [QgA hok h.hg hy hyg]; exact p0)
   rw [Qge (QcE x.1 g) (by have := b.2.1; omega), QgA hok h.hg hy hyg, if_pos (by exact p0)] at q
   rw [e5] at q
   exact q
 ·rw [if_neg ht]
  refine ⟨h.hk.next hc, h.hs, h.hg, h.pages, ?_, fun k hk => ?_, fun y hy hyg => ?_⟩
  ·rw [Qip]
   unfold QP
   have a := Qby.1 h.hg
   have b := Qby.1 h.hk.turn.2.2.1
   rw [Qcz (by omega)]
   exact h.hart
  ·have hk : k < (ownL x.1 g).length := hk
   rw [← h.own k hk]
   exact h.hk.stays h.hg ht (h.hk.ownP h.hg hk) (.inl (QeG hk))
  ·rw [← h.gives y hy hyg]
   exact h.hk.stays h.hg ht (QbO hok y hy).2.1.1 (.inr ⟨y, hy, hyg, rfl⟩)
end
structure Shut (p : PolD) (A : Int → Prop) : Prop where
 lane : ∀ y ∈ p.2.1, A y.2.1 → A y.1
 bell : ∀ b ∈ p.2.2.1, A b.2.1 → A b.1
structure Tw (x y : Qw) (A : Int → Prop) : Prop where
 hx : HK x
 hy : HK y
 pol : x.1 = y.1
 slot : x.2.2.2.1 = y.2.2.2.1
 left : x.2.2.2.2.1 = y.2.2.2.2.1
 clock : x.2.2.2.2.2.1 = y.2.2.2.2.2.1
 shut : Shut x.1 A
 hart : ∀ g, isG x.1 g = true → A g → x.2.2.1.getD g.toNat Qal = y.2.2.1.getD g.toNat Qal
 own : ∀ g, isG x.1 g = true → A g → ∀ P ∈ ownL x.1 g, pg x.2.1 P = pg y.2.1 P
 gives : ∀ l ∈ x.1.2.1, A l.1 → pg x.2.1 l.2.2.1 = pg y.2.1 l.2.2.1
section
variable {x y : Qw} {A : Int → Prop} {g : Int}
theorem QeR {m m' : List Int} : ∀ {l : List Int}, (∀ P ∈ l, pg m P = pg m' P) → QY m l = QY m' l
 | [], _ => rfl
 | a :: r, h => by
  have ih := QeR (l := r) fun P hP => h P (List.mem_cons_of_mem _ hP)
  unfold QY at ih ⊢
  rw [List.flatMap_cons, List.flatMap_cons, h a (by simp), ih]
theorem Qik {g : Int} : ∀ {r : List QD} {P : Int}, P ∈ Qam g true r → ∃ l ∈ r, l.1 = g ∧ l.2.2.1 = P
 | [], _, h => by simp [Qam] at h
 | l :: r, P, h => by
  simp only [Qam] at h
  by_cases c : l.1 = g
  ·rw [if_pos c] at h
   rcases List.mem_cons.1 h with h | h
   ·exact ⟨l, by simp, c, by rw [h, if_pos trivial]⟩
   ·obtain ⟨z, hz, e⟩ := Qik h
    exact ⟨z, List.mem_cons_of_mem _ hz, e⟩
  ·rw [if_neg c] at h
   obtain ⟨z, hz, e⟩ := Qik h
   exact ⟨z, List.mem_cons_of_mem _ hz, e⟩
theorem Tw.views (h : Tw x y A) (hg : isG x.1 g = true) (ha : A g) : QbU x g = QbU y g := by
 unfold QbU
 rw [← h.pol, h.hart g hg ha, QeR (h.own g hg ha), QeR (m := x.2.1) (m' := y.2.1) (l := Qam g true x.1.2.1) fun P hP => by
  obtain ⟨l, hl, e1, e2⟩ := Qik hP
  rw [← e2]
  exact h.gives l hl (e1 ▸ ha)]
theorem Tw.turnEq (h : Tw x y A) : turnG y = turnG x := by
 unfold turnG
 rw [← h.pol, ← h.slot]
theorem QjS (x : Qw) (g : Int) (hne : Qcw x = true → (QW x).ring.toNat ≠ g.toNat) : (QbT x).2.2.1.getD g.toNat Qal = (QP x).getD g.toNat Qal := by
 unfold QbT
 dsimp only
 split
 ·rename_i hr
  unfold QdL
  rw [Qcz (hne hr)]
 ·rfl
theorem Qgo {g : Int} (h : HK x) (hg : isG x.1 g = true) (hne : turnG x ≠ g) : (QP x).getD g.toNat Qal = x.2.2.1.getD g.toNat Qal := by
 have a := Qby.1 hg
 have b := Qby.1 h.turn.2.2.1
 unfold QP
 rw [Qcz (by omega)]
theorem Qmi (h : HK x) : (QP x).getD (turnG x).toNat Qal = (QW x).hart := by
 have := (h.guest h.turn.2.2.1).1
 unfold QP
 rw [Qdo (by omega)]
theorem Tw.sim (h : Tw x y A) (ha : A (turnG x)) : Sim (pgM x.1 (turnG x)) (pgM x.1 (turnG x)) x.2.1 y.2.1 := by
 have hok := h.hx.ok
 have ht := h.hx.turn.2.2.1
 have hl := QcE x.1 (turnG x)
 refine ⟨⟨hl, hl⟩, fun _ _ => rfl, fun _ _ => Iff.rfl, fun k hk => ⟨(Qlq hok ht hk).2, (Qlq hok ht hk).2⟩, fun i j _ _ => QnZ hok ht i j, fun i j _ _ => QnZ hok ht i j, fun k hk h0 => ?_⟩
 rcases QeK hok ht h0 with ⟨a1, a2⟩ | ⟨l, hl, a1, a2, a3⟩ | ⟨l, hl, a1, a2, a3⟩
 ·rw [a2]; exact h.own _ ht ha _ (QeG a1)
 ·rw [a3]; exact h.gives l hl (a1 ▸ ha)
 ·rw [a3]; exact h.gives l hl (h.shut.lane l hl (a1 ▸ ha))
theorem Tw.next (h : Tw x y A) (hc : x.2.2.2.2.2.1 < 1000000) : Tw (QbT x) (QbT y) A := by
 have hok := h.hx.ok
 have te := h.turnEq
 have hc' : y.2.2.2.2.2.1 < 1000000 := by rw [← h.clock]; exact hc
 have slots : Qfy x.1.2.2.2.1 x.2.2.2.1 x.2.2.2.2.1 = Qfy y.1.2.2.2.1 y.2.2.2.1 y.2.2.2.2.1 := by rw [h.pol, h.slot, h.left]
 have ok' := h.hy.ok
 have stay : ∀ g, isG x.1 g = true → turnG x ≠ g → ∀ P, 0 ≤ P → (P ∈ ownL x.1 g ∨ ∃ l ∈ x.1.2.1, l.1 = g ∧ l.2.2.1 = P) → pg x.2.1 P = pg y.2.1 P → pg (QbT x).2.1 P = pg (QbT y).2.1 P := fun g hg hne P h0 hP e => by
  rw [h.hx.stays hg hne h0 hP, h.hy.stays (by rw [← h.pol]; exact hg) (by rw [te]; exact hne) h0 (by rw [← h.pol]; exact hP)]
  exact e
 have own0 : ∀ g, isG x.1 g = true → ∀ P ∈ ownL x.1 g, 0 ≤ P := fun g hg P hP => ((hok.own1 _ (QcD hok hg)).2.2 P hP).1
 by_cases ha : A (turnG x)
 ·have ht := h.hx.turn.2.2.1
  have key : Like (pgM x.1 (turnG x)) (pgM x.1 (turnG x)) (QW x) (QW y) := by
   unfold QW
   rw [te, ← h.pol, ← h.hart _ ht ha]
   exact QiU (s := Mc.of (x.2.2.1.getD (turnG x).toNat Qal) x.2.1) (h.sim ha)
  obtain ⟨k1, k2⟩ := key
  have eh : (QW y).hart = (QW x).hart := by rw [k1]; rfl
  have er : (QW y).ring = (QW x).ring := by rw [k1]
  have eb : Qcw y = Qcw x := by unfold Qcw; rw [te, er, h.pol]
  have hh : ∀ g, isG x.1 g = true → A g → (QP x).getD g.toNat Qal = (QP y).getD g.toNat Qal := fun g hg ag => by
   by_cases e : turnG x = g
   ·subst e
    rw [Qmi h.hx, ← te, Qmi h.hy, eh]
   ·rw [Qgo h.hx hg e, Qgo h.hy (by rw [← h.pol]; exact hg) (by rw [te]; exact e)]
    exact h.hart g hg ag
  refine ⟨h.hx.next hc, h.hy.next hc', h.pol, congrArg (·.1) slots, congrArg (·.2) slots, congrArg (· + 1) h.clock, h.shut, fun g hg ag => ?_, fun g hg ag P hP => ?_, fun l hl al => ?_⟩
  ·have hg : isG x.1 g = true := hg
   show (if Qcw x = true then QdL (QW x).ring (QP x) else QP x).getD g.toNat Qal = (if Qcw y = true then QdL (QW y).ring (QP y) else QP y).getD g.toNat Qal
   rw [eb, er]
   by_cases c : Qcw x = true
   ·rw [if_pos c, if_pos c]
    unfold QdL
    by_cases e : (QW x).ring.toNat = g.toNat
    ·have hlt := (h.hx.guest hg).1
     have hlt' := (h.hy.guest (g := g) (by rw [← h.pol]; exact hg)).1
     rw [e, Qdo (by rw [QbX]; omega), Qdo (by rw [QbX]; omega), hh g hg ag]
    ·rw [Qcz e, Qcz e, hh g hg ag]
   ·rw [if_neg c, if_neg c, hh g hg ag]
  ·have hg : isG x.1 g = true := hg
   have hP : P ∈ ownL x.1 g := hP
   by_cases e : turnG x = g
   ·subst e
    obtain ⟨k, hk, ek⟩ := List.mem_iff_getElem.1 hP
    have p0 := h.hx.ownP hg hk
    have h5 := (Qbo hok hg).2
    have q := k2.same k (by omega) (by rw [Qlp hok hg hk]; exact p0)
    rw [Qlp hok hg hk] at q
    dsimp only at q
    rw [gget hk, ek] at q
    exact q
   ·exact stay g hg e P (own0 g hg P hP) (.inl hP) (h.own g hg ag P hP)
  ·have hl : l ∈ x.1.2.1 := hl
   have b := QbO hok l hl
   by_cases e : turnG x = l.1
   ·have q := k2.same l.2.2.2.1.toNat (by have := b.2.2.1; omega) (by rw [QgA hok ht hl e.symm]; exact b.2.1.1)
    rw [QgA hok ht hl e.symm] at q
    exact q
   ·exact stay l.1 b.1.1 e _ b.2.1.1 (.inr ⟨l, hl, rfl, rfl⟩) (h.gives l hl al)
 ·have ring : ∀ z : Qw, HK z → z.1 = x.1 → turnG z = turnG x → ∀ g, A g → isG x.1 g = true → Qcw z = true → (QW z).ring.toNat ≠ g.toNat := fun z hz ez et g ag hg hr e => by
   have hk := Qby.1 (Qls hz hr)
   have hg' := Qby.1 hg
   have e : (QW z).ring = g := by omega
   unfold Qcw at hr
   obtain ⟨b, hb, eb⟩ := List.any_eq_true.1 hr
   unfold Qep at eb
   simp only [Bool.and_true, Bool.and_eq_true, beq_iff_eq] at eb
   rw [ez] at hb
   have := h.shut.bell b hb (by rw [← eb.2, e]; exact ag)
   rw [← eb.1, et] at this
   exact ha this
  refine ⟨h.hx.next hc, h.hy.next hc', h.pol, congrArg (·.1) slots, congrArg (·.2) slots, congrArg (· + 1) h.clock, h.shut, fun g hg ag => ?_, fun g hg ag P hP => ?_, fun l hl al => ?_⟩
  ·have hg : isG x.1 g = true := hg
   have hne : turnG x ≠ g := fun e => ha (e ▸ ag)
   have hg' : isG y.1 g = true := by rw [← h.pol]; exact hg
   rw [QjS x g (ring x h.hx rfl rfl g ag hg), QjS y g (ring y h.hy h.pol.symm te g ag hg), Qgo h.hx hg hne, Qgo h.hy hg' (by rw [te]; exact hne)]
   exact h.hart g hg ag
  ·have hg : isG x.1 g = true := hg
   have hP : P ∈ ownL x.1 g := hP
   exact stay g hg (fun e => ha (e ▸ ag)) P (own0 g hg P hP) (.inl hP) (h.own g hg ag P hP)
  ·have hl : l ∈ x.1.2.1 := hl
   have b := QbO hok l hl
   exact stay l.1 b.1.1 (fun e => ha (e ▸ al)) _ b.2.1.1 (.inr ⟨l, hl, rfl, rfl⟩) (h.gives l hl al)
end
theorem QdM {α β : Type} {f : Nat → α → Option β} : ∀ {m : List α} {i : Nat}, (∀ j x, x ∈ m → f j x = none) → scan f i m = none
 | [], _, _ => rfl
 | x :: r, i, h => by
  simp only [scan]
  rw [h i x (by simp)]
  exact QdM fun j y hy => h j y (List.mem_cons_of_mem _ hy)
def imgH (own : List Int) : Nat → List Int → List Int → List Int
 | _, [], m => m
 | i, w :: r, m => imgH own (i + 1) r (m.set (8 * (own.getD (i / 8) 0).toNat + i % 8) (wd w))
def imgS : Nat → List Int → List Int → List Int
 | _, [], m => m
 | i, w :: r, m => imgS (i + 1) r (m.set i (wd w))
def QaV : List (List Int) → List (List Int) → List Int → List Int
 | own :: ro, im :: ri, m => QaV ro ri (imgH own 0 im m)
 | _, _, m => m
theorem Qiq (own : List Int) : ∀ (im : List Int) (i : Nat) (m : List Int), (imgH own i im m).length = m.length
 | [], _, _ => rfl
 | w :: r, i, m => by rw [imgH, Qiq own r]; simp
theorem Qmk : ∀ (im : List Int) (i : Nat) (m : List Int), (imgS i im m).length = m.length
 | [], _, _ => rfl
 | w :: r, i, m => by rw [imgS, Qmk r]; simp
theorem Qhc : ∀ (L I : List (List Int)) (m : List Int), (QaV L I m).length = m.length
 | [], _, _ => by simp [QaV]
 | _ :: _, [], _ => by simp [QaV]
 | own :: ro, im :: ri, m => by rw [QaV, Qhc ro ri, Qiq]
theorem Qkv {m : List Int} {i : Nat} {w : Int} (h : ∀ x ∈ m, WW x) (hw : WW w) : ∀ x ∈ m.set i w, WW x := fun x hx => by
 rcases List.mem_or_eq_of_mem_set hx with hx | rfl
 ·exact h x hx
 ·exact hw
theorem Qir (own : List Int) : ∀ (im : List Int) (i : Nat) (m : List Int), (∀ x ∈ m, WW x) → ∀ x ∈ imgH own i im m, WW x
 | [], _, _, h => h
 | w :: r, i, m, h => Qir own r (i + 1) _ (Qkv h (Qah w))
theorem Qit : ∀ (im : List Int) (i : Nat) (m : List Int), (∀ x ∈ m, WW x) → ∀ x ∈ imgS i im m, WW x
 | [], _, _, h => h
 | w :: r, i, m, h => Qit r (i + 1) _ (Qkv h (Qah w))
theorem Qhy : ∀ (L I : List (List Int)) (m : List Int), (∀ x ∈ m, WW x) → ∀ x ∈ QaV L I m, WW x
 | [], _, _, h => by simpa [QaV] using h
 | _ :: _, [], _, h => by simpa [QaV] using h
 | own :: ro, im :: ri, m, h => Qhy ro ri _ (Qir own im 0 m h)
theorem QfQ {own : List Int} {P : Int} (h0 : 0 ≤ P) (hp : P ∉ own) (hown : ∀ x ∈ own, 0 ≤ x) : ∀ (im : List Int) (i : Nat) (m : List Int), i + im.length ≤ 8 * own.length → pg (imgH own i im m) P = pg m P
 | [], _, _, _ => rfl
 | w :: r, i, m, h => by
  simp only [List.length_cons] at h
  have hm : own.getD (i / 8) 0 ∈ own := QM (by omega)
  rw [imgH, QfQ h0 hp hown r _ _ (by omega), Qhh (by omega) (hown _ hm) h0]
  exact if_neg fun e => hp (by rw [← e]; exact hm)
theorem Qis {k : Nat} : ∀ (im : List Int) (i : Nat) (m : List Int), i + im.length ≤ 8 * k → pg (imgS i im m) (k : Int) = pg m (k : Int)
 | [], _, _, _ => rfl
 | w :: r, i, m, h => by
  simp only [List.length_cons] at h
  have e : i = 8 * ((i / 8 : Nat) : Int).toNat + i % 8 := by omega
  rw [imgS, Qis r _ _ (by omega), e, Qhh (by omega) (by omega) (by omega), if_neg (by omega)]
theorem QoK {own : List Int} (nd : own.Nodup) (h0 : ∀ x ∈ own, 0 ≤ x) : ∀ (im : List Int) (i : Nat) (m s : List Int), i + im.length ≤ 8 * own.length → (∀ k, k < own.length → pg m (own.getD k 0) = pg s (k : Int)) →
  ∀ k, k < own.length → pg (imgH own i im m) (own.getD k 0) = pg (imgS i im s) (k : Int)
 | [], _, _, _, _, h => h
 | w :: r, i, m, s, hi, h => by
  simp only [List.length_cons] at hi
  refine QoK nd h0 r (i + 1) _ _ (by omega) fun k hk => ?_
  have hi8 : i / 8 < own.length := by omega
  have hm : own.getD (i / 8) 0 ∈ own := QM hi8
  have hm' : own.getD k 0 ∈ own := QM hk
  have e : i = 8 * ((i / 8 : Nat) : Int).toNat + i % 8 := by omega
  rw [Qhh (by omega) (h0 _ hm) (h0 _ hm')]
  conv => rhs; rw [e]
  rw [Qhh (by omega) (by omega) (by omega), h k hk]
  by_cases c : i / 8 = k
  ·subst c
   rw [if_pos rfl, if_pos rfl]
  ·have ne : own.getD (i / 8) 0 ≠ own.getD k 0 := by
    rw [gget hi8, gget hk]
    intro e2
    have np := List.pairwise_iff_getElem.1 nd
    rcases Nat.lt_or_gt_of_ne c with d | d
    ·exact np _ _ hi8 hk d e2
    ·exact np _ _ hk hi8 d e2.symm
   rw [if_neg ne, if_neg (by omega)]
theorem QeE {P : Int} (hP : 0 ≤ P) : ∀ (L I : List (List Int)) (m : List Int), (∀ l ∈ L, P ∉ l ∧ ∀ x ∈ l, 0 ≤ x) → (∀ j (h1 : j < L.length) (h2 : j < I.length), I[j].length ≤ 8 * L[j].length) → pg (QaV L I m) P = pg m P
 | [], _, _, _, _ => by simp [QaV]
 | _ :: _, [], _, _, _ => by simp [QaV]
 | own :: ro, im :: ri, m, h, hl => by
  have h1 := h own (by simp)
  rw [QaV, QeE hP ro ri _ (fun l hm => h l (List.mem_cons_of_mem _ hm)) (fun j a b => hl (j + 1) (by simp; omega) (by simp; omega)), QfQ hP h1.1 h1.2 im 0 m (by have := hl 0 (by simp) (by simp); simpa using this)]
theorem QmC : ∀ (L I : List (List Int)) (m s : List Int), (∀ l ∈ L, l.Nodup ∧ ∀ x ∈ l, 0 ≤ x) → (L.Pairwise fun a b => ∀ x ∈ a, ∀ y ∈ b, x ≠ y) → (∀ j (h1 : j < L.length) (h2 : j < I.length), I[j].length ≤ 8 * L[j].length) →
  (∀ l ∈ L, ∀ k, k < l.length → pg m (l.getD k 0) = pg s (k : Int)) → ∀ j (h1 : j < L.length) (h2 : j < I.length) k, k < L[j].length → pg (QaV L I m) (L[j].getD k 0) = pg (imgS 0 I[j] s) (k : Int)
 | [], _, _, _, _, _, _, _, _, h1, _, _, _ => by simp at h1
 | _ :: _, [], _, _, _, _, _, _, _, _, h2, _, _ => by simp at h2
 | own :: ro, im :: ri, m, s, h, hp, hl, hz, 0, _, _, k, hk => by
  rw [List.pairwise_cons] at hp
  have h1 := h own (by simp)
  have hk : k < own.length := hk
  have l0 : im.length ≤ 8 * own.length := hl 0 (by simp) (by simp)
  have hm : own.getD k 0 ∈ own := QM hk
  show pg (QaV ro ri (imgH own 0 im m)) (own.getD k 0) = pg (imgS 0 im s) (k : Int)
  rw [QeE (h1.2 _ hm) ro ri _ (fun l hl' => ⟨fun c => hp.1 l hl' _ hm _ c rfl, (h l (List.mem_cons_of_mem _ hl')).2⟩) (fun j a b => hl (j + 1) (by simp; omega) (by simp; omega))]
  exact QoK h1.1 h1.2 im 0 m s (by omega) (hz own (by simp)) k hk
 | own :: ro, im :: ri, m, s, h, hp, hl, hz, j + 1, h1, h2, k, hk => by
  rw [List.pairwise_cons] at hp
  have l0 : im.length ≤ 8 * own.length := hl 0 (by simp) (by simp)
  simp only [List.length_cons] at h1 h2
  have ho := h own (by simp)
  exact QmC ro ri (imgH own 0 im m) s (fun l hl' => h l (List.mem_cons_of_mem _ hl')) hp.2 (fun j a b => hl (j + 1) (by simp; omega) (by simp; omega)) (fun l hl' k hk => by
   have hm : l.getD k 0 ∈ l := QM hk
   rw [QfQ ((h l (List.mem_cons_of_mem _ hl')).2 _ hm) (fun c => hp.1 l hl' _ c _ hm rfl) ho.2 im 0 m (by omega)]
   exact hz l (List.mem_cons_of_mem _ hl') k hk) j (by omega) (by omega) k hk
def Qen (q : List Int) : QZ := (List.replicate 16 0, 0, List.replicate 11 0, false, false, false, 0, q, [], ())
def Qhp (p : PolD) (I J : List (List Int)) : Qw := (p, QaV p.1 I (List.replicate 192 0), J.map Qen, 0, (p.2.2.2.1.getD 0 (0, 0, ())).2.1, 0, ())
def Qpe (p : PolD) (g : Int) (im q : List Int) : QT := (Qen q, QaT (pgM p g), imgS 0 im (List.replicate 64 0), ())
theorem Qmh {q : List Int} (h : OkQ q) : hartM (Qen q) = 0 := by
 unfold hartM Qen
 dsimp only
 rw [if_pos ⟨by simp, by simp, by simp⟩, if_pos ⟨by decide, by decide, by decide, Qao.2 h.words, by decide⟩, if_pos ⟨h.len, by simp⟩, if_pos (by decide), if_pos (by decide)]
theorem QkC {p : PolD} (hok : OkPol p) : Qbf p 0 = (0, (p.2.2.2.1.getD 0 (0, 0, ())).2.1) := by
 unfold Qbf
 dsimp only
 rw [Int.zero_emod, Qnd (QdN hok) hok.plan.1]
 rfl
theorem Qko (n : Nat) : ∀ x ∈ List.replicate n (0 : Int), WW x := fun x hx => by
 rw [(List.mem_replicate.1 hx).2]; unfold WW; omega
theorem QlR {p : PolD} {I J : List (List Int)} (hp : polM p = 0) (hj : J.length = p.1.length) (hq : ∀ q ∈ J, OkQ q) : HK (Qhp p I J) := by
 have hok := Qeo hp
 refine ⟨hp, ⟨?_, ?_⟩, ?_, fun h hh => ?_, by show (0 : Int) ≤ 0 ∧ (0 : Int) ≤ 1000000; omega, ?_, ?_⟩
 ·show QG (QaV p.1 I (List.replicate 192 0)) = 0
  unfold QG
  rw [Qhc, if_pos (by simp), if_pos (Qao.2 (Qhy _ _ _ (Qko _)))]
 ·show (QaV p.1 I (List.replicate 192 0)).length = 192
  rw [Qhc]; simp
 ·show (J.map Qen).length = p.1.length
  rw [List.length_map]; exact hj
 ·obtain ⟨q, hm, rfl⟩ := List.mem_map.1 (show h ∈ J.map Qen from hh)
  exact Qmh (hq q hm)
 ·show (0 : Int) = (Qbf p 0).1
  rw [QkC hok]
 ·show (p.2.2.2.1.getD 0 (0, 0, ())).2.1 = (Qbf p 0).2
  rw [QkC hok]
theorem QlK {p : PolD} {g : Int} (hok : OkPol p) (hg : isG p g = true) : QaU (QaT (pgM p g)) 8 = 0 := by
 have hl := QcE p g
 unfold QaU
 rw [if_pos (by decide), if_pos (by rw [Qbr]; exact hl), QdM]
 intro _ q hq
 obtain ⟨k, hk, rfl⟩ := List.mem_iff_getElem.1 hq
 rw [Qbr, hl] at hk
 have ek : (QaT (pgM p g))[k] = pgAt (QaT (pgM p g)) k := (gget (by rw [Qbr, hl]; exact hk)).symm
 have hi := Qlo hok hg _ (QrG p g hk)
 rw [ek, Qge hl hk]
 unfold Qgx
 by_cases h0 : 0 ≤ (pgAt (pgM p g) k).1
 ·rw [if_pos h0]
  dsimp only
  rw [if_pos (Qci.2 (by omega)), if_pos (Qci.2 hi.2), if_neg (by omega)]
 ·rw [if_neg h0]
  have e : pgAt (pgM p g) k = (-1, 0, ()) := by
   rcases Qec (g := g) (k := k) p.2.1 (QbP 0 (ownL p g) QbC) (own8 p g) (Qbn hok) with e | ⟨x, hx, _, _, e⟩ | ⟨x, hx, _, _, e⟩
   ·have e : pgAt (pgM p g) k = pgAt (QbP 0 (ownL p g) QbC) k := e
    have h5 := (Qbo hok hg).2
    rw [Qgw _ _ _ _ (by show 0 + (ownL p g).length ≤ 8; omega)] at e
    by_cases c : 0 ≤ k ∧ k < 0 + (ownL p g).length
    ·rw [if_pos c] at e
     rw [e] at h0
     exact absurd ((hok.own1 _ (QcD hok hg)).2.2 _ (QM (l := ownL p g) (k := k - 0) (d := 0) (by omega))).1 h0
    ·rw [if_neg c, QoA] at e
     exact e
   ·have e : pgAt (pgM p g) k = (x.2.2.1, 3, ()) := e
    rw [e] at h0
    exact absurd (QbO hok x hx).2.1.1 h0
   ·have e : pgAt (pgM p g) k = (x.2.2.1, 1, ()) := e
    rw [e] at h0
    exact absurd (QbO hok x hx).2.1.1 h0
  rw [e]
  decide
theorem QrS {p : PolD} {g : Int} {im q : List Int} (hok : OkPol p) (hg : isG p g = true) (hq : OkQ q) : Qav (Qpe p g im q) = 0 :=
 QgI (Qmh hq) (QlK hok hg) (by show (imgS 0 im (List.replicate 64 0)).length = 64; rw [Qmk]; simp) (Qit _ _ _ (Qko _))
theorem QhL {n : Nat} {P : Int} (h0 : 0 ≤ P) (h : 8 * P + 8 ≤ (n : Int)) : pg (List.replicate n 0) P = List.replicate 8 0 := by
 unfold pg
 rw [List.drop_replicate, List.take_replicate]
 congr 1
 omega
theorem QsT {p : PolD} {g : Int} {I J : List (List Int)} (hp : polM p = 0) (hg : isG p g = true) (hi : I.length = p.1.length) (hj : J.length = p.1.length) (hq : ∀ q ∈ J, OkQ q)
  (hl : ∀ j (h1 : j < p.1.length) (h2 : j < I.length), I[j].length ≤ 8 * p.1[j].length) : Rl (Qhp p I J) (Qpe p g (I.getD g.toNat []) (J.getD g.toNat [])) g := by
 have hok := Qeo hp
 have hgi := Qby.1 hg
 have hgn : g.toNat < p.1.length := by omega
 have hqm : J.getD g.toNat [] ∈ J := QM (by omega)
 have own0 : ∀ l ∈ p.1, ∀ x ∈ l, 0 ≤ x ∧ x ≤ 23 := fun l hl x hx => (hok.own1 l hl).2.2 x hx
 refine ⟨QlR hp hj hq, QrS hok hg (hq _ hqm), hg, rfl, ?_, fun k hk => ?_, fun y hy hyg => ?_⟩
 ·show calm (Qen (J.getD g.toNat [])) = calm ((J.map Qen).getD g.toNat Qal)
  rw [gget (l := J) (by omega), gget (l := J.map Qen) (by rw [List.length_map]; omega), List.getElem_map]
 ·have hk : k < (ownL p g).length := hk
  have h5 := (Qbo hok hg).2
  show pg (QaV p.1 I (List.replicate 192 0)) ((ownL p g).getD k 0) = pg (imgS 0 (I.getD g.toNat []) (List.replicate 64 0)) (k : Int)
  have eo : ownL p g = p.1[g.toNat] := gget hgn
  rw [eo] at hk h5 ⊢
  rw [gget (l := I) (by omega)]
  refine QmC p.1 I _ _ (fun l hl => ⟨(Qff hok).1 l hl, fun x hx => (own0 l hl x hx).1⟩) (Qff hok).2 hl (fun l hl k hk => ?_) g.toNat hgn (by omega) k hk
  have b := own0 l hl _ (QM (k := k) (d := 0) hk)
  have l5 := (hok.own1 l hl).2.1
  rw [QhL b.1 (by omega), QhL (by omega) (by omega)]
 ·have hy : y ∈ p.2.1 := hy
  have b := QbO hok y hy
  have h5 := (Qbo hok hg).2
  show pg (QaV p.1 I (List.replicate 192 0)) y.2.2.1 = pg (imgS 0 (I.getD g.toNat []) (List.replicate 64 0)) y.2.2.2.1
  rw [QeE b.2.1.1 p.1 I _ (fun l hl => ⟨Qfa hok hy hl, fun x hx => (own0 l hl x hx).1⟩) hl, QhL b.2.1.1 (by omega)]
  obtain ⟨K, hK⟩ : ∃ K : Nat, y.2.2.2.1 = (K : Int) := ⟨y.2.2.2.1.toNat, by have := b.2.2.1; omega⟩
  have li := hl g.toNat hgn (by omega)
  have eo : ownL p g = p.1[g.toNat] := gget hgn
  rw [eo] at h5
  rw [hK, Qis _ _ _ (by rw [gget (l := I) (by omega)]; have := b.2.2.1; omega), QhL (by omega) (by have := b.2.2.1; omega)]
theorem bdLt {n x : Int} (h : Bd n x) (hn : 1 ≤ n) : 0 ≤ x ∧ x < n := by unfold Bd at h; omega
structure OwnI (L : List (List Int)) (page : Int) : Prop where
 one : ∀ l ∈ L, 1 ≤ l.length ∧ l.length ≤ 3
 up : L.flatten.Pairwise (· < ·)
 bd : ∀ x ∈ L.flatten, 0 ≤ x ∧ x < page
 top : 0 ≤ page ∧ page ≤ 2 + 3 * (L.length : Int)
theorem OwnI.snoc {L : List (List Int)} {page : Int} (h : OwnI L page) {own : List Int} {K : Nat} (hK : 1 ≤ K ∧ K ≤ 3) (hl : own.length = K) (hu : own.Pairwise (· < ·)) (hb : ∀ x ∈ own, page ≤ x ∧ x < page + (K : Int)) : OwnI (L ++ [own]) (page + (K : Int)) := by
 have hp := h.top
 have ef : (L ++ [own]).flatten = L.flatten ++ own := by simp
 refine ⟨fun l hm => ?_, ?_, fun x hx => ?_, ?_⟩
 ·rcases List.mem_append.1 hm with hm | hm
  ·exact h.one l hm
  ·rw [List.mem_singleton.1 hm]; omega
 ·rw [ef, List.pairwise_append]
  exact ⟨h.up, hu, fun a ha b hb' => by have := (h.bd a ha).2; have := (hb b hb').1; omega⟩
 ·rw [ef] at hx
  rcases List.mem_append.1 hx with hx | hx
  ·have := h.bd x hx; omega
  ·have := hb x hx; omega
 ·rw [List.length_append, List.length_singleton]; omega
theorem QjI : ∀ {l seen : List Int}, l.Nodup → (∀ x ∈ l, x ∉ seen) → dupM seen l = false
 | [], _, _, _ => rfl
 | x :: r, seen, h, hs => by
  rw [List.nodup_cons] at h
  simp only [dupM, Bool.or_eq_false_iff]
  refine ⟨by simpa using hs x (by simp), QjI h.2 fun y hy hm => ?_⟩
  rcases List.mem_append.1 hm with hm | hm
  ·exact hs y (List.mem_cons_of_mem _ hy) hm
  ·rw [List.mem_singleton.1 hm] at hy; exact h.1 hy
theorem OwnI.owns {L : List (List Int)} {page : Int} (h : OwnI L page) (hl : 1 ≤ L.length ∧ L.length ≤ 3) : QdI L = 0 := by
 have hp := h.top
 have e : scan (fun (_ : Nat) l => Go.Proofs.YtmoninjbahccoaaGreatDoor.own1 l) 0 L = none := QdM fun _ l hm => by
  have := h.one l hm
  unfold Go.Proofs.YtmoninjbahccoaaGreatDoor.own1
  rw [if_pos (by omega)]
  refine QdM fun _ x hx => ?_
  have := h.bd x (List.mem_flatten.2 ⟨l, hm, hx⟩)
  rw [if_pos (Qci.2 (by omega))]
 unfold QdI
 rw [if_pos hl, e, QjI (h.up.imp fun h => Int.ne_of_lt h) (by simp)]
 rfl
theorem QtU {X p : PolD} {s : SrcD} {page g : Int} (K : Nat) (hp : 0 ≤ page ∧ page ≤ 1000) (hK : K ≤ 10) :
  Dr (L_m_8 (((), ((), ((), (page, (g, (([] : List Int), ((K : Int), ()))))))), ((X, (p, (s, ()))), ()))) fun o => ∃ own : List Int, o = .inl (((), ((), ((), (page + (K : Int), (g, (own, ())))))), ((X, (p, (s, ()))), ())) ∧ own.length = K ∧ own.Pairwise (· < ·) ∧ ∀ x ∈ own, page ≤ x ∧ x < page + (K : Int) := by
 refine QaK (fun m u => ∃ own : List Int, u = (((), ((), ((), (page + (own.length : Int), (g, (own, ((m : Int), ()))))))), ((X, (p, (s, ()))), ())) ∧ own.length + m = K ∧ own.Pairwise (· < ·) ∧ ∀ x ∈ own, page ≤ x ∧ x < page + (own.length : Int)) ?_ K _ ⟨[], by simp, by simp, by simp, by simp⟩ (by rw [Qac]; omega)
 rintro rec m _ ⟨own, rfl, hm, hu, hb⟩ ih
 unfold l_m_8
 dsimp only
 by_cases c : 0 < m
 ·rw [if_pos (by rw [QO]; omega)]
  refine Dr.guard (by simp; omega) ?_
  rw [Qr (by omega) (by omega), Qr (by omega) (by omega)]
  refine ih (m - 1) _ (by omega) ⟨own ++ [page + (own.length : Int)], ?_, by simp; omega, ?_, fun x hx => ?_⟩
  ·rw [List.length_append, List.length_singleton, show page + (own.length : Int) + 1 = page + ((own.length + 1 : Nat) : Int) by omega, show ((m : Int) - 1) = ((m - 1 : Nat) : Int) by omega]
  ·rw [List.pairwise_append]
   exact ⟨hu, by simp, fun a ha b hb' => by rw [List.mem_singleton.1 hb']; exact (hb a ha).2⟩
  ·rw [List.length_append, List.length_singleton]
   rcases List.mem_append.1 hx with hx | hx
   ·have := hb x hx; omega
   ·rw [List.mem_singleton.1 hx]; omega
 ·obtain rfl : m = 0 := by omega
  rw [if_neg (by rw [QO]; omega)]
  have : own.length = K := by omega
  subst this
  exact Dr.ret ⟨own, rfl, rfl, hu, hb⟩
theorem QtT {X : PolD} {s : SrcD} {k page : Int} (G : Nat) (hG : 1 ≤ G ∧ G ≤ 3) (hp : 0 ≤ page ∧ page ≤ 2) (hs : Sr s k) (hk : k ≤ 1000000) :
  Dr (L_m_4 (((), ((), ((), (page, ((G : Int), ()))))), ((X, ((([] : List (List Int)), (([] : List QD), (([] : List TwoD), (([] : List TwoD), ())))), (s, ()))), ()))) fun o => ∃ (L : List (List Int)) (page' : Int) (s' : SrcD),
   o = .inl (((), ((), ((), (page', ())))), ((X, ((L, (([] : List QD), (([] : List TwoD), (([] : List TwoD), ())))), (s', ()))), ())) ∧ Sr s' (k + 3) ∧ L.length = G ∧ OwnI L page' := by
 have hk0 := hs.pos
 refine QaK (fun m u => ∃ (L : List (List Int)) (page' : Int) (s' : SrcD), u = (((), ((), ((), (page', ((m : Int), ()))))), ((X, ((L, (([] : List QD), (([] : List TwoD), (([] : List TwoD), ())))), (s', ()))), ())) ∧ Sr s' (k + (G : Int) - (m : Int)) ∧ L.length + m = G ∧ OwnI L page') ?_ G _
  ⟨[], page, s, rfl, hs.le (by omega), by simp, ⟨by simp, by simp, by simp, by simp; omega⟩⟩ (by rw [Qac]; omega)
 rintro rec m _ ⟨L, pa, s', rfl, hs', hl, hI⟩ ih
 unfold l_m_4
 dsimp only
 have hpa := hI.top
 by_cases c : 0 < m
 ·rw [if_pos (by rw [QO]; omega)]
  refine (Qbt hs' (by omega) _).bind fun r6 h6 => ?_
  have hb := bdLt h6.2 (by omega)
  have e : IntKind.i64.wrap (1 + (r6.1.1 : Int)) = ((r6.1.1.toNat + 1 : Nat) : Int) := by rw [Qr (by omega) (by omega)]; omega
  rw [e]
  refine (QtU (r6.1.1.toNat + 1) (by omega) (by omega)).bind fun z hz => ?_
  obtain ⟨own, rfl, ho, hu, hbd⟩ := hz
  dsimp only
  refine Dr.guard (by simp; omega) ?_
  rw [Qr (by omega) (by omega)]
  refine ih (m - 1) _ (by omega) ⟨L ++ [own], pa + ((r6.1.1.toNat + 1 : Nat) : Int), r6.2.1, ?_, h6.1.le (by omega), by simp; omega, hI.snoc (by omega) ho hu hbd⟩
  rw [show ((m : Int) - 1) = ((m - 1 : Nat) : Int) by omega]
 ·obtain rfl : m = 0 := by omega
  rw [if_neg (by rw [QO]; omega)]
  exact Dr.ret ⟨L, pa, s', rfl, hs'.le (by omega), by omega, hI⟩
theorem QsQ {X : PolD} {L : List (List Int)} {s : SrcD} {k page : Int} (hL : QdI L = 0) (hl : 1 ≤ L.length ∧ L.length ≤ 3) (hl2 : ∀ l ∈ L, l.length ≤ 1048576) (hp : 0 ≤ page ∧ page ≤ 100) (K : Nat) (hK : K ≤ 3) (hs : Sr s k) (hk : k ≤ 1000000) :
  Dr (L_m_15 (((), ((), ((), (page, (((L.length : Nat) : Int), ((K : Int), ())))))), ((X, ((L, (([] : List QD), (([] : List TwoD), (([] : List TwoD), ())))), (s, ()))), ()))) fun o => ∃ (ls : List QD) (s' : SrcD),
   o = .inl (((), ((), ((), (((L.length : Nat) : Int), ())))), ((X, ((L, (ls, (([] : List TwoD), (([] : List TwoD), ())))), (s', ()))), ())) ∧ Sr s' (k + 12) ∧ ls.length ≤ 3 ∧ QbJ (L, ls, [], [], ()) = none := by
 have hk0 := hs.pos
 refine QaK (fun m u => ∃ (ls : List QD) (pa : Int) (s' : SrcD), u = (((), ((), ((), (pa, (((L.length : Nat) : Int), ((m : Int), ())))))), ((X, ((L, (ls, (([] : List TwoD), (([] : List TwoD), ())))), (s', ()))), ())) ∧ Sr s' (k + 4 * (3 - (m : Int))) ∧ ls.length + m ≤ 3 ∧ (0 ≤ pa ∧ pa + (m : Int) ≤ 103) ∧ QbJ (L, ls, [], [], ()) = none) ?_ K _
  ⟨[], page, s, rfl, hs.le (by omega), by simp; omega, by omega, rfl⟩ (by rw [Qac]; omega)
 rintro rec m _ ⟨ls, pa, s', rfl, hs', hm, hpa, hI⟩ ih
 unfold l_m_15
 dsimp only
 by_cases c : 0 < m
 ·rw [if_pos (by rw [QO]; omega)]
  refine Dr.guard (by simp; omega) ?_
  refine (Qbt hs' (by omega) _).bind fun r26 h26 => (Qbt h26.1 (by omega) _).bind fun r27 h27 => (Qbt h27.1 (by omega) _).bind fun r28 h28 => (Qbt h28.1 (by omega) _).bind fun r30 h30 => ?_
  have em : ((m : Int) - 1) = ((m - 1 : Nat) : Int) := by omega
  dsimp only [List.nil_append]
  refine Dr.guard (by simp; omega) ?_
  rw [Qr (n := pa + 1) (by omega) (by omega), Qr (n := (m : Int) - 1) (by omega) (by omega)]
  generalize hx : ((r26.1.1, (r27.1.1, (pa, (IntKind.i64.wrap (5 + r28.1.1), (IntKind.i64.wrap (5 + r30.1.1), ()))))) : QD) = x
  have hlen : (ls ++ [x]).length = ls.length + 1 := by simp
  have skip : Dr (rec (((), ((), ((), (pa, (((L.length : Nat) : Int), ((m : Int) - 1, ())))))), ((X, ((L, (ls, (([] : List TwoD), (([] : List TwoD), ())))), (r30.2.1, ()))), ()))) fun o => ∃ (ls : List QD) (s' : SrcD),
    o = .inl (((), ((), ((), (((L.length : Nat) : Int), ())))), ((X, ((L, (ls, (([] : List TwoD), (([] : List TwoD), ())))), (s', ()))), ())) ∧ Sr s' (k + 12) ∧ ls.length ≤ 3 ∧ QbJ (L, ls, [], [], ()) = none :=
   ih (m - 1) _ (by omega) ⟨ls, pa, r30.2.1, by rw [em], h30.1.le (by omega), by omega, by omega, hI⟩
  refine Dr.step (QmX (L, ls ++ [x], [], [], ()) (by dsimp only; omega) hl2) (Dr.ite (fun _ => ?_) fun _ => skip)
  refine Dr.step (Qlu (L, ls ++ [x], [], [], ()) (by dsimp only; omega) hl2 (by dsimp only; omega)) (Dr.ite (fun h0 => ?_) fun _ => skip)
  refine ih (m - 1) _ (by omega) ⟨ls ++ [x], pa + 1, r30.2.1, by rw [em], h30.1.le (by omega), by omega, by omega, ?_⟩
  dsimp only at h0
  rw [if_pos (by simp; omega)] at h0
  cases hM : QbJ (L, ls ++ [x], [], [], ()) with
  | none => rfl
  | some c' =>
   rw [hM] at h0
   exact absurd (by simpa using h0) (QjY hM)
 ·obtain rfl : m = 0 := by omega
  rw [if_neg (by rw [QO]; omega)]
  exact Dr.ret ⟨ls, s', rfl, hs'.le (by omega), by omega, hI⟩
theorem QsR {X : PolD} {L : List (List Int)} {ls : List QD} {s : SrcD} {k : Int} (hl : 1 ≤ L.length ∧ L.length ≤ 3) (K : Nat) (hK : K ≤ 3) (hs : Sr s k) (hk : k ≤ 1000000) :
  Dr (L_m_23 (((), ((), ((), (((L.length : Nat) : Int), ((K : Int), ()))))), ((X, ((L, (ls, (([] : List TwoD), (([] : List TwoD), ())))), (s, ()))), ()))) fun o => ∃ (bs : List TwoD) (s' : SrcD),
   o = .inl (((), ((), ((), (((L.length : Nat) : Int), ())))), ((X, ((L, (ls, (bs, (([] : List TwoD), ())))), (s', ()))), ())) ∧ Sr s' (k + 6) ∧ bs.length ≤ 1 ∧ ∀ b ∈ bs, (0 ≤ b.1 ∧ b.1 < (L.length : Int)) ∧ (0 ≤ b.2.1 ∧ b.2.1 < (L.length : Int)) ∧ b.1 ≠ b.2.1 := by
 have hk0 := hs.pos
 refine QaK (fun m u => ∃ (bs : List TwoD) (s' : SrcD), u = (((), ((), ((), (((L.length : Nat) : Int), ((m : Int), ()))))), ((X, ((L, (ls, (bs, (([] : List TwoD), ())))), (s', ()))), ())) ∧ Sr s' (k + 2 * (3 - (m : Int))) ∧ m ≤ 3 ∧ bs.length ≤ 1 ∧ ∀ b ∈ bs, (0 ≤ b.1 ∧ b.1 < (L.length : Int)) ∧ (0 ≤ b.2.1 ∧ b.2.1 < (L.length : Int)) ∧ b.1 ≠ b.2.1) ?_ K _
  ⟨[], s, rfl, hs.le (by omega), hK, by simp, by simp⟩ (by rw [Qac]; omega)
 rintro rec m _ ⟨bs, s', rfl, hs', hm, hb1, hI⟩ ih
 unfold l_m_23
 dsimp only
 by_cases c : 0 < m
 ·rw [if_pos (by rw [QO]; omega)]
  refine (Qbt hs' (by omega) _).bind fun r44 h44 => (Qbt h44.1 (by omega) _).bind fun r45 h45 => ?_
  have em : ((m : Int) - 1) = ((m - 1 : Nat) : Int) := by omega
  have b1 := bdLt h44.2 (by omega)
  have b2 := bdLt h45.2 (by omega)
  rw [Qr (n := (m : Int) - 1) (by omega) (by omega)]
  have skip : ∀ {Q}, (∀ x, (∃ (bs : List TwoD) (s' : SrcD), x = (((), ((), ((), (((L.length : Nat) : Int), (((m - 1 : Nat) : Int), ()))))), ((X, ((L, (ls, (bs, (([] : List TwoD), ())))), (s', ()))), ())) ∧ Sr s' (k + 2 * (3 - ((m - 1 : Nat) : Int))) ∧ m - 1 ≤ 3 ∧ bs.length ≤ 1 ∧ ∀ b ∈ bs, (0 ≤ b.1 ∧ b.1 < (L.length : Int)) ∧ (0 ≤ b.2.1 ∧ b.2.1 < (L.length : Int)) ∧ b.1 ≠ b.2.1) → Dr (rec x) Q) → Dr (rec (((), ((), ((), (((L.length : Nat) : Int), ((m : Int) - 1, ()))))), ((X, ((L, (ls, (bs, (([] : List TwoD), ())))), (r45.2.1, ()))), ()))) Q := fun h =>
   h _ ⟨bs, r45.2.1, by rw [em], h45.1.le (by omega), by omega, hb1, hI⟩
  refine Dr.ite (fun hne => Dr.ite (fun h0 => Dr.guard (by simp; omega) ?_) fun _ => skip fun x hx => ih (m - 1) x (by omega) hx) fun _ => skip fun x hx => ih (m - 1) x (by omega) hx
  rw [QO] at h0
  have e0 : bs = [] := List.eq_nil_of_length_eq_zero (by omega)
  subst e0
  refine ih (m - 1) _ (by omega) ⟨[(r44.1.1, (r45.1.1, ()))], r45.2.1, by rw [em]; rfl, h45.1.le (by omega), by omega, by simp, fun b hb => ?_⟩
  rw [List.mem_singleton.1 hb]
  exact ⟨b1, b2, by simpa using hne⟩
 ·obtain rfl : m = 0 := by omega
  rw [if_neg (by rw [QO]; omega)]
  exact Dr.ret ⟨bs, s', rfl, hs'.le (by omega), hb1, hI⟩
theorem QsS {X : PolD} {L : List (List Int)} {ls : List QD} {bs : List TwoD} {s : SrcD} {k : Int} (hl : 1 ≤ L.length ∧ L.length ≤ 3) (K : Nat) (hK : K ≤ 4) (hs : Sr s k) (hk : k ≤ 1000000) :
  Dr (L_m_29 (((), ((), ((), (((L.length : Nat) : Int), ((K : Int), ()))))), ((X, ((L, (ls, (bs, (([] : List TwoD), ())))), (s, ()))), ()))) fun o => ∃ (pl : List TwoD) (s' : SrcD),
   o = .inl (((), ((), ())), ((X, ((L, (ls, (bs, (pl, ())))), (s', ()))), ())) ∧ Sr s' (k + 8) ∧ pl.length = K ∧ ∀ b ∈ pl, (0 ≤ b.1 ∧ b.1 < (L.length : Int)) ∧ 1 ≤ b.2.1 ∧ b.2.1 ≤ 9 := by
 have hk0 := hs.pos
 refine QaK (fun m u => ∃ (pl : List TwoD) (s' : SrcD), u = (((), ((), ((), (((L.length : Nat) : Int), ((m : Int), ()))))), ((X, ((L, (ls, (bs, (pl, ())))), (s', ()))), ())) ∧ Sr s' (k + 2 * (4 - (m : Int))) ∧ pl.length + m = K ∧ ∀ b ∈ pl, (0 ≤ b.1 ∧ b.1 < (L.length : Int)) ∧ 1 ≤ b.2.1 ∧ b.2.1 ≤ 9) ?_ K _
  ⟨[], s, rfl, hs.le (by omega), by simp, by simp⟩ (by rw [Qac]; omega)
 rintro rec m _ ⟨pl, s', rfl, hs', hm, hI⟩ ih
 unfold l_m_29
 dsimp only
 by_cases c : 0 < m
 ·rw [if_pos (by rw [QO]; omega)]
  refine (Qbt hs' (by omega) _).bind fun r57 h57 => (Qbt h57.1 (by omega) _).bind fun r58 h58 => ?_
  have em : ((m : Int) - 1) = ((m - 1 : Nat) : Int) := by omega
  have b1 := bdLt h57.2 (by omega)
  have b2 := bdLt h58.2 (by omega)
  rw [Qr (n := (m : Int) - 1) (by omega) (by omega), Qr (n := 1 + (r58.1.1 : Int)) (by omega) (by omega)]
  refine Dr.guard (by simp; omega) ?_
  refine ih (m - 1) _ (by omega) ⟨pl ++ [(r57.1.1, (1 + (r58.1.1 : Int), ()))], r58.2.1, by rw [em], h58.1.le (by omega), by simp; omega, fun b hb => ?_⟩
  rcases List.mem_append.1 hb with hb | hb
  ·exact hI b hb
  ·rw [List.mem_singleton.1 hb]; exact ⟨b1, by dsimp only; omega, by dsimp only; omega⟩
 ·obtain rfl : m = 0 := by omega
  rw [if_neg (by rw [QO]; omega)]
  exact Dr.ret ⟨pl, s', rfl, hs'.le (by omega), by omega, hI⟩
theorem Qqo {L : List (List Int)} {ls : List QD} {bs pl : List TwoD} (h1 : QdI L = 0) (h2 : ls.length ≤ 3) (h3 : QbJ (L, ls, [], [], ()) = none) (h4 : bs.length ≤ 1)
  (h5 : ∀ b ∈ bs, (0 ≤ b.1 ∧ b.1 < (L.length : Int)) ∧ (0 ≤ b.2.1 ∧ b.2.1 < (L.length : Int)) ∧ b.1 ≠ b.2.1) (h6 : 1 ≤ pl.length ∧ pl.length ≤ 4) (h7 : ∀ b ∈ pl, (0 ≤ b.1 ∧ b.1 < (L.length : Int)) ∧ 1 ≤ b.2.1 ∧ b.2.1 ≤ 9) : polM (L, ls, bs, pl, ()) = 0 := by
 have e1 : QbJ (L, ls, bs, pl, ()) = none := h3
 have e2 : QfK (L, ls, bs, pl, ()) = none := by
  unfold QfK
  match bs, h4, h5 with
  | [], _, _ => rfl
  | [b], _, h5 =>
   have := h5 b (by simp)
   simp only [scan]
   unfold Qhn Qcv
   rw [if_pos (Qby.2 this.1), if_pos (Qby.2 this.2.1), if_neg this.2.2]
   rfl
 have e3 : Qkm (L, ls, bs, pl, ()) = 0 := by
  unfold Qkm
  rw [if_pos (by dsimp only; omega), QdM]
  intro _ b hb
  have := h7 b hb
  rw [if_pos (Qby.2 this.1), if_pos (Qci.2 (by omega))]
 unfold polM
 rw [if_neg (by simpa using h1), if_pos (by dsimp only; omega), e1]
 dsimp only
 rw [e2]
 exact e3
theorem QqO {n x : Int} (h : Bd n x) : ∃ K : Nat, x = (K : Int) ∧ ((K : Int) < n ∨ K = 0) := ⟨x.toNat, by unfold Bd at h; omega, by unfold Bd at h; omega⟩
theorem QnO {s : SrcD} {k : Int} (hs : Sr s k) (hk : k ≤ 900000) : Dr (F_m (s, ())) fun r => Sr r.2.1 (k + 100) ∧ polM r.1.1 = 0 := by
 have hk0 := hs.pos
 unfold F_m
 refine (Qbt hs (by omega) _).bind fun r1 h1 => (QtR h1.1 (by omega) _ _).bind fun r2 h2 => ?_
 have b1 := bdLt h1.2 (by omega)
 obtain ⟨G, eG, hG⟩ : ∃ G : Nat, (r2.1.1 : Int) = (G : Int) ∧ 1 ≤ G ∧ G ≤ 3 := by
  have key : ∀ v : Int, v ∈ [(2 : Int), 3, 3, 1] → ∃ G : Nat, v = (G : Int) ∧ 1 ≤ G ∧ G ≤ 3 := fun v hv => by
   simp only [List.mem_cons, List.not_mem_nil, or_false] at hv
   exact ⟨v.toNat, by omega, by omega⟩
  exact key _ h2.2
 rw [eG]
 refine (QtT G hG (by omega) h2.1 (by omega)).bind fun z hz => ?_
 obtain ⟨L, page, s1, rfl, hs1, hl, hI⟩ := hz
 dsimp only
 have hl3 : 1 ≤ L.length ∧ L.length ≤ 3 := by omega
 have hO := hI.owns hl3
 have hp := hI.top
 have hl2 : ∀ l ∈ L, l.length ≤ 1048576 := fun l hm => by have := hI.one l hm; omega
 refine (Qbt hs1 (by omega) _).bind fun r18 h18 => ?_
 obtain ⟨K1, e1, c1⟩ := QqO h18.2
 rw [e1]
 refine (QsQ hO hl3 hl2 (by omega) K1 (by omega) h18.1 (by omega)).bind fun z hz => ?_
 obtain ⟨ls, s2, rfl, hs2, hls, hlm⟩ := hz
 dsimp only
 refine (Qbt hs2 (by omega) _).bind fun r41 h41 => ?_
 obtain ⟨K2, e2, c2⟩ := QqO h41.2
 rw [e2]
 refine (QsR hl3 K2 (by omega) h41.1 (by omega)).bind fun z hz => ?_
 obtain ⟨bs, s3, rfl, hs3, hbs, hbm⟩ := hz
 dsimp only
 refine (Qbt hs3 (by omega) _).bind fun r53 h53 => ?_
 obtain ⟨K3, e3, c3⟩ := QqO h53.2
 rw [e3, Qr (by omega) (by omega), show (1 : Int) + (K3 : Int) = ((K3 + 1 : Nat) : Int) by omega]
 refine (QsS hl3 (K3 + 1) (by omega) h53.1 (by omega)).bind fun z hz => ?_
 obtain ⟨pl, s4, rfl, hs4, hpl, hpm⟩ := hz
 exact Dr.ret ⟨hs4.le (by omega), Qqo hO hls hlm hbs hbm (by omega) hpm⟩
def Fit (p : PolD) (I : List (List Int)) : Prop := I.length = p.1.length ∧ ∀ j (h1 : j < p.1.length) (h2 : j < I.length), I[j].length ≤ 8 * p.1[j].length
theorem QpO {p : PolD} {s : SrcD} {k : Int} (hok : OkPol p) (hs : Sr s k) (hk : k ≤ 1000000) : Dr (F_w (s, p, ())) fun r => Sr r.2.1 (k + 4000) ∧ Fit p r.1.1 := by
 have hk0 := hs.pos
 have h3 := hok.own
 unfold F_w
 have key : Dr (L_w_3 (((), ((), (([] : List (List Int)), ((0 : Int), ())))), (((p.1, (p.2.1, (p.2.2.1, (p.2.2.2.1, ())))), (s, ())), ()))) fun o => ∃ (I : List (List Int)) (s' : SrcD), o = .inl ((I, ()), ((s', ()), ())) ∧ Sr s' (k + 4000) ∧ Fit p I := by
  refine QaK (fun m u => ∃ (I : List (List Int)) (s' : SrcD), u = (((), ((), (I, (((I.length : Nat) : Int), ())))), ((p, (s', ())), ())) ∧ Sr s' (k + 1100 * (I.length : Int)) ∧ I.length + m = p.1.length ∧ ∀ j (h1 : j < p.1.length) (h2 : j < I.length), I[j].length ≤ 8 * p.1[j].length) ?_ p.1.length _
   ⟨[], s, rfl, hs.le (by simp), by simp, fun j _ h2 => by simp at h2⟩ (by rw [Qac]; omega)
  rintro rec m _ ⟨I, s', rfl, hs', hm, hI⟩ ih
  unfold l_w_3
  dsimp only
  by_cases c : I.length < p.1.length
  ·have hm0 : p.1[I.length] ∈ p.1 := List.getElem_mem c
   have h5 := hok.own1 _ hm0
   rw [if_pos (lt_t c), if_pos nat0, Qx c]
   rw [Qr (n := (((p.1[I.length]).length : Nat) : Int) * 8) (by omega) (by omega), Qr (n := (((p.1[I.length]).length : Nat) : Int) * 8 + 1) (by omega) (by omega)]
   refine (Qbt hs' (by omega) _).bind fun r9 h9 => ?_
   have b9 := bdLt h9.2 (by omega)
   refine (Qsy h9.1 (by omega) r9.1.1 b9.1 (by omega)).bind fun r10 h10 => ?_
   refine Dr.guard (by simp; omega) ?_
   rw [Qai (by omega)]
   refine ih (m - 1) _ (by omega) ⟨I ++ [r10.1.1], r10.2.1, by simp, h10.1.le (by simp; omega), by simp; omega, fun j h1 h2 => ?_⟩
   by_cases cj : j < I.length
   ·rw [List.getElem_append_left cj]; exact hI j h1 cj
   ·have : j = I.length := by simp at h2; omega
    subst this
    rw [List.getElem_concat_length (by rfl)]
    have := h10.2
    omega
  ·rw [if_neg (lt_f c)]
   exact Dr.ret ⟨I, s', rfl, hs'.le (by omega), by omega, hI⟩
 refine key.bind fun z hz => ?_
 obtain ⟨I, s', rfl, hs', hI⟩ := hz
 exact Dr.ret ⟨hs', hI⟩
def FitQ (p : PolD) (J : List (List Int)) : Prop := J.length = p.1.length ∧ ∀ q ∈ J, OkQ q
theorem QsH (n : Nat) : OkQ ([(5 : Int), 6, 7].take n) := ⟨by rw [List.length_take]; simp; omega, fun w hw => by
 have := List.mem_of_mem_take hw
 simp only [List.mem_cons, List.not_mem_nil, or_false] at this
 unfold WW
 omega⟩
theorem Bd.to4 {x : Int} (h : Bd 4 x) : 0 ≤ x ∧ x ≤ 3 := by unfold Bd at h; omega
theorem Qjs {p : PolD} {c : List Int} (hok : OkPol p) (hc : Byt ([3] ++ c)) : Dr (F_x (c, p, ())) fun r => Fit p r.1.1 ∧ FitQ p r.1.2.1 := by
 have h3 := hok.own
 have hc1 := hc.2
 unfold F_x
 refine Dr.guard (by have := hc.2; simp at this ⊢; omega) ?_
 refine (QmV hc).bind fun r2 h2 => (QpO hok h2 (by omega)).bind fun r3 h3' => ?_
 have key : Dr (L_x_5 (((), ((), (r3.1.1, (([] : List (List Int)), ((0 : Int), ()))))), (((p.1, (p.2.1, (p.2.2.1, (p.2.2.2.1, ())))), (r3.2.1, ())), ()))) fun o => ∃ J : List (List Int), o = .inl ((r3.1.1, (J, ())), ((), ())) ∧ FitQ p J := by
  refine QaK (fun m u => ∃ (J : List (List Int)) (s' : SrcD), u = (((), ((), (r3.1.1, (J, (((J.length : Nat) : Int), ()))))), ((p, (s', ())), ())) ∧ Sr s' (4000 + (J.length : Int)) ∧ J.length + m = p.1.length ∧ ∀ q ∈ J, OkQ q) ?_ p.1.length _
   ⟨[], r3.2.1, rfl, h3'.1.le (by simp), by simp, by simp⟩ (by rw [Qac]; omega)
  rintro rec m _ ⟨J, s', rfl, hs', hm, hJ⟩ ih
  unfold l_x_5
  dsimp only
  by_cases c : J.length < p.1.length
  ·rw [if_pos (lt_t c)]
   refine (Qbt hs' (by omega) _).bind fun r6 h6 => ?_
   have b6 := h6.2.to4
   refine Dr.guard ⟨Int.le_refl _, b6.1, by show (r6.1.1 : Int) ≤ 3; exact b6.2⟩ (Dr.guard (by simp; omega) ?_)
   rw [Qai (by omega)]
   refine ih (m - 1) _ (by omega) ⟨J ++ [(([(5 : Int), 6, 7].drop (0 + ((0 : Int)).toNat)).take ((r6.1.1 : Int).toNat - ((0 : Int)).toNat))], r6.2.1, by simp, h6.1.le (by simp; omega), by simp; omega, fun q hq => ?_⟩
   rcases List.mem_append.1 hq with hq | hq
   ·exact hJ q hq
   ·rw [List.mem_singleton.1 hq]
    exact QsH _
  ·rw [if_neg (lt_f c)]
   exact Dr.ret ⟨J, rfl, by omega, hJ⟩
 refine key.bind fun z hz => ?_
 obtain ⟨J, rfl, hJ⟩ := hz
 exact Dr.ret ⟨h3'.2, hJ⟩
theorem QnP {c : List Int} (hc : Byt c) (hc2 : Byt ([3] ++ c)) : Dr (F_y (c, ())) fun r => polM r.1.1 = 0 ∧ Fit r.1.1 r.1.2.1 ∧ FitQ r.1.1 r.1.2.2.1 := by
 unfold F_y F_n
 refine Dr.bind (Q := fun r => polM r.1.1 = 0) ?_ fun r1 h1 => ?_
 ·exact (QmV hc).bind fun r1 h1 => (QnO h1 (by omega)).bind fun r2 h2 => Dr.ret h2.2
 ·exact (Qjs (Qeo h1) hc2).bind fun r2 h2 => Dr.ret ⟨h1, h2⟩
theorem Qrq {p : PolD} {Z : Int × List Int × Unit} {own im m : List Int} {I : List (List Int)} {n g : Int} (hown : ∀ x ∈ own, 0 ≤ x ∧ x ≤ 23) (hl : im.length ≤ 8 * own.length) (h5 : own.length ≤ 5) (hm : m.length = 192) :
  L_at_14 (((), ((), (m, (own, (I, (n, (g, (im, (((im.length : Nat) : Int), ((0 : Int), ())))))))))), ((p, (Z, ())), ())) = some (.inl (((), ((), (imgH own 0 im m, (I, (n, (g, ())))))), ((p, (Z, ())), ()))) := by
 refine Dr.eq ?_
 refine QaK (fun k u => ∃ (i : Nat) (m' : List Int), u = (((), ((), (m', (own, (I, (n, (g, (im, (((im.length : Nat) : Int), ((i : Int), ())))))))))), ((p, (Z, ())), ())) ∧ k + i = im.length ∧ m'.length = 192 ∧ imgH own i (im.drop i) m' = imgH own 0 im m) ?_ im.length _ ⟨0, m, rfl, by omega, hm, rfl⟩ (by rw [Qac]; omega)
 rintro rec k _ ⟨i, m', rfl, hk, hm', he⟩ ih
 unfold l_at_14
 dsimp only
 by_cases c : i < im.length
 ·have hi8 : i / 8 < own.length := by omega
  have hx := hown _ (QM (l := own) (k := i / 8) (d := 0) hi8)
  have e1 : Int.tdiv (i : Int) 8 = ((i / 8 : Nat) : Int) := by rw [Int.tdiv_eq_ediv_of_nonneg (by omega)]; omega
  have e2 : Int.tmod (i : Int) 8 = ((i % 8 : Nat) : Int) := by rw [Int.tmod_eq_emod_of_nonneg (by omega)]; omega
  rw [if_pos (lt_t c), if_pos nat0, Qx c, e1, e2, Qr (n := ((i / 8 : Nat) : Int)) (by omega) (by omega), if_pos nat0, Qx hi8]
  rw [gget hi8] at hx
  rw [Qr (n := own[i / 8] * 8) (by omega) (by omega), Qr (n := own[i / 8] * 8 + ((i % 8 : Nat) : Int)) (by omega) (by omega), QcV, Obn, Qai (by omega)]
  refine Dr.gat hm' (by omega) fun _ _ => ih (k - 1) _ (by omega) ⟨i + 1, _, rfl, by omega, by simpa using hm', ?_⟩
  rw [← he, List.drop_eq_getElem_cons c, imgH, gget hi8]
  congr 2
  omega
 ·rw [if_neg (lt_f c)]
  rw [List.drop_of_length_le (by omega)] at he
  exact Dr.ret (by rw [← he]; rfl)
theorem QkY {p : PolD} {I : List (List Int)} (hp : polM p = 0) (hI : Fit p I) : F_at (p, I, ()) = some (((0, (QaV p.1 I (List.replicate 192 0), ())), ()), ()) := by
 have hok := Qeo hp
 have h3 := hok.own
 obtain ⟨hI1, hI2⟩ := hI
 refine Dr.eq ?_
 unfold F_at
 refine Dr.step (QfR p (QhM hok)) (Dr.neg (by rw [hp]; simp) ?_)
 dsimp only
 refine Dr.neg (by rw [hI1]; simp) ?_
 have key : L_at_8 (((), ((), ((List.replicate ((192 : Int)).toNat (QbB (.int .i64))), (I, (((I.length : Nat) : Int), ((0 : Int), ())))))), ((p, (((0 : Int), (([] : List Int), ())), ())), ())) = some (.inl (((), (QaV p.1 I (List.replicate 192 0), ())), ((((0 : Int), (([] : List Int), ())), ()), ()))) := by
  refine Dr.eq ?_
  refine QaK (fun k u => ∃ (g : Nat) (m' : List Int), u = (((), ((), (m', (I, (((I.length : Nat) : Int), ((g : Int), ())))))), ((p, (((0 : Int), (([] : List Int), ())), ())), ())) ∧ k + g = I.length ∧ m'.length = 192 ∧ QaV (p.1.drop g) (I.drop g) m' = QaV p.1 I (List.replicate 192 0)) ?_ I.length _
   ⟨0, _, rfl, by omega, by simp, rfl⟩ (by rw [Qac]; omega)
  rintro rec k _ ⟨g, m', rfl, hk, hm', he⟩ ih
  unfold l_at_8
  dsimp only
  by_cases c : g < I.length
  ·have c' : g < p.1.length := by omega
   have h5 := hok.own1 _ (List.getElem_mem c')
   have hl := hI2 g c' c
   rw [if_pos (lt_t c), if_pos nat0, Qx c, if_pos nat0, Qx c', Qr (n := (((p.1[g]).length : Nat) : Int) * 8) (by omega) (by omega), if_neg (by rw [QO]; omega), Qrq h5.2.2 hl h5.2.1 hm', Obn]
   dsimp only
   rw [Qai (by omega)]
   refine ih (k - 1) _ (by omega) ⟨g + 1, _, rfl, by omega, by rw [Qiq]; exact hm', ?_⟩
   rw [← he, List.drop_eq_getElem_cons c, List.drop_eq_getElem_cons c', QaV]
  ·rw [if_neg (lt_f c)]
   rw [List.drop_of_length_le (by omega : I.length ≤ g), List.drop_of_length_le (by omega : p.1.length ≤ g)] at he
   exact Dr.ret (by rw [← he]; rfl)
 exact Dr.step key (Dr.ret rfl)
theorem QjT {q : List Int} (h : OkQ q) : F_bf (q, ()) = some (((0, Qen q), ()), ()) := by
 have hl := h.len
 refine Dr.eq ?_
 unfold F_bf
 dsimp only
 refine Dr.neg (by rw [QO]; omega) (Dr.step (QaZ q (by rw [QcM]; omega)) (Dr.neg (by rw [Qao.2 h.words]; simp) (Dr.step (QbE (by omega)) (Dr.ret rfl))))
end Go.Proofs.YtmoninjbahccoaaGreatDoor
