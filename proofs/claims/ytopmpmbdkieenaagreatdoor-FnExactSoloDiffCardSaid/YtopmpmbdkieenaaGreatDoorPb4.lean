/- Plain laws: what the functions compute, and that both programs compute the same. -/
import Derived.Test.YtopmpmbdkieenaaGreatDoorPb3
namespace Go.Proofs.YtopmpmbdkieenaaGreatDoor
open Go Go.RowKit S Go.Proofs
set_option maxRecDepth 100000
set_option linter.unusedVariables false
set_option linter.unusedSimpArgs false
theorem QhG {s ws : List Int} {k : Nat} (h1 : ∀ w ∈ s, WW w) (h2 : ∀ w ∈ ws, WW w) : ∀ w ∈ QfI s k ws, WW w := by
 intro w hw
 unfold QfI at hw
 rcases List.mem_append.1 hw with hw | hw
 ·exact h1 w (List.mem_of_mem_take hw)
 ·rcases List.mem_append.1 hw with hw | hw
  ·exact h2 w hw
  ·exact h1 w (List.mem_of_mem_drop hw)
theorem QsB {m : List Int} {p : Int} (h : ∀ w ∈ m, WW w) : ∀ w ∈ pg m p, WW w := fun w hw => h w (List.mem_of_mem_drop (List.mem_of_mem_take hw))
theorem Qpj (m : List Int) (p : Int) : Qah m [p] = pg m p := by simp [Qah]
theorem Qlx {x : Qx} (h : HK x) {l : Qay} (hl : l ∈ x.1.2.1) : (0 ≤ l.2.2.1 ∧ 8 * l.2.2.1 + 8 ≤ (x.2.1.length : Int)) ∧ (0 ≤ l.2.2.2.2.1 ∧ l.2.2.2.2.1 < 8) ∧ (pg x.2.1 l.2.2.1).length = 8 ∧ ∀ w ∈ pg x.2.1 l.2.2.1, WW w := by
 have hm := h.mem.2
 obtain ⟨_, h2, h3, h4⟩ := QeF h.ok l hl
 have e : 0 ≤ l.2.2.1 ∧ 8 * l.2.2.1 + 8 ≤ (x.2.1.length : Int) := by omega
 exact ⟨e, by omega, QtE e, QsB (QgO h.mem.1)⟩
theorem Qio {x : Qx} (h : HK x) {g : Int} : ∀ {r : List Qay} {q : List Int}, (∀ l ∈ r, l ∈ x.1.2.1) → q.length = 64 → (∀ w ∈ q, WW w) → (QdH x.2.1 g r q).length = 64 ∧ ∀ w ∈ QdH x.2.1 g r q, WW w
 | [], q, _, h1, h2 => ⟨h1, h2⟩
 | l :: r, q, hr, h1, h2 => by
  obtain ⟨_, l2, l3, l4⟩ := Qlx h (hr l (by simp))
  rw [QdH]
  split
  ·exact Qio h (fun y hy => hr y (List.mem_cons_of_mem _ hy)) (Qhj h1 (by omega) l3) (QhG h2 l4)
  ·exact Qio h (fun y hy => hr y (List.mem_cons_of_mem _ hy)) h1 h2
def fedS (x : Qx) (s : QL) (g : Int) : QL := setM s (QdH x.2.1 g x.1.2.1 s.2.2.1)
def QiP (x : Qx) (s : QL) (g : Int) : QL := QtX (fedS x s g) (x.2.2.1.getD g.toNat Qbu)
def Qnf (x : Qx) (s : QL) (g : Int) : Mc := Qac (Mc.of (QiP x s g).1 (QiP x s g).2.2.1) (QiP x s g).2.1
def Qnd (x : Qx) (s : QL) (g : Int) : QL := ((Qnf x s g).hart, s.2.1, (Qnf x s g).m, ())
theorem Qtn {x : Qx} {s : QL} (g : Int) (hx : HK x) (hs : QS s = 0) : QS (fedS x s g) = 0 := by
 obtain ⟨h1, h2, h3, h4⟩ := QbW hs
 obtain ⟨f1, f2⟩ := Qio hx (g := g) (r := x.1.2.1) (q := s.2.2.1) (fun _ h => h) h4 (QgO h3)
 exact QiV hs f1 f2
theorem QiQ {x : Qx} {s : QL} (g : Int) (hx : HK x) (hs : QS s = 0) : QS (QiP x s g) = 0 := Qnc (Qtn g hx hs) _
theorem Qne {x : Qx} {s : QL} (g : Int) (hx : HK x) (hs : QS s = 0) : QS (Qnd x s g) = 0 := by
 have hr := QiQ g hx hs
 have ho : OkS (Qnf x s g) (QiP x s g).2.1 := QgK (QiF hr)
 have hl := ho.l
 obtain ⟨h1, h2, h3, h4⟩ := QbW hr
 exact QiU ho.hartM h2 (by show (Qnf x s g).m.length = 64; unfold Qnf; rw [Qjc]; exact h4) hl.words
abbrev DB := Int × Int × Bool × Unit
theorem Qnj {x : Qx} {s : QL} {g n k : Int} {z : DB} (hx : HK x) (hs : QS s = 0) :
  L_cy_21 ((g, (n, ((), ((), ((), (k, ((0 : Int), ()))))))), ((z, (boxH x, (sB s, ()))), ())) = some (.inl ((g, (n, ((), ((), ((), (k, ())))))), ((z, (boxH x, (sB (fedS x s g), ()))), ()))) := by
 obtain ⟨_, _, _, s4⟩ := QbW hs
 have hl4 := hx.ok.lanes.1
 have hm := hx.mem.2
 refine Dr.eq ?_
 refine QbQ (fun m u => ∃ (i : Nat) (q : List Int), u = ((g, (n, ((), ((), ((), (k, ((i : Int), ()))))))), ((z, (boxH x, (sB (setM s q), ()))), ())) ∧ m = x.1.2.1.length - i ∧ i ≤ x.1.2.1.length ∧ q.length = 64 ∧ QdH x.2.1 g (x.1.2.1.drop i) q = QdH x.2.1 g x.1.2.1 s.2.2.1) ?_ _ _ ⟨0, s.2.2.1, rfl, rfl, Nat.zero_le _, s4, rfl⟩ (by rw [Qaj]; omega)
 rintro rec m _ ⟨i, q, rfl, hn, hi, hq, he⟩ ih
 unfold l_cy_21 boxH
 dsimp only
 by_cases hlt : i < x.1.2.1.length
 case neg =>
  rw [if_neg (lt_f hlt)]
  rw [List.drop_of_length_le (by omega), QdH] at he
  exact Dr.ret (by rw [he]; rfl)
 rw [if_pos (lt_t hlt), if_pos nat0, Ql hlt, QK (by omega)]
 rw [List.drop_eq_getElem_cons hlt, QdH] at he
 obtain ⟨l1, l2, l3, l4⟩ := Qlx hx (List.getElem_mem hlt)
 generalize x.1.2.1[i] = y at *
 by_cases hg : y.2.1 = g
 ·rw [if_pos hg] at he
  rw [if_pos (by simpa using hg)]
  have w1 := Qbs x.2.1 [y.2.2.1] (by omega) (by simpa using l1) (by simp)
  rw [Qpj] at w1
  refine Dr.step w1 (.step (QoN (sB (setM s q)) y.2.2.2.2.1 (pg x.2.1 y.2.2.1) hq l2 l3) ?_)
  exact ih (m - 1) _ (by omega) ⟨i + 1, _, rfl, by omega, by omega, Qhj hq (by omega) l3, he⟩
 ·rw [if_neg hg] at he
  rw [if_neg (by simpa using hg)]
  exact ih (m - 1) _ (by omega) ⟨i + 1, _, rfl, by omega, by omega, hq, he⟩
theorem QqL {s : QL} {k : Int} {ws : List Int} (hs : QS s = 0) (hk : 0 ≤ k ∧ k < 8) (hw : ws.length = 8) : F_fe (s, k, ws, ()) = some ((sB (setM s (QfI s.2.2.1 k.toNat ws)), ()), ()) := by
 obtain ⟨K, rfl⟩ : ∃ K : Nat, k = (K : Int) := ⟨k.toNat, by omega⟩
 obtain ⟨h1, h2, h3, h4⟩ := QbW hs
 have hp := (QfZ (by decide) h2).1
 refine Dr.eq ?_
 unfold F_fe
 dsimp only
 rw [Qcj (by omega), Obn]
 dsimp only
 rw [QP (n := (K : Int) * 8) (by omega) (by omega), if_pos (by rw [h4]; omega), if_pos (by rw [h4, hw]; omega), h4]
 have e1 : ((K : Int) * 8).toNat = 8 * K := by omega
 have e2 : (((64 : Nat) : Int)).toNat = 64 := rfl
 rw [e1, e2, QsL h4 (by omega) hw]
 refine Dr.step (QdY _ (Qez h1)) ?_
 unfold F_fd F_fc
 dsimp only
 rw [if_pos (by simp; omega), Obn, Obn]
 exact Dr.ret rfl
theorem Qok {s : QL} (hs : QS s = 0) : F_gp (s, 1, ()) = some ((sB ((Qac (Mc.of s.1 s.2.2.1) s.2.1).hart, s.2.1, (Qac (Mc.of s.1 s.2.2.1) s.2.1).m, ()), ()), ()) := by
 have hl := QgI hs
 have h2 := hl.2.1
 refine Dr.eq ?_
 unfold F_gp F_fd F_fc
 dsimp only
 rw [Qfy s.1 s.2.1 s.2.2.1 1 hl.1 hl.2.2 (QiF hs) (by omega), Obn, if_pos (by simp; omega), Obn, Obn, QpJ]
 exact Dr.ret rfl
theorem QoS {s : QL} (hs : QS s = 0) : F_cu (s, 1, ()) = some ((Qua (Qac (Mc.of s.1 s.2.2.1) s.2.1) s.2.1, ()), ()) := by
 rw [QjF s 1 (QgI hs)]
 unfold QiN
 rw [if_neg (by simpa using hs), if_pos (by omega)]
 rfl
theorem Qlt {x : Qx} {s : QL} {g : Int} (hx : HK x) (hg : isG x.1 g = true) (hs : QS s = 0) : F_gq (x, s, g, ()) = some ((sB (Qnd x s g), ()), ()) := by
 obtain ⟨_, _, s3, s4⟩ := QbW hs
 have hl4 := hx.ok.lanes.1
 have hm := hx.mem.2
 refine Dr.eq ?_
 unfold F_gq
 have k1 : Dr (L_gq_2 ((x, (g, ((), ((), (x.1.2.1, (((x.1.2.1.length : Nat) : Int), ((0 : Int), ()))))))), ((sB s, (([], ((0 : Int), ([], (false, (false, (false, ((0 : Int), ([], ([], ([], ([], ()))))))))))), ())), ()))) fun o => o = .inl ((x, (g, ((), ((), ())))), ((sB (fedS x s g), (([], ((0 : Int), ([], (false, (false, (false, ((0 : Int), ([], ([], ([], ([], ()))))))))))), ())), ())) := by
  refine QbQ (fun m u => ∃ (i : Nat) (q : List Int), u = ((x, (g, ((), ((), (x.1.2.1, (((x.1.2.1.length : Nat) : Int), ((i : Int), ()))))))), ((sB (setM s q), (([], ((0 : Int), ([], (false, (false, (false, ((0 : Int), ([], ([], ([], ([], ()))))))))))), ())), ())) ∧ m = x.1.2.1.length - i ∧ i ≤ x.1.2.1.length ∧ (q.length = 64 ∧ ∀ w ∈ q, WW w) ∧ QdH x.2.1 g (x.1.2.1.drop i) q = QdH x.2.1 g x.1.2.1 s.2.2.1) ?_ _ _ ⟨0, s.2.2.1, rfl, rfl, Nat.zero_le _, ⟨s4, QgO s3⟩, rfl⟩ (by rw [Qaj]; omega)
  rintro rec m _ ⟨i, q, rfl, hn, hi, hq, he⟩ ih
  unfold l_gq_2
  dsimp only
  by_cases hlt : i < x.1.2.1.length
  case neg =>
   rw [if_neg (lt_f hlt)]
   rw [List.drop_of_length_le (by omega), QdH] at he
   exact Dr.ret (by rw [he]; rfl)
  rw [if_pos (lt_t hlt), if_pos nat0, Ql hlt, QK (by omega)]
  rw [List.drop_eq_getElem_cons hlt, QdH] at he
  obtain ⟨l1, l2, l3, l4⟩ := Qlx hx (List.getElem_mem hlt)
  generalize x.1.2.1[i] = y at *
  by_cases hg : y.2.1 = g
  ·rw [if_pos hg] at he
   rw [if_pos (by simpa using hg)]
   refine Dr.step (Qdq x.2.1 y.2.2.1 (by omega) l1) (.step (QqL (s := setM s q) (QiV hs hq.1 hq.2) l2 l3) ?_)
   exact ih (m - 1) _ (by omega) ⟨i + 1, _, rfl, by omega, by omega, ⟨Qhj hq.1 (by omega) l3, QhG hq.2 l4⟩, he⟩
  ·rw [if_neg hg] at he
   rw [if_neg (by simpa using hg)]
   exact ih (m - 1) _ (by omega) ⟨i + 1, _, rfl, by omega, by omega, hq, he⟩
 refine k1.bind fun o ho => ?_
 subst ho
 obtain ⟨g1, g2, _⟩ := hx.guest hg
 dsimp only
 rw [if_pos g1.1, g2, Obn]
 exact Dr.step (Qok (s := QiP x s g) (QiQ g hx hs)) (.ret rfl)
def Qdu (p : PolD) (s : QL) (g : Int) : Qep := (QfN 0 s.1 (s.2.2.1.take (8 * (p.1.getD g.toNat []).length)) (Qah s.2.2.1 (Qar g false p.2.1))).2
theorem Qmb {p : PolD} {g : Int} (hp : polM p = 0) (hg : isG p g = true) : askM p g = 0 := by
 unfold askM
 rw [if_neg (by simpa using hp), if_pos hg]
theorem Qnh {p : PolD} {s : QL} {g : Int} (hp : polM p = 0) (hg : isG p g = true) (hs : QS s = 0) : Qfm p s g = (0, Qdu p s g) := by
 unfold Qfm Qdu
 rw [if_neg (by simpa using Qmb hp hg), if_neg (by simpa using hs)]
 rfl
theorem QhQ {p : PolD} {x : QL} {g : Int} (hp : polM p = 0) (hg : isG p g = true) (h1 : QS x = 0) : F_ew (x, p, g, ()) = some ((Qdu p x g, ()), ()) := by
 have hx := QgI h1
 obtain ⟨hok, g0, e2, hl5⟩ := QjT (Qmb hp hg)
 obtain ⟨_, _, _, hm⟩ := QbW h1
 unfold Qdu
 generalize p.1.getD g.toNat [] = ow at *
 unfold F_ew
 dsimp only
 rw [QdY _ hx.1, Obn, if_pos g0, e2, Obn, QP (n := ((ow.length : Nat) : Int) * 8) (by omega) (by omega), if_pos ⟨by omega, by omega, by omega⟩]
 have e3 : (x.2.2.1.drop (0 : Int).toNat).take ((((ow.length : Nat) : Int) * 8).toNat - (0 : Int).toNat) = x.2.2.1.take (8 * ow.length) := by
  have a : (((ow.length : Nat) : Int) * 8).toNat - (0 : Int).toNat = 8 * ow.length := by omega
  rw [a]; rfl
 rw [e3, Qes _ (by simp; omega), Obn]
 dsimp only
 generalize x.2.2.1.take (8 * ow.length) = tk at *
 have key := QbX (step := l_ew_3) (γ := denO o_ew_3)
  (fun k (out : List Int) => ((g, (), (), (), p.2.1, ((p.2.1.length : Nat) : Int), ((k : Nat) : Int), ()), ((x.1.1, x.1.2.1, x.1.2.2.1, x.1.2.2.2.1, x.1.2.2.2.2.1, x.1.2.2.2.2.2.1, x.1.2.2.2.2.2.2.1, x.1.2.2.2.2.2.2.2.1, x.1.2.2.2.2.2.2.2.2.1, x.2.1, x.2.2.1, ()), ([], 0, [], false, false, false, 0, [], [], [], [], ()), (x.1.1, x.1.2.1, x.1.2.2.1, x.1.2.2.2.1, x.1.2.2.2.2.1, x.1.2.2.2.2.2.1, x.1.2.2.2.2.2.2.1, x.1.2.2.2.2.2.2.2.1, x.1.2.2.2.2.2.2.2.2.1, tk, out, ()), ()), ()))
  p.2.1.length (QW (by have := hok.lanes.1; omega)) (fun k out => out.length ≤ 8 * k)
  (fun k out => some (.inl (((), (), ()), (([], 0, [], false, false, false, 0, [], [], [], [], ()), (x.1.1, x.1.2.1, x.1.2.2.1, x.1.2.2.2.1, x.1.2.2.2.2.1, x.1.2.2.2.2.2.1, x.1.2.2.2.2.2.2.1, x.1.2.2.2.2.2.2.2.1, x.1.2.2.2.2.2.2.2.2.1, tk, out ++ Qah x.2.2.1 (Qar g false (p.2.1.drop k)), ()), ()), ()))) ?_ 0 [] (by omega) (by simp)
 ·have e0 : ((0 : Nat) : Int) = 0 := rfl
  rw [e0, List.drop_zero, List.nil_append] at key
  show (Qc l_ew_3 lots _).bind _ = _
  rw [key, Obn]
  rfl
 ·rintro rec k out hk ho ih
  have hl4 := hok.lanes.1
  unfold l_ew_3
  dsimp only
  by_cases hlt : k < p.2.1.length
  ·have hln := (QeF hok _ (List.getElem_mem hlt)).2.2.1
   rw [if_pos (lt_t hlt), if_pos nat0, Ql hlt, QaB hlt, Qar, QK (by omega)]
   by_cases hq : (p.2.1[k]).1 = g
   ·rw [if_pos (by simpa using hq), if_pos hq, Qdq x.2.2.1 _ (by omega) (by omega), Obn]
    dsimp only
    have := Qga x.2.2.1 (p.2.1[k]).2.2.2.1
    rw [if_pos (by omega), ih _ hlt (by rw [List.length_append]; omega), List.append_assoc]
    rfl
   ·rw [if_neg (by simpa using hq), if_neg hq]
    exact ih _ hlt (by omega)
  ·rw [if_neg (lt_f hlt), QaJ hlt]
   simp only [Qar, Qah, List.flatMap_nil, List.append_nil]
theorem Qni {x : Qx} {s : QL} {g : Int} (hx : HK x) (hg : isG x.1 g = true) (hs : QS s = 0) : F_bi (x, s, g, ()) = some ((QfQ (Qdh x g) (Qdu x.1 s g), ()), ()) := by
 refine Dr.eq ?_
 unfold F_bi
 have e2 := QhS x.1 s g (QhX hx.ok) (QgI hs)
 rw [Qnh hx.pol hg hs] at e2
 exact Dr.step (Qnu hx hg) (.step e2 (.step (QpU (w := setF (Qdu x.1 s g) (Qkd (Qdh x g))) (QnG hx hg)).1 (.ret rfl)))
theorem Qju {x : Qx} {s : QL} {g : Int} (hx : HK x) (hg : isG x.1 g = true) : F_fa (vD (Qdh x g), vD (Qdu x.1 s g), ()) = some ((QfQ (Qdh x g) (Qdu x.1 s g), ()), ()) := by
 refine Dr.eq ?_
 unfold F_fa
 have e := (QpU (v := setF (Qdh x g) (Qkd (Qdu x.1 s g))) (w := Qdu x.1 s g) (QnG hx hg)).2
 rw [Qqj] at e
 exact Dr.step e (.ret rfl)
def sdGo (g : Int) : Nat → Int → Qx → QL → QrB
 | 0, k, x, s => if QfQ (Qdh x g) (Qdu x.1 s g) = true then (0, 0, true, ()) else (0, k, false, ())
 | r + 1, k, x, s => if QfQ (Qdh x g) (Qdu x.1 s g) = true then sdGo g r (k + 1) (Qdp x) (if turnG x = g then Qnd x s g else s) else (0, k, false, ())
theorem QoT {g n : Int} {x : Qx} {s : QL} (hx : HK x) (hs : QS s = 0) (gx : isG x.1 g = true) (hn : 0 ≤ n ∧ n ≤ 200) (cx : x.2.2.2.2.2.1 + n ≤ 1000000) :
  L_cy_15 ((g, (n, ((), ((), ((), ((0 : Int), ())))))), ((((0 : Int), ((0 : Int), (false, ()))), (boxH x, (sB s, ()))), ())) = some (.inl (((), ()), ((sdGo g n.toNat 0 x s, ()), ()))) := by
 refine Dr.eq ?_
 refine QbQ (fun m u => ∃ (k : Int) (x' : Qx) (s' : QL), u = ((g, (n, ((), ((), ((), (k, ())))))), ((((0 : Int), ((0 : Int), (false, ()))), (boxH x', (sB s', ()))), ())) ∧ k + (m : Int) = n ∧ 0 ≤ k ∧ HK x' ∧ QS s' = 0 ∧ isG x'.1 g = true ∧ x'.2.2.2.2.2.1 + (m : Int) ≤ 1000000 ∧ sdGo g m k x' s' = sdGo g n.toNat 0 x s) ?_ n.toNat _ ⟨0, x, s, rfl, by omega, by omega, hx, hs, gx, by omega, rfl⟩ (by rw [Qaj]; omega)
 rintro rec m _ ⟨k, x, s, rfl, hk, h0, hx, hs, gx, cx, he⟩ ih
 unfold l_cy_15
 refine Dr.step (Qni (x := x) (s := s) hx gx hs) ?_
 cases ha : QfQ (Qdh x g) (Qdu x.1 s g) with
 | false =>
  refine Dr.pos rfl (.ret ?_)
  cases m with
  | zero => rw [← he, sdGo, ha]; rfl
  | succ m => rw [← he, sdGo, ha]; rfl
 | true =>
  refine Dr.neg (by simp) ?_
  cases m with
  | zero =>
   have e : k = n := by omega
   refine Dr.pos (by simpa using e) (.ret ?_)
   rw [← he, sdGo, ha]; rfl
  | succ m =>
   have e : ¬ k = n := by omega
   rw [sdGo, ha, if_pos rfl] at he
   obtain ⟨t1, _, _, t4⟩ := hx.turn
   obtain ⟨g1, g2, _⟩ := hx.guest gx
   refine Dr.neg (by simpa using e) (.pos t1.1 (.step t4 ?_))
   by_cases ht : turnG x = g
   ·rw [if_pos ht] at he
    refine Dr.pos (beq_iff_eq.2 ht) (.step (Qnj hx hs) (.pos g1 (.step g2 (.step (QoS (s := QiP x s g) (QiQ g hx hs)) (.step (QhM hx (by omega)) ?_)))))
    dsimp only
    rw [QP (n := k + 1) (by omega) (by omega)]
    refine ih m _ (by omega) ⟨k + 1, Qdp x, Qnd x s g, rfl, by omega, by omega, hx.next (by omega), Qne g hx hs, gx, ?_, he⟩
    show x.2.2.2.2.2.1 + 1 + (m : Int) ≤ 1000000
    omega
   ·rw [if_neg ht] at he
    refine Dr.neg (fun h => ht (beq_iff_eq.1 h)) (.step (QhM hx (by omega)) ?_)
    dsimp only
    rw [QP (n := k + 1) (by omega) (by omega)]
    refine ih m _ (by omega) ⟨k + 1, Qdp x, s, rfl, by omega, by omega, hx.next (by omega), hs, gx, ?_, he⟩
    show x.2.2.2.2.2.1 + 1 + (m : Int) ≤ 1000000
    omega
theorem Qol {g n : Int} {x : Qx} {s : QL} (hx : HK x) (hs : QS s = 0) (gx : isG x.1 g = true) (hn : 0 ≤ n ∧ n ≤ 200) (cx : x.2.2.2.2.2.1 + n ≤ 1000000) :
  L_gw_10 ((g, (n, ((), ((), ((), ((0 : Int), ())))))), ((sB s, (((0 : Int), ((0 : Int), (false, ()))), (boxH x, ()))), ())) = some (.inl (((), ()), ((sdGo g n.toNat 0 x s, ()), ()))) := by
 refine Dr.eq ?_
 refine QbQ (fun m u => ∃ (k : Int) (x' : Qx) (s' : QL), u = ((g, (n, ((), ((), ((), (k, ())))))), ((sB s', (((0 : Int), ((0 : Int), (false, ()))), (boxH x', ()))), ())) ∧ k + (m : Int) = n ∧ 0 ≤ k ∧ HK x' ∧ QS s' = 0 ∧ isG x'.1 g = true ∧ x'.2.2.2.2.2.1 + (m : Int) ≤ 1000000 ∧ sdGo g m k x' s' = sdGo g n.toNat 0 x s) ?_ n.toNat _ ⟨0, x, s, rfl, by omega, by omega, hx, hs, gx, by omega, rfl⟩ (by rw [Qaj]; omega)
 rintro rec m _ ⟨k, x, s, rfl, hk, h0, hx, hs, gx, cx, he⟩ ih
 unfold l_gw_10
 refine Dr.step (QmG (x := x) hx gx) (.step (QhQ (x := s) (p := x.1) hx.pol gx hs) (.step (Qju (x := x) (s := s) hx gx) ?_))
 cases ha : QfQ (Qdh x g) (Qdu x.1 s g) with
 | false =>
  refine Dr.pos rfl (.ret ?_)
  cases m with
  | zero => rw [← he, sdGo, ha]; rfl
  | succ m => rw [← he, sdGo, ha]; rfl
 | true =>
  refine Dr.neg (by simp) ?_
  cases m with
  | zero =>
   have e : k = n := by omega
   refine Dr.pos (by simpa using e) (.ret ?_)
   rw [← he, sdGo, ha]; rfl
  | succ m =>
   have e : ¬ k = n := by omega
   rw [sdGo, ha, if_pos rfl] at he
   have ht0 : F_fb (x, ()) = some ((turnG x, ()), ()) := by
    obtain ⟨t1, _, _, t4⟩ := hx.turn
    unfold F_fb
    dsimp only
    rw [if_pos t1.1, t4]
    rfl
   refine Dr.neg (by simpa using e) (.step ht0 ?_)
   by_cases ht : turnG x = g
   ·rw [if_pos ht] at he
    refine Dr.pos (by simpa using ht) (.step (Qlt hx gx hs) (.step (QhB hx (by omega)) ?_))
    dsimp only
    rw [QP (n := k + 1) (by omega) (by omega)]
    refine ih m _ (by omega) ⟨k + 1, Qdp x, Qnd x s g, rfl, by omega, by omega, hx.next (by omega), Qne g hx hs, gx, ?_, he⟩
    show x.2.2.2.2.2.1 + 1 + (m : Int) ≤ 1000000
    omega
   ·rw [if_neg ht] at he
    refine Dr.neg (by simpa using ht) (.step (QhB hx (by omega)) ?_)
    dsimp only
    rw [QP (n := k + 1) (by omega) (by omega)]
    refine ih m _ (by omega) ⟨k + 1, Qdp x, s, rfl, by omega, by omega, hx.next (by omega), hs, gx, ?_, he⟩
    show x.2.2.2.2.2.1 + 1 + (m : Int) ≤ 1000000
    omega
def sdM (x : Qx) (s : QL) (g n : Int) : QrB :=
 if Qbn x ≠ 0 then (Qbn x, 0, false, ())
 else if QS s ≠ 0 then (QS s, 0, false, ())
 else if isG x.1 g = true then
  if Qbx x n = true then sdGo g n.toNat 0 x s else (3, 0, false, ())
 else (4, 0, false, ())
theorem QsK (x : Qx) (s : QL) (g n : Int) (lx : Qcv 1048576 x) (ls : Qce 1048576 s) : F_cy (x, s, g, n, ()) = some ((sdM x s g n, ()), ()) := by
 refine Dr.eq ?_
 unfold F_cy F_ar sdM
 refine Dr.step (Qnk x lx) ?_
 dsimp only
 by_cases h1 : Qbn x = 0
 case neg =>
  rw [if_pos (by simpa using h1), if_pos h1]
  exact Dr.ret rfl
 rw [if_neg (by simpa using h1), if_neg (by simpa using h1)]
 refine Dr.step (QeT s ls) ?_
 dsimp only
 by_cases h2 : QS s = 0
 case neg =>
  rw [if_pos (by simpa using h2), if_pos h2]
  exact Dr.ret rfl
 rw [if_neg (by simpa using h2), if_neg (by simpa using h2)]
 have hx := HK.of h1
 refine Dr.step (QcT x.1 g lx.1.1.1) ?_
 dsimp only
 by_cases h3 : isG x.1 g = true
 case neg =>
  rw [if_pos (by simpa using h3), if_neg h3]
  exact Dr.ret rfl
 rw [if_neg (by simpa using h3), if_pos h3]
 refine Dr.step (QlI x n) ?_
 dsimp only
 by_cases h5 : Qbx x n = true
 case neg =>
  rw [if_pos (by simpa using h5), if_neg h5]
  exact Dr.ret rfl
 rw [if_neg (by simpa using h5), if_pos h5]
 have s1 := QkJ hx h5
 exact Dr.step (Qmw hx) (.step (QeS s ls) (.step (QoT hx h2 h3 s1.1 s1.2) (.ret rfl)))
theorem Qsf (x : Qx) (s : QL) (g n : Int) (lx : Qcv 1048576 x) (ls : Qce 1048576 s) : F_gw (x, s, g, n, ()) = some ((sdM x s g n, ()), ()) := by
 refine Dr.eq ?_
 unfold F_gw sdM
 have f1 := QbZ (Qbn x) (QS s)
 refine Dr.step (Qmx x lx) (.step (QmC s ls) ?_)
 by_cases h1 : Qbn x = 0
 case neg =>
  rw [if_pos h1] at f1
  refine Dr.step f1 ?_
  dsimp only
  rw [if_neg (by simpa using h1)]
  have f2 := QbZ (Qbn x) (if Qbx x n = true then 0 else 3)
  rw [if_pos h1] at f2
  refine Dr.step (QcD x n) (.step f2 ?_)
  dsimp only
  rw [if_pos (by simpa using h1), if_pos h1]
  exact Dr.ret rfl
 rw [if_neg (by simpa using h1)] at f1
 refine Dr.step f1 ?_
 dsimp only
 by_cases h2 : QS s = 0
 case neg =>
  rw [if_neg (by simpa using h2)]
  have f2 := QbZ (QS s) (if Qbx x n = true then 0 else 3)
  rw [if_pos h2] at f2
  refine Dr.step (QcD x n) (.step f2 ?_)
  dsimp only
  rw [if_pos (by simpa using h2), if_neg (by simpa using h1), if_pos h2]
  exact Dr.ret rfl
 rw [if_pos (by simpa using h2), if_neg (by simpa using h1), if_neg (by simpa using h2)]
 have hx := HK.of h1
 refine Dr.step (Qec x.1 g lx.1.1.1) ?_
 dsimp only
 by_cases h3 : isG x.1 g = true
 case neg =>
  rw [if_pos (by simpa using h3), if_neg h3]
  refine Dr.step (QcD x n) (.step (QbZ _ _) ?_)
  dsimp only
  rw [if_pos (show (4 : Int) ≠ 0 by decide), if_pos (by decide)]
  exact Dr.ret rfl
 rw [if_neg (by simpa using h3), if_pos h3]
 have f2 := QbZ (QS s) (if Qbx x n = true then 0 else 3)
 rw [if_neg (show ¬ QS s ≠ 0 by simpa using h2)] at f2
 refine Dr.step (QcD x n) (.step f2 ?_)
 dsimp only
 by_cases h5 : Qbx x n = true
 case neg =>
  rw [if_neg h5, if_neg h5, if_pos (by decide)]
  exact Dr.ret rfl
 rw [if_pos h5, if_pos h5, if_neg (by decide)]
 have s1 := QkJ hx h5
 exact Dr.step (Qmv hx) (.step (Qol hx h2 h3 s1.1 s1.2) (.ret rfl))
theorem QlE (x : Qx) (s : QL) (g n : Int) (lx : Qcv maxLen x) (ls : Qce maxLen s) : F_hn (x, s, g, n, ()) = some ((true, ()), ()) := by
 unfold F_hn
 simp only [QT, decide_eq_true_eq]
 obtain ⟨r1, e1, c1⟩ := Qrs x 1048576 (by omega) (by omega) lx
 rw [e1, Obn]
 by_cases d1 : r1 < 0
 ·rw [if_pos d1]
 rw [if_neg d1]
 have c1 := c1.resolve_left d1
 obtain ⟨r2, e2, c2⟩ := Qru s r1 (by omega) (by omega) ls
 rw [e2, Obn]
 by_cases d2 : r2 < 0
 ·rw [if_pos d2]
 rw [if_neg d2]
 have c2 := c2.resolve_left d2
 refine Dr.eq ?_
 have tx := Qrw x c1.2.2
 have ts := Qry s c2.2.2
 refine Dr.step tx (.step ts (.step (QsK x s g n c1.2.2 c2.2.2) (.step tx (.step ts (.step (Qsf x s g n c1.2.2 c2.2.2) (.step (QrS _) ?_))))))
 refine Dr.neg (by decide) (.step tx (.step (Qqx x c1.2.2) (.neg (by decide) (.step ts (.step (Qqy s c2.2.2) (.neg (by decide) (.ret rfl)))))))
theorem QoG : ∀ x, inRP P_cy x → F_hn x = some ((true, ()), ()) := by
 rintro ⟨x, s, g, n, _⟩ ⟨hx, hs, _⟩
 exact QlE x s g n ⟨⟨⟨hx.1.1.1, fun l hl => (hx.1.1.2 l hl).1⟩, hx.1.2.1.1, hx.1.2.2.1.1, hx.1.2.2.2.1.1⟩, hx.2.1.1, hx.2.2.1.1, fun h hh => QmI (hx.2.2.1.2 h hh)⟩ ⟨QmI hs.1, hs.2.1.1, hs.2.2.1.1⟩
end Go.Proofs.YtopmpmbdkieenaaGreatDoor
