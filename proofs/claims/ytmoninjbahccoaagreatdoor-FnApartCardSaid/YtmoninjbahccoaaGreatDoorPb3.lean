/- Plain laws: what the functions compute, and that both programs compute the same. -/
import Derived.Test.YtmoninjbahccoaaGreatDoorPb2
namespace Go.Proofs.YtmoninjbahccoaaGreatDoor
open Go Go.RowKit S Go.Proofs
set_option maxRecDepth 100000
set_option linter.unusedVariables false
set_option linter.unusedSimpArgs false
theorem Qty {v w : Qgp} (h : QlQ maxLen (vD v)) : True ∧ F_cs (vD v, vD w, ()) = some ((Qja v w, ()), ()) := by
 obtain ⟨b, _, e2⟩ := QsG (vD v, vD w, ()) h
 unfold Qja
 rw [e2]
 exact ⟨trivial, rfl⟩
theorem Qjw {x : Qx} {g : Int} (h : HK x) (hg : isG x.1 g = true) : QlQ maxLen (vD (QbN x g)) := by
 have := QsE x g h.le
 rw [QsF h hg] at this
 obtain ⟨h1, h2, h3, h4, h5, h6⟩ := this
 exact ⟨⟨leM h1, leM h2, leM h3, leM h4⟩, leM h5, leM h6⟩
abbrev QtO := Int × Int × Bool × Unit
def Qco (g : Int) : Nat → Int → Qx → Qx → QtO
 | 0, k, x, y => if Qja (QbN x g) (QbN y g) = true then (0, 0, true, ()) else (0, k, false, ())
 | r + 1, k, x, y => if Qja (QbN x g) (QbN y g) = true then Qco g r (k + 1) (QbD x) (QbD y) else (0, k, false, ())
theorem Qlp {g n : Int} {x y : Qx} (hx : HK x) (hy : HK y) (gx : isG x.1 g = true) (gy : isG y.1 g = true) (hn : 0 ≤ n ∧ n ≤ 200) (cx : x.2.2.2.2.2.1 + n ≤ 1000000) (cy : y.2.2.2.2.2.1 + n ≤ 1000000) :
  L_ei_10 ((g, (n, ((), ((), ((), ((0 : Int), ())))))), ((((0 : Int), ((0 : Int), (false, ()))), (boxH x, (boxH y, ()))), ())) = some (.inl (((), ()), ((Qco g n.toNat 0 x y, ()), ()))) := by
 refine Dr.eq ?_
 refine Qap (fun m u => ∃ (k : Int) (x' y' : Qx), u = ((g, (n, ((), ((), ((), (k, ())))))), ((((0 : Int), ((0 : Int), (false, ()))), (boxH x', (boxH y', ()))), ())) ∧ k + (m : Int) = n ∧ 0 ≤ k ∧ HK x' ∧ HK y' ∧ isG x'.1 g = true ∧ isG y'.1 g = true ∧ x'.2.2.2.2.2.1 + (m : Int) ≤ 1000000 ∧ y'.2.2.2.2.2.1 + (m : Int) ≤ 1000000 ∧ Qco g m k x' y' = Qco g n.toNat 0 x y) ?_ n.toNat _ ⟨0, x, y, rfl, by omega, by omega, hx, hy, gx, gy, by omega, by omega, rfl⟩ (by rw [QK]; omega)
 rintro rec m _ ⟨k, x, y, rfl, hk, h0, hx, hy, gx, gy, cx, cy, he⟩ ih
 unfold l_ei_10
 refine Dr.step (QhC hx gx) (.step (QhC hy gy) (.step (Qty (w := QbN y g) (Qjw hx gx)).2 ?_))
 cases hs : Qja (QbN x g) (QbN y g) with
 | false =>
  refine Dr.pos rfl (.ret ?_)
  cases m with
  | zero => rw [← he, Qco, hs]; rfl
  | succ m => rw [← he, Qco, hs]; rfl
 | true =>
  refine Dr.neg (by simp) ?_
  cases m with
  | zero =>
   have e : k = n := by omega
   refine Dr.pos (by simpa using e) (.ret ?_)
   rw [← he, Qco, hs]; rfl
  | succ m =>
   have e : ¬ k = n := by omega
   refine Dr.neg (by simpa using e) (.step (QhB hx (by omega)) (.step (QhB hy (by omega)) ?_))
   dsimp only
   rw [Qu (n := k + 1) (by omega) (by omega)]
   refine ih m _ (by omega) ⟨k + 1, QbD x, QbD y, rfl, by omega, by omega, hx.next (by omega), hy.next (by omega), gx, gy, ?_, ?_, ?_⟩
   ·show x.2.2.2.2.2.1 + 1 + (m : Int) ≤ 1000000; omega
   ·show y.2.2.2.2.2.1 + 1 + (m : Int) ≤ 1000000; omega
   ·rw [← he, Qco, hs, if_pos rfl]
theorem Qqu (m : List Qx) (hm : m.length ≤ 1000) (n : Int) : F_cj_1 (m, (n, ()), ()) = some ((m.any (fun x => !leI (IntKind.i64.wrap (x.2.2.2.2.2.1 + n)) 1000000), ()), ()) := by
 refine Dr.eq ?_
 unfold F_cj_1 F_ch_1
 have k1 : Dr (L_ci_2 ((m, ((n, ()), (((m.length : Nat) : Int), ((0 : Int), ())))), ((), ()))) fun o => (m.any (fun x => !leI (IntKind.i64.wrap (x.2.2.2.2.2.1 + n)) 1000000) = true ∧ ∃ i : Int, 0 ≤ i ∧ o = .inr (.inl ((i, ()), ((), ())))) ∨ (m.any (fun x => !leI (IntKind.i64.wrap (x.2.2.2.2.2.1 + n)) 1000000) = false ∧ o = .inl ((), ((), ()))) := by
  refine Qap (fun k u => ∃ i : Nat, u = ((m, ((n, ()), (((m.length : Nat) : Int), ((i : Int), ())))), ((), ())) ∧ k = m.length - i ∧ i ≤ m.length ∧ (m.drop i).any (fun x => !leI (IntKind.i64.wrap (x.2.2.2.2.2.1 + n)) 1000000) = m.any (fun x => !leI (IntKind.i64.wrap (x.2.2.2.2.2.1 + n)) 1000000)) ?_ _ _ ⟨0, rfl, rfl, Nat.zero_le _, rfl⟩ (by rw [QK]; omega)
  rintro rec k _ ⟨i, rfl, hk, hi, he⟩ ih
  unfold l_ci_2
  dsimp only
  by_cases hlt : i < m.length
  case neg =>
   rw [if_neg (lt_f hlt)]
   rw [List.drop_of_length_le (by omega)] at he
   exact Dr.ret (.inr ⟨by rw [← he]; rfl, rfl⟩)
  rw [if_pos (lt_t hlt), if_pos nat0, Qr hlt]
  rw [List.drop_eq_getElem_cons hlt, List.any_cons] at he
  have e1 : F_cg_1 (m[i], n, ()) = some ((!leI (IntKind.i64.wrap ((m[i]).2.2.2.2.2.1 + n)) 1000000, ()), ()) := by
   have e2 : (!leI (IntKind.i64.wrap ((m[i]).2.2.2.2.2.1 + n)) 1000000) = ltI 1000000 (IntKind.i64.wrap ((m[i]).2.2.2.2.2.1 + n)) := by
    unfold leI; cases ltI 1000000 (IntKind.i64.wrap ((m[i]).2.2.2.2.2.1 + n)) <;> rfl
   rw [e2]
   rfl
  refine Dr.step e1 ?_
  dsimp only
  cases hb : (!leI (IntKind.i64.wrap ((m[i]).2.2.2.2.2.1 + n)) 1000000) with
  | true =>
   rw [hb, Bool.true_or] at he
   exact Dr.pos rfl (.ret (.inl ⟨he.symm, i, by omega, rfl⟩))
  | false =>
   rw [hb, Bool.false_or] at he
   rw [QW (by omega)]
   exact Dr.neg (by simp) (ih (k - 1) _ (by omega) ⟨i + 1, rfl, by omega, by omega, he⟩)
 refine Dr.bind (Q := fun r => r = ((if m.any (fun x => !leI (IntKind.i64.wrap (x.2.2.2.2.2.1 + n)) 1000000) = true then r.1.1 else -1, ()), ()) ∧ (m.any (fun x => !leI (IntKind.i64.wrap (x.2.2.2.2.2.1 + n)) 1000000) = true → 0 ≤ r.1.1)) (k1.bind fun o ho => ?_) fun r hr => Dr.ret ?_
 ·rcases ho with ⟨h1, i, h2, rfl⟩ | ⟨h1, rfl⟩
  ·exact Dr.ret ⟨by rw [if_pos h1], fun _ => h2⟩
  ·exact Dr.ret ⟨by rw [if_neg (by rw [h1]; decide)], fun h => by rw [h1] at h; cases h⟩
 ·obtain ⟨h1, h2⟩ := hr
  cases hb : m.any (fun x => !leI (IntKind.i64.wrap (x.2.2.2.2.2.1 + n)) 1000000) with
  | true =>
   have := h2 hb
   have : leI 0 r.1.1 = true := by rw [Qbd]; exact decide_eq_true this
   rw [this]
  | false =>
   rw [hb] at h1
   rw [h1]
   rfl
theorem QbE (x y : Qx) (n : Int) : F_cg (n, [x, y], ()) = some ((if QaA x n = true then (if QaA y n = true then 0 else 3) else 3, ()), ()) := by
 unfold F_cg QaA
 dsimp only
 rw [Qaq, Obn]
 dsimp only
 cases inB n 0 200
 ·rw [if_neg (by simp), if_neg (by simp)]
 ·rw [if_pos (show (!true) = false from rfl), Qqu _ (by simp), Obn]
  dsimp only
  rw [List.any_cons, List.any_cons, List.any_nil]
  cases leI (IntKind.i64.wrap (x.2.2.2.2.2.1 + n)) 1000000
  ·rfl
  ·cases leI (IntKind.i64.wrap (y.2.2.2.2.2.1 + n)) 1000000 <;> rfl
theorem QkL {x : Qx} {n : Int} (h : HK x) (hs : QaA x n = true) : (0 ≤ n ∧ n ≤ 200) ∧ x.2.2.2.2.2.1 + n ≤ 1000000 := by
 unfold QaA at hs
 obtain ⟨h1, h2⟩ := Bool.and_eq_true_iff.1 hs
 have h1 := QdE.1 h1
 have hc := h.clock
 rw [Qu (by omega) (by omega)] at h2
 refine ⟨h1, ?_⟩
 rw [Qbd] at h2
 have := of_decide_eq_true h2
 omega
def QoS (x y : Qx) (g n : Int) : QtO :=
 if QaM x ≠ 0 then (QaM x, 0, false, ())
 else if QaM y ≠ 0 then (QaM y, 0, false, ())
 else if isG x.1 g = true then
  if isG y.1 g = true then
   if QaA x n = true then
    if QaA y n = true then Qco g n.toNat 0 x y else (3, 0, false, ())
   else (3, 0, false, ())
  else (4, 0, false, ())
 else (4, 0, false, ())
theorem QnR (x y : Qx) (g n : Int) (lx : Qhe 1048576 x) (ly : Qhe 1048576 y) : F_ei (x, y, g, n, ()) = some ((QoS x y g n, ()), ()) := by
 refine Dr.eq ?_
 unfold F_ei QoS
 have f1 := QbR (QaM x) (QaM y)
 refine Dr.step (Qhy x lx) (.step (Qhy y ly) ?_)
 by_cases h1 : QaM x = 0
 case neg =>
  rw [if_pos h1] at f1
  refine Dr.step f1 ?_
  dsimp only
  rw [if_neg (by simpa using h1)]
  have f2 := QbR (QaM x) (if QaA x n = true then (if QaA y n = true then 0 else 3) else 3)
  rw [if_pos h1] at f2
  refine Dr.step (QbE x y n) (.step f2 ?_)
  dsimp only
  rw [if_pos (by simpa using h1), if_pos h1]
  exact Dr.ret rfl
 rw [if_neg (by simpa using h1)] at f1
 refine Dr.step f1 ?_
 dsimp only
 by_cases h2 : QaM y = 0
 case neg =>
  rw [if_neg (by simpa using h2)]
  have f2 := QbR (QaM y) (if QaA x n = true then (if QaA y n = true then 0 else 3) else 3)
  rw [if_pos h2] at f2
  refine Dr.step (QbE x y n) (.step f2 ?_)
  dsimp only
  rw [if_pos (by simpa using h2), if_neg (by simpa using h1), if_pos h2]
  exact Dr.ret rfl
 rw [if_pos (by simpa using h2), if_neg (by simpa using h1), if_neg (by simpa using h2)]
 have hx := HK.of h1
 have hy := HK.of h2
 refine Dr.step (QbU x.1 g lx.1.1.1) ?_
 dsimp only
 by_cases h3 : isG x.1 g = true
 case neg =>
  rw [if_neg h3, if_neg h3]
  refine Dr.step (QbE x y n) (.step (QbR _ _) ?_)
  dsimp only
  rw [if_pos (show (4 : Int) ≠ 0 by decide), if_pos (by decide)]
  exact Dr.ret rfl
 rw [if_pos h3, if_pos h3]
 refine Dr.step (QbU y.1 g ly.1.1.1) ?_
 dsimp only
 by_cases h4 : isG y.1 g = true
 case neg =>
  rw [if_pos (by simpa using h4), if_neg h4]
  refine Dr.step (QbE x y n) (.step (QbR _ _) ?_)
  dsimp only
  rw [if_pos (show (4 : Int) ≠ 0 by decide), if_pos (by decide)]
  exact Dr.ret rfl
 rw [if_neg (by simpa using h4), if_pos h4]
 have f2 := QbR (QaM y) (if QaA x n = true then (if QaA y n = true then 0 else 3) else 3)
 rw [if_neg (show ¬ QaM y ≠ 0 by simpa using h2)] at f2
 refine Dr.step (QbE x y n) (.step f2 ?_)
 dsimp only
 by_cases h5 : QaA x n = true
 case neg =>
  rw [if_neg h5, if_neg h5, if_pos (by decide)]
  exact Dr.ret rfl
 rw [if_pos h5, if_pos h5]
 by_cases h6 : QaA y n = true
 case neg =>
  rw [if_neg h6, if_neg h6, if_pos (by decide)]
  exact Dr.ret rfl
 rw [if_pos h6, if_pos h6, if_neg (by decide)]
 have s1 := QkL hx h5
 have s2 := QkL hy h6
 exact Dr.step (Qhx hx) (.step (Qhx hy) (.step (Qlp hx hy h3 h4 s1.1 s1.2 s2.2) (.ret rfl)))
def QuR (v : Qgp) : Bool := v.2.2.2.2.2.1
def setF (v : Qgp) (b : Bool) : Qgp := (v.1, v.2.1, v.2.2.1, v.2.2.2.1, v.2.2.2.2.1, b, v.2.2.2.2.2.2)
def setM (s : QaU) (m : List Int) : QaU := (s.1, s.2.1, m, ())
def QtZ (s : QaU) (h : QY) : QaU := ((s.1.1, s.1.2.1, s.1.2.2.1, s.1.2.2.2.1, s.1.2.2.2.2.1, h.2.2.2.2.2.1, s.1.2.2.2.2.2.2), s.2.1, s.2.2.1, ())
theorem Qjy {m : List Int} (h : QN m = 0) : ∀ w ∈ m, WW w := by
 unfold QN at h
 split at h
 ·split at h
  ·exact Qal.1 ‹_›
  ·cases h
 ·cases h
theorem Qru {m : List Int} (hl : m.length = 64) (h : ∀ w ∈ m, WW w) : QN m = 0 := by
 unfold QN
 rw [if_pos (by rw [hl]; decide), if_pos (Qal.2 h)]
theorem Qjg {s : QaU} (h1 : hartM s.1 = 0) (h2 : Qhm s.2.1 8 = 0) (h3 : s.2.2.1.length = 64) (h4 : ∀ w ∈ s.2.2.1, WW w) : Qcw s = 0 := by
 unfold Qcw
 rw [if_neg (by simpa using h1), if_neg (by simpa using h2), if_pos ⟨Qru h3 h4, h3⟩]
theorem Qox {s : QaU} (h : Qcw s = 0) {m : List Int} (hl : m.length = 64) (hw : ∀ w ∈ m, WW w) : Qcw (setM s m) = 0 := by
 obtain ⟨h1, h2, h3, h4⟩ := Qeo h
 exact Qjg h1 h2 hl hw
theorem Qnj {s : QaU} (h : Qcw s = 0) (y : QY) : Qcw (QtZ s y) = 0 := by
 obtain ⟨h1, h2, h3, h4⟩ := Qeo h
 exact Qjg h1 h2 h4 (Qjy h3)
def QeB (m : List Int) (g : Int) : List QA → List Int → List Int
 | [], q => q
 | l :: r, q => QeB m g r (if l.2.1 = g then QhH q l.2.2.2.2.1.toNat (pg m l.2.2.1) else q)
theorem Qne {s ws : List Int} {k : Nat} (h1 : ∀ w ∈ s, WW w) (h2 : ∀ w ∈ ws, WW w) : ∀ w ∈ QhH s k ws, WW w := by
 intro w hw
 unfold QhH at hw
 rcases List.mem_append.1 hw with hw | hw
 ·exact h1 w (List.mem_of_mem_take hw)
 ·rcases List.mem_append.1 hw with hw | hw
  ·exact h2 w hw
  ·exact h1 w (List.mem_of_mem_drop hw)
theorem Qsi {m : List Int} {p : Int} (h : ∀ w ∈ m, WW w) : ∀ w ∈ pg m p, WW w := fun w hw => h w (List.mem_of_mem_drop (List.mem_of_mem_take hw))
theorem Qpe {x : Qx} (h : HK x) {l : QA} (hl : l ∈ x.1.2.1) : (0 ≤ l.2.2.1 ∧ 8 * l.2.2.1 + 8 ≤ (x.2.1.length : Int)) ∧ (0 ≤ l.2.2.2.2.1 ∧ l.2.2.2.2.1 < 8) ∧ (pg x.2.1 l.2.2.1).length = 8 ∧ ∀ w ∈ pg x.2.1 l.2.2.1, WW w := by
 have hm := h.mem.2
 obtain ⟨_, h2, h3, h4⟩ := Qcq h.ok l hl
 have e : 0 ≤ l.2.2.1 ∧ 8 * l.2.2.1 + 8 ≤ (x.2.1.length : Int) := by omega
 exact ⟨e, by omega, Qtt e, Qsi (Qjy h.mem.1)⟩
theorem Qil {x : Qx} (h : HK x) {g : Int} : ∀ {r : List QA} {q : List Int}, (∀ l ∈ r, l ∈ x.1.2.1) → q.length = 64 → (∀ w ∈ q, WW w) → (QeB x.2.1 g r q).length = 64 ∧ ∀ w ∈ QeB x.2.1 g r q, WW w
 | [], q, _, h1, h2 => ⟨h1, h2⟩
 | l :: r, q, hr, h1, h2 => by
  obtain ⟨_, l2, l3, l4⟩ := Qpe h (hr l (by simp))
  rw [QeB]
  split
  ·exact Qil h (fun y hy => hr y (List.mem_cons_of_mem _ hy)) (Qhn h1 (by omega) l3) (Qne h2 l4)
  ·exact Qil h (fun y hy => hr y (List.mem_cons_of_mem _ hy)) h1 h2
def fedS (x : Qx) (s : QaU) (g : Int) : QaU := setM s (QeB x.2.1 g x.1.2.1 s.2.2.1)
def QhK (x : Qx) (s : QaU) (g : Int) : QaU := QtZ (fedS x s g) (x.2.2.1.getD g.toNat Qag)
def QgQ (x : Qx) (s : QaU) (g : Int) : Mc := Qad (Mc.of (QhK x s g).1 (QhK x s g).2.2.1) (QhK x s g).2.1
def Qua (x : Qx) (s : QaU) (g : Int) : QaU := ((QgQ x s g).hart, s.2.1, (QgQ x s g).m, ())
theorem QsZ {x : Qx} {s : QaU} (g : Int) (hx : HK x) (hs : Qcw s = 0) : Qcw (fedS x s g) = 0 := by
 obtain ⟨h1, h2, h3, h4⟩ := Qeo hs
 obtain ⟨f1, f2⟩ := Qil hx (g := g) (r := x.1.2.1) (q := s.2.2.1) (fun _ h => h) h4 (Qjy h3)
 exact Qox hs f1 f2
theorem Qsp {x : Qx} {s : QaU} (g : Int) (hx : HK x) (hs : Qcw s = 0) : Qcw (QhK x s g) = 0 := Qnj (QsZ g hx hs) _
theorem Qss {x : Qx} {s : QaU} (g : Int) (hx : HK x) (hs : Qcw s = 0) : Qcw (Qua x s g) = 0 := by
 have hr := Qsp g hx hs
 have ho : OkS (QgQ x s g) (QhK x s g).2.1 := Qjj (QrX hr)
 have hl := ho.l
 obtain ⟨h1, h2, h3, h4⟩ := Qeo hr
 exact Qjg ho.hartM h2 (by show (QgQ x s g).m.length = 64; unfold QgQ; rw [Qji]; exact h4) hl.words
def Qub (p : PolD) (s : QaU) (g : Int) : Qgp := (Qjv 0 s.1 (s.2.2.1.take (8 * (p.1.getD g.toNat []).length)) (Qaf s.2.2.1 (Qaw g false p.2.1))).2
abbrev pgAt (l : List TwoD) (k : Nat) : TwoD := l.getD k (-1, 0, ())
theorem QdD {α : Type} {l : List α} {k : Nat} {d : α} : l.getD k d = (l[k]?).getD d := List.getD_eq_getElem?_getD
theorem Qpk {m : List Int} {a : Int} {o : Nat} (ho : o < 8) : (pg m a).getD o 0 = m.getD (8 * a.toNat + o) 0 := by
 unfold pg
 rw [QdD, QdD, List.getElem?_take, if_pos ho, List.getElem?_drop]
theorem QiR {m : List Int} {a b : Int} {o : Nat} {w : Int} (ho : o < 8) (ha : 0 ≤ a) (hb : 0 ≤ b) : pg (m.set (8 * a.toNat + o) w) b = if a = b then (pg m b).set o w else pg m b := by
 unfold pg
 by_cases h : a = b
 ·subst h
  rw [if_pos rfl]
  apply List.ext_getElem?
  intro i
  by_cases hi : i < 8
  ·simp only [List.getElem?_take, if_pos hi, List.getElem?_drop, List.getElem?_set, List.length_take, List.length_drop]
   by_cases e : o = i
   ·subst e
    simp only [if_true]
    by_cases hl : 8 * a.toNat + o < m.length
    ·rw [if_pos hl, if_pos (by omega)]
    ·rw [if_neg hl, if_neg (by omega)]
   ·rw [if_neg (by omega), if_neg e]
  ·rw [List.getElem?_eq_none (by simp; omega), List.getElem?_eq_none (by simp; omega)]
 ·rw [if_neg h]
  apply List.ext_getElem?
  intro i
  by_cases hi : i < 8
  ·simp only [List.getElem?_take, if_pos hi, List.getElem?_drop, List.getElem?_set]
   rw [if_neg (by omega)]
  ·rw [List.getElem?_eq_none (by simp; omega), List.getElem?_eq_none (by simp; omega)]
structure Sim (l l' : List TwoD) (m m' : List Int) : Prop where
 len : l.length = 8 ∧ l'.length = 8
 kind : ∀ k, k < 8 → (pgAt l' k).2 = (pgAt l k).2
 neg : ∀ k, k < 8 → (0 ≤ (pgAt l k).1 ↔ 0 ≤ (pgAt l' k).1)
 top : ∀ k, k < 8 → (pgAt l k).1 ≤ 23 ∧ (pgAt l' k).1 ≤ 23
 inj : ∀ i j, i < 8 → j < 8 → 0 ≤ (pgAt l i).1 → (pgAt l i).1 = (pgAt l j).1 → i = j
 inj' : ∀ i j, i < 8 → j < 8 → 0 ≤ (pgAt l' i).1 → (pgAt l' i).1 = (pgAt l' j).1 → i = j
 same : ∀ k, k < 8 → 0 ≤ (pgAt l k).1 → pg m (pgAt l k).1 = pg m' (pgAt l' k).1
section
variable {l l' : List TwoD} {m m' cs : List Int}
def Spot (l l' : List TwoD) (kind : Int) (x y : Int) : Prop := ∃ k o : Nat, k < 8 ∧ o < 8 ∧ 0 ≤ (pgAt l k).1 ∧ mayP (pgAt l k) kind = true ∧ x = (pgAt l k).1 * 8 + (o : Int) ∧ y = (pgAt l' k).1 * 8 + (o : Int)
theorem Sim.walk (h : Sim l l' m m') (at_ kind : Int) : (Qae l at_ kind = -1 ∧ Qae l' at_ kind = -1) ∨
  ∃ k o : Nat, k < 8 ∧ o < 8 ∧ at_ = 8 * (k : Int) + (o : Int) ∧ 0 ≤ (pgAt l k).1 ∧ mayP (pgAt l k) kind = true ∧ Qae l at_ kind = (pgAt l k).1 * 8 + (o : Int) ∧ Qae l' at_ kind = (pgAt l' k).1 * 8 + (o : Int) := by
 unfold Qae
 by_cases ha : 0 ≤ at_ ∧ at_ ≤ 63
 ·rw [if_pos ha, if_pos ha]
  have hk : (at_ / 8).toNat < 8 := by omega
  have e : mayP (l'.getD (at_ / 8).toNat (-1, 0, ())) kind = mayP (l.getD (at_ / 8).toNat (-1, 0, ())) kind := by
   unfold mayP
   rw [show (l'.getD (at_ / 8).toNat (-1, 0, ())).2.1 = (l.getD (at_ / 8).toNat (-1, 0, ())).2.1 from congrArg (·.1) (h.kind _ hk), decide_eq_decide.2 (h.neg _ hk)]
  rw [e]
  by_cases hm : mayP (l.getD (at_ / 8).toNat (-1, 0, ())) kind = true
  ·rw [if_pos hm, if_pos hm]
   refine .inr ⟨(at_ / 8).toNat, (at_ % 8).toNat, hk, by omega, by omega, ?_, hm, by dsimp only [pgAt]; omega, by dsimp only [pgAt]; omega⟩
   simp only [mayP, Bool.and_eq_true, decide_eq_true_eq] at hm
   exact hm.1
  ·rw [if_neg hm, if_neg hm]; exact .inl ⟨rfl, rfl⟩
 ·rw [if_neg ha, if_neg ha]; exact .inl ⟨rfl, rfl⟩
theorem Sim.space (h : Sim l l' m m') (cs : List Int) : Qcr cs l m = Qcr cs l' m' := by
 unfold Qcr
 by_cases h0 : cs.getD 10 0 = 0
 ·rw [if_pos h0, if_pos h0]
 by_cases h8 : cs.getD 10 0 = 8
 ·rw [if_neg h0, if_neg h0, if_pos h8, if_pos h8]
 rw [if_neg h0, if_neg h0, if_neg h8, if_neg h8]
 rcases h.walk ((cs.getD 10 0 - 1) * 8) 1 with ⟨e1, e2⟩ | ⟨k, o, hk, ho, ha, hp, _, e1, e2⟩
 ·rw [e1, e2]; rfl
 ·have hp' := (h.neg k hk).1 hp
  have o0 : o = 0 := by omega
  subst o0
  rw [if_neg (by omega), if_neg (by omega), e1, e2]
  have := h.same k hk hp
  unfold pg at this
  rw [show ((pgAt l k).1 * 8 + ((0 : Nat) : Int)).toNat = 8 * (pgAt l k).1.toNat by omega, show ((pgAt l' k).1 * 8 + ((0 : Nat) : Int)).toNat = 8 * (pgAt l' k).1.toNat by omega, this]
theorem Sim.place (h : Sim l l' m m') (cs : List Int) (at_ kind : Int) :
  (Qt cs l m at_ kind = Qt cs l' m' at_ kind ∧ ((Qt cs l m at_ kind).2 = 0 → 1000 ≤ (Qt cs l m at_ kind).1 ∧ kind ≠ 4)) ∨
  ((Qt cs l m at_ kind).2 = 0 ∧ (Qt cs l' m' at_ kind).2 = 0 ∧ Spot l l' kind (Qt cs l m at_ kind).1 (Qt cs l' m' at_ kind).1) := by
 unfold Qt
 rw [← h.space cs]
 cases Qcr cs l m with
 | none => exact .inl ⟨rfl, fun h => by simp at h⟩
 | some s =>
  dsimp only
  by_cases c1 : Qae s at_ kind < 0
  ·rw [if_pos c1, if_pos c1]; exact .inl ⟨rfl, fun h => absurd h (QcQ kind)⟩
  rw [if_neg c1, if_neg c1]
  by_cases c2 : Qae s at_ kind / 8 = 7
  ·rw [if_pos c2, if_pos c2]
   refine .inl ⟨rfl, fun hz => ?_⟩
   by_cases c3 : kind = 4
   ·rw [if_pos c3] at hz; simp at hz
   ·rw [if_neg c3]; dsimp only; omega
  rw [if_neg c2, if_neg c2]
  rcases h.walk (Qae s at_ kind) kind with ⟨e1, e2⟩ | ⟨k, o, hk, ho, ha, hp, hm, e1, e2⟩
  ·rw [e1, e2]; exact .inl ⟨rfl, fun h => absurd h (QcQ kind)⟩
  ·have hp' := (h.neg k hk).1 hp
   rw [e1, e2, if_neg (by omega), if_neg (by omega)]
   exact .inr ⟨rfl, rfl, k, o, hk, ho, hp, hm, rfl, rfl⟩
theorem Sim.spot {kind x y : Int} (h : Sim l l' m m') (hs : Spot l l' kind x y) : (0 ≤ x ∧ x < 1000) ∧ (0 ≤ y ∧ y < 1000) ∧ m.getD x.toNat 0 = m'.getD y.toNat 0 ∧ ∀ w, Sim l l' (m.set x.toNat w) (m'.set y.toNat w) := by
 obtain ⟨k, o, hk, ho, hp, _, rfl, rfl⟩ := hs
 have hp' := (h.neg k hk).1 hp
 have ht := h.top k hk
 have ex : ((pgAt l k).1 * 8 + (o : Int)).toNat = 8 * (pgAt l k).1.toNat + o := by omega
 have ey : ((pgAt l' k).1 * 8 + (o : Int)).toNat = 8 * (pgAt l' k).1.toNat + o := by omega
 rw [ex, ey]
 refine ⟨by omega, by omega, ?_, fun w => ?_⟩
 ·rw [← Qpk ho, ← Qpk ho, h.same k hk hp]
 ·refine { h with same := fun j hj hq => ?_ }
  have hq' := (h.neg j hj).1 hq
  rw [QiR ho hp hq, QiR ho hp' hq', h.same j hj hq]
  by_cases e : k = j
  ·subst e; rw [if_pos rfl, if_pos rfl]
  ·rw [if_neg fun c => e (h.inj k j hk hj hp c), if_neg fun c => e (h.inj' k j hk hj hp' c)]
def Like (l l' : List TwoD) (s t : Mc) : Prop := t = { s with m := t.m } ∧ Sim l l' s.m t.m
def Qeq (l l' : List TwoD) (x y : Bool × Int × Int × Mc) : Prop := x.1 = y.1 ∧ x.2.1 = y.2.1 ∧ x.2.2.1 = y.2.2.1 ∧ Like l l' x.2.2.2 y.2.2.2
theorem QgD {b : Bool} {n r : Int} {s t : Mc} (h : Like l l' s t) : Qeq l l' (b, n, r, s) (b, n, r, t) := ⟨rfl, rfl, rfl, h⟩
theorem Qas {α : Type} {R : α → α → Prop} {c : Prop} [Decidable c] {a b x y : α} (h1 : c → R a x) (h2 : ¬ c → R b y) : R (if c then a else b) (if c then x else y) := by
 by_cases h : c
 ·rw [if_pos h, if_pos h]; exact h1 h
 ·rw [if_neg h, if_neg h]; exact h2 h
theorem Qrr {s : Mc} (h : Sim l l' s.m m') (op d a i : Int) : Qeq l l' (exM s l op d a i) (exM { s with m := m' } l' op d a i) := by
 unfold exM
 dsimp only
 have t : ∀ {c v : Int}, Qeq l l' (false, 0, 0, s.trap c v) (false, 0, 0, Mc.trap { s with m := m' } c v) := QgD ⟨rfl, h⟩
 refine Qas (R := Qeq l l') (fun _ => QgD ⟨rfl, h⟩) fun _ => Qas (R := Qeq l l') (fun _ => QgD ⟨rfl, h⟩) fun _ => Qas (R := Qeq l l') (fun _ => ?_) fun _ => Qas (R := Qeq l l') (fun _ => ?_) fun _ => ?_
 ·rcases h.place s.cs (addW (s.r.getD a.toNat 0) (off i)) 1 with ⟨e, hd⟩ | ⟨e1, e2, hs⟩
  ·rw [← e]
   exact Qas (R := Qeq l l') (fun _ => t) fun c => Qas (R := Qeq l l') (fun _ => QgD ⟨rfl, h⟩) fun c2 => absurd (hd (by simpa using c)).1 c2
  ·obtain ⟨hx, hy, e3, _⟩ := h.spot hs
   rw [if_neg (c := (Qt s.cs l s.m (addW (s.r.getD a.toNat 0) (off i)) 1).2 ≠ 0) (by rw [e1]; simp), if_neg (c := (Qt s.cs l' m' (addW (s.r.getD a.toNat 0) (off i)) 1).2 ≠ 0) (by rw [e2]; simp), if_neg (c := 1000 ≤ (Qt s.cs l s.m (addW (s.r.getD a.toNat 0) (off i)) 1).1) (by omega), if_neg (c := 1000 ≤ (Qt s.cs l' m' (addW (s.r.getD a.toNat 0) (off i)) 1).1) (by omega), e3]
   exact QgD ⟨rfl, h⟩
 ·rcases h.place s.cs (addW (s.r.getD a.toNat 0) (off i)) 2 with ⟨e, hd⟩ | ⟨e1, e2, hs⟩
  ·rw [← e]
   exact Qas (R := Qeq l l') (fun _ => t) fun c => Qas (R := Qeq l l') (fun _ => QgD ⟨rfl, h⟩) fun c2 => absurd (hd (by simpa using c)).1 c2
  ·generalize Qt s.cs l s.m (addW (s.r.getD a.toNat 0) (off i)) 2 = P at e1 hs ⊢
   generalize Qt s.cs l' m' (addW (s.r.getD a.toNat 0) (off i)) 2 = Q at e2 hs ⊢
   obtain ⟨hx, hy, _, e3⟩ := h.spot hs
   rw [if_neg (c := P.2 ≠ 0) (by rw [e1]; simp), if_neg (c := Q.2 ≠ 0) (by rw [e2]; simp), if_neg (c := 1000 ≤ P.1) (by omega), if_neg (c := 1000 ≤ Q.1) (by omega)]
   exact QgD ⟨rfl, e3 _⟩
 repeat' (refine Qas (R := Qeq l l') (fun _ => QgD ⟨rfl, h⟩) fun _ => ?_)
 exact QgD ⟨rfl, h⟩
theorem Qrp {s : Mc} (h : Sim l l' s.m m') (op d a i : Int) : (doM s l op d a i).1 = (doM { s with m := m' } l' op d a i).1 ∧ Like l l' (doM s l op d a i).2 (doM { s with m := m' } l' op d a i).2 := by
 have hx := Qrr h op d a i
 unfold doM
 dsimp only
 generalize exM s l op d a i = x at hx
 generalize exM { s with m := m' } l' op d a i = y at hx
 obtain ⟨x1, x2, x3, x4⟩ := x
 obtain ⟨y1, y2, y3, y4⟩ := y
 obtain ⟨e1, e2, e3, e4, e5⟩ := hx
 dsimp only at e1 e2 e3 e4 e5 ⊢
 subst e1 e2 e3
 rw [e4]
 dsimp only
 split
 ·exact ⟨rfl, rfl, e5⟩
 ·exact ⟨rfl, rfl, e5⟩
theorem QkH {s : Mc} (h : Sim l l' s.m m') : Like l l' (runM s l) (runM { s with m := m' } l') := by
 have t : ∀ {c v : Int}, Like l l' (s.trap c v) (Mc.trap { s with m := m' } c v) := ⟨rfl, h⟩
 unfold runM
 dsimp only
 have k : ∀ w : Int, Like l l' (if decF w = 0 then (if (doM s l (decM w).1 (decM w).2.1 (decM w).2.2.1 (decM w).2.2.2.1).1 = true then QfD (doM s l (decM w).1 (decM w).2.1 (decM w).2.2.1 (decM w).2.2.2.1).2 else (doM s l (decM w).1 (decM w).2.1 (decM w).2.2.1 (decM w).2.2.2.1).2) else s.trap 1 w)
   (if decF w = 0 then (if (doM { s with m := m' } l' (decM w).1 (decM w).2.1 (decM w).2.2.1 (decM w).2.2.2.1).1 = true then QfD (doM { s with m := m' } l' (decM w).1 (decM w).2.1 (decM w).2.2.1 (decM w).2.2.2.1).2 else (doM { s with m := m' } l' (decM w).1 (decM w).2.1 (decM w).2.2.1 (decM w).2.2.2.1).2) else Mc.trap { s with m := m' } 1 w) := fun w => by
  refine Qas (R := Like l l') (fun _ => ?_) fun _ => t
  obtain ⟨e1, e2, e3⟩ := Qrp h (decM w).1 (decM w).2.1 (decM w).2.2.1 (decM w).2.2.2.1
  rw [← e1]
  refine Qas (R := Like l l') (fun _ => ⟨?_, e3⟩) fun _ => ⟨e2, e3⟩
  unfold QfD
  rw [e2]
 rcases h.place s.cs s.pc 4 with ⟨e, hd⟩ | ⟨e1, e2, hs⟩
 ·rw [← e]
  refine Qas (R := Like l l') (fun _ => t) fun c => ?_
  have c : (Qt s.cs l s.m s.pc 4).2 = 0 := by simpa using c
  exact absurd rfl (hd c).2
 ·obtain ⟨hx, hy, e3, _⟩ := h.spot hs
  rw [if_neg (c := (Qt s.cs l s.m s.pc 4).2 ≠ 0) (by rw [e1]; simp), if_neg (c := (Qt s.cs l' m' s.pc 4).2 ≠ 0) (by rw [e2]; simp), ← e3]
  exact k _
theorem Qjh {s : Mc} (h : Sim l l' s.m m') : Like l l' (Qad s l) (Qad { s with m := m' } l') := by
 unfold Qad
 dsimp only
 refine Qas (R := Like l l') (fun _ => ⟨rfl, h⟩) fun _ => Qas (R := Like l l') (fun _ => ⟨rfl, h⟩) fun _ => Qas (R := Like l l') (fun _ => Qas (R := Like l l') (fun _ => ⟨rfl, h⟩) fun _ => ?_) fun _ => ?_
 ·exact QkH (s := { s with ring := -1, fall := -1, wa := false }) h
 ·exact QkH (s := { s with ring := -1, fall := -1 }) h
end
theorem Qcd {α : Type} {l : List α} {i j : Nat} {y d : α} (h : i ≠ j) : (l.set i y).getD j d = l.getD j d := by rw [QdD, QdD, List.getElem?_set_ne h]
theorem Qdp {α : Type} {l : List α} {i : Nat} {y d : α} (h : i < l.length) : (l.set i y).getD i d = y := by rw [QdD, List.getElem?_set_self h]; rfl
theorem gget {α : Type} {l : List α} {i : Nat} {d : α} (h : i < l.length) : l.getD i d = l[i] := by rw [QdD, List.getElem?_eq_getElem h]; rfl
theorem Qij : ∀ {l seen : List Int}, dupM seen l = false → l.Nodup ∧ ∀ x ∈ l, x ∉ seen
 | [], _, _ => ⟨List.nodup_nil, by simp⟩
 | x :: r, seen, h => by
  simp only [dupM, Bool.or_eq_false_iff] at h
  obtain ⟨h1, h2⟩ := Qij h.2
  have hx : x ∉ seen := by simpa using h.1
  refine ⟨List.nodup_cons.2 ⟨fun hm => h2 x hm (by simp), h1⟩, fun y hy => ?_⟩
  rcases List.mem_cons.1 hy with rfl | hy
  ·exact hx
  ·exact fun hm => h2 y hy (List.mem_append_left _ hm)
theorem QcJ {p : PolD} (hok : OkPol p) : (∀ l ∈ p.1, l.Nodup) ∧ p.1.Pairwise fun a b => ∀ x ∈ a, ∀ y ∈ b, x ≠ y := by
 have := (Qij hok.nodup).1
 unfold List.Nodup at this
 rw [List.pairwise_flatten] at this
 exact this
abbrev ownL (p : PolD) (g : Int) : List Int := p.1.getD g.toNat []
theorem QqE {p : PolD} (hok : OkPol p) {g t : Int} (hg : isG p g = true) (ht : isG p t = true) (hne : t ≠ g) {x : Int} (h1 : x ∈ ownL p g) (h2 : x ∈ ownL p t) : False := by
 have a := Qaz.1 hg
 have b := Qaz.1 ht
 have hp := List.pairwise_iff_getElem.1 (QcJ hok).2
 rw [ownL, gget (by omega)] at h1 h2
 rcases Nat.lt_or_gt_of_ne (show g.toNat ≠ t.toNat by omega) with c | c
 ·exact hp g.toNat t.toNat (by omega) (by omega) c x h1 x h2 rfl
 ·exact hp t.toNat g.toNat (by omega) (by omega) c x h2 x h1 rfl
theorem Qkl {p : PolD} (hok : OkPol p) {j : Nat} (hj : j < p.2.1.length) : QdG p p.2.1[j] (p.2.1.take j) = 0 := by
 have e := hok.lanes.2
 unfold QbF at e
 have := Qlz (Qfq e j hj)
 rw [Nat.zero_add] at this
 exact this
theorem QgC {p : PolD} (hok : OkPol p) : p.2.1.Pairwise fun o l => clash l o = false := by
 rw [List.pairwise_iff_getElem]
 intro i j hi hj hij
 have e := Qkl hok hj
 unfold QdG at e
 split at e
 ·rename_i h; exact absurd e h
 split at e
 ·split at e
  ·cases e
  ·split at e
   ·cases e
   ·rename_i h
    have h : (p.2.1.take j).any (clash p.2.1[j]) = false := by simpa using h
    rw [List.any_eq_false] at h
    have := h p.2.1[i] (by
     rw [← List.getElem_take (j := j) (h := by rw [List.length_take]; omega)]
     exact List.getElem_mem _)
    simpa using this
 ·cases e
theorem QdH {p : PolD} (hok : OkPol p) {x : QA} (hx : x ∈ p.2.1) {l : List Int} (hl : l ∈ p.1) : x.2.2.1 ∉ l := by
 obtain ⟨j, hj, rfl⟩ := List.mem_iff_getElem.1 hx
 have e := Qkl hok hj
 unfold QdG at e
 split at e
 ·rename_i h; exact absurd e h
 split at e
 ·split at e
  ·cases e
  ·rename_i h
   intro hm
   apply h
   rw [Qbd, decide_eq_true_eq]
   unfold QeO
   cases hs : scan (fun i (l : List Int) => if l.contains p.2.1[j].2.2.1 = true then some ((i : Nat) : Int) else none) 0 p.1 with
   | none =>
    obtain ⟨i, hi⟩ := QaS hs l hl
    rw [if_pos (by simpa using hm)] at hi
    cases hi
   | some k =>
    refine QcE (P := fun c : Int => 0 ≤ c) (fun i hi c hc => ?_) _ hs
    split at hc
    ·obtain rfl := Osj hc; omega
    ·cases hc
 ·cases e
theorem QdI {p : PolD} (hok : OkPol p) {x y : QA} (hx : x ∈ p.2.1) (hy : y ∈ p.2.1) (h : x.2.2.1 = y.2.2.1) : x = y := by
 obtain ⟨i, hi, rfl⟩ := List.mem_iff_getElem.1 hx
 obtain ⟨j, hj, rfl⟩ := List.mem_iff_getElem.1 hy
 have hp := List.pairwise_iff_getElem.1 (QgC hok)
 have key : ∀ {i j : Nat} (hi : i < p.2.1.length) (hj : j < p.2.1.length), i < j → p.2.1[i].2.2.1 = p.2.1[j].2.2.1 → False := fun hi hj hij e => by
  have := hp _ _ hi hj hij
  unfold clash at this
  rw [e] at this
  simp at this
 rcases Nat.lt_trichotomy i j with c | c | c
 ·exact (key hi hj c h).elim
 ·subst c; rfl
 ·exact (key hj hi c h.symm).elim
theorem QiO : ∀ (r : List Int) (k : Nat) (l : List TwoD) (j : Nat), k + r.length ≤ l.length → pgAt (Qck k r l) j = if k ≤ j ∧ j < k + r.length then (r.getD (j - k) 0, 7, ()) else pgAt l j
 | [], k, l, j, _ => by rw [if_neg (by simp only [List.length_nil]; omega)]; rfl
 | p :: r, k, l, j, h => by
  simp only [List.length_cons] at h
  rw [Qck, QiO r (k + 1) _ j (by rw [List.length_set]; omega)]
  simp only [List.length_cons]
  by_cases e : j = k
  ·subst e
   rw [if_neg (by omega), if_pos (by omega), Nat.sub_self]
   exact Qdp (by omega)
  ·by_cases c : k + 1 ≤ j ∧ j < k + 1 + r.length
   ·rw [if_pos c, if_pos (by omega), show j - k = (j - (k + 1)) + 1 by omega]; rfl
   ·rw [if_neg c, if_neg (by omega)]; exact Qcd (Ne.symm e)
theorem QsS (j : Nat) : pgAt Qcn j = (-1, 0, ()) := by
 match j with
 | 0 | 1 | 2 | 3 | 4 | 5 | 6 | 7 => rfl
 | n + 8 => rfl
theorem QcT {x : QA} {g k : Int} : Qbc x g k = true ↔ (x.1 = g ∧ x.2.2.2.1 = k) ∨ (x.2.1 = g ∧ x.2.2.2.2.1 = k) := by
 unfold Qbc
 simp
theorem QsU {l o : QA} : clash l o = false ↔ o.2.2.1 ≠ l.2.2.1 ∧ ¬ (Qbc o l.1 l.2.2.2.1 = true) ∧ ¬ (Qbc o l.2.1 l.2.2.2.2.1 = true) := by
 unfold clash
 simp [Bool.or_eq_false_iff]
theorem QgX {z x : QA} (h : clash z x = false) {g k : Int} (hx : Qbc x g k = true) : Qbc z g k = false := by
 obtain ⟨_, h1, h2⟩ := QsU.1 h
 rw [← Bool.not_eq_true]
 intro hz
 rcases QcT.1 hz with ⟨a, b⟩ | ⟨a, b⟩
 ·exact h1 (by rw [a, b]; exact hx)
 ·exact h2 (by rw [a, b]; exact hx)
def QdX (x : QA) : Prop := x.1 ≠ x.2.1 ∧ (5 ≤ x.2.2.2.1 ∧ x.2.2.2.1 ≤ 6) ∧ (5 ≤ x.2.2.2.2.1 ∧ x.2.2.2.2.1 ≤ 6)
theorem QgA {g : Int} {x : QA} (hx : QdX x) {l : List TwoD} (hl : l.length = 8) (k : Nat) : pgAt (Qdq g x l) k = if x.1 = g ∧ x.2.2.2.1 = (k : Int) then (x.2.2.1, 3, ()) else if x.2.1 = g ∧ x.2.2.2.2.1 = (k : Int) then (x.2.2.1, 1, ()) else pgAt l k := by
 obtain ⟨h0, h1, h2⟩ := hx
 unfold Qdq
 dsimp only
 by_cases a : x.1 = g
 ·have b : ¬ x.2.1 = g := fun b => h0 (a.trans b.symm)
  rw [if_neg b, if_pos a, if_neg (c := x.2.1 = g ∧ _) (fun c => b c.1)]
  by_cases c : x.2.2.2.1 = (k : Int)
  ·rw [if_pos ⟨a, c⟩, show x.2.2.2.1.toNat = k by omega]; exact Qdp (by omega)
  ·rw [if_neg (fun d => c d.2)]; exact Qcd (by omega)
 ·rw [if_neg a, if_neg (c := x.1 = g ∧ _) (fun c => a c.1)]
  by_cases b : x.2.1 = g
  ·rw [if_pos b]
   by_cases c : x.2.2.2.2.1 = (k : Int)
   ·rw [if_pos ⟨b, c⟩, show x.2.2.2.2.1.toNat = k by omega]; exact Qdp (by omega)
   ·rw [if_neg (fun d => c d.2)]; exact Qcd (by omega)
  ·rw [if_neg b, if_neg (fun c => b c.1)]
theorem Qdr {g : Int} {k : Nat} : ∀ (r : List QA) (l : List TwoD), l.length = 8 → (∀ x ∈ r, QdX x) → (∀ x ∈ r, Qbc x g (k : Int) = false) → pgAt (QaO g r l) k = pgAt l k
 | [], _, _, _, _ => rfl
 | x :: r, l, hl, h1, h2 => by
  rw [QaO, Qdr r _ (by rw [Qbx]; exact hl) (fun y hy => h1 y (List.mem_cons_of_mem _ hy)) (fun y hy => h2 y (List.mem_cons_of_mem _ hy)), QgA (h1 x (by simp)) hl]
  have := h2 x (by simp)
  have : ¬ Qbc x g (k : Int) = true := by rw [this]; simp
  rw [QcT] at this
  rw [if_neg fun c => this (.inl c), if_neg fun c => this (.inr c)]
theorem QhD {g : Int} {x : QA} : ∀ (r : List QA) (l : List TwoD), l.length = 8 → (∀ y ∈ r, QdX y) → r.Pairwise (fun o l => clash l o = false) → x ∈ r → x.1 = g → pgAt (QaO g r l) x.2.2.2.1.toNat = (x.2.2.1, 3, ())
 | y :: r, l, hl, h1, h2, hx, hg => by
  rw [List.pairwise_cons] at h2
  rw [QaO]
  rcases List.mem_cons.1 hx with rfl | hx
  ·have b := h1 x (by simp)
   have e : ((x.2.2.2.1.toNat : Nat) : Int) = x.2.2.2.1 := by have := b.2.1; omega
   rw [Qdr r _ (by rw [Qbx]; exact hl) (fun y hy => h1 y (List.mem_cons_of_mem _ hy)) (fun z hz => QgX (h2.1 z hz) (QcT.2 (.inl ⟨hg, e.symm⟩))), QgA b hl, if_pos ⟨hg, e.symm⟩]
  ·exact QhD r _ (by rw [Qbx]; exact hl) (fun y hy => h1 y (List.mem_cons_of_mem _ hy)) h2.2 hx hg
theorem Qkk {g : Int} {x : QA} : ∀ (r : List QA) (l : List TwoD), l.length = 8 → (∀ y ∈ r, QdX y) → r.Pairwise (fun o l => clash l o = false) → x ∈ r → x.2.1 = g → pgAt (QaO g r l) x.2.2.2.2.1.toNat = (x.2.2.1, 1, ())
 | y :: r, l, hl, h1, h2, hx, hg => by
  rw [List.pairwise_cons] at h2
  rw [QaO]
  rcases List.mem_cons.1 hx with rfl | hx
  ·have b := h1 x (by simp)
   have e : ((x.2.2.2.2.1.toNat : Nat) : Int) = x.2.2.2.2.1 := by have := b.2.2; omega
   rw [Qdr r _ (by rw [Qbx]; exact hl) (fun y hy => h1 y (List.mem_cons_of_mem _ hy)) (fun z hz => QgX (h2.1 z hz) (QcT.2 (.inr ⟨hg, e.symm⟩))), QgA b hl, if_neg (fun c => b.1 (c.1.trans hg.symm)), if_pos ⟨hg, e.symm⟩]
  ·exact Qkk r _ (by rw [Qbx]; exact hl) (fun y hy => h1 y (List.mem_cons_of_mem _ hy)) h2.2 hx hg
theorem QgB {g : Int} {k : Nat} : ∀ (r : List QA) (l : List TwoD), l.length = 8 → (∀ y ∈ r, QdX y) → pgAt (QaO g r l) k = pgAt l k ∨
  (∃ x ∈ r, x.1 = g ∧ x.2.2.2.1 = (k : Int) ∧ pgAt (QaO g r l) k = (x.2.2.1, 3, ())) ∨ (∃ x ∈ r, x.2.1 = g ∧ x.2.2.2.2.1 = (k : Int) ∧ pgAt (QaO g r l) k = (x.2.2.1, 1, ()))
 | [], _, _, _ => .inl rfl
 | y :: r, l, hl, h1 => by
  rw [QaO]
  rcases QgB (k := k) r (Qdq g y l) (by rw [Qbx]; exact hl) (fun y hy => h1 y (List.mem_cons_of_mem _ hy)) with e | ⟨x, hx, e⟩ | ⟨x, hx, e⟩
  ·rw [e, QgA (h1 y (by simp)) hl]
   by_cases a : y.1 = g ∧ y.2.2.2.1 = (k : Int)
   ·rw [if_pos a]; exact .inr (.inl ⟨y, by simp, a.1, a.2, rfl⟩)
   ·rw [if_neg a]
    by_cases b : y.2.1 = g ∧ y.2.2.2.2.1 = (k : Int)
    ·rw [if_pos b]; exact .inr (.inr ⟨y, by simp, b.1, b.2, rfl⟩)
    ·rw [if_neg b]; exact .inl rfl
  ·exact .inr (.inl ⟨x, List.mem_cons_of_mem _ hx, e⟩)
  ·exact .inr (.inr ⟨x, List.mem_cons_of_mem _ hx, e⟩)
theorem QbG {p : PolD} (hok : OkPol p) : ∀ x ∈ p.2.1, QdX x := fun x hx => by
 have := Qcq hok x hx
 exact ⟨this.1.2.2, this.2.2.1, this.2.2.2⟩
theorem QdN {p : PolD} {g : Int} (hok : OkPol p) (hg : isG p g = true) : 1 ≤ (ownL p g).length ∧ (ownL p g).length ≤ 5 := by
 have := hok.own1 _ (Qdw hok hg)
 exact ⟨this.1, this.2.1⟩
theorem own8 (p : PolD) (g : Int) : (Qck 0 (ownL p g) Qcn).length = 8 := by rw [Qfl]; rfl
theorem QlG {p : PolD} {g : Int} (hok : OkPol p) (hg : isG p g = true) {k : Nat} (hk : k < (ownL p g).length) : pgAt (pgM p g) k = ((ownL p g).getD k 0, 7, ()) := by
 have h5 := (QdN hok hg).2
 unfold pgM
 rw [Qdr _ _ (own8 p g) (QbG hok) (fun x hx => ?_), QiO _ _ _ _ (by show 0 + (ownL p g).length ≤ 8; omega), if_pos (by omega), Nat.sub_zero]
 have hx := QbG hok x hx
 rw [← Bool.not_eq_true, QcT]
 have := hx.2
 omega
theorem QgJ {p : PolD} {g : Int} (hok : OkPol p) (hg : isG p g = true) {x : QA} (hx : x ∈ p.2.1) (h : x.1 = g) : pgAt (pgM p g) x.2.2.2.1.toNat = (x.2.2.1, 3, ()) := QhD _ _ (own8 p g) (QbG hok) (QgC hok) hx h
theorem QuU {p : PolD} {g : Int} (hok : OkPol p) (hg : isG p g = true) {x : QA} (hx : x ∈ p.2.1) (h : x.2.1 = g) : pgAt (pgM p g) x.2.2.2.2.1.toNat = (x.2.2.1, 1, ()) := Qkk _ _ (own8 p g) (QbG hok) (QgC hok) hx h
theorem QeR {p : PolD} {g : Int} (hok : OkPol p) (hg : isG p g = true) {k : Nat} (h0 : 0 ≤ (pgAt (pgM p g) k).1) : (k < (ownL p g).length ∧ pgAt (pgM p g) k = ((ownL p g).getD k 0, 7, ())) ∨
  (∃ x ∈ p.2.1, x.1 = g ∧ x.2.2.2.1 = (k : Int) ∧ pgAt (pgM p g) k = (x.2.2.1, 3, ())) ∨ (∃ x ∈ p.2.1, x.2.1 = g ∧ x.2.2.2.2.1 = (k : Int) ∧ pgAt (pgM p g) k = (x.2.2.1, 1, ())) := by
 have h5 := (QdN hok hg).2
 rcases QgB (g := g) (k := k) p.2.1 (Qck 0 (ownL p g) Qcn) (own8 p g) (QbG hok) with e | e | e
 ·refine .inl ?_
  have e : pgAt (pgM p g) k = pgAt (Qck 0 (ownL p g) Qcn) k := e
  rw [e, QiO _ _ _ _ (by show 0 + (ownL p g).length ≤ 8; omega)] at h0 ⊢
  by_cases c : 0 ≤ k ∧ k < 0 + (ownL p g).length
  ·rw [if_pos c] at h0 ⊢
   exact ⟨by omega, by rw [Nat.sub_zero]⟩
  ·rw [if_neg c, QsS] at h0
   exact absurd h0 (by decide)
 ·exact .inr (.inl e)
 ·exact .inr (.inr e)
theorem QeN {p : PolD} {g : Int} {k : Nat} (hk : k < (ownL p g).length) : (ownL p g).getD k 0 ∈ ownL p g := QT hk
theorem Qop {p : PolD} {g : Int} (hok : OkPol p) (hg : isG p g = true) (i j : Nat) (h0 : 0 ≤ (pgAt (pgM p g) i).1) (he : (pgAt (pgM p g) i).1 = (pgAt (pgM p g) j).1) : i = j := by
 have hm := Qdw hok hg
 have nd := List.pairwise_iff_getElem.1 ((QcJ hok).1 _ hm)
 have lf := fun {x : QA} (hx : x ∈ p.2.1) => QdH hok hx hm
 have sep := fun {x : QA} (hx : x ∈ p.2.1) => (QbG hok x hx).1
 rcases QeR hok hg h0 with ⟨a1, a2⟩ | ⟨x, hx, a1, a2, a3⟩ | ⟨x, hx, a1, a2, a3⟩ <;> rcases QeR hok hg (k := j) (by omega) with ⟨b1, b2⟩ | ⟨y, hy, b1, b2, b3⟩ | ⟨y, hy, b1, b2, b3⟩
 ·rw [a2, b2] at he
  dsimp only at he
  rw [gget a1, gget b1] at he
  rcases Nat.lt_trichotomy i j with c | c | c
  ·exact (nd i j a1 b1 c he).elim
  ·exact c
  ·exact (nd j i b1 a1 c he.symm).elim
 ·rw [a2, b3] at he; exact (lf hy (he ▸ QeN a1)).elim
 ·rw [a2, b3] at he; exact (lf hy (he ▸ QeN a1)).elim
 ·rw [a3, b2] at he; exact (lf hx (he.symm ▸ QeN b1)).elim
 ·rw [a3, b3] at he
  obtain rfl := QdI hok hx hy he
  omega
 ·rw [a3, b3] at he
  obtain rfl := QdI hok hx hy he
  exact (sep hx (a1.trans b1.symm)).elim
 ·rw [a3, b2] at he; exact (lf hx (he.symm ▸ QeN b1)).elim
 ·rw [a3, b3] at he
  obtain rfl := QdI hok hx hy he
  exact (sep hx (b1.trans a1.symm)).elim
 ·rw [a3, b3] at he
  obtain rfl := QdI hok hx hy he
  omega
theorem Qux (p : PolD) (g : Int) {k : Nat} (hk : k < 8) : pgAt (pgM p g) k ∈ pgM p g := QT (by rw [Qem]; exact hk)
theorem QlH {p : PolD} {g : Int} (hok : OkPol p) (hg : isG p g = true) {k : Nat} (hk : k < 8) : -1 ≤ (pgAt (pgM p g) k).1 ∧ (pgAt (pgM p g) k).1 ≤ 23 := (Qoo hok hg _ (Qux p g hk)).1
theorem QrU {p : PolD} {g t : Int} (hok : OkPol p) (hg : isG p g = true) (ht : isG p t = true) (hne : t ≠ g) {P : Int} (h0 : 0 ≤ P) (hP : P ∈ ownL p g ∨ ∃ y ∈ p.2.1, y.1 = g ∧ y.2.2.1 = P) : ∀ q ∈ pgM p t, q.1 = P → iand .i64 q.2.1 2 = 0 := by
 intro q hq e
 obtain ⟨k, hk, rfl⟩ := List.mem_iff_getElem.1 hq
 have ek : (pgM p t)[k] = pgAt (pgM p t) k := (gget hk).symm
 rw [ek] at e ⊢
 rcases QeR hok ht (k := k) (by omega) with ⟨a1, a2⟩ | ⟨x, hx, a1, a2, a3⟩ | ⟨x, hx, a1, a2, a3⟩
 ·rw [a2] at e
  have hm : P ∈ ownL p t := e ▸ QeN a1
  rcases hP with hP | ⟨y, hy, c1, c2⟩
  ·exact (QqE hok hg ht hne hP hm).elim
  ·exact (QdH hok hy (Qdw hok ht) (c2 ▸ hm)).elim
 ·rw [a3] at e
  dsimp only at e
  rcases hP with hP | ⟨y, hy, c1, c2⟩
  ·exact (QdH hok hx (Qdw hok hg) (e ▸ hP)).elim
  ·obtain rfl := QdI hok hx hy (e.trans c2.symm)
   exact (hne (a1.symm.trans c1)).elim
 ·rw [a3]; show iand .i64 1 2 = 0; decide
theorem Qtj {l : List TwoD} {m m' : List Int} (h : MemW l m m') {P : Int} (h0 : 0 ≤ P) (hq : ∀ q ∈ l, q.1 = P → iand .i64 q.2.1 2 = 0) : pg m' P = pg m P := by
 unfold pg
 apply List.ext_getElem?
 intro i
 by_cases hi : i < 8
 ·simp only [List.getElem?_take, if_pos hi, List.getElem?_drop]
  apply Decidable.byContradiction
  intro hne
  obtain ⟨q, hm, e1, e2⟩ := h _ hne
  exact e2 (hq q hm (by rw [e1]; omega))
 ·rw [List.getElem?_eq_none (by simp; omega), List.getElem?_eq_none (by simp; omega)]
theorem QhW {l : List TwoD} (hl : l.length = 8) {k : Nat} (hk : k < 8) : pgAt (QcO l) k = if 0 ≤ (pgAt l k).1 then ((k : Int), (pgAt l k).2) else pgAt l k := by
 have h1 : k < l.length := by omega
 rw [pgAt, gget (by rw [QfS]; exact h1), QpH h1, pgAt, gget h1]
theorem QqO {p : PolD} {g : Int} (hok : OkPol p) (hg : isG p g = true) {m m' : List Int} (h : ∀ k, k < 8 → 0 ≤ (pgAt (pgM p g) k).1 → pg m (pgAt (pgM p g) k).1 = pg m' (k : Nat)) : Sim (pgM p g) (QcO (pgM p g)) m m' := by
 have hl := Qem p g
 have ha := fun {k : Nat} (hk : k < 8) => QhW hl hk
 refine ⟨⟨hl, by rw [QfS]; exact hl⟩, fun k hk => ?_, fun k hk => ?_, fun k hk => ⟨(QlH hok hg hk).2, ?_⟩, fun i j _ _ => Qop hok hg i j, fun i j hi hj h0 he => ?_, fun k hk h0 => ?_⟩
 ·rw [ha hk]; split <;> rfl
 ·rw [ha hk]; split
  ·rename_i c; exact ⟨fun _ => by dsimp only; omega, fun _ => c⟩
  ·exact Iff.rfl
 ·have := (QlH hok hg hk).2
  rw [ha hk]; split
  ·dsimp only; omega
  ·exact this
 ·rw [ha hi] at h0 he
  rw [ha hj] at he
  split at h0
  ·rename_i c
   rw [if_pos c] at he
   split at he
   ·dsimp only at he; omega
   ·dsimp only at he; omega
  ·rename_i c; exact absurd h0 c
 ·rw [ha hk, if_pos h0]; exact h k hk h0
theorem Qsh {s ws : List Int} {k : Nat} {j : Int} (hs : s.length = 64) (hk : k < 8) (hw : ws.length = 8) (hj : 0 ≤ j ∧ j < 8) : pg (QhH s k ws) j = if j = (k : Int) then ws else pg s j := by
 obtain ⟨J, rfl⟩ : ∃ J : Nat, j = (J : Int) := ⟨j.toNat, by omega⟩
 unfold pg QhH
 rw [Int.toNat_natCast]
 apply List.ext_getElem?
 intro i
 by_cases hi : i < 8
 ·rw [List.getElem?_take, if_pos hi, List.getElem?_drop]
  by_cases c : J = k
  ·subst c
   rw [if_pos rfl, List.getElem?_append_right (by simp; omega), List.length_take, Nat.min_eq_left (by omega), Nat.add_sub_cancel_left, List.getElem?_append_left (by omega)]
  ·rw [if_neg (by omega), List.getElem?_take, if_pos hi, List.getElem?_drop]
   by_cases d : J < k
   ·rw [List.getElem?_append_left (by simp; omega), List.getElem?_take, if_pos (by omega)]
   ·rw [List.getElem?_append_right (by simp; omega), List.length_take, Nat.min_eq_left (by omega), List.getElem?_append_right (by omega), List.getElem?_drop, hw]
    congr 1
    omega
 ·rw [List.getElem?_eq_none (by simp; omega)]
  split
  ·rw [List.getElem?_eq_none (by omega)]
  ·rw [List.getElem?_eq_none (by simp; omega)]
def calm (h : QY) : QY := (h.1, h.2.1, h.2.2.1, h.2.2.2.1, h.2.2.2.2.1, false, h.2.2.2.2.2.2)
theorem QsT {h k : QY} (e : calm h = calm k) (er : h.2.2.2.2.2.1 = k.2.2.2.2.2.1) : h = k := by
 obtain ⟨a1, a2, a3, a4, a5, a6, a7⟩ := h
 obtain ⟨b1, b2, b3, b4, b5, b6, b7⟩ := k
 unfold calm at e
 simp only [Pmi] at e er
 obtain ⟨rfl, rfl, rfl, rfl, rfl, _, rfl⟩ := e
 rw [er]
structure Rl (x : Qx) (s : QaU) (g : Int) : Prop where
 hk : HK x
 hs : Qcw s = 0
 hg : isG x.1 g = true
 pages : s.2.1 = QcO (pgM x.1 g)
 hart : calm s.1 = calm (x.2.2.1.getD g.toNat Qag)
 own : ∀ k, k < (ownL x.1 g).length → pg x.2.1 ((ownL x.1 g).getD k 0) = pg s.2.2.1 (k : Nat)
 gives : ∀ y ∈ x.1.2.1, y.1 = g → pg x.2.1 y.2.2.1 = pg s.2.2.1 y.2.2.2.1
theorem Qjz {m m' : List Int} : ∀ {l : List Int} {k : Nat}, (∀ i, i < l.length → pg m (l.getD i 0) = pg m' ((k + i : Nat) : Int)) → k + l.length ≤ 8 → m'.length = 64 → Qaf m l = (m'.drop (8 * k)).take (8 * l.length)
 | [], k, _, _, _ => by simp [Qaf]
 | a :: r, k, h, hk, hl => by
  simp only [List.length_cons] at hk
  have h0 := h 0 (by simp)
  have ih := Qjz (l := r) (k := k + 1) (fun i hi => by
   have := h (i + 1) (by simp; omega)
   rw [show k + 1 + i = k + (i + 1) by omega]
   exact this) (by omega) hl
  unfold Qaf at ih ⊢
  rw [List.flatMap_cons, ih]
  have e0 : pg m a = (m'.drop (8 * k)).take 8 := h0
  rw [e0, List.length_cons, show 8 * (r.length + 1) = 8 + 8 * r.length by omega, List.take_add, List.drop_drop, show 8 * k + 8 = 8 * (k + 1) by omega]
theorem Qit {m m' : List Int} {g : Int} : ∀ {r : List QA}, (∀ y ∈ r, y.1 = g → pg m y.2.2.1 = pg m' y.2.2.2.1) → Qaf m (Qaw g true r) = Qaf m' (Qaw g false r)
 | [], _ => rfl
 | y :: r, h => by
  have ih := Qit (r := r) fun z hz => h z (List.mem_cons_of_mem _ hz)
  simp only [Qaw]
  by_cases c : y.1 = g
  ·rw [if_pos c, if_pos c, if_pos trivial, if_neg (by simp)]
   unfold Qaf at ih ⊢
   rw [List.flatMap_cons, List.flatMap_cons, h y (by simp) c, ih]
  ·rw [if_neg c, if_neg c]; exact ih
theorem Rl.views {x : Qx} {s : QaU} {g : Int} (h : Rl x s g) : setF (Qub x.1 s g) (QuR (QbN x g)) = QbN x g := by
 have h5 := (QdN h.hk.ok h.hg).2
 have hm : s.2.2.1.length = 64 := (Qeo h.hs).2.2.2
 have e1 := Qjz (m := x.2.1) (m' := s.2.2.1) (l := ownL x.1 g) (k := 0) (fun i hi => by rw [Nat.zero_add]; exact h.own i hi) (by omega) hm
 rw [Nat.mul_zero, List.drop_zero] at e1
 have e2 := Qit (m := x.2.1) (m' := s.2.2.1) (g := g) h.gives
 have eh := h.hart
 unfold Qub QbN
 rw [← e1, ← e2]
 generalize Qaf x.2.1 (ownL x.1 g) = W
 generalize Qaf x.2.1 (Qaw g true x.1.2.1) = G
 generalize x.2.2.1.getD g.toNat Qag = k at eh
 generalize s.1 = q at eh
 obtain ⟨a1, a2, a3, a4, a5, a6, a7, a8, a9, _⟩ := q
 obtain ⟨b1, b2, b3, b4, b5, b6, b7, b8, b9, _⟩ := k
 unfold calm at eh
 simp only [Pmi] at eh
 obtain ⟨rfl, rfl, rfl, rfl, rfl, _, rfl, rfl, rfl, _⟩ := eh
 rfl
theorem Qff {m : List Int} {g : Int} {j : Int} : ∀ {r : List QA} {q : List Int}, q.length = 64 → (∀ y ∈ r, QdX y ∧ (pg m y.2.2.1).length = 8) → 0 ≤ j ∧ j < 8 → (∀ y ∈ r, y.2.1 = g → y.2.2.2.2.1 ≠ j) → pg (QeB m g r q) j = pg q j
 | [], _, _, _, _, _ => rfl
 | y :: r, q, hq, h1, hj, h2 => by
  have b := h1 y (by simp)
  rw [QeB]
  by_cases c : y.2.1 = g
  ·rw [if_pos c, Qff (Qhn hq (by have := b.1.2.2; omega) b.2) (fun z hz => h1 z (List.mem_cons_of_mem _ hz)) hj (fun z hz => h2 z (List.mem_cons_of_mem _ hz)), Qsh hq (by have := b.1.2.2; omega) b.2 hj, if_neg (by have := h2 y (by simp) c; have := b.1.2.2; omega)]
  ·rw [if_neg c]
   exact Qff hq (fun z hz => h1 z (List.mem_cons_of_mem _ hz)) hj (fun z hz => h2 z (List.mem_cons_of_mem _ hz))
theorem QoV {m : List Int} {g : Int} {x : QA} : ∀ {r : List QA} {q : List Int}, q.length = 64 → (∀ y ∈ r, QdX y ∧ (pg m y.2.2.1).length = 8) → r.Pairwise (fun o l => clash l o = false) → x ∈ r → x.2.1 = g → pg (QeB m g r q) x.2.2.2.2.1 = pg m x.2.2.1
 | y :: r, q, hq, h1, h2, hx, hg => by
  have b := h1 y (by simp)
  rw [List.pairwise_cons] at h2
  have hp : (QhH q y.2.2.2.2.1.toNat (pg m y.2.2.1)).length = 64 := Qhn hq (by have := b.1.2.2; omega) b.2
  rw [QeB]
  rcases List.mem_cons.1 hx with rfl | hx
  ·have := b.1.2.2
   rw [if_pos hg, Qff hp (fun z hz => h1 z (List.mem_cons_of_mem _ hz)) (by omega) (fun z hz zg ze => ?_), Qsh hq (by omega) b.2 (by omega), if_pos (by omega)]
   have := QgX (h2.1 z hz) (QcT (x := x) (g := g) (k := x.2.2.2.2.1).2 (.inr ⟨hg, rfl⟩))
   rw [QcT.2 (.inr ⟨zg, ze⟩)] at this
   cases this
  ·exact QoV (by split; exact hp; exact hq) (fun z hz => h1 z (List.mem_cons_of_mem _ hz)) h2.2 hx hg
section
variable {x : Qx} {s : QaU} {g : Int}
theorem Rl.lanes (h : Rl x s g) : ∀ y ∈ x.1.2.1, QdX y ∧ (pg x.2.1 y.2.2.1).length = 8 := fun y hy => ⟨QbG h.hk.ok y hy, (Qpe h.hk hy).2.2.1⟩
theorem Rl.sim (h : Rl x s g) : Sim (pgM x.1 g) (QcO (pgM x.1 g)) x.2.1 (QeB x.2.1 g x.1.2.1 s.2.2.1) := by
 have hok := h.hk.ok
 have hm : s.2.2.1.length = 64 := (Qeo h.hs).2.2.2
 refine QqO hok h.hg fun k hk h0 => ?_
 have keep : (∀ y ∈ x.1.2.1, y.2.1 = g → y.2.2.2.2.1 ≠ (k : Int)) → pg (QeB x.2.1 g x.1.2.1 s.2.2.1) ((k : Nat) : Int) = pg s.2.2.1 (k : Nat) := fun c => Qff hm h.lanes (by omega) c
 rcases QeR hok h.hg h0 with ⟨a1, a2⟩ | ⟨y, hy, a1, a2, a3⟩ | ⟨y, hy, a1, a2, a3⟩
 ·have h5 := (QdN hok h.hg).2
  rw [a2, keep fun y hy _ => by have := (QbG hok y hy).2.2; omega]
  exact h.own k a1
 ·rw [a3, keep fun z hz zg ze => ?_]
  ·rw [← a2]; exact h.gives y hy a1
  ·have q1 := QgJ hok h.hg hy a1
   have q2 := QuU hok h.hg hz zg
   rw [a2] at q1
   rw [ze, q1] at q2
   exact absurd (congrArg (fun w : TwoD => w.2.1) q2) (by dsimp only; decide)
 ·rw [a3, ← a2]
  exact (QoV hm h.lanes (QgC hok) hy a1).symm
theorem Qix (x : Qx) (g : Int) : calm ((QbD x).2.2.1.getD g.toNat Qag) = calm ((QQ x).getD g.toNat Qag) := by
 unfold QbD
 dsimp only
 split
 ·unfold QdR
  by_cases e : (QV x).ring.toNat = g.toNat
  ·rw [e]
   by_cases hl : g.toNat < (QQ x).length
   ·rw [Qdp hl]; rfl
   ·rw [List.set_eq_of_length_le (by omega)]
  ·rw [Qcd e]
 ·rfl
theorem HK.stepP (h : HK x) : StepP (pgM x.1 (turnG x)) { (Mc.of (x.2.2.1.getD (turnG x).toNat Qag) x.2.1) with ring := -1, fall := -1 } (QV x) := by
 have := (QtE (Qem x.1 (turnG x)) (Mc.of (x.2.2.1.getD (turnG x).toNat Qag) x.2.1) (h.okS.d.2)).1
 exact this
theorem HK.stays (h : HK x) (hg : isG x.1 g = true) (hne : turnG x ≠ g) {P : Int} (h0 : 0 ≤ P) (hP : P ∈ ownL x.1 g ∨ ∃ y ∈ x.1.2.1, y.1 = g ∧ y.2.2.1 = P) : pg (QbD x).2.1 P = pg x.2.1 P :=
 Qtj (l := pgM x.1 (turnG x)) (m := x.2.1) (m' := (QV x).m) h.stepP.mem h0 (QrU h.ok hg h.turn.2.2.1 hne h0 hP)
theorem HK.ownP (h : HK x) (hg : isG x.1 g = true) {k : Nat} (hk : k < (ownL x.1 g).length) : 0 ≤ (ownL x.1 g).getD k 0 := ((h.ok.own1 _ (Qdw h.ok hg)).2.2 _ (QeN hk)).1
theorem Rl.next (h : Rl x s g) (hc : x.2.2.2.2.2.1 < 1000000) : Rl (QbD x) (if turnG x = g then Qua x s g else s) g := by
 have hok := h.hk.ok
 by_cases ht : turnG x = g
 ·rw [if_pos ht]
  have e1 : (QhK x s g).1 = x.2.2.1.getD g.toNat Qag := QsT h.hart rfl
  have e2 : (QhK x s g).2.1 = QcO (pgM x.1 g) := h.pages
  have hsim : Sim (pgM x.1 g) (QcO (pgM x.1 g)) x.2.1 (QhK x s g).2.2.1 := h.sim
  have key : Like (pgM x.1 g) (QcO (pgM x.1 g)) (QV x) (QgQ x s g) := by
   unfold QV QgQ
   rw [e1, e2, ht]
   exact Qjh (s := Mc.of (x.2.2.1.getD g.toNat Qag) x.2.1) hsim
  obtain ⟨k1, k2⟩ := key
  have eh : (QgQ x s g).hart = (QV x).hart := by rw [k1]; rfl
  refine ⟨h.hk.next hc, Qss g h.hk h.hs, h.hg, h.pages, ?_, fun k hk => ?_, fun y hy hyg => ?_⟩
  ·rw [Qix]
   have := (h.hk.guest h.hg).1
   show calm (QgQ x s g).hart = _
   rw [eh]
   unfold QQ
   rw [ht, Qdp (by omega)]
  ·have h5 := (QdN hok h.hg).2
   have hk : k < (ownL x.1 g).length := hk
   have q := k2.same k (by omega) (by rw [QlG hok h.hg hk]; exact h.hk.ownP h.hg hk)
   rw [QhW (Qem x.1 g) (by omega), QlG hok h.hg hk, if_pos (by exact h.hk.ownP h.hg hk)] at q
   exact q
  ·have hy : y ∈ x.1.2.1 := hy
   have b := QbG hok y hy
   have e5 : ((y.2.2.2.1.toNat : Nat) : Int) = y.2.2.2.1 := by have := b.2.1; omega
   have p0 := (Qcq hok y hy).2.1.1
   have q := k2.same y.2.2.2.1.toNat (by have := b.2.1; omega) (by rw [QgJ hok h.hg hy hyg]; exact p0)
   rw [QhW (Qem x.1 g) (by have := b.2.1; omega), QgJ hok h.hg hy hyg, if_pos (by exact p0)] at q
   rw [e5] at q
   exact q
 ·rw [if_neg ht]
  refine ⟨h.hk.next hc, h.hs, h.hg, h.pages, ?_, fun k hk => ?_, fun y hy hyg => ?_⟩
  ·rw [Qix]
   unfold QQ
   have a := Qaz.1 h.hg
   have b := Qaz.1 h.hk.turn.2.2.1
   rw [Qcd (by omega)]
   exact h.hart
  ·have hk : k < (ownL x.1 g).length := hk
   rw [← h.own k hk]
   exact h.hk.stays h.hg ht (h.hk.ownP h.hg hk) (.inl (QeN hk))
  ·rw [← h.gives y hy hyg]
   exact h.hk.stays h.hg ht (Qcq hok y hy).2.1.1 (.inr ⟨y, hy, hyg, rfl⟩)
end
structure Shut (p : PolD) (A : Int → Prop) : Prop where
 lane : ∀ y ∈ p.2.1, A y.2.1 → A y.1
 bell : ∀ b ∈ p.2.2.1, A b.2.1 → A b.1
structure Tw (x y : Qx) (A : Int → Prop) : Prop where
 hx : HK x
 hy : HK y
 pol : x.1 = y.1
 slot : x.2.2.2.1 = y.2.2.2.1
 left : x.2.2.2.2.1 = y.2.2.2.2.1
 clock : x.2.2.2.2.2.1 = y.2.2.2.2.2.1
 shut : Shut x.1 A
 hart : ∀ g, isG x.1 g = true → A g → x.2.2.1.getD g.toNat Qag = y.2.2.1.getD g.toNat Qag
 own : ∀ g, isG x.1 g = true → A g → ∀ P ∈ ownL x.1 g, pg x.2.1 P = pg y.2.1 P
 gives : ∀ l ∈ x.1.2.1, A l.1 → pg x.2.1 l.2.2.1 = pg y.2.1 l.2.2.1
section
variable {x y : Qx} {A : Int → Prop} {g : Int}
theorem QeY {m m' : List Int} : ∀ {l : List Int}, (∀ P ∈ l, pg m P = pg m' P) → Qaf m l = Qaf m' l
 | [], _ => rfl
 | a :: r, h => by
  have ih := QeY (l := r) fun P hP => h P (List.mem_cons_of_mem _ hP)
  unfold Qaf at ih ⊢
  rw [List.flatMap_cons, List.flatMap_cons, h a (by simp), ih]
theorem Qis {g : Int} : ∀ {r : List QA} {P : Int}, P ∈ Qaw g true r → ∃ l ∈ r, l.1 = g ∧ l.2.2.1 = P
 | [], _, h => by simp [Qaw] at h
 | l :: r, P, h => by
  simp only [Qaw] at h
  by_cases c : l.1 = g
  ·rw [if_pos c] at h
   rcases List.mem_cons.1 h with h | h
   ·exact ⟨l, by simp, c, by rw [h, if_pos trivial]⟩
   ·obtain ⟨z, hz, e⟩ := Qis h
    exact ⟨z, List.mem_cons_of_mem _ hz, e⟩
  ·rw [if_neg c] at h
   obtain ⟨z, hz, e⟩ := Qis h
   exact ⟨z, List.mem_cons_of_mem _ hz, e⟩
theorem Tw.views (h : Tw x y A) (hg : isG x.1 g = true) (ha : A g) : QbN x g = QbN y g := by
 unfold QbN
 rw [← h.pol, h.hart g hg ha, QeY (h.own g hg ha), QeY (m := x.2.1) (m' := y.2.1) (l := Qaw g true x.1.2.1) fun P hP => by
  obtain ⟨l, hl, e1, e2⟩ := Qis hP
  rw [← e2]
  exact h.gives l hl (e1 ▸ ha)]
theorem Tw.turnEq (h : Tw x y A) : turnG y = turnG x := by
 unfold turnG
 rw [← h.pol, ← h.slot]
theorem Qkh (x : Qx) (g : Int) (hne : Qcv x = true → (QV x).ring.toNat ≠ g.toNat) : (QbD x).2.2.1.getD g.toNat Qag = (QQ x).getD g.toNat Qag := by
 unfold QbD
 dsimp only
 split
 ·rename_i hr
  unfold QdR
  rw [Qcd (hne hr)]
 ·rfl
theorem Qgy {g : Int} (h : HK x) (hg : isG x.1 g = true) (hne : turnG x ≠ g) : (QQ x).getD g.toNat Qag = x.2.2.1.getD g.toNat Qag := by
 have a := Qaz.1 hg
 have b := Qaz.1 h.turn.2.2.1
 unfold QQ
 rw [Qcd (by omega)]
theorem Qmz (h : HK x) : (QQ x).getD (turnG x).toNat Qag = (QV x).hart := by
 have := (h.guest h.turn.2.2.1).1
 unfold QQ
 rw [Qdp (by omega)]
theorem Tw.sim (h : Tw x y A) (ha : A (turnG x)) : Sim (pgM x.1 (turnG x)) (pgM x.1 (turnG x)) x.2.1 y.2.1 := by
 have hok := h.hx.ok
 have ht := h.hx.turn.2.2.1
 have hl := Qem x.1 (turnG x)
 refine ⟨⟨hl, hl⟩, fun _ _ => rfl, fun _ _ => Iff.rfl, fun k hk => ⟨(QlH hok ht hk).2, (QlH hok ht hk).2⟩, fun i j _ _ => Qop hok ht i j, fun i j _ _ => Qop hok ht i j, fun k hk h0 => ?_⟩
 rcases QeR hok ht h0 with ⟨a1, a2⟩ | ⟨l, hl, a1, a2, a3⟩ | ⟨l, hl, a1, a2, a3⟩
 ·rw [a2]; exact h.own _ ht ha _ (QeN a1)
 ·rw [a3]; exact h.gives l hl (a1 ▸ ha)
 ·rw [a3]; exact h.gives l hl (h.shut.lane l hl (a1 ▸ ha))
theorem Tw.next (h : Tw x y A) (hc : x.2.2.2.2.2.1 < 1000000) : Tw (QbD x) (QbD y) A := by
 have hok := h.hx.ok
 have te := h.turnEq
 have hc' : y.2.2.2.2.2.1 < 1000000 := by rw [← h.clock]; exact hc
 have slots : QfF x.1.2.2.2.1 x.2.2.2.1 x.2.2.2.2.1 = QfF y.1.2.2.2.1 y.2.2.2.1 y.2.2.2.2.1 := by rw [h.pol, h.slot, h.left]
 have ok' := h.hy.ok
 have stay : ∀ g, isG x.1 g = true → turnG x ≠ g → ∀ P, 0 ≤ P → (P ∈ ownL x.1 g ∨ ∃ l ∈ x.1.2.1, l.1 = g ∧ l.2.2.1 = P) → pg x.2.1 P = pg y.2.1 P → pg (QbD x).2.1 P = pg (QbD y).2.1 P := fun g hg hne P h0 hP e => by
  rw [h.hx.stays hg hne h0 hP, h.hy.stays (by rw [← h.pol]; exact hg) (by rw [te]; exact hne) h0 (by rw [← h.pol]; exact hP)]
  exact e
 have own0 : ∀ g, isG x.1 g = true → ∀ P ∈ ownL x.1 g, 0 ≤ P := fun g hg P hP => ((hok.own1 _ (Qdw hok hg)).2.2 P hP).1
 by_cases ha : A (turnG x)
 ·have ht := h.hx.turn.2.2.1
  have key : Like (pgM x.1 (turnG x)) (pgM x.1 (turnG x)) (QV x) (QV y) := by
   unfold QV
   rw [te, ← h.pol, ← h.hart _ ht ha]
   exact Qjh (s := Mc.of (x.2.2.1.getD (turnG x).toNat Qag) x.2.1) (h.sim ha)
  obtain ⟨k1, k2⟩ := key
  have eh : (QV y).hart = (QV x).hart := by rw [k1]; rfl
  have er : (QV y).ring = (QV x).ring := by rw [k1]
  have eb : Qcv y = Qcv x := by unfold Qcv; rw [te, er, h.pol]
  have hh : ∀ g, isG x.1 g = true → A g → (QQ x).getD g.toNat Qag = (QQ y).getD g.toNat Qag := fun g hg ag => by
   by_cases e : turnG x = g
   ·subst e
    rw [Qmz h.hx, ← te, Qmz h.hy, eh]
   ·rw [Qgy h.hx hg e, Qgy h.hy (by rw [← h.pol]; exact hg) (by rw [te]; exact e)]
    exact h.hart g hg ag
  refine ⟨h.hx.next hc, h.hy.next hc', h.pol, congrArg (·.1) slots, congrArg (·.2) slots, congrArg (· + 1) h.clock, h.shut, fun g hg ag => ?_, fun g hg ag P hP => ?_, fun l hl al => ?_⟩
  ·have hg : isG x.1 g = true := hg
   show (if Qcv x = true then QdR (QV x).ring (QQ x) else QQ x).getD g.toNat Qag = (if Qcv y = true then QdR (QV y).ring (QQ y) else QQ y).getD g.toNat Qag
   rw [eb, er]
   by_cases c : Qcv x = true
   ·rw [if_pos c, if_pos c]
    unfold QdR
    by_cases e : (QV x).ring.toNat = g.toNat
    ·have hlt := (h.hx.guest hg).1
     have hlt' := (h.hy.guest (g := g) (by rw [← h.pol]; exact hg)).1
     rw [e, Qdp (by rw [QbS]; omega), Qdp (by rw [QbS]; omega), hh g hg ag]
    ·rw [Qcd e, Qcd e, hh g hg ag]
   ·rw [if_neg c, if_neg c, hh g hg ag]
  ·have hg : isG x.1 g = true := hg
   have hP : P ∈ ownL x.1 g := hP
   by_cases e : turnG x = g
   ·subst e
    obtain ⟨k, hk, ek⟩ := List.mem_iff_getElem.1 hP
    have p0 := h.hx.ownP hg hk
    have h5 := (QdN hok hg).2
    have q := k2.same k (by omega) (by rw [QlG hok hg hk]; exact p0)
    rw [QlG hok hg hk] at q
    dsimp only at q
    rw [gget hk, ek] at q
    exact q
   ·exact stay g hg e P (own0 g hg P hP) (.inl hP) (h.own g hg ag P hP)
  ·have hl : l ∈ x.1.2.1 := hl
   have b := Qcq hok l hl
   by_cases e : turnG x = l.1
   ·have q := k2.same l.2.2.2.1.toNat (by have := b.2.2.1; omega) (by rw [QgJ hok ht hl e.symm]; exact b.2.1.1)
    rw [QgJ hok ht hl e.symm] at q
    exact q
   ·exact stay l.1 b.1.1 e _ b.2.1.1 (.inr ⟨l, hl, rfl, rfl⟩) (h.gives l hl al)
 ·have ring : ∀ z : Qx, HK z → z.1 = x.1 → turnG z = turnG x → ∀ g, A g → isG x.1 g = true → Qcv z = true → (QV z).ring.toNat ≠ g.toNat := fun z hz ez et g ag hg hr e => by
   have hk := Qaz.1 (QlJ hz hr)
   have hg' := Qaz.1 hg
   have e : (QV z).ring = g := by omega
   unfold Qcv at hr
   obtain ⟨b, hb, eb⟩ := List.any_eq_true.1 hr
   unfold Qde at eb
   simp only [Bool.and_true, Bool.and_eq_true, beq_iff_eq] at eb
   rw [ez] at hb
   have := h.shut.bell b hb (by rw [← eb.2, e]; exact ag)
   rw [← eb.1, et] at this
   exact ha this
  refine ⟨h.hx.next hc, h.hy.next hc', h.pol, congrArg (·.1) slots, congrArg (·.2) slots, congrArg (· + 1) h.clock, h.shut, fun g hg ag => ?_, fun g hg ag P hP => ?_, fun l hl al => ?_⟩
  ·have hg : isG x.1 g = true := hg
   have hne : turnG x ≠ g := fun e => ha (e ▸ ag)
   have hg' : isG y.1 g = true := by rw [← h.pol]; exact hg
   rw [Qkh x g (ring x h.hx rfl rfl g ag hg), Qkh y g (ring y h.hy h.pol.symm te g ag hg), Qgy h.hx hg hne, Qgy h.hy hg' (by rw [te]; exact hne)]
   exact h.hart g hg ag
  ·have hg : isG x.1 g = true := hg
   have hP : P ∈ ownL x.1 g := hP
   exact stay g hg (fun e => ha (e ▸ ag)) P (own0 g hg P hP) (.inl hP) (h.own g hg ag P hP)
  ·have hl : l ∈ x.1.2.1 := hl
   have b := Qcq hok l hl
   exact stay l.1 b.1.1 (fun e => ha (e ▸ al)) _ b.2.1.1 (.inr ⟨l, hl, rfl, rfl⟩) (h.gives l hl al)
end
theorem Qfp {α β : Type} {f : Nat → α → Option β} : ∀ {m : List α} {i : Nat}, (∀ j x, x ∈ m → f j x = none) → scan f i m = none
 | [], _, _ => rfl
 | x :: r, i, h => by
  simp only [scan]
  rw [h i x (by simp)]
  exact Qfp fun j y hy => h j y (List.mem_cons_of_mem _ hy)
def imgH (own : List Int) : Nat → List Int → List Int → List Int
 | _, [], m => m
 | i, w :: r, m => imgH own (i + 1) r (m.set (8 * (own.getD (i / 8) 0).toNat + i % 8) (wd w))
def imgS : Nat → List Int → List Int → List Int
 | _, [], m => m
 | i, w :: r, m => imgS (i + 1) r (m.set i (wd w))
def QaN : List (List Int) → List (List Int) → List Int → List Int
 | own :: ro, im :: ri, m => QaN ro ri (imgH own 0 im m)
 | _, _, m => m
theorem Qiy (own : List Int) : ∀ (im : List Int) (i : Nat) (m : List Int), (imgH own i im m).length = m.length
 | [], _, _ => rfl
 | w :: r, i, m => by rw [imgH, Qiy own r]; simp
theorem Qhh : ∀ (L I : List (List Int)) (m : List Int), (QaN L I m).length = m.length
 | [], _, _ => by simp [QaN]
 | _ :: _, [], _ => by simp [QaN]
 | own :: ro, im :: ri, m => by rw [QaN, Qhh ro ri, Qiy]
theorem QqM {m : List Int} {i : Nat} {w : Int} (h : ∀ x ∈ m, WW x) (hw : WW w) : ∀ x ∈ m.set i w, WW x := fun x hx => by
 rcases List.mem_or_eq_of_mem_set hx with hx | rfl
 ·exact h x hx
 ·exact hw
theorem Qiz (own : List Int) : ∀ (im : List Int) (i : Nat) (m : List Int), (∀ x ∈ m, WW x) → ∀ x ∈ imgH own i im m, WW x
 | [], _, _, h => h
 | w :: r, i, m, h => Qiz own r (i + 1) _ (QqM h (Qaj w))
theorem QhF : ∀ (L I : List (List Int)) (m : List Int), (∀ x ∈ m, WW x) → ∀ x ∈ QaN L I m, WW x
 | [], _, _, h => by simpa [QaN] using h
 | _ :: _, [], _, h => by simpa [QaN] using h
 | own :: ro, im :: ri, m, h => QhF ro ri _ (Qiz own im 0 m h)
theorem Qgb {own : List Int} {P : Int} (h0 : 0 ≤ P) (hp : P ∉ own) (hown : ∀ x ∈ own, 0 ≤ x) : ∀ (im : List Int) (i : Nat) (m : List Int), i + im.length ≤ 8 * own.length → pg (imgH own i im m) P = pg m P
 | [], _, _, _ => rfl
 | w :: r, i, m, h => by
  simp only [List.length_cons] at h
  have hm : own.getD (i / 8) 0 ∈ own := QT (by omega)
  rw [imgH, Qgb h0 hp hown r _ _ (by omega), QiR (by omega) (hown _ hm) h0]
  exact if_neg fun e => hp (by rw [← e]; exact hm)
theorem Qpb {own : List Int} (nd : own.Nodup) (h0 : ∀ x ∈ own, 0 ≤ x) : ∀ (im : List Int) (i : Nat) (m s : List Int), i + im.length ≤ 8 * own.length → (∀ k, k < own.length → pg m (own.getD k 0) = pg s (k : Int)) →
  ∀ k, k < own.length → pg (imgH own i im m) (own.getD k 0) = pg (imgS i im s) (k : Int)
 | [], _, _, _, _, h => h
 | w :: r, i, m, s, hi, h => by
  simp only [List.length_cons] at hi
  refine Qpb nd h0 r (i + 1) _ _ (by omega) fun k hk => ?_
  have hi8 : i / 8 < own.length := by omega
  have hm : own.getD (i / 8) 0 ∈ own := QT hi8
  have hm' : own.getD k 0 ∈ own := QT hk
  have e : i = 8 * ((i / 8 : Nat) : Int).toNat + i % 8 := by omega
  rw [QiR (by omega) (h0 _ hm) (h0 _ hm')]
  conv => rhs; rw [e]
  rw [QiR (by omega) (by omega) (by omega), h k hk]
  by_cases c : i / 8 = k
  ·subst c
   rw [if_pos rfl, if_pos rfl]
  ·have ne : own.getD (i / 8) 0 ≠ own.getD k 0 := by
    rw [gget hi8, gget hk]
    intro e2
    have np := List.pairwise_iff_getElem.1 nd
    rcases Nat.lt_or_gt_of_ne c with d | d
    ·exact np _ _ hi8 hk d e2
    ·exact np _ _ hk hi8 d e2.symm
   rw [if_neg ne, if_neg (by omega)]
theorem Qds {P : Int} (hP : 0 ≤ P) : ∀ (L I : List (List Int)) (m : List Int), (∀ l ∈ L, P ∉ l ∧ ∀ x ∈ l, 0 ≤ x) → (∀ j (h1 : j < L.length) (h2 : j < I.length), I[j].length ≤ 8 * L[j].length) → pg (QaN L I m) P = pg m P
 | [], _, _, _, _ => by simp [QaN]
 | _ :: _, [], _, _, _ => by simp [QaN]
 | own :: ro, im :: ri, m, h, hl => by
  have h1 := h own (by simp)
  rw [QaN, Qds hP ro ri _ (fun l hm => h l (List.mem_cons_of_mem _ hm)) (fun j a b => hl (j + 1) (by simp; omega) (by simp; omega)), Qgb hP h1.1 h1.2 im 0 m (by have := hl 0 (by simp) (by simp); simpa using this)]
theorem QiG : ∀ (L I : List (List Int)) (m s : List Int), (∀ l ∈ L, l.Nodup ∧ ∀ x ∈ l, 0 ≤ x) → (L.Pairwise fun a b => ∀ x ∈ a, ∀ y ∈ b, x ≠ y) → (∀ j (h1 : j < L.length) (h2 : j < I.length), I[j].length ≤ 8 * L[j].length) →
  (∀ l ∈ L, ∀ k, k < l.length → pg m (l.getD k 0) = pg s (k : Int)) → ∀ j (h1 : j < L.length) (h2 : j < I.length) k, k < L[j].length → pg (QaN L I m) (L[j].getD k 0) = pg (imgS 0 I[j] s) (k : Int)
 | [], _, _, _, _, _, _, _, _, h1, _, _, _ => by simp at h1
 | _ :: _, [], _, _, _, _, _, _, _, _, h2, _, _ => by simp at h2
 | own :: ro, im :: ri, m, s, h, hp, hl, hz, 0, _, _, k, hk => by
  rw [List.pairwise_cons] at hp
  have h1 := h own (by simp)
  have hk : k < own.length := hk
  have l0 : im.length ≤ 8 * own.length := hl 0 (by simp) (by simp)
  have hm : own.getD k 0 ∈ own := QT hk
  show pg (QaN ro ri (imgH own 0 im m)) (own.getD k 0) = pg (imgS 0 im s) (k : Int)
  rw [Qds (h1.2 _ hm) ro ri _ (fun l hl' => ⟨fun c => hp.1 l hl' _ hm _ c rfl, (h l (List.mem_cons_of_mem _ hl')).2⟩) (fun j a b => hl (j + 1) (by simp; omega) (by simp; omega))]
  exact Qpb h1.1 h1.2 im 0 m s (by omega) (hz own (by simp)) k hk
 | own :: ro, im :: ri, m, s, h, hp, hl, hz, j + 1, h1, h2, k, hk => by
  rw [List.pairwise_cons] at hp
  have l0 : im.length ≤ 8 * own.length := hl 0 (by simp) (by simp)
  simp only [List.length_cons] at h1 h2
  have ho := h own (by simp)
  exact QiG ro ri (imgH own 0 im m) s (fun l hl' => h l (List.mem_cons_of_mem _ hl')) hp.2 (fun j a b => hl (j + 1) (by simp; omega) (by simp; omega)) (fun l hl' k hk => by
   have hm : l.getD k 0 ∈ l := QT hk
   rw [Qgb ((h l (List.mem_cons_of_mem _ hl')).2 _ hm) (fun c => hp.1 l hl' _ c _ hm rfl) ho.2 im 0 m (by omega)]
   exact hz l (List.mem_cons_of_mem _ hl') k hk) j (by omega) (by omega) k hk
def QfA (q : List Int) : QY := (List.replicate 16 0, 0, List.replicate 11 0, false, false, false, 0, q, [], ())
def Qdk (p : PolD) (I J : List (List Int)) : Qx := (p, QaN p.1 I (List.replicate 192 0), J.map QfA, 0, (p.2.2.2.1.getD 0 (0, 0, ())).2.1, 0, ())
theorem Qry {q : List Int} (h : OkQ q) : hartM (QfA q) = 0 := by
 unfold hartM QfA
 dsimp only
 rw [if_pos ⟨by simp, by simp, by simp⟩, if_pos ⟨by decide, by decide, by decide, Qal.2 h.words, by decide⟩, if_pos ⟨h.len, by simp⟩, if_pos (by decide), if_pos (by decide)]
theorem QkR {p : PolD} (hok : OkPol p) : Qbj p 0 = (0, (p.2.2.2.1.getD 0 (0, 0, ())).2.1) := by
 unfold Qbj
 dsimp only
 rw [Int.zero_emod, Qnr (QdT hok) hok.plan.1]
 rfl
theorem QqH (n : Nat) : ∀ x ∈ List.replicate n (0 : Int), WW x := fun x hx => by
 rw [(List.mem_replicate.1 hx).2]; unfold WW; omega
theorem Qic {p : PolD} {I J : List (List Int)} (hp : polM p = 0) (hj : J.length = p.1.length) (hq : ∀ q ∈ J, OkQ q) : HK (Qdk p I J) := by
 have hok := QdM hp
 refine ⟨hp, ⟨?_, ?_⟩, ?_, fun h hh => ?_, by show (0 : Int) ≤ 0 ∧ (0 : Int) ≤ 1000000; omega, ?_, ?_⟩
 ·show QN (QaN p.1 I (List.replicate 192 0)) = 0
  unfold QN
  rw [Qhh, if_pos (by simp), if_pos (Qal.2 (QhF _ _ _ (QqH _)))]
 ·show (QaN p.1 I (List.replicate 192 0)).length = 192
  rw [Qhh]; simp
 ·show (J.map QfA).length = p.1.length
  rw [List.length_map]; exact hj
 ·obtain ⟨q, hm, rfl⟩ := List.mem_map.1 (show h ∈ J.map QfA from hh)
  exact Qry (hq q hm)
 ·show (0 : Int) = (Qbj p 0).1
  rw [QkR hok]
 ·show (p.2.2.2.1.getD 0 (0, 0, ())).2.1 = (Qbj p 0).2
  rw [QkR hok]
theorem Qpl {n : Nat} {P : Int} (h0 : 0 ≤ P) (h : 8 * P + 8 ≤ (n : Int)) : pg (List.replicate n 0) P = List.replicate 8 0 := by
 unfold pg
 rw [List.drop_replicate, List.take_replicate]
 congr 1
 omega
theorem bdLt {n x : Int} (h : Bd n x) (hn : 1 ≤ n) : 0 ≤ x ∧ x < n := by unfold Bd at h; omega
structure OwnI (L : List (List Int)) (page : Int) : Prop where
 one : ∀ l ∈ L, 1 ≤ l.length ∧ l.length ≤ 3
 up : L.flatten.Pairwise (· < ·)
 bd : ∀ x ∈ L.flatten, 0 ≤ x ∧ x < page
 top : 0 ≤ page ∧ page ≤ 2 + 3 * (L.length : Int)
theorem OwnI.snoc {L : List (List Int)} {page : Int} (h : OwnI L page) {own : List Int} {K : Nat} (hK : 1 ≤ K ∧ K ≤ 3) (hl : own.length = K) (hu : own.Pairwise (· < ·)) (hb : ∀ x ∈ own, page ≤ x ∧ x < page + (K : Int)) : OwnI (L ++ [own]) (page + (K : Int)) := by
 have hp := h.top
 have ef : (L ++ [own]).flatten = L.flatten ++ own := by simp
 refine ⟨fun l hm => ?_, ?_, fun x hx => ?_, ?_⟩
 ·rcases List.mem_append.1 hm with hm | hm
  ·exact h.one l hm
  ·rw [List.mem_singleton.1 hm]; omega
 ·rw [ef, List.pairwise_append]
  exact ⟨h.up, hu, fun a ha b hb' => by have := (h.bd a ha).2; have := (hb b hb').1; omega⟩
 ·rw [ef] at hx
  rcases List.mem_append.1 hx with hx | hx
  ·have := h.bd x hx; omega
  ·have := hb x hx; omega
 ·rw [List.length_append, List.length_singleton]; omega
theorem QjX : ∀ {l seen : List Int}, l.Nodup → (∀ x ∈ l, x ∉ seen) → dupM seen l = false
 | [], _, _, _ => rfl
 | x :: r, seen, h, hs => by
  rw [List.nodup_cons] at h
  simp only [dupM, Bool.or_eq_false_iff]
  refine ⟨by simpa using hs x (by simp), QjX h.2 fun y hy hm => ?_⟩
  rcases List.mem_append.1 hm with hm | hm
  ·exact hs y (List.mem_cons_of_mem _ hy) hm
  ·rw [List.mem_singleton.1 hm] at hy; exact h.1 hy
theorem OwnI.owns {L : List (List Int)} {page : Int} (h : OwnI L page) (hl : 1 ≤ L.length ∧ L.length ≤ 3) : QdO L = 0 := by
 have hp := h.top
 have e : scan (fun (_ : Nat) l => Go.Proofs.YtmoninjbahccoaaGreatDoor.own1 l) 0 L = none := Qfp fun _ l hm => by
  have := h.one l hm
  unfold Go.Proofs.YtmoninjbahccoaaGreatDoor.own1
  rw [if_pos (by omega)]
  refine Qfp fun _ x hx => ?_
  have := h.bd x (List.mem_flatten.2 ⟨l, hm, hx⟩)
  rw [if_pos (QdE.2 (by omega))]
 unfold QdO
 rw [if_pos hl, e, QjX (h.up.imp fun h => Int.ne_of_lt h) (by simp)]
 rfl
theorem QuB {X p : PolD} {s : SrcD} {page g : Int} (K : Nat) (hp : 0 ≤ page ∧ page ≤ 1000) (hK : K ≤ 10) :
  Dr (L_m_8 (((), ((), ((), (page, (g, (([] : List Int), ((K : Int), ()))))))), ((X, (p, (s, ()))), ()))) fun o => ∃ own : List Int, o = .inl (((), ((), ((), (page + (K : Int), (g, (own, ())))))), ((X, (p, (s, ()))), ())) ∧ own.length = K ∧ own.Pairwise (· < ·) ∧ ∀ x ∈ own, page ≤ x ∧ x < page + (K : Int) := by
 refine Qap (fun m u => ∃ own : List Int, u = (((), ((), ((), (page + (own.length : Int), (g, (own, ((m : Int), ()))))))), ((X, (p, (s, ()))), ())) ∧ own.length + m = K ∧ own.Pairwise (· < ·) ∧ ∀ x ∈ own, page ≤ x ∧ x < page + (own.length : Int)) ?_ K _ ⟨[], by simp, by simp, by simp, by simp⟩ (by rw [QK]; omega)
 rintro rec m _ ⟨own, rfl, hm, hu, hb⟩ ih
 unfold l_m_8
 dsimp only
 by_cases c : 0 < m
 ·rw [if_pos (by rw [QM]; omega)]
  refine Dr.guard (by simp; omega) ?_
  rw [Qu (by omega) (by omega), Qu (by omega) (by omega)]
  refine ih (m - 1) _ (by omega) ⟨own ++ [page + (own.length : Int)], ?_, by simp; omega, ?_, fun x hx => ?_⟩
  ·rw [List.length_append, List.length_singleton, show page + (own.length : Int) + 1 = page + ((own.length + 1 : Nat) : Int) by omega, show ((m : Int) - 1) = ((m - 1 : Nat) : Int) by omega]
  ·rw [List.pairwise_append]
   exact ⟨hu, by simp, fun a ha b hb' => by rw [List.mem_singleton.1 hb']; exact (hb a ha).2⟩
  ·rw [List.length_append, List.length_singleton]
   rcases List.mem_append.1 hx with hx | hx
   ·have := hb x hx; omega
   ·rw [List.mem_singleton.1 hx]; omega
 ·obtain rfl : m = 0 := by omega
  rw [if_neg (by rw [QM]; omega)]
  have : own.length = K := by omega
  subst this
  exact Dr.ret ⟨own, rfl, rfl, hu, hb⟩
theorem QuA {X : PolD} {s : SrcD} {k page : Int} (G : Nat) (hG : 1 ≤ G ∧ G ≤ 3) (hp : 0 ≤ page ∧ page ≤ 2) (hs : Sr s k) (hk : k ≤ 1000000) :
  Dr (L_m_4 (((), ((), ((), (page, ((G : Int), ()))))), ((X, ((([] : List (List Int)), (([] : List QA), (([] : List TwoD), (([] : List TwoD), ())))), (s, ()))), ()))) fun o => ∃ (L : List (List Int)) (page' : Int) (s' : SrcD),
   o = .inl (((), ((), ((), (page', ())))), ((X, ((L, (([] : List QA), (([] : List TwoD), (([] : List TwoD), ())))), (s', ()))), ())) ∧ Sr s' (k + 3) ∧ L.length = G ∧ OwnI L page' := by
 have hk0 := hs.pos
 refine Qap (fun m u => ∃ (L : List (List Int)) (page' : Int) (s' : SrcD), u = (((), ((), ((), (page', ((m : Int), ()))))), ((X, ((L, (([] : List QA), (([] : List TwoD), (([] : List TwoD), ())))), (s', ()))), ())) ∧ Sr s' (k + (G : Int) - (m : Int)) ∧ L.length + m = G ∧ OwnI L page') ?_ G _
  ⟨[], page, s, rfl, hs.le (by omega), by simp, ⟨by simp, by simp, by simp, by simp; omega⟩⟩ (by rw [QK]; omega)
 rintro rec m _ ⟨L, pa, s', rfl, hs', hl, hI⟩ ih
 unfold l_m_4
 dsimp only
 have hpa := hI.top
 by_cases c : 0 < m
 ·rw [if_pos (by rw [QM]; omega)]
  refine (Qbt hs' (by omega) _).bind fun r6 h6 => ?_
  have hb := bdLt h6.2 (by omega)
  have e : IntKind.i64.wrap (1 + (r6.1.1 : Int)) = ((r6.1.1.toNat + 1 : Nat) : Int) := by rw [Qu (by omega) (by omega)]; omega
  rw [e]
  refine (QuB (r6.1.1.toNat + 1) (by omega) (by omega)).bind fun z hz => ?_
  obtain ⟨own, rfl, ho, hu, hbd⟩ := hz
  dsimp only
  refine Dr.guard (by simp; omega) ?_
  rw [Qu (by omega) (by omega)]
  refine ih (m - 1) _ (by omega) ⟨L ++ [own], pa + ((r6.1.1.toNat + 1 : Nat) : Int), r6.2.1, ?_, h6.1.le (by omega), by simp; omega, hI.snoc (by omega) ho hu hbd⟩
  rw [show ((m : Int) - 1) = ((m - 1 : Nat) : Int) by omega]
 ·obtain rfl : m = 0 := by omega
  rw [if_neg (by rw [QM]; omega)]
  exact Dr.ret ⟨L, pa, s', rfl, hs'.le (by omega), by omega, hI⟩
theorem Qtv {X : PolD} {L : List (List Int)} {s : SrcD} {k page : Int} (hL : QdO L = 0) (hl : 1 ≤ L.length ∧ L.length ≤ 3) (hl2 : ∀ l ∈ L, l.length ≤ 1048576) (hp : 0 ≤ page ∧ page ≤ 100) (K : Nat) (hK : K ≤ 3) (hs : Sr s k) (hk : k ≤ 1000000) :
  Dr (L_m_15 (((), ((), ((), (page, (((L.length : Nat) : Int), ((K : Int), ())))))), ((X, ((L, (([] : List QA), (([] : List TwoD), (([] : List TwoD), ())))), (s, ()))), ()))) fun o => ∃ (ls : List QA) (s' : SrcD),
   o = .inl (((), ((), ((), (((L.length : Nat) : Int), ())))), ((X, ((L, (ls, (([] : List TwoD), (([] : List TwoD), ())))), (s', ()))), ())) ∧ Sr s' (k + 12) ∧ ls.length ≤ 3 ∧ QbF (L, ls, [], [], ()) = none := by
 have hk0 := hs.pos
 refine Qap (fun m u => ∃ (ls : List QA) (pa : Int) (s' : SrcD), u = (((), ((), ((), (pa, (((L.length : Nat) : Int), ((m : Int), ())))))), ((X, ((L, (ls, (([] : List TwoD), (([] : List TwoD), ())))), (s', ()))), ())) ∧ Sr s' (k + 4 * (3 - (m : Int))) ∧ ls.length + m ≤ 3 ∧ (0 ≤ pa ∧ pa + (m : Int) ≤ 103) ∧ QbF (L, ls, [], [], ()) = none) ?_ K _
  ⟨[], page, s, rfl, hs.le (by omega), by simp; omega, by omega, rfl⟩ (by rw [QK]; omega)
 rintro rec m _ ⟨ls, pa, s', rfl, hs', hm, hpa, hI⟩ ih
 unfold l_m_15
 dsimp only
 by_cases c : 0 < m
 ·rw [if_pos (by rw [QM]; omega)]
  refine Dr.guard (by simp; omega) ?_
  refine (Qbt hs' (by omega) _).bind fun r26 h26 => (Qbt h26.1 (by omega) _).bind fun r27 h27 => (Qbt h27.1 (by omega) _).bind fun r28 h28 => (Qbt h28.1 (by omega) _).bind fun r30 h30 => ?_
  have em : ((m : Int) - 1) = ((m - 1 : Nat) : Int) := by omega
  dsimp only [List.nil_append]
  refine Dr.guard (by simp; omega) ?_
  rw [Qu (n := pa + 1) (by omega) (by omega), Qu (n := (m : Int) - 1) (by omega) (by omega)]
  generalize hx : ((r26.1.1, (r27.1.1, (pa, (IntKind.i64.wrap (5 + r28.1.1), (IntKind.i64.wrap (5 + r30.1.1), ()))))) : QA) = x
  have hlen : (ls ++ [x]).length = ls.length + 1 := by simp
  have skip : Dr (rec (((), ((), ((), (pa, (((L.length : Nat) : Int), ((m : Int) - 1, ())))))), ((X, ((L, (ls, (([] : List TwoD), (([] : List TwoD), ())))), (r30.2.1, ()))), ()))) fun o => ∃ (ls : List QA) (s' : SrcD),
    o = .inl (((), ((), ((), (((L.length : Nat) : Int), ())))), ((X, ((L, (ls, (([] : List TwoD), (([] : List TwoD), ())))), (s', ()))), ())) ∧ Sr s' (k + 12) ∧ ls.length ≤ 3 ∧ QbF (L, ls, [], [], ()) = none :=
   ih (m - 1) _ (by omega) ⟨ls, pa, r30.2.1, by rw [em], h30.1.le (by omega), by omega, by omega, hI⟩
  refine Dr.step (Qnm (L, ls ++ [x], [], [], ()) (by dsimp only; omega) hl2) (Dr.ite (fun _ => ?_) fun _ => skip)
  refine Dr.step (QlM (L, ls ++ [x], [], [], ()) (by dsimp only; omega) hl2 (by dsimp only; omega)) (Dr.ite (fun h0 => ?_) fun _ => skip)
  refine ih (m - 1) _ (by omega) ⟨ls ++ [x], pa + 1, r30.2.1, by rw [em], h30.1.le (by omega), by omega, by omega, ?_⟩
  dsimp only at h0
  rw [if_pos (by simp; omega)] at h0
  cases hM : QbF (L, ls ++ [x], [], [], ()) with
  | none => rfl
  | some c' =>
   rw [hM] at h0
   exact absurd (by simpa using h0) (Qkm hM)
 ·obtain rfl : m = 0 := by omega
  rw [if_neg (by rw [QM]; omega)]
  exact Dr.ret ⟨ls, s', rfl, hs'.le (by omega), by omega, hI⟩
theorem Qtw {X : PolD} {L : List (List Int)} {ls : List QA} {s : SrcD} {k : Int} (hl : 1 ≤ L.length ∧ L.length ≤ 3) (K : Nat) (hK : K ≤ 3) (hs : Sr s k) (hk : k ≤ 1000000) :
  Dr (L_m_23 (((), ((), ((), (((L.length : Nat) : Int), ((K : Int), ()))))), ((X, ((L, (ls, (([] : List TwoD), (([] : List TwoD), ())))), (s, ()))), ()))) fun o => ∃ (bs : List TwoD) (s' : SrcD),
   o = .inl (((), ((), ((), (((L.length : Nat) : Int), ())))), ((X, ((L, (ls, (bs, (([] : List TwoD), ())))), (s', ()))), ())) ∧ Sr s' (k + 6) ∧ bs.length ≤ 1 ∧ ∀ b ∈ bs, (0 ≤ b.1 ∧ b.1 < (L.length : Int)) ∧ (0 ≤ b.2.1 ∧ b.2.1 < (L.length : Int)) ∧ b.1 ≠ b.2.1 := by
 have hk0 := hs.pos
 refine Qap (fun m u => ∃ (bs : List TwoD) (s' : SrcD), u = (((), ((), ((), (((L.length : Nat) : Int), ((m : Int), ()))))), ((X, ((L, (ls, (bs, (([] : List TwoD), ())))), (s', ()))), ())) ∧ Sr s' (k + 2 * (3 - (m : Int))) ∧ m ≤ 3 ∧ bs.length ≤ 1 ∧ ∀ b ∈ bs, (0 ≤ b.1 ∧ b.1 < (L.length : Int)) ∧ (0 ≤ b.2.1 ∧ b.2.1 < (L.length : Int)) ∧ b.1 ≠ b.2.1) ?_ K _
  ⟨[], s, rfl, hs.le (by omega), hK, by simp, by simp⟩ (by rw [QK]; omega)
 rintro rec m _ ⟨bs, s', rfl, hs', hm, hb1, hI⟩ ih
 unfold l_m_23
 dsimp only
 by_cases c : 0 < m
 ·rw [if_pos (by rw [QM]; omega)]
  refine (Qbt hs' (by omega) _).bind fun r44 h44 => (Qbt h44.1 (by omega) _).bind fun r45 h45 => ?_
  have em : ((m : Int) - 1) = ((m - 1 : Nat) : Int) := by omega
  have b1 := bdLt h44.2 (by omega)
  have b2 := bdLt h45.2 (by omega)
  rw [Qu (n := (m : Int) - 1) (by omega) (by omega)]
  have skip : ∀ {Q}, (∀ x, (∃ (bs : List TwoD) (s' : SrcD), x = (((), ((), ((), (((L.length : Nat) : Int), (((m - 1 : Nat) : Int), ()))))), ((X, ((L, (ls, (bs, (([] : List TwoD), ())))), (s', ()))), ())) ∧ Sr s' (k + 2 * (3 - ((m - 1 : Nat) : Int))) ∧ m - 1 ≤ 3 ∧ bs.length ≤ 1 ∧ ∀ b ∈ bs, (0 ≤ b.1 ∧ b.1 < (L.length : Int)) ∧ (0 ≤ b.2.1 ∧ b.2.1 < (L.length : Int)) ∧ b.1 ≠ b.2.1) → Dr (rec x) Q) → Dr (rec (((), ((), ((), (((L.length : Nat) : Int), ((m : Int) - 1, ()))))), ((X, ((L, (ls, (bs, (([] : List TwoD), ())))), (r45.2.1, ()))), ()))) Q := fun h =>
   h _ ⟨bs, r45.2.1, by rw [em], h45.1.le (by omega), by omega, hb1, hI⟩
  refine Dr.ite (fun hne => Dr.ite (fun h0 => Dr.guard (by simp; omega) ?_) fun _ => skip fun x hx => ih (m - 1) x (by omega) hx) fun _ => skip fun x hx => ih (m - 1) x (by omega) hx
  rw [QM] at h0
  have e0 : bs = [] := List.eq_nil_of_length_eq_zero (by omega)
  subst e0
  refine ih (m - 1) _ (by omega) ⟨[(r44.1.1, (r45.1.1, ()))], r45.2.1, by rw [em]; rfl, h45.1.le (by omega), by omega, by simp, fun b hb => ?_⟩
  rw [List.mem_singleton.1 hb]
  exact ⟨b1, b2, by simpa using hne⟩
 ·obtain rfl : m = 0 := by omega
  rw [if_neg (by rw [QM]; omega)]
  exact Dr.ret ⟨bs, s', rfl, hs'.le (by omega), hb1, hI⟩
theorem Qtx {X : PolD} {L : List (List Int)} {ls : List QA} {bs : List TwoD} {s : SrcD} {k : Int} (hl : 1 ≤ L.length ∧ L.length ≤ 3) (K : Nat) (hK : K ≤ 4) (hs : Sr s k) (hk : k ≤ 1000000) :
  Dr (L_m_29 (((), ((), ((), (((L.length : Nat) : Int), ((K : Int), ()))))), ((X, ((L, (ls, (bs, (([] : List TwoD), ())))), (s, ()))), ()))) fun o => ∃ (pl : List TwoD) (s' : SrcD),
   o = .inl (((), ((), ())), ((X, ((L, (ls, (bs, (pl, ())))), (s', ()))), ())) ∧ Sr s' (k + 8) ∧ pl.length = K ∧ ∀ b ∈ pl, (0 ≤ b.1 ∧ b.1 < (L.length : Int)) ∧ 1 ≤ b.2.1 ∧ b.2.1 ≤ 9 := by
 have hk0 := hs.pos
 refine Qap (fun m u => ∃ (pl : List TwoD) (s' : SrcD), u = (((), ((), ((), (((L.length : Nat) : Int), ((m : Int), ()))))), ((X, ((L, (ls, (bs, (pl, ())))), (s', ()))), ())) ∧ Sr s' (k + 2 * (4 - (m : Int))) ∧ pl.length + m = K ∧ ∀ b ∈ pl, (0 ≤ b.1 ∧ b.1 < (L.length : Int)) ∧ 1 ≤ b.2.1 ∧ b.2.1 ≤ 9) ?_ K _
  ⟨[], s, rfl, hs.le (by omega), by simp, by simp⟩ (by rw [QK]; omega)
 rintro rec m _ ⟨pl, s', rfl, hs', hm, hI⟩ ih
 unfold l_m_29
 dsimp only
 by_cases c : 0 < m
 ·rw [if_pos (by rw [QM]; omega)]
  refine (Qbt hs' (by omega) _).bind fun r57 h57 => (Qbt h57.1 (by omega) _).bind fun r58 h58 => ?_
  have em : ((m : Int) - 1) = ((m - 1 : Nat) : Int) := by omega
  have b1 := bdLt h57.2 (by omega)
  have b2 := bdLt h58.2 (by omega)
  rw [Qu (n := (m : Int) - 1) (by omega) (by omega), Qu (n := 1 + (r58.1.1 : Int)) (by omega) (by omega)]
  refine Dr.guard (by simp; omega) ?_
  refine ih (m - 1) _ (by omega) ⟨pl ++ [(r57.1.1, (1 + (r58.1.1 : Int), ()))], r58.2.1, by rw [em], h58.1.le (by omega), by simp; omega, fun b hb => ?_⟩
  rcases List.mem_append.1 hb with hb | hb
  ·exact hI b hb
  ·rw [List.mem_singleton.1 hb]; exact ⟨b1, by dsimp only; omega, by dsimp only; omega⟩
 ·obtain rfl : m = 0 := by omega
  rw [if_neg (by rw [QM]; omega)]
  exact Dr.ret ⟨pl, s', rfl, hs'.le (by omega), by omega, hI⟩
theorem QqJ {L : List (List Int)} {ls : List QA} {bs pl : List TwoD} (h1 : QdO L = 0) (h2 : ls.length ≤ 3) (h3 : QbF (L, ls, [], [], ()) = none) (h4 : bs.length ≤ 1)
  (h5 : ∀ b ∈ bs, (0 ≤ b.1 ∧ b.1 < (L.length : Int)) ∧ (0 ≤ b.2.1 ∧ b.2.1 < (L.length : Int)) ∧ b.1 ≠ b.2.1) (h6 : 1 ≤ pl.length ∧ pl.length ≤ 4) (h7 : ∀ b ∈ pl, (0 ≤ b.1 ∧ b.1 < (L.length : Int)) ∧ 1 ≤ b.2.1 ∧ b.2.1 ≤ 9) : polM (L, ls, bs, pl, ()) = 0 := by
 have e1 : QbF (L, ls, bs, pl, ()) = none := h3
 have e2 : QfT (L, ls, bs, pl, ()) = none := by
  unfold QfT
  match bs, h4, h5 with
  | [], _, _ => rfl
  | [b], _, h5 =>
   have := h5 b (by simp)
   simp only [scan]
   unfold Qht Qcu
   rw [if_pos (Qaz.2 this.1), if_pos (Qaz.2 this.2.1), if_neg this.2.2]
   rfl
 have e3 : QkB (L, ls, bs, pl, ()) = 0 := by
  unfold QkB
  rw [if_pos (by dsimp only; omega), Qfp]
  intro _ b hb
  have := h7 b hb
  rw [if_pos (Qaz.2 this.1), if_pos (QdE.2 (by omega))]
 unfold polM
 rw [if_neg (by simpa using h1), if_pos (by dsimp only; omega), e1]
 dsimp only
 rw [e2]
 exact e3
theorem Qrk {n x : Int} (h : Bd n x) : ∃ K : Nat, x = (K : Int) ∧ ((K : Int) < n ∨ K = 0) := ⟨x.toNat, by unfold Bd at h; omega, by unfold Bd at h; omega⟩
theorem Qob {s : SrcD} {k : Int} (hs : Sr s k) (hk : k ≤ 900000) : Dr (F_m (s, ())) fun r => Sr r.2.1 (k + 100) ∧ polM r.1.1 = 0 := by
 have hk0 := hs.pos
 unfold F_m
 refine (Qbt hs (by omega) _).bind fun r1 h1 => (Quy h1.1 (by omega) _ _).bind fun r2 h2 => ?_
 have b1 := bdLt h1.2 (by omega)
 obtain ⟨G, eG, hG⟩ : ∃ G : Nat, (r2.1.1 : Int) = (G : Int) ∧ 1 ≤ G ∧ G ≤ 3 := by
  have key : ∀ v : Int, v ∈ [(2 : Int), 3, 3, 1] → ∃ G : Nat, v = (G : Int) ∧ 1 ≤ G ∧ G ≤ 3 := fun v hv => by
   simp only [List.mem_cons, List.not_mem_nil, or_false] at hv
   exact ⟨v.toNat, by omega, by omega⟩
  exact key _ h2.2
 rw [eG]
 refine (QuA G hG (by omega) h2.1 (by omega)).bind fun z hz => ?_
 obtain ⟨L, page, s1, rfl, hs1, hl, hI⟩ := hz
 dsimp only
 have hl3 : 1 ≤ L.length ∧ L.length ≤ 3 := by omega
 have hO := hI.owns hl3
 have hp := hI.top
 have hl2 : ∀ l ∈ L, l.length ≤ 1048576 := fun l hm => by have := hI.one l hm; omega
 refine (Qbt hs1 (by omega) _).bind fun r18 h18 => ?_
 obtain ⟨K1, e1, c1⟩ := Qrk h18.2
 rw [e1]
 refine (Qtv hO hl3 hl2 (by omega) K1 (by omega) h18.1 (by omega)).bind fun z hz => ?_
 obtain ⟨ls, s2, rfl, hs2, hls, hlm⟩ := hz
 dsimp only
 refine (Qbt hs2 (by omega) _).bind fun r41 h41 => ?_
 obtain ⟨K2, e2, c2⟩ := Qrk h41.2
 rw [e2]
 refine (Qtw hl3 K2 (by omega) h41.1 (by omega)).bind fun z hz => ?_
 obtain ⟨bs, s3, rfl, hs3, hbs, hbm⟩ := hz
 dsimp only
 refine (Qbt hs3 (by omega) _).bind fun r53 h53 => ?_
 obtain ⟨K3, e3, c3⟩ := Qrk h53.2
 rw [e3, Qu (by omega) (by omega), show (1 : Int) + (K3 : Int) = ((K3 + 1 : Nat) : Int) by omega]
 refine (Qtx hl3 (K3 + 1) (by omega) h53.1 (by omega)).bind fun z hz => ?_
 obtain ⟨pl, s4, rfl, hs4, hpl, hpm⟩ := hz
 exact Dr.ret ⟨hs4.le (by omega), QqJ hO hls hlm hbs hbm (by omega) hpm⟩
def Fit (p : PolD) (I : List (List Int)) : Prop := I.length = p.1.length ∧ ∀ j (h1 : j < p.1.length) (h2 : j < I.length), I[j].length ≤ 8 * p.1[j].length
theorem Qqe {p : PolD} {s : SrcD} {k : Int} (hok : OkPol p) (hs : Sr s k) (hk : k ≤ 1000000) : Dr (F_w (s, p, ())) fun r => Sr r.2.1 (k + 4000) ∧ Fit p r.1.1 := by
 have hk0 := hs.pos
 have h3 := hok.own
 unfold F_w
 have key : Dr (L_w_3 (((), ((), (([] : List (List Int)), ((0 : Int), ())))), (((p.1, (p.2.1, (p.2.2.1, (p.2.2.2.1, ())))), (s, ())), ()))) fun o => ∃ (I : List (List Int)) (s' : SrcD), o = .inl ((I, ()), ((s', ()), ())) ∧ Sr s' (k + 4000) ∧ Fit p I := by
  refine Qap (fun m u => ∃ (I : List (List Int)) (s' : SrcD), u = (((), ((), (I, (((I.length : Nat) : Int), ())))), ((p, (s', ())), ())) ∧ Sr s' (k + 1100 * (I.length : Int)) ∧ I.length + m = p.1.length ∧ ∀ j (h1 : j < p.1.length) (h2 : j < I.length), I[j].length ≤ 8 * p.1[j].length) ?_ p.1.length _
   ⟨[], s, rfl, hs.le (by simp), by simp, fun j _ h2 => by simp at h2⟩ (by rw [QK]; omega)
  rintro rec m _ ⟨I, s', rfl, hs', hm, hI⟩ ih
  unfold l_w_3
  dsimp only
  by_cases c : I.length < p.1.length
  ·have hm0 : p.1[I.length] ∈ p.1 := List.getElem_mem c
   have h5 := hok.own1 _ hm0
   rw [if_pos (lt_t c), if_pos nat0, Qr c]
   rw [Qu (n := (((p.1[I.length]).length : Nat) : Int) * 8) (by omega) (by omega), Qu (n := (((p.1[I.length]).length : Nat) : Int) * 8 + 1) (by omega) (by omega)]
   refine (Qbt hs' (by omega) _).bind fun r9 h9 => ?_
   have b9 := bdLt h9.2 (by omega)
   refine (Qtc h9.1 (by omega) r9.1.1 b9.1 (by omega)).bind fun r10 h10 => ?_
   refine Dr.guard (by simp; omega) ?_
   rw [QW (by omega)]
   refine ih (m - 1) _ (by omega) ⟨I ++ [r10.1.1], r10.2.1, by simp, h10.1.le (by simp; omega), by simp; omega, fun j h1 h2 => ?_⟩
   by_cases cj : j < I.length
   ·rw [List.getElem_append_left cj]; exact hI j h1 cj
   ·have : j = I.length := by simp at h2; omega
    subst this
    rw [List.getElem_concat_length (by rfl)]
    have := h10.2
    omega
  ·rw [if_neg (lt_f c)]
   exact Dr.ret ⟨I, s', rfl, hs'.le (by omega), by omega, hI⟩
 refine key.bind fun z hz => ?_
 obtain ⟨I, s', rfl, hs', hI⟩ := hz
 exact Dr.ret ⟨hs', hI⟩
def FitQ (p : PolD) (J : List (List Int)) : Prop := J.length = p.1.length ∧ ∀ q ∈ J, OkQ q
theorem Qtm (n : Nat) : OkQ ([(5 : Int), 6, 7].take n) := ⟨by rw [List.length_take]; simp; omega, fun w hw => by
 have := List.mem_of_mem_take hw
 simp only [List.mem_cons, List.not_mem_nil, or_false] at this
 unfold WW
 omega⟩
theorem Bd.to4 {x : Int} (h : Bd 4 x) : 0 ≤ x ∧ x ≤ 3 := by unfold Bd at h; omega
theorem QfK {p : PolD} {c : List Int} (hok : OkPol p) (hc : Byt ([3] ++ c)) : Dr (F_x (c, p, ())) fun r => Fit p r.1.1 ∧ FitQ p r.1.2.1 := by
 have h3 := hok.own
 have hc1 := hc.2
 unfold F_x
 refine Dr.guard (by have := hc.2; simp at this ⊢; omega) ?_
 refine (Qnk hc).bind fun r2 h2 => (Qqe hok h2 (by omega)).bind fun r3 h3' => ?_
 have key : Dr (L_x_5 (((), ((), (r3.1.1, (([] : List (List Int)), ((0 : Int), ()))))), (((p.1, (p.2.1, (p.2.2.1, (p.2.2.2.1, ())))), (r3.2.1, ())), ()))) fun o => ∃ J : List (List Int), o = .inl ((r3.1.1, (J, ())), ((), ())) ∧ FitQ p J := by
  refine Qap (fun m u => ∃ (J : List (List Int)) (s' : SrcD), u = (((), ((), (r3.1.1, (J, (((J.length : Nat) : Int), ()))))), ((p, (s', ())), ())) ∧ Sr s' (4000 + (J.length : Int)) ∧ J.length + m = p.1.length ∧ ∀ q ∈ J, OkQ q) ?_ p.1.length _
   ⟨[], r3.2.1, rfl, h3'.1.le (by simp), by simp, by simp⟩ (by rw [QK]; omega)
  rintro rec m _ ⟨J, s', rfl, hs', hm, hJ⟩ ih
  unfold l_x_5
  dsimp only
  by_cases c : J.length < p.1.length
  ·rw [if_pos (lt_t c)]
   refine (Qbt hs' (by omega) _).bind fun r6 h6 => ?_
   have b6 := h6.2.to4
   refine Dr.guard ⟨Int.le_refl _, b6.1, by show (r6.1.1 : Int) ≤ 3; exact b6.2⟩ (Dr.guard (by simp; omega) ?_)
   rw [QW (by omega)]
   refine ih (m - 1) _ (by omega) ⟨J ++ [(([(5 : Int), 6, 7].drop (0 + ((0 : Int)).toNat)).take ((r6.1.1 : Int).toNat - ((0 : Int)).toNat))], r6.2.1, by simp, h6.1.le (by simp; omega), by simp; omega, fun q hq => ?_⟩
   rcases List.mem_append.1 hq with hq | hq
   ·exact hJ q hq
   ·rw [List.mem_singleton.1 hq]
    exact Qtm _
  ·rw [if_neg (lt_f c)]
   exact Dr.ret ⟨J, rfl, by omega, hJ⟩
 refine key.bind fun z hz => ?_
 obtain ⟨J, rfl, hJ⟩ := hz
 exact Dr.ret ⟨h3'.2, hJ⟩
theorem Qoc {c : List Int} (hc : Byt c) (hc2 : Byt ([3] ++ c)) : Dr (F_y (c, ())) fun r => polM r.1.1 = 0 ∧ Fit r.1.1 r.1.2.1 ∧ FitQ r.1.1 r.1.2.2.1 := by
 unfold F_y F_n
 refine Dr.bind (Q := fun r => polM r.1.1 = 0) ?_ fun r1 h1 => ?_
 ·exact (Qnk hc).bind fun r1 h1 => (Qob h1 (by omega)).bind fun r2 h2 => Dr.ret h2.2
 ·exact (QfK (QdM h1) hc2).bind fun r2 h2 => Dr.ret ⟨h1, h2⟩
theorem QrO {p : PolD} {Z : Int × List Int × Unit} {own im m : List Int} {I : List (List Int)} {n g : Int} (hown : ∀ x ∈ own, 0 ≤ x ∧ x ≤ 23) (hl : im.length ≤ 8 * own.length) (h5 : own.length ≤ 5) (hm : m.length = 192) :
  L_at_14 (((), ((), (m, (own, (I, (n, (g, (im, (((im.length : Nat) : Int), ((0 : Int), ())))))))))), ((p, (Z, ())), ())) = some (.inl (((), ((), (imgH own 0 im m, (I, (n, (g, ())))))), ((p, (Z, ())), ()))) := by
 refine Dr.eq ?_
 refine Qap (fun k u => ∃ (i : Nat) (m' : List Int), u = (((), ((), (m', (own, (I, (n, (g, (im, (((im.length : Nat) : Int), ((i : Int), ())))))))))), ((p, (Z, ())), ())) ∧ k + i = im.length ∧ m'.length = 192 ∧ imgH own i (im.drop i) m' = imgH own 0 im m) ?_ im.length _ ⟨0, m, rfl, by omega, hm, rfl⟩ (by rw [QK]; omega)
 rintro rec k _ ⟨i, m', rfl, hk, hm', he⟩ ih
 unfold l_at_14
 dsimp only
 by_cases c : i < im.length
 ·have hi8 : i / 8 < own.length := by omega
  have hx := hown _ (QT (l := own) (k := i / 8) (d := 0) hi8)
  have e1 : Int.tdiv (i : Int) 8 = ((i / 8 : Nat) : Int) := by rw [Int.tdiv_eq_ediv_of_nonneg (by omega)]; omega
  have e2 : Int.tmod (i : Int) 8 = ((i % 8 : Nat) : Int) := by rw [Int.tmod_eq_emod_of_nonneg (by omega)]; omega
  rw [if_pos (lt_t c), if_pos nat0, Qr c, e1, e2, Qu (n := ((i / 8 : Nat) : Int)) (by omega) (by omega), if_pos nat0, Qr hi8]
  rw [gget hi8] at hx
  rw [Qu (n := own[i / 8] * 8) (by omega) (by omega), Qu (n := own[i / 8] * 8 + ((i % 8 : Nat) : Int)) (by omega) (by omega), Qeg, Obn, QW (by omega)]
  refine Dr.gat hm' (by omega) fun _ _ => ih (k - 1) _ (by omega) ⟨i + 1, _, rfl, by omega, by simpa using hm', ?_⟩
  rw [← he, List.drop_eq_getElem_cons c, imgH, gget hi8]
  congr 2
  omega
 ·rw [if_neg (lt_f c)]
  rw [List.drop_of_length_le (by omega)] at he
  exact Dr.ret (by rw [← he]; rfl)
theorem Qlr {p : PolD} {I : List (List Int)} (hp : polM p = 0) (hI : Fit p I) : F_at (p, I, ()) = some (((0, (QaN p.1 I (List.replicate 192 0), ())), ()), ()) := by
 have hok := QdM hp
 have h3 := hok.own
 obtain ⟨hI1, hI2⟩ := hI
 refine Dr.eq ?_
 unfold F_at
 refine Dr.step (Qgd p (Qfm hok)) (Dr.neg (by rw [hp]; simp) ?_)
 dsimp only
 refine Dr.neg (by rw [hI1]; simp) ?_
 have key : L_at_8 (((), ((), ((List.replicate ((192 : Int)).toNat (QbO (.int .i64))), (I, (((I.length : Nat) : Int), ((0 : Int), ())))))), ((p, (((0 : Int), (([] : List Int), ())), ())), ())) = some (.inl (((), (QaN p.1 I (List.replicate 192 0), ())), ((((0 : Int), (([] : List Int), ())), ()), ()))) := by
  refine Dr.eq ?_
  refine Qap (fun k u => ∃ (g : Nat) (m' : List Int), u = (((), ((), (m', (I, (((I.length : Nat) : Int), ((g : Int), ())))))), ((p, (((0 : Int), (([] : List Int), ())), ())), ())) ∧ k + g = I.length ∧ m'.length = 192 ∧ QaN (p.1.drop g) (I.drop g) m' = QaN p.1 I (List.replicate 192 0)) ?_ I.length _
   ⟨0, _, rfl, by omega, by simp, rfl⟩ (by rw [QK]; omega)
  rintro rec k _ ⟨g, m', rfl, hk, hm', he⟩ ih
  unfold l_at_8
  dsimp only
  by_cases c : g < I.length
  ·have c' : g < p.1.length := by omega
   have h5 := hok.own1 _ (List.getElem_mem c')
   have hl := hI2 g c' c
   rw [if_pos (lt_t c), if_pos nat0, Qr c, if_pos nat0, Qr c', Qu (n := (((p.1[g]).length : Nat) : Int) * 8) (by omega) (by omega), if_neg (by rw [QM]; omega), QrO h5.2.2 hl h5.2.1 hm', Obn]
   dsimp only
   rw [QW (by omega)]
   refine ih (k - 1) _ (by omega) ⟨g + 1, _, rfl, by omega, by rw [Qiy]; exact hm', ?_⟩
   rw [← he, List.drop_eq_getElem_cons c, List.drop_eq_getElem_cons c', QaN]
  ·rw [if_neg (lt_f c)]
   rw [List.drop_of_length_le (by omega : I.length ≤ g), List.drop_of_length_le (by omega : p.1.length ≤ g)] at he
   exact Dr.ret (by rw [← he]; rfl)
 exact Dr.step key (Dr.ret rfl)
theorem Qqn {q : List Int} (h : OkQ q) : F_bf (q, ()) = some (((0, QfA q), ()), ()) := by
 have hl := h.len
 refine Dr.eq ?_
 unfold F_bf
 dsimp only
 refine Dr.neg (by rw [QM]; omega) (Dr.step (QaY q (by rw [QcH]; omega)) (Dr.neg (by rw [Qal.2 h.words]; simp) (Dr.step (Qcc (by omega)) (Dr.ret rfl))))
theorem QiA {p : PolD} {I J : List (List Int)} (hp : polM p = 0) (hI : Fit p I) (hJ : FitQ p J) : F_bg (p, I, J, ()) = some (((0, boxH (Qdk p I J)), ()), ()) := by
 have hok := QdM hp
 have h3 := hok.own
 obtain ⟨hJ1, hJ2⟩ := hJ
 have hpl : 0 < p.2.2.2.1.length := by have := hok.plan; omega
 refine Dr.eq ?_
 unfold F_bg
 refine Dr.step (Qlr hp hI) (Dr.neg (by simp) (Dr.neg (by rw [hJ1]; simp) (Dr.step (QfB hok) ?_)))
 refine Dr.step (v := p.2.2.2.1.getD 0 (0, 0, ())) (QcR (l := p.2.2.2.1) (k := 0) _ hpl) ?_
 dsimp only
 have key : ∀ (Z : Int × QlW) (M : List Int) (t : Int), L_bg_8 (((), ((), (J, (((J.length : Nat) : Int), ((0 : Int), ()))))), ((Z, (((p.1, (p.2.1, (p.2.2.1, (p.2.2.2.1, (M, (([] : List QY), ((0 : Int), (t, ((0 : Int), ()))))))))) : QlW), ())), ())) =
   some (.inl (((), ((), ())), ((Z, (((p.1, (p.2.1, (p.2.2.1, (p.2.2.2.1, (M, (J.map QfA, ((0 : Int), (t, ((0 : Int), ()))))))))) : QlW), ())), ()))) := by
  intro Z M t
  refine Dr.eq ?_
  refine Qap (fun k u => ∃ i : Nat, u = (((), ((), (J, (((J.length : Nat) : Int), ((i : Int), ()))))), ((Z, (((p.1, (p.2.1, (p.2.2.1, (p.2.2.2.1, (M, ((J.take i).map QfA, ((0 : Int), (t, ((0 : Int), ()))))))))) : QlW), ())), ())) ∧ k + i = J.length) ?_ J.length _ ⟨0, rfl, by omega⟩ (by rw [QK]; omega)
  rintro rec k _ ⟨i, rfl, hk⟩ ih
  unfold l_bg_8
  dsimp only
  by_cases c : i < J.length
  ·rw [if_pos (lt_t c), if_pos nat0, Qr c, Qqn (hJ2 _ (List.getElem_mem c)), Obn]
   refine Dr.neg (by simp) (Dr.guard (by simp; omega) ?_)
   rw [QW (by omega)]
   refine ih (k - 1) _ (by omega) ⟨i + 1, ?_, by omega⟩
   rw [Qfs c, List.map_append]
   rfl
  ·rw [if_neg (lt_f c), List.take_of_length_le (by omega)]
   exact Dr.ret rfl
 exact Dr.step (key _ _ _) (Dr.ret rfl)
theorem Qjb {v : Qgp} (h : QlQ maxLen (vD v)) : Qja v v = true := by
 obtain ⟨v1, v2, v3, v4, v5, v6, v7, v8, v9, v10, v11, _⟩ := v
 obtain ⟨⟨h1, h2, h3, h4⟩, h5, h6⟩ := h
 unfold vD at h1 h2 h3 h4 h5 h6
 dsimp only at h1 h2 h3 h4 h5 h6
 have e : F_cs (vD (v1, v2, v3, v4, v5, v6, v7, v8, v9, v10, v11, ()), vD (v1, v2, v3, v4, v5, v6, v7, v8, v9, v10, v11, ()), ()) = some ((true, ()), ()) := by
  unfold F_cs F_cr vD
  dsimp only
  rw [Qah (v1, v1, ()) h1, Qah (v3, v3, ()) h2, Qah (v8, v8, ()) h3, Qah (v9, v9, ()) h4, Qah (v10, v10, ()) h5, Qah (v11, v11, ()) h6]
  simp
 unfold Qja
 rw [e]
theorem byt3 {c : List Int} (h : ¬ (1048576 : Int) < ((c.length : Nat) : Int)) (hb : ∀ b ∈ c, 0 ≤ b ∧ b ≤ 255) : Byt ([3] ++ c) := ⟨fun b hm => by
 rcases List.mem_append.1 hm with hm | hm
 ·rw [List.mem_singleton.1 hm]; omega
 ·exact hb b hm, by simp; omega⟩
theorem HK.pgs {x : Qx} (h : HK x) {g : Int} (hg : isG x.1 g = true) : ∀ q ∈ pgM x.1 g, 0 ≤ q.1 → 8 * q.1 + 8 ≤ (x.2.1.length : Int) := fun q hq _ => by
 have := Qoo h.ok hg q hq
 rw [h.mem.2]
 omega
def sinM (v : Int) : List Int → List Int
 | [] => [v]
 | x :: r => if x < v then x :: sinM v r else if x = v then x :: r else v :: x :: r
def srt (l : List Int) : List Int := l.foldl (fun acc v => sinM v acc) []
theorem QkJ {v : Int} : ∀ {A B : List Int}, (∀ a ∈ A, a < v) → sinM v (A ++ B) = A ++ sinM v B
 | [], _, _ => rfl
 | a :: A, B, h => by
  rw [List.cons_append, sinM, if_pos (h a (by simp)), QkJ fun x hx => h x (List.mem_cons_of_mem _ hx)]
  rfl
theorem Qni {v : Int} {B : List Int} (h : ∀ b ∈ B, v < b) : sinM v B = v :: B := by
 cases B with
 | nil => rfl
 | cons b r =>
  have := h b (by simp)
  rw [sinM, if_neg (by omega), if_neg (by omega)]
theorem QdS {v x : Int} : ∀ {L : List Int}, x ∈ sinM v L ↔ x = v ∨ x ∈ L
 | [] => by simp [sinM]
 | y :: r => by
  rw [sinM]
  by_cases c : y < v
  ·rw [if_pos c, List.mem_cons, QdS, List.mem_cons]
   constructor
   ·rintro (h | h | h) <;> simp [h]
   ·rintro (h | h | h) <;> simp [h]
  ·rw [if_neg c]
   by_cases d : y = v
   ·rw [if_pos d, List.mem_cons]
    subst d
    simp
   ·rw [if_neg d]; simp
theorem QhT {v : Int} : ∀ {L : List Int}, L.Pairwise (· < ·) → (sinM v L).Pairwise (· < ·)
 | [], _ => by simp [sinM]
 | y :: r, h => by
  have h' := h
  rw [List.pairwise_cons] at h'
  rw [sinM]
  by_cases c : y < v
  ·rw [if_pos c, List.pairwise_cons]
   refine ⟨fun x hx => ?_, QhT h'.2⟩
   rcases QdS.1 hx with rfl | hx
   ·exact c
   ·exact h'.1 x hx
  ·rw [if_neg c]
   by_cases d : y = v
   ·rw [if_pos d]; exact h
   ·rw [if_neg d, List.pairwise_cons]
    refine ⟨fun x hx => ?_, h⟩
    rcases List.mem_cons.1 hx with rfl | hx
    ·omega
    ·have := h'.1 x hx; omega
theorem Qje {v : Int} : ∀ {L : List Int}, L.Pairwise (· < ·) → v ∉ L → (sinM v L).length = L.length + 1
 | [], _, _ => rfl
 | y :: r, h, hv => by
  rw [List.pairwise_cons] at h
  rw [sinM]
  by_cases c : y < v
  ·rw [if_pos c, List.length_cons, Qje h.2 fun q => hv (List.mem_cons_of_mem _ q), List.length_cons]
  ·rw [if_neg c, if_neg (fun e => hv (by simp [e]))]; simp
theorem Qst (l : List Int) (v : Int) : srt (l ++ [v]) = sinM v (srt l) := by unfold srt; rw [List.foldl_append]; rfl
theorem Qoz : ∀ {l : List Int}, l.Nodup → (srt l).Pairwise (· < ·) ∧ (∀ x, x ∈ srt l ↔ x ∈ l) ∧ (srt l).length = l.length := by
 have key : ∀ {l acc : List Int}, l.Nodup → (∀ x ∈ l, x ∉ acc) → acc.Pairwise (· < ·) → (l.foldl (fun acc v => sinM v acc) acc).Pairwise (· < ·) ∧ (∀ x, x ∈ l.foldl (fun acc v => sinM v acc) acc ↔ x ∈ acc ∨ x ∈ l) ∧ (l.foldl (fun acc v => sinM v acc) acc).length = acc.length + l.length := by
  intro l
  induction l with
  | nil => intro acc _ _ h; exact ⟨h, by simp, by simp⟩
  | cons v r ih =>
   intro acc hn ha hp
   rw [List.nodup_cons] at hn
   obtain ⟨h1, h2, h3⟩ := ih (acc := sinM v acc) hn.2 (fun x hx hm => by
    rcases QdS.1 hm with rfl | hm
    ·exact hn.1 hx
    ·exact ha x (List.mem_cons_of_mem _ hx) hm) (QhT hp)
   refine ⟨h1, fun x => ?_, ?_⟩
   ·rw [List.foldl_cons, h2, QdS, List.mem_cons]
    constructor
    ·rintro ((h | h) | h) <;> simp [h]
    ·rintro (h | h | h) <;> simp [h]
   ·rw [List.foldl_cons, h3, Qje hp (ha v (by simp)), List.length_cons]; omega
 intro l h
 obtain ⟨h1, h2, h3⟩ := key (acc := []) h (by simp) List.Pairwise.nil
 exact ⟨h1, fun x => by rw [srt, h2]; simp, by rw [srt, h3]; simp⟩
theorem Qup (a b : Int) : F_cmp_Less_int64 (a, b, ()) = some ((ltI a b, ()), ()) := by
 unfold F_cmp_Less_int64 F_cmp_isNaN_int64
 simp
theorem QtC {pre rest : List Int} {v n i : Int} (hp : pre.Pairwise (· < ·)) (hv : v ∉ pre) (hl : (pre ++ v :: rest).length ≤ 1000) :
  L_br_4 (((), ((0 : Int), (n, (i, (((pre.length : Nat) : Int), ()))))), ((), (pre ++ v :: rest, ()))) = some (.inl (((), ((0 : Int), (n, (i, ())))), ((), (sinM v pre ++ rest, ())))) := by
 refine Dr.eq ?_
 refine Qap (fun m u => ∃ A B : List Int, pre = A ++ B ∧ (∀ b ∈ B, v < b) ∧ u = (((), ((0 : Int), (n, (i, (((A.length : Nat) : Int), ()))))), ((), (A ++ v :: (B ++ rest), ()))) ∧ m = A.length) ?_ pre.length _ ⟨pre, [], by simp, by simp, rfl, rfl⟩ (by simp at hl; rw [QK]; omega)
 rintro rec m _ ⟨A, B, rfl, hB, rfl, rfl⟩ ih
 unfold l_br_4
 dsimp only
 simp only [List.length_append, List.length_cons] at hl
 rcases List.eq_nil_or_concat A with rfl | ⟨A', y, rfl⟩
 ·rw [if_neg (by rw [QM]; simp)]
  simp only [List.nil_append]
  rw [Qni hB]
  exact Dr.ret rfl
 ·rw [List.concat_eq_append] at *
  simp only [List.length_append, List.length_singleton] at hl
  have hy : y ∈ (A' ++ [y]) ++ B := by simp
  have d0 : (A' ++ [y]) ++ v :: (B ++ rest) = A' ++ y :: v :: (B ++ rest) := by simp
  have lt1 : A'.length < (A' ++ y :: v :: (B ++ rest)).length := by simp
  have lt2 : A'.length + 1 < (A' ++ y :: v :: (B ++ rest)).length := by simp
  have g1 : (A' ++ y :: v :: (B ++ rest))[A'.length]'lt1 = y := by simp
  have g2 : (A' ++ y :: v :: (B ++ rest))[A'.length + 1]'lt2 = v := by
   rw [List.getElem_append_right (by omega)]
   simp
  have ej : ((((A' ++ [y]).length : Nat)) : Int) = ((A'.length + 1 : Nat) : Int) := by simp
  have ej1 : IntKind.i64.wrap (((A'.length + 1 : Nat) : Int) - 1) = ((A'.length : Nat) : Int) := by rw [Qu (by omega) (by omega)]; omega
  rw [d0, ej, ej1, if_pos (by rw [QM]; omega)]
  have in1 : 0 ≤ ((A'.length : Nat) : Int) ∧ ((A'.length : Nat) : Int) < (((A' ++ y :: v :: (B ++ rest)).length : Nat) : Int) := by omega
  have in2 : 0 ≤ ((A'.length + 1 : Nat) : Int) ∧ ((A'.length + 1 : Nat) : Int) < (((A' ++ y :: v :: (B ++ rest)).length : Nat) : Int) := by omega
  rw [if_pos in2, Qr lt2, if_pos in1, Qr lt1, g1, g2, Qup, Obn]
  dsimp only
  by_cases c : v < y
  ·have s1 : (A' ++ y :: v :: (B ++ rest)).set (((A'.length + 1 : Nat) : Int)).toNat y = A' ++ y :: y :: (B ++ rest) := by
    rw [Int.toNat_natCast, List.set_append_right _ _ (by omega), show A'.length + 1 - A'.length = 1 by omega]; rfl
   have lt3 : A'.length < (A' ++ y :: y :: (B ++ rest)).length := by simp
   have in3 : 0 ≤ ((A'.length : Nat) : Int) ∧ ((A'.length : Nat) : Int) < (((A' ++ y :: y :: (B ++ rest)).length : Nat) : Int) := by omega
   have s2 : (A' ++ y :: y :: (B ++ rest)).set (((A'.length : Nat) : Int)).toNat v = A' ++ v :: (y :: B ++ rest) := by
    rw [Int.toNat_natCast, List.set_append_right _ _ (by omega), Nat.sub_self]; rfl
   rw [if_pos (by rw [QM]; exact c), if_pos in1, Qr lt1, if_pos in2, Qr lt2, if_pos in2, Qr lt2, g1, g2, s1, if_pos in3, Qr lt3, s2]
   exact ih A'.length _ (by simp) ⟨A', y :: B, by simp, fun b hb => by
    rcases List.mem_cons.1 hb with rfl | hb
    ·exact c
    ·exact hB b hb, rfl, rfl⟩
  ·rw [if_neg (by rw [QM]; exact c)]
   have yv : y < v := by
    have : v ≠ y := fun e => hv (e ▸ hy)
    omega
   rw [List.pairwise_append] at hp
   have hA : ∀ a ∈ A' ++ [y], a < v := fun a ha => by
    rcases List.mem_append.1 ha with ha' | ha'
    ·have := (List.pairwise_append.1 hp.1).2.2 a ha' y (by simp)
     omega
    ·rw [List.mem_singleton.1 ha']; exact yv
   rw [QkJ hA, Qni hB]
   refine Dr.ret ?_
   simp
theorem QtB {l : List Int} (h : l.Nodup) (hl : l.length ≤ 1000) : L_br_1 (((), ((0 : Int), (((l.length : Nat) : Int), ((1 : Int), ())))), ((), (l, ()))) = some (.inl ((), ((), (srt l, ())))) := by
 refine Dr.eq ?_
 refine Qap (fun m u => ∃ i : Nat, 1 ≤ i ∧ m = l.length - i ∧ u = (((), ((0 : Int), (((l.length : Nat) : Int), ((i : Int), ())))), ((), (srt (l.take i) ++ l.drop i, ())))) ?_ (l.length - 1) _ ⟨1, by omega, rfl, ?_⟩ (by rw [QK]; omega)
 ·rintro rec m _ ⟨i, h1, hm, rfl⟩ ih
  unfold l_br_1
  dsimp only
  by_cases c : i < l.length
  ·rw [if_pos (lt_t c)]
   have nd := h.sublist (List.take_sublist i l)
   obtain ⟨o1, o2, o3⟩ := Qoz nd
   have lt : (srt (l.take i)).length = i := by rw [o3, List.length_take]; omega
   have hv : l[i] ∉ srt (l.take i) := fun hm => by
    rw [o2, List.mem_take_iff_getElem] at hm
    obtain ⟨j, hj, e⟩ := hm
    have := List.pairwise_iff_getElem.1 h j i (by omega) c (by omega)
    exact this e
   rw [List.drop_eq_getElem_cons c]
   have key := QtC (n := ((l.length : Nat) : Int)) (i := (i : Int)) (rest := l.drop (i + 1)) o1 hv (by simp [lt]; omega)
   rw [lt] at key
   refine Dr.step key ?_
   dsimp only
   rw [QW (by omega)]
   refine ih (m - 1) _ (by omega) ⟨i + 1, by omega, by omega, ?_⟩
   rw [Qfs c, Qst]
  ·rw [if_neg (lt_f c), List.take_of_length_le (by omega), List.drop_of_length_le (by omega), List.append_nil]
   exact Dr.ret rfl
 ·cases l with
  | nil => rfl
  | cons x r => rfl
theorem Qtf (n : Nat) (h : n ≤ 12) : ∃ r : Int, F_bq (IntKind.u64.wrap ((n : Nat) : Int), ()) = some ((r, ()), ()) := by
 have : n = 0 ∨ n = 1 ∨ n = 2 ∨ n = 3 ∨ n = 4 ∨ n = 5 ∨ n = 6 ∨ n = 7 ∨ n = 8 ∨ n = 9 ∨ n = 10 ∨ n = 11 ∨ n = 12 := by omega
 rcases this with rfl | rfl | rfl | rfl | rfl | rfl | rfl | rfl | rfl | rfl | rfl | rfl | rfl
 ·exact ⟨0, by kernel_rfl⟩
 ·exact ⟨1, by kernel_rfl⟩
 ·exact ⟨2, by kernel_rfl⟩
 ·exact ⟨2, by kernel_rfl⟩
 ·exact ⟨3, by kernel_rfl⟩
 ·exact ⟨3, by kernel_rfl⟩
 ·exact ⟨3, by kernel_rfl⟩
 ·exact ⟨3, by kernel_rfl⟩
 ·exact ⟨4, by kernel_rfl⟩
 ·exact ⟨4, by kernel_rfl⟩
 ·exact ⟨4, by kernel_rfl⟩
 ·exact ⟨4, by kernel_rfl⟩
 ·exact ⟨4, by kernel_rfl⟩
theorem QuE {l : List Int} (h : l.Nodup) (hl : l.length ≤ 12) : F_bt (l, ()) = some ((), (srt l, ())) := by
 have o3 := (Qoz h).2.2
 obtain ⟨r, er⟩ := Qtf l.length hl
 have e1 : F_br (l, 0, ((l.length : Nat) : Int), ()) = some ((), (srt l, ())) := by
  refine Dr.eq ?_
  unfold F_br
  exact Dr.step (QtB h (by omega)) (Dr.guard (by simp [o3]) (Dr.ret rfl))
 have e2 : F_bs (l, 0, ((l.length : Nat) : Int), r, ()) = some ((), (srt l, ())) := by
  refine Dr.eq ?_
  unfold F_bs
  have k : L_bs_2 (((), ((0 : Int), (((l.length : Nat) : Int), (r, (true, (true, ())))))), ((), (l, ()))) = some (.inl ((), ((), (srt l, ())))) := by
   refine Dr.eq ?_
   refine Qap (fun m u => u = (((), ((0 : Int), (((l.length : Nat) : Int), (r, (true, (true, ())))))), ((), (l, ())))) ?_ 0 _ rfl (by rw [QK]; omega)
   rintro rec m _ rfl _
   unfold l_bs_2
   dsimp only
   rw [Qu (by omega) (by omega)]
   exact Dr.pos (by rw [QbH]; omega) (Dr.step e1 (Dr.guard (by simp [o3]) (Dr.ret rfl)))
  exact Dr.step k (Dr.guard (by simp [o3]) (Dr.ret rfl))
 refine Dr.eq ?_
 unfold F_bt
 exact Dr.step er (Dr.step e2 (Dr.guard (by simp [o3]) (Dr.guard (by simp [o3]) (Dr.ret rfl))))
abbrev QuK := Int × List Int × Unit
theorem QsR {p : PolD} {g : Int} (h : askM p g = 0) : polM p = 0 ∧ isG p g = true := by
 unfold askM at h
 split at h
 ·exact absurd h ‹_›
 ·rename_i h1
  split at h
  ·exact ⟨by simpa using h1, ‹_›⟩
  ·cases h
def ins (acc l : List Int) : List Int := l.foldl (fun a v => sinM v a) acc
theorem QeJ : ∀ {l acc : List Int}, acc.Pairwise (· < ·) → (ins acc l).Pairwise (· < ·) ∧ ∀ x, x ∈ ins acc l ↔ x ∈ acc ∨ x ∈ l
 | [], acc, h => ⟨h, by simp [ins]⟩
 | v :: r, acc, h => by
  obtain ⟨h1, h2⟩ := QeJ (l := r) (QhT (v := v) h)
  refine ⟨h1, fun x => ?_⟩
  have h2 : x ∈ ins acc (v :: r) ↔ x ∈ sinM v acc ∨ x ∈ r := h2 x
  rw [h2, QdS, List.mem_cons]
  constructor
  ·rintro ((h | h) | h) <;> simp [h]
  ·rintro (h | h | h) <;> simp [h]
theorem QsC : ∀ {L : List Int} {a b : Int}, L.Pairwise (· < ·) → (∀ x ∈ L, a ≤ x ∧ x < b) → (L.length : Int) ≤ b - a ∨ L = []
 | [], _, _, _, _ => .inr rfl
 | x :: r, a, b, h, hx => by
  rw [List.pairwise_cons] at h
  have h0 := hx x (by simp)
  rcases QsC (a := x + 1) (b := b) h.2 (fun y hy => ⟨by have := h.1 y hy; omega, (hx y (List.mem_cons_of_mem _ hy)).2⟩) with e | e
  ·left; rw [List.length_cons]; omega
  ·left; rw [e]; simp; omega
theorem Qpw : ∀ {A B : List Int}, A.Pairwise (· < ·) → (∀ x ∈ A, x ∈ B) → A.length ≤ B.length
 | [], _, _, _ => Nat.zero_le _
 | a :: r, B, h, hs => by
  rw [List.pairwise_cons] at h
  have ha := hs a (by simp)
  have hl := List.length_erase_of_mem ha
  have h1 := Qpw (B := B.erase a) h.2 fun x hx => by
   have hne : x ≠ a := fun e => by have := h.1 x hx; omega
   exact (List.mem_erase_of_ne hne).2 (hs x (List.mem_cons_of_mem _ hx))
  have hp := List.length_pos_of_mem ha
  rw [List.length_cons]; omega
def lfr (g : Int) (l : List QA) : List Int := (l.filter fun x => x.2.1 == g).map (·.1)
def bfr (g : Int) (l : List TwoD) : List Int := (l.filter fun x => x.2.1 == g).map (·.1)
def Qbe (p : PolD) (g : Int) : List Int := ins (ins [] (lfr g p.2.1)) (bfr g p.2.2.1)
def QaG (p : PolD) (x g : Int) : Bool := p.2.1.any (fun l => l.1 == x && l.2.1 == g) || p.2.2.1.any (Qde (x, g, ()))
theorem Qqw (p : PolD) (g : Int) : (Qbe p g).Pairwise (· < ·) := (QeJ (QeJ List.Pairwise.nil).1).1
theorem QgL {x g : Int} {b : TwoD} : Qde (x, g, ()) b = true ↔ b.1 = x ∧ b.2.1 = g := by
 obtain ⟨b1, b2, _⟩ := b
 unfold Qde
 simp
 constructor <;> rintro ⟨h1, h2⟩ <;> simp [h1, h2]
theorem QcV {p : PolD} {x g : Int} : x ∈ Qbe p g ↔ QaG p x g = true := by
 unfold Qbe QaG
 rw [(QeJ (QeJ List.Pairwise.nil).1).2, (QeJ List.Pairwise.nil).2, Bool.or_eq_true, List.any_eq_true, List.any_eq_true]
 unfold lfr bfr
 simp only [List.mem_map, List.mem_filter, List.not_mem_nil, false_or, beq_iff_eq, Bool.and_eq_true]
 constructor
 ·rintro (⟨l, ⟨h1, h2⟩, h3⟩ | ⟨b, ⟨h1, h2⟩, h3⟩)
  ·exact .inl ⟨l, h1, h3, h2⟩
  ·exact .inr ⟨b, h1, QgL.2 ⟨h3, h2⟩⟩
 ·rintro (⟨l, h1, h3, h2⟩ | ⟨b, h1, h2⟩)
  ·exact .inl ⟨l, ⟨h1, h2⟩, h3⟩
  ·exact .inr ⟨b, ⟨h1, (QgL.1 h2).2⟩, (QgL.1 h2).1⟩
theorem Qch {p : PolD} (hok : OkPol p) {x g : Int} (h : QaG p x g = true) : isG p x = true := by
 unfold QaG at h
 rw [Bool.or_eq_true, List.any_eq_true, List.any_eq_true] at h
 rcases h with ⟨l, h1, h2⟩ | ⟨b, h1, h2⟩
 ·simp only [Bool.and_eq_true, beq_iff_eq] at h2
  rw [← h2.1]; exact (Qcq hok l h1).1.1
 ·rw [← (QgL.1 h2).1]; exact (QrV hok b h1).1
theorem QnN {p : PolD} (hok : OkPol p) {L : List Int} (h : L.Pairwise (· < ·)) (hg : ∀ x ∈ L, isG p x = true) : L.length ≤ 3 := by
 have := hok.own.2
 rcases QsC (a := 0) (b := (p.1.length : Int)) h (fun x hx => Qaz.1 (hg x hx)) with e | e
 ·omega
 ·rw [e]; simp
theorem QmR {p : PolD} (hok : OkPol p) {g x : Int} (h : x ∈ Qbe p g) : isG p x = true := Qch hok (QcV.1 h)
def rnd (p : PolD) (out : List Int) : List Int := out.foldl (fun acc y => ins acc (Qbe p y)) out
def QbX (p : PolD) (g : Int) : List Int := rnd p (rnd p (rnd p (Qbe p g)))
theorem QeT {p : PolD} {out : List Int} (h : out.Pairwise (· < ·)) : (rnd p out).Pairwise (· < ·) ∧ ∀ x, x ∈ rnd p out ↔ x ∈ out ∨ ∃ y ∈ out, x ∈ Qbe p y := by
 have key : ∀ {l acc : List Int}, acc.Pairwise (· < ·) → (l.foldl (fun acc y => ins acc (Qbe p y)) acc).Pairwise (· < ·) ∧ ∀ x, x ∈ l.foldl (fun acc y => ins acc (Qbe p y)) acc ↔ x ∈ acc ∨ ∃ y ∈ l, x ∈ Qbe p y := by
  intro l
  induction l with
  | nil => intro acc h; exact ⟨h, by simp⟩
  | cons y r ih =>
   intro acc h
   obtain ⟨h1, h2⟩ := ih (acc := ins acc (Qbe p y)) (QeJ h).1
   refine ⟨h1, fun x => ?_⟩
   rw [List.foldl_cons, h2, (QeJ h).2]
   constructor
   ·rintro ((h | h) | ⟨z, h3, h4⟩)
    ·exact .inl h
    ·exact .inr ⟨y, by simp, h⟩
    ·exact .inr ⟨z, List.mem_cons_of_mem _ h3, h4⟩
   ·rintro (h | ⟨z, h3, h4⟩)
    ·exact .inl (.inl h)
    ·rcases List.mem_cons.1 h3 with rfl | h3
     ·exact .inl (.inr h4)
     ·exact .inr ⟨z, h3, h4⟩
 exact key h
structure UpG (p : PolD) (L : List Int) : Prop where
 up : L.Pairwise (· < ·)
 g : ∀ x ∈ L, isG p x = true
theorem UpG.len {p : PolD} (hok : OkPol p) {L : List Int} (h : UpG p L) : L.length ≤ 3 := QnN hok h.up h.g
theorem UpG.rnd {p : PolD} (hok : OkPol p) {L : List Int} (h : UpG p L) : UpG p (rnd p L) :=
 ⟨(QeT h.up).1, fun x hx => by
  rcases ((QeT h.up).2 x).1 hx with h1 | ⟨y, _, h2⟩
  ·exact h.g x h1
  ·exact QmR hok h2⟩
theorem Qko {p : PolD} (hok : OkPol p) (g : Int) : UpG p (Qbe p g) := ⟨Qqw p g, fun _ => QmR hok⟩
def QfQ (p : PolD) (L : List Int) : Prop := ∀ y ∈ L, ∀ x ∈ Qbe p y, x ∈ L
theorem QfV {p : PolD} {L : List Int} (h : L.Pairwise (· < ·)) (hc : QfQ p L) : QfQ p (rnd p L) := by
 have same : ∀ x, x ∈ rnd p L ↔ x ∈ L := fun x => by
  rw [(QeT h).2]
  constructor
  ·rintro (h | ⟨y, h1, h2⟩)
   ·exact h
   ·exact hc y h1 x h2
  ·exact .inl
 intro y hy x hx
 rw [same] at hy ⊢
 exact hc y hy x hx
theorem QiV {p : PolD} {L : List Int} (h : L.Pairwise (· < ·)) (hc : ¬ QfQ p L) : L.length < (rnd p L).length := by
 obtain ⟨r1, r2⟩ := QeT (p := p) h
 refine Nat.lt_of_not_le fun hle => hc fun y hy x hx => ?_
 refine Classical.byContradiction fun hn => ?_
 have h1 := Qpw (A := sinM x L) (B := rnd p L) (QhT h) fun z hz => by
  rcases QdS.1 hz with rfl | hz
  ·exact (r2 _).2 (.inr ⟨y, hy, hx⟩)
  ·exact (r2 _).2 (.inl hz)
 rw [Qje h hn] at h1
 omega
end Go.Proofs.YtmoninjbahccoaaGreatDoor
