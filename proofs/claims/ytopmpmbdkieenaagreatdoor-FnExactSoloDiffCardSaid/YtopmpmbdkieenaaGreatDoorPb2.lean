/- Plain laws: what the functions compute, and that both programs compute the same. -/
import Derived.Test.YtopmpmbdkieenaaGreatDoorPb1
namespace Go.Proofs.YtopmpmbdkieenaaGreatDoor
open Go Go.RowKit S Go.Proofs
set_option maxRecDepth 100000
set_option linter.unusedVariables false
set_option linter.unusedSimpArgs false
theorem Qmx (x : Qx) (h : Qcv 1048576 x) : F_ec (x, ()) = some ((Qbn x, ()), ()) := by
 obtain ⟨hp, h1, h2, h3⟩ := h
 let bx : (den (.slice (.slice (.int .i64)))) × List Qay × List TwoD × List TwoD × List Int × List QJ × Int × Int × Int × Unit := (x.1.1, x.1.2.1, x.1.2.2.1, x.1.2.2.2.1, x.2.1, x.2.2.1, x.2.2.2.1, x.2.2.2.2.1, x.2.2.2.2.2.1, ())
 have key := QQ (step := l_ec_7) (γ := denO o_ec_7) (fun i => (((), x.2.2.1, ((x.2.2.1.length : Nat) : Int), ((i : Nat) : Int), ()), (bx, ()), ())) x.2.2.1 (fun (_ : Nat) h => nz (hartM h))
  (fun c => some (.inr (.inl ((c, ()), (), ())))) (some (.inl (((), ()), (bx, ()), ()))) (QaC h2) ?_ ?_
 ·have e0 : ((0 : Nat) : Int) = 0 := rfl
  rw [e0] at key
  unfold F_ec Qbn
  dsimp only
  rw [Qoh x.1 hp, Obn]
  dsimp only
  by_cases g0 : polM x.1 = 0
  case neg => rw [if_pos (by simpa using g0), if_pos g0]
  have n0 : ¬ polM x.1 ≠ 0 := by simpa using g0
  have hG : ∀ P : Prop, ¬ P → ¬ (P ∧ x.2.2.1.length = x.1.1.length) := fun P h g => h g.1
  rw [if_neg (by simpa using g0), if_neg n0, Qlu _ h1, Obn]
  dsimp only
  by_cases g1 : QC x.2.1 = 0 ∧ x.2.1.length = 192
  case neg => rw [if_neg (by simpa using g1), if_neg (hG _ g1)]
  rw [if_pos (by simpa using g1)]
  by_cases g2 : x.2.2.1.length = x.1.1.length
  case neg =>
   have : ¬ ((x.2.2.1.length : Nat) : Int) = ((x.1.1.length : Nat) : Int) := by omega
   rw [if_pos (by simpa using this), if_neg (fun g : (QC x.2.1 = 0 ∧ x.2.1.length = 192) ∧ x.2.2.1.length = x.1.1.length => g2 g.2)]
  have hH : (QC x.2.1 = 0 ∧ x.2.1.length = 192) ∧ x.2.2.1.length = x.1.1.length := ⟨g1, g2⟩
  rw [if_neg (by rw [g2]; simp), if_pos hH]
  show (Qc l_ec_7 lots (((), x.2.2.1, ((x.2.2.1.length : Nat) : Int), 0, ()), (bx, ()), ())).bind _ = _
  rw [key]
  unfold QgZ
  cases scan (fun (_ : Nat) h => nz (hartM h)) 0 x.2.2.1 with
  | some c => rfl
  | none =>
   rw [Obn]
   dsimp only [bx]
   rw [Qaa, Obn]
   dsimp only
   cases g3 : inB x.2.2.2.2.2.1 0 1000000
   ·simp
   ·rw [if_neg (by simp), if_pos rfl]
    show (F_eb (x.1, x.2.2.2.2.2.1, ())).bind _ = _
    rw [QmF x.1 _ (Qku g0) (QcS.1 g3).1, Obn]
    dsimp only
    by_cases g4 : x.2.2.2.1 = (Qbk x.1 x.2.2.2.2.2.1).1
    ·by_cases g5 : x.2.2.2.2.1 = (Qbk x.1 x.2.2.2.2.2.1).2
     ·rw [if_pos (by simpa using g4), if_neg (by simpa using g5), if_pos ⟨g4, g5⟩]
     ·rw [if_pos (by simpa using g4), if_pos (by simpa using g5), if_neg (fun h => g5 h.2)]
    ·rw [if_neg (by simpa using g4), if_neg (fun h => g4 h.1)]
 ·intro rec i hi
  unfold l_ec_7
  dsimp only
  rw [if_pos (lt_t hi), if_pos nat0, Ql hi, QhA _ (h3 _ (List.getElem_mem hi)), Obn, QK (lt1 hi h2)]
  dsimp only
  unfold nz
  by_cases g : hartM x.2.2.1[i] = 0
  ·rw [if_neg (by simpa using g), if_neg (by simpa using g)]
  ·rw [if_pos (by simpa using g), if_pos (by simpa using g)]
 ·intro rec
  unfold l_ec_7
  dsimp only
  rw [if_neg Qak]
theorem QoX (m : List QJ) (n : Int) (h0 : 0 ≤ n) (h1 : n ≤ 1048576) (h2 : m.length ≤ maxLen) (h3 : ∀ l ∈ m, Qam maxLen l) :
  ∃ r : Int, F_h (m, n, ()) = some ((r, ()), ()) ∧ (r < 0 ∨ (0 ≤ r ∧ r ≤ n ∧ m.length ≤ 1048576 ∧ ∀ l ∈ m, Qam 1048576 l)) :=
 QpY (F := F_h) (step := l_h_5) (f := fun y k => F_g (y, k, ())) (ok := fun l => Qam 1048576 l) (fun _ _ => rfl) (fun _ => rfl) (fun _ => rfl) (fun _ _ _ _ => rfl) m h2 (fun y hy k g0 g1 => QkK y k g0 g1 (h3 y hy)) n h0 h1
theorem Qrs (x : Qx) (n : Int) (h0 : 0 ≤ n) (h1 : n ≤ 1048576) (h : Qcv maxLen x) : ∃ r : Int, F_i (x, n, ()) = some ((r, ()), ()) ∧ (r < 0 ∨ (0 ≤ r ∧ r ≤ n ∧ Qcv 1048576 x)) := by
 obtain ⟨a1, a2, a3, a4⟩ := h
 unfold F_i
 simp only [QT, decide_eq_true_eq]
 obtain ⟨r1, e1, c1⟩ := QsM x.1 n h0 h1 a1
 rw [e1, Obn]
 by_cases d1 : r1 < 0
 ·exact ⟨-1, by rw [if_pos d1], .inl (by omega)⟩
 rw [if_neg d1]
 have c1 := c1.resolve_left d1
 obtain ⟨r2, e2, c2⟩ := Qdd x.2.1 r1 (by omega) (by omega) a2
 rw [e2, Obn]
 by_cases d2 : r2 < 0
 ·exact ⟨-1, by rw [if_pos d2], .inl (by omega)⟩
 rw [if_neg d2]
 have c2 := c2.resolve_left d2
 obtain ⟨r3, e3, c3⟩ := QoX x.2.2.1 r2 (by omega) (by omega) a3 a4
 rw [e3, Obn]
 by_cases d3 : r3 < 0
 ·exact ⟨-1, by rw [if_pos d3], .inl (by omega)⟩
 rw [if_neg d3]
 have c3 := c3.resolve_left d3
 exact ⟨r3, rfl, .inr ⟨by omega, by omega, c1.2.2, c2.2.2, c3.2.2.1, c3.2.2.2⟩⟩
theorem Qpc (m : List QJ) (h : m.length ≤ 1048576) (h2 : ∀ l ∈ m, Qam 1048576 l) : F_v (m, ()) = some ((m, ()), ()) :=
 Qfo (by_ := 120) (F := F_v) (step := l_v_3) (f := fun y => F_u (y, ())) (g := fun r => r.1.1) (fun _ => rfl) (fun _ => rfl) (fun _ _ _ _ => rfl) (by omega) m h fun y hy => ⟨_, QkN y (h2 y hy), rfl⟩
theorem Qrw (x : Qx) (h : Qcv 1048576 x) : F_w (x, ()) = some (((x.1.1, x.1.2.1, x.1.2.2.1, x.1.2.2.2.1, x.2.1, x.2.2.1, x.2.2.2.1, x.2.2.2.2.1, x.2.2.2.2.2.1, ()), ()), ()) := by
 obtain ⟨a1, a2, a3, a4⟩ := h
 unfold F_w
 rw [QsR x.1 a1, Obn, Qbj x.2.1 (le8 a2), Obn, Qpc x.2.2.1 a3 a4, Obn]
theorem QnW (m : List QJ) (h : m.length ≤ 1048576) (h2 : ∀ l ∈ m, Qam 1048576 l) : F_hi (m, m, ()) = some ((true, ()), ()) :=
 Qfa (F := F_hi) (step := l_hi_4) (f := fun y y' => F_hh (y, y', ())) (fun _ => rfl) (fun _ => rfl) (fun _ _ _ _ => rfl) m (QaC h) fun y hy => QjX y (h2 y hy)
theorem Qqx (x : Qx) (h : Qcv 1048576 x) : F_hj (x, x, ()) = some ((true, ()), ()) := by
 obtain ⟨a1, a2, a3, a4⟩ := h
 unfold F_hj
 rw [QrT x.1 a1, Obn, if_neg (by simp), Qbe x.2.1 (leM a2), Obn, if_neg (by simp), QnW x.2.2.1 a3 a4, Obn, if_neg (by simp), if_neg (by simp), if_neg (by simp), if_neg (by simp)]
theorem QmI {h : QJ} (hh : inR (.pair (.slice (.int .i64)) (.pair (.int .i64) (.pair (.slice (.int .i64)) (.pair .bool (.pair .bool (.pair .bool (.pair (.int .i64) (.pair (.slice (.int .i64)) (.pair (.slice (.int .i64)) .unit))))))))) h) : Qam maxLen h :=
 ⟨hh.1.1, hh.2.2.1.1, hh.2.2.2.2.2.2.2.1.1, hh.2.2.2.2.2.2.2.2.1.1⟩
theorem Qgv {x : Qx} (h : Qbn x = 0) : polM x.1 = 0 := by
 unfold Qbn at h
 split at h
 ·rename_i h'; exact absurd h h'
 ·rename_i h'; simpa using h'
def Byt (c : List Int) : Prop := (∀ b ∈ c, 0 ≤ b ∧ b ≤ 255) ∧ c.length ≤ 1048577
def Qbx (x : Qx) (n : Int) : Bool := inB n 0 200 && leI (IntKind.i64.wrap (x.2.2.2.2.2.1 + n)) 1000000
theorem QlI (x : Qx) (n : Int) : F_au (x, n, ()) = some ((Qbx x n, ()), ()) := by
 unfold F_au Qbx
 dsimp only
 rw [QaV, Obn]
 dsimp only
 cases inB n 0 200
 ·rw [if_neg (by simp)]; rfl
 ·rw [if_pos rfl]; rfl
theorem Qnx (x : Qx) (n : Int) : F_ej_1 ([x], (n, ()), ()) = some ((!leI (IntKind.i64.wrap (x.2.2.2.2.2.1 + n)) 1000000, ()), ()) := by
 have e1 : F_eg_1 (x, n, ()) = some ((ltI 1000000 (IntKind.i64.wrap (x.2.2.2.2.2.1 + n)), ()), ()) := rfl
 have e2 : (!leI (IntKind.i64.wrap (x.2.2.2.2.2.1 + n)) 1000000) = ltI 1000000 (IntKind.i64.wrap (x.2.2.2.2.2.1 + n)) := by
  unfold leI; cases ltI 1000000 (IntKind.i64.wrap (x.2.2.2.2.2.1 + n)) <;> rfl
 rw [e2]
 have r2 : ∀ f, Qc l_ei_2 (f + 1) (([x], (n, ()), 1, 1, ()), (), ()) = some (.inl ((), (), ())) := by
  intro f
  rw [Qsj]
  unfold l_ei_2
  dsimp only
  rw [if_neg (show ¬ ltI 1 1 = true from by decide)]
 have r1 : Qc l_ei_2 lots (([x], (n, ()), 1, 0, ()), (), ()) = if ltI 1000000 (IntKind.i64.wrap (x.2.2.2.2.2.1 + n)) = true then some (.inr (.inl ((0, ()), (), ()))) else some (.inl ((), (), ())) := by
  rw [QuA, Qsj]
  have r2' := r2 (18446744073709551613 + 1)
  generalize Qc l_ei_2 (18446744073709551613 + 1 + 1) = rec at r2' ⊢
  unfold l_ei_2
  dsimp only
  rw [if_pos (show ltI 0 1 = true from by decide), if_pos (show (0 : Int) ≤ 0 by omega)]
  have e3 : ([x] : List Qx)[(0 : Int).toNat]? = some x := rfl
  rw [e3, Obn, e1, Obn]
  dsimp only
  cases ltI 1000000 (IntKind.i64.wrap (x.2.2.2.2.2.1 + n))
  ·rw [if_neg (by simp), if_neg (by simp)]
   exact r2'
  ·rw [if_pos rfl, if_pos rfl]
 unfold F_ej_1 F_eh_1
 show ((Qc l_ei_2 lots (([x], (n, ()), 1, 0, ()), (), ())).bind _).bind _ = _
 rw [r1]
 cases ltI 1000000 (IntKind.i64.wrap (x.2.2.2.2.2.1 + n)) <;> rfl
theorem QcD (x : Qx) (n : Int) : F_eg (n, [x], ()) = some ((if Qbx x n = true then 0 else 3, ()), ()) := by
 unfold F_eg Qbx
 dsimp only
 rw [Qaa, Obn]
 dsimp only
 cases inB n 0 200
 ·rw [if_neg (by simp), if_neg (by simp)]
 ·rw [if_pos (show (!true) = false from rfl), Qnx, Obn]
  dsimp only
  cases leI (IntKind.i64.wrap (x.2.2.2.2.2.1 + n)) 1000000 <;> rfl
theorem QpM {c : Int} (h : nz c = none) : c = 0 := by
 unfold nz at h
 split at h
 ·cases h
 ·rename_i h'; simpa using h'
theorem QeF {p : PolD} (hok : OkPol p) : ∀ l ∈ p.2.1, (isG p l.1 = true ∧ isG p l.2.1 = true ∧ l.1 ≠ l.2.1) ∧ (0 ≤ l.2.2.1 ∧ l.2.2.1 ≤ 23) ∧ (5 ≤ l.2.2.2.1 ∧ l.2.2.2.1 ≤ 6) ∧ 5 ≤ l.2.2.2.2.1 ∧ l.2.2.2.2.1 ≤ 6 := by
 intro l hl
 obtain ⟨i, e⟩ := Qbq hok.lanes.2 l hl
 have e := QpM e
 unfold Qfz at e
 split at e
 ·rename_i h; exact absurd e h
 ·rename_i h0
  split at e
  ·rename_i h1
   refine ⟨?_, QcS.1 h1.1, QcS.1 h1.2.1, QcS.1 h1.2.2⟩
   have h0 : Qcy p l.1 l.2.1 = 0 := by simpa using h0
   unfold Qcy at h0
   split at h0
   ·rename_i g1
    split at h0
    ·rename_i g2
     split at h0
     ·cases h0
     ·rename_i g3; exact ⟨g1, g2, g3⟩
    ·cases h0
   ·cases h0
  ·cases e
theorem Qgx {p : PolD} {g : Int} : isG p g = true ↔ 0 ≤ g ∧ g < (p.1.length : Int) := by unfold isG; simp; omega
def pg (m : List Int) (p : Int) : List Int := (m.drop (8 * p.toNat)).take 8
def Qah (m : List Int) (l : List Int) : List Int := l.flatMap (pg m)
theorem Qga (m : List Int) (p : Int) : (pg m p).length ≤ 8 := by unfold pg; simp; omega
theorem Qgh (m : List Int) : ∀ l : List Int, (Qah m l).length ≤ 8 * l.length
 | [] => by simp [Qah]
 | p :: r => by
  have h1 := Qgh m r
  have h2 := Qga m p
  unfold Qah at h1 ⊢
  rw [List.flatMap_cons, List.length_append, List.length_cons]; omega
theorem Qjq (m : List Int) {l : List Int} {k : Nat} (h : k < l.length) : Qah m (l.drop k) = pg m l[k] ++ Qah m (l.drop (k + 1)) := by
 rw [QaB h]; rfl
theorem QuB (m : List Int) (P : Nat) (h : 8 * P + 8 ≤ m.length) (h2 : m.length ≤ 192) :
  (0 ≤ IntKind.i64.wrap ((P : Int) * 8) ∧ IntKind.i64.wrap ((P : Int) * 8) ≤ IntKind.i64.wrap (IntKind.i64.wrap ((P : Int) + 1) * 8) ∧ IntKind.i64.wrap (IntKind.i64.wrap ((P : Int) + 1) * 8) ≤ ((m.length : Nat) : Int)) ∧
   (m.drop (IntKind.i64.wrap ((P : Int) * 8)).toNat).take ((IntKind.i64.wrap (IntKind.i64.wrap ((P : Int) + 1) * 8)).toNat - (IntKind.i64.wrap ((P : Int) * 8)).toNat) = pg m (P : Int) := by
 rw [QP (n := (P : Int) * 8) (by omega) (by omega), QP (n := (P : Int) + 1) (by omega) (by omega), QP (n := ((P : Int) + 1) * 8) (by omega) (by omega)]
 refine ⟨⟨by omega, by omega, by omega⟩, ?_⟩
 have e1 : ((P : Int) * 8).toNat = 8 * P := by omega
 have e2 : (((P : Int) + 1) * 8).toNat - 8 * P = 8 := by omega
 rw [e1, e2]
 unfold pg
 rw [Int.toNat_natCast]
theorem Qbs (m l : List Int) (hm : m.length ≤ 192) (hp : ∀ p ∈ l, 0 ≤ p ∧ 8 * p + 8 ≤ (m.length : Int)) (hl : l.length ≤ 1000) : F_ba (m, l, ()) = some ((Qah m l, ()), ()) := by
 have key := QbX (step := l_ba_3) (γ := denO o_ba_3) (fun k (out : List Int) => ((m, l, out, ((k : Nat) : Int), ()), (), ())) l.length (QW (by omega)) (fun k out => out.length ≤ 8 * k)
  (fun k out => some (.inl ((out ++ Qah m (l.drop k), ()), (), ()))) ?_ 0 [] (by omega) (by simp)
 ·have e0 : ((0 : Nat) : Int) = 0 := rfl
  rw [e0, List.drop_zero, List.nil_append] at key
  unfold F_ba
  show (Qc l_ba_3 lots _).bind _ = _
  rw [key, Obn]
 ·rintro rec k out hk ho ih
  unfold l_ba_3
  dsimp only
  by_cases hlt : k < l.length
  ·have hy := hp _ (List.getElem_mem hlt)
   have hg := Qjq m hlt
   generalize hq : l[k] = y at hy hg
   obtain ⟨P, rfl⟩ : ∃ P : Nat, y = (P : Int) := ⟨y.toNat, by omega⟩
   obtain ⟨c1, c2⟩ := QuB m P (by omega) hm
   have hget : l[((k : Nat) : Int).toNat]? = some (P : Int) := by rw [Int.toNat_natCast, List.getElem?_eq_getElem hlt, hq]
   rw [if_pos (lt_t hlt), if_pos nat0, hget, Obn, if_pos nat0, Obn, c2, if_pos c1, if_pos (by have := Qga m (P : Int); omega), QK (by omega), hg]
   rw [ih (out ++ pg m (P : Int)) hlt (by have := Qga m (P : Int); rw [List.length_append]; omega), List.append_assoc]
  ·rw [if_neg (lt_f hlt), QaJ hlt]
   simp [Qah]
theorem Qdq (m : List Int) (p : Int) (hm : m.length ≤ 192) (hp : 0 ≤ p ∧ 8 * p + 8 ≤ (m.length : Int)) : F_et (m, p, ()) = some ((pg m p, ()), ()) := by
 obtain ⟨P, rfl⟩ : ∃ P : Nat, p = (P : Int) := ⟨p.toNat, by omega⟩
 rw [Qkx m P (by omega) hm]
 unfold pg
 rw [Int.toNat_natCast]
theorem Qlv (m l : List Int) (hm : m.length ≤ 192) (hp : ∀ p ∈ l, 0 ≤ p ∧ 8 * p + 8 ≤ (m.length : Int)) (hl : l.length ≤ 1000) : F_eu (m, l, ()) = some ((Qah m l, ()), ()) := by
 have key := QbX (step := l_eu_3) (γ := denO o_ba_3) (fun k (out : List Int) => ((m, out, l, ((l.length : Nat) : Int), ((k : Nat) : Int), ()), (), ())) l.length (QW (by omega)) (fun k out => out.length ≤ 8 * k)
  (fun k out => some (.inl ((out ++ Qah m (l.drop k), ()), (), ()))) ?_ 0 [] (by omega) (by simp)
 ·have e0 : ((0 : Nat) : Int) = 0 := rfl
  rw [e0, List.drop_zero, List.nil_append] at key
  unfold F_eu
  show (Qc l_eu_3 lots _).bind _ = _
  rw [key, Obn]
 ·rintro rec k out hk ho ih
  unfold l_eu_3
  dsimp only
  by_cases hlt : k < l.length
  ·have hy := hp _ (List.getElem_mem hlt)
   rw [if_pos (lt_t hlt), if_pos nat0, Ql hlt, Qdq m _ hm hy, Obn]
   dsimp only
   rw [if_pos (by have := Qga m l[k]; omega), QK (by omega), Qjq m hlt]
   rw [ih (out ++ pg m l[k]) hlt (by have := Qga m l[k]; rw [List.length_append]; omega), List.append_assoc]
  ·rw [if_neg (lt_f hlt), QaJ hlt]
   simp [Qah]
def Qar (g : Int) (b : Bool) : List Qay → List Int
 | [] => []
 | l :: r => if l.1 = g then (if b = true then l.2.2.1 else l.2.2.2.1) :: Qar g b r else Qar g b r
theorem QdW (g : Int) (b : Bool) : ∀ ls : List Qay, (Qar g b ls).length ≤ ls.length
 | [] => by simp [Qar]
 | l :: r => by
  have := QdW g b r
  simp only [Qar]
  split
  ·simp only [List.length_cons]; omega
  ·simp only [List.length_cons]; omega
theorem QdX {g : Int} {b : Bool} : ∀ {ls : List Qay}, ∀ v ∈ Qar g b ls, ∃ l ∈ ls, l.1 = g ∧ v = if b = true then l.2.2.1 else l.2.2.2.1
 | [], v, h => by simp [Qar] at h
 | l :: r, v, h => by
  simp only [Qar] at h
  split at h
  ·rename_i hg
   rcases List.mem_cons.1 h with h | h
   ·exact ⟨l, by simp, hg, h⟩
   ·obtain ⟨l', h1, h2⟩ := QdX v h
    exact ⟨l', by simp [h1], h2⟩
  ·obtain ⟨l', h1, h2⟩ := QdX v h
   exact ⟨l', by simp [h1], h2⟩
theorem Qms (p : PolD) (g : Int) (b : Bool) (hl : p.2.1.length ≤ 4) : F_bb (p, g, b, ()) = some ((Qar g b p.2.1, ()), ()) := by
 have key := QbX (step := l_bb_3) (γ := denO o_bb_3) (fun k (out : List Int) => ((p, g, b, out, ((k : Nat) : Int), ()), (), ())) p.2.1.length (QW (by omega)) (fun k out => out.length ≤ k)
  (fun k out => some (.inl ((out ++ Qar g b (p.2.1.drop k), ()), (), ()))) ?_ 0 [] (by omega) (by simp)
 ·have e0 : ((0 : Nat) : Int) = 0 := rfl
  rw [e0, List.drop_zero, List.nil_append] at key
  unfold F_bb
  show (Qc l_bb_3 lots _).bind _ = _
  rw [key, Obn]
 ·rintro rec k out hk ho ih
  unfold l_bb_3
  dsimp only
  by_cases hlt : k < p.2.1.length
  ·rw [if_pos (lt_t hlt), if_pos nat0, Ql hlt, QaB hlt, Qar, QK (by omega)]
   by_cases h : (p.2.1[k]).1 = g
   ·rw [if_neg (by simpa using h), if_pos h]
    cases b
    ·rw [if_neg (by simp), if_pos nat0, Ql hlt, if_pos (by simp only [List.length_cons, List.length_nil]; omega), ih _ hlt (by simp; omega), if_neg (by simp), List.append_assoc]
     rfl
    ·rw [if_pos rfl, if_pos nat0, Ql hlt, if_pos (by simp only [List.length_cons, List.length_nil]; omega), ih _ hlt (by simp; omega), if_pos rfl, List.append_assoc]
     rfl
   ·rw [if_pos (by simpa using h), if_neg h]
    exact ih _ hlt (by omega)
  ·rw [if_neg (lt_f hlt), QaJ hlt, Qar, List.append_nil]
def Qbu : QJ := ([], 0, [], false, false, false, 0, [], [], ())
theorem Qhc (h : QJ) (hl : Qam 1048576 h) : F_ax (h, ()) = some ((h, ()), ()) := by
 obtain ⟨l1, l2, l3, l4⟩ := hl
 unfold F_ax
 dsimp only
 rw [if_pos (by simp only [List.length_nil]; omega), if_pos (by simp only [List.length_nil]; omega), if_pos (by simp only [List.length_nil]; omega), if_pos (by simp only [List.length_nil]; omega)]
 rfl
theorem Qes (m : List Int) (h : m.length ≤ 1048576) : F_el (m, ()) = some ((m, ()), ()) := by
 unfold F_el
 rw [if_pos (by simp only [List.length_nil]; omega)]
 rfl
theorem QdY (h : QJ) (hl : Qam 1048576 h) : F_er (h, ()) = some ((h, ()), ()) := by
 obtain ⟨l1, l2, l3, l4⟩ := hl
 unfold F_er
 dsimp only
 rw [Qes _ l1, Obn, Qes _ l2, Obn, Qes _ l3, Obn, Qes _ l4, Obn]
abbrev Qpw := Int × List Int × Int × List Int × Bool × Bool × Bool × Int × List Int × List Int × List Int × List Int × Unit
def QfN (c : Int) (h : QJ) (o g : List Int) : Qpw := (c, h.1, h.2.1, h.2.2.1, h.2.2.2.1, h.2.2.2.2.1, h.2.2.2.2.2.1, h.2.2.2.2.2.2.1, h.2.2.2.2.2.2.2.1, h.2.2.2.2.2.2.2.2.1, o, g, ())
def Qqh (x : Qx) (g : Int) : Qpw :=
 if Qbn x ≠ 0 then QfN (Qbn x) Qbu [] []
 else if isG x.1 g = true then QfN 0 (x.2.2.1.getD g.toNat Qbu) (Qah x.2.1 (x.1.1.getD g.toNat [])) (Qah x.2.1 (Qar g true x.1.2.1))
 else QfN 4 Qbu [] []
theorem Qsb {x : Qx} (h : Qbn x = 0) : x.2.1.length = 192 ∧ x.2.2.1.length = x.1.1.length := by
 have hp := Qgv h
 unfold Qbn at h
 rw [if_neg (by simpa using hp)] at h
 split at h
 ·rename_i g; exact ⟨g.1.2, g.2⟩
 ·cases h
theorem Qit {x : Qx} {g : Int} (hx : Qcv 1048576 x) (h : Qbn x = 0) (hg : isG x.1 g = true) :
  (0 ≤ g ∧ x.2.2.1[g.toNat]? = some (x.2.2.1.getD g.toNat Qbu) ∧ x.1.1[g.toNat]? = some (x.1.1.getD g.toNat [])) ∧ Qam 1048576 (x.2.2.1.getD g.toNat Qbu) ∧
   ((x.1.1.getD g.toNat []).length ≤ 5 ∧ ∀ p ∈ x.1.1.getD g.toNat [], 0 ≤ p ∧ 8 * p + 8 ≤ (x.2.1.length : Int)) ∧ ∀ p ∈ Qar g true x.1.2.1, 0 ≤ p ∧ 8 * p + 8 ≤ (x.2.1.length : Int) := by
 obtain ⟨g0, g1⟩ := Qgx.1 hg
 obtain ⟨hm, hh⟩ := Qsb h
 have hok := Qku (Qgv h)
 have hk1 : g.toNat < x.1.1.length := by omega
 have hk2 : g.toNat < x.2.2.1.length := by omega
 have e1 : x.1.1[g.toNat]? = some (x.1.1.getD g.toNat []) := by rw [List.getD_eq_getElem?_getD, List.getElem?_eq_getElem hk1]; rfl
 have e2 : x.2.2.1[g.toNat]? = some (x.2.2.1.getD g.toNat Qbu) := by rw [List.getD_eq_getElem?_getD, List.getElem?_eq_getElem hk2]; rfl
 refine ⟨⟨g0, e2, e1⟩, hx.2.2.2 _ (List.mem_of_getElem? e2), ⟨(hok.own1 _ (List.mem_of_getElem? e1)).2.1, fun p hp => ?_⟩, fun p hp => ?_⟩
 ·have := (hok.own1 _ (List.mem_of_getElem? e1)).2.2 p hp
  omega
 ·obtain ⟨l, hl, _, e⟩ := QdX p hp
  rw [if_pos rfl] at e
  have := (QeF hok l hl).2.1
  omega
def vrLe (r : Qpw) : Prop := r.2.1.length ≤ 1048576 ∧ r.2.2.2.1.length ≤ 1048576 ∧ r.2.2.2.2.2.2.2.2.1.length ≤ 1048576 ∧ r.2.2.2.2.2.2.2.2.2.1.length ≤ 1048576 ∧ r.2.2.2.2.2.2.2.2.2.2.1.length ≤ 1048576 ∧ r.2.2.2.2.2.2.2.2.2.2.2.1.length ≤ 1048576
theorem QkZ (c : Int) : vrLe (QfN c Qbu [] []) := by unfold vrLe QfN Qbu; simp
theorem QsX (x : Qx) (g : Int) (hx : Qcv 1048576 x) : vrLe (Qqh x g) := by
 unfold Qqh
 split
 ·exact QkZ _
 ·rename_i h0
  have h0 : Qbn x = 0 := by simpa using h0
  split
  ·rename_i hg
   obtain ⟨_, a1, ⟨a2, a3⟩, a4⟩ := Qit hx h0 hg
   have w1 := Qgh x.2.1 (x.1.1.getD g.toNat [])
   have w2 := Qgh x.2.1 (Qar g true x.1.2.1)
   have w3 := QdW g true x.1.2.1
   have w4 := (Qku (Qgv h0)).lanes.1
   exact ⟨a1.1, a1.2.1, a1.2.2.1, a1.2.2.2, by show (Qah _ _).length ≤ _; omega, by show (Qah _ _).length ≤ _; omega⟩
  ·exact QkZ _
abbrev QL := QJ × List TwoD × List Int × Unit
def QeG (top : Int) (p : TwoD) : Option Int := if inB p.1 (-1) (top - 1) = true then (if inB p.2.1 0 7 = true then (if p.1 = -1 then nz (if p.2.1 = 0 then 0 else 1) else none) else some 3) else some 3
def QaD (l : List TwoD) (top : Int) : Int := if inB top 1 24 = true then (if l.length = 8 then (match scan (fun (_ : Nat) p => QeG top p) 0 l with | some c => c | none => 0) else 1) else 3
theorem QjC (l : List TwoD) (top : Int) (hl : l.length ≤ 1048576) : F_as (l, top, ()) = some ((QaD l top, ()), ()) := by
 unfold F_as QaD
 dsimp only
 rw [QaV, Obn]
 dsimp only
 by_cases ht : inB top 1 24 = true
 case neg => rw [if_pos (by simpa using ht), if_neg ht]
 rw [if_neg (by simpa using ht), if_pos ht]
 by_cases h8 : l.length = 8
 case neg => rw [if_pos (by simp; omega), if_neg h8]
 rw [if_neg (by rw [h8]; decide), if_pos h8]
 have hb := QcS.1 ht
 have key := QQ (step := l_as_6) (γ := denO o_af_2) (fun i => ((l, top, ((i : Nat) : Int), ()), (), ())) l (fun (_ : Nat) p => QeG top p) (fun c => some (.inr (.inl ((c, ()), (), ())))) (some (.inl ((), (), ()))) (QaC hl) ?_ ?_
 ·have e0 : ((0 : Nat) : Int) = 0 := rfl
  rw [e0] at key
  show (Qc l_as_6 lots ((l, top, 0, ()), (), ())).bind _ = _
  rw [key]
  cases scan (fun (_ : Nat) p => QeG top p) 0 l <;> rfl
 ·intro rec i hi
  unfold l_as_6
  dsimp only
  rw [if_pos (lt_t hi), if_pos nat0, Ql hi, QP (n := top - 1) (by omega) (by omega), QaV, Obn, if_pos nat0, Ql hi, QaV, Obn, if_pos nat0, Ql hi, if_pos nat0, Ql hi, QK (lt1 hi hl)]
  dsimp only
  unfold QeG
  by_cases c1 : inB (l[i]).1 (-1) (top - 1) = true
  ·have g1 := QcS.1 c1
   rw [if_pos (show (!inB (l[i]).1 (-1) (top - 1)) = false by rw [c1]; rfl), if_pos c1]
   by_cases c2 : inB (l[i]).2.1 0 7 = true
   ·rw [if_neg (by simpa using c2), if_pos c2]
    by_cases c3 : (l[i]).1 = -1
    ·rw [if_pos (QU.2 (by omega)), if_pos c3]
     by_cases c4 : (l[i]).2.1 = 0
     ·rw [if_neg (by simpa using c4), if_pos c4]; rfl
     ·rw [if_pos (by simpa using c4), if_neg c4]; rfl
    ·rw [if_neg (by rw [QU]; omega), if_neg c3]
   ·rw [if_pos (by simpa using c2), if_neg c2]
  ·rw [if_neg (by simpa using c1), if_neg c1]
 ·intro rec
  unfold l_as_6
  dsimp only
  rw [if_neg Qak]
theorem Qjw (l : List TwoD) (top : Int) (hl : l.length ≤ 1048576) : F_ed (l, top, ()) = some ((QaD l top, ()), ()) := by
 unfold F_ed QaD
 dsimp only
 rw [Qaa, Obn]
 dsimp only
 by_cases ht : inB top 1 24 = true
 case neg => rw [if_pos (by simpa using ht), if_neg ht]
 rw [if_neg (by simpa using ht), if_pos ht]
 by_cases h8 : l.length = 8
 case neg => rw [if_pos (by simp; omega), if_neg h8]
 rw [if_neg (by rw [h8]; decide), if_pos h8]
 have hb := QcS.1 ht
 have key := QQ (step := l_ed_6) (γ := denO o_ed_6) (fun i => ((top, l, ((l.length : Nat) : Int), ((i : Nat) : Int), ()), (), ())) l (fun (_ : Nat) p => QeG top p) (fun c => some (.inr (.inl ((c, ()), (), ())))) (some (.inl ((), (), ()))) (QaC hl) ?_ ?_
 ·have e0 : ((0 : Nat) : Int) = 0 := rfl
  rw [e0] at key
  show (Qc l_ed_6 lots ((top, l, ((l.length : Nat) : Int), 0, ()), (), ())).bind _ = _
  rw [key]
  cases scan (fun (_ : Nat) p => QeG top p) 0 l <;> rfl
 ·intro rec i hi
  unfold l_ed_6
  dsimp only
  rw [if_pos (lt_t hi), if_pos nat0, Ql hi, QP (n := top - 1) (by omega) (by omega), Qaa, Obn, Qaa, Obn, QK (lt1 hi hl)]
  dsimp only
  unfold QeG
  by_cases c1 : inB (l[i]).1 (-1) (top - 1) = true
  ·have g1 := QcS.1 c1
   rw [if_pos (show (!inB (l[i]).1 (-1) (top - 1)) = false by rw [c1]; rfl), if_pos c1]
   by_cases c2 : inB (l[i]).2.1 0 7 = true
   ·rw [if_neg (by simpa using c2), if_pos c2]
    by_cases c3 : (l[i]).1 = -1
    ·rw [if_pos (by simpa using c3), if_pos c3]
     by_cases c4 : (l[i]).2.1 = 0
     ·rw [if_neg (by simpa using c4), if_pos c4]; rfl
     ·rw [if_pos (by simpa using c4), if_neg c4]; rfl
    ·rw [if_neg (by simpa using c3), if_neg c3]
   ·rw [if_pos (by simpa using c2), if_neg c2]
  ·rw [if_neg (by simpa using c1), if_neg c1]
 ·intro rec
  unfold l_ed_6
  dsimp only
  rw [if_neg Qak]
def Qce (n : Nat) (x : QL) : Prop := Qam n x.1 ∧ x.2.1.length ≤ n ∧ x.2.2.1.length ≤ n
def QS (x : QL) : Int := if hartM x.1 ≠ 0 then hartM x.1 else if QaD x.2.1 8 ≠ 0 then QaD x.2.1 8 else if QC x.2.2.1 = 0 ∧ x.2.2.1.length = 64 then 0 else 1
theorem Qng {m : List Int} : (if (QC m != 0) = false then (if (((m.length : Nat) : Int) != 64) = true then some ((((1 : Int), ()), ()) : (Int × Unit) × Unit) else some (((0 : Int), ()), ())) else some (((1 : Int), ()), ())) = some ((if QC m = 0 ∧ m.length = 64 then 0 else 1, ()), ()) := by
 by_cases g2 : QC m = 0
 ·by_cases g3 : m.length = 64
  ·simp [g2, g3]
  ·have : ¬ ((m.length : Nat) : Int) = 64 := by omega
   simp [g2, g3, this]
 ·simp [g2]
theorem QeT (x : QL) (h : Qce 1048576 x) : F_at (x, ()) = some ((QS x, ()), ()) := by
 obtain ⟨h1, h2, h3⟩ := h
 unfold F_at QS
 dsimp only
 rw [QeQ _ h1, Obn]
 dsimp only
 by_cases g0 : hartM x.1 = 0
 case neg => rw [if_pos (c := (hartM x.1 != 0) = true) (by simpa using g0), if_pos (c := hartM x.1 ≠ 0) g0]
 rw [if_neg (c := (hartM x.1 != 0) = true) (by simpa using g0), if_neg (c := hartM x.1 ≠ 0) (by simpa using g0), QjC _ _ h2, Obn]
 dsimp only
 by_cases g1 : QaD x.2.1 8 = 0
 case neg => rw [if_pos (c := (QaD x.2.1 8 != 0) = true) (by simpa using g1), if_pos (c := QaD x.2.1 8 ≠ 0) g1]
 rw [if_neg (c := (QaD x.2.1 8 != 0) = true) (by simpa using g1), if_neg (c := QaD x.2.1 8 ≠ 0) (by simpa using g1), QgJ _ (leM h3), Obn]
 exact Qng
theorem QmC (x : QL) (h : Qce 1048576 x) : F_ef (x, ()) = some ((QS x, ()), ()) := by
 obtain ⟨h1, h2, h3⟩ := h
 unfold F_ef QS
 dsimp only
 rw [QhA _ h1, Obn, Qjw _ _ h2, Obn, QbZ, Obn]
 dsimp only
 by_cases g0 : hartM x.1 = 0
 case neg =>
  have e1 : (if hartM x.1 ≠ 0 then hartM x.1 else QaD x.2.1 8) = hartM x.1 := if_pos g0
  rw [e1, if_pos (c := (hartM x.1 != 0) = true) (by simpa using g0), if_pos (c := hartM x.1 ≠ 0) g0]
 have e1 : (if hartM x.1 ≠ 0 then hartM x.1 else QaD x.2.1 8) = QaD x.2.1 8 := if_neg (by simpa using g0)
 rw [e1, if_neg (c := hartM x.1 ≠ 0) (by simpa using g0)]
 by_cases g1 : QaD x.2.1 8 = 0
 case neg => rw [if_pos (c := (QaD x.2.1 8 != 0) = true) (by simpa using g1), if_pos (c := QaD x.2.1 8 ≠ 0) g1]
 rw [if_neg (c := (QaD x.2.1 8 != 0) = true) (by simpa using g1), if_neg (c := QaD x.2.1 8 ≠ 0) (by simpa using g1), Qgw _ (leM h3), Obn]
 exact Qng
theorem QbW {x : QL} (h : QS x = 0) : hartM x.1 = 0 ∧ QaD x.2.1 8 = 0 ∧ QC x.2.2.1 = 0 ∧ x.2.2.1.length = 64 := by
 unfold QS at h
 split at h
 ·rename_i g; exact absurd h g
 ·rename_i g0
  split at h
  ·rename_i g; exact absurd h g
  ·rename_i g1
   split at h
   ·rename_i g2; exact ⟨by simpa using g0, by simpa using g1, g2⟩
   ·cases h
theorem QkY (m : List Int) : ∀ (n k : Nat), Qah m (Qbw (k : Int) n) = (m.drop (8 * k)).take (8 * n)
 | 0, k => by simp [Qbw, Qah]
 | n + 1, k => by
  have ih := QkY m n (k + 1)
  have e : ((k + 1 : Nat) : Int) = (k : Int) + 1 := by omega
  rw [e] at ih
  simp only [Qbw, Qah, List.flatMap_cons] at ih ⊢
  rw [ih]
  unfold pg
  rw [Int.toNat_natCast, show 8 * (n + 1) = 8 + 8 * n by omega, List.take_add, List.drop_drop]
  congr 2
theorem QhL : ∀ {n : Nat} {k : Int} {v : Int}, v ∈ Qbw k n → k ≤ v ∧ v < k + (n : Int)
 | 0, k, v, h => by simp [Qbw] at h
 | n + 1, k, v, h => by
  simp only [Qbw] at h
  rcases List.mem_cons.1 h with h | h
  ·omega
  ·have := QhL h; omega
def Qfm (p : PolD) (x : QL) (g : Int) : Qpw :=
 if askM p g ≠ 0 then QfN (askM p g) Qbu [] []
 else if QS x ≠ 0 then QfN (QS x) Qbu [] []
 else QfN 0 x.1 (x.2.2.1.take (8 * (p.1.getD g.toNat []).length)) (Qah x.2.2.1 (Qar g false p.2.1))
theorem QjT {p : PolD} {g : Int} (h : askM p g = 0) : OkPol p ∧ 0 ≤ g ∧ p.1[g.toNat]? = some (p.1.getD g.toNat []) ∧ (p.1.getD g.toNat []).length ≤ 5 := by
 obtain ⟨hok, g0, g1⟩ := Quf h
 have hk : g.toNat < p.1.length := by omega
 have e1 : p.1[g.toNat]? = some (p.1.getD g.toNat []) := by rw [List.getD_eq_getElem?_getD, List.getElem?_eq_getElem hk]; rfl
 exact ⟨hok, g0, e1, (hok.own1 _ (List.mem_of_getElem? e1)).2.1⟩
theorem QrZ {p : PolD} (hok : OkPol p) {g : Int} {n : Nat} (hn : 64 ≤ n) : ∀ q ∈ Qar g false p.2.1, 0 ≤ q ∧ 8 * q + 8 ≤ (n : Int) := by
 intro q hq
 obtain ⟨l, hl, _, e⟩ := QdX q hq
 rw [if_neg (by simp)] at e
 have := (QeF hok l hl).2.2.1
 omega
theorem QhS (p : PolD) (x : QL) (g : Int) (hp : QfH 1048576 p) (hx : Qce 1048576 x) : F_be (p, x, g, ()) = some ((Qfm p x g, ()), ()) := by
 unfold F_be Qfm
 dsimp only
 rw [QoI p g hp, Obn]
 dsimp only
 by_cases h0 : askM p g = 0
 case neg => rw [if_pos (by simpa using h0), if_pos h0]; rfl
 rw [if_neg (by simpa using h0), if_neg (by simpa using h0), QeT x hx, Obn]
 dsimp only
 by_cases h1 : QS x = 0
 case neg => rw [if_pos (by simpa using h1), if_pos h1]; rfl
 rw [if_neg (by simpa using h1), if_neg (by simpa using h1)]
 obtain ⟨hok, g0, e1, hl5⟩ := QjT h0
 obtain ⟨_, _, _, hm⟩ := QbW h1
 generalize p.1.getD g.toNat [] = ow at *
 have key := QbX (step := l_be_9) (γ := denO o_be_9)
  (fun k (out : List Int) => ((g, (), (), (), out, ((k : Nat) : Int), ()), ((p.1, p.2.1, p.2.2.1, p.2.2.2.1, ()), (x.1.1, x.1.2.1, x.1.2.2.1, x.1.2.2.2.1, x.1.2.2.2.2.1, x.1.2.2.2.2.2.1, x.1.2.2.2.2.2.2.1, x.1.2.2.2.2.2.2.2.1, x.1.2.2.2.2.2.2.2.2.1, x.2.1, x.2.2.1, ()), (0, [], 0, [], false, false, false, 0, [], [], [], [], ()), ()), ()))
  ow.length (QW (by omega)) (fun k out => out.length = k)
  (fun k out => some (.inl ((g, (), (), (), out ++ Qbw (k : Int) (ow.length - k), ()), ((p.1, p.2.1, p.2.2.1, p.2.2.2.1, ()), (x.1.1, x.1.2.1, x.1.2.2.1, x.1.2.2.2.1, x.1.2.2.2.2.1, x.1.2.2.2.2.2.1, x.1.2.2.2.2.2.2.1, x.1.2.2.2.2.2.2.2.1, x.1.2.2.2.2.2.2.2.2.1, x.2.1, x.2.2.1, ()), (0, [], 0, [], false, false, false, 0, [], [], [], [], ()), ()), ()))) ?_ 0 [] (by omega) rfl
 ·have e0 : ((0 : Nat) : Int) = 0 := rfl
  rw [e0, Nat.sub_zero, List.nil_append] at key
  show (Qc l_be_9 lots _).bind _ = _
  rw [key, Obn]
  dsimp only
  show (F_ax (x.1, ())).bind _ = _
  have w0 := QkY x.2.2.1 ow.length 0
  rw [e0, Nat.mul_zero, List.drop_zero] at w0
  rw [Qhc _ hx.1, Obn, Qbs _ _ (by omega) (fun q hq => by have := QhL hq; omega) (by rw [QhK]; omega), Obn, w0]
  show (F_bb (p, g, false, ())).bind _ = _
  rw [Qms p g false hok.lanes.1, Obn, Qbs _ _ (by omega) (QrZ hok (by omega)) (by have := QdW g false p.2.1; have := hok.lanes.1; omega), Obn]
  rfl
 ·rintro rec k out hk ho ih
  unfold l_be_9
  dsimp only
  rw [if_pos g0, e1, Obn]
  by_cases hlt : k < ow.length
  ·rw [if_pos (lt_t hlt), if_pos (by simp only [List.length_cons, List.length_nil]; omega), QK (by omega), ih _ hlt (by simp [ho])]
   have e2 : ow.length - k = (ow.length - (k + 1)) + 1 := by omega
   have e3 : ((k + 1 : Nat) : Int) = (k : Int) + 1 := by omega
   rw [e2, Qbw, e3, List.append_assoc]
   rfl
  ·have e2 : ow.length - k = 0 := by omega
   rw [if_neg (lt_f hlt), e2, Qbw, List.append_nil]
theorem QoZ (m : List TwoD) (n : Int) (h0 : 0 ≤ n) (h1 : n ≤ 1048576) (h2 : m.length ≤ maxLen) : ∃ r : Int, F_j (m, n, ()) = some ((r, ()), ()) ∧ (r < 0 ∨ (0 ≤ r ∧ r ≤ n ∧ m.length ≤ 1048576)) :=
 QhY (F := F_j) (fun _ _ => rfl) m h2 n h0 h1
theorem Qru (v : QL) (n : Int) (h0 : 0 ≤ n) (h1 : n ≤ 1048576) (h2 : Qce maxLen v) : ∃ r : Int, F_k (v, n, ()) = some ((r, ()), ()) ∧ (r < 0 ∨ (0 ≤ r ∧ r ≤ n ∧ Qce 1048576 v)) := by
 obtain ⟨a1, a2, a3⟩ := h2
 unfold F_k
 simp only [QT, decide_eq_true_eq]
 obtain ⟨r1, e1, c1⟩ := QkK v.1 n h0 h1 a1
 rw [e1, Obn]
 by_cases d1 : r1 < 0
 ·exact ⟨-1, by rw [if_pos d1], .inl (by omega)⟩
 rw [if_neg d1]
 have c1 := c1.resolve_left d1
 obtain ⟨r2, e2, c2⟩ := QoZ v.2.1 r1 (by omega) (by omega) a2
 rw [e2, Obn]
 by_cases d2 : r2 < 0
 ·exact ⟨-1, by rw [if_pos d2], .inl (by omega)⟩
 rw [if_neg d2]
 have c2 := c2.resolve_left d2
 obtain ⟨r3, e3, c3⟩ := Qdd v.2.2.1 r2 (by omega) (by omega) a3
 rw [e3, Obn]
 by_cases d3 : r3 < 0
 ·exact ⟨-1, by rw [if_pos d3], .inl (by omega)⟩
 rw [if_neg d3]
 have c3 := c3.resolve_left d3
 exact ⟨r3, rfl, .inr ⟨by omega, by omega, c1.2.2, c2.2.2, c3.2.2⟩⟩
theorem Qpe (m : List TwoD) (h : m.length ≤ 1048576) : F_y (m, ()) = some ((m, ()), ()) :=
 Qfo (by_ := 16) (F := F_y) (step := l_y_3) (f := fun y => F_x (y, ())) (g := fun r => r.1.1) (fun _ => rfl) (fun _ => rfl) (fun _ _ _ _ => rfl) (by omega) m h fun y hy => ⟨_, rfl, rfl⟩
theorem Qry (x : QL) (h : Qce 1048576 x) : F_z (x, ()) = some (((x.1.1, x.1.2.1, x.1.2.2.1, x.1.2.2.2.1, x.1.2.2.2.2.1, x.1.2.2.2.2.2.1, x.1.2.2.2.2.2.2.1, x.1.2.2.2.2.2.2.2.1, x.1.2.2.2.2.2.2.2.2.1, x.2.1, x.2.2.1, ()), ()), ()) := by
 obtain ⟨h1, h2, h3⟩ := h
 unfold F_z
 rw [QkN _ h1, Obn, Qpe _ h2, Obn, Qbj _ (le8 h3), Obn]
theorem Qtl (y : TwoD) : F_hk (y, y, ()) = some ((true, ()), ()) := by
 unfold F_hk; simp
theorem QnZ (m : List TwoD) (h : m.length ≤ 1048576) : F_hl (m, m, ()) = some ((true, ()), ()) :=
 Qfa (F := F_hl) (step := l_hl_4) (f := fun y y' => F_hk (y, y', ())) (fun _ => rfl) (fun _ => rfl) (fun _ _ _ _ => rfl) m (QaC h) fun y hy => Qtl y
theorem Qqy (x : QL) (h : Qce 1048576 x) : F_hm (x, x, ()) = some ((true, ()), ()) := by
 obtain ⟨h1, h2, h3⟩ := h
 unfold F_hm
 rw [QjX _ h1, Obn, if_neg (by simp), QnZ _ h2, Obn, if_neg (by simp), Qbe _ (leM h3), Obn, if_neg (by simp)]
def WW (n : Int) : Prop := 0 ≤ n ∧ n ≤ 4294967295
theorem Quk (n : Int) : iand .i64 n 4294967295 = n % 4294967296 := by
 have h1 : (BitVec.ofInt 64 4294967295).toNat = 2 ^ 32 - 1 := by decide
 have key : (BitVec.ofInt 64 n &&& BitVec.ofInt 64 4294967295).toNat = (n % ((2 ^ 64 : Nat) : Int)).toNat % 2 ^ 32 := by
  rw [BitVec.toNat_and, BitVec.toNat_ofInt, h1, Nat.and_two_pow_sub_one_eq_mod]
 show IntKind.i64.wrap ((BitVec.ofInt 64 n &&& BitVec.ofInt 64 4294967295).toNat : Nat) = _
 rw [key, IntKind.wrap_i64]
 omega
theorem Qop (n : Int) : iand .i64 n 65535 = n % 65536 := by
 have h1 : (BitVec.ofInt 64 65535).toNat = 2 ^ 16 - 1 := by decide
 have key : (BitVec.ofInt 64 n &&& BitVec.ofInt 64 65535).toNat = (n % ((2 ^ 64 : Nat) : Int)).toNat % 2 ^ 16 := by
  rw [BitVec.toNat_and, BitVec.toNat_ofInt, h1, Nat.and_two_pow_sub_one_eq_mod]
 show IntKind.i64.wrap ((BitVec.ofInt 64 n &&& BitVec.ofInt 64 65535).toNat : Nat) = _
 rw [key, IntKind.wrap_i64]
 omega
theorem QpK (n : Int) : iand .i64 n 15 = n % 16 := by
 have h1 : (BitVec.ofInt 64 15).toNat = 2 ^ 4 - 1 := by decide
 have key : (BitVec.ofInt 64 n &&& BitVec.ofInt 64 15).toNat = (n % ((2 ^ 64 : Nat) : Int)).toNat % 2 ^ 4 := by
  rw [BitVec.toNat_and, BitVec.toNat_ofInt, h1, Nat.and_two_pow_sub_one_eq_mod]
 show IntKind.i64.wrap ((BitVec.ofInt 64 n &&& BitVec.ofInt 64 15).toNat : Nat) = _
 rw [key, IntKind.wrap_i64]
 omega
def wd (n : Int) : Int := n % 4294967296
theorem QY (n : Int) : WW (wd n) := by unfold wd WW; omega
theorem Qfq {n : Int} (h : WW n) : wd n = n := by unfold wd WW at *; omega
theorem QuE (n : Int) : wd (wd n) = wd n := Qfq (QY n)
theorem Qdf (n : Int) : IntKind.u32.wrap n = wd n := by rw [IntKind.wrap_u32]; rfl
theorem QdZ (n : Int) : IntKind.i64.wrap (wd n) = wd n := by rw [IntKind.wrap_i64]; unfold wd; omega
theorem Qt {n : Int} (h0 : -9223372036854775808 ≤ n) (h1 : n ≤ 9223372036854775807) : IntKind.i64.wrap n = n := QP h0 h1
theorem Qgf (n : Int) : F_cd (n, ()) = some ((wd n, ()), ()) := by
 unfold F_cd; simp only [Qdf, QdZ]
theorem QhN (x) : F_cd x = some ((wd x.1, ()), ()) := Qgf x.1
theorem QfV (n : Int) : F_fu (n, ()) = some ((wd n, ()), ()) := by
 unfold F_fu; simp only [Quk]; rfl
theorem Qbf (x) : F_fu x = some ((wd x.1, ()), ()) := QfV x.1
def sg (n : Int) : Int := if wd n < 2147483648 then wd n else wd n - 4294967296
theorem Qel (n : Int) : F_ch (n, ()) = some ((sg n, ()), ()) := by
 unfold F_ch sg
 simp only [Qdf]
 have h := QY n
 generalize wd n = w at *
 unfold WW at h
 have e : IntKind.i64.wrap (IntKind.i32.wrap w) = if w < 2147483648 then w else w - 4294967296 := by
  rw [IntKind.wrap_i64, IntKind.wrap_i32]
  split <;> omega
 rw [e]
theorem QdD (x) : F_ch x = some ((sg x.1, ()), ()) := Qel x.1
theorem Qeb (n : Int) : F_gc (n, ()) = some ((sg n, ()), ()) := by
 unfold F_gc sg
 simp only [Qbf, Obn]
 have h := QY n
 generalize wd n = w at *
 unfold WW at h
 by_cases hw : w < 2147483648
 ·rw [if_pos (QU.2 hw), if_pos hw]
 ·rw [if_neg (by rw [QU]; exact hw), if_neg hw, Qt (n := w - 4294967295) (by omega) (by omega), Qt (n := w - 4294967295 - 1) (by omega) (by omega), show w - 4294967295 - 1 = w - 4294967296 by omega]
theorem Qdw (x) : F_gc x = some ((sg x.1, ()), ()) := Qeb x.1
theorem QtZ (n : Int) : -2147483648 ≤ sg n ∧ sg n ≤ 2147483647 := by
 unfold sg; have := QY n; unfold WW at this; split <;> omega
theorem Qfl (n : Int) : sg n = 0 ↔ wd n = 0 := by
 unfold sg; have := QY n; unfold WW at this; split <;> omega
def addW (a b : Int) : Int := wd (a + b)
theorem QcL (a b : Int) : F_bz (a, b, ()) = some ((addW a b, ()), ()) := by
 unfold F_bz addW
 simp only [Qdf, QdZ, show wd (wd a + wd b) = wd (a + b) by unfold wd; omega]
theorem QoH (x) : F_bz x = some ((addW x.1 x.2.1, ()), ()) := QcL x.1 x.2.1
theorem Qfb (a b : Int) : F_fv (a, b, ()) = some ((addW a b, ()), ()) := by
 unfold F_fv addW
 simp only [Qbf, Obn]
 have ha := QY a; have hb := QY b
 unfold WW at ha hb
 rw [Qt (by omega) (by omega), show wd (wd a + wd b) = wd (a + b) by unfold wd; omega]
theorem Qob (x) : F_fv x = some ((addW x.1 x.2.1, ()), ()) := Qfb x.1 x.2.1
theorem QjN (a b : Int) : WW (addW a b) := QY _
theorem Qtb (n : Int) : IntKind.i16.wrap n = (n + 32768) % 65536 - 32768 := by
 simp only [IntKind.wrap, IntKind.bits, IntKind.signed, Bool.true_and, ge_iff_le, decide_eq_true_eq, Int.reducePow, Nat.reduceSub]
 split <;> omega
def off (n : Int) : Int := if 32768 ≤ n % 65536 then n % 65536 - 65536 else n % 65536
theorem QkG (n : Int) : F_ca (n, ()) = some ((off n, ()), ()) := by
 unfold F_ca off
 have e : IntKind.i64.wrap (IntKind.i16.wrap (IntKind.u16.wrap n)) = if 32768 ≤ n % 65536 then n % 65536 - 65536 else n % 65536 := by
  rw [IntKind.wrap_i64, Qtb, IntKind.wrap_u16]
  split <;> omega
 simp only [e]
theorem QqP (n : Int) : F_fw (n, ()) = some ((off n, ()), ()) := by
 unfold F_fw off
 simp only [Qop]
 by_cases h : 32768 ≤ n % 65536
 ·rw [if_pos (QaZ.2 h), if_pos h, Qt (by omega) (by omega)]
 ·rw [if_neg (by rw [QaZ]; exact h), if_neg h]
def mulW (a b : Int) : Int := wd (wd a * wd b)
theorem Qrp (a b : Int) : F_cl (a, b, ()) = some ((mulW a b, ()), ()) := by
 unfold F_cl mulW; simp only [Qdf, QdZ]
theorem QoO (x) : F_cl x = some ((mulW x.1 x.2.1, ()), ()) := Qrp x.1 x.2.1
theorem QqO (a b : Int) : F_gf (a, b, ()) = some ((mulW a b, ()), ()) := by
 unfold F_gf mulW; simp only [Qdf, QdZ]
theorem Qog (x) : F_gf x = some ((mulW x.1 x.2.1, ()), ()) := QqO x.1 x.2.1
theorem Qqa (a b : Int) (h : -2147483648 ≤ a ∧ a ≤ 2147483647) : -2147483648 ≤ a.tdiv b ∧ a.tdiv b ≤ 2147483648 := by
 have h1 : (a.tdiv b).natAbs = a.natAbs / b.natAbs := Int.natAbs_tdiv a b
 have h2 : a.natAbs / b.natAbs ≤ a.natAbs := Nat.div_le_self _ _
 omega
def divW (a b : Int) : Int := if wd b = 0 then 4294967295 else wd ((sg a).tdiv (sg b))
theorem Qrj (a b : Int) : F_cm (a, b, ()) = some ((divW a b, ()), ()) := by
 unfold F_cm divW
 simp only [QhN, QdD, Obn]
 by_cases h : wd b = 0
 ·rw [if_pos (by simpa using h), if_pos h]
 ·have hs : ¬ sg b = 0 := fun e => h ((Qfl b).1 e)
  have := Qqa (sg a) (sg b) (QtZ a)
  rw [if_neg (by simpa using h), if_neg h, if_neg hs, Qt (by omega) (by omega)]
theorem QoM (x) : F_cm x = some ((divW x.1 x.2.1, ()), ()) := Qrj x.1 x.2.1
theorem QqI (a b : Int) : F_gg (a, b, ()) = some ((divW a b, ()), ()) := by
 unfold F_gg divW
 simp only [Qbf, Qdw, Obn]
 by_cases h : wd b = 0
 ·rw [if_pos (by simpa using (Qfl b).2 h), if_pos h]
 ·have hs : ¬ sg b = 0 := fun e => h ((Qfl b).1 e)
  have := Qqa (sg a) (sg b) (QtZ a)
  rw [if_neg (by simpa using hs), if_neg h, if_neg hs, Qt (by omega) (by omega)]
theorem Qoe (x) : F_gg x = some ((divW x.1 x.2.1, ()), ()) := QqI x.1 x.2.1
def remW (a b : Int) : Int := if wd b = 0 then wd a else wd ((sg a).tmod (sg b))
theorem Qrq (a b : Int) : F_cn (a, b, ()) = some ((remW a b, ()), ()) := by
 unfold F_cn remW
 simp only [QhN, QdD, Obn]
 by_cases h : wd b = 0
 ·rw [if_pos (by simpa using h), if_pos h]
 ·have hs : ¬ sg b = 0 := fun e => h ((Qfl b).1 e)
  rw [if_neg (by simpa using h), if_neg h, if_neg hs]
theorem QoQ (x) : F_cn x = some ((remW x.1 x.2.1, ()), ()) := Qrq x.1 x.2.1
theorem QqR (a b : Int) : F_gh (a, b, ()) = some ((remW a b, ()), ()) := by
 unfold F_gh remW
 simp only [Qbf, Qdw, Obn]
 by_cases h : wd b = 0
 ·rw [if_pos (by simpa using (Qfl b).2 h), if_pos h]
 ·have hs : ¬ sg b = 0 := fun e => h ((Qfl b).1 e)
  rw [if_neg (by simpa using hs), if_neg h, if_neg hs]
theorem Qoj (x) : F_gh x = some ((remW x.1 x.2.1, ()), ()) := QqR x.1 x.2.1
theorem Qhq (n : Int) : ∃ k : Nat, wd n = (k : Int) ∧ k < 4294967296 := ⟨(wd n).toNat, by have := QY n; unfold WW at this; omega, by have := QY n; unfold WW at this; omega⟩
theorem Qff {k : Nat} (h : k < 4294967296) : (BitVec.ofInt 32 (k : Int)).toNat = k := by
 rw [BitVec.ofInt_natCast, BitVec.toNat_ofNat]; exact Nat.mod_eq_of_lt (by omega)
theorem Qfg {k : Nat} (h : k < 4294967296) : (BitVec.ofInt 64 (k : Int)).toNat = k := by
 rw [BitVec.ofInt_natCast, BitVec.toNat_ofNat]; exact Nat.mod_eq_of_lt (by omega)
def bitN (op : Int) (a b : Nat) : Nat := if op = 1 then a &&& b else if op = 2 then a ||| b else a ^^^ b
def bitW (op a b : Int) : Int := (bitN op (wd a).toNat (wd b).toNat : Int)
theorem Qlk (op : Int) {a b : Nat} (ha : a < 4294967296) (hb : b < 4294967296) : bitN op a b < 4294967296 := by
 unfold bitN
 split
 ·exact Nat.and_lt_two_pow (n := 32) _ (by omega)
 ·split
  ·exact Nat.or_lt_two_pow (n := 32) (by omega) (by omega)
  ·exact Nat.xor_lt_two_pow (n := 32) (by omega) (by omega)
theorem Qqq (op a b : Int) : WW (bitW op a b) := by
 obtain ⟨x, hx, hx2⟩ := Qhq a
 obtain ⟨y, hy, hy2⟩ := Qhq b
 unfold bitW WW
 rw [hx, hy]
 have := Qlk op hx2 hy2
 simp only [Int.toNat_natCast]
 omega
theorem Qhn (op a b : Int) (h : op = 1 ∨ op = 2 ∨ op = 3) : F_co (op, a, b, ()) = some (((0, bitW op a b, ()), ()), ()) := by
 unfold F_co bitW
 simp only [Qdf]
 obtain ⟨x, hx, hx2⟩ := Qhq a
 obtain ⟨y, hy, hy2⟩ := Qhq b
 rw [hx, hy]
 simp only [Int.toNat_natCast]
 have hlt := Qlk op hx2 hy2
 rcases h with rfl | rfl | rfl
 ·rw [if_pos (by decide)]
  show some (((0, IntKind.i64.wrap (IntKind.u32.wrap ((BitVec.ofInt 32 (x : Int) &&& BitVec.ofInt 32 (y : Int)).toNat : Int)), ()), ()), ()) = _
  have : bitN 1 x y = x &&& y := rfl
  rw [BitVec.toNat_and, Qff hx2, Qff hy2, ← this, Qdf, QdZ, Qfq (by unfold WW; omega)]
 ·rw [if_neg (by decide), if_pos (by decide)]
  show some (((0, IntKind.i64.wrap (IntKind.u32.wrap ((BitVec.ofInt 32 (x : Int) ||| BitVec.ofInt 32 (y : Int)).toNat : Int)), ()), ()), ()) = _
  have : bitN 2 x y = x ||| y := rfl
  rw [BitVec.toNat_or, Qff hx2, Qff hy2, ← this, Qdf, QdZ, Qfq (by unfold WW; omega)]
 ·rw [if_neg (by decide), if_neg (by decide), if_pos (by decide)]
  show some (((0, IntKind.i64.wrap (IntKind.u32.wrap ((BitVec.ofInt 32 (x : Int) ^^^ BitVec.ofInt 32 (y : Int)).toNat : Int)), ()), ()), ()) = _
  have : bitN 3 x y = x ^^^ y := rfl
  rw [BitVec.toNat_xor, Qff hx2, Qff hy2, ← this, Qdf, QdZ, Qfq (by unfold WW; omega)]
theorem Qha (op a b : Int) (h : op = 1 ∨ op = 2 ∨ op = 3) : F_gi (op, a, b, ()) = some (((0, bitW op a b, ()), ()), ()) := by
 unfold F_gi bitW
 simp only [Qbf, Obn]
 obtain ⟨x, hx, hx2⟩ := Qhq a
 obtain ⟨y, hy, hy2⟩ := Qhq b
 rw [hx, hy]
 simp only [Int.toNat_natCast]
 have hlt := Qlk op hx2 hy2
 rcases h with rfl | rfl | rfl
 ·rw [if_pos (by decide)]
  show some (((0, IntKind.i64.wrap ((BitVec.ofInt 64 (x : Int) &&& BitVec.ofInt 64 (y : Int)).toNat : Int), ()), ()), ()) = _
  have : bitN 1 x y = x &&& y := rfl
  rw [BitVec.toNat_and, Qfg hx2, Qfg hy2, ← this, Qt (by omega) (by omega)]
 ·rw [if_neg (by decide), if_pos (by decide)]
  show some (((0, IntKind.i64.wrap ((BitVec.ofInt 64 (x : Int) ||| BitVec.ofInt 64 (y : Int)).toNat : Int), ()), ()), ()) = _
  have : bitN 2 x y = x ||| y := rfl
  rw [BitVec.toNat_or, Qfg hx2, Qfg hy2, ← this, Qt (by omega) (by omega)]
 ·rw [if_neg (by decide), if_neg (by decide), if_pos (by decide)]
  show some (((0, IntKind.i64.wrap ((BitVec.ofInt 64 (x : Int) ^^^ BitVec.ofInt 64 (y : Int)).toNat : Int), ()), ()), ()) = _
  have : bitN 3 x y = x ^^^ y := rfl
  rw [BitVec.toNat_xor, Qfg hx2, Qfg hy2, ← this, Qt (by omega) (by omega)]
def shW (a b : Int) (left : Bool) : Int := if left = true then wd (wd a * 2 ^ (wd b % 32).toNat) else wd a / 2 ^ (wd b % 32).toNat
theorem Qnb {a : Int} (h : WW a) (k : Nat) : WW (a / 2 ^ k) := by
 unfold WW at *
 have h2 : (0 : Int) < 2 ^ k := Int.pow_pos (by omega)
 exact ⟨Int.ediv_nonneg h.1 (by omega), Int.le_trans (Int.ediv_le_self _ h.1) h.2⟩
theorem QsI (a b : Int) (l : Bool) : WW (shW a b l) := by
 unfold shW; split
 ·exact QY _
 ·exact Qnb (QY a) _
theorem QsC {k : Nat} (h : k < 32) : (2 : Int) ^ k ≤ 2147483648 := by
 have : (2 : Nat) ^ k ≤ 2 ^ 31 := Nat.pow_le_pow_right (by omega) (by omega)
 have h2 : ((2 ^ k : Nat) : Int) ≤ ((2 ^ 31 : Nat) : Int) := Int.ofNat_le.2 this
 simpa using h2
theorem QsP {w : Int} (h : WW w) : w.tmod 32 = w % 32 := Int.tmod_eq_emod_of_nonneg h.1
theorem Qcm {a : Int} (h : 0 ≤ a) (k : Nat) : a.fdiv (2 ^ k) = a / 2 ^ k := Int.fdiv_eq_ediv_of_nonneg _ (Int.le_of_lt (Int.pow_pos (by omega)))
theorem Qnq (a b : Int) (l : Bool) : F_cp (a, b, l, ()) = some ((shW a b l, ()), ()) := by
 unfold F_cp shW
 simp only [Qdf, QsP (QY b)]
 have hw := QY a
 have hb : 0 ≤ wd b % 32 ∧ wd b % 32 < 32 := by omega
 have e : IntKind.u64.wrap (wd b % 32) = wd b % 32 := by rw [IntKind.wrap_u64]; omega
 have e2 : min (wd b % 32).toNat 32 = (wd b % 32).toNat := by omega
 rw [e, e2]
 cases l
 ·rw [if_neg (by decide), if_neg (by omega), if_neg (by decide), Qcm hw.1]
  have := Qnb hw (wd b % 32).toNat
  unfold WW at this
  rw [Qt (by omega) (by omega)]
 ·rw [if_pos rfl, if_neg (by omega), if_pos rfl, QdZ]
theorem QlH (x) : F_cp x = some ((shW x.1 x.2.1 x.2.2.1, ()), ()) := Qnq x.1 x.2.1 x.2.2.1
theorem QmB (a b : Int) (l : Bool) : F_gj (a, b, l, ()) = some ((shW a b l, ()), ()) := by
 unfold F_gj shW
 simp only [Qbf, Obn, QsP (QY b)]
 have hw := QY a
 have hb : 0 ≤ wd b % 32 ∧ wd b % 32 < 32 := by omega
 have e2 : min (wd b % 32).toNat 64 = (wd b % 32).toNat := by omega
 rw [e2]
 cases l
 ·rw [if_neg (by decide), if_neg (by omega), if_neg (by decide), Qcm hw.1]
 ·rw [if_pos rfl, if_neg (by omega), if_pos rfl]
  have h1 := QsC (k := (wd b % 32).toNat) (by omega)
  have h0 : (0 : Int) < 2 ^ (wd b % 32).toNat := Int.pow_pos (by omega)
  unfold WW at hw
  generalize (2 : Int) ^ (wd b % 32).toNat = p at *
  have q0 : 0 ≤ wd a * p := Int.mul_nonneg hw.1 (by omega)
  have q1 : wd a * p ≤ 4294967295 * 2147483648 := Int.mul_le_mul hw.2 h1 (by omega) (by omega)
  rw [Qt (by omega) (by omega)]
theorem Qls (x) : F_gj x = some ((shW x.1 x.2.1 x.2.2.1, ()), ()) := QmB x.1 x.2.1 x.2.2.1
def aluW (op a b : Int) : Int :=
 if op = 1 then addW a b else if op = 2 then wd (wd a - wd b) else if op = 3 then mulW a b else if op = 4 then divW a b else if op = 5 then remW a b
 else if op = 6 then bitW 1 a b else if op = 7 then bitW 2 a b else if op = 8 then bitW 3 a b else if op = 9 then shW a b true else if op = 10 then shW a b false
 else if sg a < sg b then 1 else 0
theorem Qqk (op a b : Int) : WW (aluW op a b) := by
 unfold aluW
 have hd : WW (divW a b) := by unfold divW; split; unfold WW; omega; exact QY _
 have hr : WW (remW a b) := by unfold remW; split <;> exact QY _
 repeat' split
 all_goals first | exact QjN _ _ | exact QY _ | exact hd | exact hr | exact Qqq _ _ _ | exact QsI _ _ _ | (unfold WW; omega)
theorem Qrh (op a b : Int) : F_cq (op, a, b, ()) = some ((aluW op a b, ()), ()) := by
 unfold F_cq aluW
 simp only [QoH, QoO, QoM, QoQ, QlH, QdD, Obn, Qdf, QdZ]
 by_cases h1 : op = 1
 ·subst h1; rfl
 rw [if_neg (by simpa using h1), if_neg h1]
 by_cases h2 : op = 2
 ·subst h2; rfl
 rw [if_neg (by simpa using h2), if_neg h2]
 by_cases h3 : op = 3
 ·subst h3; rfl
 rw [if_neg (by simpa using h3), if_neg h3]
 by_cases h4 : op = 4
 ·subst h4; rfl
 rw [if_neg (by simpa using h4), if_neg h4]
 by_cases h5 : op = 5
 ·subst h5; rfl
 rw [if_neg (by simpa using h5), if_neg h5]
 by_cases h6 : op = 6
 ·subst h6
  rw [if_pos (by decide), if_pos rfl, show IntKind.i64.wrap (IntKind.i64.wrap ((6 : Int) - 6) + 1) = 1 from by decide +kernel, Qhn 1 a b (by omega)]; rfl
 rw [if_neg (by simpa using h6), if_neg h6]
 by_cases h7 : op = 7
 ·subst h7
  rw [if_pos (by decide), if_pos rfl, show IntKind.i64.wrap (IntKind.i64.wrap ((7 : Int) - 6) + 1) = 2 from by decide +kernel, Qhn 2 a b (by omega)]; rfl
 rw [if_neg (by simpa using h7), if_neg h7]
 by_cases h8 : op = 8
 ·subst h8
  rw [if_pos (by decide), if_pos rfl, show IntKind.i64.wrap (IntKind.i64.wrap ((8 : Int) - 6) + 1) = 3 from by decide +kernel, Qhn 3 a b (by omega)]; rfl
 rw [if_neg (by simpa using h8), if_neg h8]
 by_cases h9 : op = 9
 ·subst h9; rfl
 rw [if_neg (by simpa using h9), if_neg h9]
 by_cases h10 : op = 10
 ·subst h10; rfl
 rw [if_neg (by simpa using h10), if_neg h10]
 by_cases h : sg a < sg b
 ·rw [if_pos (QU.2 h), if_pos h]
 ·rw [if_neg (by rw [QU]; exact h), if_neg h]
theorem QqG (op a b : Int) (ha : WW a) (hb : WW b) (h : 1 ≤ op ∧ op ≤ 11) : F_gk (op, a, b, ()) = some (((0, aluW op a b, ()), ()), ()) := by
 unfold F_gk aluW
 simp only [Qbf, Obn, Qfq ha, Qfq hb, Qob, Qog, Qoe, Qoj, Qls, Qdw]
 by_cases h1 : op = 1
 ·subst h1; rfl
 rw [if_neg (by simpa using h1), if_neg h1]
 by_cases h2 : op = 2
 ·subst h2
  unfold WW at ha hb
  rw [if_pos (by decide), if_pos rfl, Qt (by omega) (by omega)]
 rw [if_neg (by simpa using h2), if_neg h2]
 by_cases h3 : op = 3
 ·subst h3; rfl
 rw [if_neg (by simpa using h3), if_neg h3]
 by_cases h4 : op = 4
 ·subst h4; rfl
 rw [if_neg (by simpa using h4), if_neg h4]
 by_cases h5 : op = 5
 ·subst h5; rfl
 rw [if_neg (by simpa using h5), if_neg h5]
 by_cases h6 : op = 6
 ·subst h6
  rw [if_pos (by decide), if_pos rfl, show IntKind.i64.wrap (IntKind.i64.wrap ((6 : Int) - 6) + 1) = 1 from by decide +kernel, Qha 1 a b (by omega)]; rfl
 rw [if_neg (by simpa using h6), if_neg h6]
 by_cases h7 : op = 7
 ·subst h7
  rw [if_pos (by decide), if_pos rfl, show IntKind.i64.wrap (IntKind.i64.wrap ((7 : Int) - 6) + 1) = 2 from by decide +kernel, Qha 2 a b (by omega)]; rfl
 rw [if_neg (by simpa using h7), if_neg h7]
 by_cases h8 : op = 8
 ·subst h8
  rw [if_pos (by decide), if_pos rfl, show IntKind.i64.wrap (IntKind.i64.wrap ((8 : Int) - 6) + 1) = 3 from by decide +kernel, Qha 3 a b (by omega)]; rfl
 rw [if_neg (by simpa using h8), if_neg h8]
 by_cases h9 : op = 9
 ·subst h9; rfl
 rw [if_neg (by simpa using h9), if_neg h9]
 by_cases h10 : op = 10
 ·subst h10; rfl
 rw [if_neg (by simpa using h10), if_neg h10, if_pos (by simpa using (show op = 11 by omega))]
 by_cases h : sg a < sg b
 ·rw [if_pos (QU.2 h), if_pos h]
 ·rw [if_neg (by rw [QU]; exact h), if_neg h]
structure OkC (cs : List Int) : Prop where
 len : cs.length = 11
 words : ∀ w ∈ cs, WW w
 st : cs.getD 0 0 ≤ 3
 msk : cs.getD 7 0 ≤ 7
 tb : cs.getD 10 0 ≤ 8
 pd : cs.getD 6 0 = 0
 tm : cs.getD 8 0 = 0
structure OkR (r : List Int) : Prop where
 len : r.length = 16
 words : ∀ w ∈ r, WW w
 zero : r.getD 0 0 = 0
structure OkQ (q : List Int) : Prop where
 len : q.length ≤ 40
 words : ∀ w ∈ q, WW w
structure OkL (l : List TwoD) (m : List Int) : Prop where
 len : l.length = 8
 pgs : ∀ p ∈ l, (-1 ≤ p.1 ∧ p.1 ≤ 23) ∧ (0 ≤ p.2.1 ∧ p.2.1 ≤ 7) ∧ 8 * p.1 + 8 ≤ (m.length : Int)
 words : ∀ w ∈ m, WW w
 mlen : m.length ≤ 192
theorem QaU {α : Type} {l : List α} {k : Nat} {d : α} (h : k < l.length) : l.getD k d ∈ l := by
 rw [List.getD_eq_getElem?_getD, List.getElem?_eq_getElem h]; exact List.getElem_mem h
theorem Qcu {α : Type} {l : List α} {k : Nat} (d : α) (h : k < l.length) : l[k]? = some (l.getD k d) := by
 rw [List.getD_eq_getElem?_getD, List.getElem?_eq_getElem h]; rfl
theorem Qn {α γ : Type} {l : List α} {i : Int} (d : α) (h : i.toNat < l.length) (K : α → Option γ) : (l[i.toNat]?).bind K = K (l.getD i.toNat d) := by
 rw [Qcu d h]; rfl
theorem OkC.w {cs : List Int} (h : OkC cs) {k : Nat} (hk : k < 11) : WW (cs.getD k 0) := h.words _ (QaU (by rw [h.len]; exact hk))
theorem OkR.w {cs : List Int} (h : OkR cs) {k : Nat} (hk : k < 16) : WW (cs.getD k 0) := h.words _ (QaU (by rw [h.len]; exact hk))
def Qda (cs : List Int) (ru : Bool) (dn : Int) (iq : List Int) : Int :=
 (if cs.getD 9 0 ≠ 0 ∧ cs.getD 9 0 ≤ dn then 1 else 0) + (if ru = true then 2 else 0) + (if 0 < iq.length then 4 else 0)
theorem QgC (cs : List Int) (ru : Bool) (dn : Int) (iq : List Int) : 0 ≤ Qda cs ru dn iq ∧ Qda cs ru dn iq ≤ 7 := by
 unfold Qda; repeat' split
 all_goals omega
section
variable {r cs iq oq : List Int} {pc dn : Int} {ha wa ru : Bool}
theorem Qek (hc : OkC cs) : F_bl ((r, pc, cs, ha, wa, ru, dn, iq, oq, ()), ()) = some ((Qda cs ru dn iq, ()), ()) := by
 unfold F_bl Qda
 dsimp only
 have e3 : ltI 0 ((iq.length : Nat) : Int) = decide (0 < iq.length) := by
  have := ltN (a := 0) (b := iq.length)
  simpa using this
 rw [Qn 0 (by rw [hc.len]; decide)]
 simp only [e3, show ((9 : Int)).toNat = 9 from rfl, Qcu (l := cs) (k := 9) 0 (by rw [hc.len]; decide), Obn]
 generalize cs.getD 9 0 = a
 by_cases h1 : a = 0
 ·cases ru <;> by_cases h3 : 0 < iq.length <;> simp [h1, h3]
 ·by_cases h2 : a ≤ dn <;> cases ru <;> by_cases h3 : 0 < iq.length <;> simp [h1, h2, h3, Qad]
theorem Qea (hc : OkC cs) : F_ff ((r, pc, cs, ha, wa, ru, dn, iq, oq, ()), ()) = some ((Qda cs ru dn iq, ()), ()) := by
 have o1 : ior .i64 0 1 = 1 := by decide +kernel
 have o2 : ior .i64 1 2 = 3 := by decide +kernel
 have o3 : ior .i64 3 4 = 7 := by decide +kernel
 have o4 : ior .i64 1 4 = 5 := by decide +kernel
 have o5 : ior .i64 0 2 = 2 := by decide +kernel
 have o6 : ior .i64 2 4 = 6 := by decide +kernel
 have o7 : ior .i64 0 4 = 4 := by decide +kernel
 unfold F_ff Qda
 dsimp only
 have e3 : ltI 0 ((iq.length : Nat) : Int) = decide (0 < iq.length) := by
  have := ltN (a := 0) (b := iq.length)
  simpa using this
 rw [Qn 0 (by rw [hc.len]; decide)]
 simp only [e3, show ((9 : Int)).toNat = 9 from rfl, Qcu (l := cs) (k := 9) 0 (by rw [hc.len]; decide), Obn, o1, o2, o3, o4, o5, o6, o7]
 generalize cs.getD 9 0 = a
 by_cases h1 : a = 0
 ·cases ru <;> by_cases h3 : 0 < iq.length <;> simp [h1, h3]
 ·by_cases h2 : a ≤ dn <;> cases ru <;> by_cases h3 : 0 < iq.length <;> simp [h1, h2, h3, Qad]
def lowB (v : Int) : Int := if v % 2 = 1 then 0 else if v / 2 % 2 = 1 then 1 else if v / 4 % 2 = 1 then 2 else -1
def dueM (cs : List Int) (ru : Bool) (dn : Int) (iq : List Int) : Int := if cs.getD 0 0 % 2 = 0 then -1 else lowB (iand .i64 (Qda cs ru dn iq) (cs.getD 7 0))
theorem Qql : ∀ p : Fin 8, ∀ m : Fin 8, 0 ≤ iand .i64 ((p.val : Nat) : Int) ((m.val : Nat) : Int) ∧ iand .i64 ((p.val : Nat) : Int) ((m.val : Nat) : Int) ≤ 7 := by decide +kernel
theorem Qpx {p m : Int} (h : 0 ≤ p ∧ p ≤ 7) (h2 : 0 ≤ m ∧ m ≤ 7) : 0 ≤ iand .i64 p m ∧ iand .i64 p m ≤ 7 := by
 have := Qql ⟨p.toNat, by omega⟩ ⟨m.toNat, by omega⟩
 simp only [show ((p.toNat : Nat) : Int) = p from by omega, show ((m.toNat : Nat) : Int) = m from by omega] at this
 exact this
def lowT (v : Int) : Option (denO o_ah_4) := if lowB v = -1 then some (.inl ((), ((), ()))) else some (.inr (.inl ((lowB v, ()), ((), ()))))
theorem low0 : L_bm_5 (((0 : Int), (0, ())), ((), ())) = lowT 0 := by kernel_rfl
theorem low1 : L_bm_5 (((1 : Int), (0, ())), ((), ())) = lowT 1 := by kernel_rfl
theorem low2 : L_bm_5 (((2 : Int), (0, ())), ((), ())) = lowT 2 := by kernel_rfl
theorem low3 : L_bm_5 (((3 : Int), (0, ())), ((), ())) = lowT 3 := by kernel_rfl
theorem low4 : L_bm_5 (((4 : Int), (0, ())), ((), ())) = lowT 4 := by kernel_rfl
theorem low5 : L_bm_5 (((5 : Int), (0, ())), ((), ())) = lowT 5 := by kernel_rfl
theorem low6 : L_bm_5 (((6 : Int), (0, ())), ((), ())) = lowT 6 := by kernel_rfl
theorem low7 : L_bm_5 (((7 : Int), (0, ())), ((), ())) = lowT 7 := by kernel_rfl
theorem Qtv {v : Int} (h : 0 ≤ v ∧ v ≤ 7) : L_bm_5 ((v, (0, ())), ((), ())) = lowT v := by
 have : v = 0 ∨ v = 1 ∨ v = 2 ∨ v = 3 ∨ v = 4 ∨ v = 5 ∨ v = 6 ∨ v = 7 := by omega
 rcases this with rfl | rfl | rfl | rfl | rfl | rfl | rfl | rfl
 ·exact low0
 ·exact low1
 ·exact low2
 ·exact low3
 ·exact low4
 ·exact low5
 ·exact low6
 ·exact low7
theorem Qtu : ∀ v : Fin 8, v.val ≠ 0 → tzF (IntKind.u64.wrap ((v.val : Nat) : Int)) = some (lowB ((v.val : Nat) : Int)) ∧ lowB ((v.val : Nat) : Int) ≠ -1 := by decide +kernel
theorem Qtt (v : Int) : -1 ≤ lowB v ∧ lowB v ≤ 2 := by
 unfold lowB; repeat' split
 all_goals omega
theorem Qrk (hc : OkC cs) : F_bm ((r, pc, cs, ha, wa, ru, dn, iq, oq, ()), ()) = some ((dueM cs ru dn iq, ()), ()) := by
 unfold F_bm dueM
 dsimp only
 rw [Qek hc, Obn]
 dsimp only
 rw [Qn 0 (by rw [hc.len]; decide), Qn 0 (by rw [hc.len]; decide)]
 have hst := hc.w (k := 0) (by decide)
 have hmk := hc.w (k := 7) (by decide)
 have hmk2 := hc.msk
 have hb := Qpx (QgC cs ru dn iq) ⟨hmk.1, hmk2⟩
 simp only [show ((7 : Int)).toNat = 7 from rfl, show ((0 : Int)).toNat = 0 from rfl, Int.tmod_eq_emod_of_nonneg hst.1]
 generalize iand .i64 (Qda cs ru dn iq) (cs.getD 7 0) = v at *
 by_cases h : cs.getD 0 0 % 2 = 0
 ·rw [if_pos (by simpa using h), if_pos h]
 ·rw [if_neg (by simpa using h), if_neg h]
  rw [Qtv hb]
  unfold lowT
  by_cases hl : lowB v = -1
  ·rw [if_pos hl, hl]; rfl
  ·rw [if_neg hl]; rfl
theorem QqJ (hc : OkC cs) : F_fh ((r, pc, cs, ha, wa, ru, dn, iq, oq, ()), ()) = some ((dueM cs ru dn iq, ()), ()) := by
 unfold F_fh dueM
 dsimp only
 rw [Qea hc, Obn]
 dsimp only
 rw [Qn 0 (by rw [hc.len]; decide), Qn 0 (by rw [hc.len]; decide)]
 have hst := hc.w (k := 0) (by decide)
 have hmk := hc.w (k := 7) (by decide)
 have hmk2 := hc.msk
 have hb := Qpx (QgC cs ru dn iq) ⟨hmk.1, hmk2⟩
 simp only [show ((7 : Int)).toNat = 7 from rfl, show ((0 : Int)).toNat = 0 from rfl, Int.tmod_eq_emod_of_nonneg hst.1]
 generalize iand .i64 (Qda cs ru dn iq) (cs.getD 7 0) = v at *
 by_cases h : cs.getD 0 0 % 2 = 0
 ·rw [if_neg (by simpa using h), if_pos h]
 ·rw [if_pos (by simpa using h), if_neg h]
  by_cases hv : v = 0
  ·subst hv; rfl
  ·rw [if_neg (by simpa using hv)]
   have := Qtu ⟨v.toNat, by omega⟩ (by simp only; omega)
   simp only [show ((v.toNat : Nat) : Int) = v from by omega] at this
   unfold F_fg
   dsimp only
   rw [this.1]
   rfl
def QfL (cs : List Int) (pc cause tval : Int) : List Int := (((cs.set 2 pc).set 3 cause).set 4 tval).set 0 (cs.getD 0 0 % 2 * 2)
theorem getD_set_ne {l : List Int} {i j : Nat} {y d : Int} (h : i ≠ j) : (l.set i y).getD j d = l.getD j d := by
 simp [List.getD_eq_getElem?_getD, List.getElem?_set_ne h]
theorem Qey {l : List Int} {i : Nat} {y d : Int} (h : i < l.length) : (l.set i y).getD i d = y := by
 simp [List.getD_eq_getElem?_getD, List.getElem?_set_self h]
theorem OkC.set {cs : List Int} (h : OkC cs) {k : Nat} {w : Int} (hw : WW w) (hk : k ≠ 6 ∧ k ≠ 8) (h0 : k = 0 → w ≤ 3) (h7 : k = 7 → w ≤ 7) (h10 : k = 10 → w ≤ 8) : OkC (cs.set k w) := by
 by_cases hlt : k < 11
 ·refine ⟨by simp [h.len], fun z hz => ?_, ?_, ?_, ?_, ?_, ?_⟩
  ·rcases List.mem_or_eq_of_mem_set hz with hz | rfl
   ·exact h.words z hz
   ·exact hw
  ·by_cases e : k = 0
   ·subst e; rw [Qey (by rw [h.len]; decide)]; exact h0 rfl
   ·rw [getD_set_ne e]; exact h.st
  ·by_cases e : k = 7
   ·subst e; rw [Qey (by rw [h.len]; decide)]; exact h7 rfl
   ·rw [getD_set_ne e]; exact h.msk
  ·by_cases e : k = 10
   ·subst e; rw [Qey (by rw [h.len]; decide)]; exact h10 rfl
   ·rw [getD_set_ne e]; exact h.tb
  ·rw [getD_set_ne hk.1]; exact h.pd
  ·rw [getD_set_ne hk.2]; exact h.tm
 ·rw [List.set_eq_of_length_le (by rw [h.len]; omega)]; exact h
theorem QsT (hc : OkC cs) (hp : WW pc) {cause tval : Int} (h1 : WW cause) (h2 : WW tval) : OkC (QfL cs pc cause tval) := by
 unfold QfL
 have := hc.w (k := 0) (by decide)
 unfold WW at this
 exact (((hc.set hp (by decide) (fun e => absurd e (by decide)) (fun e => absurd e (by decide)) (fun e => absurd e (by decide))).set h1 (by decide) (fun e => absurd e (by decide)) (fun e => absurd e (by decide)) (fun e => absurd e (by decide))).set h2 (by decide) (fun e => absurd e (by decide)) (fun e => absurd e (by decide)) (fun e => absurd e (by decide))).set
  (by unfold WW; omega) (by decide) (fun _ => by omega) (fun e => absurd e (by decide)) (fun e => absurd e (by decide))
theorem Qja (hc : OkC cs) (cause tval : Int) : F_bn ((r, pc, cs, ha, wa, ru, dn, iq, oq, ()), cause, tval, ()) =
  some ((), ((r, cs.getD 1 0, QfL cs pc cause tval, ha, false, ru, dn, iq, oq, ()), ())) := by
 have hst := hc.w (k := 0) (by decide)
 have hl := hc.len
 have hw : IntKind.i64.wrap (cs.getD 0 0 % 2 * 2) = cs.getD 0 0 % 2 * 2 := Qt (by omega) (by omega)
 unfold F_bn QfL
 simp only [show ((2 : Int)).toNat = 2 from rfl, show ((3 : Int)).toNat = 3 from rfl, show ((4 : Int)).toNat = 4 from rfl, show ((0 : Int)).toNat = 0 from rfl, show ((1 : Int)).toNat = 1 from rfl,
  List.length_set, hl, show (0 : Int) ≤ 2 ∧ (2 : Int) < ((11 : Nat) : Int) from by decide, show (0 : Int) ≤ 3 ∧ (3 : Int) < ((11 : Nat) : Int) from by decide, show (0 : Int) ≤ 4 ∧ (4 : Int) < ((11 : Nat) : Int) from by decide,
  show (0 : Int) ≤ 0 ∧ (0 : Int) < ((11 : Nat) : Int) from by decide, show (0 : Int) ≤ 1 ∧ (1 : Int) < ((11 : Nat) : Int) from by decide, and_self, if_true]
 rw [Qcu (l := cs) (k := 2) 0 (by omega), Obn, Qcu (k := 3) 0 (by simp [hl]), Obn, Qcu (k := 4) 0 (by simp [hl]), Obn]
 rw [Qcu (l := ((cs.set 2 pc).set 3 cause).set 4 tval) (k := 0) 0 (by simp [hl]), Obn, Obn]
 rw [getD_set_ne (by decide), getD_set_ne (by decide), getD_set_ne (by decide), Int.tmod_eq_emod_of_nonneg hst.1, hw]
 rw [Qcu (k := 1) 0 (by simp [hl]), Obn]
 rw [getD_set_ne (by decide), getD_set_ne (by decide), getD_set_ne (by decide), getD_set_ne (by decide)]
theorem Qon (hc : OkC cs) (cause tval : Int) : F_fi ((r, pc, cs, ha, wa, ru, dn, iq, oq, ()), cause, tval, ()) =
  some ((), ((r, cs.getD 1 0, QfL cs pc cause tval, ha, false, ru, dn, iq, oq, ()), ())) := Qja hc cause tval
def Qie (cs : List Int) : List Int := cs.set 0 (2 + cs.getD 0 0 / 2)
theorem QrM (hc : OkC cs) : OkC (Qie cs) := by
 have := hc.w (k := 0) (by decide)
 have h3 := hc.st
 unfold WW at this
 exact hc.set (by unfold WW; omega) (by decide) (fun _ => by omega) (fun e => absurd e (by decide)) (fun e => absurd e (by decide))
theorem QiW (hc : OkC cs) : F_ck ((r, pc, cs, ha, wa, ru, dn, iq, oq, ()), ()) = some ((), ((r, cs.getD 2 0, Qie cs, ha, wa, ru, dn, iq, oq, ()), ())) := by
 have hst := hc.w (k := 0) (by decide)
 have hl := hc.len
 unfold WW at hst
 unfold F_ck Qie
 simp only [show ((2 : Int)).toNat = 2 from rfl, show ((0 : Int)).toNat = 0 from rfl, hl, show (0 : Int) ≤ 2 ∧ (2 : Int) < ((11 : Nat) : Int) from by decide, show (0 : Int) ≤ 0 ∧ (0 : Int) < ((11 : Nat) : Int) from by decide, and_self, if_true]
 rw [Qcu (l := cs) (k := 2) 0 (by omega), Obn, Qcu (l := cs) (k := 0) 0 (by omega), Obn, Obn]
 rw [Int.tdiv_eq_ediv_of_nonneg hst.1, Qt (n := cs.getD 0 0 / 2) (by omega) (by omega), Qt (by omega) (by omega)]
theorem Qoc (hc : OkC cs) : F_ge ((r, pc, cs, ha, wa, ru, dn, iq, oq, ()), ()) = some ((), ((r, cs.getD 2 0, Qie cs, ha, wa, ru, dn, iq, oq, ()), ())) := QiW hc
def getM (cs : List Int) (ru : Bool) (dn : Int) (iq : List Int) (k : Int) : Int := if k = 6 then Qda cs ru dn iq else if k = 8 then dn else cs.getD k.toNat 0
theorem Qrm (hc : OkC cs) {k : Int} (hk : 0 ≤ k ∧ k ≤ 10) : F_cj ((r, pc, cs, ha, wa, ru, dn, iq, oq, ()), k, ()) = some ((getM cs ru dn iq k, ()), ()) := by
 unfold F_cj getM
 dsimp only
 rw [Qek hc, Obn]
 by_cases h6 : k = 6
 ·rw [if_pos (by simpa using h6), if_pos h6]
 rw [if_neg (by simpa using h6), if_neg h6]
 by_cases h8 : k = 8
 ·rw [if_pos (by simpa using h8), if_pos h8]
 rw [if_neg (by simpa using h8), if_neg h8, if_pos hk.1, Qn 0 (by rw [hc.len]; omega)]
theorem QqM (hc : OkC cs) {k : Int} (hk : 0 ≤ k ∧ k ≤ 10) : F_gd ((r, pc, cs, ha, wa, ru, dn, iq, oq, ()), k, ()) = some ((getM cs ru dn iq k, ()), ()) := by
 unfold F_gd getM
 dsimp only
 rw [Qea hc, Obn]
 by_cases h6 : k = 6
 ·rw [if_pos (by simpa using h6), if_pos h6]
 rw [if_neg (by simpa using h6), if_neg h6]
 by_cases h8 : k = 8
 ·rw [if_pos (by simpa using h8), if_pos h8]
 rw [if_neg (by simpa using h8), if_neg h8, if_pos hk.1, Qn 0 (by rw [hc.len]; omega)]
theorem QqE (hc : OkC cs) {k : Int} (hk : 0 ≤ k ∧ k ≤ 10) (hd : 0 ≤ dn ∧ dn ≤ 1000000000) : WW (getM cs ru dn iq k) := by
 unfold getM
 have := QgC cs ru dn iq
 split
 ·unfold WW; omega
 ·split
  ·unfold WW; omega
  ·exact hc.w (by omega)
def setC (cs : List Int) (k w : Int) : List Int :=
 if k = 0 then cs.set 0 (wd w % 4) else if k = 7 then cs.set 7 (wd w % 8) else if k = 10 then cs.set 10 (if wd w ≤ 8 then wd w else 0) else if k = 6 ∨ k = 8 then cs else cs.set k.toNat (wd w)
def setR (ru : Bool) (k w : Int) : Bool := if k = 6 ∧ 2 ≤ wd w % 4 then false else ru
theorem QtH (hc : OkC cs) {k w : Int} (hk : 0 ≤ k ∧ k ≤ 10) : OkC (setC cs k w) := by
 have h := QY w
 have h' := h
 unfold WW at h'
 unfold setC
 split
 ·exact hc.set (by unfold WW; omega) (by decide) (fun _ => by omega) (fun e => absurd e (by decide)) (fun e => absurd e (by decide))
 split
 ·exact hc.set (by unfold WW; omega) (by decide) (fun e => absurd e (by decide)) (fun _ => by omega) (fun e => absurd e (by decide))
 split
 ·exact hc.set (by split; exact h; unfold WW; omega) (by decide) (fun e => absurd e (by decide)) (fun e => absurd e (by decide)) (fun _ => by split <;> omega)
 split
 ·exact hc
 ·exact hc.set h (by omega) (by omega) (by omega) (by omega)
theorem QkI (hc : OkC cs) {k : Int} (hk : 0 ≤ k ∧ k ≤ 10) (w : Int) : F_ce ((r, pc, cs, ha, wa, ru, dn, iq, oq, ()), k, w, ()) =
  some ((), ((r, pc, setC cs k w, ha, wa, setR ru k w, dn, iq, oq, ()), ())) := by
 have h := QY w
 unfold WW at h
 have hin : 0 ≤ k ∧ k < ((cs.length : Nat) : Int) := by rw [hc.len]; omega
 have e1 : cs[k.toNat]? = some (cs.getD k.toNat 0) := Qcu 0 (by rw [hc.len]; omega)
 unfold F_ce setC setR
 dsimp only
 rw [Qgf, Obn]
 dsimp only
 generalize wd w = v at *
 rw [Int.tmod_eq_emod_of_nonneg h.1, Int.tmod_eq_emod_of_nonneg h.1, e1]
 by_cases h0 : k = 0
 ·subst h0; simp [hc.len]
 by_cases h7 : k = 7
 ·subst h7; simp [hc.len]
 by_cases h10 : k = 10
 ·subst h10
  by_cases h8 : v ≤ 8 <;> simp [hc.len, Qad, h8]
 by_cases h6 : k = 6
 ·subst h6
  cases ru <;> by_cases h2 : 2 ≤ v % 4 <;> simp [h2, QT, Qad] <;> omega
 by_cases h8 : k = 8
 ·subst h8; simp
 have hk11 : k < 11 := by omega
 simp [h0, h7, h10, h6, h8, hc.len, hk.1, hk11]
theorem Qhb (hc : OkC cs) {k : Int} (hk : 0 ≤ k ∧ k ≤ 10) (w : Int) : F_fz ((r, pc, cs, ha, wa, ru, dn, iq, oq, ()), k, w, ()) =
  some ((), ((r, pc, setC cs k w, ha, wa, setR ru k w, dn, iq, oq, ()), ())) := by
 have h := QY w
 unfold WW at h
 have hin : 0 ≤ k ∧ k < ((cs.length : Nat) : Int) := by rw [hc.len]; omega
 have e1 : cs[k.toNat]? = some (cs.getD k.toNat 0) := Qcu 0 (by rw [hc.len]; omega)
 unfold F_fz setC setR
 dsimp only
 rw [QfV, Obn]
 dsimp only
 generalize wd w = v at *
 rw [Int.tmod_eq_emod_of_nonneg h.1, Int.tmod_eq_emod_of_nonneg h.1, e1]
 by_cases h0 : k = 0
 ·subst h0; simp [hc.len]
 by_cases h7 : k = 7
 ·subst h7; simp [hc.len]
 by_cases h10 : k = 10
 ·subst h10
  by_cases h8 : v ≤ 8 <;> simp [hc.len, Qad, h8]
 by_cases h6 : k = 6
 ·subst h6
  cases ru <;> by_cases h2 : 2 ≤ v % 4 <;> simp [h2, QT, Qad] <;> omega
 by_cases h8 : k = 8
 ·subst h8; simp
 have hk11 : k < 11 := by omega
 simp [h0, h7, h10, h6, h8, hc.len, hk.1, hk11]
end
def mayP (p : TwoD) (kind : Int) : Bool := decide (0 ≤ p.1) && !(iand .i64 p.2.1 kind == 0)
def QaE (l : List TwoD) (at_ kind : Int) : Int :=
 if 0 ≤ at_ ∧ at_ ≤ 63 then (if mayP (l.getD (at_ / 8).toNat (-1, 0, ())) kind = true then (l.getD (at_ / 8).toNat (-1, 0, ())).1 * 8 + at_ % 8 else -1) else -1
def Qhw (kind : Int) : Int := if kind = 1 then 7 else if kind = 2 then 8 else 9
structure OkP (l : List TwoD) : Prop where
 len : l.length = 8
 pgs : ∀ p ∈ l, -1 ≤ p.1 ∧ p.1 ≤ 23
theorem OkP.at {l : List TwoD} (h : OkP l) {k : Nat} (hk : k < 8) : -1 ≤ (l.getD k (-1, 0, ())).1 ∧ (l.getD k (-1, 0, ())).1 ≤ 23 := h.pgs _ (QaU (by rw [h.len]; exact hk))
theorem OkL.p {l : List TwoD} {m : List Int} (h : OkL l m) : OkP l := ⟨h.len, fun p hp => (h.pgs p hp).1⟩
theorem Qjp {l : List TwoD} (h : OkP l) (at_ kind : Int) : -1 ≤ QaE l at_ kind ∧ QaE l at_ kind ≤ 191 := by
 unfold QaE
 split
 ·have := h.at (k := (at_ / 8).toNat) (by omega)
  split
  ·rename_i hm
   simp only [mayP, Bool.and_eq_true, decide_eq_true_eq] at hm
   omega
  ·omega
 ·omega
theorem QoL (kind : Int) : F_bu (kind, ()) = some ((Qhw kind, ()), ()) := by
 unfold F_bu Qhw
 by_cases h1 : kind = 1
 ·simp [h1]
 ·by_cases h2 : kind = 2 <;> simp [h1, h2]
theorem Qod {kind : Int} (h : kind = 1 ∨ kind = 2 ∨ kind = 4) : F_fp (kind, ()) = some ((Qhw kind, ()), ()) := by
 rcases h with rfl | rfl | rfl <;> rfl
theorem Qil (kind : Int) : Qhw kind ≠ 0 := by
 unfold Qhw; repeat' split
 all_goals omega
theorem Qge {l : List TwoD} (h : OkP l) (at_ kind : Int) : F_bp (l, at_, kind, ()) = some ((QaE l at_ kind, ()), ()) := by
 unfold F_bp QaE
 dsimp only
 rw [Qbv, Obn]
 dsimp only
 by_cases hin : 0 ≤ at_ ∧ at_ ≤ 63
 ·rw [if_neg (by simp [hin.1, hin.2]), if_pos hin, Int.tdiv_eq_ediv_of_nonneg hin.1, Qt (by omega) (by omega), if_pos (by omega)]
  rw [Qn ((-1, 0, ()) : TwoD) (by rw [h.len]; omega)]
  have hp := h.at (k := (at_ / 8).toNat) (by omega)
  generalize l.getD (at_ / 8).toNat (-1, 0, ()) = p at *
  unfold mayP
  by_cases h0 : 0 ≤ p.1
  ·rw [if_pos (QaQ.2 (by omega))]
   by_cases hk : iand .i64 p.2.1 kind = 0
   ·rw [if_pos (by simpa using hk), if_neg (by simp [hk])]
   ·rw [if_neg (by simpa using hk), if_pos (by simp [hk, h0]), Int.tmod_eq_emod_of_nonneg hin.1, Qt (n := p.1 * 8) (by omega) (by omega), Qt (by omega) (by omega)]
  ·rw [if_neg (by rw [QaQ]; omega), if_neg (by simp [h0])]
 ·rw [if_pos (by simp; omega), if_neg hin]
theorem Qiv {l : List TwoD} (h : OkP l) (at_ : Int) {kind : Int} (hkd : kind = 1 ∨ kind = 2 ∨ kind = 4) :
  F_fq (l, at_, kind, ()) = some ((if QaE l at_ kind < 0 then (Qhw kind, 0, ()) else (0, QaE l at_ kind, ()), ()), ()) := by
 unfold F_fq F_fo QaE
 dsimp only
 rw [QaY, Obn, Obn, Qod hkd, Obn]
 dsimp only
 by_cases hin : 0 ≤ at_ ∧ at_ ≤ 63
 ·rw [if_pos (by simp [hin.1, hin.2]), if_pos hin, Int.tdiv_eq_ediv_of_nonneg hin.1, Qt (by omega) (by omega), if_pos (by omega)]
  rw [Qn ((-1, 0, ()) : TwoD) (by rw [h.len]; omega), Qn ((-1, 0, ()) : TwoD) (by rw [h.len]; omega), Qn ((-1, 0, ()) : TwoD) (by rw [h.len]; omega)]
  have hp := h.at (k := (at_ / 8).toNat) (by omega)
  have h8 : 0 ≤ at_ / 8 := by omega
  generalize l.getD (at_ / 8).toNat (-1, 0, ()) = p at *
  unfold mayP
  by_cases h0 : 0 ≤ p.1
  ·rw [if_pos (QaQ.2 (by omega)), if_pos h8]
   by_cases hk : iand .i64 p.2.1 kind = 0
   ·rw [if_pos (by simpa using hk), if_neg (c := (decide (0 ≤ p.1) && !(iand .i64 p.2.1 kind == 0)) = true) (by simp [hk]), if_pos (by decide)]
   ·rw [if_neg (by simpa using hk), if_pos h8, if_pos (c := (decide (0 ≤ p.1) && !(iand .i64 p.2.1 kind == 0)) = true) (by simp [hk, h0]), Int.tmod_eq_emod_of_nonneg hin.1,
     Qt (n := p.1 * 8) (by omega) (by omega), Qt (by omega) (by omega), if_neg (by omega)]
  ·rw [if_neg (by rw [QaQ]; omega), if_neg (c := (decide (0 ≤ p.1) && !(iand .i64 p.2.1 kind == 0)) = true) (by simp [h0]), if_pos (by decide)]
 ·rw [if_neg (by simp; omega), if_neg hin, if_pos (by decide)]
def entM (w : Int) : TwoD := if w % 8 ≠ 0 ∧ w / 8 < 8 then (w / 8, w % 8, ()) else (-1, 0, ())
theorem Qrl {w : Int} (h : WW w) : F_br (w, ()) = some ((entM w, ()), ()) := by
 unfold WW at h
 unfold F_br entM F_bq
 dsimp only
 rw [Int.tdiv_eq_ediv_of_nonneg h.1, Int.tmod_eq_emod_of_nonneg h.1, Qt (by omega) (by omega)]
 by_cases h1 : w % 8 = 0
 ·simp [h1]
 ·by_cases h2 : w / 8 < 8
  ·have : ¬ (8 : Int) ≤ w / 8 := by omega
   simp [h1, h2, Qad, this]
  ·have : (8 : Int) ≤ w / 8 := by omega
   simp [h1, h2, Qad, this]
theorem QqK {w : Int} (h : WW w) : F_fl (w, ()) = some ((entM w, ()), ()) := by
 unfold WW at h
 unfold F_fl entM F_fk
 dsimp only
 rw [Int.tdiv_eq_ediv_of_nonneg h.1, Int.tmod_eq_emod_of_nonneg h.1, Qt (by omega) (by omega)]
 by_cases h1 : w % 8 = 0
 ·simp [h1]
 ·by_cases h2 : w / 8 < 8
  ·have : ¬ (8 : Int) ≤ w / 8 := by omega
   simp [h1, h2, Qad, this]
  ·have : (8 : Int) ≤ w / 8 := by omega
   simp [h1, h2, Qad, this]
theorem Qti {w : Int} (h : WW w) : -1 ≤ (entM w).1 ∧ (entM w).1 ≤ 7 := by
 unfold WW at h
 unfold entM; split
 ·simp only; omega
 ·simp only; omega
theorem Qfh {w : Int} : okW w = true ↔ WW w := by unfold okW WW; simp
theorem QaF {m : List Int} : allW m = true ↔ ∀ w ∈ m, WW w := by
 unfold allW; rw [List.all_eq_true]; exact ⟨fun h w hw => Qfh.1 (h w hw), fun h w hw => Qfh.2 (h w hw)⟩
theorem Qjf {α : Type} {l : List α} {i : Nat} (h : i < l.length) : l.take (i + 1) = l.take i ++ [l[i]] := by rw [List.take_add_one, List.getElem?_eq_getElem h]; rfl
theorem QhR {ws : List Int} (hl : ws.length = 8) (hw : ∀ w ∈ ws, WW w) : F_bs (ws, ()) = some (((0, ws.map entM, ()), ()), ()) := by
 have key := QbX (step := l_bs_5) (γ := denO o_bs_5) (fun k (s : List TwoD) => ((ws, (), (), ((k : Nat) : Int), ()), ((0, [], ()), ((0, s, ()), ())), ())) 8 (QW (by omega)) (fun k s => s = (ws.take k).map entM)
  (fun _ _ => some (.inl (((), (), ()), (((0, [], ()), ((0, ws.map entM, ()), ())), ())))) ?_ 0 [] (by omega) (by simp)
 ·unfold F_bs
  dsimp only
  rw [if_neg (by rw [hl]; decide)]
  show (Qc l_bs_5 lots ((ws, (), (), 0, ()), ((0, [], ()), ((0, [], ()), ())), ())).bind _ = _
  rw [show ((0 : Int)) = (((0 : Nat) : Nat) : Int) from rfl] at *
  rw [key]
  rfl
 ·intro rec i s hi hs ih
  unfold l_bs_5
  dsimp only
  by_cases hlt : i < 8
  ·have hlw : i < ws.length := by omega
   have hin : WW ws[i] := hw _ (List.getElem_mem hlw)
   rw [if_pos (lt_t hlw), if_pos nat0, Ql hlw, Qbv, Obn]
   dsimp only
   have hok : (decide (ws[i] ≥ 0) && decide (ws[i] ≤ 4294967295)) = true := Qfh.2 hin
   rw [if_neg (by rw [hok]; decide), if_pos nat0, Ql hlw, Qrl hin, Obn]
   dsimp only
   have hsl : s.length = i := by rw [hs, List.length_map, List.length_take]; omega
   rw [if_pos (by rw [hsl]; simp; omega), QK (by omega)]
   exact ih _ hlt (by rw [hs, Qjf hlw, List.map_append]; rfl)
  ·have : i = 8 := by omega
   subst this
   rw [if_neg (by rw [hl]; decide)]
   have : s = ws.map entM := by rw [hs, List.take_of_length_le (by omega)]
   rw [this]
theorem QhP {ws : List Int} (hl : ws.length = 8) (hw : ∀ w ∈ ws, WW w) : F_fm (ws, ()) = some (((0, ws.map entM, ()), ()), ()) := by
 have key := QbX (step := l_fm_7) (γ := denO o_fm_7) (fun k (s : List TwoD) => (((), s, ws, 8, ((k : Nat) : Int), ()), ((0, [], ()), ()), ())) 8 (QW (by omega)) (fun k s => s = (ws.take k).map entM)
  (fun _ _ => some (.inl (((), ws.map entM, ()), ((0, [], ()), ()), ()))) ?_ 0 [] (by omega) (by simp)
 ·unfold F_fm
  dsimp only
  rw [if_neg (by rw [hl]; decide), QbB _ (by rw [hl, QaA]; omega), Obn]
  dsimp only
  rw [QaF.2 hw, if_neg (by decide), hl]
  show (Qc l_fm_7 lots (((), [], ws, 8, 0, ()), ((0, [], ()), ()), ())).bind _ = _
  rw [show ((0 : Int)) = (((0 : Nat) : Nat) : Int) from rfl] at *
  rw [key]
  rfl
 ·intro rec i s hi hs ih
  unfold l_fm_7
  dsimp only
  by_cases hlt : i < 8
  ·have hlw : i < ws.length := by omega
   have hin : WW ws[i] := hw _ (List.getElem_mem hlw)
   rw [if_pos (QU.2 (by omega)), if_pos nat0, Ql hlw, QqK hin, Obn]
   dsimp only
   have hsl : s.length = i := by rw [hs, List.length_map, List.length_take]; omega
   rw [if_pos (by rw [hsl]; simp; omega), QK (by omega)]
   exact ih _ hlt (by rw [hs, Qjf hlw, List.map_append]; rfl)
  ·have : i = 8 := by omega
   subst this
   rw [if_neg (by decide)]
   have : s = ws.map entM := by rw [hs, List.take_of_length_le (by omega)]
   rw [this]
def idsM : List TwoD := [(0, 7, ()), (1, 7, ()), (2, 7, ()), (3, 7, ()), (4, 7, ()), (5, 7, ()), (6, 7, ()), (7, 7, ())]
theorem QtI : L_bt_5 ((([] : List TwoD), ((0 : Int), ())), ((), ())) = some (.inl ((idsM, ()), ((), ()))) := by kernel_rfl
theorem Qtq : L_fn_5 (((), (([] : List TwoD), ((0 : Int), ()))), ((((0 : Int), (([] : List TwoD), ())), ()), ())) = some (.inl (((), (idsM, ())), ((((0 : Int), (([] : List TwoD), ())), ()), ()))) := by kernel_rfl
theorem Qtp : OkP idsM := ⟨rfl, by decide⟩
def QdC (cs : List Int) (l : List TwoD) (m : List Int) : Option (List TwoD) :=
 if cs.getD 10 0 = 0 then some idsM else if cs.getD 10 0 = 8 then none
 else if QaE l ((cs.getD 10 0 - 1) * 8) 1 < 0 then none else some (((m.drop (QaE l ((cs.getD 10 0 - 1) * 8) 1).toNat).take 8).map entM)
section
variable {r cs iq oq m : List Int} {pc dn ring fall : Int} {ha wa ru : Bool} {l : List TwoD}
theorem OkL.at {l : List TwoD} {m : List Int} (h : OkL l m) {k : Nat} (hk : k < 8) : (-1 ≤ (l.getD k (-1, 0, ())).1 ∧ (l.getD k (-1, 0, ())).1 ≤ 23) ∧ 8 * (l.getD k (-1, 0, ())).1 + 8 ≤ (m.length : Int) := by
 have := h.pgs _ (QaU (l := l) (k := k) (d := (-1, 0, ())) (by rw [h.len]; exact hk)); exact ⟨this.1, this.2.2⟩
theorem Qjo (h : OkL l m) (at_ kind : Int) (h0 : 0 ≤ QaE l at_ kind) : QaE l at_ kind < (m.length : Int) ∧ (at_ % 8 = 0 → QaE l at_ kind + 8 ≤ (m.length : Int)) := by
 unfold QaE at *
 split at h0
 ·have := h.at (k := (at_ / 8).toNat) (by omega)
  rename_i hin
  rw [if_pos hin]
  split at h0
  ·rename_i hm
   rw [if_pos hm]
   omega
  ·omega
 ·omega
theorem QfY (h : OkL l m) {f : Int} (h0 : 0 ≤ f) (h1 : f + 8 ≤ (m.length : Int)) : ((m.drop f.toNat).take 8).length = 8 ∧ ∀ w ∈ (m.drop f.toNat).take 8, WW w :=
 ⟨by rw [List.length_take, List.length_drop]; omega, fun w hw => h.words w (List.mem_of_mem_drop (List.mem_of_mem_take hw))⟩
theorem Qnr (hc : OkC cs) (h : OkL l m) : F_bt ((l, m, ring, (r, pc, cs, ha, wa, ru, dn, iq, oq, ()), fall, ()), ()) =
  some ((match QdC cs l m with | some s => (s, true, ()) | none => ([], false, ())), ()) := by
 have ht := hc.w (k := 10) (by decide)
 have ht2 := hc.tb
 unfold WW at ht
 unfold F_bt QdC
 dsimp only
 rw [Qn 0 (by rw [hc.len]; decide)]
 simp only [show ((10 : Int)).toNat = 10 from rfl]
 generalize cs.getD 10 0 = t at *
 by_cases h0 : t = 0
 ·subst h0
  rw [if_pos (by decide), if_pos rfl]
  show (L_bt_5 _).bind _ = _
  rw [QtI]; rfl
 ·rw [if_neg (by simpa using h0), if_neg h0, Qt (n := t - 1) (by omega) (by omega), Qt (n := (t - 1) * 8) (by omega) (by omega), Qge h.p, Obn]
  dsimp only
  by_cases h8 : t = 8
  ·subst h8; rfl
  ·rw [if_pos (by simpa using h8), if_neg h8]
   have hin := Qjo h ((t - 1) * 8) 1
   have hle := Qjp h.p ((t - 1) * 8) 1
   generalize QaE l ((t - 1) * 8) 1 = f at *
   by_cases hf : f < 0
   ·rw [if_pos (QU.2 hf), if_pos hf]
   ·have h2 := (hin (by omega)).2 (by omega)
    rw [if_neg (by rw [QU]; exact hf), if_neg hf, Qt (by omega) (by omega), if_pos (c := (0 : Int) ≤ f ∧ f ≤ f + 8 ∧ f + 8 ≤ ((m.length : Nat) : Int)) ⟨Int.not_lt.1 hf, by omega, h2⟩, show (f + 8).toNat - f.toNat = 8 by omega]
    have hp := QfY h (f := f) (by omega) h2
    rw [QhR hp.1 hp.2]; rfl
theorem QmD (hc : OkC cs) (h : OkL l m) : F_fn ((r, pc, cs, ha, wa, ru, dn, iq, oq, ()), l, m, ()) =
  some ((match QdC cs l m with | some s => (0, s, ()) | none => (7, [], ()), ()), ()) := by
 have ht := hc.w (k := 10) (by decide)
 have ht2 := hc.tb
 unfold WW at ht
 unfold F_fn QdC
 dsimp only
 rw [Qn 0 (by rw [hc.len]; decide)]
 simp only [show ((10 : Int)).toNat = 10 from rfl]
 generalize cs.getD 10 0 = t at *
 rw [Qt (n := t - 1) (by omega) (by omega)]
 by_cases h0 : t = 0
 ·subst h0
  rw [if_pos (by decide), if_pos rfl]
  show (L_fn_5 _).bind _ = _
  rw [Qtq]; rfl
 ·have ht1 : 0 ≤ t - 1 := by omega
  rw [if_neg (by rw [QU]; omega), if_neg h0, if_pos ht1]
  have hlen : (t - 1).toNat < l.length := by rw [h.len]; omega
  rw [Qn ((-1, 0, ()) : TwoD) hlen, Qn ((-1, 0, ()) : TwoD) hlen, Qn ((-1, 0, ()) : TwoD) hlen]
  have hat := h.at (k := (t - 1).toNat) (by omega)
  have hw : QaE l ((t - 1) * 8) 1 = if mayP (l.getD (t - 1).toNat (-1, 0, ())) 1 = true then (l.getD (t - 1).toNat (-1, 0, ())).1 * 8 else -1 := by
   unfold QaE
   rw [if_pos (by omega), show (t - 1) * 8 / 8 = t - 1 by omega, show (t - 1) * 8 % 8 = 0 by omega, Int.add_zero]
  rw [hw]
  generalize l.getD (t - 1).toNat (-1, 0, ()) = p at *
  unfold mayP
  by_cases hp0 : 0 ≤ p.1
  ·rw [if_pos (QaQ.2 (by omega)), if_pos ht1]
   by_cases hk : iand .i64 p.2.1 1 = 0
   ·rw [if_neg (by simp [hk])]
    by_cases h8 : t = 8
    ·rw [if_pos h8]
    ·rw [if_neg h8, if_neg (c := (decide (0 ≤ p.1) && !(iand .i64 p.2.1 1 == 0)) = true) (by simp [hk]), if_pos (by decide)]
   ·rw [if_pos (by simpa using hk)]
    by_cases h8 : t = 8
    ·subst h8; rfl
    ·have hne : ¬ t - 1 = 7 := by omega
     rw [if_neg (by simpa using hne), if_pos ht1, if_neg h8, if_pos (c := (decide (0 ≤ p.1) && !(iand .i64 p.2.1 1 == 0)) = true) (by simp [hk, hp0]), if_neg (by omega)]
     have hpo := Qkx m p.1.toNat (by omega) h.mlen
     rw [show ((p.1.toNat : Nat) : Int) = p.1 by omega] at hpo
     rw [hpo, Obn]
     dsimp only
     rw [show (p.1 * 8).toNat = 8 * p.1.toNat by omega]
     have hpw := QfY h (f := p.1 * 8) (by omega) (by omega)
     rw [show (p.1 * 8).toNat = 8 * p.1.toNat by omega] at hpw
     rw [QhP hpw.1 hpw.2]; rfl
  ·rw [if_neg (by rw [QaQ]; omega)]
   by_cases h8 : t = 8
   ·rw [if_pos h8]
   ·rw [if_neg h8, if_neg (c := (decide (0 ≤ p.1) && !(iand .i64 p.2.1 1 == 0)) = true) (by simp [hp0]), if_pos (by decide)]
theorem QkE (hc : OkC cs) (h : OkL l m) {s : List TwoD} (hs : QdC cs l m = some s) : OkP s ∧ ∀ p ∈ s, p.1 ≤ 7 := by
 have ht := hc.w (k := 10) (by decide)
 have ht2 := hc.tb
 unfold WW at ht
 unfold QdC at hs
 split at hs
 ·obtain rfl := Osj hs; exact ⟨Qtp, by decide⟩
 ·split at hs
  ·cases hs
  ·split at hs
   ·cases hs
   ·rename_i h8 hf
    obtain rfl := Osj hs
    have h2 := (Qjo h ((cs.getD 10 0 - 1) * 8) 1 (by omega)).2 (by omega)
    have hp := QfY h (f := QaE l ((cs.getD 10 0 - 1) * 8) 1) (by omega) h2
    have key : ∀ p ∈ List.map entM (((m.drop (QaE l ((cs.getD 10 0 - 1) * 8) 1).toNat).take 8)), -1 ≤ p.1 ∧ p.1 ≤ 7 := by
     intro p hpm
     obtain ⟨w, hw, rfl⟩ := List.mem_map.1 hpm
     exact Qti (hp.2 w hw)
    exact ⟨⟨by rw [List.length_map]; exact hp.1, fun p hm => ⟨(key p hm).1, by have := (key p hm).2; omega⟩⟩, fun p hm => (key p hm).2⟩
def QN (cs : List Int) (l : List TwoD) (m : List Int) (at_ kind : Int) : Int × Int :=
 match QdC cs l m with
 | none => (0, 7)
 | some s => if QaE s at_ kind < 0 then (0, Qhw kind) else if QaE s at_ kind / 8 = 7 then (if kind = 4 then (0, 9) else (1000 + QaE s at_ kind % 8, 0))
  else if QaE l (QaE s at_ kind) kind < 0 then (0, Qhw kind) else (QaE l (QaE s at_ kind) kind, 0)
theorem QbG (hc : OkC cs) (h : OkL l m) (at_ : Int) (kind : Int) (h0 : (QN cs l m at_ kind).2 = 0) :
  (1000 ≤ (QN cs l m at_ kind).1 ∧ (QN cs l m at_ kind).1 ≤ 1007 ∧ kind ≠ 4) ∨ (0 ≤ (QN cs l m at_ kind).1 ∧ (QN cs l m at_ kind).1 < (m.length : Int)) := by
 unfold QN at *
 cases hs : QdC cs l m with
 | none => rw [hs] at h0; simp at h0
 | some s =>
  rw [hs] at h0
  simp only at h0 ⊢
  split at h0
  ·exact absurd h0 (Qil kind)
  ·rename_i h1
   rw [if_neg h1]
   split at h0
   ·rename_i h7
    rw [if_pos h7]
    split at h0
    ·simp at h0
    ·rename_i h4
     rw [if_neg h4]
     left
     simp only
     omega
   ·rename_i h7
    rw [if_neg h7]
    split at h0
    ·exact absurd h0 (Qil kind)
    ·rename_i h2
     rw [if_neg h2]
     right
     exact ⟨by simp only; omega, (Qjo h _ _ (by omega)).1⟩
theorem QeR (hc : OkC cs) (h : OkL l m) (at_ kind : Int) : F_bv ((l, m, ring, (r, pc, cs, ha, wa, ru, dn, iq, oq, ()), fall, ()), at_, kind, ()) =
  some (((QN cs l m at_ kind).1, (QN cs l m at_ kind).2, ()), ()) := by
 unfold F_bv QN
 dsimp only
 rw [Qnr hc h, Obn]
 cases hs : QdC cs l m with
 | none => rfl
 | some s =>
  have hp := (QkE hc h hs).1
  dsimp only
  rw [if_neg (by decide), Qge hp, Obn, QoL, Obn]
  dsimp only
  have hle := Qjp hp at_ kind
  generalize QaE s at_ kind = g at *
  by_cases hg : g < 0
  ·rw [if_pos (QU.2 hg), if_pos hg]
  ·rw [if_neg (by rw [QU]; exact hg), if_neg hg, Int.tdiv_eq_ediv_of_nonneg (by omega), Int.tmod_eq_emod_of_nonneg (by omega), Qt (n := g / 8) (by omega) (by omega)]
   by_cases h7 : g / 8 = 7
   ·rw [if_pos (by simpa using h7), if_pos h7]
    by_cases h4 : kind = 4
    ·rw [if_pos (by simpa using h4), if_pos h4]
    ·rw [if_neg (by simpa using h4), if_neg h4, Qt (by omega) (by omega)]
   ·rw [if_neg (by simpa using h7), if_neg h7, Qge h.p, Obn]
    dsimp only
    by_cases hf : QaE l g kind < 0
    ·rw [if_pos (QU.2 hf), if_pos hf]
    ·rw [if_neg (by rw [QU]; exact hf), if_neg hf]
theorem QeB (hc : OkC cs) (h : OkL l m) (at_ : Int) {kind : Int} (hk : kind = 1 ∨ kind = 2 ∨ kind = 4) : F_fr ((r, pc, cs, ha, wa, ru, dn, iq, oq, ()), l, m, at_, kind, ()) =
  some ((((QN cs l m at_ kind).2, (QN cs l m at_ kind).1, ()), ()), ()) := by
 unfold F_fr QN
 dsimp only
 rw [QmD hc h, Obn]
 cases hs : QdC cs l m with
 | none => rfl
 | some s =>
  have hp := (QkE hc h hs).1
  dsimp only
  rw [if_neg (by decide), Qiv hp _ hk, Obn]
  dsimp only
  have hle := Qjp hp at_ kind
  have hcn := Qil kind
  generalize QaE s at_ kind = g at *
  by_cases hg : g < 0
  ·rw [if_pos hg]; dsimp only; rw [if_pos (by simpa using hcn), if_pos hg]
  ·rw [if_neg hg]; dsimp only
   rw [if_neg (by decide), if_neg hg, Int.tdiv_eq_ediv_of_nonneg (by omega), Int.tmod_eq_emod_of_nonneg (by omega), Qt (n := g / 8) (by omega) (by omega)]
   by_cases h7 : g / 8 = 7
   ·rw [if_neg (by simpa using h7), if_pos h7]
    by_cases h4 : kind = 4
    ·rw [if_pos (by simpa using h4), if_pos h4]
    ·rw [if_neg (by simpa using h4), if_neg h4, Qt (by omega) (by omega)]
   ·rw [if_pos (by simpa using h7), if_neg h7, Qiv h.p _ hk, Obn]
    by_cases hf : QaE l g kind < 0
    ·rw [if_pos hf, if_pos hf]
    ·rw [if_neg hf, if_neg hf]
theorem Qcj {q : List Int} (h : q.length ≤ 1048576) : F_el (q, ()) = some ((q, ()), ()) := by
 unfold F_el
 dsimp only
 rw [if_pos (by simp; omega)]
 rfl
def QeJ (cs : List Int) (ru : Bool) (dn : Int) (iq : List Int) (k : Int) : Int × List Int :=
 if k = 1 then (iq.getD 0 0, iq.drop 1) else if k = 2 then (dn, iq) else if k = 3 then (cs.getD 9 0, iq) else if k = 4 then (Qda cs ru dn iq, iq) else if k = 6 then ((iq.length : Int), iq) else (0, iq)
theorem QoP (hc : OkC cs) (hq : OkQ iq) (k : Int) : F_cc ((r, pc, cs, ha, wa, ru, dn, iq, oq, ()), k, ()) =
  some (((QeJ cs ru dn iq k).1, ()), ((r, pc, cs, ha, wa, ru, dn, (QeJ cs ru dn iq k).2, oq, ()), ())) := by
 unfold F_cc QeJ
 dsimp only
 rw [Qek hc, Obn]
 by_cases h1 : k = 1
 ·subst h1
  rw [if_pos (by decide), if_pos rfl]
  cases iq with
  | nil => rfl
  | cons w t =>
   rw [if_neg (by simp; omega)]
   simp only [show ((0 : Int)).toNat = 0 from rfl, show ((1 : Int)).toNat = 1 from rfl, List.getElem?_cons_zero, Obn]
   rw [if_pos (by simp; omega)]
   simp
 rw [if_neg (by simpa using h1), if_neg h1]
 by_cases h2 : k = 2
 ·subst h2; rfl
 rw [if_neg (by simpa using h2), if_neg h2]
 by_cases h3 : k = 3
 ·subst h3
  rw [if_pos (by decide), if_pos rfl, if_pos (by rw [hc.len]; decide), Qn 0 (by rw [hc.len]; decide)]; rfl
 rw [if_neg (by simpa using h3), if_neg h3]
 by_cases h4 : k = 4
 ·subst h4; rfl
 rw [if_neg (by simpa using h4), if_neg h4]
 by_cases h6 : k = 6
 ·subst h6; rfl
 rw [if_neg (by simpa using h6), if_neg h6]
theorem Qoi (hc : OkC cs) (hq : OkQ iq) (k : Int) : F_fx ((r, pc, cs, ha, wa, ru, dn, iq, oq, ()), k, ()) =
  some (((QeJ cs ru dn iq k).1, ()), ((r, pc, cs, ha, wa, ru, dn, (QeJ cs ru dn iq k).2, oq, ()), ())) := by
 unfold F_fx QeJ
 dsimp only
 rw [Qea hc, Obn]
 have hl := hq.len
 by_cases h1 : k = 1
 ·subst h1
  rw [if_pos (by decide), if_pos rfl]
  cases iq with
  | nil => rfl
  | cons w t =>
   have hlt : ltI 0 (((w :: t).length : Nat) : Int) = true := QU.2 (by simp only [List.length_cons]; omega)
   rw [if_pos hlt, if_pos (by simp only [List.length_cons]; omega)]
   simp only [show ((0 : Int)).toNat = 0 from rfl, show ((1 : Int)).toNat = 1 from rfl, List.getElem?_cons_zero, Obn]
   rw [if_pos (by simp only [List.length_cons]; omega)]
   have e : ((w :: t).drop 1).take ((((w :: t).length : Nat) : Int).toNat - 1) = t := by simp
   rw [e, Qcj (by simp at hl; omega), Obn]
   rfl
 rw [if_neg (by simpa using h1), if_neg h1]
 by_cases h2 : k = 2
 ·subst h2; rfl
 rw [if_neg (by simpa using h2), if_neg h2]
 by_cases h3 : k = 3
 ·subst h3
  rw [if_pos (by decide), if_pos rfl, if_pos (by rw [hc.len]; decide), Qn 0 (by rw [hc.len]; decide)]; rfl
 rw [if_neg (by simpa using h3), if_neg h3]
 by_cases h4 : k = 4
 ·subst h4; rfl
 rw [if_neg (by simpa using h4), if_neg h4]
 by_cases h6 : k = 6
 ·subst h6; rfl
 rw [if_neg (by simpa using h6), if_neg h6]
theorem QsE (hc : OkC cs) (hq : OkQ iq) (hd : 0 ≤ dn ∧ dn ≤ 1000000000) (k : Int) : WW (QeJ cs ru dn iq k).1 ∧ OkQ (QeJ cs ru dn iq k).2 := by
 have hp := QgC cs ru dn iq
 have hl := hq.len
 have h9 := hc.w (k := 9) (by decide)
 unfold QeJ
 repeat' split
 ·refine ⟨?_, ⟨by simp only [List.length_drop]; omega, fun w hw => hq.words w (List.mem_of_mem_drop hw)⟩⟩
  cases iq with
  | nil => unfold WW; simp
  | cons w t => exact hq.words w (by simp)
 all_goals refine ⟨?_, hq⟩
 ·unfold WW; simp only; omega
 ·exact h9
 ·unfold WW; simp only; omega
 ·unfold WW; simp only; omega
 ·unfold WW; simp
def QhI (k w : Int) : Int := if k = 5 then wd w else -1
def wrC (cs : List Int) (k w : Int) : List Int := if k = 3 then cs.set 9 (wd w) else cs
def wrR (ru : Bool) (k w : Int) : Bool := if k = 4 then setR ru 6 (wd w) else ru
def wrO (oq : List Int) (k w : Int) : List Int := if k = 0 ∧ oq.length < 40 then oq ++ [wd w] else oq
theorem QtY (w : Int) : setC cs 6 w = cs := by unfold setC; simp
theorem QuC (w : Int) : setC cs 9 w = cs.set 9 (wd w) := by unfold setC; simp
theorem QuD (w : Int) : setR ru 9 w = ru := by unfold setR; simp
theorem Qnv (hc : OkC cs) (hq : OkQ oq) (k w : Int) : F_cf ((r, pc, cs, ha, wa, ru, dn, iq, oq, ()), k, w, ()) =
  some ((QhI k w, ()), ((r, pc, wrC cs k w, ha, wa, wrR ru k w, dn, iq, wrO oq k w, ()), ())) := by
 unfold F_cf QhI wrC wrR wrO
 dsimp only
 rw [Qgf, Obn, QkI hc (by omega), Obn, QtY]
 dsimp only
 have hl := hq.len
 by_cases h0 : k = 0
 ·subst h0
  by_cases h40 : oq.length < 40
  ·have : ltI ((oq.length : Nat) : Int) 40 = true := QU.2 (by omega)
   rw [if_pos (by decide), if_pos this, if_pos (by simp; omega), if_neg (by decide), if_neg (by decide), if_neg (by decide), if_pos ⟨rfl, h40⟩]
  ·have : ¬ ltI ((oq.length : Nat) : Int) 40 = true := by rw [QU]; omega
   rw [if_pos (by decide), if_neg this, if_neg (by decide), if_neg (by decide), if_neg (by decide), if_neg (by omega)]
 rw [if_neg (by simpa using h0), if_neg (c := k = 0 ∧ oq.length < 40) (by omega)]
 by_cases h3 : k = 3
 ·subst h3
  rw [if_pos (by decide), if_pos (by rw [hc.len]; decide), Qn 0 (by rw [hc.len]; decide)]; rfl
 rw [if_neg (by simpa using h3), if_neg h3]
 by_cases h4 : k = 4
 ·subst h4; rfl
 rw [if_neg (by simpa using h4), if_neg h4]
 by_cases h5 : k = 5
 ·subst h5; rfl
 rw [if_neg (by simpa using h5), if_neg h5]
theorem QmH (hc : OkC cs) (hq : OkQ oq) (k w : Int) : F_ga ((r, pc, cs, ha, wa, ru, dn, iq, oq, ()), k, w, ()) =
  some ((QhI k w, ()), ((r, pc, wrC cs k w, ha, wa, wrR ru k w, dn, iq, wrO oq k w, ()), ())) := by
 have hl := hq.len
 unfold F_ga QhI wrC wrR wrO
 dsimp only
 rw [QfV, Obn, Qcj (by omega), Obn]
 dsimp only
 rw [Qhb hc (by omega), Obn, Qhb hc (by omega), Obn, QtY, QuC, QuD, QuE]
 by_cases h0 : k = 0
 ·subst h0
  by_cases h40 : oq.length < 40
  ·have : ltI ((oq.length : Nat) : Int) 40 = true := QU.2 (by omega)
   rw [if_pos (by decide), if_pos this, if_pos (by simp; omega), if_neg (by decide), if_neg (by decide), if_neg (by decide), if_pos ⟨rfl, h40⟩]
  ·have : ¬ ltI ((oq.length : Nat) : Int) 40 = true := by rw [QU]; omega
   rw [if_pos (by decide), if_neg this, if_neg (by decide), if_neg (by decide), if_neg (by decide), if_neg (by omega)]
 rw [if_neg (by simpa using h0), if_neg (c := k = 0 ∧ oq.length < 40) (by omega)]
 by_cases h3 : k = 3
 ·subst h3; rfl
 rw [if_neg (by simpa using h3), if_neg h3]
 by_cases h4 : k = 4
 ·subst h4; rfl
 rw [if_neg (by simpa using h4), if_neg h4]
 by_cases h5 : k = 5
 ·subst h5; rfl
 rw [if_neg (by simpa using h5), if_neg h5]
theorem Qut (hc : OkC cs) (k w : Int) : OkC (wrC cs k w) := by
 unfold wrC; split
 ·exact hc.set (QY w) (by decide) (fun e => absurd e (by decide)) (fun e => absurd e (by decide)) (fun e => absurd e (by decide))
 ·exact hc
theorem Quu (hq : OkQ oq) (k w : Int) : OkQ (wrO oq k w) := by
 unfold wrO; split
 ·rename_i h
  refine ⟨by simp; omega, fun z hz => ?_⟩
  rcases List.mem_append.1 hz with hz | hz
  ·exact hq.words z hz
  ·rw [List.mem_singleton.1 hz]; exact QY w
 ·exact hq
def badI (op d a i : Int) : Bool :=
 if op ≤ 11 then decide (15 < i) else if op = 13 ∨ op = 19 then decide (a ≠ 0) else if op = 21 then decide (10 < i ∨ a ≠ 0) else if op = 22 then decide (10 < i ∨ d ≠ 0)
 else if 23 ≤ op then decide (d ≠ 0 ∨ a ≠ 0 ∨ i ≠ 0) else false
def insM (op d a i : Int) : Int :=
 if (1 ≤ op ∧ op ≤ 26) ∧ (0 ≤ d ∧ d ≤ 15) ∧ (0 ≤ a ∧ a ≤ 15) ∧ (0 ≤ i ∧ i ≤ 65535) then (if badI op d a i = true then 1 else 0) else 3
theorem QqN (op d a i : Int) : F_fs ((op, d, a, i, ()), ()) = some ((insM op d a i, ()), ()) := by
 unfold F_fs insM
 dsimp only
 rw [QaY, Obn, QaY, Obn, QaY, Obn, QaY, Obn]
 dsimp only
 by_cases h1 : 1 ≤ op ∧ op ≤ 26
 ·by_cases h2 : 0 ≤ d ∧ d ≤ 15
  ·by_cases h3 : 0 ≤ a ∧ a ≤ 15
   ·by_cases h4 : 0 ≤ i ∧ i ≤ 65535
    ·rw [if_pos (c := (1 ≤ op ∧ op ≤ 26) ∧ (0 ≤ d ∧ d ≤ 15) ∧ (0 ≤ a ∧ a ≤ 15) ∧ (0 ≤ i ∧ i ≤ 65535)) ⟨h1, h2, h3, h4⟩, if_pos (by simp [h1]), if_pos (by simp [h2]), if_pos (by simp [h3]), if_neg (by simp [h4])]
     unfold badI
     simp only [Qad, QT, beq_iff_eq, bne_iff_ne, decide_eq_true_eq, decide_eq_false_iff_not, Bool.not_eq_true, bne_eq_false_iff_eq, ne_eq]
     repeat' split
     all_goals first | rfl | (exfalso; simp_all; done) | (exfalso; simp_all; omega) | (exfalso; omega)
    ·rw [if_neg (c := (1 ≤ op ∧ op ≤ 26) ∧ (0 ≤ d ∧ d ≤ 15) ∧ (0 ≤ a ∧ a ≤ 15) ∧ (0 ≤ i ∧ i ≤ 65535)) (by omega), if_pos (by simp [h1]), if_pos (by simp [h2]), if_pos (by simp [h3]), if_pos (by simp; omega)]
   ·rw [if_neg (c := (1 ≤ op ∧ op ≤ 26) ∧ (0 ≤ d ∧ d ≤ 15) ∧ (0 ≤ a ∧ a ≤ 15) ∧ (0 ≤ i ∧ i ≤ 65535)) (by omega), if_pos (by simp [h1]), if_pos (by simp [h2]), if_neg (by simp; omega)]
  ·rw [if_neg (c := (1 ≤ op ∧ op ≤ 26) ∧ (0 ≤ d ∧ d ≤ 15) ∧ (0 ≤ a ∧ a ≤ 15) ∧ (0 ≤ i ∧ i ≤ 65535)) (by omega), if_pos (by simp [h1]), if_neg (by simp; omega)]
 ·rw [if_neg (c := (1 ≤ op ∧ op ≤ 26) ∧ (0 ≤ d ∧ d ≤ 15) ∧ (0 ≤ a ∧ a ≤ 15) ∧ (0 ≤ i ∧ i ≤ 65535)) (by omega), if_neg (by simp; omega)]
def Qmd (op : Int) : Bool := decide (op = 22 ∨ 23 ≤ op)
def Qmc (op : Int) : Bool := decide (op = 13 ∨ op = 19 ∨ op = 21 ∨ 23 ≤ op)
def Qme (op : Int) : Bool := decide (23 ≤ op)
theorem QoJ {op : Int} (h : op ≤ 26) : F_bw (op, ()) = some ((Qmd op, Qmc op, Qme op, ()), ()) := by
 have hc : op = 13 ∨ op = 19 ∨ op = 21 ∨ op = 22 ∨ op = 23 ∨ op = 24 ∨ op = 25 ∨ op = 26 ∨ (¬ op = 13 ∧ ¬ op = 19 ∧ ¬ op = 21 ∧ ¬ op = 22 ∧ ¬ op = 23 ∧ ¬ op = 24 ∧ ¬ op = 25 ∧ ¬ op = 26) := by omega
 rcases hc with rfl | rfl | rfl | rfl | rfl | rfl | rfl | rfl | ⟨n1, n2, n3, n4, n5, n6, n7, n8⟩
 iterate 8 rfl
 have e3 : ¬ 23 ≤ op := by omega
 unfold F_bw Qmd Qmc Qme
 simp [n1, n2, n3, n4, n5, n6, n7, n8, e3]
theorem Qrn (op d a i : Int) : F_bx ((op, d, a, i, ()), ()) = some ((insM op d a i, ()), ()) := by
 unfold F_bx insM
 dsimp only
 rw [Qbv, Obn, Qbv, Obn, Qbv, Obn, Qbv, Obn]
 dsimp only
 by_cases h1 : 1 ≤ op ∧ op ≤ 26
 ·by_cases h2 : 0 ≤ d ∧ d ≤ 15
  ·by_cases h3 : 0 ≤ a ∧ a ≤ 15
   ·by_cases h4 : 0 ≤ i ∧ i ≤ 65535
    ·rw [if_pos (c := (1 ≤ op ∧ op ≤ 26) ∧ (0 ≤ d ∧ d ≤ 15) ∧ (0 ≤ a ∧ a ≤ 15) ∧ (0 ≤ i ∧ i ≤ 65535)) ⟨h1, h2, h3, h4⟩, if_pos (by simp [h1]), if_pos (by simp [h2]), if_pos (by simp [h3]), if_neg (by simp [h4]), QoJ h1.2, Obn]
     unfold badI
     dsimp only
     have hb : (Qmd op = true ↔ (op = 22 ∨ 23 ≤ op)) ∧ (Qmc op = true ↔ (op = 13 ∨ op = 19 ∨ op = 21 ∨ 23 ≤ op)) ∧ (Qme op = true ↔ 23 ≤ op) := by
      unfold Qmd Qmc Qme; simp
     generalize Qmd op = bd at *
     generalize Qmc op = ba at *
     generalize Qme op = bi at *
     by_cases c1 : op ≤ 11
     ·have q1 : bd = false := by rw [Bool.eq_false_iff]; intro e; have := hb.1.1 e; omega
      have q2 : ba = false := by rw [Bool.eq_false_iff]; intro e; have := hb.2.1.1 e; omega
      have q3 : bi = false := by rw [Bool.eq_false_iff]; intro e; have := hb.2.2.1 e; omega
      have n1 : ¬ op = 21 := by omega
      have n2 : ¬ op = 22 := by omega
      by_cases hi : 15 < i <;> simp [q1, q2, q3, c1, hi, Qad, QT, n1, n2]
     ·by_cases c2 : 23 ≤ op
      ·have q1 : bd = true := hb.1.2 (.inr c2)
       have q2 : ba = true := hb.2.1.2 (.inr (.inr (.inr c2)))
       have q3 : bi = true := hb.2.2.2 c2
       have n1 : ¬ op = 21 := by omega
       have n2 : ¬ op = 22 := by omega
       have n3 : ¬ op = 13 := by omega
       have n4 : ¬ op = 19 := by omega
       by_cases hd : d = 0 <;> by_cases ha' : a = 0 <;> by_cases hi : i = 0 <;> simp [q1, q2, q3, c1, c2, hd, ha', hi, Qad, QT, n1, n2, n3, n4]
      ·have q3 : bi = false := by rw [Bool.eq_false_iff]; intro e; have := hb.2.2.1 e; omega
       by_cases c3 : op = 22
       ·have q1 : bd = true := hb.1.2 (.inl c3)
        have q2 : ba = false := by rw [Bool.eq_false_iff]; intro e; have := hb.2.1.1 e; omega
        subst c3
        by_cases hd : d = 0 <;> by_cases hi : 10 < i <;> simp [q1, q2, q3, hd, hi, Qad, QT]
       ·have q1 : bd = false := by rw [Bool.eq_false_iff]; intro e; have := hb.1.1 e; omega
        by_cases c4 : op = 21
        ·have q2 : ba = true := hb.2.1.2 (by omega)
         subst c4
         by_cases ha' : a = 0 <;> by_cases hi : 10 < i <;> simp [q1, q2, q3, ha', hi, Qad, QT]
        ·by_cases c5 : op = 13 ∨ op = 19
         ·have q2 : ba = true := hb.2.1.2 (by omega)
          by_cases ha' : a = 0 <;> simp [q1, q2, q3, ha', c1, c3, c4, c5, Qad, QT]
         ·have q2 : ba = false := by rw [Bool.eq_false_iff]; intro e; have := hb.2.1.1 e; omega
          simp [q1, q2, q3, c1, c2, c3, c4, c5, Qad, QT]
    ·rw [if_neg (c := (1 ≤ op ∧ op ≤ 26) ∧ (0 ≤ d ∧ d ≤ 15) ∧ (0 ≤ a ∧ a ≤ 15) ∧ (0 ≤ i ∧ i ≤ 65535)) (by omega), if_pos (by simp [h1]), if_pos (by simp [h2]), if_pos (by simp [h3]), if_pos (by simp; omega)]
   ·rw [if_neg (c := (1 ≤ op ∧ op ≤ 26) ∧ (0 ≤ d ∧ d ≤ 15) ∧ (0 ≤ a ∧ a ≤ 15) ∧ (0 ≤ i ∧ i ≤ 65535)) (by omega), if_pos (by simp [h1]), if_pos (by simp [h2]), if_neg (by simp; omega)]
  ·rw [if_neg (c := (1 ≤ op ∧ op ≤ 26) ∧ (0 ≤ d ∧ d ≤ 15) ∧ (0 ≤ a ∧ a ≤ 15) ∧ (0 ≤ i ∧ i ≤ 65535)) (by omega), if_pos (by simp [h1]), if_neg (by simp; omega)]
 ·rw [if_neg (c := (1 ≤ op ∧ op ≤ 26) ∧ (0 ≤ d ∧ d ≤ 15) ∧ (0 ≤ a ∧ a ≤ 15) ∧ (0 ≤ i ∧ i ≤ 65535)) (by omega), if_neg (by simp; omega)]
abbrev InsW := Int × Int × Int × Int × Unit
def decM (w : Int) : InsW := (w / 16777216, w / 1048576 % 16, w / 65536 % 16, w % 65536, ())
def decF (w : Int) : Int := insM (decM w).1 (decM w).2.1 (decM w).2.2.1 (decM w).2.2.2.1
theorem Qri {w : Int} (h : WW w) : F_by (w, ()) = some ((decM w, decide (decF w = 0), ()), ()) := by
 unfold F_by
 dsimp only
 rw [Qbv, Obn]
 dsimp only
 have hok : (decide (w ≥ 0) && decide (w ≤ 4294967295)) = true := Qfh.2 h
 rw [if_neg (by rw [hok]; decide), QpK, QpK, Qop, Qcm h.1, Qcm h.1, Qcm h.1, Qrn, Obn]
 rfl
theorem QqH {w : Int} (h : WW w) : F_ft (w, ()) = some ((if decF w = 0 then (0, decM w, ()) else (5, (0, 0, 0, 0, ()), ()), ()), ()) := by
 unfold F_ft
 dsimp only
 rw [QpK, QpK, Qop, Qcm h.1, Qcm h.1, Qcm h.1, QqN, Obn]
 dsimp only
 have e : insM (w / 2 ^ 24) (w / 2 ^ 20 % 16) (w / 2 ^ 16 % 16) (w % 65536) = decF w := rfl
 rw [e]
 by_cases h0 : decF w = 0
 ·rw [if_neg (by simpa using h0), if_pos h0]; rfl
 ·rw [if_pos (by simpa using h0), if_neg h0]
theorem Qth {w : Int} (h : decF w = 0) : (1 ≤ (decM w).1 ∧ (decM w).1 ≤ 26) ∧ (0 ≤ (decM w).2.1 ∧ (decM w).2.1 ≤ 15) ∧ (0 ≤ (decM w).2.2.1 ∧ (decM w).2.2.1 ≤ 15) ∧ (0 ≤ (decM w).2.2.2.1 ∧ (decM w).2.2.2.1 ≤ 65535) ∧
  ((decM w).1 ≤ 11 → (decM w).2.2.2.1 ≤ 15) ∧ ((decM w).1 = 21 ∨ (decM w).1 = 22 → (decM w).2.2.2.1 ≤ 10) := by
 unfold decF insM at h
 generalize decM w = x at *
 obtain ⟨op, d, a, i, _⟩ := x
 simp only at *
 split at h
 ·rename_i hin
  split at h
  ·omega
  ·rename_i hb
   refine ⟨hin.1, hin.2.1, hin.2.2.1, hin.2.2.2, fun h11 => ?_, fun h2 => ?_⟩
   ·unfold badI at hb
    rw [if_pos h11] at hb
    simpa using hb
   ·unfold badI at hb
    rw [if_neg (by omega), if_neg (by omega)] at hb
    rcases h2 with h2 | h2
    ·rw [if_pos h2] at hb; simp at hb; omega
    ·rw [if_neg (by omega), if_pos h2] at hb; simp at hb; omega
 ·omega
end
structure Mc where
 r : List Int
 pc : Int
 cs : List Int
 ha : Bool
 wa : Bool
 ru : Bool
 dn : Int
 iq : List Int
 oq : List Int
 m : List Int
 ring : Int
 fall : Int
abbrev BusD := List TwoD × List Int × Int × List Int × Int × List Int × Bool × Bool × Bool × Int × List Int × List Int × Int × Unit
abbrev QtN := List Int × Int × List Int × Bool × Bool × Bool × Int × List Int × List Int × List TwoD × List Int × Int × Int × Unit
def Mc.bus (s : Mc) (l : List TwoD) : BusD := (l, s.m, s.ring, s.r, s.pc, s.cs, s.ha, s.wa, s.ru, s.dn, s.iq, s.oq, s.fall, ())
def Mc.core (s : Mc) (l : List TwoD) : QtN := (s.r, s.pc, s.cs, s.ha, s.wa, s.ru, s.dn, s.iq, s.oq, l, s.m, s.fall, s.ring, ())
def Mc.trap (s : Mc) (cause tval : Int) : Mc := { s with pc := s.cs.getD 1 0, cs := QfL s.cs s.pc cause tval, wa := false, fall := cause }
structure OkS (s : Mc) (l : List TwoD) : Prop where
 r : OkR s.r
 pc : WW s.pc
 c : OkC s.cs
 i : OkQ s.iq
 o : OkQ s.oq
 d : 0 ≤ s.dn ∧ s.dn ≤ 1000000000
 l : OkL l s.m
section
variable {r cs iq oq m : List Int} {pc dn ring fall : Int} {ha wa ru : Bool} {l : List TwoD} {s : Mc}
theorem Qfp (h : OkS s l) {cause tval : Int} (h1 : WW cause) (h2 : WW tval) : OkS (s.trap cause tval) l :=
 ⟨h.r, h.c.w (by decide), QsT h.c h.pc h1 h2, h.i, h.o, h.d, h.l⟩
theorem Qcf (hc : OkC cs) (cause tval : Int) : F_bo ((l, m, ring, r, pc, cs, ha, wa, ru, dn, iq, oq, fall, ()), cause, tval, ()) =
  some ((), ((l, m, ring, r, cs.getD 1 0, QfL cs pc cause tval, ha, false, ru, dn, iq, oq, cause, ()), ())) := by
 unfold F_bo
 dsimp only
 rw [Qja hc, Obn]
theorem Qca (hc : OkC cs) (cause tval : Int) : F_fj ((r, pc, cs, ha, wa, ru, dn, iq, oq, l, m, fall, ring, ()), cause, tval, ()) =
  some ((), ((r, cs.getD 1 0, QfL cs pc cause tval, ha, false, ru, dn, iq, oq, l, m, cause, ring, ()), ())) := by
 unfold F_fj
 dsimp only
 rw [Qon hc, Obn]
def Qde (op d a : Int) : Bool := if op = 16 then decide (d = a) else if op = 17 then decide (d ≠ a) else decide (sg d < sg a)
def exM (s : Mc) (l : List TwoD) (op d a i : Int) : Bool × Int × Int × Mc :=
 let next := addW s.pc 1
 let far := addW s.pc (off i)
 let rd := s.r.getD d.toNat 0
 let ra := s.r.getD a.toNat 0
 let p := addW ra (off i)
 if op = 12 then (true, next, p, s)
 else if op = 13 then (true, next, i * 65536, s)
 else if op = 14 then
  (if (QN s.cs l s.m p 1).2 ≠ 0 then (false, 0, 0, s.trap 3 p)
   else if 1000 ≤ (QN s.cs l s.m p 1).1 then (true, next, (QeJ s.cs s.ru s.dn s.iq ((QN s.cs l s.m p 1).1 - 1000)).1, { s with iq := (QeJ s.cs s.ru s.dn s.iq ((QN s.cs l s.m p 1).1 - 1000)).2 })
   else (true, next, s.m.getD (QN s.cs l s.m p 1).1.toNat 0, s))
 else if op = 15 then
  (if (QN s.cs l s.m p 2).2 ≠ 0 then (false, 0, 0, s.trap 4 p)
   else if 1000 ≤ (QN s.cs l s.m p 2).1 then (true, next, 0, { s with ring := QhI ((QN s.cs l s.m p 2).1 - 1000) rd, cs := wrC s.cs ((QN s.cs l s.m p 2).1 - 1000) rd, ru := wrR s.ru ((QN s.cs l s.m p 2).1 - 1000) rd, oq := wrO s.oq ((QN s.cs l s.m p 2).1 - 1000) rd })
   else (true, next, 0, { s with m := s.m.set (QN s.cs l s.m p 2).1.toNat rd }))
 else if op = 16 ∨ op = 17 ∨ op = 18 then (true, if Qde op rd ra = true then far else next, 0, s)
 else if op = 19 then (true, far, next, s)
 else if op = 20 then (true, p, next, s)
 else if op = 21 then (true, next, getM s.cs s.ru s.dn s.iq i, s)
 else if op = 22 then (true, next, 0, { s with cs := setC s.cs i ra, ru := setR s.ru i ra })
 else if op = 23 then (false, 0, 0, s.trap 5 0)
 else if op = 24 then (true, s.cs.getD 2 0, 0, { s with pc := s.cs.getD 2 0, cs := Qie s.cs })
 else if op = 25 then (true, next, 0, { s with wa := true })
 else if op = 26 then (true, s.pc, 0, { s with ha := true })
 else (true, next, aluW op ra (s.r.getD i.toNat 0), s)
def wrD (op : Int) : Bool := decide ((1 ≤ op ∧ op ≤ 14) ∨ (19 ≤ op ∧ op ≤ 21))
def doM (s : Mc) (l : List TwoD) (op d a i : Int) : Bool × Mc :=
 let e := exM s l op d a i
 if e.1 = true then (true, { e.2.2.2 with pc := e.2.1, r := if wrD op = true ∧ 0 < d then e.2.2.2.r.set d.toNat e.2.2.1 else e.2.2.2.r }) else (false, e.2.2.2)
structure OkI (op d a i : Int) : Prop where
 hop : 1 ≤ op ∧ op ≤ 26
 hd : 0 ≤ d ∧ d ≤ 15
 ha : 0 ≤ a ∧ a ≤ 15
 hi : 0 ≤ i ∧ i ≤ 65535
 i11 : op ≤ 11 → i ≤ 15
 i21 : op = 21 ∨ op = 22 → i ≤ 10
theorem QdN (hr : OkR r) {d : Int} (hd : 0 ≤ d ∧ d ≤ 15) (w : Int) : F_cb ((l, m, ring, r, pc, cs, ha, wa, ru, dn, iq, oq, fall, ()), d, w, ()) =
  some ((), ((l, m, ring, if 0 < d then r.set d.toNat w else r, pc, cs, ha, wa, ru, dn, iq, oq, fall, ()), ())) := by
 unfold F_cb
 dsimp only
 by_cases h0 : d = 0
 ·subst h0; rfl
 ·have hin : 0 ≤ d ∧ d < ((r.length : Nat) : Int) := by rw [hr.len]; omega
  rw [if_pos (by simpa using h0), if_pos hin, Qn 0 (by rw [hr.len]; omega), if_pos (c := 0 < d) (by omega)]
theorem Qns (hr : OkR r) {op d a i : Int} (hd : 0 ≤ d ∧ d ≤ 15) (hA : 0 ≤ a ∧ a ≤ 15) : F_ci ((r, pc, cs, ha, wa, ru, dn, iq, oq, ()), (op, d, a, i, ()), ()) =
  some ((Qde op (r.getD d.toNat 0) (r.getD a.toNat 0), ()), ()) := by
 unfold F_ci Qde
 dsimp only
 rw [if_pos hd.1, Qn 0 (by rw [hr.len]; omega), if_pos hA.1, Qn 0 (by rw [hr.len]; omega), Qel, Obn, Qel, Obn]
 by_cases h16 : op = 16
 ·subst h16; rfl
 rw [if_neg (by simpa using h16), if_neg h16]
 by_cases h17 : op = 17
 ·subst h17
  rw [if_pos (by decide), if_pos rfl]
  generalize r.getD d.toNat 0 = x
  generalize r.getD a.toNat 0 = y
  by_cases e : x = y <;> simp [e]
 rw [if_neg (by simpa using h17), if_neg h17, QT]
theorem Qsc {i : Int} (h : 0 ≤ i ∧ i ≤ 65535) : IntKind.i64.wrap (i * 65536) = i * 65536 := Qt (by omega) (by omega)
end
end Go.Proofs.YtopmpmbdkieenaaGreatDoor
