/- Plain laws: what the functions compute, and that both programs compute the same. -/
import Derived.Test.YtajnommlfjfgpaaGreatDoorPb1
namespace Go.Proofs.YtajnommlfjfgpaaGreatDoor
open Go Go.RowKit S Go.Proofs
set_option maxRecDepth 100000
set_option linter.unusedVariables false
set_option linter.unusedSimpArgs false
theorem Qha (x : QH) (h : Qbp 1048576 x) : F_go (x, ()) = some ((Qay x, ()), ()) := by
 obtain ⟨hp, h1, h2, h3⟩ := h
 let bx : (den (.slice (.slice (.int .i64)))) × List QaA × List TwoD × List TwoD × List Int × List QK × Int × Int × Int × Unit := (x.1.1, x.1.2.1, x.1.2.2.1, x.1.2.2.2.1, x.2.1, x.2.2.1, x.2.2.2.1, x.2.2.2.2.1, x.2.2.2.2.2.1, ())
 have key := QQ (step := l_go_7) (γ := denO o_go_7) (fun i => (((), x.2.2.1, ((x.2.2.1.length : Nat) : Int), ((i : Nat) : Int), ()), (bx, ()), ())) x.2.2.1 (fun (_ : Nat) h => nz (hartM h))
  (fun c => some (.inr (.inl ((c, ()), (), ())))) (some (.inl (((), ()), (bx, ()), ()))) (QaD h2) ?_ ?_
 ·have e0 : ((0 : Nat) : Int) = 0 := rfl
  rw [e0] at key
  unfold F_go Qay
  dsimp only
  rw [Qne x.1 hp, Option.bind_some]
  dsimp only
  by_cases g0 : polM x.1 = 0
  case neg => rw [if_pos (by simpa using g0), if_pos g0]
  have n0 : ¬ polM x.1 ≠ 0 := by simpa using g0
  have hG : ∀ P : Prop, ¬ P → ¬ (P ∧ x.2.2.1.length = x.1.1.length) := fun P h g => h g.1
  rw [if_neg (by simpa using g0), if_neg n0, QkE _ h1, Option.bind_some]
  dsimp only
  by_cases g1 : QT x.2.1 = 0 ∧ x.2.1.length = 192
  case neg => rw [if_neg (by simpa using g1), if_neg (hG _ g1)]
  rw [if_pos (by simpa using g1)]
  by_cases g2 : x.2.2.1.length = x.1.1.length
  case neg =>
   have : ¬ ((x.2.2.1.length : Nat) : Int) = ((x.1.1.length : Nat) : Int) := by omega
   rw [if_pos (by simpa using this), if_neg (fun g : (QT x.2.1 = 0 ∧ x.2.1.length = 192) ∧ x.2.2.1.length = x.1.1.length => g2 g.2)]
  have hH : (QT x.2.1 = 0 ∧ x.2.1.length = 192) ∧ x.2.2.1.length = x.1.1.length := ⟨g1, g2⟩
  rw [if_neg (by rw [g2]; simp), if_pos hH]
  show (Qd l_go_7 lots (((), x.2.2.1, ((x.2.2.1.length : Nat) : Int), 0, ()), (bx, ()), ())).bind _ = _
  rw [key]
  unfold Qgy
  cases scan (fun (_ : Nat) h => nz (hartM h)) 0 x.2.2.1 with
  | some c => rfl
  | none =>
   rw [Option.bind_some]
   dsimp only [bx]
   rw [Qan, Option.bind_some]
   dsimp only
   cases g3 : inB x.2.2.2.2.2.1 0 1000000
   ·simp
   ·rw [if_neg (by simp), if_pos rfl]
    show (F_gn (x.1, x.2.2.2.2.2.1, ())).bind _ = _
    rw [QlM x.1 _ (QlV g0) (Qen.1 g3).1, Option.bind_some]
    dsimp only
    by_cases g4 : x.2.2.2.1 = (Qbh x.1 x.2.2.2.2.2.1).1
    ·by_cases g5 : x.2.2.2.2.1 = (Qbh x.1 x.2.2.2.2.2.1).2
     ·rw [if_pos (by simpa using g4), if_neg (by simpa using g5), if_pos ⟨g4, g5⟩]
     ·rw [if_pos (by simpa using g4), if_pos (by simpa using g5), if_neg (fun h => g5 h.2)]
    ·rw [if_neg (by simpa using g4), if_neg (fun h => g4 h.1)]
 ·intro rec i hi
  unfold l_go_7
  dsimp only
  rw [if_pos (lt_t hi), if_pos nat0, Qs hi, QlF _ (h3 _ (List.getElem_mem hi)), Option.bind_some, QO (lt1 hi h2)]
  dsimp only
  unfold nz
  by_cases g : hartM x.2.2.1[i] = 0
  ·rw [if_neg (by simpa using g), if_neg (by simpa using g)]
  ·rw [if_pos (by simpa using g), if_pos (by simpa using g)]
 ·intro rec
  unfold l_go_7
  dsimp only
  rw [if_neg Qau]
theorem QnQ (m : List QK) (n : Int) (h0 : 0 ≤ n) (h1 : n ≤ 1048576) (h2 : m.length ≤ maxLen) (h3 : ∀ l ∈ m, Qal maxLen l) :
  ∃ r : Int, F_ef (m, n, ()) = some ((r, ()), ()) ∧ (r < 0 ∨ (0 ≤ r ∧ r ≤ n ∧ m.length ≤ 1048576 ∧ ∀ l ∈ m, Qal 1048576 l)) :=
 QoN (F := F_ef) (step := l_ef_5) (f := fun y k => F_ee (y, k, ())) (ok := fun l => Qal 1048576 l) (fun _ _ => rfl) (fun _ => rfl) (fun _ => rfl) (fun _ _ _ _ => rfl) m h2 (fun y hy k g0 g1 => Qqf y k g0 g1 (h3 y hy)) n h0 h1
theorem QjT (x : QH) (n : Int) (h0 : 0 ≤ n) (h1 : n ≤ 1048576) (h : Qbp maxLen x) : ∃ r : Int, F_eg (x, n, ()) = some ((r, ()), ()) ∧ (r < 0 ∨ (0 ≤ r ∧ r ≤ n ∧ Qbp 1048576 x)) := by
 obtain ⟨a1, a2, a3, a4⟩ := h
 unfold F_eg
 simp only [QP, decide_eq_true_eq]
 obtain ⟨r1, e1, c1⟩ := Qrr x.1 n h0 h1 a1
 rw [e1, Option.bind_some]
 by_cases d1 : r1 < 0
 ·exact ⟨-1, by rw [if_pos d1], .inl (by omega)⟩
 rw [if_neg d1]
 have c1 := c1.resolve_left d1
 obtain ⟨r2, e2, c2⟩ := QdF x.2.1 r1 (by omega) (by omega) a2
 rw [e2, Option.bind_some]
 by_cases d2 : r2 < 0
 ·exact ⟨-1, by rw [if_pos d2], .inl (by omega)⟩
 rw [if_neg d2]
 have c2 := c2.resolve_left d2
 obtain ⟨r3, e3, c3⟩ := QnQ x.2.2.1 r2 (by omega) (by omega) a3 a4
 rw [e3, Option.bind_some]
 by_cases d3 : r3 < 0
 ·exact ⟨-1, by rw [if_pos d3], .inl (by omega)⟩
 rw [if_neg d3]
 have c3 := c3.resolve_left d3
 exact ⟨r3, rfl, .inr ⟨by omega, by omega, c1.2.2, c2.2.2, c3.2.2.1, c3.2.2.2⟩⟩
theorem QnU (m : List QK) (h : m.length ≤ 1048576) (h2 : ∀ l ∈ m, Qal 1048576 l) : F_er (m, ()) = some ((m, ()), ()) :=
 Qgl (by_ := 120) (F := F_er) (step := l_er_3) (f := fun y => F_eq (y, ())) (g := fun r => r.1.1) (fun _ => rfl) (fun _ => rfl) (fun _ _ _ _ => rfl) (by omega) m h fun y hy => ⟨_, Qqh y (h2 y hy), rfl⟩
theorem QjW (x : QH) (h : Qbp 1048576 x) : F_es (x, ()) = some (((x.1.1, x.1.2.1, x.1.2.2.1, x.1.2.2.2.1, x.2.1, x.2.2.1, x.2.2.2.1, x.2.2.2.2.1, x.2.2.2.2.2.1, ()), ()), ()) := by
 obtain ⟨a1, a2, a3, a4⟩ := h
 unfold F_es
 rw [Qrw x.1 a1, Option.bind_some, QbE x.2.1 (le8 a2), Option.bind_some, QnU x.2.2.1 a3 a4, Option.bind_some]
theorem QmT (m : List QK) (h : m.length ≤ 1048576) (h2 : ∀ l ∈ m, Qal 1048576 l) : F_hx (m, m, ()) = some ((true, ()), ()) :=
 QfS (F := F_hx) (step := l_hx_4) (f := fun y y' => F_hw (y, y', ())) (fun _ => rfl) (fun _ => rfl) (fun _ _ _ _ => rfl) m (QaD h) fun y hy => Qpk y (h2 y hy)
theorem Qjj (x : QH) (h : Qbp 1048576 x) : F_hy (x, x, ()) = some ((true, ()), ()) := by
 obtain ⟨a1, a2, a3, a4⟩ := h
 unfold F_hy
 rw [QqE x.1 a1, Option.bind_some, if_neg (by simp), Qbw x.2.1 (leM a2), Option.bind_some, if_neg (by simp), QmT x.2.2.1 a3 a4, Option.bind_some, if_neg (by simp), if_neg (by simp), if_neg (by simp), if_neg (by simp)]
theorem QlO {h : QK} (hh : inR (.pair (.slice (.int .i64)) (.pair (.int .i64) (.pair (.slice (.int .i64)) (.pair .bool (.pair .bool (.pair .bool (.pair (.int .i64) (.pair (.slice (.int .i64)) (.pair (.slice (.int .i64)) .unit))))))))) h) : Qal maxLen h :=
 ⟨hh.1.1, hh.2.2.1.1, hh.2.2.2.2.2.2.2.1.1, hh.2.2.2.2.2.2.2.2.1.1⟩
theorem QfX {x : QH} (h : Qay x = 0) : polM x.1 = 0 := by
 unfold Qay at h
 split at h
 ·rename_i h'; exact absurd h h'
 ·rename_i h'; simpa using h'
def Byt (c : List Int) : Prop := (∀ b ∈ c, 0 ≤ b ∧ b ≤ 255) ∧ c.length ≤ 1048577
def Qav (x : QH) (n : Int) : Bool := inB n 0 200 && leI (IntKind.i64.wrap (x.2.2.2.2.2.1 + n)) 1000000
theorem Qgj (x : QH) (n : Int) : F_fg (x, n, ()) = some ((Qav x n, ()), ()) := by
 unfold F_fg Qav
 dsimp only
 rw [QbN, Option.bind_some]
 dsimp only
 cases inB n 0 200
 ·rw [if_neg (by simp)]; rfl
 ·rw [if_pos rfl]; rfl
theorem QoB {c : Int} (h : nz c = none) : c = 0 := by
 unfold nz at h
 split at h
 ·cases h
 ·rename_i h'; simpa using h'
theorem Qid {p : PolD} (hok : OkPol p) : ∀ l ∈ p.2.1, (isG p l.1 = true ∧ isG p l.2.1 = true ∧ l.1 ≠ l.2.1) ∧ (0 ≤ l.2.2.1 ∧ l.2.2.1 ≤ 23) ∧ (5 ≤ l.2.2.2.1 ∧ l.2.2.2.1 ≤ 6) ∧ 5 ≤ l.2.2.2.2.1 ∧ l.2.2.2.2.1 ≤ 6 := by
 intro l hl
 obtain ⟨i, e⟩ := Qbn hok.lanes.2 l hl
 have e := QoB e
 unfold Qfd at e
 split at e
 ·rename_i h; exact absurd e h
 ·rename_i h0
  split at e
  ·rename_i h1
   refine ⟨?_, Qen.1 h1.1, Qen.1 h1.2.1, Qen.1 h1.2.2⟩
   have h0 : Qcr p l.1 l.2.1 = 0 := by simpa using h0
   unfold Qcr at h0
   split at h0
   ·rename_i g1
    split at h0
    ·rename_i g2
     split at h0
     ·cases h0
     ·rename_i g3; exact ⟨g1, g2, g3⟩
    ·cases h0
   ·cases h0
  ·cases e
theorem QfY {p : PolD} {g : Int} : isG p g = true ↔ 0 ≤ g ∧ g < (p.1.length : Int) := by unfold isG; simp; omega
def pg (m : List Int) (p : Int) : List Int := (m.drop (8 * p.toNat)).take 8
def QaJ (m : List Int) (l : List Int) : List Int := l.flatMap (pg m)
theorem QgH (m : List Int) (p : Int) : (pg m p).length ≤ 8 := by unfold pg; simp; omega
theorem QfH (m : List Int) : ∀ l : List Int, (QaJ m l).length ≤ 8 * l.length
 | [] => by simp [QaJ]
 | p :: r => by
  have h1 := QfH m r
  have h2 := QgH m p
  unfold QaJ at h1 ⊢
  rw [List.flatMap_cons, List.length_append, List.length_cons]; omega
theorem QiF (m : List Int) {l : List Int} {k : Nat} (h : k < l.length) : QaJ m (l.drop k) = pg m l[k] ++ QaJ m (l.drop (k + 1)) := by
 rw [QaB h]; rfl
theorem QsZ (m : List Int) (P : Nat) (h : 8 * P + 8 ≤ m.length) (h2 : m.length ≤ 192) :
  (0 ≤ IntKind.i64.wrap ((P : Int) * 8) ∧ IntKind.i64.wrap ((P : Int) * 8) ≤ IntKind.i64.wrap (IntKind.i64.wrap ((P : Int) + 1) * 8) ∧ IntKind.i64.wrap (IntKind.i64.wrap ((P : Int) + 1) * 8) ≤ ((m.length : Nat) : Int)) ∧
   (m.drop (IntKind.i64.wrap ((P : Int) * 8)).toNat).take ((IntKind.i64.wrap (IntKind.i64.wrap ((P : Int) + 1) * 8)).toNat - (IntKind.i64.wrap ((P : Int) * 8)).toNat) = pg m (P : Int) := by
 rw [QZ (n := (P : Int) * 8) (by omega) (by omega), QZ (n := (P : Int) + 1) (by omega) (by omega), QZ (n := ((P : Int) + 1) * 8) (by omega) (by omega)]
 refine ⟨⟨by omega, by omega, by omega⟩, ?_⟩
 have e1 : ((P : Int) * 8).toNat = 8 * P := by omega
 have e2 : (((P : Int) + 1) * 8).toNat - 8 * P = 8 := by omega
 rw [e1, e2]
 unfold pg
 rw [Int.toNat_natCast]
theorem Qfm (m l : List Int) (hm : m.length ≤ 192) (hp : ∀ p ∈ l, 0 ≤ p ∧ 8 * p + 8 ≤ (m.length : Int)) (hl : l.length ≤ 1000) : F_fj (m, l, ()) = some ((QaJ m l, ()), ()) := by
 have key := QcR (step := l_fj_3) (γ := denO o_fj_3) (fun k (out : List Int) => ((m, l, out, ((k : Nat) : Int), ()), (), ())) l.length (Qae (by omega)) (fun k out => out.length ≤ 8 * k)
  (fun k out => some (.inl ((out ++ QaJ m (l.drop k), ()), (), ()))) ?_ 0 [] (by omega) (by simp)
 ·have e0 : ((0 : Nat) : Int) = 0 := rfl
  rw [e0, List.drop_zero, List.nil_append] at key
  unfold F_fj
  show (Qd l_fj_3 lots _).bind _ = _
  rw [key, Option.bind_some]
 ·rintro rec k out hk ho ih
  unfold l_fj_3
  dsimp only
  by_cases hlt : k < l.length
  ·have hy := hp _ (List.getElem_mem hlt)
   have hg := QiF m hlt
   generalize hq : l[k] = y at hy hg
   obtain ⟨P, rfl⟩ : ∃ P : Nat, y = (P : Int) := ⟨y.toNat, by omega⟩
   obtain ⟨c1, c2⟩ := QsZ m P (by omega) hm
   have hget : l[((k : Nat) : Int).toNat]? = some (P : Int) := by rw [Int.toNat_natCast, List.getElem?_eq_getElem hlt, hq]
   rw [if_pos (lt_t hlt), if_pos nat0, hget, Option.bind_some, if_pos nat0, Option.bind_some, c2, if_pos c1, if_pos (by have := QgH m (P : Int); omega), QO (by omega), hg]
   rw [ih (out ++ pg m (P : Int)) hlt (by have := QgH m (P : Int); rw [List.length_append]; omega), List.append_assoc]
  ·rw [if_neg (lt_f hlt), QaS hlt]
   simp [QaJ]
theorem Qhb (m : List Int) (p : Int) (hm : m.length ≤ 192) (hp : 0 ≤ p ∧ 8 * p + 8 ≤ (m.length : Int)) : F_aw (m, p, ()) = some ((pg m p, ()), ()) := by
 obtain ⟨P, rfl⟩ : ∃ P : Nat, p = (P : Int) := ⟨p.toNat, by omega⟩
 rw [QjI m P (by omega) hm]
 unfold pg
 rw [Int.toNat_natCast]
theorem QkF (m l : List Int) (hm : m.length ≤ 192) (hp : ∀ p ∈ l, 0 ≤ p ∧ 8 * p + 8 ≤ (m.length : Int)) (hl : l.length ≤ 1000) : F_ha (m, l, ()) = some ((QaJ m l, ()), ()) := by
 have key := QcR (step := l_ha_3) (γ := denO o_ha_3) (fun k (out : List Int) => ((m, out, l, ((l.length : Nat) : Int), ((k : Nat) : Int), ()), (), ())) l.length (Qae (by omega)) (fun k out => out.length ≤ 8 * k)
  (fun k out => some (.inl ((out ++ QaJ m (l.drop k), ()), (), ()))) ?_ 0 [] (by omega) (by simp)
 ·have e0 : ((0 : Nat) : Int) = 0 := rfl
  rw [e0, List.drop_zero, List.nil_append] at key
  unfold F_ha
  show (Qd l_ha_3 lots _).bind _ = _
  rw [key, Option.bind_some]
 ·rintro rec k out hk ho ih
  unfold l_ha_3
  dsimp only
  by_cases hlt : k < l.length
  ·have hy := hp _ (List.getElem_mem hlt)
   rw [if_pos (lt_t hlt), if_pos nat0, Qs hlt, Qhb m _ hm hy, Option.bind_some]
   dsimp only
   rw [if_pos (by have := QgH m l[k]; omega), QO (by omega), QiF m hlt]
   rw [ih (out ++ pg m l[k]) hlt (by have := QgH m l[k]; rw [List.length_append]; omega), List.append_assoc]
  ·rw [if_neg (lt_f hlt), QaS hlt]
   simp [QaJ]
def QaP (g : Int) (b : Bool) : List QaA → List Int
 | [] => []
 | l :: r => if l.1 = g then (if b = true then l.2.2.1 else l.2.2.2.1) :: QaP g b r else QaP g b r
theorem Qfv (g : Int) (b : Bool) : ∀ ls : List QaA, (QaP g b ls).length ≤ ls.length
 | [] => by simp [QaP]
 | l :: r => by
  have := Qfv g b r
  simp only [QaP]
  split
  ·simp only [List.length_cons]; omega
  ·simp only [List.length_cons]; omega
theorem Qfw {g : Int} {b : Bool} : ∀ {ls : List QaA}, ∀ v ∈ QaP g b ls, ∃ l ∈ ls, l.1 = g ∧ v = if b = true then l.2.2.1 else l.2.2.2.1
 | [], v, h => by simp [QaP] at h
 | l :: r, v, h => by
  simp only [QaP] at h
  split at h
  ·rename_i hg
   rcases List.mem_cons.1 h with h | h
   ·exact ⟨l, by simp, hg, h⟩
   ·obtain ⟨l', h1, h2⟩ := Qfw v h
    exact ⟨l', by simp [h1], h2⟩
  ·obtain ⟨l', h1, h2⟩ := Qfw v h
   exact ⟨l', by simp [h1], h2⟩
theorem QqJ (p : PolD) (g : Int) (b : Bool) (hl : p.2.1.length ≤ 4) : F_fk (p, g, b, ()) = some ((QaP g b p.2.1, ()), ()) := by
 have key := QcR (step := l_fk_3) (γ := denO o_fk_3) (fun k (out : List Int) => ((p, g, b, out, ((k : Nat) : Int), ()), (), ())) p.2.1.length (Qae (by omega)) (fun k out => out.length ≤ k)
  (fun k out => some (.inl ((out ++ QaP g b (p.2.1.drop k), ()), (), ()))) ?_ 0 [] (by omega) (by simp)
 ·have e0 : ((0 : Nat) : Int) = 0 := rfl
  rw [e0, List.drop_zero, List.nil_append] at key
  unfold F_fk
  show (Qd l_fk_3 lots _).bind _ = _
  rw [key, Option.bind_some]
 ·rintro rec k out hk ho ih
  unfold l_fk_3
  dsimp only
  by_cases hlt : k < p.2.1.length
  ·rw [if_pos (lt_t hlt), if_pos nat0, Qs hlt, QaB hlt, QaP, QO (by omega)]
   by_cases h : (p.2.1[k]).1 = g
   ·rw [if_neg (by simpa using h), if_pos h]
    cases b
    ·rw [if_neg (by simp), if_pos nat0, Qs hlt, if_pos (by simp only [List.length_cons, List.length_nil]; omega), ih _ hlt (by simp; omega), if_neg (by simp), List.append_assoc]
     rfl
    ·rw [if_pos rfl, if_pos nat0, Qs hlt, if_pos (by simp only [List.length_cons, List.length_nil]; omega), ih _ hlt (by simp; omega), if_pos rfl, List.append_assoc]
     rfl
   ·rw [if_pos (by simpa using h), if_neg h]
    exact ih _ hlt (by omega)
  ·rw [if_neg (lt_f hlt), QaS hlt, QaP, List.append_nil]
def QbT : QK := ([], 0, [], false, false, false, 0, [], [], ())
theorem Qju (h : QK) (hl : Qal 1048576 h) : F_cj (h, ()) = some ((h, ()), ()) := by
 obtain ⟨l1, l2, l3, l4⟩ := hl
 unfold F_cj
 dsimp only
 rw [if_pos (by simp only [List.length_nil]; omega), if_pos (by simp only [List.length_nil]; omega), if_pos (by simp only [List.length_nil]; omega), if_pos (by simp only [List.length_nil]; omega)]
 rfl
theorem QfP (m : List Int) (h : m.length ≤ 1048576) : F_ap (m, ()) = some ((m, ()), ()) := by
 unfold F_ap
 rw [if_pos (by simp only [List.length_nil]; omega)]
 rfl
theorem QhR (h : QK) (hl : Qal 1048576 h) : F_aq (h, ()) = some ((h, ()), ()) := by
 obtain ⟨l1, l2, l3, l4⟩ := hl
 unfold F_aq
 dsimp only
 rw [QfP _ l1, Option.bind_some, QfP _ l2, Option.bind_some, QfP _ l3, Option.bind_some, QfP _ l4, Option.bind_some]
abbrev Qqt := Int × List Int × Int × List Int × Bool × Bool × Bool × Int × List Int × List Int × List Int × List Int × Unit
def Qkh (c : Int) (h : QK) (o g : List Int) : Qqt := (c, h.1, h.2.1, h.2.2.1, h.2.2.2.1, h.2.2.2.2.1, h.2.2.2.2.2.1, h.2.2.2.2.2.2.1, h.2.2.2.2.2.2.2.1, h.2.2.2.2.2.2.2.2.1, o, g, ())
def QoW (x : QH) (g : Int) : Qqt :=
 if Qay x ≠ 0 then Qkh (Qay x) QbT [] []
 else if isG x.1 g = true then Qkh 0 (x.2.2.1.getD g.toNat QbT) (QaJ x.2.1 (x.1.1.getD g.toNat [])) (QaJ x.2.1 (QaP g true x.1.2.1))
 else Qkh 4 QbT [] []
theorem QqL {x : QH} (h : Qay x = 0) : x.2.1.length = 192 ∧ x.2.2.1.length = x.1.1.length := by
 have hp := QfX h
 unfold Qay at h
 rw [if_neg (by simpa using hp)] at h
 split at h
 ·rename_i g; exact ⟨g.1.2, g.2⟩
 ·cases h
theorem QhP {x : QH} {g : Int} (hx : Qbp 1048576 x) (h : Qay x = 0) (hg : isG x.1 g = true) :
  (0 ≤ g ∧ x.2.2.1[g.toNat]? = some (x.2.2.1.getD g.toNat QbT) ∧ x.1.1[g.toNat]? = some (x.1.1.getD g.toNat [])) ∧ Qal 1048576 (x.2.2.1.getD g.toNat QbT) ∧
   ((x.1.1.getD g.toNat []).length ≤ 5 ∧ ∀ p ∈ x.1.1.getD g.toNat [], 0 ≤ p ∧ 8 * p + 8 ≤ (x.2.1.length : Int)) ∧ ∀ p ∈ QaP g true x.1.2.1, 0 ≤ p ∧ 8 * p + 8 ≤ (x.2.1.length : Int) := by
 obtain ⟨g0, g1⟩ := QfY.1 hg
 obtain ⟨hm, hh⟩ := QqL h
 have hok := QlV (QfX h)
 have hk1 : g.toNat < x.1.1.length := by omega
 have hk2 : g.toNat < x.2.2.1.length := by omega
 have e1 : x.1.1[g.toNat]? = some (x.1.1.getD g.toNat []) := by rw [List.getD_eq_getElem?_getD, List.getElem?_eq_getElem hk1]; rfl
 have e2 : x.2.2.1[g.toNat]? = some (x.2.2.1.getD g.toNat QbT) := by rw [List.getD_eq_getElem?_getD, List.getElem?_eq_getElem hk2]; rfl
 refine ⟨⟨g0, e2, e1⟩, hx.2.2.2 _ (List.mem_of_getElem? e2), ⟨(hok.own1 _ (List.mem_of_getElem? e1)).2.1, fun p hp => ?_⟩, fun p hp => ?_⟩
 ·have := (hok.own1 _ (List.mem_of_getElem? e1)).2.2 p hp
  omega
 ·obtain ⟨l, hl, _, e⟩ := Qfw p hp
  rw [if_pos rfl] at e
  have := (Qid hok l hl).2.1
  omega
def vrLe (r : Qqt) : Prop := r.2.1.length ≤ 1048576 ∧ r.2.2.2.1.length ≤ 1048576 ∧ r.2.2.2.2.2.2.2.2.1.length ≤ 1048576 ∧ r.2.2.2.2.2.2.2.2.2.1.length ≤ 1048576 ∧ r.2.2.2.2.2.2.2.2.2.2.1.length ≤ 1048576 ∧ r.2.2.2.2.2.2.2.2.2.2.2.1.length ≤ 1048576
theorem Qki (c : Int) : vrLe (Qkh c QbT [] []) := by unfold vrLe Qkh QbT; simp
theorem QrC (x : QH) (g : Int) (hx : Qbp 1048576 x) : vrLe (QoW x g) := by
 unfold QoW
 split
 ·exact Qki _
 ·rename_i h0
  have h0 : Qay x = 0 := by simpa using h0
  split
  ·rename_i hg
   obtain ⟨_, a1, ⟨a2, a3⟩, a4⟩ := QhP hx h0 hg
   have w1 := QfH x.2.1 (x.1.1.getD g.toNat [])
   have w2 := QfH x.2.1 (QaP g true x.1.2.1)
   have w3 := Qfv g true x.1.2.1
   have w4 := (QlV (QfX h0)).lanes.1
   exact ⟨a1.1, a1.2.1, a1.2.2.1, a1.2.2.2, by show (QaJ _ _).length ≤ _; omega, by show (QaJ _ _).length ≤ _; omega⟩
  ·exact Qki _
def WW (n : Int) : Prop := 0 ≤ n ∧ n ≤ 4294967295
theorem QsI (n : Int) : iand .i64 n 4294967295 = n % 4294967296 := by
 have h1 : (BitVec.ofInt 64 4294967295).toNat = 2 ^ 32 - 1 := by decide
 have key : (BitVec.ofInt 64 n &&& BitVec.ofInt 64 4294967295).toNat = (n % ((2 ^ 64 : Nat) : Int)).toNat % 2 ^ 32 := by
  rw [BitVec.toNat_and, BitVec.toNat_ofInt, h1, Nat.and_two_pow_sub_one_eq_mod]
 show IntKind.i64.wrap ((BitVec.ofInt 64 n &&& BitVec.ofInt 64 4294967295).toNat : Nat) = _
 rw [key, IntKind.wrap_i64]
 omega
theorem Qnk (n : Int) : iand .i64 n 65535 = n % 65536 := by
 have h1 : (BitVec.ofInt 64 65535).toNat = 2 ^ 16 - 1 := by decide
 have key : (BitVec.ofInt 64 n &&& BitVec.ofInt 64 65535).toNat = (n % ((2 ^ 64 : Nat) : Int)).toNat % 2 ^ 16 := by
  rw [BitVec.toNat_and, BitVec.toNat_ofInt, h1, Nat.and_two_pow_sub_one_eq_mod]
 show IntKind.i64.wrap ((BitVec.ofInt 64 n &&& BitVec.ofInt 64 65535).toNat : Nat) = _
 rw [key, IntKind.wrap_i64]
 omega
theorem Qoz (n : Int) : iand .i64 n 15 = n % 16 := by
 have h1 : (BitVec.ofInt 64 15).toNat = 2 ^ 4 - 1 := by decide
 have key : (BitVec.ofInt 64 n &&& BitVec.ofInt 64 15).toNat = (n % ((2 ^ 64 : Nat) : Int)).toNat % 2 ^ 4 := by
  rw [BitVec.toNat_and, BitVec.toNat_ofInt, h1, Nat.and_two_pow_sub_one_eq_mod]
 show IntKind.i64.wrap ((BitVec.ofInt 64 n &&& BitVec.ofInt 64 15).toNat : Nat) = _
 rw [key, IntKind.wrap_i64]
 omega
def wd (n : Int) : Int := n % 4294967296
theorem QV (n : Int) : WW (wd n) := by unfold wd WW; omega
theorem QeV {n : Int} (h : WW n) : wd n = n := by unfold wd WW at *; omega
theorem Qtc (n : Int) : wd (wd n) = wd n := QeV (QV n)
theorem Qdb (n : Int) : IntKind.u32.wrap n = wd n := by rw [IntKind.wrap_u32]; rfl
theorem QdN (n : Int) : IntKind.i64.wrap (wd n) = wd n := by rw [IntKind.wrap_i64]; unfold wd; omega
theorem Qt {n : Int} (h0 : -9223372036854775808 ≤ n) (h1 : n ≤ 9223372036854775807) : IntKind.i64.wrap n = n := QZ h0 h1
theorem QfF (n : Int) : F_k (n, ()) = some ((wd n, ()), ()) := by
 unfold F_k; simp only [Qdb, QdN]
theorem Qho (x) : F_k x = some ((wd x.1, ()), ()) := QfF x.1
theorem Qfx (n : Int) : F_bh (n, ()) = some ((wd n, ()), ()) := by
 unfold F_bh; simp only [QsI]; rfl
theorem Qbd (x) : F_bh x = some ((wd x.1, ()), ()) := Qfx x.1
def sg (n : Int) : Int := if wd n < 2147483648 then wd n else wd n - 4294967296
theorem QdY (n : Int) : F_dc (n, ()) = some ((sg n, ()), ()) := by
 unfold F_dc sg
 simp only [Qdb]
 have h := QV n
 generalize wd n = w at *
 unfold WW at h
 have e : IntKind.i64.wrap (IntKind.i32.wrap w) = if w < 2147483648 then w else w - 4294967296 := by
  rw [IntKind.wrap_i64, IntKind.wrap_i32]
  split <;> omega
 rw [e]
theorem Qdu (x) : F_dc x = some ((sg x.1, ()), ()) := QdY x.1
theorem QdP (n : Int) : F_bp (n, ()) = some ((sg n, ()), ()) := by
 unfold F_bp sg
 simp only [Qbd, Option.bind_some]
 have h := QV n
 generalize wd n = w at *
 unfold WW at h
 by_cases hw : w < 2147483648
 ·rw [if_pos (QS.2 hw), if_pos hw]
 ·rw [if_neg (by rw [QS]; exact hw), if_neg hw, Qt (n := w - 4294967295) (by omega) (by omega), Qt (n := w - 4294967295 - 1) (by omega) (by omega), show w - 4294967295 - 1 = w - 4294967296 by omega]
theorem Qdn (x) : F_bp x = some ((sg x.1, ()), ()) := QdP x.1
theorem Qsz (n : Int) : -2147483648 ≤ sg n ∧ sg n ≤ 2147483647 := by
 unfold sg; have := QV n; unfold WW at this; split <;> omega
theorem QeR (n : Int) : sg n = 0 ↔ wd n = 0 := by
 unfold sg; have := QV n; unfold WW at this; split <;> omega
def addW (a b : Int) : Int := wd (a + b)
theorem QcG (a b : Int) : F_cw (a, b, ()) = some ((addW a b, ()), ()) := by
 unfold F_cw addW
 simp only [Qdb, QdN, show wd (wd a + wd b) = wd (a + b) by unfold wd; omega]
theorem Qnz (x) : F_cw x = some ((addW x.1 x.2.1, ()), ()) := QcG x.1 x.2.1
theorem QeH (a b : Int) : F_bi (a, b, ()) = some ((addW a b, ()), ()) := by
 unfold F_bi addW
 simp only [Qbd, Option.bind_some]
 have ha := QV a; have hb := QV b
 unfold WW at ha hb
 rw [Qt (by omega) (by omega), show wd (wd a + wd b) = wd (a + b) by unfold wd; omega]
theorem QmX (x) : F_bi x = some ((addW x.1 x.2.1, ()), ()) := QeH x.1 x.2.1
theorem Qja (a b : Int) : WW (addW a b) := QV _
theorem QrG (n : Int) : IntKind.i16.wrap n = (n + 32768) % 65536 - 32768 := by
 simp only [IntKind.wrap, IntKind.bits, IntKind.signed, Bool.true_and, ge_iff_le, decide_eq_true_eq, Int.reducePow, Nat.reduceSub]
 split <;> omega
def off (n : Int) : Int := if 32768 ≤ n % 65536 then n % 65536 - 65536 else n % 65536
theorem QjQ (n : Int) : F_cx (n, ()) = some ((off n, ()), ()) := by
 unfold F_cx off
 have e : IntKind.i64.wrap (IntKind.i16.wrap (IntKind.u16.wrap n)) = if 32768 ≤ n % 65536 then n % 65536 - 65536 else n % 65536 := by
  rw [IntKind.wrap_i64, QrG, IntKind.wrap_u16]
  split <;> omega
 simp only [e]
theorem QpA (n : Int) : F_bj (n, ()) = some ((off n, ()), ()) := by
 unfold F_bj off
 simp only [Qnk]
 by_cases h : 32768 ≤ n % 65536
 ·rw [if_pos (QaX.2 h), if_pos h, Qt (by omega) (by omega)]
 ·rw [if_neg (by rw [QaX]; exact h), if_neg h]
def mulW (a b : Int) : Int := wd (wd a * wd b)
theorem Qqb (a b : Int) : F_dg (a, b, ()) = some ((mulW a b, ()), ()) := by
 unfold F_dg mulW; simp only [Qdb, QdN]
theorem QnG (x) : F_dg x = some ((mulW x.1 x.2.1, ()), ()) := Qqb x.1 x.2.1
theorem Qpz (a b : Int) : F_bs (a, b, ()) = some ((mulW a b, ()), ()) := by
 unfold F_bs mulW; simp only [Qdb, QdN]
theorem Qnd (x) : F_bs x = some ((mulW x.1 x.2.1, ()), ()) := Qpz x.1 x.2.1
theorem QoP (a b : Int) (h : -2147483648 ≤ a ∧ a ≤ 2147483647) : -2147483648 ≤ a.tdiv b ∧ a.tdiv b ≤ 2147483648 := by
 have h1 : (a.tdiv b).natAbs = a.natAbs / b.natAbs := Int.natAbs_tdiv a b
 have h2 : a.natAbs / b.natAbs ≤ a.natAbs := Nat.div_le_self _ _
 omega
def divW (a b : Int) : Int := if wd b = 0 then 4294967295 else wd ((sg a).tdiv (sg b))
theorem QpV (a b : Int) : F_dh (a, b, ()) = some ((divW a b, ()), ()) := by
 unfold F_dh divW
 simp only [Qho, Qdu, Option.bind_some]
 by_cases h : wd b = 0
 ·rw [if_pos (by simpa using h), if_pos h]
 ·have hs : ¬ sg b = 0 := fun e => h ((QeR b).1 e)
  have := QoP (sg a) (sg b) (Qsz a)
  rw [if_neg (by simpa using h), if_neg h, if_neg hs, Qt (by omega) (by omega)]
theorem QnF (x) : F_dh x = some ((divW x.1 x.2.1, ()), ()) := QpV x.1 x.2.1
theorem Qpu (a b : Int) : F_bt (a, b, ()) = some ((divW a b, ()), ()) := by
 unfold F_bt divW
 simp only [Qbd, Qdn, Option.bind_some]
 by_cases h : wd b = 0
 ·rw [if_pos (by simpa using (QeR b).2 h), if_pos h]
 ·have hs : ¬ sg b = 0 := fun e => h ((QeR b).1 e)
  have := QoP (sg a) (sg b) (Qsz a)
  rw [if_neg (by simpa using hs), if_neg h, if_neg hs, Qt (by omega) (by omega)]
theorem Qnb (x) : F_bt x = some ((divW x.1 x.2.1, ()), ()) := Qpu x.1 x.2.1
def remW (a b : Int) : Int := if wd b = 0 then wd a else wd ((sg a).tmod (sg b))
theorem Qqd (a b : Int) : F_di (a, b, ()) = some ((remW a b, ()), ()) := by
 unfold F_di remW
 simp only [Qho, Qdu, Option.bind_some]
 by_cases h : wd b = 0
 ·rw [if_pos (by simpa using h), if_pos h]
 ·have hs : ¬ sg b = 0 := fun e => h ((QeR b).1 e)
  rw [if_neg (by simpa using h), if_neg h, if_neg hs]
theorem QnJ (x) : F_di x = some ((remW x.1 x.2.1, ()), ()) := Qqd x.1 x.2.1
theorem QpC (a b : Int) : F_bu (a, b, ()) = some ((remW a b, ()), ()) := by
 unfold F_bu remW
 simp only [Qbd, Qdn, Option.bind_some]
 by_cases h : wd b = 0
 ·rw [if_pos (by simpa using (QeR b).2 h), if_pos h]
 ·have hs : ¬ sg b = 0 := fun e => h ((QeR b).1 e)
  rw [if_neg (by simpa using hs), if_neg h, if_neg hs]
theorem Qng (x) : F_bu x = some ((remW x.1 x.2.1, ()), ()) := QpC x.1 x.2.1
theorem QgO (n : Int) : ∃ k : Nat, wd n = (k : Int) ∧ k < 4294967296 := ⟨(wd n).toNat, by have := QV n; unfold WW at this; omega, by have := QV n; unfold WW at this; omega⟩
theorem QeL {k : Nat} (h : k < 4294967296) : (BitVec.ofInt 32 (k : Int)).toNat = k := by
 rw [BitVec.ofInt_natCast, BitVec.toNat_ofNat]; exact Nat.mod_eq_of_lt (by omega)
theorem QeM {k : Nat} (h : k < 4294967296) : (BitVec.ofInt 64 (k : Int)).toNat = k := by
 rw [BitVec.ofInt_natCast, BitVec.toNat_ofNat]; exact Nat.mod_eq_of_lt (by omega)
def bitN (op : Int) (a b : Nat) : Nat := if op = 1 then a &&& b else if op = 2 then a ||| b else a ^^^ b
def bitW (op a b : Int) : Int := (bitN op (wd a).toNat (wd b).toNat : Int)
theorem Qkt (op : Int) {a b : Nat} (ha : a < 4294967296) (hb : b < 4294967296) : bitN op a b < 4294967296 := by
 unfold bitN
 split
 ·exact Nat.and_lt_two_pow (n := 32) _ (by omega)
 ·split
  ·exact Nat.or_lt_two_pow (n := 32) (by omega) (by omega)
  ·exact Nat.xor_lt_two_pow (n := 32) (by omega) (by omega)
theorem Qpd (op a b : Int) : WW (bitW op a b) := by
 obtain ⟨x, hx, hx2⟩ := QgO a
 obtain ⟨y, hy, hy2⟩ := QgO b
 unfold bitW WW
 rw [hx, hy]
 have := Qkt op hx2 hy2
 simp only [Int.toNat_natCast]
 omega
theorem QgL (op a b : Int) (h : op = 1 ∨ op = 2 ∨ op = 3) : F_dj (op, a, b, ()) = some (((0, bitW op a b, ()), ()), ()) := by
 unfold F_dj bitW
 simp only [Qdb]
 obtain ⟨x, hx, hx2⟩ := QgO a
 obtain ⟨y, hy, hy2⟩ := QgO b
 rw [hx, hy]
 simp only [Int.toNat_natCast]
 have hlt := Qkt op hx2 hy2
 rcases h with rfl | rfl | rfl
 ·rw [if_pos (by decide)]
  show some (((0, IntKind.i64.wrap (IntKind.u32.wrap ((BitVec.ofInt 32 (x : Int) &&& BitVec.ofInt 32 (y : Int)).toNat : Int)), ()), ()), ()) = _
  have : bitN 1 x y = x &&& y := rfl
  rw [BitVec.toNat_and, QeL hx2, QeL hy2, ← this, Qdb, QdN, QeV (by unfold WW; omega)]
 ·rw [if_neg (by decide), if_pos (by decide)]
  show some (((0, IntKind.i64.wrap (IntKind.u32.wrap ((BitVec.ofInt 32 (x : Int) ||| BitVec.ofInt 32 (y : Int)).toNat : Int)), ()), ()), ()) = _
  have : bitN 2 x y = x ||| y := rfl
  rw [BitVec.toNat_or, QeL hx2, QeL hy2, ← this, Qdb, QdN, QeV (by unfold WW; omega)]
 ·rw [if_neg (by decide), if_neg (by decide), if_pos (by decide)]
  show some (((0, IntKind.i64.wrap (IntKind.u32.wrap ((BitVec.ofInt 32 (x : Int) ^^^ BitVec.ofInt 32 (y : Int)).toNat : Int)), ()), ()), ()) = _
  have : bitN 3 x y = x ^^^ y := rfl
  rw [BitVec.toNat_xor, QeL hx2, QeL hy2, ← this, Qdb, QdN, QeV (by unfold WW; omega)]
theorem Qgz (op a b : Int) (h : op = 1 ∨ op = 2 ∨ op = 3) : F_bv (op, a, b, ()) = some (((0, bitW op a b, ()), ()), ()) := by
 unfold F_bv bitW
 simp only [Qbd, Option.bind_some]
 obtain ⟨x, hx, hx2⟩ := QgO a
 obtain ⟨y, hy, hy2⟩ := QgO b
 rw [hx, hy]
 simp only [Int.toNat_natCast]
 have hlt := Qkt op hx2 hy2
 rcases h with rfl | rfl | rfl
 ·rw [if_pos (by decide)]
  show some (((0, IntKind.i64.wrap ((BitVec.ofInt 64 (x : Int) &&& BitVec.ofInt 64 (y : Int)).toNat : Int), ()), ()), ()) = _
  have : bitN 1 x y = x &&& y := rfl
  rw [BitVec.toNat_and, QeM hx2, QeM hy2, ← this, Qt (by omega) (by omega)]
 ·rw [if_neg (by decide), if_pos (by decide)]
  show some (((0, IntKind.i64.wrap ((BitVec.ofInt 64 (x : Int) ||| BitVec.ofInt 64 (y : Int)).toNat : Int), ()), ()), ()) = _
  have : bitN 2 x y = x ||| y := rfl
  rw [BitVec.toNat_or, QeM hx2, QeM hy2, ← this, Qt (by omega) (by omega)]
 ·rw [if_neg (by decide), if_neg (by decide), if_pos (by decide)]
  show some (((0, IntKind.i64.wrap ((BitVec.ofInt 64 (x : Int) ^^^ BitVec.ofInt 64 (y : Int)).toNat : Int), ()), ()), ()) = _
  have : bitN 3 x y = x ^^^ y := rfl
  rw [BitVec.toNat_xor, QeM hx2, QeM hy2, ← this, Qt (by omega) (by omega)]
def shW (a b : Int) (left : Bool) : Int := if left = true then wd (wd a * 2 ^ (wd b % 32).toNat) else wd a / 2 ^ (wd b % 32).toNat
theorem Qmi {a : Int} (h : WW a) (k : Nat) : WW (a / 2 ^ k) := by
 unfold WW at *
 have h2 : (0 : Int) < 2 ^ k := Int.pow_pos (by omega)
 exact ⟨Int.ediv_nonneg h.1 (by omega), Int.le_trans (Int.ediv_le_self _ h.1) h.2⟩
theorem Qrp (a b : Int) (l : Bool) : WW (shW a b l) := by
 unfold shW; split
 ·exact QV _
 ·exact Qmi (QV a) _
theorem Qrj {k : Nat} (h : k < 32) : (2 : Int) ^ k ≤ 2147483648 := by
 have : (2 : Nat) ^ k ≤ 2 ^ 31 := Nat.pow_le_pow_right (by omega) (by omega)
 have h2 : ((2 ^ k : Nat) : Int) ≤ ((2 ^ 31 : Nat) : Int) := Int.ofNat_le.2 this
 simpa using h2
theorem Qru {w : Int} (h : WW w) : w.tmod 32 = w % 32 := Int.tmod_eq_emod_of_nonneg h.1
theorem Qcf {a : Int} (h : 0 ≤ a) (k : Nat) : a.fdiv (2 ^ k) = a / 2 ^ k := Int.fdiv_eq_ediv_of_nonneg _ (Int.le_of_lt (Int.pow_pos (by omega)))
theorem Qmo (a b : Int) (l : Bool) : F_dk (a, b, l, ()) = some ((shW a b l, ()), ()) := by
 unfold F_dk shW
 simp only [Qdb, Qru (QV b)]
 have hw := QV a
 have hb : 0 ≤ wd b % 32 ∧ wd b % 32 < 32 := by omega
 have e : IntKind.u64.wrap (wd b % 32) = wd b % 32 := by rw [IntKind.wrap_u64]; omega
 have e2 : min (wd b % 32).toNat 32 = (wd b % 32).toNat := by omega
 rw [e, e2]
 cases l
 ·rw [if_neg (by decide), if_neg (by omega), if_neg (by decide), Qcf hw.1]
  have := Qmi hw (wd b % 32).toNat
  unfold WW at this
  rw [Qt (by omega) (by omega)]
 ·rw [if_pos rfl, if_neg (by omega), if_pos rfl, QdN]
theorem QkT (x) : F_dk x = some ((shW x.1 x.2.1 x.2.2.1, ()), ()) := Qmo x.1 x.2.1 x.2.2.1
theorem QlJ (a b : Int) (l : Bool) : F_bw (a, b, l, ()) = some ((shW a b l, ()), ()) := by
 unfold F_bw shW
 simp only [Qbd, Option.bind_some, Qru (QV b)]
 have hw := QV a
 have hb : 0 ≤ wd b % 32 ∧ wd b % 32 < 32 := by omega
 have e2 : min (wd b % 32).toNat 64 = (wd b % 32).toNat := by omega
 rw [e2]
 cases l
 ·rw [if_neg (by decide), if_neg (by omega), if_neg (by decide), Qcf hw.1]
 ·rw [if_pos rfl, if_neg (by omega), if_pos rfl]
  have h1 := Qrj (k := (wd b % 32).toNat) (by omega)
  have h0 : (0 : Int) < 2 ^ (wd b % 32).toNat := Int.pow_pos (by omega)
  unfold WW at hw
  generalize (2 : Int) ^ (wd b % 32).toNat = p at *
  have q0 : 0 ≤ wd a * p := Int.mul_nonneg hw.1 (by omega)
  have q1 : wd a * p ≤ 4294967295 * 2147483648 := Int.mul_le_mul hw.2 h1 (by omega) (by omega)
  rw [Qt (by omega) (by omega)]
theorem QkD (x) : F_bw x = some ((shW x.1 x.2.1 x.2.2.1, ()), ()) := QlJ x.1 x.2.1 x.2.2.1
def aluW (op a b : Int) : Int :=
 if op = 1 then addW a b else if op = 2 then wd (wd a - wd b) else if op = 3 then mulW a b else if op = 4 then divW a b else if op = 5 then remW a b
 else if op = 6 then bitW 1 a b else if op = 7 then bitW 2 a b else if op = 8 then bitW 3 a b else if op = 9 then shW a b true else if op = 10 then shW a b false
 else if sg a < sg b then 1 else 0
theorem QoX (op a b : Int) : WW (aluW op a b) := by
 unfold aluW
 have hd : WW (divW a b) := by unfold divW; split; unfold WW; omega; exact QV _
 have hr : WW (remW a b) := by unfold remW; split <;> exact QV _
 repeat' split
 all_goals first | exact Qja _ _ | exact QV _ | exact hd | exact hr | exact Qpd _ _ _ | exact Qrp _ _ _ | (unfold WW; omega)
theorem QpT (op a b : Int) : F_dl (op, a, b, ()) = some ((aluW op a b, ()), ()) := by
 unfold F_dl aluW
 simp only [Qnz, QnG, QnF, QnJ, QkT, Qdu, Option.bind_some, Qdb, QdN]
 by_cases h1 : op = 1
 ·subst h1; rfl
 rw [if_neg (by simpa using h1), if_neg h1]
 by_cases h2 : op = 2
 ·subst h2; rfl
 rw [if_neg (by simpa using h2), if_neg h2]
 by_cases h3 : op = 3
 ·subst h3; rfl
 rw [if_neg (by simpa using h3), if_neg h3]
 by_cases h4 : op = 4
 ·subst h4; rfl
 rw [if_neg (by simpa using h4), if_neg h4]
 by_cases h5 : op = 5
 ·subst h5; rfl
 rw [if_neg (by simpa using h5), if_neg h5]
 by_cases h6 : op = 6
 ·subst h6
  rw [if_pos (by decide), if_pos rfl, show IntKind.i64.wrap (IntKind.i64.wrap ((6 : Int) - 6) + 1) = 1 from by decide +kernel, QgL 1 a b (by omega)]; rfl
 rw [if_neg (by simpa using h6), if_neg h6]
 by_cases h7 : op = 7
 ·subst h7
  rw [if_pos (by decide), if_pos rfl, show IntKind.i64.wrap (IntKind.i64.wrap ((7 : Int) - 6) + 1) = 2 from by decide +kernel, QgL 2 a b (by omega)]; rfl
 rw [if_neg (by simpa using h7), if_neg h7]
 by_cases h8 : op = 8
 ·subst h8
  rw [if_pos (by decide), if_pos rfl, show IntKind.i64.wrap (IntKind.i64.wrap ((8 : Int) - 6) + 1) = 3 from by decide +kernel, QgL 3 a b (by omega)]; rfl
 rw [if_neg (by simpa using h8), if_neg h8]
 by_cases h9 : op = 9
 ·subst h9; rfl
 rw [if_neg (by simpa using h9), if_neg h9]
 by_cases h10 : op = 10
 ·subst h10; rfl
 rw [if_neg (by simpa using h10), if_neg h10]
 by_cases h : sg a < sg b
 ·rw [if_pos (QS.2 h), if_pos h]
 ·rw [if_neg (by rw [QS]; exact h), if_neg h]
theorem Qps (op a b : Int) (ha : WW a) (hb : WW b) (h : 1 ≤ op ∧ op ≤ 11) : F_bx (op, a, b, ()) = some (((0, aluW op a b, ()), ()), ()) := by
 unfold F_bx aluW
 simp only [Qbd, Option.bind_some, QeV ha, QeV hb, QmX, Qnd, Qnb, Qng, QkD, Qdn]
 by_cases h1 : op = 1
 ·subst h1; rfl
 rw [if_neg (by simpa using h1), if_neg h1]
 by_cases h2 : op = 2
 ·subst h2
  unfold WW at ha hb
  rw [if_pos (by decide), if_pos rfl, Qt (by omega) (by omega)]
 rw [if_neg (by simpa using h2), if_neg h2]
 by_cases h3 : op = 3
 ·subst h3; rfl
 rw [if_neg (by simpa using h3), if_neg h3]
 by_cases h4 : op = 4
 ·subst h4; rfl
 rw [if_neg (by simpa using h4), if_neg h4]
 by_cases h5 : op = 5
 ·subst h5; rfl
 rw [if_neg (by simpa using h5), if_neg h5]
 by_cases h6 : op = 6
 ·subst h6
  rw [if_pos (by decide), if_pos rfl, show IntKind.i64.wrap (IntKind.i64.wrap ((6 : Int) - 6) + 1) = 1 from by decide +kernel, Qgz 1 a b (by omega)]; rfl
 rw [if_neg (by simpa using h6), if_neg h6]
 by_cases h7 : op = 7
 ·subst h7
  rw [if_pos (by decide), if_pos rfl, show IntKind.i64.wrap (IntKind.i64.wrap ((7 : Int) - 6) + 1) = 2 from by decide +kernel, Qgz 2 a b (by omega)]; rfl
 rw [if_neg (by simpa using h7), if_neg h7]
 by_cases h8 : op = 8
 ·subst h8
  rw [if_pos (by decide), if_pos rfl, show IntKind.i64.wrap (IntKind.i64.wrap ((8 : Int) - 6) + 1) = 3 from by decide +kernel, Qgz 3 a b (by omega)]; rfl
 rw [if_neg (by simpa using h8), if_neg h8]
 by_cases h9 : op = 9
 ·subst h9; rfl
 rw [if_neg (by simpa using h9), if_neg h9]
 by_cases h10 : op = 10
 ·subst h10; rfl
 rw [if_neg (by simpa using h10), if_neg h10, if_pos (by simpa using (show op = 11 by omega))]
 by_cases h : sg a < sg b
 ·rw [if_pos (QS.2 h), if_pos h]
 ·rw [if_neg (by rw [QS]; exact h), if_neg h]
structure OkC (cs : List Int) : Prop where
 len : cs.length = 11
 words : ∀ w ∈ cs, WW w
 st : cs.getD 0 0 ≤ 3
 msk : cs.getD 7 0 ≤ 7
 tb : cs.getD 10 0 ≤ 8
 pd : cs.getD 6 0 = 0
 tm : cs.getD 8 0 = 0
structure OkR (r : List Int) : Prop where
 len : r.length = 16
 words : ∀ w ∈ r, WW w
 zero : r.getD 0 0 = 0
structure OkQ (q : List Int) : Prop where
 len : q.length ≤ 40
 words : ∀ w ∈ q, WW w
structure OkL (l : List TwoD) (m : List Int) : Prop where
 len : l.length = 8
 pgs : ∀ p ∈ l, (-1 ≤ p.1 ∧ p.1 ≤ 23) ∧ (0 ≤ p.2.1 ∧ p.2.1 ≤ 7) ∧ 8 * p.1 + 8 ≤ (m.length : Int)
 words : ∀ w ∈ m, WW w
 mlen : m.length ≤ 192
theorem QaT {α : Type} {l : List α} {k : Nat} {d : α} (h : k < l.length) : l.getD k d ∈ l := by
 rw [List.getD_eq_getElem?_getD, List.getElem?_eq_getElem h]; exact List.getElem_mem h
theorem Qcn {α : Type} {l : List α} {k : Nat} (d : α) (h : k < l.length) : l[k]? = some (l.getD k d) := by
 rw [List.getD_eq_getElem?_getD, List.getElem?_eq_getElem h]; rfl
theorem Qn {α γ : Type} {l : List α} {i : Int} (d : α) (h : i.toNat < l.length) (K : α → Option γ) : (l[i.toNat]?).bind K = K (l.getD i.toNat d) := by
 rw [Qcn d h]; rfl
theorem OkC.w {cs : List Int} (h : OkC cs) {k : Nat} (hk : k < 11) : WW (cs.getD k 0) := h.words _ (QaT (by rw [h.len]; exact hk))
theorem OkR.w {cs : List Int} (h : OkR cs) {k : Nat} (hk : k < 16) : WW (cs.getD k 0) := h.words _ (QaT (by rw [h.len]; exact hk))
def QcX (cs : List Int) (ru : Bool) (dn : Int) (iq : List Int) : Int :=
 (if cs.getD 9 0 ≠ 0 ∧ cs.getD 9 0 ≤ dn then 1 else 0) + (if ru = true then 2 else 0) + (if 0 < iq.length then 4 else 0)
theorem Qgd (cs : List Int) (ru : Bool) (dn : Int) (iq : List Int) : 0 ≤ QcX cs ru dn iq ∧ QcX cs ru dn iq ≤ 7 := by
 unfold QcX; repeat' split
 all_goals omega
section
variable {r cs iq oq : List Int} {pc dn : Int} {ha wa ru : Bool}
theorem QdX (hc : OkC cs) : F_cl ((r, pc, cs, ha, wa, ru, dn, iq, oq, ()), ()) = some ((QcX cs ru dn iq, ()), ()) := by
 unfold F_cl QcX
 dsimp only
 have e3 : ltI 0 ((iq.length : Nat) : Int) = decide (0 < iq.length) := by
  have := ltN (a := 0) (b := iq.length)
  simpa using this
 rw [Qn 0 (by rw [hc.len]; decide)]
 simp only [e3, show ((9 : Int)).toNat = 9 from rfl, Qcn (l := cs) (k := 9) 0 (by rw [hc.len]; decide), Option.bind_some]
 generalize cs.getD 9 0 = a
 by_cases h1 : a = 0
 ·cases ru <;> by_cases h3 : 0 < iq.length <;> simp [h1, h3]
 ·by_cases h2 : a ≤ dn <;> cases ru <;> by_cases h3 : 0 < iq.length <;> simp [h1, h2, h3, QX]
theorem QdO (hc : OkC cs) : F_ar ((r, pc, cs, ha, wa, ru, dn, iq, oq, ()), ()) = some ((QcX cs ru dn iq, ()), ()) := by
 have o1 : ior .i64 0 1 = 1 := by decide +kernel
 have o2 : ior .i64 1 2 = 3 := by decide +kernel
 have o3 : ior .i64 3 4 = 7 := by decide +kernel
 have o4 : ior .i64 1 4 = 5 := by decide +kernel
 have o5 : ior .i64 0 2 = 2 := by decide +kernel
 have o6 : ior .i64 2 4 = 6 := by decide +kernel
 have o7 : ior .i64 0 4 = 4 := by decide +kernel
 unfold F_ar QcX
 dsimp only
 have e3 : ltI 0 ((iq.length : Nat) : Int) = decide (0 < iq.length) := by
  have := ltN (a := 0) (b := iq.length)
  simpa using this
 rw [Qn 0 (by rw [hc.len]; decide)]
 simp only [e3, show ((9 : Int)).toNat = 9 from rfl, Qcn (l := cs) (k := 9) 0 (by rw [hc.len]; decide), Option.bind_some, o1, o2, o3, o4, o5, o6, o7]
 generalize cs.getD 9 0 = a
 by_cases h1 : a = 0
 ·cases ru <;> by_cases h3 : 0 < iq.length <;> simp [h1, h3]
 ·by_cases h2 : a ≤ dn <;> cases ru <;> by_cases h3 : 0 < iq.length <;> simp [h1, h2, h3, QX]
def lowB (v : Int) : Int := if v % 2 = 1 then 0 else if v / 2 % 2 = 1 then 1 else if v / 4 % 2 = 1 then 2 else -1
def dueM (cs : List Int) (ru : Bool) (dn : Int) (iq : List Int) : Int := if cs.getD 0 0 % 2 = 0 then -1 else lowB (iand .i64 (QcX cs ru dn iq) (cs.getD 7 0))
theorem QoY : ∀ p : Fin 8, ∀ m : Fin 8, 0 ≤ iand .i64 ((p.val : Nat) : Int) ((m.val : Nat) : Int) ∧ iand .i64 ((p.val : Nat) : Int) ((m.val : Nat) : Int) ≤ 7 := by decide +kernel
theorem Qom {p m : Int} (h : 0 ≤ p ∧ p ≤ 7) (h2 : 0 ≤ m ∧ m ≤ 7) : 0 ≤ iand .i64 p m ∧ iand .i64 p m ≤ 7 := by
 have := QoY ⟨p.toNat, by omega⟩ ⟨m.toNat, by omega⟩
 simp only [show ((p.toNat : Nat) : Int) = p from by omega, show ((m.toNat : Nat) : Int) = m from by omega] at this
 exact this
def lowT (v : Int) : Option (denO o_cm_5) := if lowB v = -1 then some (.inl ((), ((), ()))) else some (.inr (.inl ((lowB v, ()), ((), ()))))
theorem low0 : L_cm_5 (((0 : Int), (0, ())), ((), ())) = lowT 0 := by kernel_rfl
theorem low1 : L_cm_5 (((1 : Int), (0, ())), ((), ())) = lowT 1 := by kernel_rfl
theorem low2 : L_cm_5 (((2 : Int), (0, ())), ((), ())) = lowT 2 := by kernel_rfl
theorem low3 : L_cm_5 (((3 : Int), (0, ())), ((), ())) = lowT 3 := by kernel_rfl
theorem low4 : L_cm_5 (((4 : Int), (0, ())), ((), ())) = lowT 4 := by kernel_rfl
theorem low5 : L_cm_5 (((5 : Int), (0, ())), ((), ())) = lowT 5 := by kernel_rfl
theorem low6 : L_cm_5 (((6 : Int), (0, ())), ((), ())) = lowT 6 := by kernel_rfl
theorem low7 : L_cm_5 (((7 : Int), (0, ())), ((), ())) = lowT 7 := by kernel_rfl
theorem QrY {v : Int} (h : 0 ≤ v ∧ v ≤ 7) : L_cm_5 ((v, (0, ())), ((), ())) = lowT v := by
 have : v = 0 ∨ v = 1 ∨ v = 2 ∨ v = 3 ∨ v = 4 ∨ v = 5 ∨ v = 6 ∨ v = 7 := by omega
 rcases this with rfl | rfl | rfl | rfl | rfl | rfl | rfl | rfl
 ·exact low0
 ·exact low1
 ·exact low2
 ·exact low3
 ·exact low4
 ·exact low5
 ·exact low6
 ·exact low7
theorem QrX : ∀ v : Fin 8, v.val ≠ 0 → tzF (IntKind.u64.wrap ((v.val : Nat) : Int)) = some (lowB ((v.val : Nat) : Int)) ∧ lowB ((v.val : Nat) : Int) ≠ -1 := by decide +kernel
theorem QrW (v : Int) : -1 ≤ lowB v ∧ lowB v ≤ 2 := by
 unfold lowB; repeat' split
 all_goals omega
theorem QpW (hc : OkC cs) : F_cm ((r, pc, cs, ha, wa, ru, dn, iq, oq, ()), ()) = some ((dueM cs ru dn iq, ()), ()) := by
 unfold F_cm dueM
 dsimp only
 rw [QdX hc, Option.bind_some]
 dsimp only
 rw [Qn 0 (by rw [hc.len]; decide), Qn 0 (by rw [hc.len]; decide)]
 have hst := hc.w (k := 0) (by decide)
 have hmk := hc.w (k := 7) (by decide)
 have hmk2 := hc.msk
 have hb := Qom (Qgd cs ru dn iq) ⟨hmk.1, hmk2⟩
 simp only [show ((7 : Int)).toNat = 7 from rfl, show ((0 : Int)).toNat = 0 from rfl, Int.tmod_eq_emod_of_nonneg hst.1]
 generalize iand .i64 (QcX cs ru dn iq) (cs.getD 7 0) = v at *
 by_cases h : cs.getD 0 0 % 2 = 0
 ·rw [if_pos (by simpa using h), if_pos h]
 ·rw [if_neg (by simpa using h), if_neg h]
  rw [QrY hb]
  unfold lowT
  by_cases hl : lowB v = -1
  ·rw [if_pos hl, hl]; rfl
  ·rw [if_neg hl]; rfl
theorem Qpv (hc : OkC cs) : F_at ((r, pc, cs, ha, wa, ru, dn, iq, oq, ()), ()) = some ((dueM cs ru dn iq, ()), ()) := by
 unfold F_at dueM
 dsimp only
 rw [QdO hc, Option.bind_some]
 dsimp only
 rw [Qn 0 (by rw [hc.len]; decide), Qn 0 (by rw [hc.len]; decide)]
 have hst := hc.w (k := 0) (by decide)
 have hmk := hc.w (k := 7) (by decide)
 have hmk2 := hc.msk
 have hb := Qom (Qgd cs ru dn iq) ⟨hmk.1, hmk2⟩
 simp only [show ((7 : Int)).toNat = 7 from rfl, show ((0 : Int)).toNat = 0 from rfl, Int.tmod_eq_emod_of_nonneg hst.1]
 generalize iand .i64 (QcX cs ru dn iq) (cs.getD 7 0) = v at *
 by_cases h : cs.getD 0 0 % 2 = 0
 ·rw [if_neg (by simpa using h), if_pos h]
 ·rw [if_pos (by simpa using h), if_neg h]
  by_cases hv : v = 0
  ·subst hv; rfl
  ·rw [if_neg (by simpa using hv)]
   have := QrX ⟨v.toNat, by omega⟩ (by simp only; omega)
   simp only [show ((v.toNat : Nat) : Int) = v from by omega] at this
   unfold F_as
   dsimp only
   rw [this.1]
   rfl
def Qfn (cs : List Int) (pc cause tval : Int) : List Int := (((cs.set 2 pc).set 3 cause).set 4 tval).set 0 (cs.getD 0 0 % 2 * 2)
theorem getD_set_ne {l : List Int} {i j : Nat} {y d : Int} (h : i ≠ j) : (l.set i y).getD j d = l.getD j d := by
 simp [List.getD_eq_getElem?_getD, List.getElem?_set_ne h]
theorem Qek {l : List Int} {i : Nat} {y d : Int} (h : i < l.length) : (l.set i y).getD i d = y := by
 simp [List.getD_eq_getElem?_getD, List.getElem?_set_self h]
theorem OkC.set {cs : List Int} (h : OkC cs) {k : Nat} {w : Int} (hw : WW w) (hk : k ≠ 6 ∧ k ≠ 8) (h0 : k = 0 → w ≤ 3) (h7 : k = 7 → w ≤ 7) (h10 : k = 10 → w ≤ 8) : OkC (cs.set k w) := by
 by_cases hlt : k < 11
 ·refine ⟨by simp [h.len], fun z hz => ?_, ?_, ?_, ?_, ?_, ?_⟩
  ·rcases List.mem_or_eq_of_mem_set hz with hz | rfl
   ·exact h.words z hz
   ·exact hw
  ·by_cases e : k = 0
   ·subst e; rw [Qek (by rw [h.len]; decide)]; exact h0 rfl
   ·rw [getD_set_ne e]; exact h.st
  ·by_cases e : k = 7
   ·subst e; rw [Qek (by rw [h.len]; decide)]; exact h7 rfl
   ·rw [getD_set_ne e]; exact h.msk
  ·by_cases e : k = 10
   ·subst e; rw [Qek (by rw [h.len]; decide)]; exact h10 rfl
   ·rw [getD_set_ne e]; exact h.tb
  ·rw [getD_set_ne hk.1]; exact h.pd
  ·rw [getD_set_ne hk.2]; exact h.tm
 ·rw [List.set_eq_of_length_le (by rw [h.len]; omega)]; exact h
theorem Qry (hc : OkC cs) (hp : WW pc) {cause tval : Int} (h1 : WW cause) (h2 : WW tval) : OkC (Qfn cs pc cause tval) := by
 unfold Qfn
 have := hc.w (k := 0) (by decide)
 unfold WW at this
 exact (((hc.set hp (by decide) (fun e => absurd e (by decide)) (fun e => absurd e (by decide)) (fun e => absurd e (by decide))).set h1 (by decide) (fun e => absurd e (by decide)) (fun e => absurd e (by decide)) (fun e => absurd e (by decide))).set h2 (by decide) (fun e => absurd e (by decide)) (fun e => absurd e (by decide)) (fun e => absurd e (by decide))).set
  (by unfold WW; omega) (by decide) (fun _ => by omega) (fun e => absurd e (by decide)) (fun e => absurd e (by decide))
theorem Qiq (hc : OkC cs) (cause tval : Int) : F_cn ((r, pc, cs, ha, wa, ru, dn, iq, oq, ()), cause, tval, ()) =
  some ((), ((r, cs.getD 1 0, Qfn cs pc cause tval, ha, false, ru, dn, iq, oq, ()), ())) := by
 have hst := hc.w (k := 0) (by decide)
 have hl := hc.len
 have hw : IntKind.i64.wrap (cs.getD 0 0 % 2 * 2) = cs.getD 0 0 % 2 * 2 := Qt (by omega) (by omega)
 unfold F_cn Qfn
 simp only [show ((2 : Int)).toNat = 2 from rfl, show ((3 : Int)).toNat = 3 from rfl, show ((4 : Int)).toNat = 4 from rfl, show ((0 : Int)).toNat = 0 from rfl, show ((1 : Int)).toNat = 1 from rfl,
  List.length_set, hl, show (0 : Int) ≤ 2 ∧ (2 : Int) < ((11 : Nat) : Int) from by decide, show (0 : Int) ≤ 3 ∧ (3 : Int) < ((11 : Nat) : Int) from by decide, show (0 : Int) ≤ 4 ∧ (4 : Int) < ((11 : Nat) : Int) from by decide,
  show (0 : Int) ≤ 0 ∧ (0 : Int) < ((11 : Nat) : Int) from by decide, show (0 : Int) ≤ 1 ∧ (1 : Int) < ((11 : Nat) : Int) from by decide, and_self, if_true]
 rw [Qcn (l := cs) (k := 2) 0 (by omega), Option.bind_some, Qcn (k := 3) 0 (by simp [hl]), Option.bind_some, Qcn (k := 4) 0 (by simp [hl]), Option.bind_some]
 rw [Qcn (l := ((cs.set 2 pc).set 3 cause).set 4 tval) (k := 0) 0 (by simp [hl]), Option.bind_some, Option.bind_some]
 rw [getD_set_ne (by decide), getD_set_ne (by decide), getD_set_ne (by decide), Int.tmod_eq_emod_of_nonneg hst.1, hw]
 rw [Qcn (k := 1) 0 (by simp [hl]), Option.bind_some]
 rw [getD_set_ne (by decide), getD_set_ne (by decide), getD_set_ne (by decide), getD_set_ne (by decide)]
theorem Qni (hc : OkC cs) (cause tval : Int) : F_au ((r, pc, cs, ha, wa, ru, dn, iq, oq, ()), cause, tval, ()) =
  some ((), ((r, cs.getD 1 0, Qfn cs pc cause tval, ha, false, ru, dn, iq, oq, ()), ())) := Qiq hc cause tval
def QhB (cs : List Int) : List Int := cs.set 0 (2 + cs.getD 0 0 / 2)
theorem Qqx (hc : OkC cs) : OkC (QhB cs) := by
 have := hc.w (k := 0) (by decide)
 have h3 := hc.st
 unfold WW at this
 exact hc.set (by unfold WW; omega) (by decide) (fun _ => by omega) (fun e => absurd e (by decide)) (fun e => absurd e (by decide))
theorem Qip (hc : OkC cs) : F_df ((r, pc, cs, ha, wa, ru, dn, iq, oq, ()), ()) = some ((), ((r, cs.getD 2 0, QhB cs, ha, wa, ru, dn, iq, oq, ()), ())) := by
 have hst := hc.w (k := 0) (by decide)
 have hl := hc.len
 unfold WW at hst
 unfold F_df QhB
 simp only [show ((2 : Int)).toNat = 2 from rfl, show ((0 : Int)).toNat = 0 from rfl, hl, show (0 : Int) ≤ 2 ∧ (2 : Int) < ((11 : Nat) : Int) from by decide, show (0 : Int) ≤ 0 ∧ (0 : Int) < ((11 : Nat) : Int) from by decide, and_self, if_true]
 rw [Qcn (l := cs) (k := 2) 0 (by omega), Option.bind_some, Qcn (l := cs) (k := 0) 0 (by omega), Option.bind_some, Option.bind_some]
 rw [Int.tdiv_eq_ediv_of_nonneg hst.1, Qt (n := cs.getD 0 0 / 2) (by omega) (by omega), Qt (by omega) (by omega)]
theorem QmY (hc : OkC cs) : F_br ((r, pc, cs, ha, wa, ru, dn, iq, oq, ()), ()) = some ((), ((r, cs.getD 2 0, QhB cs, ha, wa, ru, dn, iq, oq, ()), ())) := Qip hc
def getM (cs : List Int) (ru : Bool) (dn : Int) (iq : List Int) (k : Int) : Int := if k = 6 then QcX cs ru dn iq else if k = 8 then dn else cs.getD k.toNat 0
theorem QpY (hc : OkC cs) {k : Int} (hk : 0 ≤ k ∧ k ≤ 10) : F_de ((r, pc, cs, ha, wa, ru, dn, iq, oq, ()), k, ()) = some ((getM cs ru dn iq k, ()), ()) := by
 unfold F_de getM
 dsimp only
 rw [QdX hc, Option.bind_some]
 by_cases h6 : k = 6
 ·rw [if_pos (by simpa using h6), if_pos h6]
 rw [if_neg (by simpa using h6), if_neg h6]
 by_cases h8 : k = 8
 ·rw [if_pos (by simpa using h8), if_pos h8]
 rw [if_neg (by simpa using h8), if_neg h8, if_pos hk.1, Qn 0 (by rw [hc.len]; omega)]
theorem Qpx (hc : OkC cs) {k : Int} (hk : 0 ≤ k ∧ k ≤ 10) : F_bq ((r, pc, cs, ha, wa, ru, dn, iq, oq, ()), k, ()) = some ((getM cs ru dn iq k, ()), ()) := by
 unfold F_bq getM
 dsimp only
 rw [QdO hc, Option.bind_some]
 by_cases h6 : k = 6
 ·rw [if_pos (by simpa using h6), if_pos h6]
 rw [if_neg (by simpa using h6), if_neg h6]
 by_cases h8 : k = 8
 ·rw [if_pos (by simpa using h8), if_pos h8]
 rw [if_neg (by simpa using h8), if_neg h8, if_pos hk.1, Qn 0 (by rw [hc.len]; omega)]
theorem Qpq (hc : OkC cs) {k : Int} (hk : 0 ≤ k ∧ k ≤ 10) (hd : 0 ≤ dn ∧ dn ≤ 1000000000) : WW (getM cs ru dn iq k) := by
 unfold getM
 have := Qgd cs ru dn iq
 split
 ·unfold WW; omega
 ·split
  ·unfold WW; omega
  ·exact hc.w (by omega)
def setC (cs : List Int) (k w : Int) : List Int :=
 if k = 0 then cs.set 0 (wd w % 4) else if k = 7 then cs.set 7 (wd w % 8) else if k = 10 then cs.set 10 (if wd w ≤ 8 then wd w else 0) else if k = 6 ∨ k = 8 then cs else cs.set k.toNat (wd w)
def setR (ru : Bool) (k w : Int) : Bool := if k = 6 ∧ 2 ≤ wd w % 4 then false else ru
theorem Qsj (hc : OkC cs) {k w : Int} (hk : 0 ≤ k ∧ k ≤ 10) : OkC (setC cs k w) := by
 have h := QV w
 have h' := h
 unfold WW at h'
 unfold setC
 split
 ·exact hc.set (by unfold WW; omega) (by decide) (fun _ => by omega) (fun e => absurd e (by decide)) (fun e => absurd e (by decide))
 split
 ·exact hc.set (by unfold WW; omega) (by decide) (fun e => absurd e (by decide)) (fun _ => by omega) (fun e => absurd e (by decide))
 split
 ·exact hc.set (by split; exact h; unfold WW; omega) (by decide) (fun e => absurd e (by decide)) (fun e => absurd e (by decide)) (fun _ => by split <;> omega)
 split
 ·exact hc
 ·exact hc.set h (by omega) (by omega) (by omega) (by omega)
theorem QjS (hc : OkC cs) {k : Int} (hk : 0 ≤ k ∧ k ≤ 10) (w : Int) : F_l ((r, pc, cs, ha, wa, ru, dn, iq, oq, ()), k, w, ()) =
  some ((), ((r, pc, setC cs k w, ha, wa, setR ru k w, dn, iq, oq, ()), ())) := by
 have h := QV w
 unfold WW at h
 have hin : 0 ≤ k ∧ k < ((cs.length : Nat) : Int) := by rw [hc.len]; omega
 have e1 : cs[k.toNat]? = some (cs.getD k.toNat 0) := Qcn 0 (by rw [hc.len]; omega)
 unfold F_l setC setR
 dsimp only
 rw [QfF, Option.bind_some]
 dsimp only
 generalize wd w = v at *
 rw [Int.tmod_eq_emod_of_nonneg h.1, Int.tmod_eq_emod_of_nonneg h.1, e1]
 by_cases h0 : k = 0
 ·subst h0; simp [hc.len]
 by_cases h7 : k = 7
 ·subst h7; simp [hc.len]
 by_cases h10 : k = 10
 ·subst h10
  by_cases h8 : v ≤ 8 <;> simp [hc.len, QX, h8]
 by_cases h6 : k = 6
 ·subst h6
  cases ru <;> by_cases h2 : 2 ≤ v % 4 <;> simp [h2, QP, QX] <;> omega
 by_cases h8 : k = 8
 ·subst h8; simp
 have hk11 : k < 11 := by omega
 simp [h0, h7, h10, h6, h8, hc.len, hk.1, hk11]
theorem QgA (hc : OkC cs) {k : Int} (hk : 0 ≤ k ∧ k ≤ 10) (w : Int) : F_bm ((r, pc, cs, ha, wa, ru, dn, iq, oq, ()), k, w, ()) =
  some ((), ((r, pc, setC cs k w, ha, wa, setR ru k w, dn, iq, oq, ()), ())) := by
 have h := QV w
 unfold WW at h
 have hin : 0 ≤ k ∧ k < ((cs.length : Nat) : Int) := by rw [hc.len]; omega
 have e1 : cs[k.toNat]? = some (cs.getD k.toNat 0) := Qcn 0 (by rw [hc.len]; omega)
 unfold F_bm setC setR
 dsimp only
 rw [Qfx, Option.bind_some]
 dsimp only
 generalize wd w = v at *
 rw [Int.tmod_eq_emod_of_nonneg h.1, Int.tmod_eq_emod_of_nonneg h.1, e1]
 by_cases h0 : k = 0
 ·subst h0; simp [hc.len]
 by_cases h7 : k = 7
 ·subst h7; simp [hc.len]
 by_cases h10 : k = 10
 ·subst h10
  by_cases h8 : v ≤ 8 <;> simp [hc.len, QX, h8]
 by_cases h6 : k = 6
 ·subst h6
  cases ru <;> by_cases h2 : 2 ≤ v % 4 <;> simp [h2, QP, QX] <;> omega
 by_cases h8 : k = 8
 ·subst h8; simp
 have hk11 : k < 11 := by omega
 simp [h0, h7, h10, h6, h8, hc.len, hk.1, hk11]
end
def mayP (p : TwoD) (kind : Int) : Bool := decide (0 ≤ p.1) && !(iand .i64 p.2.1 kind == 0)
def Qaz (l : List TwoD) (at_ kind : Int) : Int :=
 if 0 ≤ at_ ∧ at_ ≤ 63 then (if mayP (l.getD (at_ / 8).toNat (-1, 0, ())) kind = true then (l.getD (at_ / 8).toNat (-1, 0, ())).1 * 8 + at_ % 8 else -1) else -1
def QgU (kind : Int) : Int := if kind = 1 then 7 else if kind = 2 then 8 else 9
structure OkP (l : List TwoD) : Prop where
 len : l.length = 8
 pgs : ∀ p ∈ l, -1 ≤ p.1 ∧ p.1 ≤ 23
theorem OkP.at {l : List TwoD} (h : OkP l) {k : Nat} (hk : k < 8) : -1 ≤ (l.getD k (-1, 0, ())).1 ∧ (l.getD k (-1, 0, ())).1 ≤ 23 := h.pgs _ (QaT (by rw [h.len]; exact hk))
theorem OkL.p {l : List TwoD} {m : List Int} (h : OkL l m) : OkP l := ⟨h.len, fun p hp => (h.pgs p hp).1⟩
theorem QiE {l : List TwoD} (h : OkP l) (at_ kind : Int) : -1 ≤ Qaz l at_ kind ∧ Qaz l at_ kind ≤ 191 := by
 unfold Qaz
 split
 ·have := h.at (k := (at_ / 8).toNat) (by omega)
  split
  ·rename_i hm
   simp only [mayP, Bool.and_eq_true, decide_eq_true_eq] at hm
   omega
  ·omega
 ·omega
theorem QnC (kind : Int) : F_ct (kind, ()) = some ((QgU kind, ()), ()) := by
 unfold F_ct QgU
 by_cases h1 : kind = 1
 ·simp [h1]
 ·by_cases h2 : kind = 2 <;> simp [h1, h2]
theorem QmZ {kind : Int} (h : kind = 1 ∨ kind = 2 ∨ kind = 4) : F_bc (kind, ()) = some ((QgU kind, ()), ()) := by
 rcases h with rfl | rfl | rfl <;> rfl
theorem QhI (kind : Int) : QgU kind ≠ 0 := by
 unfold QgU; repeat' split
 all_goals omega
theorem QfE {l : List TwoD} (h : OkP l) (at_ kind : Int) : F_cp (l, at_, kind, ()) = some ((Qaz l at_ kind, ()), ()) := by
 unfold F_cp Qaz
 dsimp only
 rw [QbM, Option.bind_some]
 dsimp only
 by_cases hin : 0 ≤ at_ ∧ at_ ≤ 63
 ·rw [if_neg (by simp [hin.1, hin.2]), if_pos hin, Int.tdiv_eq_ediv_of_nonneg hin.1, Qt (by omega) (by omega), if_pos (by omega)]
  rw [Qn ((-1, 0, ()) : TwoD) (by rw [h.len]; omega)]
  have hp := h.at (k := (at_ / 8).toNat) (by omega)
  generalize l.getD (at_ / 8).toNat (-1, 0, ()) = p at *
  unfold mayP
  by_cases h0 : 0 ≤ p.1
  ·rw [if_pos (QaN.2 (by omega))]
   by_cases hk : iand .i64 p.2.1 kind = 0
   ·rw [if_pos (by simpa using hk), if_neg (by simp [hk])]
   ·rw [if_neg (by simpa using hk), if_pos (by simp [hk, h0]), Int.tmod_eq_emod_of_nonneg hin.1, Qt (n := p.1 * 8) (by omega) (by omega), Qt (by omega) (by omega)]
  ·rw [if_neg (by rw [QaN]; omega), if_neg (by simp [h0])]
 ·rw [if_pos (by simp; omega), if_neg hin]
theorem QhT {l : List TwoD} (h : OkP l) (at_ : Int) {kind : Int} (hkd : kind = 1 ∨ kind = 2 ∨ kind = 4) :
  F_bd (l, at_, kind, ()) = some ((if Qaz l at_ kind < 0 then (QgU kind, 0, ()) else (0, Qaz l at_ kind, ()), ()), ()) := by
 unfold F_bd F_bb Qaz
 dsimp only
 rw [QaW, Option.bind_some, Option.bind_some, QmZ hkd, Option.bind_some]
 dsimp only
 by_cases hin : 0 ≤ at_ ∧ at_ ≤ 63
 ·rw [if_pos (by simp [hin.1, hin.2]), if_pos hin, Int.tdiv_eq_ediv_of_nonneg hin.1, Qt (by omega) (by omega), if_pos (by omega)]
  rw [Qn ((-1, 0, ()) : TwoD) (by rw [h.len]; omega), Qn ((-1, 0, ()) : TwoD) (by rw [h.len]; omega), Qn ((-1, 0, ()) : TwoD) (by rw [h.len]; omega)]
  have hp := h.at (k := (at_ / 8).toNat) (by omega)
  have h8 : 0 ≤ at_ / 8 := by omega
  generalize l.getD (at_ / 8).toNat (-1, 0, ()) = p at *
  unfold mayP
  by_cases h0 : 0 ≤ p.1
  ·rw [if_pos (QaN.2 (by omega)), if_pos h8]
   by_cases hk : iand .i64 p.2.1 kind = 0
   ·rw [if_pos (by simpa using hk), if_neg (c := (decide (0 ≤ p.1) && !(iand .i64 p.2.1 kind == 0)) = true) (by simp [hk]), if_pos (by decide)]
   ·rw [if_neg (by simpa using hk), if_pos h8, if_pos (c := (decide (0 ≤ p.1) && !(iand .i64 p.2.1 kind == 0)) = true) (by simp [hk, h0]), Int.tmod_eq_emod_of_nonneg hin.1,
     Qt (n := p.1 * 8) (by omega) (by omega), Qt (by omega) (by omega), if_neg (by omega)]
  ·rw [if_neg (by rw [QaN]; omega), if_neg (c := (decide (0 ≤ p.1) && !(iand .i64 p.2.1 kind == 0)) = true) (by simp [h0]), if_pos (by decide)]
 ·rw [if_neg (by simp; omega), if_neg hin, if_pos (by decide)]
def entM (w : Int) : TwoD := if w % 8 ≠ 0 ∧ w / 8 < 8 then (w / 8, w % 8, ()) else (-1, 0, ())
theorem QpX {w : Int} (h : WW w) : F_cq (w, ()) = some ((entM w, ()), ()) := by
 unfold WW at h
 unfold F_cq entM F_o
 dsimp only
 rw [Int.tdiv_eq_ediv_of_nonneg h.1, Int.tmod_eq_emod_of_nonneg h.1, Qt (by omega) (by omega)]
 by_cases h1 : w % 8 = 0
 ·simp [h1]
 ·by_cases h2 : w / 8 < 8
  ·have : ¬ (8 : Int) ≤ w / 8 := by omega
   simp [h1, h2, QX, this]
  ·have : (8 : Int) ≤ w / 8 := by omega
   simp [h1, h2, QX, this]
theorem Qpw {w : Int} (h : WW w) : F_ay (w, ()) = some ((entM w, ()), ()) := by
 unfold WW at h
 unfold F_ay entM F_ax
 dsimp only
 rw [Int.tdiv_eq_ediv_of_nonneg h.1, Int.tmod_eq_emod_of_nonneg h.1, Qt (by omega) (by omega)]
 by_cases h1 : w % 8 = 0
 ·simp [h1]
 ·by_cases h2 : w / 8 < 8
  ·have : ¬ (8 : Int) ≤ w / 8 := by omega
   simp [h1, h2, QX, this]
  ·have : (8 : Int) ≤ w / 8 := by omega
   simp [h1, h2, QX, this]
theorem QrN {w : Int} (h : WW w) : -1 ≤ (entM w).1 ∧ (entM w).1 ≤ 7 := by
 unfold WW at h
 unfold entM; split
 ·simp only; omega
 ·simp only; omega
theorem QeN {w : Int} : okW w = true ↔ WW w := by unfold okW WW; simp
theorem Qbc {m : List Int} : allW m = true ↔ ∀ w ∈ m, WW w := by
 unfold allW; rw [List.all_eq_true]; exact ⟨fun h w hw => QeN.1 (h w hw), fun h w hw => QeN.2 (h w hw)⟩
theorem Qiu {α : Type} {l : List α} {i : Nat} (h : i < l.length) : l.take (i + 1) = l.take i ++ [l[i]] := by rw [List.take_add_one, List.getElem?_eq_getElem h]; rfl
theorem Qhr {ws : List Int} (hl : ws.length = 8) (hw : ∀ w ∈ ws, WW w) : F_cr (ws, ()) = some (((0, ws.map entM, ()), ()), ()) := by
 have key := QcR (step := l_cr_5) (γ := denO o_cr_5) (fun k (s : List TwoD) => ((ws, (), (), ((k : Nat) : Int), ()), ((0, [], ()), ((0, s, ()), ())), ())) 8 (Qae (by omega)) (fun k s => s = (ws.take k).map entM)
  (fun _ _ => some (.inl (((), (), ()), (((0, [], ()), ((0, ws.map entM, ()), ())), ())))) ?_ 0 [] (by omega) (by simp)
 ·unfold F_cr
  dsimp only
  rw [if_neg (by rw [hl]; decide)]
  show (Qd l_cr_5 lots ((ws, (), (), 0, ()), ((0, [], ()), ((0, [], ()), ())), ())).bind _ = _
  rw [show ((0 : Int)) = (((0 : Nat) : Nat) : Int) from rfl] at *
  rw [key]
  rfl
 ·intro rec i s hi hs ih
  unfold l_cr_5
  dsimp only
  by_cases hlt : i < 8
  ·have hlw : i < ws.length := by omega
   have hin : WW ws[i] := hw _ (List.getElem_mem hlw)
   rw [if_pos (lt_t hlw), if_pos nat0, Qs hlw, QbM, Option.bind_some]
   dsimp only
   have hok : (decide (ws[i] ≥ 0) && decide (ws[i] ≤ 4294967295)) = true := QeN.2 hin
   rw [if_neg (by rw [hok]; decide), if_pos nat0, Qs hlw, QpX hin, Option.bind_some]
   dsimp only
   have hsl : s.length = i := by rw [hs, List.length_map, List.length_take]; omega
   rw [if_pos (by rw [hsl]; simp; omega), QO (by omega)]
   exact ih _ hlt (by rw [hs, Qiu hlw, List.map_append]; rfl)
  ·have : i = 8 := by omega
   subst this
   rw [if_neg (by rw [hl]; decide)]
   have : s = ws.map entM := by rw [hs, List.take_of_length_le (by omega)]
   rw [this]
theorem Qhq {ws : List Int} (hl : ws.length = 8) (hw : ∀ w ∈ ws, WW w) : F_az (ws, ()) = some (((0, ws.map entM, ()), ()), ()) := by
 have key := QcR (step := l_az_7) (γ := denO o_az_7) (fun k (s : List TwoD) => (((), s, ws, 8, ((k : Nat) : Int), ()), ((0, [], ()), ()), ())) 8 (Qae (by omega)) (fun k s => s = (ws.take k).map entM)
  (fun _ _ => some (.inl (((), ws.map entM, ()), ((0, [], ()), ()), ()))) ?_ 0 [] (by omega) (by simp)
 ·unfold F_az
  dsimp only
  rw [if_neg (by rw [hl]; decide), Qbt _ (by rw [hl, Qax]; omega), Option.bind_some]
  dsimp only
  rw [Qbc.2 hw, if_neg (by decide), hl]
  show (Qd l_az_7 lots (((), [], ws, 8, 0, ()), ((0, [], ()), ()), ())).bind _ = _
  rw [show ((0 : Int)) = (((0 : Nat) : Nat) : Int) from rfl] at *
  rw [key]
  rfl
 ·intro rec i s hi hs ih
  unfold l_az_7
  dsimp only
  by_cases hlt : i < 8
  ·have hlw : i < ws.length := by omega
   have hin : WW ws[i] := hw _ (List.getElem_mem hlw)
   rw [if_pos (QS.2 (by omega)), if_pos nat0, Qs hlw, Qpw hin, Option.bind_some]
   dsimp only
   have hsl : s.length = i := by rw [hs, List.length_map, List.length_take]; omega
   rw [if_pos (by rw [hsl]; simp; omega), QO (by omega)]
   exact ih _ hlt (by rw [hs, Qiu hlw, List.map_append]; rfl)
  ·have : i = 8 := by omega
   subst this
   rw [if_neg (by decide)]
   have : s = ws.map entM := by rw [hs, List.take_of_length_le (by omega)]
   rw [this]
def idsM : List TwoD := [(0, 7, ()), (1, 7, ()), (2, 7, ()), (3, 7, ()), (4, 7, ()), (5, 7, ()), (6, 7, ()), (7, 7, ())]
theorem Qsk : L_cs_5 ((([] : List TwoD), ((0 : Int), ())), ((), ())) = some (.inl ((idsM, ()), ((), ()))) := by kernel_rfl
theorem QrT : L_ba_5 (((), (([] : List TwoD), ((0 : Int), ()))), ((((0 : Int), (([] : List TwoD), ())), ()), ())) = some (.inl (((), (idsM, ())), ((((0 : Int), (([] : List TwoD), ())), ()), ()))) := by kernel_rfl
theorem QrS : OkP idsM := ⟨rfl, by decide⟩
def Qdt (cs : List Int) (l : List TwoD) (m : List Int) : Option (List TwoD) :=
 if cs.getD 10 0 = 0 then some idsM else if cs.getD 10 0 = 8 then none
 else if Qaz l ((cs.getD 10 0 - 1) * 8) 1 < 0 then none else some (((m.drop (Qaz l ((cs.getD 10 0 - 1) * 8) 1).toNat).take 8).map entM)
section
variable {r cs iq oq m : List Int} {pc dn ring fall : Int} {ha wa ru : Bool} {l : List TwoD}
theorem OkL.at {l : List TwoD} {m : List Int} (h : OkL l m) {k : Nat} (hk : k < 8) : (-1 ≤ (l.getD k (-1, 0, ())).1 ∧ (l.getD k (-1, 0, ())).1 ≤ 23) ∧ 8 * (l.getD k (-1, 0, ())).1 + 8 ≤ (m.length : Int) := by
 have := h.pgs _ (QaT (l := l) (k := k) (d := (-1, 0, ())) (by rw [h.len]; exact hk)); exact ⟨this.1, this.2.2⟩
theorem QiD (h : OkL l m) (at_ kind : Int) (h0 : 0 ≤ Qaz l at_ kind) : Qaz l at_ kind < (m.length : Int) ∧ (at_ % 8 = 0 → Qaz l at_ kind + 8 ≤ (m.length : Int)) := by
 unfold Qaz at *
 split at h0
 ·have := h.at (k := (at_ / 8).toNat) (by omega)
  rename_i hin
  rw [if_pos hin]
  split at h0
  ·rename_i hm
   rw [if_pos hm]
   omega
  ·omega
 ·omega
theorem QfA (h : OkL l m) {f : Int} (h0 : 0 ≤ f) (h1 : f + 8 ≤ (m.length : Int)) : ((m.drop f.toNat).take 8).length = 8 ∧ ∀ w ∈ (m.drop f.toNat).take 8, WW w :=
 ⟨by rw [List.length_take, List.length_drop]; omega, fun w hw => h.words w (List.mem_of_mem_drop (List.mem_of_mem_take hw))⟩
theorem Qmp (hc : OkC cs) (h : OkL l m) : F_cs ((l, m, ring, (r, pc, cs, ha, wa, ru, dn, iq, oq, ()), fall, ()), ()) =
  some ((match Qdt cs l m with | some s => (s, true, ()) | none => ([], false, ())), ()) := by
 have ht := hc.w (k := 10) (by decide)
 have ht2 := hc.tb
 unfold WW at ht
 unfold F_cs Qdt
 dsimp only
 rw [Qn 0 (by rw [hc.len]; decide)]
 simp only [show ((10 : Int)).toNat = 10 from rfl]
 generalize cs.getD 10 0 = t at *
 by_cases h0 : t = 0
 ·subst h0
  rw [if_pos (by decide), if_pos rfl]
  show (L_cs_5 _).bind _ = _
  rw [Qsk]; rfl
 ·rw [if_neg (by simpa using h0), if_neg h0, Qt (n := t - 1) (by omega) (by omega), Qt (n := (t - 1) * 8) (by omega) (by omega), QfE h.p, Option.bind_some]
  dsimp only
  by_cases h8 : t = 8
  ·subst h8; rfl
  ·rw [if_pos (by simpa using h8), if_neg h8]
   have hin := QiD h ((t - 1) * 8) 1
   have hle := QiE h.p ((t - 1) * 8) 1
   generalize Qaz l ((t - 1) * 8) 1 = f at *
   by_cases hf : f < 0
   ·rw [if_pos (QS.2 hf), if_pos hf]
   ·have h2 := (hin (by omega)).2 (by omega)
    rw [if_neg (by rw [QS]; exact hf), if_neg hf, Qt (by omega) (by omega), if_pos (c := (0 : Int) ≤ f ∧ f ≤ f + 8 ∧ f + 8 ≤ ((m.length : Nat) : Int)) ⟨Int.not_lt.1 hf, by omega, h2⟩, show (f + 8).toNat - f.toNat = 8 by omega]
    have hp := QfA h (f := f) (by omega) h2
    rw [Qhr hp.1 hp.2]; rfl
theorem QlK (hc : OkC cs) (h : OkL l m) : F_ba ((r, pc, cs, ha, wa, ru, dn, iq, oq, ()), l, m, ()) =
  some ((match Qdt cs l m with | some s => (0, s, ()) | none => (7, [], ()), ()), ()) := by
 have ht := hc.w (k := 10) (by decide)
 have ht2 := hc.tb
 unfold WW at ht
 unfold F_ba Qdt
 dsimp only
 rw [Qn 0 (by rw [hc.len]; decide)]
 simp only [show ((10 : Int)).toNat = 10 from rfl]
 generalize cs.getD 10 0 = t at *
 rw [Qt (n := t - 1) (by omega) (by omega)]
 by_cases h0 : t = 0
 ·subst h0
  rw [if_pos (by decide), if_pos rfl]
  show (L_ba_5 _).bind _ = _
  rw [QrT]; rfl
 ·have ht1 : 0 ≤ t - 1 := by omega
  rw [if_neg (by rw [QS]; omega), if_neg h0, if_pos ht1]
  have hlen : (t - 1).toNat < l.length := by rw [h.len]; omega
  rw [Qn ((-1, 0, ()) : TwoD) hlen, Qn ((-1, 0, ()) : TwoD) hlen, Qn ((-1, 0, ()) : TwoD) hlen]
  have hat := h.at (k := (t - 1).toNat) (by omega)
  have hw : Qaz l ((t - 1) * 8) 1 = if mayP (l.getD (t - 1).toNat (-1, 0, ())) 1 = true then (l.getD (t - 1).toNat (-1, 0, ())).1 * 8 else -1 := by
   unfold Qaz
   rw [if_pos (by omega), show (t - 1) * 8 / 8 = t - 1 by omega, show (t - 1) * 8 % 8 = 0 by omega, Int.add_zero]
  rw [hw]
  generalize l.getD (t - 1).toNat (-1, 0, ()) = p at *
  unfold mayP
  by_cases hp0 : 0 ≤ p.1
  ·rw [if_pos (QaN.2 (by omega)), if_pos ht1]
   by_cases hk : iand .i64 p.2.1 1 = 0
   ·rw [if_neg (by simp [hk])]
    by_cases h8 : t = 8
    ·rw [if_pos h8]
    ·rw [if_neg h8, if_neg (c := (decide (0 ≤ p.1) && !(iand .i64 p.2.1 1 == 0)) = true) (by simp [hk]), if_pos (by decide)]
   ·rw [if_pos (by simpa using hk)]
    by_cases h8 : t = 8
    ·subst h8; rfl
    ·have hne : ¬ t - 1 = 7 := by omega
     rw [if_neg (by simpa using hne), if_pos ht1, if_neg h8, if_pos (c := (decide (0 ≤ p.1) && !(iand .i64 p.2.1 1 == 0)) = true) (by simp [hk, hp0]), if_neg (by omega)]
     have hpo := QjI m p.1.toNat (by omega) h.mlen
     rw [show ((p.1.toNat : Nat) : Int) = p.1 by omega] at hpo
     rw [hpo, Option.bind_some]
     dsimp only
     rw [show (p.1 * 8).toNat = 8 * p.1.toNat by omega]
     have hpw := QfA h (f := p.1 * 8) (by omega) (by omega)
     rw [show (p.1 * 8).toNat = 8 * p.1.toNat by omega] at hpw
     rw [Qhq hpw.1 hpw.2]; rfl
  ·rw [if_neg (by rw [QaN]; omega)]
   by_cases h8 : t = 8
   ·rw [if_pos h8]
   ·rw [if_neg h8, if_neg (c := (decide (0 ≤ p.1) && !(iand .i64 p.2.1 1 == 0)) = true) (by simp [hp0]), if_pos (by decide)]
theorem QjP (hc : OkC cs) (h : OkL l m) {s : List TwoD} (hs : Qdt cs l m = some s) : OkP s ∧ ∀ p ∈ s, p.1 ≤ 7 := by
 have ht := hc.w (k := 10) (by decide)
 have ht2 := hc.tb
 unfold WW at ht
 unfold Qdt at hs
 split at hs
 ·obtain rfl := Option.some.inj hs; exact ⟨QrS, by decide⟩
 ·split at hs
  ·cases hs
  ·split at hs
   ·cases hs
   ·rename_i h8 hf
    obtain rfl := Option.some.inj hs
    have h2 := (QiD h ((cs.getD 10 0 - 1) * 8) 1 (by omega)).2 (by omega)
    have hp := QfA h (f := Qaz l ((cs.getD 10 0 - 1) * 8) 1) (by omega) h2
    have key : ∀ p ∈ List.map entM (((m.drop (Qaz l ((cs.getD 10 0 - 1) * 8) 1).toNat).take 8)), -1 ≤ p.1 ∧ p.1 ≤ 7 := by
     intro p hpm
     obtain ⟨w, hw, rfl⟩ := List.mem_map.1 hpm
     exact QrN (hp.2 w hw)
    exact ⟨⟨by rw [List.length_map]; exact hp.1, fun p hm => ⟨(key p hm).1, by have := (key p hm).2; omega⟩⟩, fun p hm => (key p hm).2⟩
def QL (cs : List Int) (l : List TwoD) (m : List Int) (at_ kind : Int) : Int × Int :=
 match Qdt cs l m with
 | none => (0, 7)
 | some s => if Qaz s at_ kind < 0 then (0, QgU kind) else if Qaz s at_ kind / 8 = 7 then (if kind = 4 then (0, 9) else (1000 + Qaz s at_ kind % 8, 0))
  else if Qaz l (Qaz s at_ kind) kind < 0 then (0, QgU kind) else (Qaz l (Qaz s at_ kind) kind, 0)
theorem Qbz (hc : OkC cs) (h : OkL l m) (at_ : Int) (kind : Int) (h0 : (QL cs l m at_ kind).2 = 0) :
  (1000 ≤ (QL cs l m at_ kind).1 ∧ (QL cs l m at_ kind).1 ≤ 1007 ∧ kind ≠ 4) ∨ (0 ≤ (QL cs l m at_ kind).1 ∧ (QL cs l m at_ kind).1 < (m.length : Int)) := by
 unfold QL at *
 cases hs : Qdt cs l m with
 | none => rw [hs] at h0; simp at h0
 | some s =>
  rw [hs] at h0
  simp only at h0 ⊢
  split at h0
  ·exact absurd h0 (QhI kind)
  ·rename_i h1
   rw [if_neg h1]
   split at h0
   ·rename_i h7
    rw [if_pos h7]
    split at h0
    ·simp at h0
    ·rename_i h4
     rw [if_neg h4]
     left
     simp only
     omega
   ·rename_i h7
    rw [if_neg h7]
    split at h0
    ·exact absurd h0 (QhI kind)
    ·rename_i h2
     rw [if_neg h2]
     right
     exact ⟨by simp only; omega, (QiD h _ _ (by omega)).1⟩
theorem QeA (hc : OkC cs) (h : OkL l m) (at_ kind : Int) : F_cu ((l, m, ring, (r, pc, cs, ha, wa, ru, dn, iq, oq, ()), fall, ()), at_, kind, ()) =
  some (((QL cs l m at_ kind).1, (QL cs l m at_ kind).2, ()), ()) := by
 unfold F_cu QL
 dsimp only
 rw [Qmp hc h, Option.bind_some]
 cases hs : Qdt cs l m with
 | none => rfl
 | some s =>
  have hp := (QjP hc h hs).1
  dsimp only
  rw [if_neg (by decide), QfE hp, Option.bind_some, QnC, Option.bind_some]
  dsimp only
  have hle := QiE hp at_ kind
  generalize Qaz s at_ kind = g at *
  by_cases hg : g < 0
  ·rw [if_pos (QS.2 hg), if_pos hg]
  ·rw [if_neg (by rw [QS]; exact hg), if_neg hg, Int.tdiv_eq_ediv_of_nonneg (by omega), Int.tmod_eq_emod_of_nonneg (by omega), Qt (n := g / 8) (by omega) (by omega)]
   by_cases h7 : g / 8 = 7
   ·rw [if_pos (by simpa using h7), if_pos h7]
    by_cases h4 : kind = 4
    ·rw [if_pos (by simpa using h4), if_pos h4]
    ·rw [if_neg (by simpa using h4), if_neg h4, Qt (by omega) (by omega)]
   ·rw [if_neg (by simpa using h7), if_neg h7, QfE h.p, Option.bind_some]
    dsimp only
    by_cases hf : Qaz l g kind < 0
    ·rw [if_pos (QS.2 hf), if_pos hf]
    ·rw [if_neg (by rw [QS]; exact hf), if_neg hf]
theorem Qem (hc : OkC cs) (h : OkL l m) (at_ : Int) {kind : Int} (hk : kind = 1 ∨ kind = 2 ∨ kind = 4) : F_be ((r, pc, cs, ha, wa, ru, dn, iq, oq, ()), l, m, at_, kind, ()) =
  some ((((QL cs l m at_ kind).2, (QL cs l m at_ kind).1, ()), ()), ()) := by
 unfold F_be QL
 dsimp only
 rw [QlK hc h, Option.bind_some]
 cases hs : Qdt cs l m with
 | none => rfl
 | some s =>
  have hp := (QjP hc h hs).1
  dsimp only
  rw [if_neg (by decide), QhT hp _ hk, Option.bind_some]
  dsimp only
  have hle := QiE hp at_ kind
  have hcn := QhI kind
  generalize Qaz s at_ kind = g at *
  by_cases hg : g < 0
  ·rw [if_pos hg]; dsimp only; rw [if_pos (by simpa using hcn), if_pos hg]
  ·rw [if_neg hg]; dsimp only
   rw [if_neg (by decide), if_neg hg, Int.tdiv_eq_ediv_of_nonneg (by omega), Int.tmod_eq_emod_of_nonneg (by omega), Qt (n := g / 8) (by omega) (by omega)]
   by_cases h7 : g / 8 = 7
   ·rw [if_neg (by simpa using h7), if_pos h7]
    by_cases h4 : kind = 4
    ·rw [if_pos (by simpa using h4), if_pos h4]
    ·rw [if_neg (by simpa using h4), if_neg h4, Qt (by omega) (by omega)]
   ·rw [if_pos (by simpa using h7), if_neg h7, QhT h.p _ hk, Option.bind_some]
    by_cases hf : Qaz l g kind < 0
    ·rw [if_pos hf, if_pos hf]
    ·rw [if_neg hf, if_neg hf]
theorem Qcx {q : List Int} (h : q.length ≤ 1048576) : F_ap (q, ()) = some ((q, ()), ()) := by
 unfold F_ap
 dsimp only
 rw [if_pos (by simp; omega)]
 rfl
def Qet (cs : List Int) (ru : Bool) (dn : Int) (iq : List Int) (k : Int) : Int × List Int :=
 if k = 1 then (iq.getD 0 0, iq.drop 1) else if k = 2 then (dn, iq) else if k = 3 then (cs.getD 9 0, iq) else if k = 4 then (QcX cs ru dn iq, iq) else if k = 6 then ((iq.length : Int), iq) else (0, iq)
theorem QnI (hc : OkC cs) (hq : OkQ iq) (k : Int) : F_cz ((r, pc, cs, ha, wa, ru, dn, iq, oq, ()), k, ()) =
  some (((Qet cs ru dn iq k).1, ()), ((r, pc, cs, ha, wa, ru, dn, (Qet cs ru dn iq k).2, oq, ()), ())) := by
 unfold F_cz Qet
 dsimp only
 rw [QdX hc, Option.bind_some]
 by_cases h1 : k = 1
 ·subst h1
  rw [if_pos (by decide), if_pos rfl]
  cases iq with
  | nil => rfl
  | cons w t =>
   rw [if_neg (by simp; omega)]
   simp only [show ((0 : Int)).toNat = 0 from rfl, show ((1 : Int)).toNat = 1 from rfl, List.getElem?_cons_zero, Option.bind_some]
   rw [if_pos (by simp; omega)]
   simp
 rw [if_neg (by simpa using h1), if_neg h1]
 by_cases h2 : k = 2
 ·subst h2; rfl
 rw [if_neg (by simpa using h2), if_neg h2]
 by_cases h3 : k = 3
 ·subst h3
  rw [if_pos (by decide), if_pos rfl, if_pos (by rw [hc.len]; decide), Qn 0 (by rw [hc.len]; decide)]; rfl
 rw [if_neg (by simpa using h3), if_neg h3]
 by_cases h4 : k = 4
 ·subst h4; rfl
 rw [if_neg (by simpa using h4), if_neg h4]
 by_cases h6 : k = 6
 ·subst h6; rfl
 rw [if_neg (by simpa using h6), if_neg h6]
theorem Qnf (hc : OkC cs) (hq : OkQ iq) (k : Int) : F_bk ((r, pc, cs, ha, wa, ru, dn, iq, oq, ()), k, ()) =
  some (((Qet cs ru dn iq k).1, ()), ((r, pc, cs, ha, wa, ru, dn, (Qet cs ru dn iq k).2, oq, ()), ())) := by
 unfold F_bk Qet
 dsimp only
 rw [QdO hc, Option.bind_some]
 have hl := hq.len
 by_cases h1 : k = 1
 ·subst h1
  rw [if_pos (by decide), if_pos rfl]
  cases iq with
  | nil => rfl
  | cons w t =>
   have hlt : ltI 0 (((w :: t).length : Nat) : Int) = true := QS.2 (by simp only [List.length_cons]; omega)
   rw [if_pos hlt, if_pos (by simp only [List.length_cons]; omega)]
   simp only [show ((0 : Int)).toNat = 0 from rfl, show ((1 : Int)).toNat = 1 from rfl, List.getElem?_cons_zero, Option.bind_some]
   rw [if_pos (by simp only [List.length_cons]; omega)]
   have e : ((w :: t).drop 1).take ((((w :: t).length : Nat) : Int).toNat - 1) = t := by simp
   rw [e, Qcx (by simp at hl; omega), Option.bind_some]
   rfl
 rw [if_neg (by simpa using h1), if_neg h1]
 by_cases h2 : k = 2
 ·subst h2; rfl
 rw [if_neg (by simpa using h2), if_neg h2]
 by_cases h3 : k = 3
 ·subst h3
  rw [if_pos (by decide), if_pos rfl, if_pos (by rw [hc.len]; decide), Qn 0 (by rw [hc.len]; decide)]; rfl
 rw [if_neg (by simpa using h3), if_neg h3]
 by_cases h4 : k = 4
 ·subst h4; rfl
 rw [if_neg (by simpa using h4), if_neg h4]
 by_cases h6 : k = 6
 ·subst h6; rfl
 rw [if_neg (by simpa using h6), if_neg h6]
theorem Qrl (hc : OkC cs) (hq : OkQ iq) (hd : 0 ≤ dn ∧ dn ≤ 1000000000) (k : Int) : WW (Qet cs ru dn iq k).1 ∧ OkQ (Qet cs ru dn iq k).2 := by
 have hp := Qgd cs ru dn iq
 have hl := hq.len
 have h9 := hc.w (k := 9) (by decide)
 unfold Qet
 repeat' split
 ·refine ⟨?_, ⟨by simp only [List.length_drop]; omega, fun w hw => hq.words w (List.mem_of_mem_drop hw)⟩⟩
  cases iq with
  | nil => unfold WW; simp
  | cons w t => exact hq.words w (by simp)
 all_goals refine ⟨?_, hq⟩
 ·unfold WW; simp only; omega
 ·exact h9
 ·unfold WW; simp only; omega
 ·unfold WW; simp only; omega
 ·unfold WW; simp
def Qhj (k w : Int) : Int := if k = 5 then wd w else -1
def wrC (cs : List Int) (k w : Int) : List Int := if k = 3 then cs.set 9 (wd w) else cs
def wrR (ru : Bool) (k w : Int) : Bool := if k = 4 then setR ru 6 (wd w) else ru
def wrO (oq : List Int) (k w : Int) : List Int := if k = 0 ∧ oq.length < 40 then oq ++ [wd w] else oq
theorem Qsy (w : Int) : setC cs 6 w = cs := by unfold setC; simp
theorem Qta (w : Int) : setC cs 9 w = cs.set 9 (wd w) := by unfold setC; simp
theorem Qtb (w : Int) : setR ru 9 w = ru := by unfold setR; simp
theorem Qms (hc : OkC cs) (hq : OkQ oq) (k w : Int) : F_da ((r, pc, cs, ha, wa, ru, dn, iq, oq, ()), k, w, ()) =
  some ((Qhj k w, ()), ((r, pc, wrC cs k w, ha, wa, wrR ru k w, dn, iq, wrO oq k w, ()), ())) := by
 unfold F_da Qhj wrC wrR wrO
 dsimp only
 rw [QfF, Option.bind_some, QjS hc (by omega), Option.bind_some, Qsy]
 dsimp only
 have hl := hq.len
 by_cases h0 : k = 0
 ·subst h0
  by_cases h40 : oq.length < 40
  ·have : ltI ((oq.length : Nat) : Int) 40 = true := QS.2 (by omega)
   rw [if_pos (by decide), if_pos this, if_pos (by simp; omega), if_neg (by decide), if_neg (by decide), if_neg (by decide), if_pos ⟨rfl, h40⟩]
  ·have : ¬ ltI ((oq.length : Nat) : Int) 40 = true := by rw [QS]; omega
   rw [if_pos (by decide), if_neg this, if_neg (by decide), if_neg (by decide), if_neg (by decide), if_neg (by omega)]
 rw [if_neg (by simpa using h0), if_neg (c := k = 0 ∧ oq.length < 40) (by omega)]
 by_cases h3 : k = 3
 ·subst h3
  rw [if_pos (by decide), if_pos (by rw [hc.len]; decide), Qn 0 (by rw [hc.len]; decide)]; rfl
 rw [if_neg (by simpa using h3), if_neg h3]
 by_cases h4 : k = 4
 ·subst h4; rfl
 rw [if_neg (by simpa using h4), if_neg h4]
 by_cases h5 : k = 5
 ·subst h5; rfl
 rw [if_neg (by simpa using h5), if_neg h5]
theorem QlN (hc : OkC cs) (hq : OkQ oq) (k w : Int) : F_bn ((r, pc, cs, ha, wa, ru, dn, iq, oq, ()), k, w, ()) =
  some ((Qhj k w, ()), ((r, pc, wrC cs k w, ha, wa, wrR ru k w, dn, iq, wrO oq k w, ()), ())) := by
 have hl := hq.len
 unfold F_bn Qhj wrC wrR wrO
 dsimp only
 rw [Qfx, Option.bind_some, Qcx (by omega), Option.bind_some]
 dsimp only
 rw [QgA hc (by omega), Option.bind_some, QgA hc (by omega), Option.bind_some, Qsy, Qta, Qtb, Qtc]
 by_cases h0 : k = 0
 ·subst h0
  by_cases h40 : oq.length < 40
  ·have : ltI ((oq.length : Nat) : Int) 40 = true := QS.2 (by omega)
   rw [if_pos (by decide), if_pos this, if_pos (by simp; omega), if_neg (by decide), if_neg (by decide), if_neg (by decide), if_pos ⟨rfl, h40⟩]
  ·have : ¬ ltI ((oq.length : Nat) : Int) 40 = true := by rw [QS]; omega
   rw [if_pos (by decide), if_neg this, if_neg (by decide), if_neg (by decide), if_neg (by decide), if_neg (by omega)]
 rw [if_neg (by simpa using h0), if_neg (c := k = 0 ∧ oq.length < 40) (by omega)]
 by_cases h3 : k = 3
 ·subst h3; rfl
 rw [if_neg (by simpa using h3), if_neg h3]
 by_cases h4 : k = 4
 ·subst h4; rfl
 rw [if_neg (by simpa using h4), if_neg h4]
 by_cases h5 : k = 5
 ·subst h5; rfl
 rw [if_neg (by simpa using h5), if_neg h5]
theorem QsR (hc : OkC cs) (k w : Int) : OkC (wrC cs k w) := by
 unfold wrC; split
 ·exact hc.set (QV w) (by decide) (fun e => absurd e (by decide)) (fun e => absurd e (by decide)) (fun e => absurd e (by decide))
 ·exact hc
theorem QsS (hq : OkQ oq) (k w : Int) : OkQ (wrO oq k w) := by
 unfold wrO; split
 ·rename_i h
  refine ⟨by simp; omega, fun z hz => ?_⟩
  rcases List.mem_append.1 hz with hz | hz
  ·exact hq.words z hz
  ·rw [List.mem_singleton.1 hz]; exact QV w
 ·exact hq
def badI (op d a i : Int) : Bool :=
 if op ≤ 11 then decide (15 < i) else if op = 13 ∨ op = 19 then decide (a ≠ 0) else if op = 21 then decide (10 < i ∨ a ≠ 0) else if op = 22 then decide (10 < i ∨ d ≠ 0)
 else if 23 ≤ op then decide (d ≠ 0 ∨ a ≠ 0 ∨ i ≠ 0) else false
def insM (op d a i : Int) : Int :=
 if (1 ≤ op ∧ op ≤ 26) ∧ (0 ≤ d ∧ d ≤ 15) ∧ (0 ≤ a ∧ a ≤ 15) ∧ (0 ≤ i ∧ i ≤ 65535) then (if badI op d a i = true then 1 else 0) else 3
theorem Qpy (op d a i : Int) : F_bf ((op, d, a, i, ()), ()) = some ((insM op d a i, ()), ()) := by
 unfold F_bf insM
 dsimp only
 rw [QaW, Option.bind_some, QaW, Option.bind_some, QaW, Option.bind_some, QaW, Option.bind_some]
 dsimp only
 by_cases h1 : 1 ≤ op ∧ op ≤ 26
 ·by_cases h2 : 0 ≤ d ∧ d ≤ 15
  ·by_cases h3 : 0 ≤ a ∧ a ≤ 15
   ·by_cases h4 : 0 ≤ i ∧ i ≤ 65535
    ·rw [if_pos (c := (1 ≤ op ∧ op ≤ 26) ∧ (0 ≤ d ∧ d ≤ 15) ∧ (0 ≤ a ∧ a ≤ 15) ∧ (0 ≤ i ∧ i ≤ 65535)) ⟨h1, h2, h3, h4⟩, if_pos (by simp [h1]), if_pos (by simp [h2]), if_pos (by simp [h3]), if_neg (by simp [h4])]
     unfold badI
     simp only [QX, QP, beq_iff_eq, bne_iff_ne, decide_eq_true_eq, decide_eq_false_iff_not, Bool.not_eq_true, bne_eq_false_iff_eq, ne_eq]
     repeat' split
     all_goals first | rfl | (exfalso; simp_all; done) | (exfalso; simp_all; omega) | (exfalso; omega)
    ·rw [if_neg (c := (1 ≤ op ∧ op ≤ 26) ∧ (0 ≤ d ∧ d ≤ 15) ∧ (0 ≤ a ∧ a ≤ 15) ∧ (0 ≤ i ∧ i ≤ 65535)) (by omega), if_pos (by simp [h1]), if_pos (by simp [h2]), if_pos (by simp [h3]), if_pos (by simp; omega)]
   ·rw [if_neg (c := (1 ≤ op ∧ op ≤ 26) ∧ (0 ≤ d ∧ d ≤ 15) ∧ (0 ≤ a ∧ a ≤ 15) ∧ (0 ≤ i ∧ i ≤ 65535)) (by omega), if_pos (by simp [h1]), if_pos (by simp [h2]), if_neg (by simp; omega)]
  ·rw [if_neg (c := (1 ≤ op ∧ op ≤ 26) ∧ (0 ≤ d ∧ d ≤ 15) ∧ (0 ≤ a ∧ a ≤ 15) ∧ (0 ≤ i ∧ i ≤ 65535)) (by omega), if_pos (by simp [h1]), if_neg (by simp; omega)]
 ·rw [if_neg (c := (1 ≤ op ∧ op ≤ 26) ∧ (0 ≤ d ∧ d ≤ 15) ∧ (0 ≤ a ∧ a ≤ 15) ∧ (0 ≤ i ∧ i ≤ 65535)) (by omega), if_neg (by simp; omega)]
def Qln (op : Int) : Bool := decide (op = 22 ∨ 23 ≤ op)
def Qlm (op : Int) : Bool := decide (op = 13 ∨ op = 19 ∨ op = 21 ∨ 23 ≤ op)
def Qlo (op : Int) : Bool := decide (23 ≤ op)
theorem QnA {op : Int} (h : op ≤ 26) : F_s (op, ()) = some ((Qln op, Qlm op, Qlo op, ()), ()) := by
 have hc : op = 13 ∨ op = 19 ∨ op = 21 ∨ op = 22 ∨ op = 23 ∨ op = 24 ∨ op = 25 ∨ op = 26 ∨ (¬ op = 13 ∧ ¬ op = 19 ∧ ¬ op = 21 ∧ ¬ op = 22 ∧ ¬ op = 23 ∧ ¬ op = 24 ∧ ¬ op = 25 ∧ ¬ op = 26) := by omega
 rcases hc with rfl | rfl | rfl | rfl | rfl | rfl | rfl | rfl | ⟨n1, n2, n3, n4, n5, n6, n7, n8⟩
 iterate 8 rfl
 have e3 : ¬ 23 ≤ op := by omega
 unfold F_s Qln Qlm Qlo
 simp [n1, n2, n3, n4, n5, n6, n7, n8, e3]
theorem QpZ (op d a i : Int) : F_v ((op, d, a, i, ()), ()) = some ((insM op d a i, ()), ()) := by
 unfold F_v insM
 dsimp only
 rw [QbM, Option.bind_some, QbM, Option.bind_some, QbM, Option.bind_some, QbM, Option.bind_some]
 dsimp only
 by_cases h1 : 1 ≤ op ∧ op ≤ 26
 ·by_cases h2 : 0 ≤ d ∧ d ≤ 15
  ·by_cases h3 : 0 ≤ a ∧ a ≤ 15
   ·by_cases h4 : 0 ≤ i ∧ i ≤ 65535
    ·rw [if_pos (c := (1 ≤ op ∧ op ≤ 26) ∧ (0 ≤ d ∧ d ≤ 15) ∧ (0 ≤ a ∧ a ≤ 15) ∧ (0 ≤ i ∧ i ≤ 65535)) ⟨h1, h2, h3, h4⟩, if_pos (by simp [h1]), if_pos (by simp [h2]), if_pos (by simp [h3]), if_neg (by simp [h4]), QnA h1.2, Option.bind_some]
     unfold badI
     dsimp only
     have hb : (Qln op = true ↔ (op = 22 ∨ 23 ≤ op)) ∧ (Qlm op = true ↔ (op = 13 ∨ op = 19 ∨ op = 21 ∨ 23 ≤ op)) ∧ (Qlo op = true ↔ 23 ≤ op) := by
      unfold Qln Qlm Qlo; simp
     generalize Qln op = bd at *
     generalize Qlm op = ba at *
     generalize Qlo op = bi at *
     by_cases c1 : op ≤ 11
     ·have q1 : bd = false := by rw [Bool.eq_false_iff]; intro e; have := hb.1.1 e; omega
      have q2 : ba = false := by rw [Bool.eq_false_iff]; intro e; have := hb.2.1.1 e; omega
      have q3 : bi = false := by rw [Bool.eq_false_iff]; intro e; have := hb.2.2.1 e; omega
      have n1 : ¬ op = 21 := by omega
      have n2 : ¬ op = 22 := by omega
      by_cases hi : 15 < i <;> simp [q1, q2, q3, c1, hi, QX, QP, n1, n2]
     ·by_cases c2 : 23 ≤ op
      ·have q1 : bd = true := hb.1.2 (.inr c2)
       have q2 : ba = true := hb.2.1.2 (.inr (.inr (.inr c2)))
       have q3 : bi = true := hb.2.2.2 c2
       have n1 : ¬ op = 21 := by omega
       have n2 : ¬ op = 22 := by omega
       have n3 : ¬ op = 13 := by omega
       have n4 : ¬ op = 19 := by omega
       by_cases hd : d = 0 <;> by_cases ha' : a = 0 <;> by_cases hi : i = 0 <;> simp [q1, q2, q3, c1, c2, hd, ha', hi, QX, QP, n1, n2, n3, n4]
      ·have q3 : bi = false := by rw [Bool.eq_false_iff]; intro e; have := hb.2.2.1 e; omega
       by_cases c3 : op = 22
       ·have q1 : bd = true := hb.1.2 (.inl c3)
        have q2 : ba = false := by rw [Bool.eq_false_iff]; intro e; have := hb.2.1.1 e; omega
        subst c3
        by_cases hd : d = 0 <;> by_cases hi : 10 < i <;> simp [q1, q2, q3, hd, hi, QX, QP]
       ·have q1 : bd = false := by rw [Bool.eq_false_iff]; intro e; have := hb.1.1 e; omega
        by_cases c4 : op = 21
        ·have q2 : ba = true := hb.2.1.2 (by omega)
         subst c4
         by_cases ha' : a = 0 <;> by_cases hi : 10 < i <;> simp [q1, q2, q3, ha', hi, QX, QP]
        ·by_cases c5 : op = 13 ∨ op = 19
         ·have q2 : ba = true := hb.2.1.2 (by omega)
          by_cases ha' : a = 0 <;> simp [q1, q2, q3, ha', c1, c3, c4, c5, QX, QP]
         ·have q2 : ba = false := by rw [Bool.eq_false_iff]; intro e; have := hb.2.1.1 e; omega
          simp [q1, q2, q3, c1, c2, c3, c4, c5, QX, QP]
    ·rw [if_neg (c := (1 ≤ op ∧ op ≤ 26) ∧ (0 ≤ d ∧ d ≤ 15) ∧ (0 ≤ a ∧ a ≤ 15) ∧ (0 ≤ i ∧ i ≤ 65535)) (by omega), if_pos (by simp [h1]), if_pos (by simp [h2]), if_pos (by simp [h3]), if_pos (by simp; omega)]
   ·rw [if_neg (c := (1 ≤ op ∧ op ≤ 26) ∧ (0 ≤ d ∧ d ≤ 15) ∧ (0 ≤ a ∧ a ≤ 15) ∧ (0 ≤ i ∧ i ≤ 65535)) (by omega), if_pos (by simp [h1]), if_pos (by simp [h2]), if_neg (by simp; omega)]
  ·rw [if_neg (c := (1 ≤ op ∧ op ≤ 26) ∧ (0 ≤ d ∧ d ≤ 15) ∧ (0 ≤ a ∧ a ≤ 15) ∧ (0 ≤ i ∧ i ≤ 65535)) (by omega), if_pos (by simp [h1]), if_neg (by simp; omega)]
 ·rw [if_neg (c := (1 ≤ op ∧ op ≤ 26) ∧ (0 ≤ d ∧ d ≤ 15) ∧ (0 ≤ a ∧ a ≤ 15) ∧ (0 ≤ i ∧ i ≤ 65535)) (by omega), if_neg (by simp; omega)]
abbrev InsW := Int × Int × Int × Int × Unit
def decM (w : Int) : InsW := (w / 16777216, w / 1048576 % 16, w / 65536 % 16, w % 65536, ())
def decF (w : Int) : Int := insM (decM w).1 (decM w).2.1 (decM w).2.2.1 (decM w).2.2.2.1
theorem QpU {w : Int} (h : WW w) : F_cv (w, ()) = some ((decM w, decide (decF w = 0), ()), ()) := by
 unfold F_cv
 dsimp only
 rw [QbM, Option.bind_some]
 dsimp only
 have hok : (decide (w ≥ 0) && decide (w ≤ 4294967295)) = true := QeN.2 h
 rw [if_neg (by rw [hok]; decide), Qoz, Qoz, Qnk, Qcf h.1, Qcf h.1, Qcf h.1, QpZ, Option.bind_some]
 rfl
theorem Qpt {w : Int} (h : WW w) : F_bg (w, ()) = some ((if decF w = 0 then (0, decM w, ()) else (5, (0, 0, 0, 0, ()), ()), ()), ()) := by
 unfold F_bg
 dsimp only
 rw [Qoz, Qoz, Qnk, Qcf h.1, Qcf h.1, Qcf h.1, Qpy, Option.bind_some]
 dsimp only
 have e : insM (w / 2 ^ 24) (w / 2 ^ 20 % 16) (w / 2 ^ 16 % 16) (w % 65536) = decF w := rfl
 rw [e]
 by_cases h0 : decF w = 0
 ·rw [if_neg (by simpa using h0), if_pos h0]; rfl
 ·rw [if_pos (by simpa using h0), if_neg h0]
theorem QrM {w : Int} (h : decF w = 0) : (1 ≤ (decM w).1 ∧ (decM w).1 ≤ 26) ∧ (0 ≤ (decM w).2.1 ∧ (decM w).2.1 ≤ 15) ∧ (0 ≤ (decM w).2.2.1 ∧ (decM w).2.2.1 ≤ 15) ∧ (0 ≤ (decM w).2.2.2.1 ∧ (decM w).2.2.2.1 ≤ 65535) ∧
  ((decM w).1 ≤ 11 → (decM w).2.2.2.1 ≤ 15) ∧ ((decM w).1 = 21 ∨ (decM w).1 = 22 → (decM w).2.2.2.1 ≤ 10) := by
 unfold decF insM at h
 generalize decM w = x at *
 obtain ⟨op, d, a, i, _⟩ := x
 simp only at *
 split at h
 ·rename_i hin
  split at h
  ·omega
  ·rename_i hb
   refine ⟨hin.1, hin.2.1, hin.2.2.1, hin.2.2.2, fun h11 => ?_, fun h2 => ?_⟩
   ·unfold badI at hb
    rw [if_pos h11] at hb
    simpa using hb
   ·unfold badI at hb
    rw [if_neg (by omega), if_neg (by omega)] at hb
    rcases h2 with h2 | h2
    ·rw [if_pos h2] at hb; simp at hb; omega
    ·rw [if_neg (by omega), if_pos h2] at hb; simp at hb; omega
 ·omega
end
structure Mc where
 r : List Int
 pc : Int
 cs : List Int
 ha : Bool
 wa : Bool
 ru : Bool
 dn : Int
 iq : List Int
 oq : List Int
 m : List Int
 ring : Int
 fall : Int
abbrev BusD := List TwoD × List Int × Int × List Int × Int × List Int × Bool × Bool × Bool × Int × List Int × List Int × Int × Unit
abbrev Qsp := List Int × Int × List Int × Bool × Bool × Bool × Int × List Int × List Int × List TwoD × List Int × Int × Int × Unit
def Mc.bus (s : Mc) (l : List TwoD) : BusD := (l, s.m, s.ring, s.r, s.pc, s.cs, s.ha, s.wa, s.ru, s.dn, s.iq, s.oq, s.fall, ())
def Mc.core (s : Mc) (l : List TwoD) : Qsp := (s.r, s.pc, s.cs, s.ha, s.wa, s.ru, s.dn, s.iq, s.oq, l, s.m, s.fall, s.ring, ())
def Mc.trap (s : Mc) (cause tval : Int) : Mc := { s with pc := s.cs.getD 1 0, cs := Qfn s.cs s.pc cause tval, wa := false, fall := cause }
structure OkS (s : Mc) (l : List TwoD) : Prop where
 r : OkR s.r
 pc : WW s.pc
 c : OkC s.cs
 i : OkQ s.iq
 o : OkQ s.oq
 d : 0 ≤ s.dn ∧ s.dn ≤ 1000000000
 l : OkL l s.m
section
variable {r cs iq oq m : List Int} {pc dn ring fall : Int} {ha wa ru : Bool} {l : List TwoD} {s : Mc}
theorem QeU (h : OkS s l) {cause tval : Int} (h1 : WW cause) (h2 : WW tval) : OkS (s.trap cause tval) l :=
 ⟨h.r, h.c.w (by decide), Qry h.c h.pc h1 h2, h.i, h.o, h.d, h.l⟩
theorem QbZ (hc : OkC cs) (cause tval : Int) : F_co ((l, m, ring, r, pc, cs, ha, wa, ru, dn, iq, oq, fall, ()), cause, tval, ()) =
  some ((), ((l, m, ring, r, cs.getD 1 0, Qfn cs pc cause tval, ha, false, ru, dn, iq, oq, cause, ()), ())) := by
 unfold F_co
 dsimp only
 rw [Qiq hc, Option.bind_some]
theorem QbW (hc : OkC cs) (cause tval : Int) : F_av ((r, pc, cs, ha, wa, ru, dn, iq, oq, l, m, fall, ring, ()), cause, tval, ()) =
  some ((), ((r, cs.getD 1 0, Qfn cs pc cause tval, ha, false, ru, dn, iq, oq, l, m, cause, ring, ()), ())) := by
 unfold F_av
 dsimp only
 rw [Qni hc, Option.bind_some]
def Qda (op d a : Int) : Bool := if op = 16 then decide (d = a) else if op = 17 then decide (d ≠ a) else decide (sg d < sg a)
def exM (s : Mc) (l : List TwoD) (op d a i : Int) : Bool × Int × Int × Mc :=
 let next := addW s.pc 1
 let far := addW s.pc (off i)
 let rd := s.r.getD d.toNat 0
 let ra := s.r.getD a.toNat 0
 let p := addW ra (off i)
 if op = 12 then (true, next, p, s)
 else if op = 13 then (true, next, i * 65536, s)
 else if op = 14 then
  (if (QL s.cs l s.m p 1).2 ≠ 0 then (false, 0, 0, s.trap 3 p)
   else if 1000 ≤ (QL s.cs l s.m p 1).1 then (true, next, (Qet s.cs s.ru s.dn s.iq ((QL s.cs l s.m p 1).1 - 1000)).1, { s with iq := (Qet s.cs s.ru s.dn s.iq ((QL s.cs l s.m p 1).1 - 1000)).2 })
   else (true, next, s.m.getD (QL s.cs l s.m p 1).1.toNat 0, s))
 else if op = 15 then
  (if (QL s.cs l s.m p 2).2 ≠ 0 then (false, 0, 0, s.trap 4 p)
   else if 1000 ≤ (QL s.cs l s.m p 2).1 then (true, next, 0, { s with ring := Qhj ((QL s.cs l s.m p 2).1 - 1000) rd, cs := wrC s.cs ((QL s.cs l s.m p 2).1 - 1000) rd, ru := wrR s.ru ((QL s.cs l s.m p 2).1 - 1000) rd, oq := wrO s.oq ((QL s.cs l s.m p 2).1 - 1000) rd })
   else (true, next, 0, { s with m := s.m.set (QL s.cs l s.m p 2).1.toNat rd }))
 else if op = 16 ∨ op = 17 ∨ op = 18 then (true, if Qda op rd ra = true then far else next, 0, s)
 else if op = 19 then (true, far, next, s)
 else if op = 20 then (true, p, next, s)
 else if op = 21 then (true, next, getM s.cs s.ru s.dn s.iq i, s)
 else if op = 22 then (true, next, 0, { s with cs := setC s.cs i ra, ru := setR s.ru i ra })
 else if op = 23 then (false, 0, 0, s.trap 5 0)
 else if op = 24 then (true, s.cs.getD 2 0, 0, { s with pc := s.cs.getD 2 0, cs := QhB s.cs })
 else if op = 25 then (true, next, 0, { s with wa := true })
 else if op = 26 then (true, s.pc, 0, { s with ha := true })
 else (true, next, aluW op ra (s.r.getD i.toNat 0), s)
def wrD (op : Int) : Bool := decide ((1 ≤ op ∧ op ≤ 14) ∨ (19 ≤ op ∧ op ≤ 21))
def doM (s : Mc) (l : List TwoD) (op d a i : Int) : Bool × Mc :=
 let e := exM s l op d a i
 if e.1 = true then (true, { e.2.2.2 with pc := e.2.1, r := if wrD op = true ∧ 0 < d then e.2.2.2.r.set d.toNat e.2.2.1 else e.2.2.2.r }) else (false, e.2.2.2)
structure OkI (op d a i : Int) : Prop where
 hop : 1 ≤ op ∧ op ≤ 26
 hd : 0 ≤ d ∧ d ≤ 15
 ha : 0 ≤ a ∧ a ≤ 15
 hi : 0 ≤ i ∧ i ≤ 65535
 i11 : op ≤ 11 → i ≤ 15
 i21 : op = 21 ∨ op = 22 → i ≤ 10
theorem QdD (hr : OkR r) {d : Int} (hd : 0 ≤ d ∧ d ≤ 15) (w : Int) : F_cy ((l, m, ring, r, pc, cs, ha, wa, ru, dn, iq, oq, fall, ()), d, w, ()) =
  some ((), ((l, m, ring, if 0 < d then r.set d.toNat w else r, pc, cs, ha, wa, ru, dn, iq, oq, fall, ()), ())) := by
 unfold F_cy
 dsimp only
 by_cases h0 : d = 0
 ·subst h0; rfl
 ·have hin : 0 ≤ d ∧ d < ((r.length : Nat) : Int) := by rw [hr.len]; omega
  rw [if_pos (by simpa using h0), if_pos hin, Qn 0 (by rw [hr.len]; omega), if_pos (c := 0 < d) (by omega)]
theorem Qmq (hr : OkR r) {op d a i : Int} (hd : 0 ≤ d ∧ d ≤ 15) (hA : 0 ≤ a ∧ a ≤ 15) : F_dd ((r, pc, cs, ha, wa, ru, dn, iq, oq, ()), (op, d, a, i, ()), ()) =
  some ((Qda op (r.getD d.toNat 0) (r.getD a.toNat 0), ()), ()) := by
 unfold F_dd Qda
 dsimp only
 rw [if_pos hd.1, Qn 0 (by rw [hr.len]; omega), if_pos hA.1, Qn 0 (by rw [hr.len]; omega), QdY, Option.bind_some, QdY, Option.bind_some]
 by_cases h16 : op = 16
 ·subst h16; rfl
 rw [if_neg (by simpa using h16), if_neg h16]
 by_cases h17 : op = 17
 ·subst h17
  rw [if_pos (by decide), if_pos rfl]
  generalize r.getD d.toNat 0 = x
  generalize r.getD a.toNat 0 = y
  by_cases e : x = y <;> simp [e]
 rw [if_neg (by simpa using h17), if_neg h17, QP]
theorem QqM {i : Int} (h : 0 ≤ i ∧ i ≤ 65535) : IntKind.i64.wrap (i * 65536) = i * 65536 := Qt (by omega) (by omega)
theorem Qqa (h : OkS s l) {op d a i : Int} (hi : OkI op d a i) (hop : op = 14 ∨ op = 15) {e : Bool × Int × Int × Mc} (he : exM s l op d a i = e) : F_db (s.bus l, (op, d, a, i, ()), ()) =
  some ((e.1, ()), (({ e.2.2.2 with r := if e.1 = true ∧ op = 14 ∧ 0 < d then e.2.2.2.r.set d.toNat e.2.2.1 else e.2.2.2.r }).bus l, ())) := by
 obtain ⟨r, pc, cs, ha, wa, ru, dn, iq, oq, m, ring, fall⟩ := s
 obtain ⟨hr, hpc, hc, hiq, hoq, hdn, hl⟩ := h
 have hd := hi.hd
 have ha' := hi.ha
 unfold F_db Mc.bus
 unfold exM Mc.trap at he
 dsimp only at *
 have hda : a.toNat < r.length := by rw [hr.len]; omega
 have hdd : d.toNat < r.length := by rw [hr.len]; omega
 have hia : 0 ≤ a ∧ a < ((r.length : Nat) : Int) := by rw [hr.len]; omega
 have hid : 0 ≤ d ∧ d < ((r.length : Nat) : Int) := by rw [hr.len]; omega
 rw [if_pos hia, Qn 0 hda, QjQ, Option.bind_some]
 dsimp only
 rw [QcG, Option.bind_some]
 dsimp only
 rcases hop with rfl | rfl
 ·rw [if_neg (by decide), if_neg (by decide), if_pos rfl] at he
  rw [if_neg (by decide), QeA hc hl, Option.bind_some]
  dsimp only
  have hin := Qbz hc hl (addW (r.getD a.toNat 0) (off i)) 1
  generalize QL cs l m (addW (r.getD a.toNat 0) (off i)) 1 = q at *
  by_cases h0 : q.2 = 0
  ·rw [if_neg (by simpa using h0)] at he
   rw [if_neg (by simpa using h0), if_pos (by decide)]
   by_cases hq : 1000 ≤ q.1
   ·have hle : q.1 ≤ 1007 := by have := hl.mlen; rcases hin h0 with h | h <;> omega
    rw [if_pos hq] at he
    subst he
    rw [if_pos (QaX.2 hq), Qt (by omega) (by omega), QnI hc hiq, Option.bind_some]
    dsimp only
    rw [QdD hr hd, Option.bind_some]
    simp
   ·have hlt : 0 ≤ q.1 ∧ q.1 < ((m.length : Nat) : Int) := by rcases hin h0 with h | h; omega; exact h
    rw [if_neg hq] at he
    subst he
    rw [if_neg (by rw [QaX]; exact hq), if_pos (by decide), if_pos hlt, Qn 0 (by omega), QdD hr hd, Option.bind_some]
    simp
  ·rw [if_pos h0] at he
   subst he
   rw [if_pos (by simpa using h0), QbZ hc, Option.bind_some]
   simp
 ·rw [if_neg (by decide), if_neg (by decide), if_neg (by decide), if_pos rfl] at he
  rw [if_pos (by decide), QeA hc hl, Option.bind_some]
  dsimp only
  have hin := Qbz hc hl (addW (r.getD a.toNat 0) (off i)) 2
  generalize QL cs l m (addW (r.getD a.toNat 0) (off i)) 2 = q at *
  by_cases h0 : q.2 = 0
  ·rw [if_neg (by simpa using h0)] at he
   rw [if_neg (by simpa using h0), if_neg (by decide), if_neg (by decide)]
   by_cases hq : 1000 ≤ q.1
   ·have hle : q.1 ≤ 1007 := by have := hl.mlen; rcases hin h0 with h | h <;> omega
    rw [if_pos hq] at he
    subst he
    rw [if_pos (QaX.2 hq), Qt (by omega) (by omega), if_pos hid, Qn 0 hdd, Qms hc hoq, Option.bind_some]
    simp
   ·have hlt : 0 ≤ q.1 ∧ q.1 < ((m.length : Nat) : Int) := by rcases hin h0 with h | h; omega; exact h
    rw [if_neg hq] at he
    subst he
    rw [if_neg (by rw [QaX]; exact hq), if_pos hid, Qn 0 hdd, if_pos hlt, Qn 0 (by omega)]
    simp
  ·rw [if_pos h0] at he
   subst he
   rw [if_pos (by simpa using h0), QbZ hc, Option.bind_some]
   simp
end
section
variable {l : List TwoD} {s : Mc}
theorem Qrq (h : OkS s l) {op d a i : Int} (hi : OkI op d a i) {e : Bool × Mc} (he : doM s l op d a i = e) : F_dm (s.bus l, (op, d, a, i, ()), ()) = some ((e.1, ()), (e.2.bus l, ())) := by
 have hmem := Qqa h hi
 obtain ⟨r, pc, cs, ha, wa, ru, dn, iq, oq, m, ring, fall⟩ := s
 obtain ⟨hr, hpc, hc, hiq, hoq, hdn, hl⟩ := h
 have hd := hi.hd
 have ha' := hi.ha
 unfold doM at he
 unfold F_dm
 unfold Mc.bus at hmem ⊢
 dsimp only at *
 have hda : a.toNat < r.length := by rw [hr.len]; omega
 have hia : 0 ≤ a ∧ a < ((r.length : Nat) : Int) := by rw [hr.len]; omega
 rw [QcG, Option.bind_some]
 dsimp only
 rw [QjQ, Option.bind_some]
 dsimp only
 rw [QcG, Option.bind_some]
 dsimp only
 by_cases h12 : op = 12
 ·subst h12
  rw [show exM ⟨r, pc, cs, ha, wa, ru, dn, iq, oq, m, ring, fall⟩ l 12 d a i = (true, addW pc 1, addW (r.getD a.toNat 0) (off i), ⟨r, pc, cs, ha, wa, ru, dn, iq, oq, m, ring, fall⟩) from rfl] at he
  subst he
  rw [if_pos (by decide), if_pos hia, Qn 0 hda, Option.bind_some]
  dsimp only
  rw [QcG, Option.bind_some]
  dsimp only
  rw [QdD hr hd, Option.bind_some]
  simp [wrD]
 rw [if_neg (by simpa using h12)]
 by_cases h13 : op = 13
 ·subst h13
  rw [show exM ⟨r, pc, cs, ha, wa, ru, dn, iq, oq, m, ring, fall⟩ l 13 d a i = (true, addW pc 1, i * 65536, ⟨r, pc, cs, ha, wa, ru, dn, iq, oq, m, ring, fall⟩) from rfl] at he
  subst he
  rw [if_pos (by decide), QqM hi.hi, QdD hr hd, Option.bind_some]
  simp [wrD]
 rw [if_neg (by simpa using h13)]
 by_cases h14 : op = 14
 ·subst h14
  rw [if_pos (by decide), hmem (.inl rfl) rfl, Option.bind_some]
  generalize hx : exM ⟨r, pc, cs, ha, wa, ru, dn, iq, oq, m, ring, fall⟩ l 14 d a i = x at *
  have hn : x.1 = true → x.2.1 = addW pc 1 := by
   rw [← hx]; unfold exM; dsimp only
   rw [if_neg (by decide), if_neg (by decide), if_pos rfl]
   repeat' split
   all_goals simp
  obtain ⟨b, nx, rs, s1⟩ := x
  cases b
  ·subst he; simp
  ·subst he
   simp only at hn
   simp [wrD, hn]
 rw [if_neg (by simpa using h14)]
 by_cases h15 : op = 15
 ·subst h15
  rw [if_pos (by decide), hmem (.inr rfl) rfl, Option.bind_some]
  generalize hx : exM ⟨r, pc, cs, ha, wa, ru, dn, iq, oq, m, ring, fall⟩ l 15 d a i = x at *
  have hn : x.1 = true → x.2.1 = addW pc 1 := by
   rw [← hx]; unfold exM; dsimp only
   rw [if_neg (by decide), if_neg (by decide), if_neg (by decide), if_pos rfl]
   repeat' split
   all_goals simp
  obtain ⟨b, nx, rs, s1⟩ := x
  cases b
  ·subst he; simp
  ·subst he
   simp only at hn
   simp [wrD, hn]
 rw [if_neg (by simpa using h15)]
 have hex : exM ⟨r, pc, cs, ha, wa, ru, dn, iq, oq, m, ring, fall⟩ l op d a i =
   (if op = 16 ∨ op = 17 ∨ op = 18 then (true, if Qda op (r.getD d.toNat 0) (r.getD a.toNat 0) = true then addW pc (off i) else addW pc 1, 0, ⟨r, pc, cs, ha, wa, ru, dn, iq, oq, m, ring, fall⟩)
   else if op = 19 then (true, addW pc (off i), addW pc 1, ⟨r, pc, cs, ha, wa, ru, dn, iq, oq, m, ring, fall⟩)
   else if op = 20 then (true, addW (r.getD a.toNat 0) (off i), addW pc 1, ⟨r, pc, cs, ha, wa, ru, dn, iq, oq, m, ring, fall⟩)
   else if op = 21 then (true, addW pc 1, getM cs ru dn iq i, ⟨r, pc, cs, ha, wa, ru, dn, iq, oq, m, ring, fall⟩)
   else if op = 22 then (true, addW pc 1, 0, ⟨r, pc, setC cs i (r.getD a.toNat 0), ha, wa, setR ru i (r.getD a.toNat 0), dn, iq, oq, m, ring, fall⟩)
   else if op = 23 then (false, 0, 0, ⟨r, cs.getD 1 0, Qfn cs pc 5 0, ha, false, ru, dn, iq, oq, m, ring, 5⟩)
   else if op = 24 then (true, cs.getD 2 0, 0, ⟨r, cs.getD 2 0, QhB cs, ha, wa, ru, dn, iq, oq, m, ring, fall⟩)
   else if op = 25 then (true, addW pc 1, 0, ⟨r, pc, cs, ha, true, ru, dn, iq, oq, m, ring, fall⟩)
   else if op = 26 then (true, pc, 0, ⟨r, pc, cs, true, wa, ru, dn, iq, oq, m, ring, fall⟩)
   else (true, addW pc 1, aluW op (r.getD a.toNat 0) (r.getD i.toNat 0), ⟨r, pc, cs, ha, wa, ru, dn, iq, oq, m, ring, fall⟩)) := by
  unfold exM Mc.trap
  dsimp only
  rw [if_neg h12, if_neg h13, if_neg h14, if_neg h15]
 clear hmem
 have htk := fun o => Qmq (pc := pc) (cs := cs) (ha := ha) (wa := wa) (ru := ru) (dn := dn) (iq := iq) (oq := oq) hr (op := o) (i := i) hd ha'
 have hput := fun pc cs ha wa ru w => QdD (l := l) (m := m) (ring := ring) (pc := pc) (cs := cs) (ha := ha) (wa := wa) (ru := ru) (dn := dn) (iq := iq) (oq := oq) (fall := fall) hr hd w
 by_cases h16 : op = 16
 ·subst h16
  rw [if_pos (.inl rfl)] at hex
  rw [hex] at he
  subst he
  rw [if_pos (by decide), htk, Option.bind_some]
  cases Qda 16 (r.getD d.toNat 0) (r.getD a.toNat 0) <;> simp [wrD]
 rw [if_neg (by simpa using h16)]
 by_cases h17 : op = 17
 ·subst h17
  rw [if_pos (.inr (.inl rfl))] at hex
  rw [hex] at he
  subst he
  rw [if_pos (by decide), htk, Option.bind_some]
  cases Qda 17 (r.getD d.toNat 0) (r.getD a.toNat 0) <;> simp [wrD]
 rw [if_neg (by simpa using h17)]
 by_cases h18 : op = 18
 ·subst h18
  rw [if_pos (.inr (.inr rfl))] at hex
  rw [hex] at he
  subst he
  rw [if_pos (by decide), htk, Option.bind_some]
  cases Qda 18 (r.getD d.toNat 0) (r.getD a.toNat 0) <;> simp [wrD]
 rw [if_neg (by simpa using h18)]
 rw [if_neg (c := op = 16 ∨ op = 17 ∨ op = 18) (by omega)] at hex
 by_cases h19 : op = 19
 ·subst h19
  rw [if_pos rfl] at hex
  rw [hex] at he
  subst he
  rw [if_pos (by decide), hput, Option.bind_some]
  simp [wrD]
 rw [if_neg (by simpa using h19)]
 rw [if_neg h19] at hex
 by_cases h20 : op = 20
 ·subst h20
  rw [if_pos rfl] at hex
  rw [hex] at he
  subst he
  rw [if_pos (by decide), if_pos hia, Qn 0 hda, Option.bind_some]
  dsimp only
  rw [QcG, Option.bind_some]
  dsimp only
  rw [hput, Option.bind_some]
  simp [wrD]
 rw [if_neg (by simpa using h20)]
 rw [if_neg h20] at hex
 by_cases h21 : op = 21
 ·subst h21
  rw [if_pos rfl] at hex
  rw [hex] at he
  subst he
  have hi10 := hi.i21 (.inl rfl)
  have hi0 := hi.hi
  rw [if_pos (by decide), QpY hc ⟨hi0.1, hi10⟩, Option.bind_some]
  dsimp only
  rw [hput, Option.bind_some]
  simp [wrD]
 rw [if_neg (by simpa using h21)]
 rw [if_neg h21] at hex
 by_cases h22 : op = 22
 ·subst h22
  rw [if_pos rfl] at hex
  rw [hex] at he
  subst he
  have hi10 := hi.i21 (.inr rfl)
  have hi0 := hi.hi
  rw [if_pos (by decide), if_pos hia, Qn 0 hda, QjS hc ⟨hi0.1, hi10⟩, Option.bind_some]
  simp [wrD]
 rw [if_neg (by simpa using h22)]
 rw [if_neg h22] at hex
 by_cases h23 : op = 23
 ·subst h23
  rw [if_pos rfl] at hex
  rw [hex] at he
  subst he
  rw [if_pos (by decide), QbZ hc, Option.bind_some]
  simp
 rw [if_neg (by simpa using h23)]
 rw [if_neg h23] at hex
 by_cases h24 : op = 24
 ·subst h24
  rw [if_pos rfl] at hex
  rw [hex] at he
  subst he
  rw [if_pos (by decide), Qip hc, Option.bind_some]
  simp [wrD]
 rw [if_neg (by simpa using h24)]
 rw [if_neg h24] at hex
 by_cases h25 : op = 25
 ·subst h25
  rw [if_pos rfl] at hex
  rw [hex] at he
  subst he
  rw [if_pos (by decide)]
  simp [wrD]
 rw [if_neg (by simpa using h25)]
 rw [if_neg h25] at hex
 by_cases h26 : op = 26
 ·subst h26
  rw [if_pos rfl] at hex
  rw [hex] at he
  subst he
  rw [if_pos (by decide)]
  simp [wrD]
 rw [if_neg (by simpa using h26)]
 rw [if_neg h26] at hex
 have h1 := hi.hop
 have h11 : op ≤ 11 := by omega
 have hi15 := hi.i11 h11
 have hi0 := hi.hi
 have hii : 0 ≤ i ∧ i < ((r.length : Nat) : Int) := by rw [hr.len]; omega
 have hiN : i.toNat < r.length := by rw [hr.len]; omega
 rw [hex] at he
 subst he
 rw [if_pos hia, Qn 0 hda, if_pos hii, Qn 0 hiN, QpT, Option.bind_some]
 dsimp only
 rw [hput, Option.bind_some]
 have hw : wrD op = true := by unfold wrD; rw [decide_eq_true_eq]; omega
 simp [hw]
theorem Qnc (h : OkS s l) {op d a i : Int} (h14 : op = 14) {e : Bool × Int × Int × Mc} (he : exM s l op d a i = e) : F_bl (s.core l, addW (s.r.getD a.toNat 0) (off i), ()) =
  some ((e.2.2.1, e.1, ()), (e.2.2.2.core l, ())) := by
 subst h14
 obtain ⟨r, pc, cs, ha, wa, ru, dn, iq, oq, m, ring, fall⟩ := s
 obtain ⟨hr, hpc, hc, hiq, hoq, hdn, hl⟩ := h
 unfold F_bl Mc.core
 unfold exM Mc.trap at he
 dsimp only at *
 rw [if_neg (by decide), if_neg (by decide), if_pos rfl] at he
 rw [Qem hc hl _ (.inl rfl), Option.bind_some]
 dsimp only
 have hin := Qbz hc hl (addW (r.getD a.toNat 0) (off i)) 1
 generalize QL cs l m (addW (r.getD a.toNat 0) (off i)) 1 = q at *
 by_cases h0 : q.2 = 0
 ·rw [if_neg (by simpa using h0)] at he
  rw [if_neg (by simpa using h0)]
  by_cases hq : 1000 ≤ q.1
  ·have hle : q.1 ≤ 1007 := by have := hl.mlen; rcases hin h0 with h | h <;> omega
   rw [if_pos hq] at he
   subst he
   rw [if_pos (QaX.2 hq), Qt (by omega) (by omega), Qnf hc hiq, Option.bind_some]
  ·have hlt : 0 ≤ q.1 ∧ q.1 < ((m.length : Nat) : Int) := by rcases hin h0 with h | h; omega; exact h
   rw [if_neg hq] at he
   subst he
   rw [if_neg (by rw [QaX]; exact hq), if_pos hlt, Qn 0 (by omega)]
 ·rw [if_pos h0] at he
  subst he
  rw [if_pos (by simpa using h0), QbW hc, Option.bind_some]
theorem QlL (h : OkS s l) {op d a i : Int} (h15 : op = 15) {e : Bool × Int × Int × Mc} (he : exM s l op d a i = e) : F_bo (s.core l, addW (s.r.getD a.toNat 0) (off i), s.r.getD d.toNat 0, ()) =
  some ((e.1, ()), (e.2.2.2.core l, ())) := by
 subst h15
 obtain ⟨r, pc, cs, ha, wa, ru, dn, iq, oq, m, ring, fall⟩ := s
 obtain ⟨hr, hpc, hc, hiq, hoq, hdn, hl⟩ := h
 unfold F_bo Mc.core
 unfold exM Mc.trap at he
 dsimp only at *
 rw [if_neg (by decide), if_neg (by decide), if_neg (by decide), if_pos rfl] at he
 rw [Qem hc hl _ (.inr (.inl rfl)), Option.bind_some]
 dsimp only
 have hin := Qbz hc hl (addW (r.getD a.toNat 0) (off i)) 2
 generalize QL cs l m (addW (r.getD a.toNat 0) (off i)) 2 = q at *
 by_cases h0 : q.2 = 0
 ·rw [if_neg (by simpa using h0)] at he
  rw [if_neg (by simpa using h0)]
  by_cases hq : 1000 ≤ q.1
  ·have hle : q.1 ≤ 1007 := by have := hl.mlen; rcases hin h0 with h | h <;> omega
   rw [if_pos hq] at he
   subst he
   rw [if_pos (QaX.2 hq), Qt (by omega) (by omega), QlN hc hoq, Option.bind_some]
  ·have hlt : 0 ≤ q.1 ∧ q.1 < ((m.length : Nat) : Int) := by rcases hin h0 with h | h; omega; exact h
   rw [if_neg hq] at he
   subst he
   rw [if_neg (by rw [QaX]; exact hq), if_pos hlt, Qn 0 (by omega)]
 ·rw [if_pos h0] at he
  subst he
  rw [if_pos (by simpa using h0), QbW hc, Option.bind_some]
end
end Go.Proofs.YtajnommlfjfgpaaGreatDoor
