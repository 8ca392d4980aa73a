/- Plain laws: what the functions compute, and that both programs compute the same. -/
import Derived.Test.YtmoninjbahccoaaGreatDoorPb1
namespace Go.Proofs.YtmoninjbahccoaaGreatDoor
open Go Go.RowKit S Go.Proofs
set_option maxRecDepth 100000
set_option linter.unusedVariables false
set_option linter.unusedSimpArgs false
section
variable {r cs iq oq : List Int} {pc dn : Int} {ha wa ru : Bool}
def Qjo (cs : List Int) (pc cause tval : Int) : List Int := (((cs.set 2 pc).set 3 cause).set 4 tval).set 0 (cs.getD 0 0 % 2 * 2)
theorem getD_set_ne {l : List Int} {i j : Nat} {y d : Int} (h : i ≠ j) : (l.set i y).getD j d = l.getD j d := by
 simp [List.getD_eq_getElem?_getD, List.getElem?_set_ne h]
theorem QeG {l : List Int} {i : Nat} {y d : Int} (h : i < l.length) : (l.set i y).getD i d = y := by
 simp [List.getD_eq_getElem?_getD, List.getElem?_set_self h]
theorem OkC.set {cs : List Int} (h : OkC cs) {k : Nat} {w : Int} (hw : WW w) (hk : k ≠ 6 ∧ k ≠ 8) (h0 : k = 0 → w ≤ 3) (h7 : k = 7 → w ≤ 7) (h10 : k = 10 → w ≤ 8) : OkC (cs.set k w) := by
 by_cases hlt : k < 11
 ·refine ⟨by simp [h.len], fun z hz => ?_, ?_, ?_, ?_, ?_, ?_⟩
  ·rcases List.mem_or_eq_of_mem_set hz with hz | rfl
   ·exact h.words z hz
   ·exact hw
  ·by_cases e : k = 0
   ·subst e; rw [QeG (by rw [h.len]; decide)]; exact h0 rfl
   ·rw [getD_set_ne e]; exact h.st
  ·by_cases e : k = 7
   ·subst e; rw [QeG (by rw [h.len]; decide)]; exact h7 rfl
   ·rw [getD_set_ne e]; exact h.msk
  ·by_cases e : k = 10
   ·subst e; rw [QeG (by rw [h.len]; decide)]; exact h10 rfl
   ·rw [getD_set_ne e]; exact h.tb
  ·rw [getD_set_ne hk.1]; exact h.pd
  ·rw [getD_set_ne hk.2]; exact h.tm
 ·rw [List.set_eq_of_length_le (by rw [h.len]; omega)]; exact h
theorem Qsz (hc : OkC cs) (hp : WW pc) {cause tval : Int} (h1 : WW cause) (h2 : WW tval) : OkC (Qjo cs pc cause tval) := by
 unfold Qjo
 have := hc.w (k := 0) (by decide)
 unfold WW at this
 exact (((hc.set hp (by decide) (fun e => absurd e (by decide)) (fun e => absurd e (by decide)) (fun e => absurd e (by decide))).set h1 (by decide) (fun e => absurd e (by decide)) (fun e => absurd e (by decide)) (fun e => absurd e (by decide))).set h2 (by decide) (fun e => absurd e (by decide)) (fun e => absurd e (by decide)) (fun e => absurd e (by decide))).set
  (by unfold WW; omega) (by decide) (fun _ => by omega) (fun e => absurd e (by decide)) (fun e => absurd e (by decide))
theorem QnY (hc : OkC cs) (cause tval : Int) : F_dc ((r, pc, cs, ha, wa, ru, dn, iq, oq, ()), cause, tval, ()) =
  some ((), ((r, cs.getD 1 0, Qjo cs pc cause tval, ha, false, ru, dn, iq, oq, ()), ())) := by
 have hst := hc.w (k := 0) (by decide)
 have hl := hc.len
 have hw : IntKind.i64.wrap (cs.getD 0 0 % 2 * 2) = cs.getD 0 0 % 2 * 2 := QG (by omega) (by omega)
 unfold F_dc Qjo
 simp only [show ((2 : Int)).toNat = 2 from rfl, show ((3 : Int)).toNat = 3 from rfl, show ((4 : Int)).toNat = 4 from rfl, show ((0 : Int)).toNat = 0 from rfl, show ((1 : Int)).toNat = 1 from rfl,
  List.length_set, hl, show (0 : Int) ≤ 2 ∧ (2 : Int) < ((11 : Nat) : Int) from by decide, show (0 : Int) ≤ 3 ∧ (3 : Int) < ((11 : Nat) : Int) from by decide, show (0 : Int) ≤ 4 ∧ (4 : Int) < ((11 : Nat) : Int) from by decide,
  show (0 : Int) ≤ 0 ∧ (0 : Int) < ((11 : Nat) : Int) from by decide, show (0 : Int) ≤ 1 ∧ (1 : Int) < ((11 : Nat) : Int) from by decide, and_self, if_true]
 rw [QcR (l := cs) (k := 2) 0 (by omega), Obn, QcR (k := 3) 0 (by simp [hl]), Obn, QcR (k := 4) 0 (by simp [hl]), Obn]
 rw [QcR (l := ((cs.set 2 pc).set 3 cause).set 4 tval) (k := 0) 0 (by simp [hl]), Obn, Obn]
 rw [getD_set_ne (by decide), getD_set_ne (by decide), getD_set_ne (by decide), Int.tmod_eq_emod_of_nonneg hst.1, hw]
 rw [QcR (k := 1) 0 (by simp [hl]), Obn]
 rw [getD_set_ne (by decide), getD_set_ne (by decide), getD_set_ne (by decide), getD_set_ne (by decide)]
def Qmg (cs : List Int) : List Int := cs.set 0 (2 + cs.getD 0 0 / 2)
theorem Qrj (hc : OkC cs) : OkC (Qmg cs) := by
 have := hc.w (k := 0) (by decide)
 have h3 := hc.st
 unfold WW at this
 exact hc.set (by unfold WW; omega) (by decide) (fun _ => by omega) (fun e => absurd e (by decide)) (fun e => absurd e (by decide))
theorem QnP (hc : OkC cs) : F_dw ((r, pc, cs, ha, wa, ru, dn, iq, oq, ()), ()) = some ((), ((r, cs.getD 2 0, Qmg cs, ha, wa, ru, dn, iq, oq, ()), ())) := by
 have hst := hc.w (k := 0) (by decide)
 have hl := hc.len
 unfold WW at hst
 unfold F_dw Qmg
 simp only [show ((2 : Int)).toNat = 2 from rfl, show ((0 : Int)).toNat = 0 from rfl, hl, show (0 : Int) ≤ 2 ∧ (2 : Int) < ((11 : Nat) : Int) from by decide, show (0 : Int) ≤ 0 ∧ (0 : Int) < ((11 : Nat) : Int) from by decide, and_self, if_true]
 rw [QcR (l := cs) (k := 2) 0 (by omega), Obn, QcR (l := cs) (k := 0) 0 (by omega), Obn, Obn]
 rw [Int.tdiv_eq_ediv_of_nonneg hst.1, QG (n := cs.getD 0 0 / 2) (by omega) (by omega), QG (by omega) (by omega)]
def getM (cs : List Int) (ru : Bool) (dn : Int) (iq : List Int) (k : Int) : Int := if k = 6 then QeQ cs ru dn iq else if k = 8 then dn else cs.getD k.toNat 0
theorem Qqk (hc : OkC cs) {k : Int} (hk : 0 ≤ k ∧ k ≤ 10) : F_dv ((r, pc, cs, ha, wa, ru, dn, iq, oq, ()), k, ()) = some ((getM cs ru dn iq k, ()), ()) := by
 unfold F_dv getM
 dsimp only
 rw [Qee hc, Obn]
 by_cases h6 : k = 6
 ·rw [if_pos (by simpa using h6), if_pos h6]
 rw [if_neg (by simpa using h6), if_neg h6]
 by_cases h8 : k = 8
 ·rw [if_pos (by simpa using h8), if_pos h8]
 rw [if_neg (by simpa using h8), if_neg h8, if_pos hk.1, QU 0 (by rw [hc.len]; omega)]
theorem Qqc (hc : OkC cs) {k : Int} (hk : 0 ≤ k ∧ k ≤ 10) (hd : 0 ≤ dn ∧ dn ≤ 1000000000) : WW (getM cs ru dn iq k) := by
 unfold getM
 have := QiQ cs ru dn iq
 split
 ·unfold WW; omega
 ·split
  ·unfold WW; omega
  ·exact hc.w (by omega)
def setC (cs : List Int) (k w : Int) : List Int :=
 if k = 0 then cs.set 0 (wd w % 4) else if k = 7 then cs.set 7 (wd w % 8) else if k = 10 then cs.set 10 (if wd w ≤ 8 then wd w else 0) else if k = 6 ∨ k = 8 then cs else cs.set k.toNat (wd w)
def setR (ru : Bool) (k w : Int) : Bool := if k = 6 ∧ 2 ≤ wd w % 4 then false else ru
theorem QtA (hc : OkC cs) {k w : Int} (hk : 0 ≤ k ∧ k ≤ 10) : OkC (setC cs k w) := by
 have h := Qaj w
 have h' := h
 unfold WW at h'
 unfold setC
 split
 ·exact hc.set (by unfold WW; omega) (by decide) (fun _ => by omega) (fun e => absurd e (by decide)) (fun e => absurd e (by decide))
 split
 ·exact hc.set (by unfold WW; omega) (by decide) (fun e => absurd e (by decide)) (fun _ => by omega) (fun e => absurd e (by decide))
 split
 ·exact hc.set (by split; exact h; unfold WW; omega) (by decide) (fun e => absurd e (by decide)) (fun e => absurd e (by decide)) (fun _ => by split <;> omega)
 split
 ·exact hc
 ·exact hc.set h (by omega) (by omega) (by omega) (by omega)
theorem Qhg (hc : OkC cs) {k : Int} (hk : 0 ≤ k ∧ k ≤ 10) (w : Int) : F_dr ((r, pc, cs, ha, wa, ru, dn, iq, oq, ()), k, w, ()) =
  some ((), ((r, pc, setC cs k w, ha, wa, setR ru k w, dn, iq, oq, ()), ())) := by
 have h := Qaj w
 unfold WW at h
 have hin : 0 ≤ k ∧ k < ((cs.length : Nat) : Int) := by rw [hc.len]; omega
 have e1 : cs[k.toNat]? = some (cs.getD k.toNat 0) := QcR 0 (by rw [hc.len]; omega)
 unfold F_dr setC setR
 dsimp only
 rw [Qeg, Obn]
 dsimp only
 generalize wd w = v at *
 rw [Int.tmod_eq_emod_of_nonneg h.1, Int.tmod_eq_emod_of_nonneg h.1, e1]
 by_cases h0 : k = 0
 ·subst h0; simp [hc.len]
 by_cases h7 : k = 7
 ·subst h7; simp [hc.len]
 by_cases h10 : k = 10
 ·subst h10
  by_cases h8 : v ≤ 8 <;> simp [hc.len, Qbd, h8]
 by_cases h6 : k = 6
 ·subst h6
  cases ru <;> by_cases h2 : 2 ≤ v % 4 <;> simp [h2, Qbo, Qbd] <;> omega
 by_cases h8 : k = 8
 ·subst h8; simp
 have hk11 : k < 11 := by omega
 simp [h0, h7, h10, h6, h8, hc.len, hk.1, hk11]
end
def mayP (p : TwoD) (kind : Int) : Bool := decide (0 ≤ p.1) && !(iand .i64 p.2.1 kind == 0)
def Qae (l : List TwoD) (at_ kind : Int) : Int :=
 if 0 ≤ at_ ∧ at_ ≤ 63 then (if mayP (l.getD (at_ / 8).toNat (-1, 0, ())) kind = true then (l.getD (at_ / 8).toNat (-1, 0, ())).1 * 8 + at_ % 8 else -1) else -1
def QjV (kind : Int) : Int := if kind = 1 then 7 else if kind = 2 then 8 else 9
structure OkP (l : List TwoD) : Prop where
 len : l.length = 8
 pgs : ∀ p ∈ l, -1 ≤ p.1 ∧ p.1 ≤ 23
theorem OkP.at {l : List TwoD} (h : OkP l) {k : Nat} (hk : k < 8) : -1 ≤ (l.getD k (-1, 0, ())).1 ∧ (l.getD k (-1, 0, ())).1 ≤ 23 := h.pgs _ (QT (by rw [h.len]; exact hk))
theorem OkL.p {l : List TwoD} {m : List Int} (h : OkL l m) : OkP l := ⟨h.len, fun p hp => (h.pgs p hp).1⟩
theorem QsI {l : List TwoD} (h : OkP l) (at_ kind : Int) : -1 ≤ Qae l at_ kind ∧ Qae l at_ kind ≤ 191 := by
 unfold Qae
 split
 ·have := h.at (k := (at_ / 8).toNat) (by omega)
  split
  ·rename_i hm
   simp only [mayP, Bool.and_eq_true, decide_eq_true_eq] at hm
   omega
  ·omega
 ·omega
theorem QnQ {kind : Int} (h : kind = 1 ∨ kind = 2 ∨ kind = 4) : F_di (kind, ()) = some ((QjV kind, ()), ()) := by
 rcases h with rfl | rfl | rfl <;> rfl
theorem QcQ (kind : Int) : QjV kind ≠ 0 := by
 unfold QjV; repeat' split
 all_goals omega
theorem QiC {l : List TwoD} (h : OkP l) (at_ : Int) {kind : Int} (hkd : kind = 1 ∨ kind = 2 ∨ kind = 4) :
  F_dj (l, at_, kind, ()) = some ((if Qae l at_ kind < 0 then (QjV kind, 0, ()) else (0, Qae l at_ kind, ()), ()), ()) := by
 unfold F_dj F_dh Qae
 dsimp only
 rw [QaT, Obn, Obn, QnQ hkd, Obn]
 dsimp only
 by_cases hin : 0 ≤ at_ ∧ at_ ≤ 63
 ·rw [if_pos (by simp [hin.1, hin.2]), if_pos hin, Int.tdiv_eq_ediv_of_nonneg hin.1, QG (by omega) (by omega), if_pos (by omega)]
  rw [QU ((-1, 0, ()) : TwoD) (by rw [h.len]; omega), QU ((-1, 0, ()) : TwoD) (by rw [h.len]; omega), QU ((-1, 0, ()) : TwoD) (by rw [h.len]; omega)]
  have hp := h.at (k := (at_ / 8).toNat) (by omega)
  have h8 : 0 ≤ at_ / 8 := by omega
  generalize l.getD (at_ / 8).toNat (-1, 0, ()) = p at *
  unfold mayP
  by_cases h0 : 0 ≤ p.1
  ·rw [if_pos (Qbn.2 (by omega)), if_pos h8]
   by_cases hk : iand .i64 p.2.1 kind = 0
   ·rw [if_pos (by simpa using hk), if_neg (c := (decide (0 ≤ p.1) && !(iand .i64 p.2.1 kind == 0)) = true) (by simp [hk]), if_pos (by decide)]
   ·rw [if_neg (by simpa using hk), if_pos h8, if_pos (c := (decide (0 ≤ p.1) && !(iand .i64 p.2.1 kind == 0)) = true) (by simp [hk, h0]), Int.tmod_eq_emod_of_nonneg hin.1,
     QG (n := p.1 * 8) (by omega) (by omega), QG (by omega) (by omega), if_neg (by omega)]
  ·rw [if_neg (by rw [Qbn]; omega), if_neg (c := (decide (0 ≤ p.1) && !(iand .i64 p.2.1 kind == 0)) = true) (by simp [h0]), if_pos (by decide)]
 ·rw [if_neg (by simp; omega), if_neg hin, if_pos (by decide)]
def entM (w : Int) : TwoD := if w % 8 ≠ 0 ∧ w / 8 < 8 then (w / 8, w % 8, ()) else (-1, 0, ())
theorem Qqj {w : Int} (h : WW w) : F_de (w, ()) = some ((entM w, ()), ()) := by
 unfold WW at h
 unfold F_de entM F_cu
 dsimp only
 rw [Int.tdiv_eq_ediv_of_nonneg h.1, Int.tmod_eq_emod_of_nonneg h.1, QG (by omega) (by omega)]
 by_cases h1 : w % 8 = 0
 ·simp [h1]
 ·by_cases h2 : w / 8 < 8
  ·have : ¬ (8 : Int) ≤ w / 8 := by omega
   simp [h1, h2, Qbd, this]
  ·have : (8 : Int) ≤ w / 8 := by omega
   simp [h1, h2, Qbd, this]
theorem QsX {w : Int} (h : WW w) : -1 ≤ (entM w).1 ∧ (entM w).1 ≤ 7 := by
 unfold WW at h
 unfold entM; split
 ·simp only; omega
 ·simp only; omega
theorem QhQ {w : Int} : okW w = true ↔ WW w := by unfold okW WW; simp
theorem Qal {m : List Int} : allW m = true ↔ ∀ w ∈ m, WW w := by
 unfold allW; rw [List.all_eq_true]; exact ⟨fun h w hw => QhQ.1 (h w hw), fun h w hw => QhQ.2 (h w hw)⟩
theorem QoB {α : Type} {l : List α} {i : Nat} (h : i < l.length) : l.take (i + 1) = l.take i ++ [l[i]] := by rw [List.take_add_one, List.getElem?_eq_getElem h]; rfl
theorem QhM {ws : List Int} (hl : ws.length = 8) (hw : ∀ w ∈ ws, WW w) : F_df (ws, ()) = some (((0, ws.map entM, ()), ()), ()) := by
 have key := QgE (step := l_df_7) (γ := denO o_df_7) (fun k (s : List TwoD) => (((), s, ws, 8, ((k : Nat) : Int), ()), ((0, [], ()), ()), ())) 8 (Qbf (by omega)) (fun k s => s = (ws.take k).map entM)
  (fun _ _ => some (.inl (((), ws.map entM, ()), ((0, [], ()), ()), ()))) ?_ 0 [] (by omega) (by simp)
 ·unfold F_df
  dsimp only
  rw [if_neg (by rw [hl]; decide), QaY _ (by rw [hl, QcH]; omega), Obn]
  dsimp only
  rw [Qal.2 hw, if_neg (by decide), hl]
  show (Qc l_df_7 lots (((), [], ws, 8, 0, ()), ((0, [], ()), ()), ())).bind _ = _
  rw [show ((0 : Int)) = (((0 : Nat) : Nat) : Int) from rfl] at *
  rw [key]
  rfl
 ·intro rec i s hi hs ih
  unfold l_df_7
  dsimp only
  by_cases hlt : i < 8
  ·have hlw : i < ws.length := by omega
   have hin : WW ws[i] := hw _ (List.getElem_mem hlw)
   rw [if_pos (QM.2 (by omega)), if_pos nat0, Qr hlw, Qqj hin, Obn]
   dsimp only
   have hsl : s.length = i := by rw [hs, List.length_map, List.length_take]; omega
   rw [if_pos (by rw [hsl]; simp; omega), QW (by omega)]
   exact ih _ hlt (by rw [hs, QoB hlw, List.map_append]; rfl)
  ·have : i = 8 := by omega
   subst this
   rw [if_neg (by decide)]
   have : s = ws.map entM := by rw [hs, List.take_of_length_le (by omega)]
   rw [this]
def idsM : List TwoD := [(0, 7, ()), (1, 7, ()), (2, 7, ()), (3, 7, ()), (4, 7, ()), (5, 7, ()), (6, 7, ()), (7, 7, ())]
theorem Qtd : L_dg_5 (((), (([] : List TwoD), ((0 : Int), ()))), ((((0 : Int), (([] : List TwoD), ())), ()), ())) = some (.inl (((), (idsM, ())), ((((0 : Int), (([] : List TwoD), ())), ()), ()))) := by kernel_rfl
theorem Qtb : OkP idsM := ⟨rfl, by decide⟩
def Qcr (cs : List Int) (l : List TwoD) (m : List Int) : Option (List TwoD) :=
 if cs.getD 10 0 = 0 then some idsM else if cs.getD 10 0 = 8 then none
 else if Qae l ((cs.getD 10 0 - 1) * 8) 1 < 0 then none else some (((m.drop (Qae l ((cs.getD 10 0 - 1) * 8) 1).toNat).take 8).map entM)
section
variable {r cs iq oq m : List Int} {pc dn ring fall : Int} {ha wa ru : Bool} {l : List TwoD}
theorem OkL.at {l : List TwoD} {m : List Int} (h : OkL l m) {k : Nat} (hk : k < 8) : (-1 ≤ (l.getD k (-1, 0, ())).1 ∧ (l.getD k (-1, 0, ())).1 ≤ 23) ∧ 8 * (l.getD k (-1, 0, ())).1 + 8 ≤ (m.length : Int) := by
 have := h.pgs _ (QT (l := l) (k := k) (d := (-1, 0, ())) (by rw [h.len]; exact hk)); exact ⟨this.1, this.2.2⟩
theorem Qnx (h : OkL l m) (at_ kind : Int) (h0 : 0 ≤ Qae l at_ kind) : Qae l at_ kind < (m.length : Int) ∧ (at_ % 8 = 0 → Qae l at_ kind + 8 ≤ (m.length : Int)) := by
 unfold Qae at *
 split at h0
 ·have := h.at (k := (at_ / 8).toNat) (by omega)
  rename_i hin
  rw [if_pos hin]
  split at h0
  ·rename_i hm
   rw [if_pos hm]
   omega
  ·omega
 ·omega
theorem QiP (h : OkL l m) {f : Int} (h0 : 0 ≤ f) (h1 : f + 8 ≤ (m.length : Int)) : ((m.drop f.toNat).take 8).length = 8 ∧ ∀ w ∈ (m.drop f.toNat).take 8, WW w :=
 ⟨by rw [List.length_take, List.length_drop]; omega, fun w hw => h.words w (List.mem_of_mem_drop (List.mem_of_mem_take hw))⟩
theorem QmG (hc : OkC cs) (h : OkL l m) : F_dg ((r, pc, cs, ha, wa, ru, dn, iq, oq, ()), l, m, ()) =
  some ((match Qcr cs l m with | some s => (0, s, ()) | none => (7, [], ()), ()), ()) := by
 have ht := hc.w (k := 10) (by decide)
 have ht2 := hc.tb
 unfold WW at ht
 unfold F_dg Qcr
 dsimp only
 rw [QU 0 (by rw [hc.len]; decide)]
 simp only [show ((10 : Int)).toNat = 10 from rfl]
 generalize cs.getD 10 0 = t at *
 rw [QG (n := t - 1) (by omega) (by omega)]
 by_cases h0 : t = 0
 ·subst h0
  rw [if_pos (by decide), if_pos rfl]
  show (L_dg_5 _).bind _ = _
  rw [Qtd]; rfl
 ·have ht1 : 0 ≤ t - 1 := by omega
  rw [if_neg (by rw [QM]; omega), if_neg h0, if_pos ht1]
  have hlen : (t - 1).toNat < l.length := by rw [h.len]; omega
  rw [QU ((-1, 0, ()) : TwoD) hlen, QU ((-1, 0, ()) : TwoD) hlen, QU ((-1, 0, ()) : TwoD) hlen]
  have hat := h.at (k := (t - 1).toNat) (by omega)
  have hw : Qae l ((t - 1) * 8) 1 = if mayP (l.getD (t - 1).toNat (-1, 0, ())) 1 = true then (l.getD (t - 1).toNat (-1, 0, ())).1 * 8 else -1 := by
   unfold Qae
   rw [if_pos (by omega), show (t - 1) * 8 / 8 = t - 1 by omega, show (t - 1) * 8 % 8 = 0 by omega, Int.add_zero]
  rw [hw]
  generalize l.getD (t - 1).toNat (-1, 0, ()) = p at *
  unfold mayP
  by_cases hp0 : 0 ≤ p.1
  ·rw [if_pos (Qbn.2 (by omega)), if_pos ht1]
   by_cases hk : iand .i64 p.2.1 1 = 0
   ·rw [if_neg (by simp [hk])]
    by_cases h8 : t = 8
    ·rw [if_pos h8]
    ·rw [if_neg h8, if_neg (c := (decide (0 ≤ p.1) && !(iand .i64 p.2.1 1 == 0)) = true) (by simp [hk]), if_pos (by decide)]
   ·rw [if_pos (by simpa using hk)]
    by_cases h8 : t = 8
    ·subst h8; rfl
    ·have hne : ¬ t - 1 = 7 := by omega
     rw [if_neg (by simpa using hne), if_pos ht1, if_neg h8, if_pos (c := (decide (0 ≤ p.1) && !(iand .i64 p.2.1 1 == 0)) = true) (by simp [hk, hp0]), if_neg (by omega)]
     have hpo := Qkz m p.1.toNat (by omega) h.mlen
     rw [show ((p.1.toNat : Nat) : Int) = p.1 by omega] at hpo
     rw [hpo, Obn]
     dsimp only
     rw [show (p.1 * 8).toNat = 8 * p.1.toNat by omega]
     have hpw := QiP h (f := p.1 * 8) (by omega) (by omega)
     rw [show (p.1 * 8).toNat = 8 * p.1.toNat by omega] at hpw
     rw [QhM hpw.1 hpw.2]; rfl
  ·rw [if_neg (by rw [Qbn]; omega)]
   by_cases h8 : t = 8
   ·rw [if_pos h8]
   ·rw [if_neg h8, if_neg (c := (decide (0 ≤ p.1) && !(iand .i64 p.2.1 1 == 0)) = true) (by simp [hp0]), if_pos (by decide)]
theorem QqP (hc : OkC cs) (h : OkL l m) {s : List TwoD} (hs : Qcr cs l m = some s) : OkP s ∧ ∀ p ∈ s, p.1 ≤ 7 := by
 have ht := hc.w (k := 10) (by decide)
 have ht2 := hc.tb
 unfold WW at ht
 unfold Qcr at hs
 split at hs
 ·obtain rfl := Osj hs; exact ⟨Qtb, by decide⟩
 ·split at hs
  ·cases hs
  ·split at hs
   ·cases hs
   ·rename_i h8 hf
    obtain rfl := Osj hs
    have h2 := (Qnx h ((cs.getD 10 0 - 1) * 8) 1 (by omega)).2 (by omega)
    have hp := QiP h (f := Qae l ((cs.getD 10 0 - 1) * 8) 1) (by omega) h2
    have key : ∀ p ∈ List.map entM (((m.drop (Qae l ((cs.getD 10 0 - 1) * 8) 1).toNat).take 8)), -1 ≤ p.1 ∧ p.1 ≤ 7 := by
     intro p hpm
     obtain ⟨w, hw, rfl⟩ := List.mem_map.1 hpm
     exact QsX (hp.2 w hw)
    exact ⟨⟨by rw [List.length_map]; exact hp.1, fun p hm => ⟨(key p hm).1, by have := (key p hm).2; omega⟩⟩, fun p hm => (key p hm).2⟩
def Qt (cs : List Int) (l : List TwoD) (m : List Int) (at_ kind : Int) : Int × Int :=
 match Qcr cs l m with
 | none => (0, 7)
 | some s => if Qae s at_ kind < 0 then (0, QjV kind) else if Qae s at_ kind / 8 = 7 then (if kind = 4 then (0, 9) else (1000 + Qae s at_ kind % 8, 0))
  else if Qae l (Qae s at_ kind) kind < 0 then (0, QjV kind) else (Qae l (Qae s at_ kind) kind, 0)
theorem QdP (hc : OkC cs) (h : OkL l m) (at_ : Int) (kind : Int) (h0 : (Qt cs l m at_ kind).2 = 0) :
  (1000 ≤ (Qt cs l m at_ kind).1 ∧ (Qt cs l m at_ kind).1 ≤ 1007 ∧ kind ≠ 4) ∨ (0 ≤ (Qt cs l m at_ kind).1 ∧ (Qt cs l m at_ kind).1 < (m.length : Int)) := by
 unfold Qt at *
 cases hs : Qcr cs l m with
 | none => rw [hs] at h0; simp at h0
 | some s =>
  rw [hs] at h0
  simp only at h0 ⊢
  split at h0
  ·exact absurd h0 (QcQ kind)
  ·rename_i h1
   rw [if_neg h1]
   split at h0
   ·rename_i h7
    rw [if_pos h7]
    split at h0
    ·simp at h0
    ·rename_i h4
     rw [if_neg h4]
     left
     simp only
     omega
   ·rename_i h7
    rw [if_neg h7]
    split at h0
    ·exact absurd h0 (QcQ kind)
    ·rename_i h2
     rw [if_neg h2]
     right
     exact ⟨by simp only; omega, (Qnx h _ _ (by omega)).1⟩
theorem QeI (hc : OkC cs) (h : OkL l m) (at_ : Int) {kind : Int} (hk : kind = 1 ∨ kind = 2 ∨ kind = 4) : F_dk ((r, pc, cs, ha, wa, ru, dn, iq, oq, ()), l, m, at_, kind, ()) =
  some ((((Qt cs l m at_ kind).2, (Qt cs l m at_ kind).1, ()), ()), ()) := by
 unfold F_dk Qt
 dsimp only
 rw [QmG hc h, Obn]
 cases hs : Qcr cs l m with
 | none => rfl
 | some s =>
  have hp := (QqP hc h hs).1
  dsimp only
  rw [if_neg (by decide), QiC hp _ hk, Obn]
  dsimp only
  have hle := QsI hp at_ kind
  have hcn := QcQ kind
  generalize Qae s at_ kind = g at *
  by_cases hg : g < 0
  ·rw [if_pos hg]; dsimp only; rw [if_pos (by simpa using hcn), if_pos hg]
  ·rw [if_neg hg]; dsimp only
   rw [if_neg (by decide), if_neg hg, Int.tdiv_eq_ediv_of_nonneg (by omega), Int.tmod_eq_emod_of_nonneg (by omega), QG (n := g / 8) (by omega) (by omega)]
   by_cases h7 : g / 8 = 7
   ·rw [if_neg (by simpa using h7), if_pos h7]
    by_cases h4 : kind = 4
    ·rw [if_pos (by simpa using h4), if_pos h4]
    ·rw [if_neg (by simpa using h4), if_neg h4, QG (by omega) (by omega)]
   ·rw [if_pos (by simpa using h7), if_neg h7, QiC h.p _ hk, Obn]
    by_cases hf : Qae l g kind < 0
    ·rw [if_pos hf, if_pos hf]
    ·rw [if_neg hf, if_neg hf]
theorem Qcc {q : List Int} (h : q.length ≤ 1048576) : F_av (q, ()) = some ((q, ()), ()) := by
 unfold F_av
 dsimp only
 rw [if_pos (by simp; omega)]
 rfl
def QhI (cs : List Int) (ru : Bool) (dn : Int) (iq : List Int) (k : Int) : Int × List Int :=
 if k = 1 then (iq.getD 0 0, iq.drop 1) else if k = 2 then (dn, iq) else if k = 3 then (cs.getD 9 0, iq) else if k = 4 then (QeQ cs ru dn iq, iq) else if k = 6 then ((iq.length : Int), iq) else (0, iq)
theorem QnV (hc : OkC cs) (hq : OkQ iq) (k : Int) : F_dp ((r, pc, cs, ha, wa, ru, dn, iq, oq, ()), k, ()) =
  some (((QhI cs ru dn iq k).1, ()), ((r, pc, cs, ha, wa, ru, dn, (QhI cs ru dn iq k).2, oq, ()), ())) := by
 unfold F_dp QhI
 dsimp only
 rw [Qee hc, Obn]
 have hl := hq.len
 by_cases h1 : k = 1
 ·subst h1
  rw [if_pos (by decide), if_pos rfl]
  cases iq with
  | nil => rfl
  | cons w t =>
   have hlt : ltI 0 (((w :: t).length : Nat) : Int) = true := QM.2 (by simp only [List.length_cons]; omega)
   rw [if_pos hlt, if_pos (by simp only [List.length_cons]; omega)]
   simp only [show ((0 : Int)).toNat = 0 from rfl, show ((1 : Int)).toNat = 1 from rfl, List.getElem?_cons_zero, Obn]
   rw [if_pos (by simp only [List.length_cons]; omega)]
   have e : ((w :: t).drop 1).take ((((w :: t).length : Nat) : Int).toNat - 1) = t := by simp
   rw [e, Qcc (by simp at hl; omega), Obn]
   rfl
 rw [if_neg (by simpa using h1), if_neg h1]
 by_cases h2 : k = 2
 ·subst h2; rfl
 rw [if_neg (by simpa using h2), if_neg h2]
 by_cases h3 : k = 3
 ·subst h3
  rw [if_pos (by decide), if_pos rfl, if_pos (by rw [hc.len]; decide), QU 0 (by rw [hc.len]; decide)]; rfl
 rw [if_neg (by simpa using h3), if_neg h3]
 by_cases h4 : k = 4
 ·subst h4; rfl
 rw [if_neg (by simpa using h4), if_neg h4]
 by_cases h6 : k = 6
 ·subst h6; rfl
 rw [if_neg (by simpa using h6), if_neg h6]
theorem Qsl (hc : OkC cs) (hq : OkQ iq) (hd : 0 ≤ dn ∧ dn ≤ 1000000000) (k : Int) : WW (QhI cs ru dn iq k).1 ∧ OkQ (QhI cs ru dn iq k).2 := by
 have hp := QiQ cs ru dn iq
 have hl := hq.len
 have h9 := hc.w (k := 9) (by decide)
 unfold QhI
 repeat' split
 ·refine ⟨?_, ⟨by simp only [List.length_drop]; omega, fun w hw => hq.words w (List.mem_of_mem_drop hw)⟩⟩
  cases iq with
  | nil => unfold WW; simp
  | cons w t => exact hq.words w (by simp)
 all_goals refine ⟨?_, hq⟩
 ·unfold WW; simp only; omega
 ·exact h9
 ·unfold WW; simp only; omega
 ·unfold WW; simp only; omega
 ·unfold WW; simp
def QkF (k w : Int) : Int := if k = 5 then wd w else -1
def wrC (cs : List Int) (k w : Int) : List Int := if k = 3 then cs.set 9 (wd w) else cs
def wrR (ru : Bool) (k w : Int) : Bool := if k = 4 then setR ru 6 (wd w) else ru
def wrO (oq : List Int) (k w : Int) : List Int := if k = 0 ∧ oq.length < 40 then oq ++ [wd w] else oq
theorem QuV (w : Int) : setC cs 6 w = cs := by unfold setC; simp
theorem QuW (w : Int) : setC cs 9 w = cs.set 9 (wd w) := by unfold setC; simp
theorem QuX (w : Int) : setR ru 9 w = ru := by unfold setR; simp
theorem QmK (hc : OkC cs) (hq : OkQ oq) (k w : Int) : F_ds ((r, pc, cs, ha, wa, ru, dn, iq, oq, ()), k, w, ()) =
  some ((QkF k w, ()), ((r, pc, wrC cs k w, ha, wa, wrR ru k w, dn, iq, wrO oq k w, ()), ())) := by
 have hl := hq.len
 unfold F_ds QkF wrC wrR wrO
 dsimp only
 rw [Qeg, Obn, Qcc (by omega), Obn]
 dsimp only
 rw [Qhg hc (by omega), Obn, Qhg hc (by omega), Obn, QuV, QuW, QuX, QuZ]
 by_cases h0 : k = 0
 ·subst h0
  by_cases h40 : oq.length < 40
  ·have : ltI ((oq.length : Nat) : Int) 40 = true := QM.2 (by omega)
   rw [if_pos (by decide), if_pos this, if_pos (by simp; omega), if_neg (by decide), if_neg (by decide), if_neg (by decide), if_pos ⟨rfl, h40⟩]
  ·have : ¬ ltI ((oq.length : Nat) : Int) 40 = true := by rw [QM]; omega
   rw [if_pos (by decide), if_neg this, if_neg (by decide), if_neg (by decide), if_neg (by decide), if_neg (by omega)]
 rw [if_neg (by simpa using h0), if_neg (c := k = 0 ∧ oq.length < 40) (by omega)]
 by_cases h3 : k = 3
 ·subst h3; rfl
 rw [if_neg (by simpa using h3), if_neg h3]
 by_cases h4 : k = 4
 ·subst h4; rfl
 rw [if_neg (by simpa using h4), if_neg h4]
 by_cases h5 : k = 5
 ·subst h5; rfl
 rw [if_neg (by simpa using h5), if_neg h5]
theorem QuH (hc : OkC cs) (k w : Int) : OkC (wrC cs k w) := by
 unfold wrC; split
 ·exact hc.set (Qaj w) (by decide) (fun e => absurd e (by decide)) (fun e => absurd e (by decide)) (fun e => absurd e (by decide))
 ·exact hc
theorem QuI (hq : OkQ oq) (k w : Int) : OkQ (wrO oq k w) := by
 unfold wrO; split
 ·rename_i h
  refine ⟨by simp; omega, fun z hz => ?_⟩
  rcases List.mem_append.1 hz with hz | hz
  ·exact hq.words z hz
  ·rw [List.mem_singleton.1 hz]; exact Qaj w
 ·exact hq
def badI (op d a i : Int) : Bool :=
 if op ≤ 11 then decide (15 < i) else if op = 13 ∨ op = 19 then decide (a ≠ 0) else if op = 21 then decide (10 < i ∨ a ≠ 0) else if op = 22 then decide (10 < i ∨ d ≠ 0)
 else if 23 ≤ op then decide (d ≠ 0 ∨ a ≠ 0 ∨ i ≠ 0) else false
def insM (op d a i : Int) : Int :=
 if (1 ≤ op ∧ op ≤ 26) ∧ (0 ≤ d ∧ d ≤ 15) ∧ (0 ≤ a ∧ a ≤ 15) ∧ (0 ≤ i ∧ i ≤ 65535) then (if badI op d a i = true then 1 else 0) else 3
theorem Qql (op d a i : Int) : F_dl ((op, d, a, i, ()), ()) = some ((insM op d a i, ()), ()) := by
 unfold F_dl insM
 dsimp only
 rw [QaT, Obn, QaT, Obn, QaT, Obn, QaT, Obn]
 dsimp only
 by_cases h1 : 1 ≤ op ∧ op ≤ 26
 ·by_cases h2 : 0 ≤ d ∧ d ≤ 15
  ·by_cases h3 : 0 ≤ a ∧ a ≤ 15
   ·by_cases h4 : 0 ≤ i ∧ i ≤ 65535
    ·rw [if_pos (c := (1 ≤ op ∧ op ≤ 26) ∧ (0 ≤ d ∧ d ≤ 15) ∧ (0 ≤ a ∧ a ≤ 15) ∧ (0 ≤ i ∧ i ≤ 65535)) ⟨h1, h2, h3, h4⟩, if_pos (by simp [h1]), if_pos (by simp [h2]), if_pos (by simp [h3]), if_neg (by simp [h4])]
     unfold badI
     simp only [Qbd, Qbo, beq_iff_eq, bne_iff_ne, decide_eq_true_eq, decide_eq_false_iff_not, Bool.not_eq_true, bne_eq_false_iff_eq, ne_eq]
     repeat' split
     all_goals first | rfl | (exfalso; simp_all; done) | (exfalso; simp_all; omega) | (exfalso; omega)
    ·rw [if_neg (c := (1 ≤ op ∧ op ≤ 26) ∧ (0 ≤ d ∧ d ≤ 15) ∧ (0 ≤ a ∧ a ≤ 15) ∧ (0 ≤ i ∧ i ≤ 65535)) (by omega), if_pos (by simp [h1]), if_pos (by simp [h2]), if_pos (by simp [h3]), if_pos (by simp; omega)]
   ·rw [if_neg (c := (1 ≤ op ∧ op ≤ 26) ∧ (0 ≤ d ∧ d ≤ 15) ∧ (0 ≤ a ∧ a ≤ 15) ∧ (0 ≤ i ∧ i ≤ 65535)) (by omega), if_pos (by simp [h1]), if_pos (by simp [h2]), if_neg (by simp; omega)]
  ·rw [if_neg (c := (1 ≤ op ∧ op ≤ 26) ∧ (0 ≤ d ∧ d ≤ 15) ∧ (0 ≤ a ∧ a ≤ 15) ∧ (0 ≤ i ∧ i ≤ 65535)) (by omega), if_pos (by simp [h1]), if_neg (by simp; omega)]
 ·rw [if_neg (c := (1 ≤ op ∧ op ≤ 26) ∧ (0 ≤ d ∧ d ≤ 15) ∧ (0 ≤ a ∧ a ≤ 15) ∧ (0 ≤ i ∧ i ≤ 65535)) (by omega), if_neg (by simp; omega)]
abbrev InsW := Int × Int × Int × Int × Unit
def decM (w : Int) : InsW := (w / 16777216, w / 1048576 % 16, w / 65536 % 16, w % 65536, ())
def decF (w : Int) : Int := insM (decM w).1 (decM w).2.1 (decM w).2.2.1 (decM w).2.2.2.1
theorem Qqg {w : Int} (h : WW w) : F_dm (w, ()) = some ((if decF w = 0 then (0, decM w, ()) else (5, (0, 0, 0, 0, ()), ()), ()), ()) := by
 unfold F_dm
 dsimp only
 rw [QtU, QtU, QrQ, Qgv h.1, Qgv h.1, Qgv h.1, Qql, Obn]
 dsimp only
 have e : insM (w / 2 ^ 24) (w / 2 ^ 20 % 16) (w / 2 ^ 16 % 16) (w % 65536) = decF w := rfl
 rw [e]
 by_cases h0 : decF w = 0
 ·rw [if_neg (by simpa using h0), if_pos h0]; rfl
 ·rw [if_pos (by simpa using h0), if_neg h0]
theorem QsV {w : Int} (h : decF w = 0) : (1 ≤ (decM w).1 ∧ (decM w).1 ≤ 26) ∧ (0 ≤ (decM w).2.1 ∧ (decM w).2.1 ≤ 15) ∧ (0 ≤ (decM w).2.2.1 ∧ (decM w).2.2.1 ≤ 15) ∧ (0 ≤ (decM w).2.2.2.1 ∧ (decM w).2.2.2.1 ≤ 65535) ∧
  ((decM w).1 ≤ 11 → (decM w).2.2.2.1 ≤ 15) ∧ ((decM w).1 = 21 ∨ (decM w).1 = 22 → (decM w).2.2.2.1 ≤ 10) := by
 unfold decF insM at h
 generalize decM w = x at *
 obtain ⟨op, d, a, i, _⟩ := x
 simp only at *
 split at h
 ·rename_i hin
  split at h
  ·omega
  ·rename_i hb
   refine ⟨hin.1, hin.2.1, hin.2.2.1, hin.2.2.2, fun h11 => ?_, fun h2 => ?_⟩
   ·unfold badI at hb
    rw [if_pos h11] at hb
    simpa using hb
   ·unfold badI at hb
    rw [if_neg (by omega), if_neg (by omega)] at hb
    rcases h2 with h2 | h2
    ·rw [if_pos h2] at hb; simp at hb; omega
    ·rw [if_neg (by omega), if_pos h2] at hb; simp at hb; omega
 ·omega
end
structure Mc where
 r : List Int
 pc : Int
 cs : List Int
 ha : Bool
 wa : Bool
 ru : Bool
 dn : Int
 iq : List Int
 oq : List Int
 m : List Int
 ring : Int
 fall : Int
abbrev QtN := List Int × Int × List Int × Bool × Bool × Bool × Int × List Int × List Int × List TwoD × List Int × Int × Int × Unit
def Mc.core (s : Mc) (l : List TwoD) : QtN := (s.r, s.pc, s.cs, s.ha, s.wa, s.ru, s.dn, s.iq, s.oq, l, s.m, s.fall, s.ring, ())
def Mc.trap (s : Mc) (cause tval : Int) : Mc := { s with pc := s.cs.getD 1 0, cs := Qjo s.cs s.pc cause tval, wa := false, fall := cause }
structure OkS (s : Mc) (l : List TwoD) : Prop where
 r : OkR s.r
 pc : WW s.pc
 c : OkC s.cs
 i : OkQ s.iq
 o : OkQ s.oq
 d : 0 ≤ s.dn ∧ s.dn ≤ 1000000000
 l : OkL l s.m
section
variable {r cs iq oq m : List Int} {pc dn ring fall : Int} {ha wa ru : Bool} {l : List TwoD} {s : Mc}
theorem Qft (h : OkS s l) {cause tval : Int} (h1 : WW cause) (h2 : WW tval) : OkS (s.trap cause tval) l :=
 ⟨h.r, h.c.w (by decide), Qsz h.c h.pc h1 h2, h.i, h.o, h.d, h.l⟩
theorem QbT (hc : OkC cs) (cause tval : Int) : F_dd ((r, pc, cs, ha, wa, ru, dn, iq, oq, l, m, fall, ring, ()), cause, tval, ()) =
  some ((), ((r, cs.getD 1 0, Qjo cs pc cause tval, ha, false, ru, dn, iq, oq, l, m, cause, ring, ()), ())) := by
 unfold F_dd
 dsimp only
 rw [QnY hc, Obn]
def Qjm (op d a : Int) : Bool := if op = 16 then decide (d = a) else if op = 17 then decide (d ≠ a) else decide (sg d < sg a)
def exM (s : Mc) (l : List TwoD) (op d a i : Int) : Bool × Int × Int × Mc :=
 let next := addW s.pc 1
 let far := addW s.pc (off i)
 let rd := s.r.getD d.toNat 0
 let ra := s.r.getD a.toNat 0
 let p := addW ra (off i)
 if op = 12 then (true, next, p, s)
 else if op = 13 then (true, next, i * 65536, s)
 else if op = 14 then
  (if (Qt s.cs l s.m p 1).2 ≠ 0 then (false, 0, 0, s.trap 3 p)
   else if 1000 ≤ (Qt s.cs l s.m p 1).1 then (true, next, (QhI s.cs s.ru s.dn s.iq ((Qt s.cs l s.m p 1).1 - 1000)).1, { s with iq := (QhI s.cs s.ru s.dn s.iq ((Qt s.cs l s.m p 1).1 - 1000)).2 })
   else (true, next, s.m.getD (Qt s.cs l s.m p 1).1.toNat 0, s))
 else if op = 15 then
  (if (Qt s.cs l s.m p 2).2 ≠ 0 then (false, 0, 0, s.trap 4 p)
   else if 1000 ≤ (Qt s.cs l s.m p 2).1 then (true, next, 0, { s with ring := QkF ((Qt s.cs l s.m p 2).1 - 1000) rd, cs := wrC s.cs ((Qt s.cs l s.m p 2).1 - 1000) rd, ru := wrR s.ru ((Qt s.cs l s.m p 2).1 - 1000) rd, oq := wrO s.oq ((Qt s.cs l s.m p 2).1 - 1000) rd })
   else (true, next, 0, { s with m := s.m.set (Qt s.cs l s.m p 2).1.toNat rd }))
 else if op = 16 ∨ op = 17 ∨ op = 18 then (true, if Qjm op rd ra = true then far else next, 0, s)
 else if op = 19 then (true, far, next, s)
 else if op = 20 then (true, p, next, s)
 else if op = 21 then (true, next, getM s.cs s.ru s.dn s.iq i, s)
 else if op = 22 then (true, next, 0, { s with cs := setC s.cs i ra, ru := setR s.ru i ra })
 else if op = 23 then (false, 0, 0, s.trap 5 0)
 else if op = 24 then (true, s.cs.getD 2 0, 0, { s with pc := s.cs.getD 2 0, cs := Qmg s.cs })
 else if op = 25 then (true, next, 0, { s with wa := true })
 else if op = 26 then (true, s.pc, 0, { s with ha := true })
 else (true, next, aluW op ra (s.r.getD i.toNat 0), s)
def wrD (op : Int) : Bool := decide ((1 ≤ op ∧ op ≤ 14) ∨ (19 ≤ op ∧ op ≤ 21))
def doM (s : Mc) (l : List TwoD) (op d a i : Int) : Bool × Mc :=
 let e := exM s l op d a i
 if e.1 = true then (true, { e.2.2.2 with pc := e.2.1, r := if wrD op = true ∧ 0 < d then e.2.2.2.r.set d.toNat e.2.2.1 else e.2.2.2.r }) else (false, e.2.2.2)
structure OkI (op d a i : Int) : Prop where
 hop : 1 ≤ op ∧ op ≤ 26
 hd : 0 ≤ d ∧ d ≤ 15
 ha : 0 ≤ a ∧ a ≤ 15
 hi : 0 ≤ i ∧ i ≤ 65535
 i11 : op ≤ 11 → i ≤ 15
 i21 : op = 21 ∨ op = 22 → i ≤ 10
theorem Qun {i : Int} (h : 0 ≤ i ∧ i ≤ 65535) : IntKind.i64.wrap (i * 65536) = i * 65536 := QG (by omega) (by omega)
end
section
variable {l : List TwoD} {s : Mc}
theorem QnT (h : OkS s l) {op d a i : Int} (h14 : op = 14) {e : Bool × Int × Int × Mc} (he : exM s l op d a i = e) : F_dq (s.core l, addW (s.r.getD a.toNat 0) (off i), ()) =
  some ((e.2.2.1, e.1, ()), (e.2.2.2.core l, ())) := by
 subst h14
 obtain ⟨r, pc, cs, ha, wa, ru, dn, iq, oq, m, ring, fall⟩ := s
 obtain ⟨hr, hpc, hc, hiq, hoq, hdn, hl⟩ := h
 unfold F_dq Mc.core
 unfold exM Mc.trap at he
 dsimp only at *
 rw [if_neg (by decide), if_neg (by decide), if_pos rfl] at he
 rw [QeI hc hl _ (.inl rfl), Obn]
 dsimp only
 have hin := QdP hc hl (addW (r.getD a.toNat 0) (off i)) 1
 generalize Qt cs l m (addW (r.getD a.toNat 0) (off i)) 1 = q at *
 by_cases h0 : q.2 = 0
 ·rw [if_neg (by simpa using h0)] at he
  rw [if_neg (by simpa using h0)]
  by_cases hq : 1000 ≤ q.1
  ·have hle : q.1 ≤ 1007 := by have := hl.mlen; rcases hin h0 with h | h <;> omega
   rw [if_pos hq] at he
   subst he
   rw [if_pos (QbH.2 hq), QG (by omega) (by omega), QnV hc hiq, Obn]
  ·have hlt : 0 ≤ q.1 ∧ q.1 < ((m.length : Nat) : Int) := by rcases hin h0 with h | h; omega; exact h
   rw [if_neg hq] at he
   subst he
   rw [if_neg (by rw [QbH]; exact hq), if_pos hlt, QU 0 (by omega)]
 ·rw [if_pos h0] at he
  subst he
  rw [if_pos (by simpa using h0), QbT hc, Obn]
theorem QmH (h : OkS s l) {op d a i : Int} (h15 : op = 15) {e : Bool × Int × Int × Mc} (he : exM s l op d a i = e) : F_dt (s.core l, addW (s.r.getD a.toNat 0) (off i), s.r.getD d.toNat 0, ()) =
  some ((e.1, ()), (e.2.2.2.core l, ())) := by
 subst h15
 obtain ⟨r, pc, cs, ha, wa, ru, dn, iq, oq, m, ring, fall⟩ := s
 obtain ⟨hr, hpc, hc, hiq, hoq, hdn, hl⟩ := h
 unfold F_dt Mc.core
 unfold exM Mc.trap at he
 dsimp only at *
 rw [if_neg (by decide), if_neg (by decide), if_neg (by decide), if_pos rfl] at he
 rw [QeI hc hl _ (.inr (.inl rfl)), Obn]
 dsimp only
 have hin := QdP hc hl (addW (r.getD a.toNat 0) (off i)) 2
 generalize Qt cs l m (addW (r.getD a.toNat 0) (off i)) 2 = q at *
 by_cases h0 : q.2 = 0
 ·rw [if_neg (by simpa using h0)] at he
  rw [if_neg (by simpa using h0)]
  by_cases hq : 1000 ≤ q.1
  ·have hle : q.1 ≤ 1007 := by have := hl.mlen; rcases hin h0 with h | h <;> omega
   rw [if_pos hq] at he
   subst he
   rw [if_pos (QbH.2 hq), QG (by omega) (by omega), QmK hc hoq, Obn]
  ·have hlt : 0 ≤ q.1 ∧ q.1 < ((m.length : Nat) : Int) := by rcases hin h0 with h | h; omega; exact h
   rw [if_neg hq] at he
   subst he
   rw [if_neg (by rw [QbH]; exact hq), if_pos hlt, QU 0 (by omega)]
 ·rw [if_pos h0] at he
  subst he
  rw [if_pos (by simpa using h0), QbT hc, Obn]
theorem QrD (h : OkS s l) {op d a i : Int} (hi : OkI op d a i) {e : Bool × Int × Int × Mc} (he : exM s l op d a i = e) :
  ∃ nx : Int, (e.1 = true → nx = e.2.2.1 ∨ wrD op = false) ∧
  L_ee_100000 (((), ((), (s.pc, (addW s.pc 1, (addW s.pc (off i), (s.r.getD d.toNat 0, (s.r.getD a.toNat 0, (addW (s.r.getD a.toNat 0) (off i), ((0 : Int), (op, (op, ()))))))))))), (((op, (d, (a, (i, ())))), (s.core l, ())), ())) =
  some (if e.1 = true then .inl (((), ((), (e.2.1, (nx, ())))), (((op, (d, (a, (i, ())))), (e.2.2.2.core l, ())), ())) else .inr (.inl ((false, ()), ((e.2.2.2.core l, ()), ())))) := by
 have hld := fun h14 => QnT h (op := op) (d := d) (a := a) (i := i) h14 he
 have hst := fun h15 => QmH h (op := op) (d := d) (a := a) (i := i) h15 he
 have hd := hi.hd
 have ha' := hi.ha
 unfold L_ee_100000
 dsimp only at *
 by_cases h12 : op = 12
 ·subst h12
  rw [show exM s l 12 d a i = (true, addW s.pc 1, addW (s.r.getD a.toNat 0) (off i), s) from rfl] at he
  subst he
  exact ⟨_, fun _ => .inl rfl, by rw [if_pos (by decide)]; rfl⟩
 rw [if_neg (by simpa using h12)]
 by_cases h13 : op = 13
 ·subst h13
  rw [show exM s l 13 d a i = (true, addW s.pc 1, i * 65536, s) from rfl] at he
  subst he
  exact ⟨_, fun _ => .inl rfl, by rw [if_pos (by decide), Qun hi.hi]; rfl⟩
 rw [if_neg (by simpa using h13)]
 by_cases h14 : op = 14
 ·subst h14
  have hn : e.1 = true → e.2.1 = addW s.pc 1 := by
   rw [← he]; unfold exM; dsimp only
   rw [if_neg (by decide), if_neg (by decide), if_pos rfl]
   repeat' split
   all_goals simp
  refine ⟨e.2.2.1, fun _ => .inl rfl, ?_⟩
  rw [if_pos (by decide), hld rfl, Obn]
  obtain ⟨b, nx, rs, s1⟩ := e
  cases b
  ·simp
  ·simp only at hn
   simp [hn]
 rw [if_neg (by simpa using h14)]
 by_cases h15 : op = 15
 ·subst h15
  have hn : e.1 = true → e.2.1 = addW s.pc 1 := by
   rw [← he]; unfold exM; dsimp only
   rw [if_neg (by decide), if_neg (by decide), if_neg (by decide), if_pos rfl]
   repeat' split
   all_goals simp
  refine ⟨0, fun _ => .inr rfl, ?_⟩
  rw [if_pos (by decide), hst rfl, Obn]
  obtain ⟨b, nx, rs, s1⟩ := e
  cases b
  ·simp
  ·simp only at hn
   simp [hn]
 rw [if_neg (by simpa using h15)]
 clear hld hst
 obtain ⟨r, pc, cs, ha, wa, ru, dn, iq, oq, m, ring, fall⟩ := s
 obtain ⟨hr, hpc, hc, hiq, hoq, hdn, hl⟩ := h
 have hex : exM ⟨r, pc, cs, ha, wa, ru, dn, iq, oq, m, ring, fall⟩ l op d a i =
   (if op = 16 ∨ op = 17 ∨ op = 18 then (true, if Qjm op (r.getD d.toNat 0) (r.getD a.toNat 0) = true then addW pc (off i) else addW pc 1, 0, ⟨r, pc, cs, ha, wa, ru, dn, iq, oq, m, ring, fall⟩)
   else if op = 19 then (true, addW pc (off i), addW pc 1, ⟨r, pc, cs, ha, wa, ru, dn, iq, oq, m, ring, fall⟩)
   else if op = 20 then (true, addW (r.getD a.toNat 0) (off i), addW pc 1, ⟨r, pc, cs, ha, wa, ru, dn, iq, oq, m, ring, fall⟩)
   else if op = 21 then (true, addW pc 1, getM cs ru dn iq i, ⟨r, pc, cs, ha, wa, ru, dn, iq, oq, m, ring, fall⟩)
   else if op = 22 then (true, addW pc 1, 0, ⟨r, pc, setC cs i (r.getD a.toNat 0), ha, wa, setR ru i (r.getD a.toNat 0), dn, iq, oq, m, ring, fall⟩)
   else if op = 23 then (false, 0, 0, ⟨r, cs.getD 1 0, Qjo cs pc 5 0, ha, false, ru, dn, iq, oq, m, ring, 5⟩)
   else if op = 24 then (true, cs.getD 2 0, 0, ⟨r, cs.getD 2 0, Qmg cs, ha, wa, ru, dn, iq, oq, m, ring, fall⟩)
   else if op = 25 then (true, addW pc 1, 0, ⟨r, pc, cs, ha, true, ru, dn, iq, oq, m, ring, fall⟩)
   else if op = 26 then (true, pc, 0, ⟨r, pc, cs, true, wa, ru, dn, iq, oq, m, ring, fall⟩)
   else (true, addW pc 1, aluW op (r.getD a.toNat 0) (r.getD i.toNat 0), ⟨r, pc, cs, ha, wa, ru, dn, iq, oq, m, ring, fall⟩)) := by
  unfold exM Mc.trap
  dsimp only
  rw [if_neg h12, if_neg h13, if_neg h14, if_neg h15]
 unfold Mc.core
 dsimp only at *
 by_cases h16 : op = 16
 ·subst h16
  rw [if_pos (.inl rfl)] at hex
  rw [hex] at he
  subst he
  refine ⟨0, fun _ => .inr rfl, ?_⟩
  rw [if_pos (by decide), if_pos (by decide)]
  generalize r.getD d.toNat 0 = x
  generalize r.getD a.toNat 0 = y
  unfold Qjm
  by_cases hxy : x = y <;> simp [hxy]
 rw [if_neg (by simpa using h16)]
 by_cases h17 : op = 17
 ·subst h17
  rw [if_pos (.inr (.inl rfl))] at hex
  rw [hex] at he
  subst he
  refine ⟨0, fun _ => .inr rfl, ?_⟩
  rw [if_pos (by decide), if_neg (by decide), if_pos (by decide)]
  generalize r.getD d.toNat 0 = x
  generalize r.getD a.toNat 0 = y
  unfold Qjm
  by_cases hxy : x = y <;> simp [hxy]
 rw [if_neg (by simpa using h17)]
 by_cases h18 : op = 18
 ·subst h18
  rw [if_pos (.inr (.inr rfl))] at hex
  rw [hex] at he
  subst he
  refine ⟨0, fun _ => .inr rfl, ?_⟩
  rw [if_pos (by decide), if_neg (by decide), if_neg (by decide), if_pos (by decide), Qef, Obn, Qef, Obn]
  generalize r.getD d.toNat 0 = x
  generalize r.getD a.toNat 0 = y
  unfold Qjm
  by_cases hxy : sg x < sg y <;> simp [hxy, Qbo]
 rw [if_neg (by simpa using h18)]
 rw [if_neg (c := op = 16 ∨ op = 17 ∨ op = 18) (by omega)] at hex
 by_cases h19 : op = 19
 ·subst h19
  rw [if_pos rfl] at hex
  rw [hex] at he
  subst he
  exact ⟨_, fun _ => .inl rfl, by rw [if_pos (by decide)]; rfl⟩
 rw [if_neg (by simpa using h19)]
 rw [if_neg h19] at hex
 by_cases h20 : op = 20
 ·subst h20
  rw [if_pos rfl] at hex
  rw [hex] at he
  subst he
  exact ⟨_, fun _ => .inl rfl, by rw [if_pos (by decide)]; rfl⟩
 rw [if_neg (by simpa using h20)]
 rw [if_neg h20] at hex
 by_cases h21 : op = 21
 ·subst h21
  rw [if_pos rfl] at hex
  rw [hex] at he
  subst he
  have hi10 := hi.i21 (.inl rfl)
  have hi0 := hi.hi
  exact ⟨_, fun _ => .inl rfl, by rw [if_pos (by decide), Qqk hc ⟨hi0.1, hi10⟩, Obn]; rfl⟩
 rw [if_neg (by simpa using h21)]
 rw [if_neg h21] at hex
 by_cases h22 : op = 22
 ·subst h22
  rw [if_pos rfl] at hex
  rw [hex] at he
  subst he
  have hi10 := hi.i21 (.inr rfl)
  have hi0 := hi.hi
  exact ⟨0, fun _ => .inr rfl, by rw [if_pos (by decide), Qhg hc ⟨hi0.1, hi10⟩, Obn]; rfl⟩
 rw [if_neg (by simpa using h22)]
 rw [if_neg h22] at hex
 by_cases h23 : op = 23
 ·subst h23
  rw [if_pos rfl] at hex
  rw [hex] at he
  subst he
  exact ⟨0, fun _ => .inr rfl, by rw [if_pos (by decide), QbT hc, Obn]; rfl⟩
 rw [if_neg (by simpa using h23)]
 rw [if_neg h23] at hex
 by_cases h24 : op = 24
 ·subst h24
  rw [if_pos rfl] at hex
  rw [hex] at he
  subst he
  exact ⟨0, fun _ => .inr rfl, by rw [if_pos (by decide), QnP hc, Obn]; rfl⟩
 rw [if_neg (by simpa using h24)]
 rw [if_neg h24] at hex
 by_cases h25 : op = 25
 ·subst h25
  rw [if_pos rfl] at hex
  rw [hex] at he
  subst he
  exact ⟨0, fun _ => .inr rfl, by rw [if_pos (by decide)]; rfl⟩
 rw [if_neg (by simpa using h25)]
 rw [if_neg h25] at hex
 by_cases h26 : op = 26
 ·subst h26
  rw [if_pos rfl] at hex
  rw [hex] at he
  subst he
  exact ⟨0, fun _ => .inr rfl, by rw [if_pos (by decide)]; rfl⟩
 rw [if_neg (by simpa using h26)]
 rw [if_neg h26] at hex
 have h1 := hi.hop
 have h11 : op ≤ 11 := by omega
 have hi15 := hi.i11 h11
 have hi0 := hi.hi
 have hii : 0 ≤ i ∧ i < ((r.length : Nat) : Int) := by rw [hr.len]; omega
 have hiN : i.toNat < r.length := by rw [hr.len]; omega
 rw [hex] at he
 subst he
 refine ⟨_, fun _ => .inl rfl, ?_⟩
 rw [if_pos hii, QU 0 hiN, Qqf op _ _ (hr.w (by omega)) (hr.w (by omega)) ⟨h1.1, h11⟩, Obn]
 rfl
def QfD (s : Mc) : Mc := { s with dn := if 1000000000 < s.dn + 1 then 1000000000 else s.dn + 1 }
theorem QrE (op : Int) : F_ed (op, ()) = some ((wrD op, ()), ()) := by
 unfold F_ed wrD
 dsimp only
 rw [QaT, Obn, QaT, Obn]
 dsimp only
 by_cases h1 : 1 ≤ op ∧ op ≤ 14
 ·rw [if_neg (by simp [h1]), decide_eq_true (.inl h1)]
 ·rw [if_pos (by simp; omega)]
  by_cases h2 : 19 ≤ op ∧ op ≤ 21
  ·rw [decide_eq_true (p := (1 ≤ op ∧ op ≤ 14) ∨ (19 ≤ op ∧ op ≤ 21)) (.inr h2)]; simp [h2]
  ·rw [decide_eq_false (p := (1 ≤ op ∧ op ≤ 14) ∨ (19 ≤ op ∧ op ≤ 21)) (by omega)]; simp; omega
theorem Qg {α : Type} (P : α → Prop) {c : Prop} [Decidable c] {a b : α} (h1 : c → P a) (h2 : ¬ c → P b) : P (if c then a else b) := by
 by_cases h : c
 ·rw [if_pos h]; exact h1 h
 ·rw [if_neg h]; exact h2 h
theorem QuQ (s : Mc) (l : List TwoD) (op d a i : Int) : (exM s l op d a i).2.2.2.r = s.r ∧ (exM s l op d a i).2.2.2.dn = s.dn := by
 unfold exM Mc.trap
 let P : Bool × Int × Int × Mc → Prop := fun x => x.2.2.2.r = s.r ∧ x.2.2.2.dn = s.dn
 refine Qg P (fun _ => ⟨rfl, rfl⟩) fun _ => Qg P (fun _ => ⟨rfl, rfl⟩) fun _ => Qg P (fun _ => Qg P (fun _ => ⟨rfl, rfl⟩) fun _ => Qg P (fun _ => ⟨rfl, rfl⟩) fun _ => ⟨rfl, rfl⟩) fun _ =>
  Qg P (fun _ => Qg P (fun _ => ⟨rfl, rfl⟩) fun _ => Qg P (fun _ => ⟨rfl, rfl⟩) fun _ => ⟨rfl, rfl⟩) fun _ => Qg P (fun _ => ⟨rfl, rfl⟩) fun _ => Qg P (fun _ => ⟨rfl, rfl⟩) fun _ => Qg P (fun _ => ⟨rfl, rfl⟩) fun _ =>
  Qg P (fun _ => ⟨rfl, rfl⟩) fun _ => Qg P (fun _ => ⟨rfl, rfl⟩) fun _ => Qg P (fun _ => ⟨rfl, rfl⟩) fun _ => Qg P (fun _ => ⟨rfl, rfl⟩) fun _ => Qg P (fun _ => ⟨rfl, rfl⟩) fun _ => Qg P (fun _ => ⟨rfl, rfl⟩) fun _ => ⟨rfl, rfl⟩
theorem QrC (h : OkS s l) {op d a i : Int} (hi : OkI op d a i) {e : Bool × Mc} (he : doM s l op d a i = e) : F_ee (s.core l, (op, d, a, i, ()), ()) =
  some ((e.1, ()), ((if e.1 = true then (QfD e.2).core l else e.2.core l), ())) := by
 have hd := hi.hd
 have ha' := hi.ha
 have hr := h.r
 obtain ⟨nx, hnx, hL⟩ := QrD h hi rfl
 have hrr := QuQ s l op d a i
 unfold F_ee
 dsimp only
 have e1 : (s.core l).2.1 = s.pc := rfl
 have e2 : (s.core l).1 = s.r := rfl
 rw [e1, e2, Qfg, Obn]
 dsimp only
 rw [Qqo, Obn]
 dsimp only
 rw [Qfg, Obn]
 dsimp only
 have hid : 0 ≤ d ∧ d < ((s.r.length : Nat) : Int) := by rw [hr.len]; omega
 have hia : 0 ≤ a ∧ a < ((s.r.length : Nat) : Int) := by rw [hr.len]; omega
 rw [if_pos hid, QU 0 (by rw [hr.len]; omega), if_pos hia, QU 0 (by rw [hr.len]; omega), Obn]
 dsimp only
 rw [Qfg, Obn]
 dsimp only
 rw [hL, Obn]
 unfold doM at he
 dsimp only at he
 generalize exM s l op d a i = x at *
 obtain ⟨b, nxt, rs, s1⟩ := x
 cases b
 ·subst he; rfl
 ·simp only [if_true] at he ⊢
  subst he
  simp only at hrr hnx
  have hdn := h.d
  have hw : IntKind.i64.wrap (s1.dn + 1) = s1.dn + 1 := QG (by rw [hrr.2]; omega) (by rw [hrr.2]; omega)
  unfold Mc.core QfD
  dsimp only
  rw [QrE, Obn, hw]
  dsimp only
  have hid2 : 0 ≤ d ∧ d < ((s1.r.length : Nat) : Int) := by rw [hrr.1, hr.len]; omega
  by_cases hwd : wrD op = true
  ·have hx : nx = rs := by
    rcases hnx trivial with h | h
    ·exact h
    ·rw [h] at hwd; cases hwd
   subst hx
   rw [if_pos hwd]
   by_cases hd0 : 0 < d
   ·rw [if_pos (QM.2 hd0), if_pos hid2, QU 0 (by rw [hrr.1, hr.len]; omega), if_pos (c := wrD op = true ∧ 0 < d) ⟨hwd, hd0⟩]; rfl
   ·rw [if_neg (by rw [QM]; exact hd0), if_neg (c := wrD op = true ∧ 0 < d) (fun h => hd0 h.2)]; rfl
  ·rw [if_neg hwd, if_neg (c := wrD op = true ∧ 0 < d) (fun h => hwd h.1)]; rfl
def runM (s : Mc) (l : List TwoD) : Mc :=
 if (Qt s.cs l s.m s.pc 4).2 ≠ 0 then s.trap 2 s.pc
 else
  let w := s.m.getD (Qt s.cs l s.m s.pc 4).1.toNat 0
  if decF w = 0 then (if (doM s l (decM w).1 (decM w).2.1 (decM w).2.2.1 (decM w).2.2.2.1).1 = true then QfD (doM s l (decM w).1 (decM w).2.1 (decM w).2.2.1 (decM w).2.2.2.1).2
   else (doM s l (decM w).1 (decM w).2.1 (decM w).2.2.1 (decM w).2.2.2.1).2) else s.trap 1 w
def Qad (s0 : Mc) (l : List TwoD) : Mc :=
 let s : Mc := { s0 with ring := -1, fall := -1 }
 if s.ha = true then s
 else if 0 ≤ dueM s.cs s.ru s.dn s.iq then s.trap (16 + dueM s.cs s.ru s.dn s.iq) 0
 else if s.wa = true then (if iand .i64 (QeQ s.cs s.ru s.dn s.iq) (s.cs.getD 7 0) = 0 then s else runM { s with wa := false } l)
 else runM s l
theorem QlA {w : Int} (h : decF w = 0) : OkI (decM w).1 (decM w).2.1 (decM w).2.2.1 (decM w).2.2.2.1 := by
 obtain ⟨h1, h2, h3, h4, h5, h6⟩ := QsV h
 exact ⟨h1, h2, h3, h4, h5, h6⟩
theorem QoU (cs : List Int) (ru : Bool) (dn : Int) (iq : List Int) : -1 ≤ dueM cs ru dn iq ∧ dueM cs ru dn iq ≤ 2 := by
 unfold dueM; split
 ·omega
 ·exact Qth _
theorem Qki (h : OkS s l) :
  ((F_dk ((s.r, s.pc, s.cs, s.ha, s.wa, s.ru, s.dn, s.iq, s.oq, ()), l, s.m, s.pc, (4 : Int), ())).bind fun r14 =>
    if (r14.1.1.1 != (0 : Int)) then
     (F_dd (s.core l, (2 : Int), s.pc, ())).bind fun r15 => some (((), (r15.2.1, ())) : Unit × QtN × Unit)
    else
     if 0 ≤ r14.1.1.2.1 ∧ r14.1.1.2.1 < ((s.m.length : Nat) : Int) then
      ((s.m)[(r14.1.1.2.1).toNat]?).bind fun y16 =>
      (F_dm (y16, ())).bind fun r17 =>
      if (r17.1.1.1 != (0 : Int)) then
       if 0 ≤ r14.1.1.2.1 ∧ r14.1.1.2.1 < ((s.m.length : Nat) : Int) then
        ((s.m)[(r14.1.1.2.1).toNat]?).bind fun y18 =>
        (F_dd (s.core l, (1 : Int), y18, ())).bind fun r19 => some ((), (r19.2.1, ()))
       else none
      else
       (F_ee (s.core l, r17.1.1.2.1, ())).bind fun r20 => some ((), (r20.2.1, ()))
     else none) = some ((), ((runM s l).core l, ())) := by
 have hdo := fun {w : Int} (hw : decF w = 0) => QrC h (QlA hw) rfl
 rw [QeI h.c h.l _ (.inr (.inr rfl)), Obn]
 dsimp only
 unfold runM
 have hin := QdP h.c h.l s.pc 4
 generalize Qt s.cs l s.m s.pc 4 = q at *
 by_cases h0 : q.2 = 0
 ·have hlt : 0 ≤ q.1 ∧ q.1 < ((s.m.length : Nat) : Int) := by
   rcases hin h0 with h | h
   ·exact absurd rfl h.2.2
   ·exact h
  have hN : q.1.toNat < s.m.length := by omega
  have hw : WW (s.m.getD q.1.toNat 0) := h.l.words _ (QT hN)
  rw [if_neg (by simpa using h0), if_pos hlt, QU 0 hN, Qqg hw, Obn, if_pos hlt, QU 0 hN, if_neg (c := q.2 ≠ 0) (by simpa using h0)]
  dsimp only
  generalize s.m.getD q.1.toNat 0 = w at *
  by_cases hd : decF w = 0
  ·rw [if_pos hd, if_pos hd]
   dsimp only
   rw [if_neg (by decide)]
   have hx := hdo hd
   have e1 : ((decM w).1, (decM w).2.1, (decM w).2.2.1, (decM w).2.2.2.1, ()) = decM w := rfl
   rw [e1] at hx
   rw [hx, Obn]
   generalize doM s l (decM w).1 (decM w).2.1 (decM w).2.2.1 (decM w).2.2.2.1 = x at *
   obtain ⟨b, s1⟩ := x
   cases b <;> rfl
  ·rw [if_neg hd, if_neg hd]
   dsimp only
   rw [if_pos (by decide)]
   unfold Mc.core
   rw [QbT h.c, Obn]
   rfl
 ·rw [if_pos (by simpa using h0), if_pos (c := q.2 ≠ 0) h0]
  unfold Mc.core
  rw [QbT h.c, Obn]
  rfl
theorem QnX (h : OkS s l) : F_ef (s.core l, ()) = some ((), ((Qad s l).core l, ())) := by
 obtain ⟨r, pc, cs, ha, wa, ru, dn, iq, oq, m, ring, fall⟩ := s
 have h0 : OkS ⟨r, pc, cs, ha, wa, ru, dn, iq, oq, m, -1, -1⟩ l := ⟨h.r, h.pc, h.c, h.i, h.o, h.d, h.l⟩
 have h1 : OkS ⟨r, pc, cs, ha, false, ru, dn, iq, oq, m, -1, -1⟩ l := ⟨h.r, h.pc, h.c, h.i, h.o, h.d, h.l⟩
 have hc : OkC cs := h.c
 have hle := QoU cs ru dn iq
 generalize he : Qad ⟨r, pc, cs, ha, wa, ru, dn, iq, oq, m, ring, fall⟩ l = e
 unfold Qad at he
 unfold F_ef
 dsimp only at he
 rw [show (Mc.core ⟨r, pc, cs, ha, wa, ru, dn, iq, oq, m, ring, fall⟩ l) = (r, pc, cs, ha, wa, ru, dn, iq, oq, l, m, fall, ring, ()) from rfl]
 dsimp only
 cases ha
 ·rw [if_neg (by decide)] at he
  rw [if_neg (by decide), Qqi hc, Obn]
  dsimp only
  by_cases hk : 0 ≤ dueM cs ru dn iq
  ·rw [if_pos hk] at he
   subst he
   rw [if_pos (QbH.2 hk), QG (by omega) (by omega), QbT hc, Obn]
   rfl
  ·rw [if_neg hk] at he
   rw [if_neg (by rw [QbH]; exact hk)]
   cases wa
   ·rw [if_neg (by decide)] at he
    subst he
    rw [if_neg (by decide)]
    exact Qki h0
   ·rw [if_pos rfl] at he
    have h7 : (0 : Int) ≤ 7 ∧ (7 : Int) < ((cs.length : Nat) : Int) := by rw [hc.len]; decide
    rw [if_pos rfl, Qee hc, Obn]
    dsimp only
    rw [if_pos h7, QU 0 (by rw [hc.len]; decide)]
    simp only [show ((7 : Int)).toNat = 7 from rfl]
    by_cases hz : iand .i64 (QeQ cs ru dn iq) (cs.getD 7 0) = 0
    ·rw [if_pos hz] at he
     subst he
     rw [if_pos (by simpa using hz)]
     rfl
    ·rw [if_neg hz] at he
     subst he
     rw [if_neg (by simpa using hz)]
     exact Qki h1
 ·rw [if_pos rfl] at he
  subst he
  rw [if_pos rfl]
  rfl
theorem Quk (h : OkS s l) {op d a i : Int} (hi : OkI op d a i) : OkS (exM s l op d a i).2.2.2 l ∧ WW (exM s l op d a i).2.2.1 ∧ ((exM s l op d a i).1 = true → WW (exM s l op d a i).2.1) := by
 have hp : ∀ x y, WW (addW x y) := QjM
 have h0 : WW 0 := by unfold WW; omega
 have hd := hi.hd
 have ha := hi.ha
 have hii := hi.hi
 have hra := h.r.w (k := a.toNat) (by omega)
 have hrd := h.r.w (k := d.toNat) (by omega)
 unfold exM
 let P : Bool × Int × Int × Mc → Prop := fun x => OkS x.2.2.2 l ∧ WW x.2.2.1 ∧ (x.1 = true → WW x.2.1)
 refine Qg P (fun _ => ⟨h, hp _ _, fun _ => hp _ _⟩) fun _ => Qg P (fun _ => ⟨h, by unfold WW; dsimp only; omega, fun _ => hp _ _⟩) fun _ => Qg P (fun _ => ?_) fun _ => Qg P (fun _ => ?_) fun _ =>
  Qg P (fun _ => ⟨h, h0, fun _ => Qg WW (fun _ => hp _ _) fun _ => hp _ _⟩) fun _ => Qg P (fun _ => ⟨h, hp _ _, fun _ => hp _ _⟩) fun _ => Qg P (fun _ => ⟨h, hp _ _, fun _ => hp _ _⟩) fun _ =>
  Qg P (fun h21 => ⟨h, Qqc h.c ⟨hii.1, hi.i21 (.inl h21)⟩ h.d, fun _ => hp _ _⟩) fun _ => Qg P (fun h22 => ⟨⟨h.r, h.pc, QtA h.c ⟨hii.1, hi.i21 (.inr h22)⟩, h.i, h.o, h.d, h.l⟩, h0, fun _ => hp _ _⟩) fun _ =>
  Qg P (fun _ => ⟨Qft h (by unfold WW; omega) h0, h0, fun _ => h0⟩) fun _ => Qg P (fun _ => ⟨⟨h.r, h.c.w (by decide), Qrj h.c, h.i, h.o, h.d, h.l⟩, h0, fun _ => h.c.w (by decide)⟩) fun _ =>
  Qg P (fun _ => ⟨⟨h.r, h.pc, h.c, h.i, h.o, h.d, h.l⟩, h0, fun _ => hp _ _⟩) fun _ => Qg P (fun _ => ⟨⟨h.r, h.pc, h.c, h.i, h.o, h.d, h.l⟩, h0, fun _ => h.pc⟩) fun _ => ⟨h, QpI _ _ _, fun _ => hp _ _⟩
 ·have hin := QdP h.c h.l (addW (s.r.getD a.toNat 0) (off i)) 1
  refine Qg P (fun _ => ⟨Qft h (by unfold WW; omega) (hp _ _), h0, fun _ => h0⟩) fun hq0 => Qg P (fun _ => ?_) fun hq => ⟨h, ?_, fun _ => hp _ _⟩
  ·have := Qsl (ru := s.ru) h.c h.i h.d ((Qt s.cs l s.m (addW (s.r.getD a.toNat 0) (off i)) 1).1 - 1000)
   exact ⟨⟨h.r, h.pc, h.c, this.2, h.o, h.d, h.l⟩, this.1, fun _ => hp _ _⟩
  ·have hlt : 0 ≤ (Qt s.cs l s.m (addW (s.r.getD a.toNat 0) (off i)) 1).1 ∧ (Qt s.cs l s.m (addW (s.r.getD a.toNat 0) (off i)) 1).1 < (s.m.length : Int) := by
    rcases hin (by simpa using hq0) with h | h
    ·exact absurd h.1 hq
    ·exact h
   exact h.l.words _ (QT (by omega))
 ·refine Qg P (fun _ => ⟨Qft h (by unfold WW; omega) (hp _ _), h0, fun _ => h0⟩) fun hq0 => Qg P (fun _ => ?_) fun hq => ?_
  ·exact ⟨⟨h.r, h.pc, QuH h.c _ _, h.i, QuI h.o _ _, h.d, h.l⟩, h0, fun _ => hp _ _⟩
  ·refine ⟨⟨h.r, h.pc, h.c, h.i, h.o, h.d, ⟨h.l.len, fun p hpm => ?_, fun w hw => ?_, ?_⟩⟩, h0, fun _ => hp _ _⟩
   ·have := h.l.pgs p hpm
    dsimp only
    rw [List.length_set]
    exact this
   ·rcases List.mem_or_eq_of_mem_set hw with hw | rfl
    ·exact h.l.words w hw
    ·exact hrd
   ·dsimp only
    rw [List.length_set]
    exact h.l.mlen
theorem OkR.set {r : List Int} (h : OkR r) {k : Nat} {w : Int} (hk : 0 < k) (hw : WW w) : OkR (r.set k w) :=
 ⟨by rw [List.length_set]; exact h.len, fun z hz => by
  rcases List.mem_or_eq_of_mem_set hz with hz | rfl
  ·exact h.words z hz
  ·exact hw, by rw [getD_set_ne (by omega)]; exact h.zero⟩
theorem Qrq (h : OkS s l) {op d a i : Int} (hi : OkI op d a i) : OkS (doM s l op d a i).2 l := by
 have he := Quk h hi
 unfold doM
 dsimp only
 refine Qg (fun x : Bool × Mc => OkS x.2 l) (fun hb => ?_) fun _ => he.1
 refine ⟨?_, he.2.2 hb, he.1.c, he.1.i, he.1.o, he.1.d, he.1.l⟩
 refine Qg OkR (fun hd => he.1.r.set (by omega) he.2.1) fun _ => he.1.r
theorem QrS (h : OkS s l) : OkS (QfD s) l := by
 have := h.d
 refine ⟨h.r, h.pc, h.c, h.i, h.o, ?_, h.l⟩
 unfold QfD
 dsimp only
 split <;> omega
theorem Qpr (h : OkS s l) : OkS (runM s l) l := by
 unfold runM
 have hin := QdP h.c h.l s.pc 4
 refine Qg (fun x => OkS x l) (fun _ => Qft h (by unfold WW; omega) h.pc) fun hq0 => ?_
 have hlt : 0 ≤ (Qt s.cs l s.m s.pc 4).1 ∧ (Qt s.cs l s.m s.pc 4).1 < (s.m.length : Int) := by
  rcases hin (by simpa using hq0) with h | h
  ·exact absurd rfl h.2.2
  ·exact h
 have hw : WW (s.m.getD (Qt s.cs l s.m s.pc 4).1.toNat 0) := h.l.words _ (QT (by omega))
 refine Qg (fun x => OkS x l) (fun hd => ?_) fun _ => Qft h (by unfold WW; omega) hw
 exact Qg (fun x => OkS x l) (fun _ => QrS (Qrq h (QlA hd))) fun _ => Qrq h (QlA hd)
theorem Qjj (h : OkS s l) : OkS (Qad s l) l := by
 have h0 : OkS { s with ring := -1, fall := -1 } l := ⟨h.r, h.pc, h.c, h.i, h.o, h.d, h.l⟩
 have h1 : OkS { s with ring := -1, fall := -1, wa := false } l := ⟨h.r, h.pc, h.c, h.i, h.o, h.d, h.l⟩
 have hle := QoU s.cs s.ru s.dn s.iq
 unfold Qad
 refine Qg (fun x => OkS x l) (fun _ => h0) fun _ => Qg (fun x => OkS x l) (fun hk => Qft h0 ?_ (by unfold WW; omega)) fun _ => Qg (fun x => OkS x l) (fun _ => Qg (fun x => OkS x l) (fun _ => h0) fun _ => Qpr h1) fun _ => Qpr h0
 unfold WW
 dsimp only at *
 omega
end
theorem Qjc {α β : Type} {f : Nat → α → Option β} : ∀ {m : List α} {i : Nat}, scan f i m = none → ∀ x ∈ m, ∃ j, f j x = none
 | [], _, _, _, hx => by cases hx
 | y :: r, i, h, x, hx => by
  simp only [scan] at h
  split at h
  ·cases h
  ·rename_i hn
   rcases List.mem_cons.1 hx with rfl | hx
   ·exact ⟨_, hn⟩
   ·exact Qjc h x hx
theorem Qon {l : List TwoD} {top : Int} (ht : 1 ≤ top ∧ top ≤ 24) (h : Qhm l top = 0) : l.length = 8 ∧ ∀ p ∈ l, (-1 ≤ p.1 ∧ p.1 ≤ top - 1) ∧ (0 ≤ p.2.1 ∧ p.2.1 ≤ 7) := by
 unfold Qhm at h
 rw [if_pos (by unfold inB; simp [ht.1, ht.2])] at h
 split at h
 ·rename_i hl
  refine ⟨hl, fun p hp => ?_⟩
  have key : scan (fun (_ : Nat) p => QmZ top p) 0 l = none := by
   split at h
   ·rename_i c hc
    exfalso
    have : ∀ {l : List TwoD} {i : Nat} {c : Int}, scan (fun (_ : Nat) p => QmZ top p) i l = some c → c ≠ 0 := by
     intro l
     induction l with
     | nil => intro i c h; simp [scan] at h
     | cons y r ih =>
      intro i c h
      simp only [scan] at h
      split at h
      ·rename_i c' hc'
       obtain rfl := Osj h
       unfold QmZ nz at hc'
       intro e
       subst e
       repeat' split at hc'
       all_goals first | (cases hc'; done) | simp_all
      ·exact ih h
    exact this hc h
   ·rename_i hn; exact hn
  obtain ⟨j, hj⟩ := Qjc key p hp
  unfold QmZ inB at hj
  split at hj
  ·rename_i h1
   split at hj
   ·rename_i h2
    simp only [Bool.and_eq_true, decide_eq_true_eq] at h1 h2
    omega
   ·cases hj
  ·cases hj
 ·omega
def Mc.of (h : QY) (m : List Int) : Mc := ⟨h.1, h.2.1, h.2.2.1, h.2.2.2.1, h.2.2.2.2.1, h.2.2.2.2.2.1, h.2.2.2.2.2.2.1, h.2.2.2.2.2.2.2.1, h.2.2.2.2.2.2.2.2.1, m, -1, -1⟩
theorem QtX {h : QY} {l : List TwoD} {m : List Int} (h1 : hartM h = 0) (hL : OkL l m) : OkS (Mc.of h m) l := by
 unfold hartM at h1
 split at h1
 ·rename_i c1
  split at h1
  ·rename_i c2
   split at h1
   ·rename_i c3
    split at h1
    ·rename_i c4
     split at h1
     ·rename_i c5
      simp only [inB, Bool.and_eq_true, decide_eq_true_eq] at c4
      exact ⟨⟨c1.1, Qal.1 c2.1, c1.2.2⟩, QhQ.1 c2.2.1, ⟨c1.2.1, Qal.1 c2.2.2.1, c5.1, c5.2.1, c5.2.2.1, c5.2.2.2.1, c5.2.2.2.2⟩, ⟨c3.1, Qal.1 c2.2.2.2.1⟩, ⟨c3.2, Qal.1 c2.2.2.2.2⟩, c4, hL⟩
     ·omega
    ·omega
   ·omega
  ·omega
 ·omega
theorem Qqp (h : QY) (hh : QcS 1048576 h) : F_cl (h, ()) = some ((h, ()), ()) := by
 obtain ⟨h1, h2, h3, h4⟩ := hh
 unfold F_cl
 dsimp only
 rw [Qcc h1, Obn, Qcc h2, Obn, Qcc h3, Obn, Qcc h4, Obn]
def QbM (l : List TwoD) : Nat → Int → Int → Mc → Int × Int × Mc
 | 0, c, g, s => (c, g, s)
 | k + 1, c, g, s => QbM l k (if 0 ≤ (Qad s l).fall then (Qad s l).fall else c) (if 0 ≤ (Qad s l).ring then (Qad s l).ring else g) (Qad s l)
abbrev Qra := Int × Int × Int × List Int × Int × List Int × Bool × Bool × Bool × Int × List Int × List Int × List Int × Unit
def QnB (c : Int) : Qra := (c, 0, 0, [], 0, [], false, false, false, 0, [], [], [], ())
def Mc.res (s : Mc) (c g : Int) : Qra := (0, c, g, s.r, s.pc, s.cs, s.ha, s.wa, s.ru, s.dn, s.iq, s.oq, s.m, ())
def acc (c g : Int) : Qra := (0, c, g, [], 0, [], false, false, false, 0, [], [], [], ())
theorem QjC (l : List TwoD) (n : Int) (h0 : 0 ≤ n ∧ n ≤ 500) (s0 : Mc) (h : OkS s0 l) : ∀ (i : Nat) (x : Int × Int × Mc), i ≤ n.toNat → OkS x.2.2 l →
  Qc l_eg_4 lots (((), (), x.1, x.2.1, n, ((i : Nat) : Int), ()), (QnB 0, x.2.2.core l, ()), ()) =
   some (.inl (((), (), (QbM l (n.toNat - i) x.1 x.2.1 x.2.2).1, (QbM l (n.toNat - i) x.1 x.2.1 x.2.2).2.1, ()), (QnB 0, (QbM l (n.toNat - i) x.1 x.2.1 x.2.2).2.2.core l, ()), ())) := by
 have key := QgE (step := l_eg_4) (γ := denO o_eg_4) (fun i (x : Int × Int × Mc) => (((), (), x.1, x.2.1, n, ((i : Nat) : Int), ()), (QnB 0, x.2.2.core l, ()), ())) n.toNat (Qbf (by omega)) (fun _ x => OkS x.2.2 l)
  (fun i x => some (.inl (((), (), (QbM l (n.toNat - i) x.1 x.2.1 x.2.2).1, (QbM l (n.toNat - i) x.1 x.2.1 x.2.2).2.1, ()), (QnB 0, (QbM l (n.toNat - i) x.1 x.2.1 x.2.2).2.2.core l, ()), ()))) ?_
 ·exact key
 ·rintro rec i ⟨c, g, s⟩ hi hok ih
  unfold l_eg_4
  dsimp only at *
  by_cases hlt : i < n.toNat
  ·rw [if_pos (QM.2 (by omega)), QnX hok, Obn]
   have e1 : n.toNat - i = n.toNat - (i + 1) + 1 := by omega
   have ih2 := ih (if 0 ≤ (Qad s l).fall then (Qad s l).fall else c, if 0 ≤ (Qad s l).ring then (Qad s l).ring else g, Qad s l) hlt (Qjj hok)
   dsimp only
   rw [QW (by omega), e1]
   simp only [QbM]
   rw [← ih2]
   unfold Mc.core
   dsimp only
   by_cases hf : 0 ≤ (Qad s l).fall
   ·rw [if_pos (QbH.2 hf), if_pos hf]
    by_cases hg : 0 ≤ (Qad s l).ring
    ·rw [if_pos (QbH.2 hg), if_pos hg]
    ·rw [if_neg (by rw [QbH]; exact hg), if_neg hg]
   ·rw [if_neg (by rw [QbH]; exact hf), if_neg hf]
    by_cases hg : 0 ≤ (Qad s l).ring
    ·rw [if_pos (QbH.2 hg), if_pos hg]
    ·rw [if_neg (by rw [QbH]; exact hg), if_neg hg]
  ·have : i = n.toNat := by omega
   subst this
   rw [if_neg (by rw [QM]; omega), Nat.sub_self]
   rfl
theorem Qod (l : List TwoD) (a b : Int) (s : Mc) : ∀ (k : Nat) (c g : Int), (QbM l k c g { s with ring := a, fall := b }).1 = (QbM l k c g s).1 ∧ (QbM l k c g { s with ring := a, fall := b }).2.1 = (QbM l k c g s).2.1 ∧
  ∀ x y, (QbM l k c g { s with ring := a, fall := b }).2.2.res x y = (QbM l k c g s).2.2.res x y
 | 0, _, _ => ⟨rfl, rfl, fun _ _ => rfl⟩
 | k + 1, _, _ => ⟨rfl, rfl, fun _ _ => rfl⟩
theorem QjE (h : QY) (l : List TwoD) (m : List Int) (n : Int) (hh : QcS 1048576 h) (hm : m.length ≤ 1048576) (ho : OkS (Mc.of h m) l) (hn : 0 ≤ n ∧ n ≤ 500) : F_eg (h, l, m, n, ()) =
  some (((QbM l n.toNat (-1) (-1) (Mc.of h m)).2.2.res (QbM l n.toNat (-1) (-1) (Mc.of h m)).1 (QbM l n.toNat (-1) (-1) (Mc.of h m)).2.1, ()), ()) := by
 have ho2 : OkS { Mc.of h m with ring := 0, fall := 0 } l := ⟨ho.r, ho.pc, ho.c, ho.i, ho.o, ho.d, ho.l⟩
 have key := QjC l n hn _ ho2 0 (-1, -1, { Mc.of h m with ring := 0, fall := 0 }) (by omega) ho2
 obtain ⟨q1, q2, q3⟩ := Qod l 0 0 (Mc.of h m) n.toNat (-1) (-1)
 unfold F_eg
 dsimp only
 rw [Qqp h hh, Obn, Qcc hm, Obn]
 show (Qc l_eg_4 lots (((), (), (-1), (-1), n, (((0 : Nat) : Nat) : Int), ()), (QnB 0, Mc.core { Mc.of h m with ring := 0, fall := 0 } l, ()), ())).bind _ = _
 rw [key, ← q1, ← q2, ← q3]
 rfl
section
variable {l : List TwoD} {s : Mc}
def FR (s : Mc) : Prop := (s.fall = -1 ∨ 0 ≤ s.fall) ∧ (s.ring = -1 ∨ 0 ≤ s.ring)
theorem FR.trap (h : FR s) {cause tval : Int} (hc : 0 ≤ cause) : FR (s.trap cause tval) := ⟨.inr hc, h.2⟩
theorem Qso (k w : Int) : QkF k w = -1 ∨ 0 ≤ QkF k w := by
 unfold QkF; split
 ·exact .inr (Qaj w).1
 ·exact .inl rfl
theorem Quj (h : FR s) (op d a i : Int) : FR (exM s l op d a i).2.2.2 := by
 unfold exM
 let P : Bool × Int × Int × Mc → Prop := fun x => FR x.2.2.2
 refine Qg P (fun _ => h) fun _ => Qg P (fun _ => h) fun _ => Qg P (fun _ => Qg P (fun _ => h.trap (by omega)) fun _ => Qg P (fun _ => h) fun _ => h) fun _ =>
  Qg P (fun _ => Qg P (fun _ => h.trap (by omega)) fun _ => Qg P (fun _ => ⟨h.1, Qso _ _⟩) fun _ => h) fun _ => Qg P (fun _ => h) fun _ => Qg P (fun _ => h) fun _ => Qg P (fun _ => h) fun _ =>
  Qg P (fun _ => h) fun _ => Qg P (fun _ => h) fun _ => Qg P (fun _ => h.trap (by omega)) fun _ => Qg P (fun _ => h) fun _ => Qg P (fun _ => h) fun _ => Qg P (fun _ => h) fun _ => h
theorem Qro (h : FR s) (op d a i : Int) : FR (doM s l op d a i).2 := by
 have he := Quj (l := l) h op d a i
 unfold doM
 dsimp only
 exact Qg (fun x : Bool × Mc => FR x.2) (fun _ => he) fun _ => he
theorem Qpq (h : FR s) : FR (runM s l) := by
 unfold runM
 refine Qg FR (fun _ => h.trap (by omega)) fun _ => Qg FR (fun _ => ?_) fun _ => h.trap (by omega)
 exact Qg FR (fun _ => Qro (l := l) h _ _ _ _) fun _ => Qro h _ _ _ _
theorem Qsv (s : Mc) (l : List TwoD) : FR (Qad s l) := by
 have h0 : FR { s with ring := -1, fall := -1 } := ⟨.inl rfl, .inl rfl⟩
 have h1 : FR { s with ring := -1, fall := -1, wa := false } := ⟨.inl rfl, .inl rfl⟩
 unfold Qad
 refine Qg FR (fun _ => h0) fun _ => Qg FR (fun hk => h0.trap (Int.add_nonneg (by decide) hk)) fun _ => Qg FR (fun _ => Qg FR (fun _ => h0) fun _ => Qpq h1) fun _ => Qpq h0
end
theorem QrX {x : QaU} (h : Qcw x = 0) : OkS (Mc.of x.1 x.2.2.1) x.2.1 := by
 obtain ⟨h1, h2, h3, h4⟩ := Qeo h
 obtain ⟨hl, hp⟩ := Qon (by decide) h2
 refine QtX h1 ⟨hl, fun p hpm => ?_, ?_, by omega⟩
 ·have := hp p hpm
  refine ⟨by omega, this.2, ?_⟩
  rw [h4]; omega
 ·have hm := QfC h3
  unfold QN at h3
  rw [if_pos hm] at h3
  split at h3
  ·exact Qal.1 ‹_›
  ·omega
abbrev SrcD := List Int × Int × Unit
def Sr (s : SrcD) (k : Int) : Prop := Byt s.1 ∧ 0 ≤ s.2.1 ∧ s.2.1 ≤ k
theorem Sr.le {s : SrcD} {k k' : Int} (h : Sr s k) (hk : k ≤ k') : Sr s k' := ⟨h.1, h.2.1, Int.le_trans h.2.2 hk⟩
theorem Sr.pos {s : SrcD} {k : Int} (h : Sr s k) : 0 ≤ k := Int.le_trans h.2.1 h.2.2
def Dr {X : Type} (o : Option X) (P : X → Prop) : Prop := ∃ v, o = some v ∧ P v
theorem Dr.bind {X Y : Type} {o : Option X} {f : X → Option Y} {Q : X → Prop} {P : Y → Prop} (h : Dr o Q) (g : ∀ v, Q v → Dr (f v) P) : Dr (o.bind f) P := by
 obtain ⟨v, rfl, hv⟩ := h
 exact g v hv
theorem Dr.ret {X : Type} {v : X} {P : X → Prop} (h : P v) : Dr (some v) P := ⟨v, rfl, h⟩
theorem Dr.ite {X : Type} {c : Prop} [Decidable c] {a b : Option X} {P : X → Prop} (ha : c → Dr a P) (hb : ¬ c → Dr b P) : Dr (if c then a else b) P := by
 split
 ·exact ha ‹_›
 ·exact hb ‹_›
theorem Dr.guard {X : Type} {c : Prop} [Decidable c] {a : Option X} {P : X → Prop} (hc : c) (ha : Dr a P) : Dr (if c then a else none) P := by rw [if_pos hc]; exact ha
theorem Dr.nguard {X : Type} {c : Prop} [Decidable c] {a : Option X} {P : X → Prop} (hc : ¬ c) (ha : Dr a P) : Dr (if c then none else a) P := by rw [if_neg hc]; exact ha
theorem Dr.get {X Y : Type} {xs : List X} {i : Nat} {f : X → Option Y} {P : Y → Prop} (hi : i < xs.length) (h : ∀ y, y ∈ xs → xs[i]? = some y → Dr (f y) P) : Dr ((xs[i]?).bind f) P := by
 rw [List.getElem?_eq_getElem hi, Obn]
 exact h _ (List.getElem_mem hi) (List.getElem?_eq_getElem hi)
theorem Dr.gat {X Y : Type} {xs : List X} {i : Int} {n : Nat} {f : X → Option Y} {P : Y → Prop} (hn : xs.length = n) (h : 0 ≤ i ∧ i < (n : Int)) (k : ∀ y, y ∈ xs → Dr (f y) P) : Dr (if 0 ≤ i ∧ i < ((xs.length : Nat) : Int) then (xs[i.toNat]?).bind f else none) P := by
 subst hn
 exact Dr.guard h (Dr.get (by omega) fun y hy _ => k y hy)
theorem Dr.of {X : Type} {o : Option X} {v : X} {P : X → Prop} (h : o = some v) (hv : P v) : Dr o P := ⟨v, h, hv⟩
theorem Qap {X Y : Type} {step : (X → Option Y) → X → Option Y} {Q : Y → Prop} (I : Nat → X → Prop) (h : ∀ rec m x, I m x → (∀ m' x', m' < m → I m' x' → Dr (rec x') Q) → Dr (step rec x) Q) (m : Nat) (x : X) (hI : I m x) (hm : m < lots) : Dr (Qc step lots x) Q := by
 have key : ∀ n m x, m < n → I m x → Dr (Qc step n x) Q := by
  intro n
  induction n with
  | zero => intro m x h; omega
  | succ n ih => intro m x hm hI; exact h _ m x hI fun m' x' hlt hI' => ih m' x' (by omega) hI'
 exact key lots m x hm hI
def Bd (n x : Int) : Prop := 0 ≤ x ∧ (x < n ∨ x = 0)
theorem Bd.e {n x : Int} (h : Bd n x) : 0 ≤ x ∧ (x < n ∨ x = 0) := h
def Bt (a b x : Int) : Prop := a ≤ x ∧ x ≤ b
theorem Bt.e {a b x : Int} (h : Bt a b x) : a ≤ x ∧ x ≤ b := h
theorem Qbt {s : SrcD} {k : Int} (h : Sr s k) (hk : k ≤ 1099511627776) (n : Int) : Dr (F_c (s, n, ())) fun r => Sr r.2.1 (k + 1) ∧ Bd n r.1.1 :=
 .of (Qpg (s, n, ()) h.1 ⟨h.2.1, Int.le_trans h.2.2 hk⟩) ⟨⟨h.1, by have := h.2.1; dsimp only; omega, by have := h.2.2; dsimp only; omega⟩, Qus (s, n, ()) h.1 ⟨h.2.1, Int.le_trans h.2.2 hk⟩⟩
theorem Quy {s : SrcD} {k : Int} (h : Sr s k) (hk : k ≤ 1099511627776) (x : Int) (l : List Int) : Dr (F_d (s, x :: l, ())) fun r => Sr r.2.1 (k + 1) ∧ (r.1.1 : Int) ∈ x :: l :=
 .of (Qpm (s, x :: l, ()) rfl h.1 ⟨h.2.1, Int.le_trans h.2.2 hk⟩) ⟨⟨h.1, by have := h.2.1; dsimp only; omega, by have := h.2.2; dsimp only; omega⟩, Quz (s, x :: l, ()) rfl h.1 ⟨h.2.1, Int.le_trans h.2.2 hk⟩⟩
theorem Qtc {s : SrcD} {k : Int} (h : Sr s k) (hk : k ≤ 10000000) (n : Int) (h0 : 0 ≤ n) (hn : n ≤ 1000) : Dr (F_v (s, n, ())) fun r => Sr r.2.1 (k + 26 * n) ∧ (r.1.1.length : Int) = n := by
 obtain ⟨c, a, _⟩ := s
 obtain ⟨hc, h1, h2⟩ := h
 dsimp only at h1 h2
 obtain ⟨m, a', e, l1, l2, l3⟩ := QrB hc n a ⟨h1, by omega⟩ hn
 rw [if_neg (by omega)] at l1 l3
 exact .of e ⟨⟨hc, by dsimp only; omega, by dsimp only; omega⟩, l1⟩
theorem Qnk {c : List Int} (h : Byt c) : Dr (F_b (c, ())) fun r => Sr r.1.1 0 := .of rfl ⟨h, Int.le_refl _, Int.le_refl _⟩
structure HL (h : QY) : Prop where
 r : h.1.length = 16
 c : h.2.2.1.length = 11
 i : h.2.2.2.2.2.2.2.1.length ≤ 2
 o : h.2.2.2.2.2.2.2.2.1.length ≤ 40
structure HB (h : QY) : Prop where
 r : h.1.length ≤ 16
 c : h.2.2.1.length = 11
 i : h.2.2.2.2.2.2.2.1.length ≤ 41
 o : h.2.2.2.2.2.2.2.2.1.length ≤ 40
theorem HL.b {h : QY} (hh : HL h) : HB h := ⟨by rw [hh.r]; omega, hh.c, by have := hh.i; omega, hh.o⟩
theorem HB.le {h : QY} (hh : HB h) : QcS 1048576 h := ⟨by have := hh.r; omega, by rw [hh.c]; omega, by have := hh.i; omega, by have := hh.o; omega⟩
theorem Dr.step {X Y : Type} {o : Option X} {v : X} {f : X → Option Y} {P : Y → Prop} (h : o = some v) (g : Dr (f v) P) : Dr (o.bind f) P := by rw [h]; exact g
theorem Dr.pos {X : Type} {c : Prop} [Decidable c] {a b : Option X} {P : X → Prop} (hc : c) (h : Dr a P) : Dr (if c then a else b) P := by rw [if_pos hc]; exact h
theorem Dr.neg {X : Type} {c : Prop} [Decidable c] {a b : Option X} {P : X → Prop} (hc : ¬ c) (h : Dr b P) : Dr (if c then a else b) P := by rw [if_neg hc]; exact h
theorem Dr.eq {X : Type} {o : Option X} {v : X} (h : Dr o fun r => r = v) : o = some v := by
 obtain ⟨_, e, rfl⟩ := h
 exact e
abbrev Yes (o : Option ((Bool × Unit) × Unit)) : Prop := Dr o fun r => r = ((true, ()), ())
theorem yes {b : Bool} (h : b = true) : Yes (some ((b, ()), ())) := by subst h; exact ⟨_, rfl, rfl⟩
def Mc.hart (s : Mc) : QY := (s.r, s.pc, s.cs, s.ha, s.wa, s.ru, s.dn, s.iq, s.oq, ())
theorem Qrs (s : Mc) (l : List TwoD) (op d a i : Int) : (exM s l op d a i).2.2.2.m.length = s.m.length := by
 unfold exM
 let P : Bool × Int × Int × Mc → Prop := fun x => x.2.2.2.m.length = s.m.length
 exact Qg P (fun _ => rfl) fun _ => Qg P (fun _ => rfl) fun _ => Qg P (fun _ => Qg P (fun _ => rfl) fun _ => Qg P (fun _ => rfl) fun _ => rfl) fun _ =>
  Qg P (fun _ => Qg P (fun _ => rfl) fun _ => Qg P (fun _ => rfl) fun _ => List.length_set) fun _ => Qg P (fun _ => rfl) fun _ => Qg P (fun _ => rfl) fun _ => Qg P (fun _ => rfl) fun _ =>
  Qg P (fun _ => rfl) fun _ => Qg P (fun _ => rfl) fun _ => Qg P (fun _ => rfl) fun _ => Qg P (fun _ => rfl) fun _ => Qg P (fun _ => rfl) fun _ => Qg P (fun _ => rfl) fun _ => rfl
theorem Qml (s : Mc) (l : List TwoD) (op d a i : Int) : (doM s l op d a i).2.m.length = s.m.length := by
 have := Qrs s l op d a i
 unfold doM
 dsimp only
 split <;> exact this
theorem QkI (s : Mc) (l : List TwoD) : (runM s l).m.length = s.m.length := by
 unfold runM
 dsimp only
 split
 ·rfl
 ·split
  ·split
   ·exact Qml s l _ _ _ _
   ·exact Qml s l _ _ _ _
  ·rfl
theorem Qji (s : Mc) (l : List TwoD) : (Qad s l).m.length = s.m.length := by
 unfold Qad
 dsimp only
 split
 ·rfl
 ·split
  ·rfl
  ·split
   ·split
    ·rfl
    ·exact QkI { s with ring := -1, fall := -1, wa := false } l
   ·exact QkI { s with ring := -1, fall := -1 } l
theorem OkS.hartM {s : Mc} {l : List TwoD} (h : OkS s l) : hartM s.hart = 0 := by
 unfold Go.Proofs.YtmoninjbahccoaaGreatDoor.hartM Mc.hart
 dsimp only
 rw [if_pos ⟨h.r.len, h.c.len, h.r.zero⟩, if_pos ⟨Qal.2 h.r.words, QhQ.2 h.pc, Qal.2 h.c.words, Qal.2 h.i.words, Qal.2 h.o.words⟩, if_pos ⟨h.i.len, h.o.len⟩,
  if_pos (QdE.2 h.d), if_pos ⟨h.c.st, h.c.msk, h.c.tb, h.c.pd, h.c.tm⟩]
theorem Qug {c : List Int} (h : ¬ (1048576 : Int) < ((c.length : Nat) : Int)) (hb : ∀ b ∈ c, 0 ≤ b ∧ b ≤ 255) : Byt c := ⟨hb, by omega⟩
theorem Bd.top {n x : Int} (h : Bd (n + 1) x) (hn : 0 ≤ n) : 0 ≤ x ∧ x ≤ n := by unfold Bd at h; omega
section
variable {l : List TwoD} {s s' : Mc}
def MemW (l : List TwoD) (m m' : List Int) : Prop := ∀ i : Nat, m'[i]? ≠ m[i]? → ∃ p ∈ l, p.1 = ((i / 8 : Nat) : Int) ∧ iand .i64 p.2.1 2 ≠ 0
theorem MemW.refl (l : List TwoD) (m : List Int) : MemW l m m := fun i h => absurd rfl h
theorem QqV {l : List TwoD} (hl : l.length = 8) {at_ kind : Int} (h0 : 0 ≤ Qae l at_ kind) : ∃ p ∈ l, p.1 = Qae l at_ kind / 8 ∧ iand .i64 p.2.1 kind ≠ 0 := by
 unfold Qae at *
 split at h0
 ·rename_i h1
  rw [if_pos h1]
  split at h0
  ·rename_i h2
   rw [if_pos h2]
   refine ⟨_, QT (l := l) (k := (at_ / 8).toNat) (d := (-1, 0, ())) (by rw [hl]; omega), by omega, ?_⟩
   simp only [mayP, Bool.and_eq_true, decide_eq_true_eq] at h2
   simpa using h2.2
  ·omega
 ·omega
theorem Qnb {cs : List Int} {m : List Int} {at_ kind : Int} (h0 : (Qt cs l m at_ kind).2 = 0) (h1 : ¬ 1000 ≤ (Qt cs l m at_ kind).1) : ∃ g, (Qt cs l m at_ kind).1 = Qae l g kind ∧ 0 ≤ Qae l g kind := by
 unfold Qt at *
 cases hs : Qcr cs l m with
 | none => rw [hs] at h0; simp at h0
 | some s =>
  rw [hs] at h0 h1
  simp only at h0 h1 ⊢
  split at h0
  ·exact absurd h0 (QcQ kind)
  ·rename_i a1
   rw [if_neg a1] at h1 ⊢
   split at h0
   ·rename_i a2
    rw [if_pos a2] at h1 ⊢
    split at h0
    ·simp at h0
    ·rename_i a3
     rw [if_neg a3] at h1 ⊢
     exfalso
     simp only at h1
     omega
   ·rename_i a2
    rw [if_neg a2] at h1 ⊢
    split at h0
    ·exact absurd h0 (QcQ kind)
    ·rename_i a3
     rw [if_neg a3] at h1 ⊢
     exact ⟨_, rfl, by omega⟩
theorem QsY (hl : l.length = 8) (s : Mc) (op d a i : Int) : MemW l s.m (exM s l op d a i).2.2.2.m := by
 unfold exM
 let P : Bool × Int × Int × Mc → Prop := fun x => MemW l s.m x.2.2.2.m
 have r0 := MemW.refl l s.m
 refine Qg P (fun _ => r0) fun _ => Qg P (fun _ => r0) fun _ => Qg P (fun _ => Qg P (fun _ => r0) fun _ => Qg P (fun _ => r0) fun _ => r0) fun _ =>
  Qg P (fun _ => Qg P (fun _ => r0) fun h2 => Qg P (fun _ => r0) fun h1 => ?_) fun _ => Qg P (fun _ => r0) fun _ => Qg P (fun _ => r0) fun _ => Qg P (fun _ => r0) fun _ =>
  Qg P (fun _ => r0) fun _ => Qg P (fun _ => r0) fun _ => Qg P (fun _ => r0) fun _ => Qg P (fun _ => r0) fun _ => Qg P (fun _ => r0) fun _ => Qg P (fun _ => r0) fun _ => r0
 intro k hk
 obtain ⟨g, e1, e2⟩ := Qnb (by simpa using h2) h1
 obtain ⟨p, hp, q1, q2⟩ := QqV hl e2
 dsimp only at hk
 rw [e1] at hk
 by_cases hkk : (Qae l g 2).toNat = k
 ·subst hkk
  exact ⟨p, hp, by rw [q1]; omega, q2⟩
 ·exact absurd (List.getElem?_set_ne hkk) hk
theorem Qui (s : Mc) (l : List TwoD) (op d a i : Int) : (exM s l op d a i).2.2.2.dn = s.dn ∧ ((exM s l op d a i).1 = true → (exM s l op d a i).2.2.2.fall = s.fall) := by
 unfold exM
 let P : Bool × Int × Int × Mc → Prop := fun x => x.2.2.2.dn = s.dn ∧ (x.1 = true → x.2.2.2.fall = s.fall)
 have r0 : ∀ {x : Bool × Int × Int × Mc}, x.2.2.2.dn = s.dn → x.2.2.2.fall = s.fall → P x := fun h1 h2 => ⟨h1, fun _ => h2⟩
 have r1 : ∀ {c t : Int}, P (false, 0, 0, s.trap c t) := ⟨rfl, fun h => by cases h⟩
 exact Qg P (fun _ => r0 rfl rfl) fun _ => Qg P (fun _ => r0 rfl rfl) fun _ => Qg P (fun _ => Qg P (fun _ => r1) fun _ => Qg P (fun _ => r0 rfl rfl) fun _ => r0 rfl rfl) fun _ =>
  Qg P (fun _ => Qg P (fun _ => r1) fun h2 => Qg P (fun _ => r0 rfl rfl) fun h1 => r0 rfl rfl) fun _ => Qg P (fun _ => r0 rfl rfl) fun _ => Qg P (fun _ => r0 rfl rfl) fun _ => Qg P (fun _ => r0 rfl rfl) fun _ =>
  Qg P (fun _ => r0 rfl rfl) fun _ => Qg P (fun _ => r0 rfl rfl) fun _ => Qg P (fun _ => r1) fun _ => Qg P (fun _ => r0 rfl rfl) fun _ => Qg P (fun _ => r0 rfl rfl) fun _ => Qg P (fun _ => r0 rfl rfl) fun _ => r0 rfl rfl
structure StepP (l : List TwoD) (s s' : Mc) : Prop where
 mem : MemW l s.m s'.m
 dn : s.dn ≤ s'.dn ∧ s'.dn ≤ s.dn + 1
 fl : 0 ≤ s'.fall → s'.dn = s.dn
theorem QuO (hl : l.length = 8) (s : Mc) (op d a i : Int) : MemW l s.m (doM s l op d a i).2.m ∧ (doM s l op d a i).2.dn = s.dn ∧ ((doM s l op d a i).1 = true → (doM s l op d a i).2.fall = s.fall) := by
 have h1 := QsY hl s op d a i
 have h2 := Qui s l op d a i
 unfold doM
 dsimp only
 split
 ·rename_i h
  exact ⟨h1, h2.1, fun _ => h2.2 h⟩
 ·exact ⟨h1, h2.1, fun h => by cases h⟩
theorem QuD (hl : l.length = 8) (s : Mc) (hf : s.fall = -1) (hd : s.dn ≤ 1000000000) : StepP l s (runM s l) := by
 have r1 : ∀ {c t : Int}, StepP l s (s.trap c t) := ⟨MemW.refl l s.m, ⟨Int.le_refl _, by show s.dn ≤ s.dn + 1; omega⟩, fun _ => rfl⟩
 unfold runM
 refine Qg (StepP l s) (fun _ => r1) fun _ => Qg (StepP l s) (fun _ => ?_) fun _ => r1
 generalize (decM (s.m.getD (Qt s.cs l s.m s.pc 4).1.toNat 0)) = x
 obtain ⟨h1, h2, h3⟩ := QuO hl s x.1 x.2.1 x.2.2.1 x.2.2.2.1
 refine Qg (StepP l s) (fun ht => ?_) fun _ => ⟨h1, by omega, fun _ => h2⟩
 refine ⟨h1, ?_, fun h => ?_⟩
 ·unfold QfD
  dsimp only
  rw [h2]
  split <;> omega
 ·exfalso
  have : (QfD (doM s l x.1 x.2.1 x.2.2.1 x.2.2.2.1).2).fall = -1 := by rw [← hf]; exact h3 ht
  omega
theorem QtE (hl : l.length = 8) (s : Mc) (hd : s.dn ≤ 1000000000) : StepP l s (Qad s l) ∧ (s.ha = true → (Qad s l).pc = s.pc) := by
 have r0 : StepP l s { s with ring := -1, fall := -1 } := ⟨MemW.refl l s.m, ⟨Int.le_refl _, by show s.dn ≤ s.dn + 1; omega⟩, fun _ => rfl⟩
 have r1 : ∀ {c t : Int}, StepP l s (Mc.trap { s with ring := -1, fall := -1 } c t) := ⟨MemW.refl l s.m, ⟨Int.le_refl _, by show s.dn ≤ s.dn + 1; omega⟩, fun _ => rfl⟩
 have ra : ∀ b, StepP l s (runM { s with ring := -1, fall := -1, wa := b } l) := fun b => by
  obtain ⟨h1, h2, h3⟩ := QuD hl { s with ring := -1, fall := -1, wa := b } rfl hd
  exact ⟨h1, h2, h3⟩
 unfold Qad
 refine Qg (fun x => StepP l s x ∧ (s.ha = true → x.pc = s.pc)) (fun _ => ⟨r0, fun _ => rfl⟩) fun h => ⟨?_, fun h' => absurd h' h⟩
 exact Qg (StepP l s) (fun _ => r1) fun _ => Qg (StepP l s) (fun _ => Qg (StepP l s) (fun _ => r0) fun _ => ra false) fun _ => ra s.wa
end
def noPg : TwoD := (-1, 0, ())
def Qcn : List TwoD := [noPg, noPg, noPg, noPg, noPg, noPg, noPg, noPg]
def Qck : Nat → List Int → List TwoD → List TwoD
 | _, [], l => l
 | k, p :: r, l => Qck (k + 1) r (l.set k (p, 7, ()))
def Qdq (g : Int) (x : QA) (l : List TwoD) : List TwoD :=
 let l1 := if x.1 = g then l.set x.2.2.2.1.toNat (x.2.2.1, 3, ()) else l
 if x.2.1 = g then l1.set x.2.2.2.2.1.toNat (x.2.2.1, 1, ()) else l1
def QaO (g : Int) : List QA → List TwoD → List TwoD
 | [], l => l
 | x :: r, l => QaO g r (Qdq g x l)
def pgM (p : PolD) (g : Int) : List TwoD := QaO g p.2.1 (Qck 0 (p.1.getD g.toNat []) Qcn)
theorem Qfl : ∀ (r : List Int) (k : Nat) (l : List TwoD), (Qck k r l).length = l.length
 | [], _, _ => rfl
 | p :: r, k, l => by rw [Qck, Qfl r]; simp
theorem Qbx (g : Int) (x : QA) (l : List TwoD) : (Qdq g x l).length = l.length := by
 unfold Qdq
 dsimp only
 repeat' split
 all_goals simp
theorem QiF (g : Int) : ∀ (r : List QA) (l : List TwoD), (QaO g r l).length = l.length
 | [], _ => rfl
 | x :: r, l => by rw [QaO, QiF g r, Qbx]
theorem Qem (p : PolD) (g : Int) : (pgM p g).length = 8 := by unfold pgM; rw [QiF, Qfl]; rfl
theorem Qkx {P : TwoD → Prop} : ∀ (r : List Int) (k : Nat) (l : List TwoD), (∀ x ∈ r, P (x, 7, ())) → (∀ q ∈ l, P q) → ∀ q ∈ Qck k r l, P q
 | [], _, _, _, h => h
 | p :: r, k, l, h1, h => Qkx r (k + 1) _ (fun x hx => h1 x (List.mem_cons_of_mem _ hx)) fun q hq => by
  rcases List.mem_or_eq_of_mem_set hq with hq | rfl
  ·exact h q hq
  ·exact h1 p (by simp)
theorem Qqt {P : TwoD → Prop} {g : Int} {x : QA} {l : List TwoD} (h1 : P (x.2.2.1, 3, ())) (h2 : P (x.2.2.1, 1, ())) (h : ∀ q ∈ l, P q) : ∀ q ∈ Qdq g x l, P q := by
 have s : ∀ {l : List TwoD} {k : Nat} {y : TwoD}, P y → (∀ q ∈ l, P q) → ∀ q ∈ l.set k y, P q := fun hy h q hq => by
  rcases List.mem_or_eq_of_mem_set hq with hq | rfl
  ·exact h q hq
  ·exact hy
 unfold Qdq
 dsimp only
 split
 ·split
  ·exact s h2 (s h1 h)
  ·exact s h2 h
 ·split
  ·exact s h1 h
  ·exact h
theorem QiE {P : TwoD → Prop} {g : Int} : ∀ (r : List QA) (l : List TwoD), (∀ x ∈ r, P (x.2.2.1, 3, ()) ∧ P (x.2.2.1, 1, ())) → (∀ q ∈ l, P q) → ∀ q ∈ QaO g r l, P q
 | [], _, _, h => h
 | x :: r, l, h1, h => QiE r _ (fun y hy => h1 y (List.mem_cons_of_mem _ hy)) (Qqt (h1 x (by simp)).1 (h1 x (by simp)).2 h)
theorem Qdw {p : PolD} {g : Int} (hok : OkPol p) (hg : isG p g = true) : p.1.getD g.toNat [] ∈ p.1 := by
 have := Qaz.1 hg
 exact QT (by omega)
theorem Qoo {p : PolD} {g : Int} (hok : OkPol p) (hg : isG p g = true) : ∀ q ∈ pgM p g, (-1 ≤ q.1 ∧ q.1 ≤ 23) ∧ 0 ≤ q.2.1 ∧ q.2.1 ≤ 7 := by
 refine QiE (P := fun q => (-1 ≤ q.1 ∧ q.1 ≤ 23) ∧ 0 ≤ q.2.1 ∧ q.2.1 ≤ 7) _ _ (fun x hx => ?_) (Qkx _ _ _ (fun x hx => ?_) ?_)
 ·have := (Qcq hok x hx).2.1
  dsimp only
  omega
 ·have := (hok.own1 _ (Qdw hok hg)).2.2 x hx
  dsimp only
  omega
 ·intro q hq
  simp only [Qcn, List.mem_cons, List.not_mem_nil, or_false, or_self] at hq
  subst hq
  unfold noPg
  decide
theorem Qom {r : List Int} {k i : Nat} {l : List TwoD} (h : i < r.length) : Qck (k + i) (r.drop i) l = Qck (k + (i + 1)) (r.drop (i + 1)) (l.set (k + i) (r[i], 7, ())) := by
 rw [List.drop_eq_getElem_cons h, Qck]
 rfl
theorem QmP {g : Int} {r : List QA} {i : Nat} {l : List TwoD} (h : i < r.length) : QaO g (r.drop i) l = QaO g (r.drop (i + 1)) (Qdq g r[i] l) := by
 rw [List.drop_eq_getElem_cons h, QaO]
theorem QqI : F_cx ([noPg], 8, ()) = some ((Qcn, ()), ()) := by kernel_rfl
theorem QmD {p : PolD} {g : Int} (hok : OkPol p) (hg : isG p g = true) : F_cy (p, g, ()) = some ((pgM p g, ()), ()) := by
 have hgi := Qaz.1 hg
 have hi : g.toNat < p.1.length := by omega
 have hown := hok.own1 _ (Qdw hok hg)
 have hlane := Qcq hok
 have hll := hok.lanes.1
 refine Dr.eq ?_
 unfold F_cy
 refine Dr.step rfl (Dr.step QqI (Dr.guard hgi.1 ?_))
 have e1 : p.1[g.toNat]? = some (p.1.getD g.toNat []) := by rw [List.getD_eq_getElem?_getD, List.getElem?_eq_getElem hi]; rfl
 refine Dr.step e1 ?_
 have k1 : Dr (L_cy_3 ((p, (g, (Qcn, (p.1.getD g.toNat [], ((((p.1.getD g.toNat []).length : Nat) : Int), ((0 : Int), ())))))), ((), ()))) fun o => o = .inl ((p, (g, (Qck 0 (p.1.getD g.toNat []) Qcn, ()))), ((), ())) := by
  generalize p.1.getD g.toNat [] = w at *
  refine Qap (fun n u => ∃ (i : Nat) (l : List TwoD), u = ((p, (g, (l, (w, (((w.length : Nat) : Int), ((i : Int), ())))))), ((), ())) ∧ n = w.length - i ∧ i ≤ w.length ∧ l.length = 8 ∧ Qck (0 + i) (w.drop i) l = Qck 0 w Qcn) ?_ _ _ ⟨0, Qcn, rfl, rfl, Nat.zero_le _, rfl, rfl⟩ (by rw [QK]; omega)
  rintro rec n _ ⟨i, l, rfl, hn, hin, hl, he⟩ ih
  unfold l_cy_3
  dsimp only
  by_cases hlt : i < w.length
  case neg =>
   rw [if_neg (lt_f hlt)]
   rw [List.drop_of_length_le (by omega)] at he
   exact Dr.ret (by rw [← he]; rfl)
  rw [if_pos (lt_t hlt), if_pos nat0, Qr hlt, QW (by omega)]
  refine Dr.gat hl (by omega) fun _ _ => ih (n - 1) _ (by omega) ⟨i + 1, _, rfl, by omega, by omega, by simpa using hl, ?_⟩
  rw [← he, Qom hlt, Int.toNat_natCast]
  simp only [Nat.zero_add]
 refine k1.bind fun o ho => ?_
 subst ho
 dsimp only
 have k2 : Dr (L_cy_8 ((g, (Qck 0 (p.1.getD g.toNat []) Qcn, (p.2.1, (((p.2.1.length : Nat) : Int), ((0 : Int), ()))))), ((), ()))) fun o => o = .inl ((pgM p g, ()), ((), ())) := by
  refine Qap (fun n u => ∃ (i : Nat) (l : List TwoD), u = ((g, (l, (p.2.1, (((p.2.1.length : Nat) : Int), ((i : Int), ()))))), ((), ())) ∧ n = p.2.1.length - i ∧ i ≤ p.2.1.length ∧ l.length = 8 ∧ QaO g (p.2.1.drop i) l = pgM p g) ?_ _ _ ⟨0, _, rfl, rfl, Nat.zero_le _, by rw [Qfl]; rfl, rfl⟩ (by rw [QK]; omega)
  rintro rec n _ ⟨i, l, rfl, hn, hin, hl, he⟩ ih
  unfold l_cy_8
  dsimp only
  by_cases hlt : i < p.2.1.length
  case neg =>
   rw [if_neg (lt_f hlt)]
   rw [List.drop_of_length_le (by omega)] at he
   exact Dr.ret (by rw [← he]; rfl)
  rw [if_pos (lt_t hlt), if_pos nat0, Qr hlt, QW (by omega)]
  have hla := hlane _ (List.getElem_mem hlt)
  rw [QmP hlt] at he
  have hl1 := Qbx g p.2.1[i] l
  have fin : ∀ l', l' = Qdq g p.2.1[i] l → Dr (rec ((g, (l', (p.2.1, (((p.2.1.length : Nat) : Int), (((i + 1 : Nat) : Int), ()))))), ((), ()))) fun o => o = .inl ((pgM p g, ()), ((), ())) := fun l' e => by
   subst e
   exact ih (n - 1) _ (by omega) ⟨i + 1, _, rfl, by omega, by omega, by rw [hl1]; exact hl, he⟩
  generalize p.2.1[i] = x at *
  by_cases h1 : x.1 = g
  ·rw [if_pos (by simpa using h1)]
   refine Dr.gat hl (by omega) fun _ _ => ?_
   by_cases h2 : x.2.1 = g
   ·rw [if_pos (by simpa using h2)]
    refine Dr.gat (n := 8) (by simpa using hl) (by omega) fun _ _ => fin _ ?_
    unfold Qdq
    dsimp only
    rw [if_pos h1, if_pos h2]
   ·rw [if_neg (by simpa using h2)]
    refine fin _ ?_
    unfold Qdq
    dsimp only
    rw [if_pos h1, if_neg h2]
  ·rw [if_neg (by simpa using h1)]
   by_cases h2 : x.2.1 = g
   ·rw [if_pos (by simpa using h2)]
    refine Dr.gat hl (by omega) fun _ _ => fin _ ?_
    unfold Qdq
    dsimp only
    rw [if_neg h1, if_pos h2]
   ·rw [if_neg (by simpa using h2)]
    refine fin _ ?_
    unfold Qdq
    dsimp only
    rw [if_neg h1, if_neg h2]
 refine k2.bind fun o ho => ?_
 subst ho
 exact Dr.ret rfl
theorem Qfs {α : Type} {l : List α} {i : Nat} (h : i < l.length) : l.take (i + 1) = l.take i ++ [l[i]] := by rw [List.take_add_one, List.getElem?_eq_getElem h]; rfl
def QcO (l : List TwoD) : List TwoD := l.mapIdx fun k p => if 0 ≤ p.1 then ((k : Int), p.2) else p
theorem QfS (l : List TwoD) : (QcO l).length = l.length := by unfold QcO; simp
theorem QpH {l : List TwoD} {i : Nat} (h : i < l.length) : (QcO l)[i]'(by rw [QfS]; exact h) = if 0 ≤ l[i].1 then ((i : Int), l[i].2) else l[i] := by
 unfold QcO
 rw [List.getElem_mapIdx]
def QhH (s : List Int) (k : Nat) (ws : List Int) : List Int := s.take (8 * k) ++ (ws ++ s.drop (8 * k + 8))
theorem Qhn {s ws : List Int} {k : Nat} (hs : s.length = 64) (hk : k < 8) (hw : ws.length = 8) : (QhH s k ws).length = 64 := by unfold QhH; simp; omega
theorem Qtt {m : List Int} {p : Int} (h : 0 ≤ p ∧ 8 * p + 8 ≤ (m.length : Int)) : (pg m p).length = 8 := by unfold pg; simp; omega
theorem QhL (s : TwoD) (r : List TwoD) : QJ (-1) (s :: r) = s.2.1 + QJ (-1) r := by
 simp only [QJ]
 rw [if_pos (.inl (by decide))]
theorem Qpz {s : TwoD} {r : List TwoD} {k : Nat} {a : Int} (h : s.2.1 ≤ a) : Qw k (s :: r) a = Qw (k + 1) r (a - s.2.1) := by simp only [Qw]; rw [if_pos h]
theorem Qns {s : TwoD} {r : List TwoD} {k : Nat} {a : Int} (h : ¬ s.2.1 ≤ a) : Qw k (s :: r) a = (k, a, s.2.1 - a) := by simp only [Qw]; rw [if_neg h]
theorem QlN : ∀ {m : List TwoD} {k : Nat} {a : Int}, (∀ s ∈ m, 1 ≤ s.2.1 ∧ s.2.1 ≤ 50) → 0 ≤ a → a + 1 < QJ (-1) m →
  Qw k m (a + 1) = if (Qw k m a).2.2 = 1 then ((Qw k m a).1 + 1, 0, (m.getD ((Qw k m a).1 + 1 - k) (0, 0, ())).2.1) else ((Qw k m a).1, (Qw k m a).2.1 + 1, (Qw k m a).2.2 - 1)
 | [], k, a, _, h0, h1 => by simp [QJ] at h1; omega
 | s :: r, k, a, hs, h0, h1 => by
  rw [QhL] at h1
  have hr : ∀ s ∈ r, 1 ≤ s.2.1 ∧ s.2.1 ≤ 50 := fun q hq => hs q (List.mem_cons_of_mem _ hq)
  by_cases h : s.2.1 ≤ a
  ·rw [Qpz h, Qpz (by omega)]
   have e : a + 1 - s.2.1 = (a - s.2.1) + 1 := by omega
   rw [e, QlN hr (by omega) (by omega)]
   obtain ⟨g0, _⟩ := Qbm (m := r) (k := k + 1) (a := a - s.2.1) hr (by omega) (by omega)
   have e2 : (Qw (k + 1) r (a - s.2.1)).1 + 1 - k = ((Qw (k + 1) r (a - s.2.1)).1 + 1 - (k + 1)) + 1 := by omega
   rw [e2, List.getD_cons_succ]
  ·rw [Qns h]
   have hs1 := hs s (by simp)
   by_cases h2 : s.2.1 ≤ a + 1
   ·rw [Qpz h2, if_pos (by simp only; omega)]
    have e : a + 1 - s.2.1 = 0 := by omega
    rw [e]
    cases r with
    | nil => simp [QJ] at h1; omega
    | cons q r =>
     have := hr q (by simp)
     rw [Qns (by omega)]
     have e3 : k + 1 - k = 1 := by omega
     rw [e3]
     simp
   ·rw [Qns h2, if_neg (by simp only; omega)]
    simp only
    congr 2
    omega
theorem Qpy : ∀ {m : List TwoD} {k : Nat} {a : Int}, (∀ s ∈ m, 1 ≤ s.2.1 ∧ s.2.1 ≤ 50) → 0 ≤ a → a + 1 = QJ (-1) m → (Qw k m a).1 + 1 = k + m.length ∧ (Qw k m a).2.2 = 1
 | [], k, a, _, h0, h1 => by simp [QJ] at h1; omega
 | s :: r, k, a, hs, h0, h1 => by
  rw [QhL] at h1
  have hr : ∀ s ∈ r, 1 ≤ s.2.1 ∧ s.2.1 ≤ 50 := fun q hq => hs q (List.mem_cons_of_mem _ hq)
  by_cases h : s.2.1 ≤ a
  ·rw [Qpz h]
   have := Qpy (k := k + 1) hr (a := a - s.2.1) (by omega) (by omega)
   simp only [List.length_cons]
   omega
  ·rw [Qns h]
   have hp := (QdV (g := -1) hr).1
   cases r with
   | nil =>
    have h0 : QJ (-1) ([] : List TwoD) = 0 := rfl
    rw [h0] at h1
    show k + 1 = k + (0 + 1) ∧ s.2.1 - a = 1
    omega
   | cons q r =>
    have := Qep hr (by simp)
    omega
theorem Qnr {m : List TwoD} (hs : ∀ s ∈ m, 1 ≤ s.2.1 ∧ s.2.1 ≤ 50) (hl : 1 ≤ m.length) : Qw 0 m 0 = (0, 0, (m.getD 0 (0, 0, ())).2.1) := by
 cases m with
 | nil => simp at hl
 | cons s r =>
  have := hs s (by simp)
  rw [Qns (by omega)]
  simp
def QfF (plan : List TwoD) (slot left : Int) : Int × Int :=
 if left - 1 = 0 then ((slot + 1) % (plan.length : Int), (plan.getD ((slot + 1) % (plan.length : Int)).toNat (0, 0, ())).2.1) else (slot, left - 1)
theorem QdT {p : PolD} (hok : OkPol p) : ∀ s ∈ p.2.2.2.1, 1 ≤ s.2.1 ∧ s.2.1 ≤ 50 := fun s hs => (hok.slots s hs).2
theorem QtI {p : PolD} (hok : OkPol p) (c : Int) : (0 ≤ (Qbj p c).1 ∧ (Qbj p c).1 < (p.2.2.2.1.length : Int)) ∧ 1 ≤ (Qbj p c).2 ∧ (Qbj p c).2 ≤ 50 := by
 have hR := Qep (QdT hok) hok.plan.1
 obtain ⟨h1, s, h2, h3, h4, h5⟩ := Qbm (m := p.2.2.2.1) (k := 0) (a := c % QJ (-1) p.2.2.2.1) (QdT hok) (Int.emod_nonneg _ (by omega)) (Int.emod_lt_of_pos _ (by omega))
 rw [Nat.sub_zero] at h2
 have h6 := (List.getElem?_eq_some_iff.1 h2).1
 have h7 := QdT hok s (List.mem_of_getElem? h2)
 unfold Qbj
 dsimp only
 omega
theorem QkQ {p : PolD} (hok : OkPol p) {c : Int} (h0 : 0 ≤ c) : Qbj p (c + 1) = QfF p.2.2.2.1 (Qbj p c).1 (Qbj p c).2 := by
 have hR := Qep (QdT hok) hok.plan.1
 have hs := QdT hok
 have hlen := hok.plan.1
 unfold Qbj QfF
 dsimp only
 generalize p.2.2.2.1 = m at *
 generalize hRR : QJ (-1) m = R at *
 have a0 := Int.emod_nonneg c (b := R) (by omega)
 have a1 := Int.emod_lt_of_pos c (b := R) (by omega)
 have hadd : (c + 1) % R = if c % R + 1 = R then 0 else c % R + 1 := by
  rw [Int.add_emod]
  by_cases hR1 : R = 1
  ·subst hR1
   simp
  ·rw [Int.emod_eq_of_lt (a := 1) (by omega) (by omega)]
   split
   ·rename_i e; rw [e]; exact Int.emod_self
   ·exact Int.emod_eq_of_lt (by omega) (by omega)
 rw [hadd]
 generalize c % R = a at *
 by_cases hl : a + 1 = R
 ·rw [if_pos hl, Qnr hs hlen]
  obtain ⟨e1, e2⟩ := Qpy (k := 0) hs a0 (by rw [hRR]; exact hl)
  rw [if_pos (by rw [e2]; decide)]
  have e3 : ((Qw 0 m a).1 : Int) + 1 = (m.length : Int) := by omega
  rw [e3, Int.emod_self]
  rfl
 ·rw [if_neg hl, QlN hs a0 (by rw [hRR]; omega)]
  obtain ⟨_, s, h2, h3, h4, h5⟩ := Qbm (m := m) (k := 0) (a := a) hs a0 (by rw [hRR]; exact a1)
  rw [Nat.sub_zero] at h2
  have h6 := (List.getElem?_eq_some_iff.1 h2).1
  by_cases h1 : (Qw 0 m a).2.2 = 1
  ·rw [if_pos h1, if_pos (by omega)]
   have hlt : (Qw 0 m a).1 + 1 < m.length := by
    have key := QlN (k := 0) hs a0 (by rw [hRR]; omega : a + 1 < QJ (-1) m)
    rw [if_pos h1] at key
    obtain ⟨_, s', h2', _⟩ := Qbm (m := m) (k := 0) (a := a + 1) hs (by omega) (by rw [hRR]; omega)
    rw [key, Nat.sub_zero] at h2'
    exact (List.getElem?_eq_some_iff.1 h2').1
   have e4 : (((Qw 0 m a).1 : Int) + 1) % (m.length : Int) = (((Qw 0 m a).1 + 1 : Nat) : Int) := by rw [Int.emod_eq_of_lt (by omega) (by omega)]; omega
   rw [e4, Int.toNat_natCast, Nat.sub_zero]
  ·rw [if_neg h1, if_neg (by omega)]
structure HK (x : Qx) : Prop where
 pol : polM x.1 = 0
 mem : QN x.2.1 = 0 ∧ x.2.1.length = 192
 len : x.2.2.1.length = x.1.1.length
 harts : ∀ h ∈ x.2.2.1, hartM h = 0
 clock : 0 ≤ x.2.2.2.2.2.1 ∧ x.2.2.2.2.2.1 ≤ 1000000
 slot : x.2.2.2.1 = (Qbj x.1 x.2.2.2.2.2.1).1
 left : x.2.2.2.2.1 = (Qbj x.1 x.2.2.2.2.2.1).2
theorem HK.ok {x : Qx} (h : HK x) : OkPol x.1 := QdM h.pol
theorem Qhw : ∀ {m : List QY}, Qiv m = none ↔ ∀ h ∈ m, hartM h = 0 := by
 have key : ∀ {m : List QY} {i : Nat}, scan (fun (_ : Nat) h => nz (hartM h)) i m = none ↔ ∀ h ∈ m, hartM h = 0 := by
  intro m
  induction m with
  | nil => intro i; simp [scan]
  | cons y r ih =>
   intro i
   simp only [scan]
   by_cases hy : hartM y = 0
   ·have : nz (hartM y) = none := by unfold nz; rw [if_neg (by simpa using hy)]
    rw [this]
    simp only
    rw [ih]
    simp [hy]
   ·have : nz (hartM y) = some (hartM y) := by unfold nz; rw [if_pos hy]
    rw [this]
    simp [hy]
 intro m
 unfold Qiv
 exact key
theorem HK.of {x : Qx} (h : QaM x = 0) : HK x := by
 have hp := Qgz h
 unfold QaM at h
 rw [if_neg (by simpa using hp)] at h
 split at h
 ·rename_i g
  cases hh : Qiv x.2.2.1 with
  | some c =>
   rw [hh] at h
   have : c ≠ 0 := by
    have : ∀ {m : List QY} {i : Nat} {c : Int}, scan (fun (_ : Nat) h => nz (hartM h)) i m = some c → c ≠ 0 := by
     intro m
     induction m with
     | nil => intro i c h; simp [scan] at h
     | cons y r ih =>
      intro i c h
      simp only [scan] at h
      split at h
      ·rename_i c' hc'
       obtain rfl := Osj h
       unfold nz at hc'
       split at hc'
       ·obtain rfl := Osj hc'; assumption
       ·cases hc'
      ·exact ih h
    exact this hh
   exact absurd h this
  | none =>
   rw [hh] at h
   simp only at h
   split at h
   ·rename_i hc
    split at h
    ·rename_i hs
     exact ⟨hp, g.1, g.2, Qhw.1 hh, QdE.1 hc, hs.1, hs.2⟩
    ·cases h
   ·cases h
 ·cases h
theorem HK.to {x : Qx} (h : HK x) : QaM x = 0 := by
 unfold QaM
 rw [if_neg (by simpa using h.pol), if_pos ⟨h.mem, h.len⟩, Qhw.2 h.harts]
 simp only
 rw [if_pos (QdE.2 h.clock), if_pos ⟨h.slot, h.left⟩]
theorem Qmy {h : QY} (hh : hartM h = 0) : QcS 1048576 h := by
 unfold hartM at hh
 split at hh
 ·rename_i c1
  split at hh
  ·split at hh
   ·rename_i c3
    exact ⟨by omega, by omega, by omega, by omega⟩
   ·cases hh
  ·cases hh
 ·cases hh
theorem Qfm {p : PolD} (h : OkPol p) : Qnc 1048576 p := by
 have h1 := h.own; have h2 := h.lanes.1; have h3 := h.bells.1; have h4 := h.plan.2
 exact ⟨⟨by omega, fun l hl => by have := (h.own1 l hl).2.1; omega⟩, by omega, by omega, by omega⟩
theorem HK.le {x : Qx} (h : HK x) : Qhe 1048576 x := by
 have h1 := h.mem.2; have h2 := h.len; have h3 := h.ok.own
 exact ⟨Qfm h.ok, by omega, by omega, fun y hy => Qmy (h.harts y hy)⟩
abbrev QlW := List (List Int) × List QA × List TwoD × List TwoD × List Int × List QY × Int × Int × Int × Unit
def boxH (x : Qx) : QlW := (x.1.1, x.1.2.1, x.1.2.2.1, x.1.2.2.2.1, x.2.1, x.2.2.1, x.2.2.2.1, x.2.2.2.2.1, x.2.2.2.2.2.1, ())
def Qps (h : QY) : QY := (h.1, h.2.1, h.2.2.1, h.2.2.2.1, h.2.2.2.2.1, true, h.2.2.2.2.2.2)
def QdR (k : Int) (hs : List QY) : List QY := hs.set k.toNat (Qps (hs.getD k.toNat Qag))
def turnG (x : Qx) : Int := (x.1.2.2.2.1.getD x.2.2.2.1.toNat (0, 0, ())).1
def QV (x : Qx) : Mc := Qad (Mc.of (x.2.2.1.getD (turnG x).toNat Qag) x.2.1) (pgM x.1 (turnG x))
def QQ (x : Qx) : List QY := x.2.2.1.set (turnG x).toNat (QV x).hart
def Qcv (x : Qx) : Bool := x.1.2.2.1.any (Qde (turnG x, (QV x).ring, ()))
def QbD (x : Qx) : Qx :=
 (x.1, (QV x).m, (if Qcv x = true then QdR (QV x).ring (QQ x) else QQ x), (QfF x.1.2.2.2.1 x.2.2.2.1 x.2.2.2.2.1).1, (QfF x.1.2.2.2.1 x.2.2.2.1 x.2.2.2.2.1).2, x.2.2.2.2.2.1 + 1, ())
theorem QrV {p : PolD} (hok : OkPol p) : ∀ b ∈ p.2.2.1, isG p b.1 = true ∧ isG p b.2.1 = true ∧ b.1 ≠ b.2.1 := by
 intro b hb
 obtain ⟨i, e⟩ := QaS hok.bells.2 b hb
 have e := Qlz e
 unfold Qht at e
 split at e
 ·rename_i h; exact absurd e h
 ·rename_i h0
  have h0 : Qcu p b.1 b.2.1 = 0 := by simpa using h0
  unfold Qcu at h0
  split at h0
  ·split at h0
   ·split at h0
    ·cases h0
    ·exact ⟨‹_›, ‹_›, ‹_›⟩
   ·cases h0
  ·cases h0
theorem HK.turn {x : Qx} (h : HK x) : (0 ≤ x.2.2.2.1 ∧ x.2.2.2.1 < (x.1.2.2.2.1.length : Int)) ∧ (1 ≤ x.2.2.2.2.1 ∧ x.2.2.2.2.1 ≤ 50) ∧ isG x.1 (turnG x) = true ∧ x.1.2.2.2.1[x.2.2.2.1.toNat]? = some (x.1.2.2.2.1.getD x.2.2.2.1.toNat (0, 0, ())) := by
 have ht := QtI h.ok x.2.2.2.2.2.1
 rw [← h.slot, ← h.left] at ht
 have hlt : x.2.2.2.1.toNat < x.1.2.2.2.1.length := by omega
 refine ⟨ht.1, ht.2, (h.ok.slots _ (QT (d := (0, 0, ())) hlt)).1, ?_⟩
 rw [List.getD_eq_getElem?_getD, List.getElem?_eq_getElem hlt]
 rfl
theorem HK.guest {x : Qx} (h : HK x) {g : Int} (hg : isG x.1 g = true) : (0 ≤ g ∧ g < (x.2.2.1.length : Int)) ∧ x.2.2.1[g.toNat]? = some (x.2.2.1.getD g.toNat Qag) ∧ hartM (x.2.2.1.getD g.toNat Qag) = 0 := by
 have hgi := Qaz.1 hg
 have hl := h.len
 have hlt : g.toNat < x.2.2.1.length := by omega
 refine ⟨by omega, ?_, h.harts _ (QT hlt)⟩
 rw [List.getD_eq_getElem?_getD, List.getElem?_eq_getElem hlt]
 rfl
theorem HK.okL {x : Qx} (h : HK x) {g : Int} (hg : isG x.1 g = true) : OkL (pgM x.1 g) x.2.1 := by
 have hm := h.mem
 have hw : allW x.2.1 = true := by
  have h1 := h.mem.1
  unfold QN at h1
  rw [if_pos (QfC h.mem.1)] at h1
  split at h1
  ·assumption
  ·cases h1
 refine ⟨Qem _ _, fun q hq => ?_, Qal.1 hw, by omega⟩
 have := Qoo h.ok hg q hq
 omega
theorem HK.okS {x : Qx} (h : HK x) : OkS (Mc.of (x.2.2.1.getD (turnG x).toNat Qag) x.2.1) (pgM x.1 (turnG x)) := QtX (h.guest h.turn.2.2.1).2.2 (h.okL h.turn.2.2.1)
theorem HK.okT {x : Qx} (h : HK x) : OkS (QV x) (pgM x.1 (turnG x)) := Qjj h.okS
theorem Qou {h : QY} (hh : hartM h = 0) : hartM (Qps h) = 0 := hh
theorem QlJ {x : Qx} (h : HK x) (hr : Qcv x = true) : isG x.1 (QV x).ring = true := by
 unfold Qcv at hr
 obtain ⟨b, hb, e⟩ := List.any_eq_true.1 hr
 unfold Qde at e
 simp only [Bool.and_true, Bool.and_eq_true, beq_iff_eq] at e
 rw [e.2]
 exact (QrV h.ok b hb).2.1
theorem QbS (x : Qx) : (QQ x).length = x.2.2.1.length := by unfold QQ; simp
theorem QeH {x : Qx} (h : HK x) : ∀ y ∈ QQ x, hartM y = 0 := by
 intro y hy
 unfold QQ at hy
 rcases List.mem_or_eq_of_mem_set hy with hy | rfl
 ·exact h.harts y hy
 ·exact h.okT.hartM
theorem Qjk {x : Qx} (h : HK x) : (QV x).m.length = 192 := by unfold QV; rw [Qji]; exact h.mem.2
theorem HK.next {x : Qx} (h : HK x) (hc : x.2.2.2.2.2.1 < 1000000) : HK (QbD x) := by
 have hl := h.okT.l
 refine ⟨h.pol, ⟨?_, Qjk h⟩, ?_, ?_, ?_, ?_, ?_⟩
 ·show QN (QV x).m = 0
  unfold QN
  rw [Qjk h, if_pos (by decide), if_pos (Qal.2 hl.words)]
 ·show (if Qcv x = true then QdR (QV x).ring (QQ x) else QQ x).length = _
  split
  ·unfold QdR; rw [List.length_set, QbS]; exact h.len
  ·rw [QbS]; exact h.len
 ·show ∀ y ∈ (if Qcv x = true then QdR (QV x).ring (QQ x) else QQ x), hartM y = 0
  split
  ·rename_i hr
   have hg := Qaz.1 (QlJ h hr)
   intro y hy
   unfold QdR at hy
   rcases List.mem_or_eq_of_mem_set hy with hy | rfl
   ·exact QeH h y hy
   ·exact Qou (QeH h _ (QT (by rw [QbS, h.len]; omega)))
  ·exact QeH h
 ·have := h.clock
  show 0 ≤ x.2.2.2.2.2.1 + 1 ∧ x.2.2.2.2.2.1 + 1 ≤ 1000000
  omega
 ·show (QfF x.1.2.2.2.1 x.2.2.2.1 x.2.2.2.2.1).1 = (Qbj x.1 (x.2.2.2.2.2.1 + 1)).1
  rw [QkQ h.ok h.clock.1, ← h.slot, ← h.left]
 ·show (QfF x.1.2.2.2.1 x.2.2.2.1 x.2.2.2.2.1).2 = (Qbj x.1 (x.2.2.2.2.2.1 + 1)).2
  rw [QkQ h.ok h.clock.1, ← h.slot, ← h.left]
theorem Dr.gatE {X Y : Type} {xs : List X} {i : Int} {n : Nat} {f : X → Option Y} {P : Y → Prop} (hn : xs.length = n) (h : 0 ≤ i ∧ i < (n : Int)) (k : ∀ y, xs[i.toNat]? = some y → Dr (f y) P) : Dr (if 0 ≤ i ∧ i < ((xs.length : Nat) : Int) then (xs[i.toNat]?).bind f else none) P := by
 subst hn
 exact Dr.guard h (Dr.get (by omega) fun y _ hy => k y hy)
theorem QiB {h : QY} {l : List TwoD} {m : List Int} (hh : QcS 1048576 h) (hm : m.length ≤ 1048576) (ho : OkS (Mc.of h m) l) : F_eg (h, l, m, 1, ()) = some (((Qad (Mc.of h m) l).res (Qad (Mc.of h m) l).fall (Qad (Mc.of h m) l).ring, ()), ()) := by
 rw [QjE h l m 1 hh hm ho (by decide), show (1 : Int).toNat = 1 from rfl]
 simp only [QbM]
 obtain ⟨h1, h2⟩ := Qsv (Mc.of h m) l
 have e1 : (if 0 ≤ (Qad (Mc.of h m) l).fall then (Qad (Mc.of h m) l).fall else -1) = (Qad (Mc.of h m) l).fall := by split <;> omega
 have e2 : (if 0 ≤ (Qad (Mc.of h m) l).ring then (Qad (Mc.of h m) l).ring else -1) = (Qad (Mc.of h m) l).ring := by split <;> omega
 rw [e1, e2]
theorem QhB {x : Qx} (h : HK x) (hc : x.2.2.2.2.2.1 < 1000000) : F_eh (boxH x, ()) = some ((), (boxH (QbD x), ())) := by
 obtain ⟨h1, h2, h3, h4⟩ := h.turn
 obtain ⟨g1, g2, g3⟩ := h.guest h3
 have hS := h.okS
 have hm := h.mem.2
 have hrang := QlJ h
 have hcl := h.clock
 have hle := Qmy g3
 have hpl := h.ok.plan
 have hturn : F_ct (x, ()) = some ((turnG x, ()), ()) := by
  refine Dr.eq ?_
  unfold F_ct
  exact Dr.guard h1.1 (Dr.step h4 (Dr.ret rfl))
 have hst : F_eg (x.2.2.1.getD (turnG x).toNat Qag, pgM x.1 (turnG x), x.2.1, 1, ()) = some (((QV x).res (QV x).fall (QV x).ring, ()), ()) := QiB hle (by omega) hS
 refine Dr.eq ?_
 unfold F_eh
 refine Dr.step hturn (Dr.guard g1 (Dr.step g2 (Dr.step (QmD h.ok h3) (Dr.step hst ?_))))
 refine Dr.guard g1 (Dr.step g2 ?_)
 refine Dr.step (Qex (turnG x, (QV x).ring, ()) x.1.2.2.1 (by have := h.ok.bells.1; omega)) ?_
 have e1 : IntKind.i64.wrap (x.2.2.2.2.2.1 + 1) = x.2.2.2.2.2.1 + 1 := Qu (by omega) (by omega)
 have e2 : IntKind.i64.wrap (x.2.2.2.2.1 - 1) = x.2.2.2.2.1 - 1 := Qu (by omega) (by omega)
 have e3 : IntKind.i64.wrap (x.2.2.2.1 + 1) = x.2.2.2.1 + 1 := Qu (by omega) (by omega)
 have hpos : 0 < (x.1.2.2.2.1.length : Int) := by omega
 have hmod : (x.2.2.2.1 + 1).tmod ((x.1.2.2.2.1.length : Nat) : Int) = (x.2.2.2.1 + 1) % (x.1.2.2.2.1.length : Int) := Int.tmod_eq_emod_of_nonneg (by omega)
 have m0 := Int.emod_nonneg (x.2.2.2.1 + 1) (b := (x.1.2.2.2.1.length : Int)) (by omega)
 have m1 := Int.emod_lt_of_pos (x.2.2.2.1 + 1) (b := (x.1.2.2.2.1.length : Int)) hpos
 have hmi : ((x.2.2.2.1 + 1) % (x.1.2.2.2.1.length : Int)).toNat < x.1.2.2.2.1.length := by omega
 have hd : x.1.2.2.2.1[((x.2.2.2.1 + 1) % (x.1.2.2.2.1.length : Int)).toNat]? = some (x.1.2.2.2.1.getD ((x.2.2.2.1 + 1) % (x.1.2.2.2.1.length : Int)).toNat (0, 0, ())) := by
  rw [List.getD_eq_getElem?_getD, List.getElem?_eq_getElem hmi]; rfl
 have fin : ∀ hs : List QY, hs = (if Qcv x = true then QdR (QV x).ring (QQ x) else QQ x) →
   (∀ (a : Int), a = x.2.2.2.2.1 - 1 → Dr (if (a == (0 : Int)) = true then (if ((x.1.2.2.2.1.length : Nat) : Int) = 0 then none else if 0 ≤ (x.2.2.2.1 + 1).tmod ((x.1.2.2.2.1.length : Nat) : Int) then (x.1.2.2.2.1[((x.2.2.2.1 + 1).tmod ((x.1.2.2.2.1.length : Nat) : Int)).toNat]?).bind fun y => some ((), ((x.1.1, x.1.2.1, x.1.2.2.1, x.1.2.2.2.1, (QV x).m, hs, (x.2.2.2.1 + 1).tmod ((x.1.2.2.2.1.length : Nat) : Int), y.2.1, x.2.2.2.2.2.1 + 1, ()), ())) else none)
    else some ((), ((x.1.1, x.1.2.1, x.1.2.2.1, x.1.2.2.2.1, (QV x).m, hs, x.2.2.2.1, a, x.2.2.2.2.2.1 + 1, ()), ()))) fun r => r = ((), (boxH (QbD x), ()))) := by
  rintro hs rfl a rfl
  rw [hmod]
  by_cases hz : x.2.2.2.2.1 - 1 = 0
  ·refine Dr.pos (by simpa using hz) (Dr.nguard (by omega) (Dr.guard m0 (Dr.step hd (Dr.ret ?_))))
   unfold boxH QbD QfF
   dsimp only
   rw [if_pos hz]
  ·refine Dr.neg (by simpa using hz) (Dr.ret ?_)
   unfold boxH QbD QfF
   dsimp only
   rw [if_neg hz]
 by_cases hin : Qcv x = true
 ·refine Dr.pos hin ?_
  have hg := Qaz.1 (hrang hin)
  refine Dr.gatE (n := (QQ x).length) rfl (by rw [QbS, h.len]; exact hg) fun z hz => ?_
  have hz' : (QQ x)[(QV x).ring.toNat]? = some z := hz
  have ez : QdR (QV x).ring (QQ x) = (QQ x).set (QV x).ring.toNat (Qps z) := by
   unfold QdR
   rw [List.getD_eq_getElem?_getD, hz']
   rfl
  have q := fin ((QQ x).set (QV x).ring.toNat (Qps z)) (by rw [if_pos hin, ez]) (IntKind.i64.wrap (x.2.2.2.2.1 - 1)) e2
  rw [← e1, ← e3] at q
  exact q
 ·refine Dr.neg hin ?_
  have q := fin (QQ x) (by rw [if_neg hin]) (IntKind.i64.wrap (x.2.2.2.2.1 - 1)) e2
  rw [← e1, ← e3] at q
  exact q
theorem QeW {X : Type} {xs : List X} {i : Nat} (h : i < xs.length) : xs.set i xs[i] = xs := by
 apply List.ext_getElem (by simp)
 intro j h1 h2
 rw [List.getElem_set]
 split
 ·rename_i e; subst e; rfl
 ·rfl
theorem QfB {p : PolD} (hok : OkPol p) : F_az (p, ()) = some (((p.1, p.2.1, p.2.2.1, p.2.2.2.1, ()), ()), ()) := by
 have hle := Qfm hok
 have ho := hok.own
 have hb := hok.bells.1
 have hp := hok.plan.2
 have hl := hok.lanes.1
 refine Dr.eq ?_
 unfold F_az F_au
 dsimp only
 rw [if_pos (by simp; omega), Obn]
 have k1 : Dr (L_az_3 (((), ((), (((p.1.length : Nat) : Int), ((0 : Int), ())))), (((p.1, (p.2.1, (p.2.2.1, (p.2.2.2.1, ())))), (([], ([], ([], ([], ())))), ())), ()))) fun o => o = .inl (((), ((), ())), (((p.1, (p.2.1, (p.2.2.1, (p.2.2.2.1, ())))), (([], ([], ([], ([], ())))), ())), ())) := by
  refine Qap (fun n u => ∃ i : Nat, u = (((), ((), (((p.1.length : Nat) : Int), ((i : Int), ())))), (((p.1, (p.2.1, (p.2.2.1, (p.2.2.2.1, ())))), (([], ([], ([], ([], ())))), ())), ())) ∧ n = p.1.length - i ∧ i ≤ p.1.length) ?_ _ _ ⟨0, rfl, rfl, Nat.zero_le _⟩ (by rw [QK]; omega)
  rintro rec n _ ⟨i, rfl, hn, hi⟩ ih
  unfold l_az_3
  dsimp only
  by_cases hlt : i < p.1.length
  case neg =>
   rw [if_neg (lt_f hlt)]
   exact Dr.ret rfl
  have hy := (hok.own1 _ (List.getElem_mem hlt)).2.1
  rw [if_pos (lt_t hlt), if_pos ⟨nat0, Int.ofNat_lt.2 hlt⟩, Qr hlt, QW (by omega), Qcc (by omega), Obn, if_pos ⟨nat0, Int.ofNat_lt.2 hlt⟩, Qr hlt, Int.toNat_natCast]
  dsimp only
  rw [QeW hlt]
  exact ih (n - 1) _ (by omega) ⟨i + 1, rfl, by omega, by omega⟩
 refine k1.bind fun o h => ?_
 subst h
 unfold F_aw F_ax F_ay
 dsimp only
 rw [if_pos (by simp; omega), Obn, if_pos (by simp; omega), Obn, if_pos (by simp; omega), Obn]
 exact Dr.ret rfl
theorem Qhx {x : Qx} (h : HK x) : F_cm (x, ()) = some ((boxH x, ()), ()) := by
 have hle := h.le
 have hm := h.mem.2
 have hh := hle.2.2.1
 refine Dr.eq ?_
 unfold F_cm
 refine Dr.step (QfB h.ok) (.step (Qcc (q := x.2.1) (by omega)) ?_)
 unfold F_ck
 dsimp only
 rw [if_pos (by simp; omega), Obn]
 have k1 : Dr (L_cm_5 (((), ((), (((x.2.2.1.length : Nat) : Int), ((0 : Int), ())))), ((boxH x, (([], ([], ([], ([], ([], ([], ((0 : Int), ((0 : Int), ((0 : Int), ()))))))))), ())), ()))) fun o => o = .inl (((), ((), ())), ((boxH x, (([], ([], ([], ([], ([], ([], ((0 : Int), ((0 : Int), ((0 : Int), ()))))))))), ())), ())) := by
  refine Qap (fun n u => ∃ i : Nat, u = (((), ((), (((x.2.2.1.length : Nat) : Int), ((i : Int), ())))), ((boxH x, (([], ([], ([], ([], ([], ([], ((0 : Int), ((0 : Int), ((0 : Int), ()))))))))), ())), ())) ∧ n = x.2.2.1.length - i ∧ i ≤ x.2.2.1.length) ?_ _ _ ⟨0, rfl, rfl, Nat.zero_le _⟩ (by rw [QK]; omega)
  rintro rec n _ ⟨i, rfl, hn, hi⟩ ih
  unfold l_cm_5 boxH
  dsimp only
  by_cases hlt : i < x.2.2.1.length
  case neg =>
   rw [if_neg (lt_f hlt)]
   exact Dr.ret rfl
  rw [if_pos (lt_t hlt), if_pos ⟨nat0, Int.ofNat_lt.2 hlt⟩, Qr hlt, QW (by omega), Qiu _ (hle.2.2.2 _ (List.getElem_mem hlt)), Obn, if_pos ⟨nat0, Int.ofNat_lt.2 hlt⟩, Qr hlt, Int.toNat_natCast]
  dsimp only
  rw [QeW hlt]
  exact ih (n - 1) _ (by omega) ⟨i + 1, rfl, by omega, by omega⟩
 refine k1.bind fun o h => ?_
 subst h
 exact Dr.ret rfl
abbrev Qgp := List Int × Int × List Int × Bool × Bool × Bool × Int × List Int × List Int × List Int × List Int × Unit
def QbN (x : Qx) (g : Int) : Qgp := (Qjv 0 (x.2.2.1.getD g.toNat Qag) (Qaf x.2.1 (x.1.1.getD g.toNat [])) (Qaf x.2.1 (Qaw g true x.1.2.1))).2
def vD (r : Qgp) : QtQ := ((r.1, r.2.1, r.2.2.1, r.2.2.2.1, r.2.2.2.2.1, r.2.2.2.2.2.1, r.2.2.2.2.2.2.1, r.2.2.2.2.2.2.2.1, r.2.2.2.2.2.2.2.2.1, ()), r.2.2.2.2.2.2.2.2.2.1, r.2.2.2.2.2.2.2.2.2.2.1, ())
theorem QsF {x : Qx} {g : Int} (h : HK x) (hg : isG x.1 g = true) : QpE x g = (0, QbN x g) := by
 unfold QpE QbN
 rw [if_neg (by simpa using h.to), if_pos hg]
 rfl
theorem QhC {x : Qx} {g : Int} (hk : HK x) (hg : isG x.1 g = true) : F_cp (x, g, ()) = some ((QbN x g, ()), ()) := by
 obtain ⟨⟨g0, e1, e2⟩, a1, ⟨a2, a3⟩, a4⟩ := Qmx hk.le hk.to hg
 have hok := hk.ok
 have hm := hk.mem.2
 have hll := hok.lanes.1
 unfold QbN
 unfold F_cp
 dsimp only
 rw [if_pos g0, e1, Obn, Qiu _ a1, Obn, if_pos g0, e2, Obn, Qlx _ _ (by omega) a3 (by omega), Obn]
 generalize x.2.2.1.getD g.toNat Qag = h at *
 generalize Qaf x.2.1 (x.1.1.getD g.toNat []) = ow at *
 dsimp only
 have key := QgE (step := l_cp_3) (γ := denO o_cp_3)
  (fun k (out : List Int) => ((x, g, (), (), x.1.2.1, ((x.1.2.1.length : Nat) : Int), ((k : Nat) : Int), ()), (([], 0, [], false, false, false, 0, [], [], [], [], ()), (h.1, h.2.1, h.2.2.1, h.2.2.2.1, h.2.2.2.2.1, h.2.2.2.2.2.1, h.2.2.2.2.2.2.1, h.2.2.2.2.2.2.2.1, h.2.2.2.2.2.2.2.2.1, ow, out, ()), ()), ()))
  x.1.2.1.length (Qbf (by omega)) (fun k out => out.length ≤ 8 * k)
  (fun k out => some (.inl (((), (), ()), (([], 0, [], false, false, false, 0, [], [], [], [], ()), (h.1, h.2.1, h.2.2.1, h.2.2.2.1, h.2.2.2.2.1, h.2.2.2.2.2.1, h.2.2.2.2.2.2.1, h.2.2.2.2.2.2.2.1, h.2.2.2.2.2.2.2.2.1, ow, out ++ Qaf x.2.1 (Qaw g true (x.1.2.1.drop k)), ()), ()), ()))) ?_ 0 [] (by omega) (by simp)
 ·have e0 : ((0 : Nat) : Int) = 0 := rfl
  rw [e0, List.drop_zero, List.nil_append] at key
  show (Qc l_cp_3 lots _).bind _ = _
  rw [key, Obn]
  rfl
 ·rintro rec k out hk' ho ih
  unfold l_cp_3
  dsimp only
  by_cases hlt : k < x.1.2.1.length
  ·have hln := (Qcq hok _ (List.getElem_mem hlt)).2.1
   rw [if_pos (lt_t hlt), if_pos nat0, Qr hlt, Qba hlt, Qaw, QW (by omega)]
   by_cases hq : (x.1.2.1[k]).1 = g
   ·rw [if_pos (by simpa using hq), if_pos hq, Qhz x.2.1 _ (by omega) (by omega), Obn]
    dsimp only
    have := QlF x.2.1 (x.1.2.1[k]).2.2.1
    rw [if_pos (by omega), ih _ hlt (by rw [List.length_append]; omega), List.append_assoc]
    rfl
   ·rw [if_neg (by simpa using hq), if_neg hq]
    exact ih _ hlt (by omega)
  ·rw [if_neg (lt_f hlt), Qce hlt]
   simp only [Qaw, Qaf, List.flatMap_nil, List.append_nil]
def Qja (v w : Qgp) : Bool := match F_cs (vD v, vD w, ()) with
 | some r => r.1.1
 | none => false
end Go.Proofs.YtmoninjbahccoaaGreatDoor
