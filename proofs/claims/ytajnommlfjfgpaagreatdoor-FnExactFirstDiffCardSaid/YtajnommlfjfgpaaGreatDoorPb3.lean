/- Plain laws: what the functions compute, and that both programs compute the same. -/
import Derived.Test.YtajnommlfjfgpaaGreatDoorPb2
namespace Go.Proofs.YtajnommlfjfgpaaGreatDoor
open Go Go.RowKit S Go.Proofs
set_option maxRecDepth 100000
set_option linter.unusedVariables false
set_option linter.unusedSimpArgs false
section
variable {l : List TwoD} {s : Mc}
theorem QqO (h : OkS s l) {op d a i : Int} (hi : OkI op d a i) {e : Bool × Int × Int × Mc} (he : exM s l op d a i = e) :
  ∃ nx : Int, (e.1 = true → nx = e.2.2.1 ∨ wrD op = false) ∧
  L_bz_100000 (((), ((), (s.pc, (addW s.pc 1, (addW s.pc (off i), (s.r.getD d.toNat 0, (s.r.getD a.toNat 0, (addW (s.r.getD a.toNat 0) (off i), ((0 : Int), (op, (op, ()))))))))))), (((op, (d, (a, (i, ())))), (s.core l, ())), ())) =
  some (if e.1 = true then .inl (((), ((), (e.2.1, (nx, ())))), (((op, (d, (a, (i, ())))), (e.2.2.2.core l, ())), ())) else .inr (.inl ((false, ()), ((e.2.2.2.core l, ()), ())))) := by
 have hld := fun h14 => Qnc h (op := op) (d := d) (a := a) (i := i) h14 he
 have hst := fun h15 => QlL h (op := op) (d := d) (a := a) (i := i) h15 he
 have hd := hi.hd
 have ha' := hi.ha
 unfold L_bz_100000
 dsimp only at *
 by_cases h12 : op = 12
 ·subst h12
  rw [show exM s l 12 d a i = (true, addW s.pc 1, addW (s.r.getD a.toNat 0) (off i), s) from rfl] at he
  subst he
  exact ⟨_, fun _ => .inl rfl, by rw [if_pos (by decide)]; rfl⟩
 rw [if_neg (by simpa using h12)]
 by_cases h13 : op = 13
 ·subst h13
  rw [show exM s l 13 d a i = (true, addW s.pc 1, i * 65536, s) from rfl] at he
  subst he
  exact ⟨_, fun _ => .inl rfl, by rw [if_pos (by decide), QqM hi.hi]; rfl⟩
 rw [if_neg (by simpa using h13)]
 by_cases h14 : op = 14
 ·subst h14
  have hn : e.1 = true → e.2.1 = addW s.pc 1 := by
   rw [← he]; unfold exM; dsimp only
   rw [if_neg (by decide), if_neg (by decide), if_pos rfl]
   repeat' split
   all_goals simp
  refine ⟨e.2.2.1, fun _ => .inl rfl, ?_⟩
  rw [if_pos (by decide), hld rfl, Option.bind_some]
  obtain ⟨b, nx, rs, s1⟩ := e
  cases b
  ·simp
  ·simp only at hn
   simp [hn]
 rw [if_neg (by simpa using h14)]
 by_cases h15 : op = 15
 ·subst h15
  have hn : e.1 = true → e.2.1 = addW s.pc 1 := by
   rw [← he]; unfold exM; dsimp only
   rw [if_neg (by decide), if_neg (by decide), if_neg (by decide), if_pos rfl]
   repeat' split
   all_goals simp
  refine ⟨0, fun _ => .inr rfl, ?_⟩
  rw [if_pos (by decide), hst rfl, Option.bind_some]
  obtain ⟨b, nx, rs, s1⟩ := e
  cases b
  ·simp
  ·simp only at hn
   simp [hn]
 rw [if_neg (by simpa using h15)]
 clear hld hst
 obtain ⟨r, pc, cs, ha, wa, ru, dn, iq, oq, m, ring, fall⟩ := s
 obtain ⟨hr, hpc, hc, hiq, hoq, hdn, hl⟩ := h
 have hex : exM ⟨r, pc, cs, ha, wa, ru, dn, iq, oq, m, ring, fall⟩ l op d a i =
   (if op = 16 ∨ op = 17 ∨ op = 18 then (true, if Qda op (r.getD d.toNat 0) (r.getD a.toNat 0) = true then addW pc (off i) else addW pc 1, 0, ⟨r, pc, cs, ha, wa, ru, dn, iq, oq, m, ring, fall⟩)
   else if op = 19 then (true, addW pc (off i), addW pc 1, ⟨r, pc, cs, ha, wa, ru, dn, iq, oq, m, ring, fall⟩)
   else if op = 20 then (true, addW (r.getD a.toNat 0) (off i), addW pc 1, ⟨r, pc, cs, ha, wa, ru, dn, iq, oq, m, ring, fall⟩)
   else if op = 21 then (true, addW pc 1, getM cs ru dn iq i, ⟨r, pc, cs, ha, wa, ru, dn, iq, oq, m, ring, fall⟩)
   else if op = 22 then (true, addW pc 1, 0, ⟨r, pc, setC cs i (r.getD a.toNat 0), ha, wa, setR ru i (r.getD a.toNat 0), dn, iq, oq, m, ring, fall⟩)
   else if op = 23 then (false, 0, 0, ⟨r, cs.getD 1 0, Qfn cs pc 5 0, ha, false, ru, dn, iq, oq, m, ring, 5⟩)
   else if op = 24 then (true, cs.getD 2 0, 0, ⟨r, cs.getD 2 0, QhB cs, ha, wa, ru, dn, iq, oq, m, ring, fall⟩)
   else if op = 25 then (true, addW pc 1, 0, ⟨r, pc, cs, ha, true, ru, dn, iq, oq, m, ring, fall⟩)
   else if op = 26 then (true, pc, 0, ⟨r, pc, cs, true, wa, ru, dn, iq, oq, m, ring, fall⟩)
   else (true, addW pc 1, aluW op (r.getD a.toNat 0) (r.getD i.toNat 0), ⟨r, pc, cs, ha, wa, ru, dn, iq, oq, m, ring, fall⟩)) := by
  unfold exM Mc.trap
  dsimp only
  rw [if_neg h12, if_neg h13, if_neg h14, if_neg h15]
 unfold Mc.core
 dsimp only at *
 by_cases h16 : op = 16
 ·subst h16
  rw [if_pos (.inl rfl)] at hex
  rw [hex] at he
  subst he
  refine ⟨0, fun _ => .inr rfl, ?_⟩
  rw [if_pos (by decide), if_pos (by decide)]
  generalize r.getD d.toNat 0 = x
  generalize r.getD a.toNat 0 = y
  unfold Qda
  by_cases hxy : x = y <;> simp [hxy]
 rw [if_neg (by simpa using h16)]
 by_cases h17 : op = 17
 ·subst h17
  rw [if_pos (.inr (.inl rfl))] at hex
  rw [hex] at he
  subst he
  refine ⟨0, fun _ => .inr rfl, ?_⟩
  rw [if_pos (by decide), if_neg (by decide), if_pos (by decide)]
  generalize r.getD d.toNat 0 = x
  generalize r.getD a.toNat 0 = y
  unfold Qda
  by_cases hxy : x = y <;> simp [hxy]
 rw [if_neg (by simpa using h17)]
 by_cases h18 : op = 18
 ·subst h18
  rw [if_pos (.inr (.inr rfl))] at hex
  rw [hex] at he
  subst he
  refine ⟨0, fun _ => .inr rfl, ?_⟩
  rw [if_pos (by decide), if_neg (by decide), if_neg (by decide), if_pos (by decide), QdP, Option.bind_some, QdP, Option.bind_some]
  generalize r.getD d.toNat 0 = x
  generalize r.getD a.toNat 0 = y
  unfold Qda
  by_cases hxy : sg x < sg y <;> simp [hxy, QP]
 rw [if_neg (by simpa using h18)]
 rw [if_neg (c := op = 16 ∨ op = 17 ∨ op = 18) (by omega)] at hex
 by_cases h19 : op = 19
 ·subst h19
  rw [if_pos rfl] at hex
  rw [hex] at he
  subst he
  exact ⟨_, fun _ => .inl rfl, by rw [if_pos (by decide)]; rfl⟩
 rw [if_neg (by simpa using h19)]
 rw [if_neg h19] at hex
 by_cases h20 : op = 20
 ·subst h20
  rw [if_pos rfl] at hex
  rw [hex] at he
  subst he
  exact ⟨_, fun _ => .inl rfl, by rw [if_pos (by decide)]; rfl⟩
 rw [if_neg (by simpa using h20)]
 rw [if_neg h20] at hex
 by_cases h21 : op = 21
 ·subst h21
  rw [if_pos rfl] at hex
  rw [hex] at he
  subst he
  have hi10 := hi.i21 (.inl rfl)
  have hi0 := hi.hi
  exact ⟨_, fun _ => .inl rfl, by rw [if_pos (by decide), Qpx hc ⟨hi0.1, hi10⟩, Option.bind_some]; rfl⟩
 rw [if_neg (by simpa using h21)]
 rw [if_neg h21] at hex
 by_cases h22 : op = 22
 ·subst h22
  rw [if_pos rfl] at hex
  rw [hex] at he
  subst he
  have hi10 := hi.i21 (.inr rfl)
  have hi0 := hi.hi
  exact ⟨0, fun _ => .inr rfl, by rw [if_pos (by decide), QgA hc ⟨hi0.1, hi10⟩, Option.bind_some]; rfl⟩
 rw [if_neg (by simpa using h22)]
 rw [if_neg h22] at hex
 by_cases h23 : op = 23
 ·subst h23
  rw [if_pos rfl] at hex
  rw [hex] at he
  subst he
  exact ⟨0, fun _ => .inr rfl, by rw [if_pos (by decide), QbW hc, Option.bind_some]; rfl⟩
 rw [if_neg (by simpa using h23)]
 rw [if_neg h23] at hex
 by_cases h24 : op = 24
 ·subst h24
  rw [if_pos rfl] at hex
  rw [hex] at he
  subst he
  exact ⟨0, fun _ => .inr rfl, by rw [if_pos (by decide), QmY hc, Option.bind_some]; rfl⟩
 rw [if_neg (by simpa using h24)]
 rw [if_neg h24] at hex
 by_cases h25 : op = 25
 ·subst h25
  rw [if_pos rfl] at hex
  rw [hex] at he
  subst he
  exact ⟨0, fun _ => .inr rfl, by rw [if_pos (by decide)]; rfl⟩
 rw [if_neg (by simpa using h25)]
 rw [if_neg h25] at hex
 by_cases h26 : op = 26
 ·subst h26
  rw [if_pos rfl] at hex
  rw [hex] at he
  subst he
  exact ⟨0, fun _ => .inr rfl, by rw [if_pos (by decide)]; rfl⟩
 rw [if_neg (by simpa using h26)]
 rw [if_neg h26] at hex
 have h1 := hi.hop
 have h11 : op ≤ 11 := by omega
 have hi15 := hi.i11 h11
 have hi0 := hi.hi
 have hii : 0 ≤ i ∧ i < ((r.length : Nat) : Int) := by rw [hr.len]; omega
 have hiN : i.toNat < r.length := by rw [hr.len]; omega
 rw [hex] at he
 subst he
 refine ⟨_, fun _ => .inl rfl, ?_⟩
 rw [if_pos hii, Qn 0 hiN, Qps op _ _ (hr.w (by omega)) (hr.w (by omega)) ⟨h1.1, h11⟩, Option.bind_some]
 rfl
def QjF (s : Mc) : Mc := { s with dn := if 1000000000 < s.dn + 1 then 1000000000 else s.dn + 1 }
theorem QqP (op : Int) : F_by (op, ()) = some ((wrD op, ()), ()) := by
 unfold F_by wrD
 dsimp only
 rw [QaW, Option.bind_some, QaW, Option.bind_some]
 dsimp only
 by_cases h1 : 1 ≤ op ∧ op ≤ 14
 ·rw [if_neg (by simp [h1]), decide_eq_true (.inl h1)]
 ·rw [if_pos (by simp; omega)]
  by_cases h2 : 19 ≤ op ∧ op ≤ 21
  ·rw [decide_eq_true (p := (1 ≤ op ∧ op ≤ 14) ∨ (19 ≤ op ∧ op ≤ 21)) (.inr h2)]; simp [h2]
  ·rw [decide_eq_false (p := (1 ≤ op ∧ op ≤ 14) ∨ (19 ≤ op ∧ op ≤ 21)) (by omega)]; simp; omega
theorem Qr {α : Type} (P : α → Prop) {c : Prop} [Decidable c] {a b : α} (h1 : c → P a) (h2 : ¬ c → P b) : P (if c then a else b) := by
 by_cases h : c
 ·rw [if_pos h]; exact h1 h
 ·rw [if_neg h]; exact h2 h
theorem Qst (s : Mc) (l : List TwoD) (op d a i : Int) : (exM s l op d a i).2.2.2.r = s.r ∧ (exM s l op d a i).2.2.2.dn = s.dn := by
 unfold exM Mc.trap
 let P : Bool × Int × Int × Mc → Prop := fun x => x.2.2.2.r = s.r ∧ x.2.2.2.dn = s.dn
 refine Qr P (fun _ => ⟨rfl, rfl⟩) fun _ => Qr P (fun _ => ⟨rfl, rfl⟩) fun _ => Qr P (fun _ => Qr P (fun _ => ⟨rfl, rfl⟩) fun _ => Qr P (fun _ => ⟨rfl, rfl⟩) fun _ => ⟨rfl, rfl⟩) fun _ =>
  Qr P (fun _ => Qr P (fun _ => ⟨rfl, rfl⟩) fun _ => Qr P (fun _ => ⟨rfl, rfl⟩) fun _ => ⟨rfl, rfl⟩) fun _ => Qr P (fun _ => ⟨rfl, rfl⟩) fun _ => Qr P (fun _ => ⟨rfl, rfl⟩) fun _ => Qr P (fun _ => ⟨rfl, rfl⟩) fun _ =>
  Qr P (fun _ => ⟨rfl, rfl⟩) fun _ => Qr P (fun _ => ⟨rfl, rfl⟩) fun _ => Qr P (fun _ => ⟨rfl, rfl⟩) fun _ => Qr P (fun _ => ⟨rfl, rfl⟩) fun _ => Qr P (fun _ => ⟨rfl, rfl⟩) fun _ => Qr P (fun _ => ⟨rfl, rfl⟩) fun _ => ⟨rfl, rfl⟩
theorem QqN (h : OkS s l) {op d a i : Int} (hi : OkI op d a i) {e : Bool × Mc} (he : doM s l op d a i = e) : F_bz (s.core l, (op, d, a, i, ()), ()) =
  some ((e.1, ()), ((if e.1 = true then (QjF e.2).core l else e.2.core l), ())) := by
 have hd := hi.hd
 have ha' := hi.ha
 have hr := h.r
 obtain ⟨nx, hnx, hL⟩ := QqO h hi rfl
 have hrr := Qst s l op d a i
 unfold F_bz
 dsimp only
 have e1 : (s.core l).2.1 = s.pc := rfl
 have e2 : (s.core l).1 = s.r := rfl
 rw [e1, e2, QeH, Option.bind_some]
 dsimp only
 rw [QpA, Option.bind_some]
 dsimp only
 rw [QeH, Option.bind_some]
 dsimp only
 have hid : 0 ≤ d ∧ d < ((s.r.length : Nat) : Int) := by rw [hr.len]; omega
 have hia : 0 ≤ a ∧ a < ((s.r.length : Nat) : Int) := by rw [hr.len]; omega
 rw [if_pos hid, Qn 0 (by rw [hr.len]; omega), if_pos hia, Qn 0 (by rw [hr.len]; omega), Option.bind_some]
 dsimp only
 rw [QeH, Option.bind_some]
 dsimp only
 rw [hL, Option.bind_some]
 unfold doM at he
 dsimp only at he
 generalize exM s l op d a i = x at *
 obtain ⟨b, nxt, rs, s1⟩ := x
 cases b
 ·subst he; rfl
 ·simp only [if_true] at he ⊢
  subst he
  simp only at hrr hnx
  have hdn := h.d
  have hw : IntKind.i64.wrap (s1.dn + 1) = s1.dn + 1 := Qt (by rw [hrr.2]; omega) (by rw [hrr.2]; omega)
  unfold Mc.core QjF
  dsimp only
  rw [QqP, Option.bind_some, hw]
  dsimp only
  have hid2 : 0 ≤ d ∧ d < ((s1.r.length : Nat) : Int) := by rw [hrr.1, hr.len]; omega
  by_cases hwd : wrD op = true
  ·have hx : nx = rs := by
    rcases hnx trivial with h | h
    ·exact h
    ·rw [h] at hwd; cases hwd
   subst hx
   rw [if_pos hwd]
   by_cases hd0 : 0 < d
   ·rw [if_pos (QS.2 hd0), if_pos hid2, Qn 0 (by rw [hrr.1, hr.len]; omega), if_pos (c := wrD op = true ∧ 0 < d) ⟨hwd, hd0⟩]; rfl
   ·rw [if_neg (by rw [QS]; exact hd0), if_neg (c := wrD op = true ∧ 0 < d) (fun h => hd0 h.2)]; rfl
  ·rw [if_neg hwd, if_neg (c := wrD op = true ∧ 0 < d) (fun h => hwd h.1)]; rfl
def runM (s : Mc) (l : List TwoD) : Mc :=
 if (QL s.cs l s.m s.pc 4).2 ≠ 0 then s.trap 2 s.pc
 else
  let w := s.m.getD (QL s.cs l s.m s.pc 4).1.toNat 0
  if decF w = 0 then (if (doM s l (decM w).1 (decM w).2.1 (decM w).2.2.1 (decM w).2.2.2.1).1 = true then QjF (doM s l (decM w).1 (decM w).2.1 (decM w).2.2.1 (decM w).2.2.2.1).2
   else (doM s l (decM w).1 (decM w).2.1 (decM w).2.2.1 (decM w).2.2.2.1).2) else s.trap 1 w
def Qah (s0 : Mc) (l : List TwoD) : Mc :=
 let s : Mc := { s0 with ring := -1, fall := -1 }
 if s.ha = true then s
 else if 0 ≤ dueM s.cs s.ru s.dn s.iq then s.trap (16 + dueM s.cs s.ru s.dn s.iq) 0
 else if s.wa = true then (if iand .i64 (QcX s.cs s.ru s.dn s.iq) (s.cs.getD 7 0) = 0 then s else runM { s with wa := false } l)
 else runM s l
theorem Qhu {w : Int} (h : decF w = 0) : OkI (decM w).1 (decM w).2.1 (decM w).2.2.1 (decM w).2.2.2.1 := by
 obtain ⟨h1, h2, h3, h4, h5, h6⟩ := QrM h
 exact ⟨h1, h2, h3, h4, h5, h6⟩
theorem Qkw (cs : List Int) (ru : Bool) (dn : Int) (iq : List Int) : -1 ≤ dueM cs ru dn iq ∧ dueM cs ru dn iq ≤ 2 := by
 unfold dueM; split
 ·omega
 ·exact QrW _
theorem QjR (h : OkS s l) {K : Option Unit} :
  ((F_cu ((l, s.m, s.ring, (s.r, s.pc, s.cs, s.ha, s.wa, s.ru, s.dn, s.iq, s.oq, ()), s.fall, ()), s.pc, (4 : Int), ())).bind fun r7 =>
    if (r7.1.2.1 != (0 : Int)) then
     (F_co (s.bus l, (2 : Int), s.pc, ())).bind fun r8 => some (((), (r8.2.1, ())) : Unit × BusD × Unit)
    else
     if 0 ≤ r7.1.1 ∧ r7.1.1 < ((s.m.length : Nat) : Int) then
      ((s.m)[(r7.1.1).toNat]?).bind fun y9 =>
      (F_cv (y9, ())).bind fun r10 =>
      if (!r10.1.2.1) then
       if 0 ≤ r7.1.1 ∧ r7.1.1 < ((s.m.length : Nat) : Int) then
        ((s.m)[(r7.1.1).toNat]?).bind fun y11 =>
        (F_co (s.bus l, (1 : Int), y11, ())).bind fun r12 => some ((), (r12.2.1, ()))
       else none
      else
       (F_dm (s.bus l, r10.1.1, ())).bind fun r13 =>
       if r13.1.1 then
        let v14 := (IntKind.i64.wrap (r13.2.1.2.2.2.2.2.2.2.2.2.1 + (1 : Int)))
        (F_dn ((1000000000 : Int), v14, ())).bind fun r15 =>
        some ((), ((r13.2.1.1, (r13.2.1.2.1, (r13.2.1.2.2.1, (r13.2.1.2.2.2.1, (r13.2.1.2.2.2.2.1, (r13.2.1.2.2.2.2.2.1, (r13.2.1.2.2.2.2.2.2.1, (r13.2.1.2.2.2.2.2.2.2.1, (r13.2.1.2.2.2.2.2.2.2.2.1, (r15.1.1, (r13.2.1.2.2.2.2.2.2.2.2.2.2.1, (r13.2.1.2.2.2.2.2.2.2.2.2.2.2.1, (r13.2.1.2.2.2.2.2.2.2.2.2.2.2.2.1, ()))))))))))))), ()))
       else some ((), (r13.2.1, ()))
     else none) = some ((), ((runM s l).bus l, ())) := by
 have hdo := fun {w : Int} (hw : decF w = 0) => Qrq h (Qhu hw) rfl
 have hdn := h.d
 rw [QeA h.c h.l, Option.bind_some]
 dsimp only
 unfold runM
 have hin := Qbz h.c h.l s.pc 4
 generalize QL s.cs l s.m s.pc 4 = q at *
 by_cases h0 : q.2 = 0
 ·have hlt : 0 ≤ q.1 ∧ q.1 < ((s.m.length : Nat) : Int) := by
   rcases hin h0 with h | h
   ·exact absurd rfl h.2.2
   ·exact h
  have hN : q.1.toNat < s.m.length := by omega
  have hw : WW (s.m.getD q.1.toNat 0) := h.l.words _ (QaT hN)
  rw [if_neg (by simpa using h0), if_pos hlt, Qn 0 hN, QpU hw, Option.bind_some, if_pos hlt, Qn 0 hN, if_neg (c := q.2 ≠ 0) (by simpa using h0)]
  dsimp only
  generalize s.m.getD q.1.toNat 0 = w at *
  by_cases hd : decF w = 0
  ·rw [if_neg (by simp [hd]), if_pos hd]
   have hx := hdo hd
   have hrr := Qst s l (decM w).1 (decM w).2.1 (decM w).2.2.1 (decM w).2.2.2.1
   have hdn2 : (doM s l (decM w).1 (decM w).2.1 (decM w).2.2.1 (decM w).2.2.2.1).2.dn = s.dn := by
    unfold doM; dsimp only; split <;> exact hrr.2
   have e1 : ((decM w).1, (decM w).2.1, (decM w).2.2.1, (decM w).2.2.2.1, ()) = decM w := rfl
   rw [e1] at hx
   rw [hx, Option.bind_some]
   dsimp only
   generalize doM s l (decM w).1 (decM w).2.1 (decM w).2.2.1 (decM w).2.2.2.1 = x at *
   obtain ⟨b, s1⟩ := x
   cases b
   ·rfl
   ·simp only at hdn2
    rw [if_pos rfl, if_pos rfl]
    unfold F_dn Mc.bus QjF
    dsimp only
    rw [hdn2, Qt (by omega) (by omega)]
    by_cases hlt : 1000000000 < s.dn + 1
    ·rw [if_pos (QS.2 hlt), if_pos hlt]; rfl
    ·rw [if_neg (by rw [QS]; exact hlt), if_neg hlt]; rfl
  ·rw [if_pos (by simp [hd]), if_neg hd]
   unfold Mc.bus
   rw [QbZ h.c, Option.bind_some]
   rfl
 ·rw [if_pos (by simpa using h0), if_pos (c := q.2 ≠ 0) h0]
  unfold Mc.bus
  rw [QbZ h.c, Option.bind_some]
  rfl
theorem QnL (h : OkS s l) : F_do (s.bus l, ()) = some ((), ((Qah s l).bus l, ())) := by
 obtain ⟨r, pc, cs, ha, wa, ru, dn, iq, oq, m, ring, fall⟩ := s
 have h0 : OkS ⟨r, pc, cs, ha, wa, ru, dn, iq, oq, m, -1, -1⟩ l := ⟨h.r, h.pc, h.c, h.i, h.o, h.d, h.l⟩
 have h1 : OkS ⟨r, pc, cs, ha, false, ru, dn, iq, oq, m, -1, -1⟩ l := ⟨h.r, h.pc, h.c, h.i, h.o, h.d, h.l⟩
 have hc : OkC cs := h.c
 have hle := Qkw cs ru dn iq
 generalize he : Qah ⟨r, pc, cs, ha, wa, ru, dn, iq, oq, m, ring, fall⟩ l = e
 unfold Qah at he
 unfold F_do
 dsimp only at he
 rw [show (Mc.bus ⟨r, pc, cs, ha, wa, ru, dn, iq, oq, m, ring, fall⟩ l) = (l, m, ring, r, pc, cs, ha, wa, ru, dn, iq, oq, fall, ()) from rfl]
 dsimp only
 cases ha
 ·rw [if_neg (by decide)] at he
  rw [if_neg (by decide), QpW hc, Option.bind_some]
  dsimp only
  by_cases hk : 0 ≤ dueM cs ru dn iq
  ·rw [if_pos hk] at he
   subst he
   rw [if_pos (QaX.2 hk), Qt (by omega) (by omega), QbZ hc, Option.bind_some]
   rfl
  ·rw [if_neg hk] at he
   rw [if_neg (by rw [QaX]; exact hk)]
   cases wa
   ·rw [if_neg (by decide)] at he
    subst he
    rw [if_neg (by decide)]
    exact QjR (K := none) h0
   ·rw [if_pos rfl] at he
    have h7 : (0 : Int) ≤ 7 ∧ (7 : Int) < ((cs.length : Nat) : Int) := by rw [hc.len]; decide
    rw [if_pos rfl, QdX hc, Option.bind_some]
    dsimp only
    rw [if_pos h7, Qn 0 (by rw [hc.len]; decide)]
    simp only [show ((7 : Int)).toNat = 7 from rfl]
    by_cases hz : iand .i64 (QcX cs ru dn iq) (cs.getD 7 0) = 0
    ·rw [if_pos hz] at he
     subst he
     rw [if_pos (by simpa using hz)]
     rfl
    ·rw [if_neg hz] at he
     subst he
     rw [if_neg (by simpa using hz)]
     exact QjR (K := none) h1
 ·rw [if_pos rfl] at he
  subst he
  rw [if_pos rfl]
  rfl
theorem Qjs (h : OkS s l) :
  ((F_be ((s.r, s.pc, s.cs, s.ha, s.wa, s.ru, s.dn, s.iq, s.oq, ()), l, s.m, s.pc, (4 : Int), ())).bind fun r14 =>
    if (r14.1.1.1 != (0 : Int)) then
     (F_av (s.core l, (2 : Int), s.pc, ())).bind fun r15 => some (((), (r15.2.1, ())) : Unit × Qsp × Unit)
    else
     if 0 ≤ r14.1.1.2.1 ∧ r14.1.1.2.1 < ((s.m.length : Nat) : Int) then
      ((s.m)[(r14.1.1.2.1).toNat]?).bind fun y16 =>
      (F_bg (y16, ())).bind fun r17 =>
      if (r17.1.1.1 != (0 : Int)) then
       if 0 ≤ r14.1.1.2.1 ∧ r14.1.1.2.1 < ((s.m.length : Nat) : Int) then
        ((s.m)[(r14.1.1.2.1).toNat]?).bind fun y18 =>
        (F_av (s.core l, (1 : Int), y18, ())).bind fun r19 => some ((), (r19.2.1, ()))
       else none
      else
       (F_bz (s.core l, r17.1.1.2.1, ())).bind fun r20 => some ((), (r20.2.1, ()))
     else none) = some ((), ((runM s l).core l, ())) := by
 have hdo := fun {w : Int} (hw : decF w = 0) => QqN h (Qhu hw) rfl
 rw [Qem h.c h.l _ (.inr (.inr rfl)), Option.bind_some]
 dsimp only
 unfold runM
 have hin := Qbz h.c h.l s.pc 4
 generalize QL s.cs l s.m s.pc 4 = q at *
 by_cases h0 : q.2 = 0
 ·have hlt : 0 ≤ q.1 ∧ q.1 < ((s.m.length : Nat) : Int) := by
   rcases hin h0 with h | h
   ·exact absurd rfl h.2.2
   ·exact h
  have hN : q.1.toNat < s.m.length := by omega
  have hw : WW (s.m.getD q.1.toNat 0) := h.l.words _ (QaT hN)
  rw [if_neg (by simpa using h0), if_pos hlt, Qn 0 hN, Qpt hw, Option.bind_some, if_pos hlt, Qn 0 hN, if_neg (c := q.2 ≠ 0) (by simpa using h0)]
  dsimp only
  generalize s.m.getD q.1.toNat 0 = w at *
  by_cases hd : decF w = 0
  ·rw [if_pos hd, if_pos hd]
   dsimp only
   rw [if_neg (by decide)]
   have hx := hdo hd
   have e1 : ((decM w).1, (decM w).2.1, (decM w).2.2.1, (decM w).2.2.2.1, ()) = decM w := rfl
   rw [e1] at hx
   rw [hx, Option.bind_some]
   generalize doM s l (decM w).1 (decM w).2.1 (decM w).2.2.1 (decM w).2.2.2.1 = x at *
   obtain ⟨b, s1⟩ := x
   cases b <;> rfl
  ·rw [if_neg hd, if_neg hd]
   dsimp only
   rw [if_pos (by decide)]
   unfold Mc.core
   rw [QbW h.c, Option.bind_some]
   rfl
 ·rw [if_pos (by simpa using h0), if_pos (c := q.2 ≠ 0) h0]
  unfold Mc.core
  rw [QbW h.c, Option.bind_some]
  rfl
theorem Qnh (h : OkS s l) : F_ca (s.core l, ()) = some ((), ((Qah s l).core l, ())) := by
 obtain ⟨r, pc, cs, ha, wa, ru, dn, iq, oq, m, ring, fall⟩ := s
 have h0 : OkS ⟨r, pc, cs, ha, wa, ru, dn, iq, oq, m, -1, -1⟩ l := ⟨h.r, h.pc, h.c, h.i, h.o, h.d, h.l⟩
 have h1 : OkS ⟨r, pc, cs, ha, false, ru, dn, iq, oq, m, -1, -1⟩ l := ⟨h.r, h.pc, h.c, h.i, h.o, h.d, h.l⟩
 have hc : OkC cs := h.c
 have hle := Qkw cs ru dn iq
 generalize he : Qah ⟨r, pc, cs, ha, wa, ru, dn, iq, oq, m, ring, fall⟩ l = e
 unfold Qah at he
 unfold F_ca
 dsimp only at he
 rw [show (Mc.core ⟨r, pc, cs, ha, wa, ru, dn, iq, oq, m, ring, fall⟩ l) = (r, pc, cs, ha, wa, ru, dn, iq, oq, l, m, fall, ring, ()) from rfl]
 dsimp only
 cases ha
 ·rw [if_neg (by decide)] at he
  rw [if_neg (by decide), Qpv hc, Option.bind_some]
  dsimp only
  by_cases hk : 0 ≤ dueM cs ru dn iq
  ·rw [if_pos hk] at he
   subst he
   rw [if_pos (QaX.2 hk), Qt (by omega) (by omega), QbW hc, Option.bind_some]
   rfl
  ·rw [if_neg hk] at he
   rw [if_neg (by rw [QaX]; exact hk)]
   cases wa
   ·rw [if_neg (by decide)] at he
    subst he
    rw [if_neg (by decide)]
    exact Qjs h0
   ·rw [if_pos rfl] at he
    have h7 : (0 : Int) ≤ 7 ∧ (7 : Int) < ((cs.length : Nat) : Int) := by rw [hc.len]; decide
    rw [if_pos rfl, QdO hc, Option.bind_some]
    dsimp only
    rw [if_pos h7, Qn 0 (by rw [hc.len]; decide)]
    simp only [show ((7 : Int)).toNat = 7 from rfl]
    by_cases hz : iand .i64 (QcX cs ru dn iq) (cs.getD 7 0) = 0
    ·rw [if_pos hz] at he
     subst he
     rw [if_pos (by simpa using hz)]
     rfl
    ·rw [if_neg hz] at he
     subst he
     rw [if_neg (by simpa using hz)]
     exact Qjs h1
 ·rw [if_pos rfl] at he
  subst he
  rw [if_pos rfl]
  rfl
theorem QsG (h : OkS s l) {op d a i : Int} (hi : OkI op d a i) : OkS (exM s l op d a i).2.2.2 l ∧ WW (exM s l op d a i).2.2.1 ∧ ((exM s l op d a i).1 = true → WW (exM s l op d a i).2.1) := by
 have hp : ∀ x y, WW (addW x y) := Qja
 have h0 : WW 0 := by unfold WW; omega
 have hd := hi.hd
 have ha := hi.ha
 have hii := hi.hi
 have hra := h.r.w (k := a.toNat) (by omega)
 have hrd := h.r.w (k := d.toNat) (by omega)
 unfold exM
 let P : Bool × Int × Int × Mc → Prop := fun x => OkS x.2.2.2 l ∧ WW x.2.2.1 ∧ (x.1 = true → WW x.2.1)
 refine Qr P (fun _ => ⟨h, hp _ _, fun _ => hp _ _⟩) fun _ => Qr P (fun _ => ⟨h, by unfold WW; dsimp only; omega, fun _ => hp _ _⟩) fun _ => Qr P (fun _ => ?_) fun _ => Qr P (fun _ => ?_) fun _ =>
  Qr P (fun _ => ⟨h, h0, fun _ => Qr WW (fun _ => hp _ _) fun _ => hp _ _⟩) fun _ => Qr P (fun _ => ⟨h, hp _ _, fun _ => hp _ _⟩) fun _ => Qr P (fun _ => ⟨h, hp _ _, fun _ => hp _ _⟩) fun _ =>
  Qr P (fun h21 => ⟨h, Qpq h.c ⟨hii.1, hi.i21 (.inl h21)⟩ h.d, fun _ => hp _ _⟩) fun _ => Qr P (fun h22 => ⟨⟨h.r, h.pc, Qsj h.c ⟨hii.1, hi.i21 (.inr h22)⟩, h.i, h.o, h.d, h.l⟩, h0, fun _ => hp _ _⟩) fun _ =>
  Qr P (fun _ => ⟨QeU h (by unfold WW; omega) h0, h0, fun _ => h0⟩) fun _ => Qr P (fun _ => ⟨⟨h.r, h.c.w (by decide), Qqx h.c, h.i, h.o, h.d, h.l⟩, h0, fun _ => h.c.w (by decide)⟩) fun _ =>
  Qr P (fun _ => ⟨⟨h.r, h.pc, h.c, h.i, h.o, h.d, h.l⟩, h0, fun _ => hp _ _⟩) fun _ => Qr P (fun _ => ⟨⟨h.r, h.pc, h.c, h.i, h.o, h.d, h.l⟩, h0, fun _ => h.pc⟩) fun _ => ⟨h, QoX _ _ _, fun _ => hp _ _⟩
 ·have hin := Qbz h.c h.l (addW (s.r.getD a.toNat 0) (off i)) 1
  refine Qr P (fun _ => ⟨QeU h (by unfold WW; omega) (hp _ _), h0, fun _ => h0⟩) fun hq0 => Qr P (fun _ => ?_) fun hq => ⟨h, ?_, fun _ => hp _ _⟩
  ·have := Qrl (ru := s.ru) h.c h.i h.d ((QL s.cs l s.m (addW (s.r.getD a.toNat 0) (off i)) 1).1 - 1000)
   exact ⟨⟨h.r, h.pc, h.c, this.2, h.o, h.d, h.l⟩, this.1, fun _ => hp _ _⟩
  ·have hlt : 0 ≤ (QL s.cs l s.m (addW (s.r.getD a.toNat 0) (off i)) 1).1 ∧ (QL s.cs l s.m (addW (s.r.getD a.toNat 0) (off i)) 1).1 < (s.m.length : Int) := by
    rcases hin (by simpa using hq0) with h | h
    ·exact absurd h.1 hq
    ·exact h
   exact h.l.words _ (QaT (by omega))
 ·refine Qr P (fun _ => ⟨QeU h (by unfold WW; omega) (hp _ _), h0, fun _ => h0⟩) fun hq0 => Qr P (fun _ => ?_) fun hq => ?_
  ·exact ⟨⟨h.r, h.pc, QsR h.c _ _, h.i, QsS h.o _ _, h.d, h.l⟩, h0, fun _ => hp _ _⟩
  ·refine ⟨⟨h.r, h.pc, h.c, h.i, h.o, h.d, ⟨h.l.len, fun p hpm => ?_, fun w hw => ?_, ?_⟩⟩, h0, fun _ => hp _ _⟩
   ·have := h.l.pgs p hpm
    dsimp only
    rw [List.length_set]
    exact this
   ·rcases List.mem_or_eq_of_mem_set hw with hw | rfl
    ·exact h.l.words w hw
    ·exact hrd
   ·dsimp only
    rw [List.length_set]
    exact h.l.mlen
theorem OkR.set {r : List Int} (h : OkR r) {k : Nat} {w : Int} (hk : 0 < k) (hw : WW w) : OkR (r.set k w) :=
 ⟨by rw [List.length_set]; exact h.len, fun z hz => by
  rcases List.mem_or_eq_of_mem_set hz with hz | rfl
  ·exact h.words z hz
  ·exact hw, by rw [getD_set_ne (by omega)]; exact h.zero⟩
theorem QqC (h : OkS s l) {op d a i : Int} (hi : OkI op d a i) : OkS (doM s l op d a i).2 l := by
 have he := QsG h hi
 unfold doM
 dsimp only
 refine Qr (fun x : Bool × Mc => OkS x.2 l) (fun hb => ?_) fun _ => he.1
 refine ⟨?_, he.2.2 hb, he.1.c, he.1.i, he.1.o, he.1.d, he.1.l⟩
 refine Qr OkR (fun hd => he.1.r.set (by omega) he.2.1) fun _ => he.1.r
theorem QqY (h : OkS s l) : OkS (QjF s) l := by
 have := h.d
 refine ⟨h.r, h.pc, h.c, h.i, h.o, ?_, h.l⟩
 unfold QjF
 dsimp only
 split <;> omega
theorem QoH (h : OkS s l) : OkS (runM s l) l := by
 unfold runM
 have hin := Qbz h.c h.l s.pc 4
 refine Qr (fun x => OkS x l) (fun _ => QeU h (by unfold WW; omega) h.pc) fun hq0 => ?_
 have hlt : 0 ≤ (QL s.cs l s.m s.pc 4).1 ∧ (QL s.cs l s.m s.pc 4).1 < (s.m.length : Int) := by
  rcases hin (by simpa using hq0) with h | h
  ·exact absurd rfl h.2.2
  ·exact h
 have hw : WW (s.m.getD (QL s.cs l s.m s.pc 4).1.toNat 0) := h.l.words _ (QaT (by omega))
 refine Qr (fun x => OkS x l) (fun hd => ?_) fun _ => QeU h (by unfold WW; omega) hw
 exact Qr (fun x => OkS x l) (fun _ => QqY (QqC h (Qhu hd))) fun _ => QqC h (Qhu hd)
theorem Qmu (h : OkS s l) : OkS (Qah s l) l := by
 have h0 : OkS { s with ring := -1, fall := -1 } l := ⟨h.r, h.pc, h.c, h.i, h.o, h.d, h.l⟩
 have h1 : OkS { s with ring := -1, fall := -1, wa := false } l := ⟨h.r, h.pc, h.c, h.i, h.o, h.d, h.l⟩
 have hle := Qkw s.cs s.ru s.dn s.iq
 unfold Qah
 refine Qr (fun x => OkS x l) (fun _ => h0) fun _ => Qr (fun x => OkS x l) (fun hk => QeU h0 ?_ (by unfold WW; omega)) fun _ => Qr (fun x => OkS x l) (fun _ => Qr (fun x => OkS x l) (fun _ => h0) fun _ => QoH h1) fun _ => QoH h0
 unfold WW
 dsimp only at *
 omega
end
def Mc.of (h : QK) (m : List Int) : Mc := ⟨h.1, h.2.1, h.2.2.1, h.2.2.2.1, h.2.2.2.2.1, h.2.2.2.2.2.1, h.2.2.2.2.2.2.1, h.2.2.2.2.2.2.2.1, h.2.2.2.2.2.2.2.2.1, m, -1, -1⟩
theorem QsY {h : QK} {l : List TwoD} {m : List Int} (h1 : hartM h = 0) (hL : OkL l m) : OkS (Mc.of h m) l := by
 unfold hartM at h1
 split at h1
 ·rename_i c1
  split at h1
  ·rename_i c2
   split at h1
   ·rename_i c3
    split at h1
    ·rename_i c4
     split at h1
     ·rename_i c5
      simp only [inB, Bool.and_eq_true, decide_eq_true_eq] at c4
      exact ⟨⟨c1.1, Qbc.1 c2.1, c1.2.2⟩, QeN.1 c2.2.1, ⟨c1.2.1, Qbc.1 c2.2.2.1, c5.1, c5.2.1, c5.2.2.1, c5.2.2.2.1, c5.2.2.2.2⟩, ⟨c3.1, Qbc.1 c2.2.2.2.1⟩, ⟨c3.2, Qbc.1 c2.2.2.2.2⟩, c4, hL⟩
     ·omega
    ·omega
   ·omega
  ·omega
 ·omega
theorem QnD (h : QK) (hh : Qal 1048576 h) : F_cj (h, ()) = some ((h, ()), ()) := by
 obtain ⟨h1, h2, h3, h4⟩ := hh
 unfold F_cj
 dsimp only
 rw [if_pos (by simp; omega), if_pos (by simp; omega), if_pos (by simp; omega), if_pos (by simp; omega)]
 rfl
theorem QpB (h : QK) (hh : Qal 1048576 h) : F_aq (h, ()) = some ((h, ()), ()) := by
 obtain ⟨h1, h2, h3, h4⟩ := hh
 unfold F_aq
 dsimp only
 rw [Qcx h1, Option.bind_some, Qcx h2, Option.bind_some, Qcx h3, Option.bind_some, Qcx h4, Option.bind_some]
theorem Qqc (h : QK) (l : List TwoD) (m : List Int) (hh : Qal 1048576 h) (hm : m.length ≤ 1048576) : F_ck (h, l, m, ()) = some (((Mc.of h m).bus l, ()), ()) := by
 unfold F_ck F_ci
 dsimp only
 rw [if_pos (by simp; omega), Option.bind_some, QnD h hh, Option.bind_some]
 rfl
def QbS (l : List TwoD) : Nat → Int → Int → Mc → Int × Int × Mc
 | 0, c, g, s => (c, g, s)
 | k + 1, c, g, s => QbS l k (if 0 ≤ (Qah s l).fall then (Qah s l).fall else c) (if 0 ≤ (Qah s l).ring then (Qah s l).ring else g) (Qah s l)
abbrev Qsr := Int × Int × Int × List Int × Int × List Int × Bool × Bool × Bool × Int × List Int × List Int × List Int × Unit
def QmI (c : Int) : Qsr := (c, 0, 0, [], 0, [], false, false, false, 0, [], [], [], ())
def Mc.res (s : Mc) (c g : Int) : Qsr := (0, c, g, s.r, s.pc, s.cs, s.ha, s.wa, s.ru, s.dn, s.iq, s.oq, s.m, ())
theorem QiK (l : List TwoD) (n : Int) (h0 : 0 ≤ n ∧ n ≤ 500) (s0 : Mc) (h : OkS s0 l) : ∀ (i : Nat) (x : Int × Int × Mc), i ≤ n.toNat → OkS x.2.2 l →
  Qd l_cb_4 lots (((), (), x.1, x.2.1, n, ((i : Nat) : Int), ()), (QmI 0, x.2.2.core l, ()), ()) =
   some (.inl (((), (), (QbS l (n.toNat - i) x.1 x.2.1 x.2.2).1, (QbS l (n.toNat - i) x.1 x.2.1 x.2.2).2.1, ()), (QmI 0, (QbS l (n.toNat - i) x.1 x.2.1 x.2.2).2.2.core l, ()), ())) := by
 have key := QcR (step := l_cb_4) (γ := denO o_cb_4) (fun i (x : Int × Int × Mc) => (((), (), x.1, x.2.1, n, ((i : Nat) : Int), ()), (QmI 0, x.2.2.core l, ()), ())) n.toNat (Qae (by omega)) (fun _ x => OkS x.2.2 l)
  (fun i x => some (.inl (((), (), (QbS l (n.toNat - i) x.1 x.2.1 x.2.2).1, (QbS l (n.toNat - i) x.1 x.2.1 x.2.2).2.1, ()), (QmI 0, (QbS l (n.toNat - i) x.1 x.2.1 x.2.2).2.2.core l, ()), ()))) ?_
 ·exact key
 ·rintro rec i ⟨c, g, s⟩ hi hok ih
  unfold l_cb_4
  dsimp only at *
  by_cases hlt : i < n.toNat
  ·rw [if_pos (QS.2 (by omega)), Qnh hok, Option.bind_some]
   have e1 : n.toNat - i = n.toNat - (i + 1) + 1 := by omega
   have ih2 := ih (if 0 ≤ (Qah s l).fall then (Qah s l).fall else c, if 0 ≤ (Qah s l).ring then (Qah s l).ring else g, Qah s l) hlt (Qmu hok)
   dsimp only
   rw [QO (by omega), e1]
   simp only [QbS]
   rw [← ih2]
   unfold Mc.core
   dsimp only
   by_cases hf : 0 ≤ (Qah s l).fall
   ·rw [if_pos (QaX.2 hf), if_pos hf]
    by_cases hg : 0 ≤ (Qah s l).ring
    ·rw [if_pos (QaX.2 hg), if_pos hg]
    ·rw [if_neg (by rw [QaX]; exact hg), if_neg hg]
   ·rw [if_neg (by rw [QaX]; exact hf), if_neg hf]
    by_cases hg : 0 ≤ (Qah s l).ring
    ·rw [if_pos (QaX.2 hg), if_pos hg]
    ·rw [if_neg (by rw [QaX]; exact hg), if_neg hg]
  ·have : i = n.toNat := by omega
   subst this
   rw [if_neg (by rw [QS]; omega), Nat.sub_self]
   rfl
theorem Qnj (l : List TwoD) (a b : Int) (s : Mc) : ∀ (k : Nat) (c g : Int), (QbS l k c g { s with ring := a, fall := b }).1 = (QbS l k c g s).1 ∧ (QbS l k c g { s with ring := a, fall := b }).2.1 = (QbS l k c g s).2.1 ∧
  ∀ x y, (QbS l k c g { s with ring := a, fall := b }).2.2.res x y = (QbS l k c g s).2.2.res x y
 | 0, _, _ => ⟨rfl, rfl, fun _ _ => rfl⟩
 | k + 1, _, _ => ⟨rfl, rfl, fun _ _ => rfl⟩
theorem QiN (h : QK) (l : List TwoD) (m : List Int) (n : Int) (hh : Qal 1048576 h) (hm : m.length ≤ 1048576) (ho : OkS (Mc.of h m) l) (hn : 0 ≤ n ∧ n ≤ 500) : F_cb (h, l, m, n, ()) =
  some (((QbS l n.toNat (-1) (-1) (Mc.of h m)).2.2.res (QbS l n.toNat (-1) (-1) (Mc.of h m)).1 (QbS l n.toNat (-1) (-1) (Mc.of h m)).2.1, ()), ()) := by
 have ho2 : OkS { Mc.of h m with ring := 0, fall := 0 } l := ⟨ho.r, ho.pc, ho.c, ho.i, ho.o, ho.d, ho.l⟩
 have key := QiK l n hn _ ho2 0 (-1, -1, { Mc.of h m with ring := 0, fall := 0 }) (by omega) ho2
 obtain ⟨q1, q2, q3⟩ := Qnj l 0 0 (Mc.of h m) n.toNat (-1) (-1)
 unfold F_cb
 dsimp only
 rw [QpB h hh, Option.bind_some, Qcx hm, Option.bind_some]
 show (Qd l_cb_4 lots (((), (), (-1), (-1), n, (((0 : Nat) : Nat) : Int), ()), (QmI 0, Mc.core { Mc.of h m with ring := 0, fall := 0 } l, ()), ())).bind _ = _
 rw [key, ← q1, ← q2, ← q3]
 rfl
section
variable {l : List TwoD} {s : Mc}
def FR (s : Mc) : Prop := (s.fall = -1 ∨ 0 ≤ s.fall) ∧ (s.ring = -1 ∨ 0 ≤ s.ring)
theorem FR.trap (h : FR s) {cause tval : Int} (hc : 0 ≤ cause) : FR (s.trap cause tval) := ⟨.inr hc, h.2⟩
theorem Qrn (k w : Int) : Qhj k w = -1 ∨ 0 ≤ Qhj k w := by
 unfold Qhj; split
 ·exact .inr (QV w).1
 ·exact .inl rfl
theorem QsF (h : FR s) (op d a i : Int) : FR (exM s l op d a i).2.2.2 := by
 unfold exM
 let P : Bool × Int × Int × Mc → Prop := fun x => FR x.2.2.2
 refine Qr P (fun _ => h) fun _ => Qr P (fun _ => h) fun _ => Qr P (fun _ => Qr P (fun _ => h.trap (by omega)) fun _ => Qr P (fun _ => h) fun _ => h) fun _ =>
  Qr P (fun _ => Qr P (fun _ => h.trap (by omega)) fun _ => Qr P (fun _ => ⟨h.1, Qrn _ _⟩) fun _ => h) fun _ => Qr P (fun _ => h) fun _ => Qr P (fun _ => h) fun _ => Qr P (fun _ => h) fun _ =>
  Qr P (fun _ => h) fun _ => Qr P (fun _ => h) fun _ => Qr P (fun _ => h.trap (by omega)) fun _ => Qr P (fun _ => h) fun _ => Qr P (fun _ => h) fun _ => Qr P (fun _ => h) fun _ => h
theorem QqB (h : FR s) (op d a i : Int) : FR (doM s l op d a i).2 := by
 have he := QsF (l := l) h op d a i
 unfold doM
 dsimp only
 exact Qr (fun x : Bool × Mc => FR x.2) (fun _ => he) fun _ => he
theorem QoG (h : FR s) : FR (runM s l) := by
 unfold runM
 refine Qr FR (fun _ => h.trap (by omega)) fun _ => Qr FR (fun _ => ?_) fun _ => h.trap (by omega)
 exact Qr FR (fun _ => QqB (l := l) h _ _ _ _) fun _ => QqB h _ _ _ _
theorem Qmt (s : Mc) (l : List TwoD) : FR (Qah s l) := by
 have h0 : FR { s with ring := -1, fall := -1 } := ⟨.inl rfl, .inl rfl⟩
 have h1 : FR { s with ring := -1, fall := -1, wa := false } := ⟨.inl rfl, .inl rfl⟩
 unfold Qah
 refine Qr FR (fun _ => h0) fun _ => Qr FR (fun hk => h0.trap (Int.add_nonneg (by decide) hk)) fun _ => Qr FR (fun _ => Qr FR (fun _ => h0) fun _ => QoG h1) fun _ => QoG h0
end
abbrev SrcD := List Int × Int × Unit
def Sr (s : SrcD) (k : Int) : Prop := Byt s.1 ∧ 0 ≤ s.2.1 ∧ s.2.1 ≤ k
theorem Sr.le {s : SrcD} {k k' : Int} (h : Sr s k) (hk : k ≤ k') : Sr s k' := ⟨h.1, h.2.1, Int.le_trans h.2.2 hk⟩
theorem Sr.pos {s : SrcD} {k : Int} (h : Sr s k) : 0 ≤ k := Int.le_trans h.2.1 h.2.2
def Dr {X : Type} (o : Option X) (P : X → Prop) : Prop := ∃ v, o = some v ∧ P v
theorem Dr.bind {X Y : Type} {o : Option X} {f : X → Option Y} {Q : X → Prop} {P : Y → Prop} (h : Dr o Q) (g : ∀ v, Q v → Dr (f v) P) : Dr (o.bind f) P := by
 obtain ⟨v, rfl, hv⟩ := h
 exact g v hv
theorem Dr.ret {X : Type} {v : X} {P : X → Prop} (h : P v) : Dr (some v) P := ⟨v, rfl, h⟩
theorem Dr.guard {X : Type} {c : Prop} [Decidable c] {a : Option X} {P : X → Prop} (hc : c) (ha : Dr a P) : Dr (if c then a else none) P := by rw [if_pos hc]; exact ha
theorem Dr.nguard {X : Type} {c : Prop} [Decidable c] {a : Option X} {P : X → Prop} (hc : ¬ c) (ha : Dr a P) : Dr (if c then none else a) P := by rw [if_neg hc]; exact ha
theorem Dr.get {X Y : Type} {xs : List X} {i : Nat} {f : X → Option Y} {P : Y → Prop} (hi : i < xs.length) (h : ∀ y, y ∈ xs → xs[i]? = some y → Dr (f y) P) : Dr ((xs[i]?).bind f) P := by
 rw [List.getElem?_eq_getElem hi, Option.bind_some]
 exact h _ (List.getElem_mem hi) (List.getElem?_eq_getElem hi)
theorem Dr.gat {X Y : Type} {xs : List X} {i : Int} {n : Nat} {f : X → Option Y} {P : Y → Prop} (hn : xs.length = n) (h : 0 ≤ i ∧ i < (n : Int)) (k : ∀ y, y ∈ xs → Dr (f y) P) : Dr (if 0 ≤ i ∧ i < ((xs.length : Nat) : Int) then (xs[i.toNat]?).bind f else none) P := by
 subst hn
 exact Dr.guard h (Dr.get (by omega) fun y hy _ => k y hy)
theorem Dr.of {X : Type} {o : Option X} {v : X} {P : X → Prop} (h : o = some v) (hv : P v) : Dr o P := ⟨v, h, hv⟩
theorem Qco {X Y : Type} {step : (X → Option Y) → X → Option Y} {Q : Y → Prop} (I : Nat → X → Prop) (h : ∀ rec m x, I m x → (∀ m' x', m' < m → I m' x' → Dr (rec x') Q) → Dr (step rec x) Q) (m : Nat) (x : X) (hI : I m x) (hm : m < lots) : Dr (Qd step lots x) Q := by
 have key : ∀ n m x, m < n → I m x → Dr (Qd step n x) Q := by
  intro n
  induction n with
  | zero => intro m x h; omega
  | succ n ih => intro m x hm hI; exact h _ m x hI fun m' x' hlt hI' => ih m' x' (by omega) hI'
 exact key lots m x hm hI
def Bd (n x : Int) : Prop := 0 ≤ x ∧ (x < n ∨ x = 0)
theorem Bd.e {n x : Int} (h : Bd n x) : 0 ≤ x ∧ (x < n ∨ x = 0) := h
def Bt (a b x : Int) : Prop := a ≤ x ∧ x ≤ b
theorem Bt.e {a b x : Int} (h : Bt a b x) : a ≤ x ∧ x ≤ b := h
structure HL (h : QK) : Prop where
 r : h.1.length = 16
 c : h.2.2.1.length = 11
 i : h.2.2.2.2.2.2.2.1.length ≤ 2
 o : h.2.2.2.2.2.2.2.2.1.length ≤ 40
structure HB (h : QK) : Prop where
 r : h.1.length ≤ 16
 c : h.2.2.1.length = 11
 i : h.2.2.2.2.2.2.2.1.length ≤ 41
 o : h.2.2.2.2.2.2.2.2.1.length ≤ 40
theorem HL.b {h : QK} (hh : HL h) : HB h := ⟨by rw [hh.r]; omega, hh.c, by have := hh.i; omega, hh.o⟩
theorem HB.le {h : QK} (hh : HB h) : Qal 1048576 h := ⟨by have := hh.r; omega, by rw [hh.c]; omega, by have := hh.i; omega, by have := hh.o; omega⟩
theorem Dr.step {X Y : Type} {o : Option X} {v : X} {f : X → Option Y} {P : Y → Prop} (h : o = some v) (g : Dr (f v) P) : Dr (o.bind f) P := by rw [h]; exact g
theorem Dr.pos {X : Type} {c : Prop} [Decidable c] {a b : Option X} {P : X → Prop} (hc : c) (h : Dr a P) : Dr (if c then a else b) P := by rw [if_pos hc]; exact h
theorem Dr.neg {X : Type} {c : Prop} [Decidable c] {a b : Option X} {P : X → Prop} (hc : ¬ c) (h : Dr b P) : Dr (if c then a else b) P := by rw [if_neg hc]; exact h
theorem Dr.eq {X : Type} {o : Option X} {v : X} (h : Dr o fun r => r = v) : o = some v := by
 obtain ⟨_, e, rfl⟩ := h
 exact e
def Mc.hart (s : Mc) : QK := (s.r, s.pc, s.cs, s.ha, s.wa, s.ru, s.dn, s.iq, s.oq, ())
theorem QqG (s : Mc) (l : List TwoD) (op d a i : Int) : (exM s l op d a i).2.2.2.m.length = s.m.length := by
 unfold exM
 let P : Bool × Int × Int × Mc → Prop := fun x => x.2.2.2.m.length = s.m.length
 exact Qr P (fun _ => rfl) fun _ => Qr P (fun _ => rfl) fun _ => Qr P (fun _ => Qr P (fun _ => rfl) fun _ => Qr P (fun _ => rfl) fun _ => rfl) fun _ =>
  Qr P (fun _ => Qr P (fun _ => rfl) fun _ => Qr P (fun _ => rfl) fun _ => List.length_set) fun _ => Qr P (fun _ => rfl) fun _ => Qr P (fun _ => rfl) fun _ => Qr P (fun _ => rfl) fun _ =>
  Qr P (fun _ => rfl) fun _ => Qr P (fun _ => rfl) fun _ => Qr P (fun _ => rfl) fun _ => Qr P (fun _ => rfl) fun _ => Qr P (fun _ => rfl) fun _ => Qr P (fun _ => rfl) fun _ => rfl
theorem Qls (s : Mc) (l : List TwoD) (op d a i : Int) : (doM s l op d a i).2.m.length = s.m.length := by
 have := QqG s l op d a i
 unfold doM
 dsimp only
 split <;> exact this
theorem QjN (s : Mc) (l : List TwoD) : (runM s l).m.length = s.m.length := by
 unfold runM
 dsimp only
 split
 ·rfl
 ·split
  ·split
   ·exact Qls s l _ _ _ _
   ·exact Qls s l _ _ _ _
  ·rfl
theorem QnN (s : Mc) (l : List TwoD) : (Qah s l).m.length = s.m.length := by
 unfold Qah
 dsimp only
 split
 ·rfl
 ·split
  ·rfl
  ·split
   ·split
    ·rfl
    ·exact QjN { s with ring := -1, fall := -1, wa := false } l
   ·exact QjN { s with ring := -1, fall := -1 } l
theorem OkS.hartM {s : Mc} {l : List TwoD} (h : OkS s l) : hartM s.hart = 0 := by
 unfold Go.Proofs.YtajnommlfjfgpaaGreatDoor.hartM Mc.hart
 dsimp only
 rw [if_pos ⟨h.r.len, h.c.len, h.r.zero⟩, if_pos ⟨Qbc.2 h.r.words, QeN.2 h.pc, Qbc.2 h.c.words, Qbc.2 h.i.words, Qbc.2 h.o.words⟩, if_pos ⟨h.i.len, h.o.len⟩,
  if_pos (Qen.2 h.d), if_pos ⟨h.c.st, h.c.msk, h.c.tb, h.c.pd, h.c.tm⟩]
def noPg : TwoD := (-1, 0, ())
def QbH : List TwoD := [noPg, noPg, noPg, noPg, noPg, noPg, noPg, noPg]
def Qct : Nat → List Int → List TwoD → List TwoD
 | _, [], l => l
 | k, p :: r, l => Qct (k + 1) r (l.set k (p, 7, ()))
def Qcs (g : Int) (x : QaA) (l : List TwoD) : List TwoD :=
 let l1 := if x.1 = g then l.set x.2.2.2.1.toNat (x.2.2.1, 3, ()) else l
 if x.2.1 = g then l1.set x.2.2.2.2.1.toNat (x.2.2.1, 1, ()) else l1
def Qdo (g : Int) : List QaA → List TwoD → List TwoD
 | [], l => l
 | x :: r, l => Qdo g r (Qcs g x l)
def pgM (p : PolD) (g : Int) : List TwoD := Qdo g p.2.1 (Qct 0 (p.1.getD g.toNat []) QbH)
theorem QeO : ∀ (r : List Int) (k : Nat) (l : List TwoD), (Qct k r l).length = l.length
 | [], _, _ => rfl
 | p :: r, k, l => by rw [Qct, QeO r]; simp
theorem QgC (g : Int) (x : QaA) (l : List TwoD) : (Qcs g x l).length = l.length := by
 unfold Qcs
 dsimp only
 repeat' split
 all_goals simp
theorem QhV (g : Int) : ∀ (r : List QaA) (l : List TwoD), (Qdo g r l).length = l.length
 | [], _ => rfl
 | x :: r, l => by rw [Qdo, QhV g r, QgC]
theorem Qsg (p : PolD) (g : Int) : (pgM p g).length = 8 := by unfold pgM; rw [QhV, QeO]; rfl
theorem QjG {P : TwoD → Prop} : ∀ (r : List Int) (k : Nat) (l : List TwoD), (∀ x ∈ r, P (x, 7, ())) → (∀ q ∈ l, P q) → ∀ q ∈ Qct k r l, P q
 | [], _, _, _, h => h
 | p :: r, k, l, h1, h => QjG r (k + 1) _ (fun x hx => h1 x (List.mem_cons_of_mem _ hx)) fun q hq => by
  rcases List.mem_or_eq_of_mem_set hq with hq | rfl
  ·exact h q hq
  ·exact h1 p (by simp)
theorem QpE {P : TwoD → Prop} {g : Int} {x : QaA} {l : List TwoD} (h1 : P (x.2.2.1, 3, ())) (h2 : P (x.2.2.1, 1, ())) (h : ∀ q ∈ l, P q) : ∀ q ∈ Qcs g x l, P q := by
 have s : ∀ {l : List TwoD} {k : Nat} {y : TwoD}, P y → (∀ q ∈ l, P q) → ∀ q ∈ l.set k y, P q := fun hy h q hq => by
  rcases List.mem_or_eq_of_mem_set hq with hq | rfl
  ·exact h q hq
  ·exact hy
 unfold Qcs
 dsimp only
 split
 ·split
  ·exact s h2 (s h1 h)
  ·exact s h2 h
 ·split
  ·exact s h1 h
  ·exact h
theorem QhU {P : TwoD → Prop} {g : Int} : ∀ (r : List QaA) (l : List TwoD), (∀ x ∈ r, P (x.2.2.1, 3, ()) ∧ P (x.2.2.1, 1, ())) → (∀ q ∈ l, P q) → ∀ q ∈ Qdo g r l, P q
 | [], _, _, h => h
 | x :: r, l, h1, h => QhU r _ (fun y hy => h1 y (List.mem_cons_of_mem _ hy)) (QpE (h1 x (by simp)).1 (h1 x (by simp)).2 h)
theorem QkL {p : PolD} {g : Int} (hok : OkPol p) (hg : isG p g = true) : p.1.getD g.toNat [] ∈ p.1 := by
 have := QfY.1 hg
 exact QaT (by omega)
theorem QsP {p : PolD} {g : Int} (hok : OkPol p) (hg : isG p g = true) : ∀ q ∈ pgM p g, (-1 ≤ q.1 ∧ q.1 ≤ 23) ∧ 0 ≤ q.2.1 ∧ q.2.1 ≤ 7 := by
 refine QhU (P := fun q => (-1 ≤ q.1 ∧ q.1 ≤ 23) ∧ 0 ≤ q.2.1 ∧ q.2.1 ≤ 7) _ _ (fun x hx => ?_) (QjG _ _ _ (fun x hx => ?_) ?_)
 ·have := (Qid hok x hx).2.1
  dsimp only
  omega
 ·have := (hok.own1 _ (QkL hok hg)).2.2 x hx
  dsimp only
  omega
 ·intro q hq
  simp only [QbH, List.mem_cons, List.not_mem_nil, or_false, or_self] at hq
  subst hq
  unfold noPg
  decide
theorem Qif {r : List Int} {k i : Nat} {l : List TwoD} (h : i < r.length) : Qct (k + i) (r.drop i) l = Qct (k + (i + 1)) (r.drop (i + 1)) (l.set (k + i) (r[i], 7, ())) := by
 rw [List.drop_eq_getElem_cons h, Qct]
 rfl
theorem Qhe {g : Int} {r : List QaA} {i : Nat} {l : List TwoD} (h : i < r.length) : Qdo g (r.drop i) l = Qdo g (r.drop (i + 1)) (Qcs g r[i] l) := by
 rw [List.drop_eq_getElem_cons h, Qdo]
theorem QnB (p : PolD) (g : Int) : L_fp_3 ((p, (g, (([] : List TwoD), ((0 : Int), ())))), ((), ())) = some (.inl ((p, (g, (QbH, ()))), ((), ()))) := by kernel_rfl
theorem Qml {p : PolD} {g : Int} (hok : OkPol p) (hg : isG p g = true) : F_fp (p, g, ()) = some ((pgM p g, ()), ()) := by
 have hgi := QfY.1 hg
 have hi : g.toNat < p.1.length := by omega
 have hown := hok.own1 _ (QkL hok hg)
 have hlane := Qid hok
 have hll := hok.lanes.1
 refine Dr.eq ?_
 unfold F_fp
 refine Dr.step (QnB p g) ?_
 dsimp only
 have k1 : Dr (L_fp_7 ((p, (g, (QbH, ((0 : Int), ())))), ((), ()))) fun o => o = .inl ((p, (g, (Qct 0 (p.1.getD g.toNat []) QbH, ()))), ((), ())) := by
  refine Qco (fun n u => ∃ (i : Nat) (l : List TwoD), u = ((p, (g, (l, ((i : Int), ())))), ((), ())) ∧ n = (p.1.getD g.toNat []).length - i ∧ i ≤ (p.1.getD g.toNat []).length ∧ l.length = 8 ∧ Qct (0 + i) ((p.1.getD g.toNat []).drop i) l = Qct 0 (p.1.getD g.toNat []) QbH) ?_ _ _ ⟨0, QbH, rfl, rfl, Nat.zero_le _, rfl, rfl⟩ (by rw [Qat]; omega)
  rintro rec n _ ⟨i, l, rfl, hn, hin, hl, he⟩ ih
  have e1 : p.1[g.toNat]? = some (p.1.getD g.toNat []) := by rw [List.getD_eq_getElem?_getD, List.getElem?_eq_getElem hi]; rfl
  unfold l_fp_7
  generalize p.1.getD g.toNat [] = w at *
  dsimp only
  rw [if_pos hgi.1, e1, Option.bind_some]
  by_cases hlt : i < w.length
  case neg =>
   rw [if_neg (lt_f hlt)]
   rw [List.drop_of_length_le (by omega)] at he
   exact Dr.ret (by rw [← he]; rfl)
  rw [if_pos (lt_t hlt), if_pos hgi.1, Option.bind_some, if_pos nat0, Qs hlt, QO (by omega)]
  refine Dr.gat hl (by omega) fun _ _ => ih (n - 1) _ (by omega) ⟨i + 1, _, rfl, by omega, by omega, by simpa using hl, ?_⟩
  rw [← he, Qif hlt, Int.toNat_natCast]
  simp only [Nat.zero_add]
 refine k1.bind fun o ho => ?_
 subst ho
 dsimp only
 have k2 : Dr (L_fp_11 ((p, (g, (Qct 0 (p.1.getD g.toNat []) QbH, ((0 : Int), ())))), ((), ()))) fun o => o = .inl ((pgM p g, ()), ((), ())) := by
  refine Qco (fun n u => ∃ (i : Nat) (l : List TwoD), u = ((p, (g, (l, ((i : Int), ())))), ((), ())) ∧ n = p.2.1.length - i ∧ i ≤ p.2.1.length ∧ l.length = 8 ∧ Qdo g (p.2.1.drop i) l = pgM p g) ?_ _ _ ⟨0, _, rfl, rfl, Nat.zero_le _, by rw [QeO]; rfl, rfl⟩ (by rw [Qat]; omega)
  rintro rec n _ ⟨i, l, rfl, hn, hin, hl, he⟩ ih
  unfold l_fp_11
  dsimp only
  by_cases hlt : i < p.2.1.length
  case neg =>
   rw [if_neg (lt_f hlt)]
   rw [List.drop_of_length_le (by omega)] at he
   exact Dr.ret (by rw [← he]; rfl)
  rw [if_pos (lt_t hlt), if_pos nat0, Qs hlt, QO (by omega)]
  have hla := hlane _ (List.getElem_mem hlt)
  rw [Qhe hlt] at he
  have hl1 := QgC g p.2.1[i] l
  have fin : ∀ l', l' = Qcs g p.2.1[i] l → Dr (rec ((p, (g, (l', (((i + 1 : Nat) : Int), ())))), ((), ()))) fun o => o = .inl ((pgM p g, ()), ((), ())) := fun l' e => by
   subst e
   exact ih (n - 1) _ (by omega) ⟨i + 1, _, rfl, by omega, by omega, by rw [hl1]; exact hl, he⟩
  generalize p.2.1[i] = x at *
  by_cases h1 : x.1 = g
  ·rw [if_pos (by simpa using h1)]
   refine Dr.gat hl (by omega) fun _ _ => ?_
   by_cases h2 : x.2.1 = g
   ·rw [if_pos (by simpa using h2)]
    refine Dr.gat (n := 8) (by simpa using hl) (by omega) fun _ _ => fin _ ?_
    unfold Qcs
    dsimp only
    rw [if_pos h1, if_pos h2]
   ·rw [if_neg (by simpa using h2)]
    refine fin _ ?_
    unfold Qcs
    dsimp only
    rw [if_pos h1, if_neg h2]
  ·rw [if_neg (by simpa using h1)]
   by_cases h2 : x.2.1 = g
   ·rw [if_pos (by simpa using h2)]
    refine Dr.gat hl (by omega) fun _ _ => fin _ ?_
    unfold Qcs
    dsimp only
    rw [if_neg h1, if_pos h2]
   ·rw [if_neg (by simpa using h2)]
    refine fin _ ?_
    unfold Qcs
    dsimp only
    rw [if_neg h1, if_neg h2]
 refine k2.bind fun o ho => ?_
 subst ho
 exact Dr.ret rfl
theorem QpP : F_hi ([noPg], 8, ()) = some ((QbH, ()), ()) := by kernel_rfl
theorem QlH {p : PolD} {g : Int} (hok : OkPol p) (hg : isG p g = true) : F_hj (p, g, ()) = some ((pgM p g, ()), ()) := by
 have hgi := QfY.1 hg
 have hi : g.toNat < p.1.length := by omega
 have hown := hok.own1 _ (QkL hok hg)
 have hlane := Qid hok
 have hll := hok.lanes.1
 refine Dr.eq ?_
 unfold F_hj
 refine Dr.step rfl (Dr.step QpP (Dr.guard hgi.1 ?_))
 have e1 : p.1[g.toNat]? = some (p.1.getD g.toNat []) := by rw [List.getD_eq_getElem?_getD, List.getElem?_eq_getElem hi]; rfl
 refine Dr.step e1 ?_
 have k1 : Dr (L_hj_3 ((p, (g, (QbH, (p.1.getD g.toNat [], ((((p.1.getD g.toNat []).length : Nat) : Int), ((0 : Int), ())))))), ((), ()))) fun o => o = .inl ((p, (g, (Qct 0 (p.1.getD g.toNat []) QbH, ()))), ((), ())) := by
  generalize p.1.getD g.toNat [] = w at *
  refine Qco (fun n u => ∃ (i : Nat) (l : List TwoD), u = ((p, (g, (l, (w, (((w.length : Nat) : Int), ((i : Int), ())))))), ((), ())) ∧ n = w.length - i ∧ i ≤ w.length ∧ l.length = 8 ∧ Qct (0 + i) (w.drop i) l = Qct 0 w QbH) ?_ _ _ ⟨0, QbH, rfl, rfl, Nat.zero_le _, rfl, rfl⟩ (by rw [Qat]; omega)
  rintro rec n _ ⟨i, l, rfl, hn, hin, hl, he⟩ ih
  unfold l_hj_3
  dsimp only
  by_cases hlt : i < w.length
  case neg =>
   rw [if_neg (lt_f hlt)]
   rw [List.drop_of_length_le (by omega)] at he
   exact Dr.ret (by rw [← he]; rfl)
  rw [if_pos (lt_t hlt), if_pos nat0, Qs hlt, QO (by omega)]
  refine Dr.gat hl (by omega) fun _ _ => ih (n - 1) _ (by omega) ⟨i + 1, _, rfl, by omega, by omega, by simpa using hl, ?_⟩
  rw [← he, Qif hlt, Int.toNat_natCast]
  simp only [Nat.zero_add]
 refine k1.bind fun o ho => ?_
 subst ho
 dsimp only
 have k2 : Dr (L_hj_8 ((g, (Qct 0 (p.1.getD g.toNat []) QbH, (p.2.1, (((p.2.1.length : Nat) : Int), ((0 : Int), ()))))), ((), ()))) fun o => o = .inl ((pgM p g, ()), ((), ())) := by
  refine Qco (fun n u => ∃ (i : Nat) (l : List TwoD), u = ((g, (l, (p.2.1, (((p.2.1.length : Nat) : Int), ((i : Int), ()))))), ((), ())) ∧ n = p.2.1.length - i ∧ i ≤ p.2.1.length ∧ l.length = 8 ∧ Qdo g (p.2.1.drop i) l = pgM p g) ?_ _ _ ⟨0, _, rfl, rfl, Nat.zero_le _, by rw [QeO]; rfl, rfl⟩ (by rw [Qat]; omega)
  rintro rec n _ ⟨i, l, rfl, hn, hin, hl, he⟩ ih
  unfold l_hj_8
  dsimp only
  by_cases hlt : i < p.2.1.length
  case neg =>
   rw [if_neg (lt_f hlt)]
   rw [List.drop_of_length_le (by omega)] at he
   exact Dr.ret (by rw [← he]; rfl)
  rw [if_pos (lt_t hlt), if_pos nat0, Qs hlt, QO (by omega)]
  have hla := hlane _ (List.getElem_mem hlt)
  rw [Qhe hlt] at he
  have hl1 := QgC g p.2.1[i] l
  have fin : ∀ l', l' = Qcs g p.2.1[i] l → Dr (rec ((g, (l', (p.2.1, (((p.2.1.length : Nat) : Int), (((i + 1 : Nat) : Int), ()))))), ((), ()))) fun o => o = .inl ((pgM p g, ()), ((), ())) := fun l' e => by
   subst e
   exact ih (n - 1) _ (by omega) ⟨i + 1, _, rfl, by omega, by omega, by rw [hl1]; exact hl, he⟩
  generalize p.2.1[i] = x at *
  by_cases h1 : x.1 = g
  ·rw [if_pos (by simpa using h1)]
   refine Dr.gat hl (by omega) fun _ _ => ?_
   by_cases h2 : x.2.1 = g
   ·rw [if_pos (by simpa using h2)]
    refine Dr.gat (n := 8) (by simpa using hl) (by omega) fun _ _ => fin _ ?_
    unfold Qcs
    dsimp only
    rw [if_pos h1, if_pos h2]
   ·rw [if_neg (by simpa using h2)]
    refine fin _ ?_
    unfold Qcs
    dsimp only
    rw [if_pos h1, if_neg h2]
  ·rw [if_neg (by simpa using h1)]
   by_cases h2 : x.2.1 = g
   ·rw [if_pos (by simpa using h2)]
    refine Dr.gat hl (by omega) fun _ _ => fin _ ?_
    unfold Qcs
    dsimp only
    rw [if_neg h1, if_pos h2]
   ·rw [if_neg (by simpa using h2)]
    refine fin _ ?_
    unfold Qcs
    dsimp only
    rw [if_neg h1, if_neg h2]
 refine k2.bind fun o ho => ?_
 subst ho
 exact Dr.ret rfl
theorem Qhp (s : TwoD) (r : List TwoD) : QC (-1) (s :: r) = s.2.1 + QC (-1) r := by
 simp only [QC]
 rw [if_pos (.inl (by decide))]
theorem QoR {s : TwoD} {r : List TwoD} {k : Nat} {a : Int} (h : s.2.1 ≤ a) : Qz k (s :: r) a = Qz (k + 1) r (a - s.2.1) := by simp only [Qz]; rw [if_pos h]
theorem Qmy {s : TwoD} {r : List TwoD} {k : Nat} {a : Int} (h : ¬ s.2.1 ≤ a) : Qz k (s :: r) a = (k, a, s.2.1 - a) := by simp only [Qz]; rw [if_neg h]
theorem QkW : ∀ {m : List TwoD} {k : Nat} {a : Int}, (∀ s ∈ m, 1 ≤ s.2.1 ∧ s.2.1 ≤ 50) → 0 ≤ a → a + 1 < QC (-1) m →
  Qz k m (a + 1) = if (Qz k m a).2.2 = 1 then ((Qz k m a).1 + 1, 0, (m.getD ((Qz k m a).1 + 1 - k) (0, 0, ())).2.1) else ((Qz k m a).1, (Qz k m a).2.1 + 1, (Qz k m a).2.2 - 1)
 | [], k, a, _, h0, h1 => by simp [QC] at h1; omega
 | s :: r, k, a, hs, h0, h1 => by
  rw [Qhp] at h1
  have hr : ∀ s ∈ r, 1 ≤ s.2.1 ∧ s.2.1 ≤ 50 := fun q hq => hs q (List.mem_cons_of_mem _ hq)
  by_cases h : s.2.1 ≤ a
  ·rw [QoR h, QoR (by omega)]
   have e : a + 1 - s.2.1 = (a - s.2.1) + 1 := by omega
   rw [e, QkW hr (by omega) (by omega)]
   obtain ⟨g0, _⟩ := QaR (m := r) (k := k + 1) (a := a - s.2.1) hr (by omega) (by omega)
   have e2 : (Qz (k + 1) r (a - s.2.1)).1 + 1 - k = ((Qz (k + 1) r (a - s.2.1)).1 + 1 - (k + 1)) + 1 := by omega
   rw [e2, List.getD_cons_succ]
  ·rw [Qmy h]
   have hs1 := hs s (by simp)
   by_cases h2 : s.2.1 ≤ a + 1
   ·rw [QoR h2, if_pos (by simp only; omega)]
    have e : a + 1 - s.2.1 = 0 := by omega
    rw [e]
    cases r with
    | nil => simp [QC] at h1; omega
    | cons q r =>
     have := hr q (by simp)
     rw [Qmy (by omega)]
     have e3 : k + 1 - k = 1 := by omega
     rw [e3]
     simp
   ·rw [Qmy h2, if_neg (by simp only; omega)]
    simp only
    congr 2
    omega
theorem QoQ : ∀ {m : List TwoD} {k : Nat} {a : Int}, (∀ s ∈ m, 1 ≤ s.2.1 ∧ s.2.1 ≤ 50) → 0 ≤ a → a + 1 = QC (-1) m → (Qz k m a).1 + 1 = k + m.length ∧ (Qz k m a).2.2 = 1
 | [], k, a, _, h0, h1 => by simp [QC] at h1; omega
 | s :: r, k, a, hs, h0, h1 => by
  rw [Qhp] at h1
  have hr : ∀ s ∈ r, 1 ≤ s.2.1 ∧ s.2.1 ≤ 50 := fun q hq => hs q (List.mem_cons_of_mem _ hq)
  by_cases h : s.2.1 ≤ a
  ·rw [QoR h]
   have := QoQ (k := k + 1) hr (a := a - s.2.1) (by omega) (by omega)
   simp only [List.length_cons]
   omega
  ·rw [Qmy h]
   have hp := (QcH (g := -1) hr).1
   cases r with
   | nil =>
    have h0 : QC (-1) ([] : List TwoD) = 0 := rfl
    rw [h0] at h1
    show k + 1 = k + (0 + 1) ∧ s.2.1 - a = 1
    omega
   | cons q r =>
    have := QcZ hr (by simp)
    omega
theorem Qrt {m : List TwoD} (hs : ∀ s ∈ m, 1 ≤ s.2.1 ∧ s.2.1 ≤ 50) (hl : 1 ≤ m.length) : Qz 0 m 0 = (0, 0, (m.getD 0 (0, 0, ())).2.1) := by
 cases m with
 | nil => simp at hl
 | cons s r =>
  have := hs s (by simp)
  rw [Qmy (by omega)]
  simp
def Qff (plan : List TwoD) (slot left : Int) : Int × Int :=
 if left - 1 = 0 then ((slot + 1) % (plan.length : Int), (plan.getD ((slot + 1) % (plan.length : Int)).toNat (0, 0, ())).2.1) else (slot, left - 1)
theorem Qez {p : PolD} (hok : OkPol p) : ∀ s ∈ p.2.2.2.1, 1 ≤ s.2.1 ∧ s.2.1 ≤ 50 := fun s hs => (hok.slots s hs).2
theorem Qso {p : PolD} (hok : OkPol p) (c : Int) : (0 ≤ (Qbh p c).1 ∧ (Qbh p c).1 < (p.2.2.2.1.length : Int)) ∧ 1 ≤ (Qbh p c).2 ∧ (Qbh p c).2 ≤ 50 := by
 have hR := QcZ (Qez hok) hok.plan.1
 obtain ⟨h1, s, h2, h3, h4, h5⟩ := QaR (m := p.2.2.2.1) (k := 0) (a := c % QC (-1) p.2.2.2.1) (Qez hok) (Int.emod_nonneg _ (by omega)) (Int.emod_lt_of_pos _ (by omega))
 rw [Nat.sub_zero] at h2
 have h6 := (List.getElem?_eq_some_iff.1 h2).1
 have h7 := Qez hok s (List.mem_of_getElem? h2)
 unfold Qbh
 dsimp only
 omega
theorem Qkb {p : PolD} (hok : OkPol p) {c : Int} (h0 : 0 ≤ c) : Qbh p (c + 1) = Qff p.2.2.2.1 (Qbh p c).1 (Qbh p c).2 := by
 have hR := QcZ (Qez hok) hok.plan.1
 have hs := Qez hok
 have hlen := hok.plan.1
 unfold Qbh Qff
 dsimp only
 generalize p.2.2.2.1 = m at *
 generalize hRR : QC (-1) m = R at *
 have a0 := Int.emod_nonneg c (b := R) (by omega)
 have a1 := Int.emod_lt_of_pos c (b := R) (by omega)
 have hadd : (c + 1) % R = if c % R + 1 = R then 0 else c % R + 1 := by
  rw [Int.add_emod]
  by_cases hR1 : R = 1
  ·subst hR1
   simp
  ·rw [Int.emod_eq_of_lt (a := 1) (by omega) (by omega)]
   split
   ·rename_i e; rw [e]; exact Int.emod_self
   ·exact Int.emod_eq_of_lt (by omega) (by omega)
 rw [hadd]
 generalize c % R = a at *
 by_cases hl : a + 1 = R
 ·rw [if_pos hl, Qrt hs hlen]
  obtain ⟨e1, e2⟩ := QoQ (k := 0) hs a0 (by rw [hRR]; exact hl)
  rw [if_pos (by rw [e2]; decide)]
  have e3 : ((Qz 0 m a).1 : Int) + 1 = (m.length : Int) := by omega
  rw [e3, Int.emod_self]
  rfl
 ·rw [if_neg hl, QkW hs a0 (by rw [hRR]; omega)]
  obtain ⟨_, s, h2, h3, h4, h5⟩ := QaR (m := m) (k := 0) (a := a) hs a0 (by rw [hRR]; exact a1)
  rw [Nat.sub_zero] at h2
  have h6 := (List.getElem?_eq_some_iff.1 h2).1
  by_cases h1 : (Qz 0 m a).2.2 = 1
  ·rw [if_pos h1, if_pos (by omega)]
   have hlt : (Qz 0 m a).1 + 1 < m.length := by
    have key := QkW (k := 0) hs a0 (by rw [hRR]; omega : a + 1 < QC (-1) m)
    rw [if_pos h1] at key
    obtain ⟨_, s', h2', _⟩ := QaR (m := m) (k := 0) (a := a + 1) hs (by omega) (by rw [hRR]; omega)
    rw [key, Nat.sub_zero] at h2'
    exact (List.getElem?_eq_some_iff.1 h2').1
   have e4 : (((Qz 0 m a).1 : Int) + 1) % (m.length : Int) = (((Qz 0 m a).1 + 1 : Nat) : Int) := by rw [Int.emod_eq_of_lt (by omega) (by omega)]; omega
   rw [e4, Int.toNat_natCast, Nat.sub_zero]
  ·rw [if_neg h1, if_neg (by omega)]
structure HK (x : QH) : Prop where
 pol : polM x.1 = 0
 mem : QT x.2.1 = 0 ∧ x.2.1.length = 192
 len : x.2.2.1.length = x.1.1.length
 harts : ∀ h ∈ x.2.2.1, hartM h = 0
 clock : 0 ≤ x.2.2.2.2.2.1 ∧ x.2.2.2.2.2.1 ≤ 1000000
 slot : x.2.2.2.1 = (Qbh x.1 x.2.2.2.2.2.1).1
 left : x.2.2.2.2.1 = (Qbh x.1 x.2.2.2.2.2.1).2
theorem HK.ok {x : QH} (h : HK x) : OkPol x.1 := QlV h.pol
theorem QgX : ∀ {m : List QK}, Qgy m = none ↔ ∀ h ∈ m, hartM h = 0 := by
 have key : ∀ {m : List QK} {i : Nat}, scan (fun (_ : Nat) h => nz (hartM h)) i m = none ↔ ∀ h ∈ m, hartM h = 0 := by
  intro m
  induction m with
  | nil => intro i; simp [scan]
  | cons y r ih =>
   intro i
   simp only [scan]
   by_cases hy : hartM y = 0
   ·have : nz (hartM y) = none := by unfold nz; rw [if_neg (by simpa using hy)]
    rw [this]
    simp only
    rw [ih]
    simp [hy]
   ·have : nz (hartM y) = some (hartM y) := by unfold nz; rw [if_pos hy]
    rw [this]
    simp [hy]
 intro m
 unfold Qgy
 exact key
theorem HK.of {x : QH} (h : Qay x = 0) : HK x := by
 have hp := QfX h
 unfold Qay at h
 rw [if_neg (by simpa using hp)] at h
 split at h
 ·rename_i g
  cases hh : Qgy x.2.2.1 with
  | some c =>
   rw [hh] at h
   have : c ≠ 0 := by
    have : ∀ {m : List QK} {i : Nat} {c : Int}, scan (fun (_ : Nat) h => nz (hartM h)) i m = some c → c ≠ 0 := by
     intro m
     induction m with
     | nil => intro i c h; simp [scan] at h
     | cons y r ih =>
      intro i c h
      simp only [scan] at h
      split at h
      ·rename_i c' hc'
       obtain rfl := Option.some.inj h
       unfold nz at hc'
       split at hc'
       ·obtain rfl := Option.some.inj hc'; assumption
       ·cases hc'
      ·exact ih h
    exact this hh
   exact absurd h this
  | none =>
   rw [hh] at h
   simp only at h
   split at h
   ·rename_i hc
    split at h
    ·rename_i hs
     exact ⟨hp, g.1, g.2, QgX.1 hh, Qen.1 hc, hs.1, hs.2⟩
    ·cases h
   ·cases h
 ·cases h
theorem HK.to {x : QH} (h : HK x) : Qay x = 0 := by
 unfold Qay
 rw [if_neg (by simpa using h.pol), if_pos ⟨h.mem, h.len⟩, QgX.2 h.harts]
 simp only
 rw [if_pos (Qen.2 h.clock), if_pos ⟨h.slot, h.left⟩]
theorem QhQ {h : QK} (hh : hartM h = 0) : Qal 1048576 h := by
 unfold hartM at hh
 split at hh
 ·rename_i c1
  split at hh
  ·split at hh
   ·rename_i c3
    exact ⟨by omega, by omega, by omega, by omega⟩
   ·cases hh
  ·cases hh
 ·cases hh
theorem QkM {p : PolD} (h : OkPol p) : Qhh 1048576 p := by
 have h1 := h.own; have h2 := h.lanes.1; have h3 := h.bells.1; have h4 := h.plan.2
 exact ⟨⟨by omega, fun l hl => by have := (h.own1 l hl).2.1; omega⟩, by omega, by omega, by omega⟩
theorem HK.le {x : QH} (h : HK x) : Qbp 1048576 x := by
 have h1 := h.mem.2; have h2 := h.len; have h3 := h.ok.own
 exact ⟨QkM h.ok, by omega, by omega, fun y hy => QhQ (h.harts y hy)⟩
abbrev Qof := List (List Int) × List QaA × List TwoD × List TwoD × List Int × List QK × Int × Int × Int × Unit
def boxH (x : QH) : Qof := (x.1.1, x.1.2.1, x.1.2.2.1, x.1.2.2.2.1, x.2.1, x.2.2.1, x.2.2.2.1, x.2.2.2.2.1, x.2.2.2.2.2.1, ())
def QoI (h : QK) : QK := (h.1, h.2.1, h.2.2.1, h.2.2.2.1, h.2.2.2.2.1, true, h.2.2.2.2.2.2)
def QbC (k : Int) (hs : List QK) : List QK := hs.set k.toNat (QoI (hs.getD k.toNat QbT))
def turnG (x : QH) : Int := (x.1.2.2.2.1.getD x.2.2.2.1.toNat (0, 0, ())).1
def Qaq (x : QH) : Mc := Qah (Mc.of (x.2.2.1.getD (turnG x).toNat QbT) x.2.1) (pgM x.1 (turnG x))
def Qam (x : QH) : List QK := x.2.2.1.set (turnG x).toNat (Qaq x).hart
def Qes (x : QH) : Bool := x.1.2.2.1.any (Qak (turnG x, (Qaq x).ring, ()))
def QcN (x : QH) : QH :=
 (x.1, (Qaq x).m, (if Qes x = true then QbC (Qaq x).ring (Qam x) else Qam x), (Qff x.1.2.2.2.1 x.2.2.2.1 x.2.2.2.2.1).1, (Qff x.1.2.2.2.1 x.2.2.2.1 x.2.2.2.2.1).2, x.2.2.2.2.2.1 + 1, ())
theorem QsK {p : PolD} (hok : OkPol p) : ∀ b ∈ p.2.2.1, isG p b.1 = true ∧ isG p b.2.1 = true ∧ b.1 ≠ b.2.1 := by
 intro b hb
 obtain ⟨i, e⟩ := Qbn hok.bells.2 b hb
 have e := QoB e
 unfold Qfb at e
 split at e
 ·rename_i h; exact absurd e h
 ·rename_i h0
  have h0 : Qcr p b.1 b.2.1 = 0 := by simpa using h0
  unfold Qcr at h0
  split at h0
  ·split at h0
   ·split at h0
    ·cases h0
    ·exact ⟨‹_›, ‹_›, ‹_›⟩
   ·cases h0
  ·cases h0
theorem HK.turn {x : QH} (h : HK x) : (0 ≤ x.2.2.2.1 ∧ x.2.2.2.1 < (x.1.2.2.2.1.length : Int)) ∧ (1 ≤ x.2.2.2.2.1 ∧ x.2.2.2.2.1 ≤ 50) ∧ isG x.1 (turnG x) = true ∧ x.1.2.2.2.1[x.2.2.2.1.toNat]? = some (x.1.2.2.2.1.getD x.2.2.2.1.toNat (0, 0, ())) := by
 have ht := Qso h.ok x.2.2.2.2.2.1
 rw [← h.slot, ← h.left] at ht
 have hlt : x.2.2.2.1.toNat < x.1.2.2.2.1.length := by omega
 refine ⟨ht.1, ht.2, (h.ok.slots _ (QaT (d := (0, 0, ())) hlt)).1, ?_⟩
 rw [List.getD_eq_getElem?_getD, List.getElem?_eq_getElem hlt]
 rfl
theorem HK.guest {x : QH} (h : HK x) {g : Int} (hg : isG x.1 g = true) : (0 ≤ g ∧ g < (x.2.2.1.length : Int)) ∧ x.2.2.1[g.toNat]? = some (x.2.2.1.getD g.toNat QbT) ∧ hartM (x.2.2.1.getD g.toNat QbT) = 0 := by
 have hgi := QfY.1 hg
 have hl := h.len
 have hlt : g.toNat < x.2.2.1.length := by omega
 refine ⟨by omega, ?_, h.harts _ (QaT hlt)⟩
 rw [List.getD_eq_getElem?_getD, List.getElem?_eq_getElem hlt]
 rfl
theorem HK.okL {x : QH} (h : HK x) {g : Int} (hg : isG x.1 g = true) : OkL (pgM x.1 g) x.2.1 := by
 have hm := h.mem
 have hw : allW x.2.1 = true := by
  have h1 := h.mem.1
  unfold QT at h1
  rw [if_pos (QiO h.mem.1)] at h1
  split at h1
  ·assumption
  ·cases h1
 refine ⟨Qsg _ _, fun q hq => ?_, Qbc.1 hw, by omega⟩
 have := QsP h.ok hg q hq
 omega
theorem HK.okS {x : QH} (h : HK x) : OkS (Mc.of (x.2.2.1.getD (turnG x).toNat QbT) x.2.1) (pgM x.1 (turnG x)) := QsY (h.guest h.turn.2.2.1).2.2 (h.okL h.turn.2.2.1)
theorem HK.okT {x : QH} (h : HK x) : OkS (Qaq x) (pgM x.1 (turnG x)) := Qmu h.okS
theorem Qnv {h : QK} (hh : hartM h = 0) : hartM (QoI h) = 0 := hh
theorem QkN {x : QH} (h : HK x) (hr : Qes x = true) : isG x.1 (Qaq x).ring = true := by
 unfold Qes at hr
 obtain ⟨b, hb, e⟩ := List.any_eq_true.1 hr
 unfold Qak at e
 simp only [Bool.and_true, Bool.and_eq_true, beq_iff_eq] at e
 rw [e.2]
 exact (QsK h.ok b hb).2.1
theorem QcM (x : QH) : (Qam x).length = x.2.2.1.length := by unfold Qam; simp
theorem Qel {x : QH} (h : HK x) : ∀ y ∈ Qam x, hartM y = 0 := by
 intro y hy
 unfold Qam at hy
 rcases List.mem_or_eq_of_mem_set hy with hy | rfl
 ·exact h.harts y hy
 ·exact h.okT.hartM
theorem Qis {x : QH} (h : HK x) : (Qaq x).m.length = 192 := by unfold Qaq; rw [QnN]; exact h.mem.2
theorem HK.next {x : QH} (h : HK x) (hc : x.2.2.2.2.2.1 < 1000000) : HK (QcN x) := by
 have hl := h.okT.l
 refine ⟨h.pol, ⟨?_, Qis h⟩, ?_, ?_, ?_, ?_, ?_⟩
 ·show QT (Qaq x).m = 0
  unfold QT
  rw [Qis h, if_pos (by decide), if_pos (Qbc.2 hl.words)]
 ·show (if Qes x = true then QbC (Qaq x).ring (Qam x) else Qam x).length = _
  split
  ·unfold QbC; rw [List.length_set, QcM]; exact h.len
  ·rw [QcM]; exact h.len
 ·show ∀ y ∈ (if Qes x = true then QbC (Qaq x).ring (Qam x) else Qam x), hartM y = 0
  split
  ·rename_i hr
   have hg := QfY.1 (QkN h hr)
   intro y hy
   unfold QbC at hy
   rcases List.mem_or_eq_of_mem_set hy with hy | rfl
   ·exact Qel h y hy
   ·exact Qnv (Qel h _ (QaT (by rw [QcM, h.len]; omega)))
  ·exact Qel h
 ·have := h.clock
  show 0 ≤ x.2.2.2.2.2.1 + 1 ∧ x.2.2.2.2.2.1 + 1 ≤ 1000000
  omega
 ·show (Qff x.1.2.2.2.1 x.2.2.2.1 x.2.2.2.2.1).1 = (Qbh x.1 (x.2.2.2.2.2.1 + 1)).1
  rw [Qkb h.ok h.clock.1, ← h.slot, ← h.left]
 ·show (Qff x.1.2.2.2.1 x.2.2.2.1 x.2.2.2.2.1).2 = (Qbh x.1 (x.2.2.2.2.2.1 + 1)).2
  rw [Qkb h.ok h.clock.1, ← h.slot, ← h.left]
theorem Dr.gatE {X Y : Type} {xs : List X} {i : Int} {n : Nat} {f : X → Option Y} {P : Y → Prop} (hn : xs.length = n) (h : 0 ≤ i ∧ i < (n : Int)) (k : ∀ y, xs[i.toNat]? = some y → Dr (f y) P) : Dr (if 0 ≤ i ∧ i < ((xs.length : Nat) : Int) then (xs[i.toNat]?).bind f else none) P := by
 subst hn
 exact Dr.guard h (Dr.get (by omega) fun y _ hy => k y hy)
theorem Qmg (k : Int) (hs : List QK) : QbC k (QbC k hs) = QbC k hs := by
 unfold QbC
 by_cases hk : k.toNat < hs.length
 ·rw [List.set_set]
  congr 1
  rw [List.getD_eq_getElem?_getD, List.getElem?_set_self hk]
  rfl
 ·rw [List.set_eq_of_length_le (by simp; omega)]
def Qdq (g k : Int) : List TwoD → List QK → List QK
 | [], hs => hs
 | b :: r, hs => Qdq g k r (if Qak (g, k, ()) b = true then QbC k hs else hs)
theorem Qev (g k : Int) : ∀ (r : List TwoD) (hs : List QK), Qdq g k r (QbC k hs) = QbC k hs
 | [], _ => rfl
 | b :: r, hs => by
  rw [Qdq]
  split
  ·rw [Qmg, Qev g k r]
  ·exact Qev g k r hs
theorem Qih (g k : Int) : ∀ (r : List TwoD) (hs : List QK), Qdq g k r hs = if r.any (Qak (g, k, ())) = true then QbC k hs else hs
 | [], _ => rfl
 | b :: r, hs => by
  rw [Qdq, List.any_cons]
  by_cases hb : Qak (g, k, ()) b = true
  ·rw [if_pos hb, Qev, if_pos (by simp [hb])]
  ·have hb' : Qak (g, k, ()) b = false := by simpa using hb
   rw [if_neg hb, Qih g k r, hb', Bool.false_or]
def Qmc (b : Qof) (hs : List QK) : Qof := (b.1, b.2.1, b.2.2.1, b.2.2.2.1, b.2.2.2.2.1, hs, b.2.2.2.2.2.2.1, b.2.2.2.2.2.2.2.1, b.2.2.2.2.2.2.2.2.1, ())
theorem QnK (b : Qof) (g k : Int) (hb : b.2.2.1.length ≤ 1000) (hk : ∀ y ∈ b.2.2.1, Qak (g, k, ()) y = true → 0 ≤ k ∧ k < (b.2.2.2.2.2.1.length : Int)) :
  F_fq (b, g, k, ()) = some ((), (Qmc b (if b.2.2.1.any (Qak (g, k, ())) = true then QbC k b.2.2.2.2.2.1 else b.2.2.2.2.2.1), ())) := by
 rw [← Qih]
 refine Dr.eq ?_
 unfold F_fq
 have k1 : Dr (L_fq_1 (((), (g, (k, ((0 : Int), ())))), ((b, ()), ()))) fun o => o = .inl ((), ((Qmc b (Qdq g k b.2.2.1 b.2.2.2.2.2.1), ()), ())) := by
  refine Qco (fun n u => ∃ (i : Nat) (hs : List QK), u = (((), (g, (k, ((i : Int), ())))), ((Qmc b hs, ()), ())) ∧ n = b.2.2.1.length - i ∧ i ≤ b.2.2.1.length ∧ hs.length = b.2.2.2.2.2.1.length ∧ Qdq g k (b.2.2.1.drop i) hs = Qdq g k b.2.2.1 b.2.2.2.2.2.1) ?_ _ _ ⟨0, _, rfl, rfl, Nat.zero_le _, rfl, rfl⟩ (by rw [Qat]; omega)
  rintro rec n _ ⟨i, hs, rfl, hn, hi, hl, he⟩ ih
  unfold l_fq_1 Qmc
  dsimp only
  by_cases hlt : i < b.2.2.1.length
  case neg =>
   rw [if_neg (lt_f hlt)]
   rw [List.drop_of_length_le (by omega)] at he
   exact Dr.ret (by rw [← he]; rfl)
  rw [if_pos (lt_t hlt), if_pos nat0, Qs hlt, QO (by omega)]
  rw [List.drop_eq_getElem_cons hlt, Qdq] at he
  have hky := hk _ (List.getElem_mem hlt)
  generalize b.2.2.1[i] = y at *
  have skip : ¬ Qak (g, k, ()) y = true → Dr (rec (((), (g, (k, (((i + 1 : Nat) : Int), ())))), (((b.1, b.2.1, b.2.2.1, b.2.2.2.1, b.2.2.2.2.1, hs, b.2.2.2.2.2.2.1, b.2.2.2.2.2.2.2.1, b.2.2.2.2.2.2.2.2.1, ()), ()), ()))) fun o => o = .inl ((), (((b.1, b.2.1, b.2.2.1, b.2.2.2.1, b.2.2.2.2.1, Qdq g k b.2.2.1 b.2.2.2.2.2.1, b.2.2.2.2.2.2.1, b.2.2.2.2.2.2.2.1, b.2.2.2.2.2.2.2.2.1, ()), ()), ())) := fun hn' => by
   rw [if_neg hn'] at he
   exact ih (n - 1) _ (by omega) ⟨i + 1, hs, rfl, by omega, by omega, hl, he⟩
  by_cases h1 : y.1 = g
  ·rw [if_pos (by simpa using h1)]
   by_cases h2 : y.2.1 = k
   ·have hs' : Qak (g, k, ()) y = true := by unfold Qak; simp [h1, h2]
    have hkk := hky hs'
    rw [if_pos hs'] at he
    rw [if_pos (by simpa using h2)]
    refine Dr.gatE (n := hs.length) rfl (by omega) fun z hz => ih (n - 1) _ (by omega) ⟨i + 1, _, rfl, by omega, by omega, by simpa using hl, ?_⟩
    rw [← he]
    unfold QbC
    rw [List.getD_eq_getElem?_getD, hz]
    rfl
   ·rw [if_neg (by simpa using h2)]
    exact skip (by unfold Qak; simp; intro _ e; exact absurd e.symm h2)
  ·rw [if_neg (by simpa using h1)]
   exact skip (by unfold Qak; simp; intro e; exact absurd e.symm h1)
 refine k1.bind fun o ho => ?_
 subst ho
 exact Dr.ret rfl
theorem Qhm {x : QH} (h : HK x) (hc : x.2.2.2.2.2.1 < 1000000) : F_fr (boxH x, ()) = some ((), (boxH (QcN x), ())) := by
 obtain ⟨h1, h2, h3, h4⟩ := h.turn
 obtain ⟨g1, g2, g3⟩ := h.guest h3
 have hS := h.okS
 have hfr : FR (Qaq x) := Qmt (Mc.of (x.2.2.1.getD (turnG x).toNat QbT) x.2.1) (pgM x.1 (turnG x))
 have hstep : F_do ((Mc.of (x.2.2.1.getD (turnG x).toNat QbT) x.2.1).bus (pgM x.1 (turnG x)), ()) = some ((), ((Qaq x).bus (pgM x.1 (turnG x)), ())) := QnL hS
 have hm := h.mem.2
 have hrang := QkN h
 have hcl := h.clock
 have hle := QhQ g3
 have hpl := h.ok.plan
 refine Dr.eq ?_
 unfold F_fr
 refine Dr.guard h1.1 (Dr.step h4 (Dr.guard g1 (Dr.step g2 (Dr.step (Qml h.ok h3) (Dr.step (Qqc _ _ _ hle (by show x.2.1.length ≤ 1048576; omega)) (Dr.step hstep ?_))))))
 refine Dr.guard g1 (Dr.step g2 ?_)
 have e1 : IntKind.i64.wrap (x.2.2.2.2.2.1 + 1) = x.2.2.2.2.2.1 + 1 := QZ (by omega) (by omega)
 have e2 : IntKind.i64.wrap (x.2.2.2.2.1 - 1) = x.2.2.2.2.1 - 1 := QZ (by omega) (by omega)
 have e3 : IntKind.i64.wrap (x.2.2.2.1 + 1) = x.2.2.2.1 + 1 := QZ (by omega) (by omega)
 have hpos : 0 < (x.1.2.2.2.1.length : Int) := by omega
 have hmod : (x.2.2.2.1 + 1).tmod ((x.1.2.2.2.1.length : Nat) : Int) = (x.2.2.2.1 + 1) % (x.1.2.2.2.1.length : Int) := Int.tmod_eq_emod_of_nonneg (by omega)
 have m0 := Int.emod_nonneg (x.2.2.2.1 + 1) (b := (x.1.2.2.2.1.length : Int)) (by omega)
 have m1 := Int.emod_lt_of_pos (x.2.2.2.1 + 1) (b := (x.1.2.2.2.1.length : Int)) hpos
 have hmi : ((x.2.2.2.1 + 1) % (x.1.2.2.2.1.length : Int)).toNat < x.1.2.2.2.1.length := by omega
 have hd : x.1.2.2.2.1[((x.2.2.2.1 + 1) % (x.1.2.2.2.1.length : Int)).toNat]? = some (x.1.2.2.2.1.getD ((x.2.2.2.1 + 1) % (x.1.2.2.2.1.length : Int)).toNat (0, 0, ())) := by
  rw [List.getD_eq_getElem?_getD, List.getElem?_eq_getElem hmi]; rfl
 -- what is behind the bell
 have fin : ∀ hs : List QK, hs = (if Qes x = true then QbC (Qaq x).ring (Qam x) else Qam x) →
   (∀ (a : Int), a = x.2.2.2.2.1 - 1 → Dr (if (a == (0 : Int)) = true then (if ((x.1.2.2.2.1.length : Nat) : Int) = 0 then none else if 0 ≤ (x.2.2.2.1 + 1).tmod ((x.1.2.2.2.1.length : Nat) : Int) then (x.1.2.2.2.1[((x.2.2.2.1 + 1).tmod ((x.1.2.2.2.1.length : Nat) : Int)).toNat]?).bind fun y => some ((), ((x.1.1, x.1.2.1, x.1.2.2.1, x.1.2.2.2.1, (Qaq x).m, hs, (x.2.2.2.1 + 1).tmod ((x.1.2.2.2.1.length : Nat) : Int), y.2.1, x.2.2.2.2.2.1 + 1, ()), ())) else none)
    else some ((), ((x.1.1, x.1.2.1, x.1.2.2.1, x.1.2.2.2.1, (Qaq x).m, hs, x.2.2.2.1, a, x.2.2.2.2.2.1 + 1, ()), ()))) fun r => r = ((), (boxH (QcN x), ()))) := by
  rintro hs rfl a rfl
  rw [hmod]
  by_cases hz : x.2.2.2.2.1 - 1 = 0
  ·refine Dr.pos (by simpa using hz) (Dr.nguard (by omega) (Dr.guard m0 (Dr.step hd (Dr.ret ?_))))
   unfold boxH QcN Qff
   dsimp only
   rw [if_pos hz]
  ·refine Dr.neg (by simpa using hz) (Dr.ret ?_)
   unfold boxH QcN Qff
   dsimp only
   rw [if_neg hz]
 by_cases hr : 0 ≤ (Qaq x).ring
 ·refine Dr.pos (QaX.2 hr) ?_
  have hring := QnK (Qmc (boxH (x.1, (Qaq x).m, x.2.2.1, x.2.2.2.1, x.2.2.2.2.1, x.2.2.2.2.2.1, ())) (Qam x)) (turnG x) (Qaq x).ring (by have := h.ok.bells.1; show x.1.2.2.1.length ≤ 1000; omega) (fun y hy hs => by
   have hin : Qes x = true := List.any_eq_true.2 ⟨y, hy, hs⟩
   have := QfY.1 (hrang hin)
   show 0 ≤ (Qaq x).ring ∧ (Qaq x).ring < ((Qam x).length : Int)
   rw [QcM, h.len]
   exact this)
  refine Dr.step hring ?_
  have q := fin (if Qes x = true then QbC (Qaq x).ring (Qam x) else Qam x) rfl (IntKind.i64.wrap (x.2.2.2.2.1 - 1)) e2
  rw [← e1, ← e3] at q
  exact q
 ·refine Dr.neg (by rw [QaX]; exact hr) ?_
  have hno : ¬ Qes x = true := fun hin => hr (by have := QfY.1 (hrang hin); omega)
  have q := fin (Qam x) (by rw [if_neg hno]) (IntKind.i64.wrap (x.2.2.2.2.1 - 1)) e2
  rw [← e1, ← e3] at q
  exact q
theorem QhS {h : QK} {l : List TwoD} {m : List Int} (hh : Qal 1048576 h) (hm : m.length ≤ 1048576) (ho : OkS (Mc.of h m) l) : F_cb (h, l, m, 1, ()) = some (((Qah (Mc.of h m) l).res (Qah (Mc.of h m) l).fall (Qah (Mc.of h m) l).ring, ()), ()) := by
 rw [QiN h l m 1 hh hm ho (by decide), show (1 : Int).toNat = 1 from rfl]
 simp only [QbS]
 obtain ⟨h1, h2⟩ := Qmt (Mc.of h m) l
 have e1 : (if 0 ≤ (Qah (Mc.of h m) l).fall then (Qah (Mc.of h m) l).fall else -1) = (Qah (Mc.of h m) l).fall := by split <;> omega
 have e2 : (if 0 ≤ (Qah (Mc.of h m) l).ring then (Qah (Mc.of h m) l).ring else -1) = (Qah (Mc.of h m) l).ring := by split <;> omega
 rw [e1, e2]
theorem Qhc {x : QH} (h : HK x) (hc : x.2.2.2.2.2.1 < 1000000) : F_hk (boxH x, ()) = some ((), (boxH (QcN x), ())) := by
 obtain ⟨h1, h2, h3, h4⟩ := h.turn
 obtain ⟨g1, g2, g3⟩ := h.guest h3
 have hS := h.okS
 have hm := h.mem.2
 have hrang := QkN h
 have hcl := h.clock
 have hle := QhQ g3
 have hpl := h.ok.plan
 have hturn : F_hf (x, ()) = some ((turnG x, ()), ()) := by
  refine Dr.eq ?_
  unfold F_hf
  exact Dr.guard h1.1 (Dr.step h4 (Dr.ret rfl))
 have hst : F_cb (x.2.2.1.getD (turnG x).toNat QbT, pgM x.1 (turnG x), x.2.1, 1, ()) = some (((Qaq x).res (Qaq x).fall (Qaq x).ring, ()), ()) := QhS hle (by omega) hS
 refine Dr.eq ?_
 unfold F_hk
 refine Dr.step hturn (Dr.guard g1 (Dr.step g2 (Dr.step (QlH h.ok h3) (Dr.step hst ?_))))
 refine Dr.guard g1 (Dr.step g2 ?_)
 refine Dr.step (QgT (turnG x, (Qaq x).ring, ()) x.1.2.2.1 (by have := h.ok.bells.1; omega)) ?_
 have e1 : IntKind.i64.wrap (x.2.2.2.2.2.1 + 1) = x.2.2.2.2.2.1 + 1 := QZ (by omega) (by omega)
 have e2 : IntKind.i64.wrap (x.2.2.2.2.1 - 1) = x.2.2.2.2.1 - 1 := QZ (by omega) (by omega)
 have e3 : IntKind.i64.wrap (x.2.2.2.1 + 1) = x.2.2.2.1 + 1 := QZ (by omega) (by omega)
 have hpos : 0 < (x.1.2.2.2.1.length : Int) := by omega
 have hmod : (x.2.2.2.1 + 1).tmod ((x.1.2.2.2.1.length : Nat) : Int) = (x.2.2.2.1 + 1) % (x.1.2.2.2.1.length : Int) := Int.tmod_eq_emod_of_nonneg (by omega)
 have m0 := Int.emod_nonneg (x.2.2.2.1 + 1) (b := (x.1.2.2.2.1.length : Int)) (by omega)
 have m1 := Int.emod_lt_of_pos (x.2.2.2.1 + 1) (b := (x.1.2.2.2.1.length : Int)) hpos
 have hmi : ((x.2.2.2.1 + 1) % (x.1.2.2.2.1.length : Int)).toNat < x.1.2.2.2.1.length := by omega
 have hd : x.1.2.2.2.1[((x.2.2.2.1 + 1) % (x.1.2.2.2.1.length : Int)).toNat]? = some (x.1.2.2.2.1.getD ((x.2.2.2.1 + 1) % (x.1.2.2.2.1.length : Int)).toNat (0, 0, ())) := by
  rw [List.getD_eq_getElem?_getD, List.getElem?_eq_getElem hmi]; rfl
 have fin : ∀ hs : List QK, hs = (if Qes x = true then QbC (Qaq x).ring (Qam x) else Qam x) →
   (∀ (a : Int), a = x.2.2.2.2.1 - 1 → Dr (if (a == (0 : Int)) = true then (if ((x.1.2.2.2.1.length : Nat) : Int) = 0 then none else if 0 ≤ (x.2.2.2.1 + 1).tmod ((x.1.2.2.2.1.length : Nat) : Int) then (x.1.2.2.2.1[((x.2.2.2.1 + 1).tmod ((x.1.2.2.2.1.length : Nat) : Int)).toNat]?).bind fun y => some ((), ((x.1.1, x.1.2.1, x.1.2.2.1, x.1.2.2.2.1, (Qaq x).m, hs, (x.2.2.2.1 + 1).tmod ((x.1.2.2.2.1.length : Nat) : Int), y.2.1, x.2.2.2.2.2.1 + 1, ()), ())) else none)
    else some ((), ((x.1.1, x.1.2.1, x.1.2.2.1, x.1.2.2.2.1, (Qaq x).m, hs, x.2.2.2.1, a, x.2.2.2.2.2.1 + 1, ()), ()))) fun r => r = ((), (boxH (QcN x), ()))) := by
  rintro hs rfl a rfl
  rw [hmod]
  by_cases hz : x.2.2.2.2.1 - 1 = 0
  ·refine Dr.pos (by simpa using hz) (Dr.nguard (by omega) (Dr.guard m0 (Dr.step hd (Dr.ret ?_))))
   unfold boxH QcN Qff
   dsimp only
   rw [if_pos hz]
  ·refine Dr.neg (by simpa using hz) (Dr.ret ?_)
   unfold boxH QcN Qff
   dsimp only
   rw [if_neg hz]
 by_cases hin : Qes x = true
 ·refine Dr.pos hin ?_
  have hg := QfY.1 (hrang hin)
  refine Dr.gatE (n := (Qam x).length) rfl (by rw [QcM, h.len]; exact hg) fun z hz => ?_
  have hz' : (Qam x)[(Qaq x).ring.toNat]? = some z := hz
  have ez : QbC (Qaq x).ring (Qam x) = (Qam x).set (Qaq x).ring.toNat (QoI z) := by
   unfold QbC
   rw [List.getD_eq_getElem?_getD, hz']
   rfl
  have q := fin ((Qam x).set (Qaq x).ring.toNat (QoI z)) (by rw [if_pos hin, ez]) (IntKind.i64.wrap (x.2.2.2.2.1 - 1)) e2
  rw [← e1, ← e3] at q
  exact q
 ·refine Dr.neg hin ?_
  have q := fin (Qam x) (by rw [if_neg hin]) (IntKind.i64.wrap (x.2.2.2.2.1 - 1)) e2
  rw [← e1, ← e3] at q
  exact q
theorem QjV {X : Type} {xs : List X} {i : Nat} (h : i < xs.length) : xs.take i ++ [xs[i]] = xs.take (i + 1) := by
 rw [List.take_add_one, List.getElem?_eq_getElem h]
 rfl
theorem Qey {X : Type} {xs : List X} {i : Nat} (h : i < xs.length) : xs.set i xs[i] = xs := by
 apply List.ext_getElem (by simp)
 intro j h1 h2
 rw [List.getElem_set]
 split
 ·rename_i e; subst e; rfl
 ·rfl
theorem QiT {p : PolD} (hok : OkPol p) : F_fh (p, ()) = some (((p.1, p.2.1, p.2.2.1, p.2.2.2.1, ()), ()), ()) := by
 have hle := QkM hok
 have ho := hok.own
 have hb := hok.bells.1
 have hp := hok.plan.2
 have hl := hok.lanes.1
 refine Dr.eq ?_
 unfold F_fh
 dsimp only
 refine Dr.pos (by simp; omega) (.pos (by simp; omega) (.pos (by simp; omega) ?_))
 have k1 : Dr (L_fh_3 (((), ((), ((), ((0 : Int), ())))), ((p, (([], ([], ([], ([], ())))), (([], ([] ++ p.2.1, ([] ++ p.2.2.1, ([] ++ p.2.2.2.1, ())))), ()))), ()))) fun o => o = .inl (((), ((), ())), ((([], ([], ([], ([], ())))), ((p.1, (p.2.1, (p.2.2.1, (p.2.2.2.1, ())))), ())), ())) := by
  refine Qco (fun n u => ∃ i : Nat, u = (((), ((), ((), ((i : Int), ())))), ((p, (([], ([], ([], ([], ())))), ((p.1.take i, ([] ++ p.2.1, ([] ++ p.2.2.1, ([] ++ p.2.2.2.1, ())))), ()))), ())) ∧ n = p.1.length - i ∧ i ≤ p.1.length) ?_ _ _ ⟨0, rfl, rfl, Nat.zero_le _⟩ (by rw [Qat]; omega)
  rintro rec n _ ⟨i, rfl, hn, hi⟩ ih
  unfold l_fh_3
  dsimp only
  by_cases hlt : i < p.1.length
  case neg =>
   rw [if_neg (lt_f hlt), List.take_of_length_le (by omega)]
   exact Dr.ret rfl
  have hy := (hok.own1 _ (List.getElem_mem hlt)).2.1
  rw [if_pos (lt_t hlt), if_pos nat0, Qs hlt, QO (by omega)]
  refine Dr.pos (by simp; omega) (.pos (by simp; omega) ?_)
  exact ih (n - 1) _ (by omega) ⟨i + 1, by rw [List.nil_append, QjV hlt], by omega, by omega⟩
 refine k1.bind fun o h => ?_
 subst h
 exact Dr.ret rfl
theorem QgZ {x : QH} (h : HK x) : F_fi (x, ()) = some ((boxH x, ()), ()) := by
 have hle := h.le
 have hm := h.mem.2
 have hh := hle.2.2.1
 refine Dr.eq ?_
 unfold F_fi
 refine Dr.step (QiT h.ok) ?_
 unfold F_ci
 dsimp only
 rw [if_pos (by simp; omega), Option.bind_some]
 have k1 : Dr (L_fi_3 (((), ((), ((), ((0 : Int), ())))), ((boxH x, (([], ([], ([], ([], ([], ([], ((0 : Int), ((0 : Int), ((0 : Int), ()))))))))), ((x.1.1, (x.1.2.1, (x.1.2.2.1, (x.1.2.2.2.1, ([] ++ x.2.1, ([], (x.2.2.2.1, (x.2.2.2.2.1, (x.2.2.2.2.2.1, ()))))))))), ()))), ()))) fun o => o = .inl (((), ((), ())), ((([], ([], ([], ([], ([], ([], ((0 : Int), ((0 : Int), ((0 : Int), ()))))))))), (boxH x, ())), ())) := by
  refine Qco (fun n u => ∃ i : Nat, u = (((), ((), ((), ((i : Int), ())))), ((boxH x, (([], ([], ([], ([], ([], ([], ((0 : Int), ((0 : Int), ((0 : Int), ()))))))))), ((x.1.1, (x.1.2.1, (x.1.2.2.1, (x.1.2.2.2.1, ([] ++ x.2.1, (x.2.2.1.take i, (x.2.2.2.1, (x.2.2.2.2.1, (x.2.2.2.2.2.1, ()))))))))), ()))), ())) ∧ n = x.2.2.1.length - i ∧ i ≤ x.2.2.1.length) ?_ _ _ ⟨0, rfl, rfl, Nat.zero_le _⟩ (by rw [Qat]; omega)
  rintro rec n _ ⟨i, rfl, hn, hi⟩ ih
  unfold l_fi_3 boxH
  dsimp only
  by_cases hlt : i < x.2.2.1.length
  case neg =>
   rw [if_neg (lt_f hlt), List.take_of_length_le (by omega), List.nil_append]
   exact Dr.ret rfl
  rw [if_pos (lt_t hlt), if_pos nat0, Qs hlt, QO (by omega), Qju _ (hle.2.2.2 _ (List.getElem_mem hlt)), Option.bind_some]
  dsimp only
  refine Dr.pos (by simp; omega) ?_
  exact ih (n - 1) _ (by omega) ⟨i + 1, by rw [QjV hlt]; rfl, by omega, by omega⟩
 refine k1.bind fun o h => ?_
 subst h
 exact Dr.ret rfl
theorem QiL {p : PolD} (hok : OkPol p) : F_gx (p, ()) = some (((p.1, p.2.1, p.2.2.1, p.2.2.2.1, ()), ()), ()) := by
 have hle := QkM hok
 have ho := hok.own
 have hb := hok.bells.1
 have hp := hok.plan.2
 have hl := hok.lanes.1
 refine Dr.eq ?_
 unfold F_gx F_gt
 dsimp only
 rw [if_pos (by simp; omega), Option.bind_some]
 have k1 : Dr (L_gx_3 (((), ((), (((p.1.length : Nat) : Int), ((0 : Int), ())))), (((p.1, (p.2.1, (p.2.2.1, (p.2.2.2.1, ())))), (([], ([], ([], ([], ())))), ())), ()))) fun o => o = .inl (((), ((), ())), (((p.1, (p.2.1, (p.2.2.1, (p.2.2.2.1, ())))), (([], ([], ([], ([], ())))), ())), ())) := by
  refine Qco (fun n u => ∃ i : Nat, u = (((), ((), (((p.1.length : Nat) : Int), ((i : Int), ())))), (((p.1, (p.2.1, (p.2.2.1, (p.2.2.2.1, ())))), (([], ([], ([], ([], ())))), ())), ())) ∧ n = p.1.length - i ∧ i ≤ p.1.length) ?_ _ _ ⟨0, rfl, rfl, Nat.zero_le _⟩ (by rw [Qat]; omega)
  rintro rec n _ ⟨i, rfl, hn, hi⟩ ih
  unfold l_gx_3
  dsimp only
  by_cases hlt : i < p.1.length
  case neg =>
   rw [if_neg (lt_f hlt)]
   exact Dr.ret rfl
  have hy := (hok.own1 _ (List.getElem_mem hlt)).2.1
  rw [if_pos (lt_t hlt), if_pos ⟨nat0, Int.ofNat_lt.2 hlt⟩, Qs hlt, QO (by omega), Qcx (by omega), Option.bind_some, if_pos ⟨nat0, Int.ofNat_lt.2 hlt⟩, Qs hlt, Int.toNat_natCast]
  dsimp only
  rw [Qey hlt]
  exact ih (n - 1) _ (by omega) ⟨i + 1, rfl, by omega, by omega⟩
 refine k1.bind fun o h => ?_
 subst h
 unfold F_gu F_gv F_gw
 dsimp only
 rw [if_pos (by simp; omega), Option.bind_some, if_pos (by simp; omega), Option.bind_some, if_pos (by simp; omega), Option.bind_some]
 exact Dr.ret rfl
theorem QgY {x : QH} (h : HK x) : F_gz (x, ()) = some ((boxH x, ()), ()) := by
 have hle := h.le
 have hm := h.mem.2
 have hh := hle.2.2.1
 refine Dr.eq ?_
 unfold F_gz
 refine Dr.step (QiL h.ok) (.step (Qcx (q := x.2.1) (by omega)) ?_)
 unfold F_gy
 dsimp only
 rw [if_pos (by simp; omega), Option.bind_some]
 have k1 : Dr (L_gz_5 (((), ((), (((x.2.2.1.length : Nat) : Int), ((0 : Int), ())))), ((boxH x, (([], ([], ([], ([], ([], ([], ((0 : Int), ((0 : Int), ((0 : Int), ()))))))))), ())), ()))) fun o => o = .inl (((), ((), ())), ((boxH x, (([], ([], ([], ([], ([], ([], ((0 : Int), ((0 : Int), ((0 : Int), ()))))))))), ())), ())) := by
  refine Qco (fun n u => ∃ i : Nat, u = (((), ((), (((x.2.2.1.length : Nat) : Int), ((i : Int), ())))), ((boxH x, (([], ([], ([], ([], ([], ([], ((0 : Int), ((0 : Int), ((0 : Int), ()))))))))), ())), ())) ∧ n = x.2.2.1.length - i ∧ i ≤ x.2.2.1.length) ?_ _ _ ⟨0, rfl, rfl, Nat.zero_le _⟩ (by rw [Qat]; omega)
  rintro rec n _ ⟨i, rfl, hn, hi⟩ ih
  unfold l_gz_5 boxH
  dsimp only
  by_cases hlt : i < x.2.2.1.length
  case neg =>
   rw [if_neg (lt_f hlt)]
   exact Dr.ret rfl
  rw [if_pos (lt_t hlt), if_pos ⟨nat0, Int.ofNat_lt.2 hlt⟩, Qs hlt, QO (by omega), QhR _ (hle.2.2.2 _ (List.getElem_mem hlt)), Option.bind_some, if_pos ⟨nat0, Int.ofNat_lt.2 hlt⟩, Qs hlt, Int.toNat_natCast]
  dsimp only
  rw [Qey hlt]
  exact ih (n - 1) _ (by omega) ⟨i + 1, rfl, by omega, by omega⟩
 refine k1.bind fun o h => ?_
 subst h
 exact Dr.ret rfl
abbrev Qol := List Int × Int × List Int × Bool × Bool × Bool × Int × List Int × List Int × List Int × List Int × Unit
def Qcu (x : QH) (g : Int) : Qol := (Qkh 0 (x.2.2.1.getD g.toNat QbT) (QaJ x.2.1 (x.1.1.getD g.toNat [])) (QaJ x.2.1 (QaP g true x.1.2.1))).2
def vD (r : Qol) : Qss := ((r.1, r.2.1, r.2.2.1, r.2.2.2.1, r.2.2.2.2.1, r.2.2.2.2.2.1, r.2.2.2.2.2.2.1, r.2.2.2.2.2.2.2.1, r.2.2.2.2.2.2.2.2.1, ()), r.2.2.2.2.2.2.2.2.2.1, r.2.2.2.2.2.2.2.2.2.2.1, ())
theorem QrD {x : QH} {g : Int} (h : HK x) (hg : isG x.1 g = true) : QoW x g = (0, Qcu x g) := by
 unfold QoW Qcu
 rw [if_neg (by simpa using h.to), if_pos hg]
 rfl
theorem Qhn {x : QH} {g : Int} (h : HK x) (hg : isG x.1 g = true) : F_fl (x, g, ()) = some ((Qcu x g, ()), ()) := by
 obtain ⟨⟨g0, e1, e2⟩, a1, ⟨a2, a3⟩, a4⟩ := QhP h.le h.to hg
 have hok := h.ok
 have hm := h.mem.2
 have hll := hok.lanes.1
 unfold F_fl
 dsimp only
 rw [if_pos g0, e1, Option.bind_some, Qju _ a1, Option.bind_some, if_pos g0, e2, Option.bind_some, Qfm _ _ (by omega) a3 (by omega), Option.bind_some]
 rw [QqJ x.1 g true hok.lanes.1, Option.bind_some, Qfm _ _ (by omega) a4 (by have := Qfv g true x.1.2.1; have := hok.lanes.1; omega), Option.bind_some]
 rfl
theorem Qhd {x : QH} {g : Int} (hk : HK x) (hg : isG x.1 g = true) : F_hb (x, g, ()) = some ((Qcu x g, ()), ()) := by
 obtain ⟨⟨g0, e1, e2⟩, a1, ⟨a2, a3⟩, a4⟩ := QhP hk.le hk.to hg
 have hok := hk.ok
 have hm := hk.mem.2
 have hll := hok.lanes.1
 unfold Qcu
 unfold F_hb
 dsimp only
 rw [if_pos g0, e1, Option.bind_some, QhR _ a1, Option.bind_some, if_pos g0, e2, Option.bind_some, QkF _ _ (by omega) a3 (by omega), Option.bind_some]
 generalize x.2.2.1.getD g.toNat QbT = h at *
 generalize QaJ x.2.1 (x.1.1.getD g.toNat []) = ow at *
 dsimp only
 have key := QcR (step := l_hb_3) (γ := denO o_hb_3)
  (fun k (out : List Int) => ((x, g, (), (), x.1.2.1, ((x.1.2.1.length : Nat) : Int), ((k : Nat) : Int), ()), (([], 0, [], false, false, false, 0, [], [], [], [], ()), (h.1, h.2.1, h.2.2.1, h.2.2.2.1, h.2.2.2.2.1, h.2.2.2.2.2.1, h.2.2.2.2.2.2.1, h.2.2.2.2.2.2.2.1, h.2.2.2.2.2.2.2.2.1, ow, out, ()), ()), ()))
  x.1.2.1.length (Qae (by omega)) (fun k out => out.length ≤ 8 * k)
  (fun k out => some (.inl (((), (), ()), (([], 0, [], false, false, false, 0, [], [], [], [], ()), (h.1, h.2.1, h.2.2.1, h.2.2.2.1, h.2.2.2.2.1, h.2.2.2.2.2.1, h.2.2.2.2.2.2.1, h.2.2.2.2.2.2.2.1, h.2.2.2.2.2.2.2.2.1, ow, out ++ QaJ x.2.1 (QaP g true (x.1.2.1.drop k)), ()), ()), ()))) ?_ 0 [] (by omega) (by simp)
 ·have e0 : ((0 : Nat) : Int) = 0 := rfl
  rw [e0, List.drop_zero, List.nil_append] at key
  show (Qd l_hb_3 lots _).bind _ = _
  rw [key, Option.bind_some]
  rfl
 ·rintro rec k out hk' ho ih
  unfold l_hb_3
  dsimp only
  by_cases hlt : k < x.1.2.1.length
  ·have hln := (Qid hok _ (List.getElem_mem hlt)).2.1
   rw [if_pos (lt_t hlt), if_pos nat0, Qs hlt, QaB hlt, QaP, QO (by omega)]
   by_cases hq : (x.1.2.1[k]).1 = g
   ·rw [if_pos (by simpa using hq), if_pos hq, Qhb x.2.1 _ (by omega) (by omega), Option.bind_some]
    dsimp only
    have := QgH x.2.1 (x.1.2.1[k]).2.2.1
    rw [if_pos (by omega), ih _ hlt (by rw [List.length_append]; omega), List.append_assoc]
    rfl
   ·rw [if_neg (by simpa using hq), if_neg hq]
    exact ih _ hlt (by omega)
  ·rw [if_neg (lt_f hlt), QaS hlt]
   simp only [QaP, QaJ, List.flatMap_nil, List.append_nil]
def Qim (v w : Qol) : Bool := match F_fo (vD v, vD w, ()) with
 | some r => r.1.1
 | none => false
theorem QoJ {v w : Qol} (h : QnZ maxLen (vD v)) : F_fo (vD v, vD w, ()) = some ((Qim v w, ()), ()) ∧ F_he (vD v, vD w, ()) = some ((Qim v w, ()), ()) := by
 obtain ⟨b, e1, e2⟩ := QrE (vD v, vD w, ()) h
 unfold Qim
 rw [e1, e2]
 exact ⟨rfl, rfl⟩
theorem QmD {x : QH} {g : Int} (h : HK x) (hg : isG x.1 g = true) : QnZ maxLen (vD (Qcu x g)) := by
 have := QrC x g h.le
 rw [QrD h hg] at this
 obtain ⟨h1, h2, h3, h4, h5, h6⟩ := this
 exact ⟨⟨leM h1, leM h2, leM h3, leM h4⟩, leM h5, leM h6⟩
abbrev Qql := Int × Int × Bool × Unit
def Qbk (g : Int) : Nat → Int → QH → QH → Qql
 | 0, k, x, y => if Qim (Qcu x g) (Qcu y g) = true then (0, 0, true, ()) else (0, k, false, ())
 | r + 1, k, x, y => if Qim (Qcu x g) (Qcu y g) = true then Qbk g r (k + 1) (QcN x) (QcN y) else (0, k, false, ())
theorem QkQ {g n : Int} {x y : QH} (hx : HK x) (hy : HK y) (gx : isG x.1 g = true) (gy : isG y.1 g = true) (hn : 0 ≤ n ∧ n ≤ 200) (cx : x.2.2.2.2.2.1 + n ≤ 1000000) (cy : y.2.2.2.2.2.1 + n ≤ 1000000) :
  L_fs_15 ((g, (n, ((), ((), ((), ((0 : Int), ())))))), ((((0 : Int), ((0 : Int), (false, ()))), (boxH x, (boxH y, ()))), ())) = some (.inl (((), ()), ((Qbk g n.toNat 0 x y, ()), ()))) := by
 refine Dr.eq ?_
 refine Qco (fun m u => ∃ (k : Int) (x' y' : QH), u = ((g, (n, ((), ((), ((), (k, ())))))), ((((0 : Int), ((0 : Int), (false, ()))), (boxH x', (boxH y', ()))), ())) ∧ k + (m : Int) = n ∧ 0 ≤ k ∧ HK x' ∧ HK y' ∧ isG x'.1 g = true ∧ isG y'.1 g = true ∧ x'.2.2.2.2.2.1 + (m : Int) ≤ 1000000 ∧ y'.2.2.2.2.2.1 + (m : Int) ≤ 1000000 ∧ Qbk g m k x' y' = Qbk g n.toNat 0 x y) ?_ n.toNat _ ⟨0, x, y, rfl, by omega, by omega, hx, hy, gx, gy, by omega, by omega, rfl⟩ (by rw [Qat]; omega)
 rintro rec m _ ⟨k, x, y, rfl, hk, h0, hx, hy, gx, gy, cx, cy, he⟩ ih
 unfold l_fs_15
 refine Dr.step (Qhn hx gx) (.step (Qhn hy gy) (.step (QoJ (w := Qcu y g) (QmD hx gx)).1 ?_))
 cases hs : Qim (Qcu x g) (Qcu y g) with
 | false =>
  refine Dr.pos rfl (.ret ?_)
  cases m with
  | zero => rw [← he, Qbk, hs]; rfl
  | succ m => rw [← he, Qbk, hs]; rfl
 | true =>
  refine Dr.neg (by simp) ?_
  cases m with
  | zero =>
   have e : k = n := by omega
   refine Dr.pos (by simpa using e) (.ret ?_)
   rw [← he, Qbk, hs]; rfl
  | succ m =>
   have e : ¬ k = n := by omega
   refine Dr.neg (by simpa using e) (.step (Qhm hx (by omega)) (.step (Qhm hy (by omega)) ?_))
   dsimp only
   rw [QZ (n := k + 1) (by omega) (by omega)]
   refine ih m _ (by omega) ⟨k + 1, QcN x, QcN y, rfl, by omega, by omega, hx.next (by omega), hy.next (by omega), gx, gy, ?_, ?_, ?_⟩
   ·show x.2.2.2.2.2.1 + 1 + (m : Int) ≤ 1000000; omega
   ·show y.2.2.2.2.2.1 + 1 + (m : Int) ≤ 1000000; omega
   ·rw [← he, Qbk, hs, if_pos rfl]
theorem Qkz {g n : Int} {x y : QH} (hx : HK x) (hy : HK y) (gx : isG x.1 g = true) (gy : isG y.1 g = true) (hn : 0 ≤ n ∧ n ≤ 200) (cx : x.2.2.2.2.2.1 + n ≤ 1000000) (cy : y.2.2.2.2.2.1 + n ≤ 1000000) :
  L_hl_10 ((g, (n, ((), ((), ((), ((0 : Int), ())))))), ((((0 : Int), ((0 : Int), (false, ()))), (boxH x, (boxH y, ()))), ())) = some (.inl (((), ()), ((Qbk g n.toNat 0 x y, ()), ()))) := by
 refine Dr.eq ?_
 refine Qco (fun m u => ∃ (k : Int) (x' y' : QH), u = ((g, (n, ((), ((), ((), (k, ())))))), ((((0 : Int), ((0 : Int), (false, ()))), (boxH x', (boxH y', ()))), ())) ∧ k + (m : Int) = n ∧ 0 ≤ k ∧ HK x' ∧ HK y' ∧ isG x'.1 g = true ∧ isG y'.1 g = true ∧ x'.2.2.2.2.2.1 + (m : Int) ≤ 1000000 ∧ y'.2.2.2.2.2.1 + (m : Int) ≤ 1000000 ∧ Qbk g m k x' y' = Qbk g n.toNat 0 x y) ?_ n.toNat _ ⟨0, x, y, rfl, by omega, by omega, hx, hy, gx, gy, by omega, by omega, rfl⟩ (by rw [Qat]; omega)
 rintro rec m _ ⟨k, x, y, rfl, hk, h0, hx, hy, gx, gy, cx, cy, he⟩ ih
 unfold l_hl_10
 refine Dr.step (Qhd hx gx) (.step (Qhd hy gy) (.step (QoJ (w := Qcu y g) (QmD hx gx)).2 ?_))
 cases hs : Qim (Qcu x g) (Qcu y g) with
 | false =>
  refine Dr.pos rfl (.ret ?_)
  cases m with
  | zero => rw [← he, Qbk, hs]; rfl
  | succ m => rw [← he, Qbk, hs]; rfl
 | true =>
  refine Dr.neg (by simp) ?_
  cases m with
  | zero =>
   have e : k = n := by omega
   refine Dr.pos (by simpa using e) (.ret ?_)
   rw [← he, Qbk, hs]; rfl
  | succ m =>
   have e : ¬ k = n := by omega
   refine Dr.neg (by simpa using e) (.step (Qhc hx (by omega)) (.step (Qhc hy (by omega)) ?_))
   dsimp only
   rw [QZ (n := k + 1) (by omega) (by omega)]
   refine ih m _ (by omega) ⟨k + 1, QcN x, QcN y, rfl, by omega, by omega, hx.next (by omega), hy.next (by omega), gx, gy, ?_, ?_, ?_⟩
   ·show x.2.2.2.2.2.1 + 1 + (m : Int) ≤ 1000000; omega
   ·show y.2.2.2.2.2.1 + 1 + (m : Int) ≤ 1000000; omega
   ·rw [← he, Qbk, hs, if_pos rfl]
theorem QpF (m : List QH) (hm : m.length ≤ 1000) (n : Int) : F_gs_1 (m, (n, ()), ()) = some ((m.any (fun x => !leI (IntKind.i64.wrap (x.2.2.2.2.2.1 + n)) 1000000), ()), ()) := by
 refine Dr.eq ?_
 unfold F_gs_1 F_gq_1
 have k1 : Dr (L_gr_2 ((m, ((n, ()), (((m.length : Nat) : Int), ((0 : Int), ())))), ((), ()))) fun o => (m.any (fun x => !leI (IntKind.i64.wrap (x.2.2.2.2.2.1 + n)) 1000000) = true ∧ ∃ i : Int, 0 ≤ i ∧ o = .inr (.inl ((i, ()), ((), ())))) ∨ (m.any (fun x => !leI (IntKind.i64.wrap (x.2.2.2.2.2.1 + n)) 1000000) = false ∧ o = .inl ((), ((), ()))) := by
  refine Qco (fun k u => ∃ i : Nat, u = ((m, ((n, ()), (((m.length : Nat) : Int), ((i : Int), ())))), ((), ())) ∧ k = m.length - i ∧ i ≤ m.length ∧ (m.drop i).any (fun x => !leI (IntKind.i64.wrap (x.2.2.2.2.2.1 + n)) 1000000) = m.any (fun x => !leI (IntKind.i64.wrap (x.2.2.2.2.2.1 + n)) 1000000)) ?_ _ _ ⟨0, rfl, rfl, Nat.zero_le _, rfl⟩ (by rw [Qat]; omega)
  rintro rec k _ ⟨i, rfl, hk, hi, he⟩ ih
  unfold l_gr_2
  dsimp only
  by_cases hlt : i < m.length
  case neg =>
   rw [if_neg (lt_f hlt)]
   rw [List.drop_of_length_le (by omega)] at he
   exact Dr.ret (.inr ⟨by rw [← he]; rfl, rfl⟩)
  rw [if_pos (lt_t hlt), if_pos nat0, Qs hlt]
  rw [List.drop_eq_getElem_cons hlt, List.any_cons] at he
  have e1 : F_gp_1 (m[i], n, ()) = some ((!leI (IntKind.i64.wrap ((m[i]).2.2.2.2.2.1 + n)) 1000000, ()), ()) := by
   have e2 : (!leI (IntKind.i64.wrap ((m[i]).2.2.2.2.2.1 + n)) 1000000) = ltI 1000000 (IntKind.i64.wrap ((m[i]).2.2.2.2.2.1 + n)) := by
    unfold leI; cases ltI 1000000 (IntKind.i64.wrap ((m[i]).2.2.2.2.2.1 + n)) <;> rfl
   rw [e2]
   rfl
  refine Dr.step e1 ?_
  dsimp only
  cases hb : (!leI (IntKind.i64.wrap ((m[i]).2.2.2.2.2.1 + n)) 1000000) with
  | true =>
   rw [hb, Bool.true_or] at he
   exact Dr.pos rfl (.ret (.inl ⟨he.symm, i, by omega, rfl⟩))
  | false =>
   rw [hb, Bool.false_or] at he
   rw [QO (by omega)]
   exact Dr.neg (by simp) (ih (k - 1) _ (by omega) ⟨i + 1, rfl, by omega, by omega, he⟩)
 refine Dr.bind (Q := fun r => r = ((if m.any (fun x => !leI (IntKind.i64.wrap (x.2.2.2.2.2.1 + n)) 1000000) = true then r.1.1 else -1, ()), ()) ∧ (m.any (fun x => !leI (IntKind.i64.wrap (x.2.2.2.2.2.1 + n)) 1000000) = true → 0 ≤ r.1.1)) (k1.bind fun o ho => ?_) fun r hr => Dr.ret ?_
 ·rcases ho with ⟨h1, i, h2, rfl⟩ | ⟨h1, rfl⟩
  ·exact Dr.ret ⟨by rw [if_pos h1], fun _ => h2⟩
  ·exact Dr.ret ⟨by rw [if_neg (by rw [h1]; decide)], fun h => by rw [h1] at h; cases h⟩
 ·obtain ⟨h1, h2⟩ := hr
  cases hb : m.any (fun x => !leI (IntKind.i64.wrap (x.2.2.2.2.2.1 + n)) 1000000) with
  | true =>
   have := h2 hb
   have : leI 0 r.1.1 = true := by rw [QX]; exact decide_eq_true this
   rw [this]
  | false =>
   rw [hb] at h1
   rw [h1]
   rfl
theorem QbL (x y : QH) (n : Int) : F_gp (n, [x, y], ()) = some ((if Qav x n = true then (if Qav y n = true then 0 else 3) else 3, ()), ()) := by
 unfold F_gp Qav
 dsimp only
 rw [Qan, Option.bind_some]
 dsimp only
 cases inB n 0 200
 ·rw [if_neg (by simp), if_neg (by simp)]
 ·rw [if_pos (show (!true) = false from rfl), QpF _ (by simp), Option.bind_some]
  dsimp only
  rw [List.any_cons, List.any_cons, List.any_nil]
  cases leI (IntKind.i64.wrap (x.2.2.2.2.2.1 + n)) 1000000
  ·rfl
  ·cases leI (IntKind.i64.wrap (y.2.2.2.2.2.1 + n)) 1000000 <;> rfl
theorem QeT {x : QH} {n : Int} (h : HK x) (hs : Qav x n = true) : (0 ≤ n ∧ n ≤ 200) ∧ x.2.2.2.2.2.1 + n ≤ 1000000 := by
 unfold Qav at hs
 obtain ⟨h1, h2⟩ := Bool.and_eq_true_iff.1 hs
 have h1 := Qen.1 h1
 have hc := h.clock
 rw [QZ (by omega) (by omega)] at h2
 refine ⟨h1, ?_⟩
 rw [QX] at h2
 have := of_decide_eq_true h2
 omega
def Qoq (x y : QH) (g n : Int) : Qql :=
 if Qay x ≠ 0 then (Qay x, 0, false, ())
 else if Qay y ≠ 0 then (Qay y, 0, false, ())
 else if isG x.1 g = true then
  if isG y.1 g = true then
   if Qav x n = true then
    if Qav y n = true then Qbk g n.toNat 0 x y else (3, 0, false, ())
   else (3, 0, false, ())
  else (4, 0, false, ())
 else (4, 0, false, ())
theorem QnE (x y : QH) (g n : Int) (lx : Qbp 1048576 x) (ly : Qbp 1048576 y) : F_fs (x, y, g, n, ()) = some ((Qoq x y g n, ()), ()) := by
 refine Dr.eq ?_
 unfold F_fs F_ff Qoq
 refine Dr.step (Qhl x lx) ?_
 dsimp only
 by_cases h1 : Qay x = 0
 case neg =>
  rw [if_pos (by simpa using h1), if_pos h1]
  exact Dr.ret rfl
 rw [if_neg (by simpa using h1), if_neg (by simpa using h1)]
 refine Dr.step (Qhl y ly) ?_
 dsimp only
 by_cases h2 : Qay y = 0
 case neg =>
  rw [if_pos (by simpa using h2), if_pos h2]
  exact Dr.ret rfl
 rw [if_neg (by simpa using h2), if_neg (by simpa using h2)]
 have hx := HK.of h1
 have hy := HK.of h2
 refine Dr.step (QcP x.1 g lx.1.1.1) ?_
 dsimp only
 by_cases h3 : isG x.1 g = true
 case neg =>
  rw [if_neg (by simpa using h3), if_neg h3]
  exact Dr.ret rfl
 rw [if_pos (by simpa using h3), if_pos h3]
 refine Dr.step (QcP y.1 g ly.1.1.1) ?_
 dsimp only
 by_cases h4 : isG y.1 g = true
 case neg =>
  rw [if_pos (by simpa using h4), if_neg h4]
  exact Dr.ret rfl
 rw [if_neg (by simpa using h4), if_pos h4]
 refine Dr.step (Qgj x n) ?_
 dsimp only
 by_cases h5 : Qav x n = true
 case neg =>
  rw [if_neg (by simpa using h5), if_neg h5]
  exact Dr.ret rfl
 rw [if_pos (by simpa using h5), if_pos h5]
 refine Dr.step (Qgj y n) ?_
 dsimp only
 by_cases h6 : Qav y n = true
 case neg =>
  rw [if_pos (by simpa using h6), if_neg h6]
  exact Dr.ret rfl
 rw [if_neg (by simpa using h6), if_pos h6]
 have s1 := QeT hx h5
 have s2 := QeT hy h6
 exact Dr.step (QgZ hx) (.step (QgZ hy) (.step (QkQ hx hy h3 h4 s1.1 s1.2 s2.2) (.ret rfl)))
theorem Qna (x y : QH) (g n : Int) (lx : Qbp 1048576 x) (ly : Qbp 1048576 y) : F_hl (x, y, g, n, ()) = some ((Qoq x y g n, ()), ()) := by
 refine Dr.eq ?_
 unfold F_hl Qoq
 have f1 := QbV (Qay x) (Qay y)
 refine Dr.step (Qha x lx) (.step (Qha y ly) ?_)
 by_cases h1 : Qay x = 0
 case neg =>
  rw [if_pos h1] at f1
  refine Dr.step f1 ?_
  dsimp only
  rw [if_neg (by simpa using h1)]
  have f2 := QbV (Qay x) (if Qav x n = true then (if Qav y n = true then 0 else 3) else 3)
  rw [if_pos h1] at f2
  refine Dr.step (QbL x y n) (.step f2 ?_)
  dsimp only
  rw [if_pos (by simpa using h1), if_pos h1]
  exact Dr.ret rfl
 rw [if_neg (by simpa using h1)] at f1
 refine Dr.step f1 ?_
 dsimp only
 by_cases h2 : Qay y = 0
 case neg =>
  rw [if_neg (by simpa using h2)]
  have f2 := QbV (Qay y) (if Qav x n = true then (if Qav y n = true then 0 else 3) else 3)
  rw [if_pos h2] at f2
  refine Dr.step (QbL x y n) (.step f2 ?_)
  dsimp only
  rw [if_pos (by simpa using h2), if_neg (by simpa using h1), if_pos h2]
  exact Dr.ret rfl
 rw [if_pos (by simpa using h2), if_neg (by simpa using h1), if_neg (by simpa using h2)]
 have hx := HK.of h1
 have hy := HK.of h2
 refine Dr.step (QcO x.1 g lx.1.1.1) ?_
 dsimp only
 by_cases h3 : isG x.1 g = true
 case neg =>
  rw [if_neg h3, if_neg h3]
  refine Dr.step (QbL x y n) (.step (QbV _ _) ?_)
  dsimp only
  rw [if_pos (show (4 : Int) ≠ 0 by decide), if_pos (by decide)]
  exact Dr.ret rfl
 rw [if_pos h3, if_pos h3]
 refine Dr.step (QcO y.1 g ly.1.1.1) ?_
 dsimp only
 by_cases h4 : isG y.1 g = true
 case neg =>
  rw [if_pos (by simpa using h4), if_neg h4]
  refine Dr.step (QbL x y n) (.step (QbV _ _) ?_)
  dsimp only
  rw [if_pos (show (4 : Int) ≠ 0 by decide), if_pos (by decide)]
  exact Dr.ret rfl
 rw [if_neg (by simpa using h4), if_pos h4]
 have f2 := QbV (Qay y) (if Qav x n = true then (if Qav y n = true then 0 else 3) else 3)
 rw [if_neg (show ¬ Qay y ≠ 0 by simpa using h2)] at f2
 refine Dr.step (QbL x y n) (.step f2 ?_)
 dsimp only
 by_cases h5 : Qav x n = true
 case neg =>
  rw [if_neg h5, if_neg h5, if_pos (by decide)]
  exact Dr.ret rfl
 rw [if_pos h5, if_pos h5]
 by_cases h6 : Qav y n = true
 case neg =>
  rw [if_neg h6, if_neg h6, if_pos (by decide)]
  exact Dr.ret rfl
 rw [if_pos h6, if_pos h6, if_neg (by decide)]
 have s1 := QeT hx h5
 have s2 := QeT hy h6
 exact Dr.step (QgY hx) (.step (QgY hy) (.step (Qkz hx hy h3 h4 s1.1 s1.2 s2.2) (.ret rfl)))
theorem QqD (r : Qql) : F_hm (r, r, ()) = some ((true, ()), ()) := by
 unfold F_hm
 dsimp only
 rw [if_neg (by simp), if_neg (by simp), if_neg (by simp)]
theorem QiJ (x y : QH) (g n : Int) (lx : Qbp maxLen x) (ly : Qbp maxLen y) : F_hz (x, y, g, n, ()) = some ((true, ()), ()) := by
 unfold F_hz
 simp only [QP, decide_eq_true_eq]
 obtain ⟨r1, e1, c1⟩ := QjT x 1048576 (by omega) (by omega) lx
 rw [e1, Option.bind_some]
 by_cases d1 : r1 < 0
 ·rw [if_pos d1]
 rw [if_neg d1]
 have c1 := c1.resolve_left d1
 obtain ⟨r2, e2, c2⟩ := QjT y r1 (by omega) (by omega) ly
 rw [e2, Option.bind_some]
 by_cases d2 : r2 < 0
 ·rw [if_pos d2]
 rw [if_neg d2]
 have c2 := c2.resolve_left d2
 refine Dr.eq ?_
 have tx := QjW x c1.2.2
 have ty := QjW y c2.2.2
 refine Dr.step tx (.step ty (.step (QnE x y g n c1.2.2 c2.2.2) (.step tx (.step ty (.step (Qna x y g n c1.2.2 c2.2.2) (.step (QqD _) ?_))))))
 refine Dr.neg (by decide) (.step tx (.step (Qjj x c1.2.2) (.neg (by decide) (.step ty (.step (Qjj y c2.2.2) (.neg (by decide) (.ret rfl)))))))
theorem Qlv : ∀ x, inRP P_hz x → F_hz x = some ((true, ()), ()) := by
 rintro ⟨x, y, g, n, _⟩ ⟨hx, hy, _⟩
 exact QiJ x y g n ⟨⟨⟨hx.1.1.1, fun l hl => (hx.1.1.2 l hl).1⟩, hx.1.2.1.1, hx.1.2.2.1.1, hx.1.2.2.2.1.1⟩, hx.2.1.1, hx.2.2.1.1, fun h hh => QlO (hx.2.2.1.2 h hh)⟩ ⟨⟨⟨hy.1.1.1, fun l hl => (hy.1.1.2 l hl).1⟩, hy.1.2.1.1, hy.1.2.2.1.1, hy.1.2.2.2.1.1⟩, hy.2.1.1, hy.2.2.1.1, fun h hh => QlO (hy.2.2.1.2 h hh)⟩
end Go.Proofs.YtajnommlfjfgpaaGreatDoor
