/- Plain laws: what the functions compute, and that both programs compute the same. -/
import Derived.Test.YtopmpmbdkieenaaGreatDoorPb2
namespace Go.Proofs.YtopmpmbdkieenaaGreatDoor
open Go Go.RowKit S Go.Proofs
set_option maxRecDepth 100000
set_option linter.unusedVariables false
set_option linter.unusedSimpArgs false
section
variable {r cs iq oq m : List Int} {pc dn ring fall : Int} {ha wa ru : Bool} {l : List TwoD} {s : Mc}
theorem Qro (h : OkS s l) {op d a i : Int} (hi : OkI op d a i) (hop : op = 14 ∨ op = 15) {e : Bool × Int × Int × Mc} (he : exM s l op d a i = e) : F_cg (s.bus l, (op, d, a, i, ()), ()) =
  some ((e.1, ()), (({ e.2.2.2 with r := if e.1 = true ∧ op = 14 ∧ 0 < d then e.2.2.2.r.set d.toNat e.2.2.1 else e.2.2.2.r }).bus l, ())) := by
 obtain ⟨r, pc, cs, ha, wa, ru, dn, iq, oq, m, ring, fall⟩ := s
 obtain ⟨hr, hpc, hc, hiq, hoq, hdn, hl⟩ := h
 have hd := hi.hd
 have ha' := hi.ha
 unfold F_cg Mc.bus
 unfold exM Mc.trap at he
 dsimp only at *
 have hda : a.toNat < r.length := by rw [hr.len]; omega
 have hdd : d.toNat < r.length := by rw [hr.len]; omega
 have hia : 0 ≤ a ∧ a < ((r.length : Nat) : Int) := by rw [hr.len]; omega
 have hid : 0 ≤ d ∧ d < ((r.length : Nat) : Int) := by rw [hr.len]; omega
 rw [if_pos hia, Qn 0 hda, QkG, Obn]
 dsimp only
 rw [QcL, Obn]
 dsimp only
 rcases hop with rfl | rfl
 ·rw [if_neg (by decide), if_neg (by decide), if_pos rfl] at he
  rw [if_neg (by decide), QeR hc hl, Obn]
  dsimp only
  have hin := QbG hc hl (addW (r.getD a.toNat 0) (off i)) 1
  generalize QN cs l m (addW (r.getD a.toNat 0) (off i)) 1 = q at *
  by_cases h0 : q.2 = 0
  ·rw [if_neg (by simpa using h0)] at he
   rw [if_neg (by simpa using h0), if_pos (by decide)]
   by_cases hq : 1000 ≤ q.1
   ·have hle : q.1 ≤ 1007 := by have := hl.mlen; rcases hin h0 with h | h <;> omega
    rw [if_pos hq] at he
    subst he
    rw [if_pos (QaZ.2 hq), Qt (by omega) (by omega), QoP hc hiq, Obn]
    dsimp only
    rw [QdN hr hd, Obn]
    simp
   ·have hlt : 0 ≤ q.1 ∧ q.1 < ((m.length : Nat) : Int) := by rcases hin h0 with h | h; omega; exact h
    rw [if_neg hq] at he
    subst he
    rw [if_neg (by rw [QaZ]; exact hq), if_pos (by decide), if_pos hlt, Qn 0 (by omega), QdN hr hd, Obn]
    simp
  ·rw [if_pos h0] at he
   subst he
   rw [if_pos (by simpa using h0), Qcf hc, Obn]
   simp
 ·rw [if_neg (by decide), if_neg (by decide), if_neg (by decide), if_pos rfl] at he
  rw [if_pos (by decide), QeR hc hl, Obn]
  dsimp only
  have hin := QbG hc hl (addW (r.getD a.toNat 0) (off i)) 2
  generalize QN cs l m (addW (r.getD a.toNat 0) (off i)) 2 = q at *
  by_cases h0 : q.2 = 0
  ·rw [if_neg (by simpa using h0)] at he
   rw [if_neg (by simpa using h0), if_neg (by decide), if_neg (by decide)]
   by_cases hq : 1000 ≤ q.1
   ·have hle : q.1 ≤ 1007 := by have := hl.mlen; rcases hin h0 with h | h <;> omega
    rw [if_pos hq] at he
    subst he
    rw [if_pos (QaZ.2 hq), Qt (by omega) (by omega), if_pos hid, Qn 0 hdd, Qnv hc hoq, Obn]
    simp
   ·have hlt : 0 ≤ q.1 ∧ q.1 < ((m.length : Nat) : Int) := by rcases hin h0 with h | h; omega; exact h
    rw [if_neg hq] at he
    subst he
    rw [if_neg (by rw [QaZ]; exact hq), if_pos hid, Qn 0 hdd, if_pos hlt, Qn 0 (by omega)]
    simp
  ·rw [if_pos h0] at he
   subst he
   rw [if_pos (by simpa using h0), Qcf hc, Obn]
   simp
end
section
variable {l : List TwoD} {s : Mc}
theorem QsJ (h : OkS s l) {op d a i : Int} (hi : OkI op d a i) {e : Bool × Mc} (he : doM s l op d a i = e) : F_cr (s.bus l, (op, d, a, i, ()), ()) = some ((e.1, ()), (e.2.bus l, ())) := by
 have hmem := Qro h hi
 obtain ⟨r, pc, cs, ha, wa, ru, dn, iq, oq, m, ring, fall⟩ := s
 obtain ⟨hr, hpc, hc, hiq, hoq, hdn, hl⟩ := h
 have hd := hi.hd
 have ha' := hi.ha
 unfold doM at he
 unfold F_cr
 unfold Mc.bus at hmem ⊢
 dsimp only at *
 have hda : a.toNat < r.length := by rw [hr.len]; omega
 have hia : 0 ≤ a ∧ a < ((r.length : Nat) : Int) := by rw [hr.len]; omega
 rw [QcL, Obn]
 dsimp only
 rw [QkG, Obn]
 dsimp only
 rw [QcL, Obn]
 dsimp only
 by_cases h12 : op = 12
 ·subst h12
  rw [show exM ⟨r, pc, cs, ha, wa, ru, dn, iq, oq, m, ring, fall⟩ l 12 d a i = (true, addW pc 1, addW (r.getD a.toNat 0) (off i), ⟨r, pc, cs, ha, wa, ru, dn, iq, oq, m, ring, fall⟩) from rfl] at he
  subst he
  rw [if_pos (by decide), if_pos hia, Qn 0 hda, Obn]
  dsimp only
  rw [QcL, Obn]
  dsimp only
  rw [QdN hr hd, Obn]
  simp [wrD]
 rw [if_neg (by simpa using h12)]
 by_cases h13 : op = 13
 ·subst h13
  rw [show exM ⟨r, pc, cs, ha, wa, ru, dn, iq, oq, m, ring, fall⟩ l 13 d a i = (true, addW pc 1, i * 65536, ⟨r, pc, cs, ha, wa, ru, dn, iq, oq, m, ring, fall⟩) from rfl] at he
  subst he
  rw [if_pos (by decide), Qsc hi.hi, QdN hr hd, Obn]
  simp [wrD]
 rw [if_neg (by simpa using h13)]
 by_cases h14 : op = 14
 ·subst h14
  rw [if_pos (by decide), hmem (.inl rfl) rfl, Obn]
  generalize hx : exM ⟨r, pc, cs, ha, wa, ru, dn, iq, oq, m, ring, fall⟩ l 14 d a i = x at *
  have hn : x.1 = true → x.2.1 = addW pc 1 := by
   rw [← hx]; unfold exM; dsimp only
   rw [if_neg (by decide), if_neg (by decide), if_pos rfl]
   repeat' split
   all_goals simp
  obtain ⟨b, nx, rs, s1⟩ := x
  cases b
  ·subst he; simp
  ·subst he
   simp only at hn
   simp [wrD, hn]
 rw [if_neg (by simpa using h14)]
 by_cases h15 : op = 15
 ·subst h15
  rw [if_pos (by decide), hmem (.inr rfl) rfl, Obn]
  generalize hx : exM ⟨r, pc, cs, ha, wa, ru, dn, iq, oq, m, ring, fall⟩ l 15 d a i = x at *
  have hn : x.1 = true → x.2.1 = addW pc 1 := by
   rw [← hx]; unfold exM; dsimp only
   rw [if_neg (by decide), if_neg (by decide), if_neg (by decide), if_pos rfl]
   repeat' split
   all_goals simp
  obtain ⟨b, nx, rs, s1⟩ := x
  cases b
  ·subst he; simp
  ·subst he
   simp only at hn
   simp [wrD, hn]
 rw [if_neg (by simpa using h15)]
 have hex : exM ⟨r, pc, cs, ha, wa, ru, dn, iq, oq, m, ring, fall⟩ l op d a i =
   (if op = 16 ∨ op = 17 ∨ op = 18 then (true, if Qde op (r.getD d.toNat 0) (r.getD a.toNat 0) = true then addW pc (off i) else addW pc 1, 0, ⟨r, pc, cs, ha, wa, ru, dn, iq, oq, m, ring, fall⟩)
   else if op = 19 then (true, addW pc (off i), addW pc 1, ⟨r, pc, cs, ha, wa, ru, dn, iq, oq, m, ring, fall⟩)
   else if op = 20 then (true, addW (r.getD a.toNat 0) (off i), addW pc 1, ⟨r, pc, cs, ha, wa, ru, dn, iq, oq, m, ring, fall⟩)
   else if op = 21 then (true, addW pc 1, getM cs ru dn iq i, ⟨r, pc, cs, ha, wa, ru, dn, iq, oq, m, ring, fall⟩)
   else if op = 22 then (true, addW pc 1, 0, ⟨r, pc, setC cs i (r.getD a.toNat 0), ha, wa, setR ru i (r.getD a.toNat 0), dn, iq, oq, m, ring, fall⟩)
   else if op = 23 then (false, 0, 0, ⟨r, cs.getD 1 0, QfL cs pc 5 0, ha, false, ru, dn, iq, oq, m, ring, 5⟩)
   else if op = 24 then (true, cs.getD 2 0, 0, ⟨r, cs.getD 2 0, Qie cs, ha, wa, ru, dn, iq, oq, m, ring, fall⟩)
   else if op = 25 then (true, addW pc 1, 0, ⟨r, pc, cs, ha, true, ru, dn, iq, oq, m, ring, fall⟩)
   else if op = 26 then (true, pc, 0, ⟨r, pc, cs, true, wa, ru, dn, iq, oq, m, ring, fall⟩)
   else (true, addW pc 1, aluW op (r.getD a.toNat 0) (r.getD i.toNat 0), ⟨r, pc, cs, ha, wa, ru, dn, iq, oq, m, ring, fall⟩)) := by
  unfold exM Mc.trap
  dsimp only
  rw [if_neg h12, if_neg h13, if_neg h14, if_neg h15]
 clear hmem
 have htk := fun o => Qns (pc := pc) (cs := cs) (ha := ha) (wa := wa) (ru := ru) (dn := dn) (iq := iq) (oq := oq) hr (op := o) (i := i) hd ha'
 have hput := fun pc cs ha wa ru w => QdN (l := l) (m := m) (ring := ring) (pc := pc) (cs := cs) (ha := ha) (wa := wa) (ru := ru) (dn := dn) (iq := iq) (oq := oq) (fall := fall) hr hd w
 by_cases h16 : op = 16
 ·subst h16
  rw [if_pos (.inl rfl)] at hex
  rw [hex] at he
  subst he
  rw [if_pos (by decide), htk, Obn]
  cases Qde 16 (r.getD d.toNat 0) (r.getD a.toNat 0) <;> simp [wrD]
 rw [if_neg (by simpa using h16)]
 by_cases h17 : op = 17
 ·subst h17
  rw [if_pos (.inr (.inl rfl))] at hex
  rw [hex] at he
  subst he
  rw [if_pos (by decide), htk, Obn]
  cases Qde 17 (r.getD d.toNat 0) (r.getD a.toNat 0) <;> simp [wrD]
 rw [if_neg (by simpa using h17)]
 by_cases h18 : op = 18
 ·subst h18
  rw [if_pos (.inr (.inr rfl))] at hex
  rw [hex] at he
  subst he
  rw [if_pos (by decide), htk, Obn]
  cases Qde 18 (r.getD d.toNat 0) (r.getD a.toNat 0) <;> simp [wrD]
 rw [if_neg (by simpa using h18)]
 rw [if_neg (c := op = 16 ∨ op = 17 ∨ op = 18) (by omega)] at hex
 by_cases h19 : op = 19
 ·subst h19
  rw [if_pos rfl] at hex
  rw [hex] at he
  subst he
  rw [if_pos (by decide), hput, Obn]
  simp [wrD]
 rw [if_neg (by simpa using h19)]
 rw [if_neg h19] at hex
 by_cases h20 : op = 20
 ·subst h20
  rw [if_pos rfl] at hex
  rw [hex] at he
  subst he
  rw [if_pos (by decide), if_pos hia, Qn 0 hda, Obn]
  dsimp only
  rw [QcL, Obn]
  dsimp only
  rw [hput, Obn]
  simp [wrD]
 rw [if_neg (by simpa using h20)]
 rw [if_neg h20] at hex
 by_cases h21 : op = 21
 ·subst h21
  rw [if_pos rfl] at hex
  rw [hex] at he
  subst he
  have hi10 := hi.i21 (.inl rfl)
  have hi0 := hi.hi
  rw [if_pos (by decide), Qrm hc ⟨hi0.1, hi10⟩, Obn]
  dsimp only
  rw [hput, Obn]
  simp [wrD]
 rw [if_neg (by simpa using h21)]
 rw [if_neg h21] at hex
 by_cases h22 : op = 22
 ·subst h22
  rw [if_pos rfl] at hex
  rw [hex] at he
  subst he
  have hi10 := hi.i21 (.inr rfl)
  have hi0 := hi.hi
  rw [if_pos (by decide), if_pos hia, Qn 0 hda, QkI hc ⟨hi0.1, hi10⟩, Obn]
  simp [wrD]
 rw [if_neg (by simpa using h22)]
 rw [if_neg h22] at hex
 by_cases h23 : op = 23
 ·subst h23
  rw [if_pos rfl] at hex
  rw [hex] at he
  subst he
  rw [if_pos (by decide), Qcf hc, Obn]
  simp
 rw [if_neg (by simpa using h23)]
 rw [if_neg h23] at hex
 by_cases h24 : op = 24
 ·subst h24
  rw [if_pos rfl] at hex
  rw [hex] at he
  subst he
  rw [if_pos (by decide), QiW hc, Obn]
  simp [wrD]
 rw [if_neg (by simpa using h24)]
 rw [if_neg h24] at hex
 by_cases h25 : op = 25
 ·subst h25
  rw [if_pos rfl] at hex
  rw [hex] at he
  subst he
  rw [if_pos (by decide)]
  simp [wrD]
 rw [if_neg (by simpa using h25)]
 rw [if_neg h25] at hex
 by_cases h26 : op = 26
 ·subst h26
  rw [if_pos rfl] at hex
  rw [hex] at he
  subst he
  rw [if_pos (by decide)]
  simp [wrD]
 rw [if_neg (by simpa using h26)]
 rw [if_neg h26] at hex
 have h1 := hi.hop
 have h11 : op ≤ 11 := by omega
 have hi15 := hi.i11 h11
 have hi0 := hi.hi
 have hii : 0 ≤ i ∧ i < ((r.length : Nat) : Int) := by rw [hr.len]; omega
 have hiN : i.toNat < r.length := by rw [hr.len]; omega
 rw [hex] at he
 subst he
 rw [if_pos hia, Qn 0 hda, if_pos hii, Qn 0 hiN, Qrh, Obn]
 dsimp only
 rw [hput, Obn]
 have hw : wrD op = true := by unfold wrD; rw [decide_eq_true_eq]; omega
 simp [hw]
theorem Qof (h : OkS s l) {op d a i : Int} (h14 : op = 14) {e : Bool × Int × Int × Mc} (he : exM s l op d a i = e) : F_fy (s.core l, addW (s.r.getD a.toNat 0) (off i), ()) =
  some ((e.2.2.1, e.1, ()), (e.2.2.2.core l, ())) := by
 subst h14
 obtain ⟨r, pc, cs, ha, wa, ru, dn, iq, oq, m, ring, fall⟩ := s
 obtain ⟨hr, hpc, hc, hiq, hoq, hdn, hl⟩ := h
 unfold F_fy Mc.core
 unfold exM Mc.trap at he
 dsimp only at *
 rw [if_neg (by decide), if_neg (by decide), if_pos rfl] at he
 rw [QeB hc hl _ (.inl rfl), Obn]
 dsimp only
 have hin := QbG hc hl (addW (r.getD a.toNat 0) (off i)) 1
 generalize QN cs l m (addW (r.getD a.toNat 0) (off i)) 1 = q at *
 by_cases h0 : q.2 = 0
 ·rw [if_neg (by simpa using h0)] at he
  rw [if_neg (by simpa using h0)]
  by_cases hq : 1000 ≤ q.1
  ·have hle : q.1 ≤ 1007 := by have := hl.mlen; rcases hin h0 with h | h <;> omega
   rw [if_pos hq] at he
   subst he
   rw [if_pos (QaZ.2 hq), Qt (by omega) (by omega), Qoi hc hiq, Obn]
  ·have hlt : 0 ≤ q.1 ∧ q.1 < ((m.length : Nat) : Int) := by rcases hin h0 with h | h; omega; exact h
   rw [if_neg hq] at he
   subst he
   rw [if_neg (by rw [QaZ]; exact hq), if_pos hlt, Qn 0 (by omega)]
 ·rw [if_pos h0] at he
  subst he
  rw [if_pos (by simpa using h0), Qca hc, Obn]
theorem QmE (h : OkS s l) {op d a i : Int} (h15 : op = 15) {e : Bool × Int × Int × Mc} (he : exM s l op d a i = e) : F_gb (s.core l, addW (s.r.getD a.toNat 0) (off i), s.r.getD d.toNat 0, ()) =
  some ((e.1, ()), (e.2.2.2.core l, ())) := by
 subst h15
 obtain ⟨r, pc, cs, ha, wa, ru, dn, iq, oq, m, ring, fall⟩ := s
 obtain ⟨hr, hpc, hc, hiq, hoq, hdn, hl⟩ := h
 unfold F_gb Mc.core
 unfold exM Mc.trap at he
 dsimp only at *
 rw [if_neg (by decide), if_neg (by decide), if_neg (by decide), if_pos rfl] at he
 rw [QeB hc hl _ (.inr (.inl rfl)), Obn]
 dsimp only
 have hin := QbG hc hl (addW (r.getD a.toNat 0) (off i)) 2
 generalize QN cs l m (addW (r.getD a.toNat 0) (off i)) 2 = q at *
 by_cases h0 : q.2 = 0
 ·rw [if_neg (by simpa using h0)] at he
  rw [if_neg (by simpa using h0)]
  by_cases hq : 1000 ≤ q.1
  ·have hle : q.1 ≤ 1007 := by have := hl.mlen; rcases hin h0 with h | h <;> omega
   rw [if_pos hq] at he
   subst he
   rw [if_pos (QaZ.2 hq), Qt (by omega) (by omega), QmH hc hoq, Obn]
  ·have hlt : 0 ≤ q.1 ∧ q.1 < ((m.length : Nat) : Int) := by rcases hin h0 with h | h; omega; exact h
   rw [if_neg hq] at he
   subst he
   rw [if_neg (by rw [QaZ]; exact hq), if_pos hlt, Qn 0 (by omega)]
 ·rw [if_pos h0] at he
  subst he
  rw [if_pos (by simpa using h0), Qca hc, Obn]
theorem Qse (h : OkS s l) {op d a i : Int} (hi : OkI op d a i) {e : Bool × Int × Int × Mc} (he : exM s l op d a i = e) :
  ∃ nx : Int, (e.1 = true → nx = e.2.2.1 ∨ wrD op = false) ∧
  L_gm_100000 (((), ((), (s.pc, (addW s.pc 1, (addW s.pc (off i), (s.r.getD d.toNat 0, (s.r.getD a.toNat 0, (addW (s.r.getD a.toNat 0) (off i), ((0 : Int), (op, (op, ()))))))))))), (((op, (d, (a, (i, ())))), (s.core l, ())), ())) =
  some (if e.1 = true then .inl (((), ((), (e.2.1, (nx, ())))), (((op, (d, (a, (i, ())))), (e.2.2.2.core l, ())), ())) else .inr (.inl ((false, ()), ((e.2.2.2.core l, ()), ())))) := by
 have hld := fun h14 => Qof h (op := op) (d := d) (a := a) (i := i) h14 he
 have hst := fun h15 => QmE h (op := op) (d := d) (a := a) (i := i) h15 he
 have hd := hi.hd
 have ha' := hi.ha
 unfold L_gm_100000
 dsimp only at *
 by_cases h12 : op = 12
 ·subst h12
  rw [show exM s l 12 d a i = (true, addW s.pc 1, addW (s.r.getD a.toNat 0) (off i), s) from rfl] at he
  subst he
  exact ⟨_, fun _ => .inl rfl, by rw [if_pos (by decide)]; rfl⟩
 rw [if_neg (by simpa using h12)]
 by_cases h13 : op = 13
 ·subst h13
  rw [show exM s l 13 d a i = (true, addW s.pc 1, i * 65536, s) from rfl] at he
  subst he
  exact ⟨_, fun _ => .inl rfl, by rw [if_pos (by decide), Qsc hi.hi]; rfl⟩
 rw [if_neg (by simpa using h13)]
 by_cases h14 : op = 14
 ·subst h14
  have hn : e.1 = true → e.2.1 = addW s.pc 1 := by
   rw [← he]; unfold exM; dsimp only
   rw [if_neg (by decide), if_neg (by decide), if_pos rfl]
   repeat' split
   all_goals simp
  refine ⟨e.2.2.1, fun _ => .inl rfl, ?_⟩
  rw [if_pos (by decide), hld rfl, Obn]
  obtain ⟨b, nx, rs, s1⟩ := e
  cases b
  ·simp
  ·simp only at hn
   simp [hn]
 rw [if_neg (by simpa using h14)]
 by_cases h15 : op = 15
 ·subst h15
  have hn : e.1 = true → e.2.1 = addW s.pc 1 := by
   rw [← he]; unfold exM; dsimp only
   rw [if_neg (by decide), if_neg (by decide), if_neg (by decide), if_pos rfl]
   repeat' split
   all_goals simp
  refine ⟨0, fun _ => .inr rfl, ?_⟩
  rw [if_pos (by decide), hst rfl, Obn]
  obtain ⟨b, nx, rs, s1⟩ := e
  cases b
  ·simp
  ·simp only at hn
   simp [hn]
 rw [if_neg (by simpa using h15)]
 clear hld hst
 obtain ⟨r, pc, cs, ha, wa, ru, dn, iq, oq, m, ring, fall⟩ := s
 obtain ⟨hr, hpc, hc, hiq, hoq, hdn, hl⟩ := h
 have hex : exM ⟨r, pc, cs, ha, wa, ru, dn, iq, oq, m, ring, fall⟩ l op d a i =
   (if op = 16 ∨ op = 17 ∨ op = 18 then (true, if Qde op (r.getD d.toNat 0) (r.getD a.toNat 0) = true then addW pc (off i) else addW pc 1, 0, ⟨r, pc, cs, ha, wa, ru, dn, iq, oq, m, ring, fall⟩)
   else if op = 19 then (true, addW pc (off i), addW pc 1, ⟨r, pc, cs, ha, wa, ru, dn, iq, oq, m, ring, fall⟩)
   else if op = 20 then (true, addW (r.getD a.toNat 0) (off i), addW pc 1, ⟨r, pc, cs, ha, wa, ru, dn, iq, oq, m, ring, fall⟩)
   else if op = 21 then (true, addW pc 1, getM cs ru dn iq i, ⟨r, pc, cs, ha, wa, ru, dn, iq, oq, m, ring, fall⟩)
   else if op = 22 then (true, addW pc 1, 0, ⟨r, pc, setC cs i (r.getD a.toNat 0), ha, wa, setR ru i (r.getD a.toNat 0), dn, iq, oq, m, ring, fall⟩)
   else if op = 23 then (false, 0, 0, ⟨r, cs.getD 1 0, QfL cs pc 5 0, ha, false, ru, dn, iq, oq, m, ring, 5⟩)
   else if op = 24 then (true, cs.getD 2 0, 0, ⟨r, cs.getD 2 0, Qie cs, ha, wa, ru, dn, iq, oq, m, ring, fall⟩)
   else if op = 25 then (true, addW pc 1, 0, ⟨r, pc, cs, ha, true, ru, dn, iq, oq, m, ring, fall⟩)
   else if op = 26 then (true, pc, 0, ⟨r, pc, cs, true, wa, ru, dn, iq, oq, m, ring, fall⟩)
   else (true, addW pc 1, aluW op (r.getD a.toNat 0) (r.getD i.toNat 0), ⟨r, pc, cs, ha, wa, ru, dn, iq, oq, m, ring, fall⟩)) := by
  unfold exM Mc.trap
  dsimp only
  rw [if_neg h12, if_neg h13, if_neg h14, if_neg h15]
 unfold Mc.core
 dsimp only at *
 by_cases h16 : op = 16
 ·subst h16
  rw [if_pos (.inl rfl)] at hex
  rw [hex] at he
  subst he
  refine ⟨0, fun _ => .inr rfl, ?_⟩
  rw [if_pos (by decide), if_pos (by decide)]
  generalize r.getD d.toNat 0 = x
  generalize r.getD a.toNat 0 = y
  unfold Qde
  by_cases hxy : x = y <;> simp [hxy]
 rw [if_neg (by simpa using h16)]
 by_cases h17 : op = 17
 ·subst h17
  rw [if_pos (.inr (.inl rfl))] at hex
  rw [hex] at he
  subst he
  refine ⟨0, fun _ => .inr rfl, ?_⟩
  rw [if_pos (by decide), if_neg (by decide), if_pos (by decide)]
  generalize r.getD d.toNat 0 = x
  generalize r.getD a.toNat 0 = y
  unfold Qde
  by_cases hxy : x = y <;> simp [hxy]
 rw [if_neg (by simpa using h17)]
 by_cases h18 : op = 18
 ·subst h18
  rw [if_pos (.inr (.inr rfl))] at hex
  rw [hex] at he
  subst he
  refine ⟨0, fun _ => .inr rfl, ?_⟩
  rw [if_pos (by decide), if_neg (by decide), if_neg (by decide), if_pos (by decide), Qeb, Obn, Qeb, Obn]
  generalize r.getD d.toNat 0 = x
  generalize r.getD a.toNat 0 = y
  unfold Qde
  by_cases hxy : sg x < sg y <;> simp [hxy, QT]
 rw [if_neg (by simpa using h18)]
 rw [if_neg (c := op = 16 ∨ op = 17 ∨ op = 18) (by omega)] at hex
 by_cases h19 : op = 19
 ·subst h19
  rw [if_pos rfl] at hex
  rw [hex] at he
  subst he
  exact ⟨_, fun _ => .inl rfl, by rw [if_pos (by decide)]; rfl⟩
 rw [if_neg (by simpa using h19)]
 rw [if_neg h19] at hex
 by_cases h20 : op = 20
 ·subst h20
  rw [if_pos rfl] at hex
  rw [hex] at he
  subst he
  exact ⟨_, fun _ => .inl rfl, by rw [if_pos (by decide)]; rfl⟩
 rw [if_neg (by simpa using h20)]
 rw [if_neg h20] at hex
 by_cases h21 : op = 21
 ·subst h21
  rw [if_pos rfl] at hex
  rw [hex] at he
  subst he
  have hi10 := hi.i21 (.inl rfl)
  have hi0 := hi.hi
  exact ⟨_, fun _ => .inl rfl, by rw [if_pos (by decide), QqM hc ⟨hi0.1, hi10⟩, Obn]; rfl⟩
 rw [if_neg (by simpa using h21)]
 rw [if_neg h21] at hex
 by_cases h22 : op = 22
 ·subst h22
  rw [if_pos rfl] at hex
  rw [hex] at he
  subst he
  have hi10 := hi.i21 (.inr rfl)
  have hi0 := hi.hi
  exact ⟨0, fun _ => .inr rfl, by rw [if_pos (by decide), Qhb hc ⟨hi0.1, hi10⟩, Obn]; rfl⟩
 rw [if_neg (by simpa using h22)]
 rw [if_neg h22] at hex
 by_cases h23 : op = 23
 ·subst h23
  rw [if_pos rfl] at hex
  rw [hex] at he
  subst he
  exact ⟨0, fun _ => .inr rfl, by rw [if_pos (by decide), Qca hc, Obn]; rfl⟩
 rw [if_neg (by simpa using h23)]
 rw [if_neg h23] at hex
 by_cases h24 : op = 24
 ·subst h24
  rw [if_pos rfl] at hex
  rw [hex] at he
  subst he
  exact ⟨0, fun _ => .inr rfl, by rw [if_pos (by decide), Qoc hc, Obn]; rfl⟩
 rw [if_neg (by simpa using h24)]
 rw [if_neg h24] at hex
 by_cases h25 : op = 25
 ·subst h25
  rw [if_pos rfl] at hex
  rw [hex] at he
  subst he
  exact ⟨0, fun _ => .inr rfl, by rw [if_pos (by decide)]; rfl⟩
 rw [if_neg (by simpa using h25)]
 rw [if_neg h25] at hex
 by_cases h26 : op = 26
 ·subst h26
  rw [if_pos rfl] at hex
  rw [hex] at he
  subst he
  exact ⟨0, fun _ => .inr rfl, by rw [if_pos (by decide)]; rfl⟩
 rw [if_neg (by simpa using h26)]
 rw [if_neg h26] at hex
 have h1 := hi.hop
 have h11 : op ≤ 11 := by omega
 have hi15 := hi.i11 h11
 have hi0 := hi.hi
 have hii : 0 ≤ i ∧ i < ((r.length : Nat) : Int) := by rw [hr.len]; omega
 have hiN : i.toNat < r.length := by rw [hr.len]; omega
 rw [hex] at he
 subst he
 refine ⟨_, fun _ => .inl rfl, ?_⟩
 rw [if_pos hii, Qn 0 hiN, QqG op _ _ (hr.w (by omega)) (hr.w (by omega)) ⟨h1.1, h11⟩, Obn]
 rfl
def Qkt (s : Mc) : Mc := { s with dn := if 1000000000 < s.dn + 1 then 1000000000 else s.dn + 1 }
theorem Qsg (op : Int) : F_gl (op, ()) = some ((wrD op, ()), ()) := by
 unfold F_gl wrD
 dsimp only
 rw [QaY, Obn, QaY, Obn]
 dsimp only
 by_cases h1 : 1 ≤ op ∧ op ≤ 14
 ·rw [if_neg (by simp [h1]), decide_eq_true (.inl h1)]
 ·rw [if_pos (by simp; omega)]
  by_cases h2 : 19 ≤ op ∧ op ≤ 21
  ·rw [decide_eq_true (p := (1 ≤ op ∧ op ≤ 14) ∨ (19 ≤ op ∧ op ≤ 21)) (.inr h2)]; simp [h2]
  ·rw [decide_eq_false (p := (1 ≤ op ∧ op ≤ 14) ∨ (19 ≤ op ∧ op ≤ 21)) (by omega)]; simp; omega
theorem Qs {α : Type} (P : α → Prop) {c : Prop} [Decidable c] {a b : α} (h1 : c → P a) (h2 : ¬ c → P b) : P (if c then a else b) := by
 by_cases h : c
 ·rw [if_pos h]; exact h1 h
 ·rw [if_neg h]; exact h2 h
theorem QtR (s : Mc) (l : List TwoD) (op d a i : Int) : (exM s l op d a i).2.2.2.r = s.r ∧ (exM s l op d a i).2.2.2.dn = s.dn := by
 unfold exM Mc.trap
 let P : Bool × Int × Int × Mc → Prop := fun x => x.2.2.2.r = s.r ∧ x.2.2.2.dn = s.dn
 refine Qs P (fun _ => ⟨rfl, rfl⟩) fun _ => Qs P (fun _ => ⟨rfl, rfl⟩) fun _ => Qs P (fun _ => Qs P (fun _ => ⟨rfl, rfl⟩) fun _ => Qs P (fun _ => ⟨rfl, rfl⟩) fun _ => ⟨rfl, rfl⟩) fun _ =>
  Qs P (fun _ => Qs P (fun _ => ⟨rfl, rfl⟩) fun _ => Qs P (fun _ => ⟨rfl, rfl⟩) fun _ => ⟨rfl, rfl⟩) fun _ => Qs P (fun _ => ⟨rfl, rfl⟩) fun _ => Qs P (fun _ => ⟨rfl, rfl⟩) fun _ => Qs P (fun _ => ⟨rfl, rfl⟩) fun _ =>
  Qs P (fun _ => ⟨rfl, rfl⟩) fun _ => Qs P (fun _ => ⟨rfl, rfl⟩) fun _ => Qs P (fun _ => ⟨rfl, rfl⟩) fun _ => Qs P (fun _ => ⟨rfl, rfl⟩) fun _ => Qs P (fun _ => ⟨rfl, rfl⟩) fun _ => Qs P (fun _ => ⟨rfl, rfl⟩) fun _ => ⟨rfl, rfl⟩
theorem Qsd (h : OkS s l) {op d a i : Int} (hi : OkI op d a i) {e : Bool × Mc} (he : doM s l op d a i = e) : F_gm (s.core l, (op, d, a, i, ()), ()) =
  some ((e.1, ()), ((if e.1 = true then (Qkt e.2).core l else e.2.core l), ())) := by
 have hd := hi.hd
 have ha' := hi.ha
 have hr := h.r
 obtain ⟨nx, hnx, hL⟩ := Qse h hi rfl
 have hrr := QtR s l op d a i
 unfold F_gm
 dsimp only
 have e1 : (s.core l).2.1 = s.pc := rfl
 have e2 : (s.core l).1 = s.r := rfl
 rw [e1, e2, Qfb, Obn]
 dsimp only
 rw [QqP, Obn]
 dsimp only
 rw [Qfb, Obn]
 dsimp only
 have hid : 0 ≤ d ∧ d < ((s.r.length : Nat) : Int) := by rw [hr.len]; omega
 have hia : 0 ≤ a ∧ a < ((s.r.length : Nat) : Int) := by rw [hr.len]; omega
 rw [if_pos hid, Qn 0 (by rw [hr.len]; omega), if_pos hia, Qn 0 (by rw [hr.len]; omega), Obn]
 dsimp only
 rw [Qfb, Obn]
 dsimp only
 rw [hL, Obn]
 unfold doM at he
 dsimp only at he
 generalize exM s l op d a i = x at *
 obtain ⟨b, nxt, rs, s1⟩ := x
 cases b
 ·subst he; rfl
 ·simp only [if_true] at he ⊢
  subst he
  simp only at hrr hnx
  have hdn := h.d
  have hw : IntKind.i64.wrap (s1.dn + 1) = s1.dn + 1 := Qt (by rw [hrr.2]; omega) (by rw [hrr.2]; omega)
  unfold Mc.core Qkt
  dsimp only
  rw [Qsg, Obn, hw]
  dsimp only
  have hid2 : 0 ≤ d ∧ d < ((s1.r.length : Nat) : Int) := by rw [hrr.1, hr.len]; omega
  by_cases hwd : wrD op = true
  ·have hx : nx = rs := by
    rcases hnx trivial with h | h
    ·exact h
    ·rw [h] at hwd; cases hwd
   subst hx
   rw [if_pos hwd]
   by_cases hd0 : 0 < d
   ·rw [if_pos (QU.2 hd0), if_pos hid2, Qn 0 (by rw [hrr.1, hr.len]; omega), if_pos (c := wrD op = true ∧ 0 < d) ⟨hwd, hd0⟩]; rfl
   ·rw [if_neg (by rw [QU]; exact hd0), if_neg (c := wrD op = true ∧ 0 < d) (fun h => hd0 h.2)]; rfl
  ·rw [if_neg hwd, if_neg (c := wrD op = true ∧ 0 < d) (fun h => hwd h.1)]; rfl
def runM (s : Mc) (l : List TwoD) : Mc :=
 if (QN s.cs l s.m s.pc 4).2 ≠ 0 then s.trap 2 s.pc
 else
  let w := s.m.getD (QN s.cs l s.m s.pc 4).1.toNat 0
  if decF w = 0 then (if (doM s l (decM w).1 (decM w).2.1 (decM w).2.2.1 (decM w).2.2.2.1).1 = true then Qkt (doM s l (decM w).1 (decM w).2.1 (decM w).2.2.1 (decM w).2.2.2.1).2
   else (doM s l (decM w).1 (decM w).2.1 (decM w).2.2.1 (decM w).2.2.2.1).2) else s.trap 1 w
def Qac (s0 : Mc) (l : List TwoD) : Mc :=
 let s : Mc := { s0 with ring := -1, fall := -1 }
 if s.ha = true then s
 else if 0 ≤ dueM s.cs s.ru s.dn s.iq then s.trap (16 + dueM s.cs s.ru s.dn s.iq) 0
 else if s.wa = true then (if iand .i64 (Qda s.cs s.ru s.dn s.iq) (s.cs.getD 7 0) = 0 then s else runM { s with wa := false } l)
 else runM s l
theorem QhV {w : Int} (h : decF w = 0) : OkI (decM w).1 (decM w).2.1 (decM w).2.2.1 (decM w).2.2.2.1 := by
 obtain ⟨h1, h2, h3, h4, h5, h6⟩ := Qth h
 exact ⟨h1, h2, h3, h4, h5, h6⟩
theorem Qln (cs : List Int) (ru : Bool) (dn : Int) (iq : List Int) : -1 ≤ dueM cs ru dn iq ∧ dueM cs ru dn iq ≤ 2 := by
 unfold dueM; split
 ·omega
 ·exact Qtt _
theorem QkH (h : OkS s l) {K : Option Unit} :
  ((F_bv ((l, s.m, s.ring, (s.r, s.pc, s.cs, s.ha, s.wa, s.ru, s.dn, s.iq, s.oq, ()), s.fall, ()), s.pc, (4 : Int), ())).bind fun r7 =>
    if (r7.1.2.1 != (0 : Int)) then
     (F_bo (s.bus l, (2 : Int), s.pc, ())).bind fun r8 => some (((), (r8.2.1, ())) : Unit × BusD × Unit)
    else
     if 0 ≤ r7.1.1 ∧ r7.1.1 < ((s.m.length : Nat) : Int) then
      ((s.m)[(r7.1.1).toNat]?).bind fun y9 =>
      (F_by (y9, ())).bind fun r10 =>
      if (!r10.1.2.1) then
       if 0 ≤ r7.1.1 ∧ r7.1.1 < ((s.m.length : Nat) : Int) then
        ((s.m)[(r7.1.1).toNat]?).bind fun y11 =>
        (F_bo (s.bus l, (1 : Int), y11, ())).bind fun r12 => some ((), (r12.2.1, ()))
       else none
      else
       (F_cr (s.bus l, r10.1.1, ())).bind fun r13 =>
       if r13.1.1 then
        let v14 := (IntKind.i64.wrap (r13.2.1.2.2.2.2.2.2.2.2.2.1 + (1 : Int)))
        (F_cs ((1000000000 : Int), v14, ())).bind fun r15 =>
        some ((), ((r13.2.1.1, (r13.2.1.2.1, (r13.2.1.2.2.1, (r13.2.1.2.2.2.1, (r13.2.1.2.2.2.2.1, (r13.2.1.2.2.2.2.2.1, (r13.2.1.2.2.2.2.2.2.1, (r13.2.1.2.2.2.2.2.2.2.1, (r13.2.1.2.2.2.2.2.2.2.2.1, (r15.1.1, (r13.2.1.2.2.2.2.2.2.2.2.2.2.1, (r13.2.1.2.2.2.2.2.2.2.2.2.2.2.1, (r13.2.1.2.2.2.2.2.2.2.2.2.2.2.2.1, ()))))))))))))), ()))
       else some ((), (r13.2.1, ()))
     else none) = some ((), ((runM s l).bus l, ())) := by
 have hdo := fun {w : Int} (hw : decF w = 0) => QsJ h (QhV hw) rfl
 have hdn := h.d
 rw [QeR h.c h.l, Obn]
 dsimp only
 unfold runM
 have hin := QbG h.c h.l s.pc 4
 generalize QN s.cs l s.m s.pc 4 = q at *
 by_cases h0 : q.2 = 0
 ·have hlt : 0 ≤ q.1 ∧ q.1 < ((s.m.length : Nat) : Int) := by
   rcases hin h0 with h | h
   ·exact absurd rfl h.2.2
   ·exact h
  have hN : q.1.toNat < s.m.length := by omega
  have hw : WW (s.m.getD q.1.toNat 0) := h.l.words _ (QaU hN)
  rw [if_neg (by simpa using h0), if_pos hlt, Qn 0 hN, Qri hw, Obn, if_pos hlt, Qn 0 hN, if_neg (c := q.2 ≠ 0) (by simpa using h0)]
  dsimp only
  generalize s.m.getD q.1.toNat 0 = w at *
  by_cases hd : decF w = 0
  ·rw [if_neg (by simp [hd]), if_pos hd]
   have hx := hdo hd
   have hrr := QtR s l (decM w).1 (decM w).2.1 (decM w).2.2.1 (decM w).2.2.2.1
   have hdn2 : (doM s l (decM w).1 (decM w).2.1 (decM w).2.2.1 (decM w).2.2.2.1).2.dn = s.dn := by
    unfold doM; dsimp only; split <;> exact hrr.2
   have e1 : ((decM w).1, (decM w).2.1, (decM w).2.2.1, (decM w).2.2.2.1, ()) = decM w := rfl
   rw [e1] at hx
   rw [hx, Obn]
   dsimp only
   generalize doM s l (decM w).1 (decM w).2.1 (decM w).2.2.1 (decM w).2.2.2.1 = x at *
   obtain ⟨b, s1⟩ := x
   cases b
   ·rfl
   ·simp only at hdn2
    rw [if_pos rfl, if_pos rfl]
    unfold F_cs Mc.bus Qkt
    dsimp only
    rw [hdn2, Qt (by omega) (by omega)]
    by_cases hlt : 1000000000 < s.dn + 1
    ·rw [if_pos (QU.2 hlt), if_pos hlt]; rfl
    ·rw [if_neg (by rw [QU]; exact hlt), if_neg hlt]; rfl
  ·rw [if_pos (by simp [hd]), if_neg hd]
   unfold Mc.bus
   rw [Qcf h.c, Obn]
   rfl
 ·rw [if_pos (by simpa using h0), if_pos (c := q.2 ≠ 0) h0]
  unfold Mc.bus
  rw [Qcf h.c, Obn]
  rfl
theorem QiZ (h : OkS s l) : F_ct (s.bus l, ()) = some ((), ((Qac s l).bus l, ())) := by
 obtain ⟨r, pc, cs, ha, wa, ru, dn, iq, oq, m, ring, fall⟩ := s
 have h0 : OkS ⟨r, pc, cs, ha, wa, ru, dn, iq, oq, m, -1, -1⟩ l := ⟨h.r, h.pc, h.c, h.i, h.o, h.d, h.l⟩
 have h1 : OkS ⟨r, pc, cs, ha, false, ru, dn, iq, oq, m, -1, -1⟩ l := ⟨h.r, h.pc, h.c, h.i, h.o, h.d, h.l⟩
 have hc : OkC cs := h.c
 have hle := Qln cs ru dn iq
 generalize he : Qac ⟨r, pc, cs, ha, wa, ru, dn, iq, oq, m, ring, fall⟩ l = e
 unfold Qac at he
 unfold F_ct
 dsimp only at he
 rw [show (Mc.bus ⟨r, pc, cs, ha, wa, ru, dn, iq, oq, m, ring, fall⟩ l) = (l, m, ring, r, pc, cs, ha, wa, ru, dn, iq, oq, fall, ()) from rfl]
 dsimp only
 cases ha
 ·rw [if_neg (by decide)] at he
  rw [if_neg (by decide), Qrk hc, Obn]
  dsimp only
  by_cases hk : 0 ≤ dueM cs ru dn iq
  ·rw [if_pos hk] at he
   subst he
   rw [if_pos (QaZ.2 hk), Qt (by omega) (by omega), Qcf hc, Obn]
   rfl
  ·rw [if_neg hk] at he
   rw [if_neg (by rw [QaZ]; exact hk)]
   cases wa
   ·rw [if_neg (by decide)] at he
    subst he
    rw [if_neg (by decide)]
    exact QkH (K := none) h0
   ·rw [if_pos rfl] at he
    have h7 : (0 : Int) ≤ 7 ∧ (7 : Int) < ((cs.length : Nat) : Int) := by rw [hc.len]; decide
    rw [if_pos rfl, Qek hc, Obn]
    dsimp only
    rw [if_pos h7, Qn 0 (by rw [hc.len]; decide)]
    simp only [show ((7 : Int)).toNat = 7 from rfl]
    by_cases hz : iand .i64 (Qda cs ru dn iq) (cs.getD 7 0) = 0
    ·rw [if_pos hz] at he
     subst he
     rw [if_pos (by simpa using hz)]
     rfl
    ·rw [if_neg hz] at he
     subst he
     rw [if_neg (by simpa using hz)]
     exact QkH (K := none) h1
 ·rw [if_pos rfl] at he
  subst he
  rw [if_pos rfl]
  rfl
theorem Qkh (h : OkS s l) :
  ((F_fr ((s.r, s.pc, s.cs, s.ha, s.wa, s.ru, s.dn, s.iq, s.oq, ()), l, s.m, s.pc, (4 : Int), ())).bind fun r14 =>
    if (r14.1.1.1 != (0 : Int)) then
     (F_fj (s.core l, (2 : Int), s.pc, ())).bind fun r15 => some (((), (r15.2.1, ())) : Unit × QtN × Unit)
    else
     if 0 ≤ r14.1.1.2.1 ∧ r14.1.1.2.1 < ((s.m.length : Nat) : Int) then
      ((s.m)[(r14.1.1.2.1).toNat]?).bind fun y16 =>
      (F_ft (y16, ())).bind fun r17 =>
      if (r17.1.1.1 != (0 : Int)) then
       if 0 ≤ r14.1.1.2.1 ∧ r14.1.1.2.1 < ((s.m.length : Nat) : Int) then
        ((s.m)[(r14.1.1.2.1).toNat]?).bind fun y18 =>
        (F_fj (s.core l, (1 : Int), y18, ())).bind fun r19 => some ((), (r19.2.1, ()))
       else none
      else
       (F_gm (s.core l, r17.1.1.2.1, ())).bind fun r20 => some ((), (r20.2.1, ()))
     else none) = some ((), ((runM s l).core l, ())) := by
 have hdo := fun {w : Int} (hw : decF w = 0) => Qsd h (QhV hw) rfl
 rw [QeB h.c h.l _ (.inr (.inr rfl)), Obn]
 dsimp only
 unfold runM
 have hin := QbG h.c h.l s.pc 4
 generalize QN s.cs l s.m s.pc 4 = q at *
 by_cases h0 : q.2 = 0
 ·have hlt : 0 ≤ q.1 ∧ q.1 < ((s.m.length : Nat) : Int) := by
   rcases hin h0 with h | h
   ·exact absurd rfl h.2.2
   ·exact h
  have hN : q.1.toNat < s.m.length := by omega
  have hw : WW (s.m.getD q.1.toNat 0) := h.l.words _ (QaU hN)
  rw [if_neg (by simpa using h0), if_pos hlt, Qn 0 hN, QqH hw, Obn, if_pos hlt, Qn 0 hN, if_neg (c := q.2 ≠ 0) (by simpa using h0)]
  dsimp only
  generalize s.m.getD q.1.toNat 0 = w at *
  by_cases hd : decF w = 0
  ·rw [if_pos hd, if_pos hd]
   dsimp only
   rw [if_neg (by decide)]
   have hx := hdo hd
   have e1 : ((decM w).1, (decM w).2.1, (decM w).2.2.1, (decM w).2.2.2.1, ()) = decM w := rfl
   rw [e1] at hx
   rw [hx, Obn]
   generalize doM s l (decM w).1 (decM w).2.1 (decM w).2.2.1 (decM w).2.2.2.1 = x at *
   obtain ⟨b, s1⟩ := x
   cases b <;> rfl
  ·rw [if_neg hd, if_neg hd]
   dsimp only
   rw [if_pos (by decide)]
   unfold Mc.core
   rw [Qca h.c, Obn]
   rfl
 ·rw [if_pos (by simpa using h0), if_pos (c := q.2 ≠ 0) h0]
  unfold Mc.core
  rw [Qca h.c, Obn]
  rfl
theorem Qom (h : OkS s l) : F_gn (s.core l, ()) = some ((), ((Qac s l).core l, ())) := by
 obtain ⟨r, pc, cs, ha, wa, ru, dn, iq, oq, m, ring, fall⟩ := s
 have h0 : OkS ⟨r, pc, cs, ha, wa, ru, dn, iq, oq, m, -1, -1⟩ l := ⟨h.r, h.pc, h.c, h.i, h.o, h.d, h.l⟩
 have h1 : OkS ⟨r, pc, cs, ha, false, ru, dn, iq, oq, m, -1, -1⟩ l := ⟨h.r, h.pc, h.c, h.i, h.o, h.d, h.l⟩
 have hc : OkC cs := h.c
 have hle := Qln cs ru dn iq
 generalize he : Qac ⟨r, pc, cs, ha, wa, ru, dn, iq, oq, m, ring, fall⟩ l = e
 unfold Qac at he
 unfold F_gn
 dsimp only at he
 rw [show (Mc.core ⟨r, pc, cs, ha, wa, ru, dn, iq, oq, m, ring, fall⟩ l) = (r, pc, cs, ha, wa, ru, dn, iq, oq, l, m, fall, ring, ()) from rfl]
 dsimp only
 cases ha
 ·rw [if_neg (by decide)] at he
  rw [if_neg (by decide), QqJ hc, Obn]
  dsimp only
  by_cases hk : 0 ≤ dueM cs ru dn iq
  ·rw [if_pos hk] at he
   subst he
   rw [if_pos (QaZ.2 hk), Qt (by omega) (by omega), Qca hc, Obn]
   rfl
  ·rw [if_neg hk] at he
   rw [if_neg (by rw [QaZ]; exact hk)]
   cases wa
   ·rw [if_neg (by decide)] at he
    subst he
    rw [if_neg (by decide)]
    exact Qkh h0
   ·rw [if_pos rfl] at he
    have h7 : (0 : Int) ≤ 7 ∧ (7 : Int) < ((cs.length : Nat) : Int) := by rw [hc.len]; decide
    rw [if_pos rfl, Qea hc, Obn]
    dsimp only
    rw [if_pos h7, Qn 0 (by rw [hc.len]; decide)]
    simp only [show ((7 : Int)).toNat = 7 from rfl]
    by_cases hz : iand .i64 (Qda cs ru dn iq) (cs.getD 7 0) = 0
    ·rw [if_pos hz] at he
     subst he
     rw [if_pos (by simpa using hz)]
     rfl
    ·rw [if_neg hz] at he
     subst he
     rw [if_neg (by simpa using hz)]
     exact Qkh h1
 ·rw [if_pos rfl] at he
  subst he
  rw [if_pos rfl]
  rfl
theorem Qui (h : OkS s l) {op d a i : Int} (hi : OkI op d a i) : OkS (exM s l op d a i).2.2.2 l ∧ WW (exM s l op d a i).2.2.1 ∧ ((exM s l op d a i).1 = true → WW (exM s l op d a i).2.1) := by
 have hp : ∀ x y, WW (addW x y) := QjN
 have h0 : WW 0 := by unfold WW; omega
 have hd := hi.hd
 have ha := hi.ha
 have hii := hi.hi
 have hra := h.r.w (k := a.toNat) (by omega)
 have hrd := h.r.w (k := d.toNat) (by omega)
 unfold exM
 let P : Bool × Int × Int × Mc → Prop := fun x => OkS x.2.2.2 l ∧ WW x.2.2.1 ∧ (x.1 = true → WW x.2.1)
 refine Qs P (fun _ => ⟨h, hp _ _, fun _ => hp _ _⟩) fun _ => Qs P (fun _ => ⟨h, by unfold WW; dsimp only; omega, fun _ => hp _ _⟩) fun _ => Qs P (fun _ => ?_) fun _ => Qs P (fun _ => ?_) fun _ =>
  Qs P (fun _ => ⟨h, h0, fun _ => Qs WW (fun _ => hp _ _) fun _ => hp _ _⟩) fun _ => Qs P (fun _ => ⟨h, hp _ _, fun _ => hp _ _⟩) fun _ => Qs P (fun _ => ⟨h, hp _ _, fun _ => hp _ _⟩) fun _ =>
  Qs P (fun h21 => ⟨h, QqE h.c ⟨hii.1, hi.i21 (.inl h21)⟩ h.d, fun _ => hp _ _⟩) fun _ => Qs P (fun h22 => ⟨⟨h.r, h.pc, QtH h.c ⟨hii.1, hi.i21 (.inr h22)⟩, h.i, h.o, h.d, h.l⟩, h0, fun _ => hp _ _⟩) fun _ =>
  Qs P (fun _ => ⟨Qfp h (by unfold WW; omega) h0, h0, fun _ => h0⟩) fun _ => Qs P (fun _ => ⟨⟨h.r, h.c.w (by decide), QrM h.c, h.i, h.o, h.d, h.l⟩, h0, fun _ => h.c.w (by decide)⟩) fun _ =>
  Qs P (fun _ => ⟨⟨h.r, h.pc, h.c, h.i, h.o, h.d, h.l⟩, h0, fun _ => hp _ _⟩) fun _ => Qs P (fun _ => ⟨⟨h.r, h.pc, h.c, h.i, h.o, h.d, h.l⟩, h0, fun _ => h.pc⟩) fun _ => ⟨h, Qqk _ _ _, fun _ => hp _ _⟩
 ·have hin := QbG h.c h.l (addW (s.r.getD a.toNat 0) (off i)) 1
  refine Qs P (fun _ => ⟨Qfp h (by unfold WW; omega) (hp _ _), h0, fun _ => h0⟩) fun hq0 => Qs P (fun _ => ?_) fun hq => ⟨h, ?_, fun _ => hp _ _⟩
  ·have := QsE (ru := s.ru) h.c h.i h.d ((QN s.cs l s.m (addW (s.r.getD a.toNat 0) (off i)) 1).1 - 1000)
   exact ⟨⟨h.r, h.pc, h.c, this.2, h.o, h.d, h.l⟩, this.1, fun _ => hp _ _⟩
  ·have hlt : 0 ≤ (QN s.cs l s.m (addW (s.r.getD a.toNat 0) (off i)) 1).1 ∧ (QN s.cs l s.m (addW (s.r.getD a.toNat 0) (off i)) 1).1 < (s.m.length : Int) := by
    rcases hin (by simpa using hq0) with h | h
    ·exact absurd h.1 hq
    ·exact h
   exact h.l.words _ (QaU (by omega))
 ·refine Qs P (fun _ => ⟨Qfp h (by unfold WW; omega) (hp _ _), h0, fun _ => h0⟩) fun hq0 => Qs P (fun _ => ?_) fun hq => ?_
  ·exact ⟨⟨h.r, h.pc, Qut h.c _ _, h.i, Quu h.o _ _, h.d, h.l⟩, h0, fun _ => hp _ _⟩
  ·refine ⟨⟨h.r, h.pc, h.c, h.i, h.o, h.d, ⟨h.l.len, fun p hpm => ?_, fun w hw => ?_, ?_⟩⟩, h0, fun _ => hp _ _⟩
   ·have := h.l.pgs p hpm
    dsimp only
    rw [List.length_set]
    exact this
   ·rcases List.mem_or_eq_of_mem_set hw with hw | rfl
    ·exact h.l.words w hw
    ·exact hrd
   ·dsimp only
    rw [List.length_set]
    exact h.l.mlen
theorem OkR.set {r : List Int} (h : OkR r) {k : Nat} {w : Int} (hk : 0 < k) (hw : WW w) : OkR (r.set k w) :=
 ⟨by rw [List.length_set]; exact h.len, fun z hz => by
  rcases List.mem_or_eq_of_mem_set hz with hz | rfl
  ·exact h.words z hz
  ·exact hw, by rw [getD_set_ne (by omega)]; exact h.zero⟩
theorem QrR (h : OkS s l) {op d a i : Int} (hi : OkI op d a i) : OkS (doM s l op d a i).2 l := by
 have he := Qui h hi
 unfold doM
 dsimp only
 refine Qs (fun x : Bool × Mc => OkS x.2 l) (fun hb => ?_) fun _ => he.1
 refine ⟨?_, he.2.2 hb, he.1.c, he.1.i, he.1.o, he.1.d, he.1.l⟩
 refine Qs OkR (fun hd => he.1.r.set (by omega) he.2.1) fun _ => he.1.r
theorem Qsq (h : OkS s l) : OkS (Qkt s) l := by
 have := h.d
 refine ⟨h.r, h.pc, h.c, h.i, h.o, ?_, h.l⟩
 unfold Qkt
 dsimp only
 split <;> omega
theorem QpS (h : OkS s l) : OkS (runM s l) l := by
 unfold runM
 have hin := QbG h.c h.l s.pc 4
 refine Qs (fun x => OkS x l) (fun _ => Qfp h (by unfold WW; omega) h.pc) fun hq0 => ?_
 have hlt : 0 ≤ (QN s.cs l s.m s.pc 4).1 ∧ (QN s.cs l s.m s.pc 4).1 < (s.m.length : Int) := by
  rcases hin (by simpa using hq0) with h | h
  ·exact absurd rfl h.2.2
  ·exact h
 have hw : WW (s.m.getD (QN s.cs l s.m s.pc 4).1.toNat 0) := h.l.words _ (QaU (by omega))
 refine Qs (fun x => OkS x l) (fun hd => ?_) fun _ => Qfp h (by unfold WW; omega) hw
 exact Qs (fun x => OkS x l) (fun _ => Qsq (QrR h (QhV hd))) fun _ => QrR h (QhV hd)
theorem QgK (h : OkS s l) : OkS (Qac s l) l := by
 have h0 : OkS { s with ring := -1, fall := -1 } l := ⟨h.r, h.pc, h.c, h.i, h.o, h.d, h.l⟩
 have h1 : OkS { s with ring := -1, fall := -1, wa := false } l := ⟨h.r, h.pc, h.c, h.i, h.o, h.d, h.l⟩
 have hle := Qln s.cs s.ru s.dn s.iq
 unfold Qac
 refine Qs (fun x => OkS x l) (fun _ => h0) fun _ => Qs (fun x => OkS x l) (fun hk => Qfp h0 ?_ (by unfold WW; omega)) fun _ => Qs (fun x => OkS x l) (fun _ => Qs (fun x => OkS x l) (fun _ => h0) fun _ => QpS h1) fun _ => QpS h0
 unfold WW
 dsimp only at *
 omega
end
theorem QiR {α β : Type} {f : Nat → α → Option β} : ∀ {m : List α} {i : Nat}, scan f i m = none → ∀ x ∈ m, ∃ j, f j x = none
 | [], _, _, _, hx => by cases hx
 | y :: r, i, h, x, hx => by
  simp only [scan] at h
  split at h
  ·cases h
  ·rename_i hn
   rcases List.mem_cons.1 hx with rfl | hx
   ·exact ⟨_, hn⟩
   ·exact QiR h x hx
theorem QfZ {l : List TwoD} {top : Int} (ht : 1 ≤ top ∧ top ≤ 24) (h : QaD l top = 0) : l.length = 8 ∧ ∀ p ∈ l, (-1 ≤ p.1 ∧ p.1 ≤ top - 1) ∧ (0 ≤ p.2.1 ∧ p.2.1 ≤ 7) := by
 unfold QaD at h
 rw [if_pos (by unfold inB; simp [ht.1, ht.2])] at h
 split at h
 ·rename_i hl
  refine ⟨hl, fun p hp => ?_⟩
  have key : scan (fun (_ : Nat) p => QeG top p) 0 l = none := by
   split at h
   ·rename_i c hc
    exfalso
    have : ∀ {l : List TwoD} {i : Nat} {c : Int}, scan (fun (_ : Nat) p => QeG top p) i l = some c → c ≠ 0 := by
     intro l
     induction l with
     | nil => intro i c h; simp [scan] at h
     | cons y r ih =>
      intro i c h
      simp only [scan] at h
      split at h
      ·rename_i c' hc'
       obtain rfl := Osj h
       unfold QeG nz at hc'
       intro e
       subst e
       repeat' split at hc'
       all_goals first | (cases hc'; done) | simp_all
      ·exact ih h
    exact this hc h
   ·rename_i hn; exact hn
  obtain ⟨j, hj⟩ := QiR key p hp
  unfold QeG inB at hj
  split at hj
  ·rename_i h1
   split at hj
   ·rename_i h2
    simp only [Bool.and_eq_true, decide_eq_true_eq] at h1 h2
    omega
   ·cases hj
  ·cases hj
 ·omega
def Mc.of (h : QJ) (m : List Int) : Mc := ⟨h.1, h.2.1, h.2.2.1, h.2.2.2.1, h.2.2.2.2.1, h.2.2.2.2.2.1, h.2.2.2.2.2.2.1, h.2.2.2.2.2.2.2.1, h.2.2.2.2.2.2.2.2.1, m, -1, -1⟩
theorem QtV {h : QJ} {l : List TwoD} {m : List Int} (h1 : hartM h = 0) (hL : OkL l m) : OkS (Mc.of h m) l := by
 unfold hartM at h1
 split at h1
 ·rename_i c1
  split at h1
  ·rename_i c2
   split at h1
   ·rename_i c3
    split at h1
    ·rename_i c4
     split at h1
     ·rename_i c5
      simp only [inB, Bool.and_eq_true, decide_eq_true_eq] at c4
      exact ⟨⟨c1.1, QaF.1 c2.1, c1.2.2⟩, Qfh.1 c2.2.1, ⟨c1.2.1, QaF.1 c2.2.2.1, c5.1, c5.2.1, c5.2.2.1, c5.2.2.2.1, c5.2.2.2.2⟩, ⟨c3.1, QaF.1 c2.2.2.2.1⟩, ⟨c3.2, QaF.1 c2.2.2.2.2⟩, c4, hL⟩
     ·omega
    ·omega
   ·omega
  ·omega
 ·omega
theorem QiX (h : QJ) (hh : Qam 1048576 h) : F_ax (h, ()) = some ((h, ()), ()) := by
 obtain ⟨h1, h2, h3, h4⟩ := hh
 unfold F_ax
 dsimp only
 rw [if_pos (by simp; omega), if_pos (by simp; omega), if_pos (by simp; omega), if_pos (by simp; omega)]
 rfl
theorem QqQ (h : QJ) (hh : Qam 1048576 h) : F_er (h, ()) = some ((h, ()), ()) := by
 obtain ⟨h1, h2, h3, h4⟩ := hh
 unfold F_er
 dsimp only
 rw [Qcj h1, Obn, Qcj h2, Obn, Qcj h3, Obn, Qcj h4, Obn]
theorem QkF (h : QJ) (l : List TwoD) (m : List Int) (hh : Qam 1048576 h) (hm : m.length ≤ 1048576) : F_bk (h, l, m, ()) = some (((Mc.of h m).bus l, ()), ()) := by
 unfold F_bk F_aw
 dsimp only
 rw [if_pos (by simp; omega), Obn, QiX h hh, Obn]
 rfl
def QbR (l : List TwoD) : Nat → Int → Int → Mc → Int × Int × Mc
 | 0, c, g, s => (c, g, s)
 | k + 1, c, g, s => QbR l k (if 0 ≤ (Qac s l).fall then (Qac s l).fall else c) (if 0 ≤ (Qac s l).ring then (Qac s l).ring else g) (Qac s l)
abbrev QtP := Int × Int × Int × List Int × Int × List Int × Bool × Bool × Bool × Int × List Int × List Int × List Int × Unit
def QnL (c : Int) : QtP := (c, 0, 0, [], 0, [], false, false, false, 0, [], [], [], ())
def Mc.res (s : Mc) (c g : Int) : QtP := (0, c, g, s.r, s.pc, s.cs, s.ha, s.wa, s.ru, s.dn, s.iq, s.oq, s.m, ())
theorem Qjv (l : List TwoD) (n : Int) (h0 : 0 ≤ n ∧ n ≤ 500) (s0 : Mc) (h : OkS s0 l) : ∀ (i : Nat) (x : Int × Int × Mc), i ≤ n.toNat → OkS x.2.2 l →
  Qc l_go_4 lots (((), (), x.1, x.2.1, n, ((i : Nat) : Int), ()), (QnL 0, x.2.2.core l, ()), ()) =
   some (.inl (((), (), (QbR l (n.toNat - i) x.1 x.2.1 x.2.2).1, (QbR l (n.toNat - i) x.1 x.2.1 x.2.2).2.1, ()), (QnL 0, (QbR l (n.toNat - i) x.1 x.2.1 x.2.2).2.2.core l, ()), ())) := by
 have key := QbX (step := l_go_4) (γ := denO o_go_4) (fun i (x : Int × Int × Mc) => (((), (), x.1, x.2.1, n, ((i : Nat) : Int), ()), (QnL 0, x.2.2.core l, ()), ())) n.toNat (QW (by omega)) (fun _ x => OkS x.2.2 l)
  (fun i x => some (.inl (((), (), (QbR l (n.toNat - i) x.1 x.2.1 x.2.2).1, (QbR l (n.toNat - i) x.1 x.2.1 x.2.2).2.1, ()), (QnL 0, (QbR l (n.toNat - i) x.1 x.2.1 x.2.2).2.2.core l, ()), ()))) ?_
 ·exact key
 ·rintro rec i ⟨c, g, s⟩ hi hok ih
  unfold l_go_4
  dsimp only at *
  by_cases hlt : i < n.toNat
  ·rw [if_pos (QU.2 (by omega)), Qom hok, Obn]
   have e1 : n.toNat - i = n.toNat - (i + 1) + 1 := by omega
   have ih2 := ih (if 0 ≤ (Qac s l).fall then (Qac s l).fall else c, if 0 ≤ (Qac s l).ring then (Qac s l).ring else g, Qac s l) hlt (QgK hok)
   dsimp only
   rw [QK (by omega), e1]
   simp only [QbR]
   rw [← ih2]
   unfold Mc.core
   dsimp only
   by_cases hf : 0 ≤ (Qac s l).fall
   ·rw [if_pos (QaZ.2 hf), if_pos hf]
    by_cases hg : 0 ≤ (Qac s l).ring
    ·rw [if_pos (QaZ.2 hg), if_pos hg]
    ·rw [if_neg (by rw [QaZ]; exact hg), if_neg hg]
   ·rw [if_neg (by rw [QaZ]; exact hf), if_neg hf]
    by_cases hg : 0 ≤ (Qac s l).ring
    ·rw [if_pos (QaZ.2 hg), if_pos hg]
    ·rw [if_neg (by rw [QaZ]; exact hg), if_neg hg]
  ·have : i = n.toNat := by omega
   subst this
   rw [if_neg (by rw [QU]; omega), Nat.sub_self]
   rfl
theorem Qoo (l : List TwoD) (a b : Int) (s : Mc) : ∀ (k : Nat) (c g : Int), (QbR l k c g { s with ring := a, fall := b }).1 = (QbR l k c g s).1 ∧ (QbR l k c g { s with ring := a, fall := b }).2.1 = (QbR l k c g s).2.1 ∧
  ∀ x y, (QbR l k c g { s with ring := a, fall := b }).2.2.res x y = (QbR l k c g s).2.2.res x y
 | 0, _, _ => ⟨rfl, rfl, fun _ _ => rfl⟩
 | k + 1, _, _ => ⟨rfl, rfl, fun _ _ => rfl⟩
theorem Qfy (h : QJ) (l : List TwoD) (m : List Int) (n : Int) (hh : Qam 1048576 h) (hm : m.length ≤ 1048576) (ho : OkS (Mc.of h m) l) (hn : 0 ≤ n ∧ n ≤ 500) : F_go (h, l, m, n, ()) =
  some (((QbR l n.toNat (-1) (-1) (Mc.of h m)).2.2.res (QbR l n.toNat (-1) (-1) (Mc.of h m)).1 (QbR l n.toNat (-1) (-1) (Mc.of h m)).2.1, ()), ()) := by
 have ho2 : OkS { Mc.of h m with ring := 0, fall := 0 } l := ⟨ho.r, ho.pc, ho.c, ho.i, ho.o, ho.d, ho.l⟩
 have key := Qjv l n hn _ ho2 0 (-1, -1, { Mc.of h m with ring := 0, fall := 0 }) (by omega) ho2
 obtain ⟨q1, q2, q3⟩ := Qoo l 0 0 (Mc.of h m) n.toNat (-1) (-1)
 unfold F_go
 dsimp only
 rw [QqQ h hh, Obn, Qcj hm, Obn]
 show (Qc l_go_4 lots (((), (), (-1), (-1), n, (((0 : Nat) : Nat) : Int), ()), (QnL 0, Mc.core { Mc.of h m with ring := 0, fall := 0 } l, ()), ())).bind _ = _
 rw [key, ← q1, ← q2, ← q3]
 rfl
section
variable {l : List TwoD} {s : Mc}
def FR (s : Mc) : Prop := (s.fall = -1 ∨ 0 ≤ s.fall) ∧ (s.ring = -1 ∨ 0 ≤ s.ring)
theorem FR.trap (h : FR s) {cause tval : Int} (hc : 0 ≤ cause) : FR (s.trap cause tval) := ⟨.inr hc, h.2⟩
theorem QsG (k w : Int) : QhI k w = -1 ∨ 0 ≤ QhI k w := by
 unfold QhI; split
 ·exact .inr (QY w).1
 ·exact .inl rfl
theorem Quh (h : FR s) (op d a i : Int) : FR (exM s l op d a i).2.2.2 := by
 unfold exM
 let P : Bool × Int × Int × Mc → Prop := fun x => FR x.2.2.2
 refine Qs P (fun _ => h) fun _ => Qs P (fun _ => h) fun _ => Qs P (fun _ => Qs P (fun _ => h.trap (by omega)) fun _ => Qs P (fun _ => h) fun _ => h) fun _ =>
  Qs P (fun _ => Qs P (fun _ => h.trap (by omega)) fun _ => Qs P (fun _ => ⟨h.1, QsG _ _⟩) fun _ => h) fun _ => Qs P (fun _ => h) fun _ => Qs P (fun _ => h) fun _ => Qs P (fun _ => h) fun _ =>
  Qs P (fun _ => h) fun _ => Qs P (fun _ => h) fun _ => Qs P (fun _ => h.trap (by omega)) fun _ => Qs P (fun _ => h) fun _ => Qs P (fun _ => h) fun _ => Qs P (fun _ => h) fun _ => h
theorem QrQ (h : FR s) (op d a i : Int) : FR (doM s l op d a i).2 := by
 have he := Quh (l := l) h op d a i
 unfold doM
 dsimp only
 exact Qs (fun x : Bool × Mc => FR x.2) (fun _ => he) fun _ => he
theorem QpR (h : FR s) : FR (runM s l) := by
 unfold runM
 refine Qs FR (fun _ => h.trap (by omega)) fun _ => Qs FR (fun _ => ?_) fun _ => h.trap (by omega)
 exact Qs FR (fun _ => QrQ (l := l) h _ _ _ _) fun _ => QrQ h _ _ _ _
theorem Qnw (s : Mc) (l : List TwoD) : FR (Qac s l) := by
 have h0 : FR { s with ring := -1, fall := -1 } := ⟨.inl rfl, .inl rfl⟩
 have h1 : FR { s with ring := -1, fall := -1, wa := false } := ⟨.inl rfl, .inl rfl⟩
 unfold Qac
 refine Qs FR (fun _ => h0) fun _ => Qs FR (fun hk => h0.trap (Int.add_nonneg (by decide) hk)) fun _ => Qs FR (fun _ => Qs FR (fun _ => h0) fun _ => QpR h1) fun _ => QpR h0
end
def itM (l : List TwoD) : Nat → Mc → Mc
 | 0, s => s
 | k + 1, s => itM l k (Qac s l)
theorem QpJ (l : List TwoD) : ∀ (k : Nat) (c g : Int) (s : Mc), (QbR l k c g s).2.2 = itM l k s
 | 0, _, _, _ => rfl
 | k + 1, _, _, _ => QpJ l k _ _ _
abbrev Qpt := Int × List Int × Int × List Int × Bool × Bool × Bool × Int × List Int × List Int × List TwoD × List Int × Unit
def Qqi (c : Int) : Qpt := (c, [], 0, [], false, false, false, 0, [], [], [], [], ())
def Qua (s : Mc) (l : List TwoD) : Qpt := (0, s.r, s.pc, s.cs, s.ha, s.wa, s.ru, s.dn, s.iq, s.oq, l, s.m, ())
def QiN (x : QL) (n : Int) : Qpt :=
 if QS x ≠ 0 then Qqi (QS x) else if 0 ≤ n ∧ n ≤ 500 then Qua (itM x.2.1 n.toNat (Mc.of x.1 x.2.2.1)) x.2.1 else Qqi 3
theorem QiF {x : QL} (h : QS x = 0) : OkS (Mc.of x.1 x.2.2.1) x.2.1 := by
 obtain ⟨h1, h2, h3, h4⟩ := QbW h
 obtain ⟨hl, hp⟩ := QfZ (by decide) h2
 refine QtV h1 ⟨hl, fun p hpm => ?_, ?_, by omega⟩
 ·have := hp p hpm
  refine ⟨by omega, this.2, ?_⟩
  rw [h4]; omega
 ·have hm := QfA h3
  unfold QC at h3
  rw [if_pos hm] at h3
  split at h3
  ·exact QaF.1 ‹_›
  ·omega
theorem QeS (x : QL) (h : Qce 1048576 x) : F_az (x, ()) = some (((x.1.1, x.1.2.1, x.1.2.2.1, x.1.2.2.2.1, x.1.2.2.2.2.1, x.1.2.2.2.2.2.1, x.1.2.2.2.2.2.2.1, x.1.2.2.2.2.2.2.2.1, x.1.2.2.2.2.2.2.2.2.1, x.2.1, x.2.2.1, ()), ()), ()) := by
 obtain ⟨h1, h2, h3⟩ := h
 unfold F_az F_aw
 dsimp only
 rw [QiX _ h1, Obn, if_pos (by simp; omega), if_pos (by simp; omega), Obn]
 rfl
theorem QjH (l : List TwoD) (n : Int) (h0 : 0 ≤ n ∧ n ≤ 500) (z : Qpt) (q : List Int × Int × List Int × Bool × Bool × Bool × Int × List Int × List Int × List TwoD × List Int × Unit) : ∀ (i : Nat) (s : Mc), i ≤ n.toNat → OkS s l →
  Qc l_cu_9 lots ((n, (), (), (), ((i : Nat) : Int), ()), (z, q, s.bus l, ()), ()) = some (.inl (((), (), (), ()), (z, q, (itM l (n.toNat - i) s).bus l, ()), ())) := by
 have key := QbX (step := l_cu_9) (γ := denO o_cu_9) (fun i (s : Mc) => ((n, (), (), (), ((i : Nat) : Int), ()), (z, q, s.bus l, ()), ())) n.toNat (QW (by omega)) (fun _ s => OkS s l)
  (fun i s => some (.inl (((), (), (), ()), (z, q, (itM l (n.toNat - i) s).bus l, ()), ()))) ?_
 ·exact key
 ·intro rec i s hi hok ih
  unfold l_cu_9
  dsimp only
  by_cases hlt : i < n.toNat
  ·rw [if_pos (QU.2 (by omega)), QiZ hok, Obn]
   have e1 : n.toNat - i = n.toNat - (i + 1) + 1 := by omega
   have ih2 := ih (Qac s l) hlt (QgK hok)
   dsimp only
   rw [QK (by omega), e1]
   simp only [itM]
   rw [← ih2]
  ·have : i = n.toNat := by omega
   subst this
   rw [if_neg (by rw [QU]; omega), Nat.sub_self]
   rfl
theorem QjF (x : QL) (n : Int) (h : Qce 1048576 x) : F_cu (x, n, ()) = some ((QiN x n, ()), ()) := by
 unfold F_cu QiN
 dsimp only
 rw [QeT x h, Obn, Qbv, Obn]
 dsimp only
 by_cases ha : QS x = 0
 ·rw [if_neg (by simpa using ha), if_neg (c := QS x ≠ 0) (by simpa using ha)]
  by_cases hn : 0 ≤ n ∧ n ≤ 500
  ·rw [if_neg (by simp [hn.1, hn.2]), if_pos hn, QeS x h, Obn, QkF x.1 x.2.1 x.2.2.1 h.1 h.2.2, Obn]
   have key := QjH x.2.1 n hn (Qqi 0) (x.1.1, x.1.2.1, x.1.2.2.1, x.1.2.2.2.1, x.1.2.2.2.2.1, x.1.2.2.2.2.2.1, x.1.2.2.2.2.2.2.1, x.1.2.2.2.2.2.2.2.1, x.1.2.2.2.2.2.2.2.2.1, x.2.1, x.2.2.1, ()) 0 (Mc.of x.1 x.2.2.1) (by omega) (QiF ha)
   show (Qc l_cu_9 lots ((n, (), (), (), (((0 : Nat) : Nat) : Int), ()), (Qqi 0, (x.1.1, x.1.2.1, x.1.2.2.1, x.1.2.2.2.1, x.1.2.2.2.2.1, x.1.2.2.2.2.2.1, x.1.2.2.2.2.2.2.1, x.1.2.2.2.2.2.2.2.1, x.1.2.2.2.2.2.2.2.2.1, x.2.1, x.2.2.1, ()), (Mc.of x.1 x.2.2.1).bus x.2.1, ()), ())).bind _ = _
   rw [key]
   rfl
  ·rw [if_pos (by simp; omega), if_neg hn]
   rfl
 ·rw [if_pos (by simpa using ha), if_pos (c := QS x ≠ 0) ha]
  rfl
abbrev SrcD := List Int × Int × Unit
def Sr (s : SrcD) (k : Int) : Prop := Byt s.1 ∧ 0 ≤ s.2.1 ∧ s.2.1 ≤ k
theorem Sr.le {s : SrcD} {k k' : Int} (h : Sr s k) (hk : k ≤ k') : Sr s k' := ⟨h.1, h.2.1, Int.le_trans h.2.2 hk⟩
theorem Sr.pos {s : SrcD} {k : Int} (h : Sr s k) : 0 ≤ k := Int.le_trans h.2.1 h.2.2
def Dr {X : Type} (o : Option X) (P : X → Prop) : Prop := ∃ v, o = some v ∧ P v
theorem Dr.bind {X Y : Type} {o : Option X} {f : X → Option Y} {Q : X → Prop} {P : Y → Prop} (h : Dr o Q) (g : ∀ v, Q v → Dr (f v) P) : Dr (o.bind f) P := by
 obtain ⟨v, rfl, hv⟩ := h
 exact g v hv
theorem Dr.ret {X : Type} {v : X} {P : X → Prop} (h : P v) : Dr (some v) P := ⟨v, rfl, h⟩
theorem Dr.guard {X : Type} {c : Prop} [Decidable c] {a : Option X} {P : X → Prop} (hc : c) (ha : Dr a P) : Dr (if c then a else none) P := by rw [if_pos hc]; exact ha
theorem Dr.nguard {X : Type} {c : Prop} [Decidable c] {a : Option X} {P : X → Prop} (hc : ¬ c) (ha : Dr a P) : Dr (if c then none else a) P := by rw [if_neg hc]; exact ha
theorem Dr.get {X Y : Type} {xs : List X} {i : Nat} {f : X → Option Y} {P : Y → Prop} (hi : i < xs.length) (h : ∀ y, y ∈ xs → xs[i]? = some y → Dr (f y) P) : Dr ((xs[i]?).bind f) P := by
 rw [List.getElem?_eq_getElem hi, Obn]
 exact h _ (List.getElem_mem hi) (List.getElem?_eq_getElem hi)
theorem Dr.gat {X Y : Type} {xs : List X} {i : Int} {n : Nat} {f : X → Option Y} {P : Y → Prop} (hn : xs.length = n) (h : 0 ≤ i ∧ i < (n : Int)) (k : ∀ y, y ∈ xs → Dr (f y) P) : Dr (if 0 ≤ i ∧ i < ((xs.length : Nat) : Int) then (xs[i.toNat]?).bind f else none) P := by
 subst hn
 exact Dr.guard h (Dr.get (by omega) fun y hy _ => k y hy)
theorem Dr.of {X : Type} {o : Option X} {v : X} {P : X → Prop} (h : o = some v) (hv : P v) : Dr o P := ⟨v, h, hv⟩
theorem QbQ {X Y : Type} {step : (X → Option Y) → X → Option Y} {Q : Y → Prop} (I : Nat → X → Prop) (h : ∀ rec m x, I m x → (∀ m' x', m' < m → I m' x' → Dr (rec x') Q) → Dr (step rec x) Q) (m : Nat) (x : X) (hI : I m x) (hm : m < lots) : Dr (Qc step lots x) Q := by
 have key : ∀ n m x, m < n → I m x → Dr (Qc step n x) Q := by
  intro n
  induction n with
  | zero => intro m x h; omega
  | succ n ih => intro m x hm hI; exact h _ m x hI fun m' x' hlt hI' => ih m' x' (by omega) hI'
 exact key lots m x hm hI
def Bd (n x : Int) : Prop := 0 ≤ x ∧ (x < n ∨ x = 0)
theorem Bd.e {n x : Int} (h : Bd n x) : 0 ≤ x ∧ (x < n ∨ x = 0) := h
def Bt (a b x : Int) : Prop := a ≤ x ∧ x ≤ b
theorem Bt.e {a b x : Int} (h : Bt a b x) : a ≤ x ∧ x ≤ b := h
structure HL (h : QJ) : Prop where
 r : h.1.length = 16
 c : h.2.2.1.length = 11
 i : h.2.2.2.2.2.2.2.1.length ≤ 2
 o : h.2.2.2.2.2.2.2.2.1.length ≤ 40
structure HB (h : QJ) : Prop where
 r : h.1.length ≤ 16
 c : h.2.2.1.length = 11
 i : h.2.2.2.2.2.2.2.1.length ≤ 41
 o : h.2.2.2.2.2.2.2.2.1.length ≤ 40
theorem HL.b {h : QJ} (hh : HL h) : HB h := ⟨by rw [hh.r]; omega, hh.c, by have := hh.i; omega, hh.o⟩
theorem HB.le {h : QJ} (hh : HB h) : Qam 1048576 h := ⟨by have := hh.r; omega, by rw [hh.c]; omega, by have := hh.i; omega, by have := hh.o; omega⟩
theorem Dr.step {X Y : Type} {o : Option X} {v : X} {f : X → Option Y} {P : Y → Prop} (h : o = some v) (g : Dr (f v) P) : Dr (o.bind f) P := by rw [h]; exact g
theorem Dr.pos {X : Type} {c : Prop} [Decidable c] {a b : Option X} {P : X → Prop} (hc : c) (h : Dr a P) : Dr (if c then a else b) P := by rw [if_pos hc]; exact h
theorem Dr.neg {X : Type} {c : Prop} [Decidable c] {a b : Option X} {P : X → Prop} (hc : ¬ c) (h : Dr b P) : Dr (if c then a else b) P := by rw [if_neg hc]; exact h
theorem Dr.eq {X : Type} {o : Option X} {v : X} (h : Dr o fun r => r = v) : o = some v := by
 obtain ⟨_, e, rfl⟩ := h
 exact e
def Mc.hart (s : Mc) : QJ := (s.r, s.pc, s.cs, s.ha, s.wa, s.ru, s.dn, s.iq, s.oq, ())
theorem QrV (s : Mc) (l : List TwoD) (op d a i : Int) : (exM s l op d a i).2.2.2.m.length = s.m.length := by
 unfold exM
 let P : Bool × Int × Int × Mc → Prop := fun x => x.2.2.2.m.length = s.m.length
 exact Qs P (fun _ => rfl) fun _ => Qs P (fun _ => rfl) fun _ => Qs P (fun _ => Qs P (fun _ => rfl) fun _ => Qs P (fun _ => rfl) fun _ => rfl) fun _ =>
  Qs P (fun _ => Qs P (fun _ => rfl) fun _ => Qs P (fun _ => rfl) fun _ => List.length_set) fun _ => Qs P (fun _ => rfl) fun _ => Qs P (fun _ => rfl) fun _ => Qs P (fun _ => rfl) fun _ =>
  Qs P (fun _ => rfl) fun _ => Qs P (fun _ => rfl) fun _ => Qs P (fun _ => rfl) fun _ => Qs P (fun _ => rfl) fun _ => Qs P (fun _ => rfl) fun _ => Qs P (fun _ => rfl) fun _ => rfl
theorem Qmi (s : Mc) (l : List TwoD) (op d a i : Int) : (doM s l op d a i).2.m.length = s.m.length := by
 have := QrV s l op d a i
 unfold doM
 dsimp only
 split <;> exact this
theorem QkC (s : Mc) (l : List TwoD) : (runM s l).m.length = s.m.length := by
 unfold runM
 dsimp only
 split
 ·rfl
 ·split
  ·split
   ·exact Qmi s l _ _ _ _
   ·exact Qmi s l _ _ _ _
  ·rfl
theorem Qjc (s : Mc) (l : List TwoD) : (Qac s l).m.length = s.m.length := by
 unfold Qac
 dsimp only
 split
 ·rfl
 ·split
  ·rfl
  ·split
   ·split
    ·rfl
    ·exact QkC { s with ring := -1, fall := -1, wa := false } l
   ·exact QkC { s with ring := -1, fall := -1 } l
theorem OkS.hartM {s : Mc} {l : List TwoD} (h : OkS s l) : hartM s.hart = 0 := by
 unfold Go.Proofs.YtopmpmbdkieenaaGreatDoor.hartM Mc.hart
 dsimp only
 rw [if_pos ⟨h.r.len, h.c.len, h.r.zero⟩, if_pos ⟨QaF.2 h.r.words, Qfh.2 h.pc, QaF.2 h.c.words, QaF.2 h.i.words, QaF.2 h.o.words⟩, if_pos ⟨h.i.len, h.o.len⟩,
  if_pos (QcS.2 h.d), if_pos ⟨h.c.st, h.c.msk, h.c.tb, h.c.pd, h.c.tm⟩]
def noPg : TwoD := (-1, 0, ())
def QbM : List TwoD := [noPg, noPg, noPg, noPg, noPg, noPg, noPg, noPg]
def QcA : Nat → List Int → List TwoD → List TwoD
 | _, [], l => l
 | k, p :: r, l => QcA (k + 1) r (l.set k (p, 7, ()))
def Qcz (g : Int) (x : Qay) (l : List TwoD) : List TwoD :=
 let l1 := if x.1 = g then l.set x.2.2.2.1.toNat (x.2.2.1, 3, ()) else l
 if x.2.1 = g then l1.set x.2.2.2.2.1.toNat (x.2.2.1, 1, ()) else l1
def Qdx (g : Int) : List Qay → List TwoD → List TwoD
 | [], l => l
 | x :: r, l => Qdx g r (Qcz g x l)
def pgM (p : PolD) (g : Int) : List TwoD := Qdx g p.2.1 (QcA 0 (p.1.getD g.toNat []) QbM)
theorem Qfi : ∀ (r : List Int) (k : Nat) (l : List TwoD), (QcA k r l).length = l.length
 | [], _, _ => rfl
 | p :: r, k, l => by rw [QcA, Qfi r]; simp
theorem Qhe (g : Int) (x : Qay) (l : List TwoD) : (Qcz g x l).length = l.length := by
 unfold Qcz
 dsimp only
 repeat' split
 all_goals simp
theorem Qix (g : Int) : ∀ (r : List Qay) (l : List TwoD), (Qdx g r l).length = l.length
 | [], _ => rfl
 | x :: r, l => by rw [Qdx, Qix g r, Qhe]
theorem QtD (p : PolD) (g : Int) : (pgM p g).length = 8 := by unfold pgM; rw [Qix, Qfi]; rfl
theorem Qkv {P : TwoD → Prop} : ∀ (r : List Int) (k : Nat) (l : List TwoD), (∀ x ∈ r, P (x, 7, ())) → (∀ q ∈ l, P q) → ∀ q ∈ QcA k r l, P q
 | [], _, _, _, h => h
 | p :: r, k, l, h1, h => Qkv r (k + 1) _ (fun x hx => h1 x (List.mem_cons_of_mem _ hx)) fun q hq => by
  rcases List.mem_or_eq_of_mem_set hq with hq | rfl
  ·exact h q hq
  ·exact h1 p (by simp)
theorem QqT {P : TwoD → Prop} {g : Int} {x : Qay} {l : List TwoD} (h1 : P (x.2.2.1, 3, ())) (h2 : P (x.2.2.1, 1, ())) (h : ∀ q ∈ l, P q) : ∀ q ∈ Qcz g x l, P q := by
 have s : ∀ {l : List TwoD} {k : Nat} {y : TwoD}, P y → (∀ q ∈ l, P q) → ∀ q ∈ l.set k y, P q := fun hy h q hq => by
  rcases List.mem_or_eq_of_mem_set hq with hq | rfl
  ·exact h q hq
  ·exact hy
 unfold Qcz
 dsimp only
 split
 ·split
  ·exact s h2 (s h1 h)
  ·exact s h2 h
 ·split
  ·exact s h1 h
  ·exact h
theorem Qiw {P : TwoD → Prop} {g : Int} : ∀ (r : List Qay) (l : List TwoD), (∀ x ∈ r, P (x.2.2.1, 3, ()) ∧ P (x.2.2.1, 1, ())) → (∀ q ∈ l, P q) → ∀ q ∈ Qdx g r l, P q
 | [], _, _, h => h
 | x :: r, l, h1, h => Qiw r _ (fun y hy => h1 y (List.mem_cons_of_mem _ hy)) (QqT (h1 x (by simp)).1 (h1 x (by simp)).2 h)
theorem QlC {p : PolD} {g : Int} (hok : OkPol p) (hg : isG p g = true) : p.1.getD g.toNat [] ∈ p.1 := by
 have := Qgx.1 hg
 exact QaU (by omega)
theorem Qur {p : PolD} {g : Int} (hok : OkPol p) (hg : isG p g = true) : ∀ q ∈ pgM p g, (-1 ≤ q.1 ∧ q.1 ≤ 23) ∧ 0 ≤ q.2.1 ∧ q.2.1 ≤ 7 := by
 refine Qiw (P := fun q => (-1 ≤ q.1 ∧ q.1 ≤ 23) ∧ 0 ≤ q.2.1 ∧ q.2.1 ≤ 7) _ _ (fun x hx => ?_) (Qkv _ _ _ (fun x hx => ?_) ?_)
 ·have := (QeF hok x hx).2.1
  dsimp only
  omega
 ·have := (hok.own1 _ (QlC hok hg)).2.2 x hx
  dsimp only
  omega
 ·intro q hq
  simp only [QbM, List.mem_cons, List.not_mem_nil, or_false, or_self] at hq
  subst hq
  unfold noPg
  decide
theorem QiH {r : List Int} {k i : Nat} {l : List TwoD} (h : i < r.length) : QcA (k + i) (r.drop i) l = QcA (k + (i + 1)) (r.drop (i + 1)) (l.set (k + i) (r[i], 7, ())) := by
 rw [List.drop_eq_getElem_cons h, QcA]
 rfl
theorem QhC {g : Int} {r : List Qay} {i : Nat} {l : List TwoD} (h : i < r.length) : Qdx g (r.drop i) l = Qdx g (r.drop (i + 1)) (Qcz g r[i] l) := by
 rw [List.drop_eq_getElem_cons h, Qdx]
theorem QoK (p : PolD) (g : Int) : L_cv_3 ((p, (g, (([] : List TwoD), ((0 : Int), ())))), ((), ())) = some (.inl ((p, (g, (QbM, ()))), ((), ()))) := by kernel_rfl
theorem Qnn {p : PolD} {g : Int} (hok : OkPol p) (hg : isG p g = true) : F_cv (p, g, ()) = some ((pgM p g, ()), ()) := by
 have hgi := Qgx.1 hg
 have hi : g.toNat < p.1.length := by omega
 have hown := hok.own1 _ (QlC hok hg)
 have hlane := QeF hok
 have hll := hok.lanes.1
 refine Dr.eq ?_
 unfold F_cv
 refine Dr.step (QoK p g) ?_
 dsimp only
 have k1 : Dr (L_cv_7 ((p, (g, (QbM, ((0 : Int), ())))), ((), ()))) fun o => o = .inl ((p, (g, (QcA 0 (p.1.getD g.toNat []) QbM, ()))), ((), ())) := by
  refine QbQ (fun n u => ∃ (i : Nat) (l : List TwoD), u = ((p, (g, (l, ((i : Int), ())))), ((), ())) ∧ n = (p.1.getD g.toNat []).length - i ∧ i ≤ (p.1.getD g.toNat []).length ∧ l.length = 8 ∧ QcA (0 + i) ((p.1.getD g.toNat []).drop i) l = QcA 0 (p.1.getD g.toNat []) QbM) ?_ _ _ ⟨0, QbM, rfl, rfl, Nat.zero_le _, rfl, rfl⟩ (by rw [Qaj]; omega)
  rintro rec n _ ⟨i, l, rfl, hn, hin, hl, he⟩ ih
  have e1 : p.1[g.toNat]? = some (p.1.getD g.toNat []) := by rw [List.getD_eq_getElem?_getD, List.getElem?_eq_getElem hi]; rfl
  unfold l_cv_7
  generalize p.1.getD g.toNat [] = w at *
  dsimp only
  rw [if_pos hgi.1, e1, Obn]
  by_cases hlt : i < w.length
  case neg =>
   rw [if_neg (lt_f hlt)]
   rw [List.drop_of_length_le (by omega)] at he
   exact Dr.ret (by rw [← he]; rfl)
  rw [if_pos (lt_t hlt), if_pos hgi.1, Obn, if_pos nat0, Ql hlt, QK (by omega)]
  refine Dr.gat hl (by omega) fun _ _ => ih (n - 1) _ (by omega) ⟨i + 1, _, rfl, by omega, by omega, by simpa using hl, ?_⟩
  rw [← he, QiH hlt, Int.toNat_natCast]
  simp only [Nat.zero_add]
 refine k1.bind fun o ho => ?_
 subst ho
 dsimp only
 have k2 : Dr (L_cv_11 ((p, (g, (QcA 0 (p.1.getD g.toNat []) QbM, ((0 : Int), ())))), ((), ()))) fun o => o = .inl ((pgM p g, ()), ((), ())) := by
  refine QbQ (fun n u => ∃ (i : Nat) (l : List TwoD), u = ((p, (g, (l, ((i : Int), ())))), ((), ())) ∧ n = p.2.1.length - i ∧ i ≤ p.2.1.length ∧ l.length = 8 ∧ Qdx g (p.2.1.drop i) l = pgM p g) ?_ _ _ ⟨0, _, rfl, rfl, Nat.zero_le _, by rw [Qfi]; rfl, rfl⟩ (by rw [Qaj]; omega)
  rintro rec n _ ⟨i, l, rfl, hn, hin, hl, he⟩ ih
  unfold l_cv_11
  dsimp only
  by_cases hlt : i < p.2.1.length
  case neg =>
   rw [if_neg (lt_f hlt)]
   rw [List.drop_of_length_le (by omega)] at he
   exact Dr.ret (by rw [← he]; rfl)
  rw [if_pos (lt_t hlt), if_pos nat0, Ql hlt, QK (by omega)]
  have hla := hlane _ (List.getElem_mem hlt)
  rw [QhC hlt] at he
  have hl1 := Qhe g p.2.1[i] l
  have fin : ∀ l', l' = Qcz g p.2.1[i] l → Dr (rec ((p, (g, (l', (((i + 1 : Nat) : Int), ())))), ((), ()))) fun o => o = .inl ((pgM p g, ()), ((), ())) := fun l' e => by
   subst e
   exact ih (n - 1) _ (by omega) ⟨i + 1, _, rfl, by omega, by omega, by rw [hl1]; exact hl, he⟩
  generalize p.2.1[i] = x at *
  by_cases h1 : x.1 = g
  ·rw [if_pos (by simpa using h1)]
   refine Dr.gat hl (by omega) fun _ _ => ?_
   by_cases h2 : x.2.1 = g
   ·rw [if_pos (by simpa using h2)]
    refine Dr.gat (n := 8) (by simpa using hl) (by omega) fun _ _ => fin _ ?_
    unfold Qcz
    dsimp only
    rw [if_pos h1, if_pos h2]
   ·rw [if_neg (by simpa using h2)]
    refine fin _ ?_
    unfold Qcz
    dsimp only
    rw [if_pos h1, if_neg h2]
  ·rw [if_neg (by simpa using h1)]
   by_cases h2 : x.2.1 = g
   ·rw [if_pos (by simpa using h2)]
    refine Dr.gat hl (by omega) fun _ _ => fin _ ?_
    unfold Qcz
    dsimp only
    rw [if_neg h1, if_pos h2]
   ·rw [if_neg (by simpa using h2)]
    refine fin _ ?_
    unfold Qcz
    dsimp only
    rw [if_neg h1, if_neg h2]
 refine k2.bind fun o ho => ?_
 subst ho
 exact Dr.ret rfl
theorem Qrd : F_gt ([noPg], 8, ()) = some ((QbM, ()), ()) := by kernel_rfl
theorem Qmz {p : PolD} {g : Int} (hok : OkPol p) (hg : isG p g = true) : F_gu (p, g, ()) = some ((pgM p g, ()), ()) := by
 have hgi := Qgx.1 hg
 have hi : g.toNat < p.1.length := by omega
 have hown := hok.own1 _ (QlC hok hg)
 have hlane := QeF hok
 have hll := hok.lanes.1
 refine Dr.eq ?_
 unfold F_gu
 refine Dr.step rfl (Dr.step Qrd (Dr.guard hgi.1 ?_))
 have e1 : p.1[g.toNat]? = some (p.1.getD g.toNat []) := by rw [List.getD_eq_getElem?_getD, List.getElem?_eq_getElem hi]; rfl
 refine Dr.step e1 ?_
 have k1 : Dr (L_gu_3 ((p, (g, (QbM, (p.1.getD g.toNat [], ((((p.1.getD g.toNat []).length : Nat) : Int), ((0 : Int), ())))))), ((), ()))) fun o => o = .inl ((p, (g, (QcA 0 (p.1.getD g.toNat []) QbM, ()))), ((), ())) := by
  generalize p.1.getD g.toNat [] = w at *
  refine QbQ (fun n u => ∃ (i : Nat) (l : List TwoD), u = ((p, (g, (l, (w, (((w.length : Nat) : Int), ((i : Int), ())))))), ((), ())) ∧ n = w.length - i ∧ i ≤ w.length ∧ l.length = 8 ∧ QcA (0 + i) (w.drop i) l = QcA 0 w QbM) ?_ _ _ ⟨0, QbM, rfl, rfl, Nat.zero_le _, rfl, rfl⟩ (by rw [Qaj]; omega)
  rintro rec n _ ⟨i, l, rfl, hn, hin, hl, he⟩ ih
  unfold l_gu_3
  dsimp only
  by_cases hlt : i < w.length
  case neg =>
   rw [if_neg (lt_f hlt)]
   rw [List.drop_of_length_le (by omega)] at he
   exact Dr.ret (by rw [← he]; rfl)
  rw [if_pos (lt_t hlt), if_pos nat0, Ql hlt, QK (by omega)]
  refine Dr.gat hl (by omega) fun _ _ => ih (n - 1) _ (by omega) ⟨i + 1, _, rfl, by omega, by omega, by simpa using hl, ?_⟩
  rw [← he, QiH hlt, Int.toNat_natCast]
  simp only [Nat.zero_add]
 refine k1.bind fun o ho => ?_
 subst ho
 dsimp only
 have k2 : Dr (L_gu_8 ((g, (QcA 0 (p.1.getD g.toNat []) QbM, (p.2.1, (((p.2.1.length : Nat) : Int), ((0 : Int), ()))))), ((), ()))) fun o => o = .inl ((pgM p g, ()), ((), ())) := by
  refine QbQ (fun n u => ∃ (i : Nat) (l : List TwoD), u = ((g, (l, (p.2.1, (((p.2.1.length : Nat) : Int), ((i : Int), ()))))), ((), ())) ∧ n = p.2.1.length - i ∧ i ≤ p.2.1.length ∧ l.length = 8 ∧ Qdx g (p.2.1.drop i) l = pgM p g) ?_ _ _ ⟨0, _, rfl, rfl, Nat.zero_le _, by rw [Qfi]; rfl, rfl⟩ (by rw [Qaj]; omega)
  rintro rec n _ ⟨i, l, rfl, hn, hin, hl, he⟩ ih
  unfold l_gu_8
  dsimp only
  by_cases hlt : i < p.2.1.length
  case neg =>
   rw [if_neg (lt_f hlt)]
   rw [List.drop_of_length_le (by omega)] at he
   exact Dr.ret (by rw [← he]; rfl)
  rw [if_pos (lt_t hlt), if_pos nat0, Ql hlt, QK (by omega)]
  have hla := hlane _ (List.getElem_mem hlt)
  rw [QhC hlt] at he
  have hl1 := Qhe g p.2.1[i] l
  have fin : ∀ l', l' = Qcz g p.2.1[i] l → Dr (rec ((g, (l', (p.2.1, (((p.2.1.length : Nat) : Int), (((i + 1 : Nat) : Int), ()))))), ((), ()))) fun o => o = .inl ((pgM p g, ()), ((), ())) := fun l' e => by
   subst e
   exact ih (n - 1) _ (by omega) ⟨i + 1, _, rfl, by omega, by omega, by rw [hl1]; exact hl, he⟩
  generalize p.2.1[i] = x at *
  by_cases h1 : x.1 = g
  ·rw [if_pos (by simpa using h1)]
   refine Dr.gat hl (by omega) fun _ _ => ?_
   by_cases h2 : x.2.1 = g
   ·rw [if_pos (by simpa using h2)]
    refine Dr.gat (n := 8) (by simpa using hl) (by omega) fun _ _ => fin _ ?_
    unfold Qcz
    dsimp only
    rw [if_pos h1, if_pos h2]
   ·rw [if_neg (by simpa using h2)]
    refine fin _ ?_
    unfold Qcz
    dsimp only
    rw [if_pos h1, if_neg h2]
  ·rw [if_neg (by simpa using h1)]
   by_cases h2 : x.2.1 = g
   ·rw [if_pos (by simpa using h2)]
    refine Dr.gat hl (by omega) fun _ _ => fin _ ?_
    unfold Qcz
    dsimp only
    rw [if_neg h1, if_pos h2]
   ·rw [if_neg (by simpa using h2)]
    refine fin _ ?_
    unfold Qcz
    dsimp only
    rw [if_neg h1, if_neg h2]
 refine k2.bind fun o ho => ?_
 subst ho
 exact Dr.ret rfl
theorem Qrv {α : Type} {l : List α} {i : Nat} (h : i < l.length) : l.take (i + 1) = l.take i ++ [l[i]] := by rw [List.take_add_one, List.getElem?_eq_getElem h]; rfl
def QfI (s : List Int) (k : Nat) (ws : List Int) : List Int := s.take (8 * k) ++ (ws ++ s.drop (8 * k + 8))
theorem Qhj {s ws : List Int} {k : Nat} (hs : s.length = 64) (hk : k < 8) (hw : ws.length = 8) : (QfI s k ws).length = 64 := by unfold QfI; simp; omega
theorem QtE {m : List Int} {p : Int} (h : 0 ≤ p ∧ 8 * p + 8 ≤ (m.length : Int)) : (pg m p).length = 8 := by unfold pg; simp; omega
abbrev QlS := List Int × Int × List Int × Bool × Bool × Bool × Int × List Int × List Int × List TwoD × List Int × Unit
def memB (b : QlS) : List Int := b.2.2.2.2.2.2.2.2.2.2.1
def putB (b : QlS) (m : List Int) : QlS := (b.1, b.2.1, b.2.2.1, b.2.2.2.1, b.2.2.2.2.1, b.2.2.2.2.2.1, b.2.2.2.2.2.2.1, b.2.2.2.2.2.2.2.1, b.2.2.2.2.2.2.2.2.1, b.2.2.2.2.2.2.2.2.2.1, m, ())
theorem QoN (b : QlS) (k : Int) (ws : List Int) (hb : (memB b).length = 64) (hk : 0 ≤ k ∧ k < 8) (hw : ws.length = 8) : F_bj (b, k, ws, ()) = some ((), (putB b (QfI (memB b) k.toNat ws), ())) := by
 obtain ⟨K, rfl⟩ : ∃ K : Nat, k = (K : Int) := ⟨k.toNat, by omega⟩
 refine Dr.eq ?_
 unfold F_bj
 have k1 : Dr (L_bj_1 (((), ((K : Int), (ws, ((0 : Int), ())))), ((b, ()), ()))) fun o => o = .inl ((), ((putB b (QfI (memB b) K ws), ()), ())) := by
  refine QbQ (fun n u => ∃ (i : Nat), u = (((), ((K : Int), (ws, ((i : Int), ())))), ((putB b ((memB b).take (8 * K) ++ (ws.take i ++ (memB b).drop (8 * K + i))), ()), ())) ∧ n = 8 - i ∧ i ≤ 8) ?_ 8 _ ⟨0, ?_, rfl, by omega⟩ (by rw [Qaj]; omega)
  ·rintro rec n _ ⟨i, rfl, hn, hi⟩ ih
   unfold l_bj_1
   dsimp only
   by_cases hlt : i < ws.length
   case neg =>
    have : i = 8 := by omega
    subst this
    rw [if_neg (lt_f hlt), List.take_of_length_le (l := ws) (by omega)]
    exact Dr.ret rfl
   have e1 : IntKind.i64.wrap ((K : Int) * 8) = (K : Int) * 8 := QP (by omega) (by omega)
   have e2 : IntKind.i64.wrap ((K : Int) * 8 + (i : Int)) = ((8 * K + i : Nat) : Int) := by rw [QP (by omega) (by omega)]; omega
   rw [if_pos (lt_t hlt), e1, e2, if_pos nat0, Ql hlt, QK (by omega)]
   have hl : ((memB b).take (8 * K) ++ (ws.take i ++ (memB b).drop (8 * K + i))).length = 64 := by simp; omega
   refine Dr.gat (xs := (memB b).take (8 * K) ++ (ws.take i ++ (memB b).drop (8 * K + i))) hl (by omega) fun _ _ => ih (n - 1) _ (by omega) ⟨i + 1, ?_, by omega, by omega⟩
   have e3 : ((memB b).take (8 * K) ++ (ws.take i ++ (memB b).drop (8 * K + i))).set (8 * K + i) ws[i] = (memB b).take (8 * K) ++ (ws.take (i + 1) ++ (memB b).drop (8 * K + (i + 1))) := by
    rw [List.set_append_right _ _ (by simp; omega), List.length_take, Nat.min_eq_left (by omega), Nat.add_sub_cancel_left, List.set_append_right _ _ (by simp; omega), List.length_take, Nat.min_eq_left (by omega), Nat.sub_self,
     List.drop_eq_getElem_cons (by omega), List.set_cons_zero, Qrv (l := ws) hlt, List.append_assoc, Nat.add_assoc]
    rfl
   rw [Int.toNat_natCast]
   show (_, ((putB b (((memB b).take (8 * K) ++ (ws.take i ++ (memB b).drop (8 * K + i))).set (8 * K + i) ws[i]), ()), ())) = _
   rw [e3]
  ·simp only [List.take_zero, List.nil_append, Nat.add_zero, List.take_append_drop]
   rfl
 refine k1.bind fun o ho => ?_
 subst ho
 exact Dr.ret rfl
theorem QsL {s ws : List Int} {k : Nat} (hs : s.length = 64) (hk : k < 8) (hw : ws.length = 8) : splc s ws (0 + 8 * k) (64 - 8 * k) = QfI s k ws := by
 unfold splc QfI
 rw [Nat.zero_add, List.take_of_length_le (l := ws) (by omega), hw, Nat.min_eq_right (by omega)]
theorem QhO (s : TwoD) (r : List TwoD) : QD (-1) (s :: r) = s.2.1 + QD (-1) r := by
 simp only [QD]
 rw [if_pos (.inl (by decide))]
theorem Qqc {s : TwoD} {r : List TwoD} {k : Nat} {a : Int} (h : s.2.1 ≤ a) : Qz k (s :: r) a = Qz (k + 1) r (a - s.2.1) := by simp only [Qz]; rw [if_pos h]
theorem QnB {s : TwoD} {r : List TwoD} {k : Nat} {a : Int} (h : ¬ s.2.1 ≤ a) : Qz k (s :: r) a = (k, a, s.2.1 - a) := by simp only [Qz]; rw [if_neg h]
theorem QlK : ∀ {m : List TwoD} {k : Nat} {a : Int}, (∀ s ∈ m, 1 ≤ s.2.1 ∧ s.2.1 ≤ 50) → 0 ≤ a → a + 1 < QD (-1) m →
  Qz k m (a + 1) = if (Qz k m a).2.2 = 1 then ((Qz k m a).1 + 1, 0, (m.getD ((Qz k m a).1 + 1 - k) (0, 0, ())).2.1) else ((Qz k m a).1, (Qz k m a).2.1 + 1, (Qz k m a).2.2 - 1)
 | [], k, a, _, h0, h1 => by simp [QD] at h1; omega
 | s :: r, k, a, hs, h0, h1 => by
  rw [QhO] at h1
  have hr : ∀ s ∈ r, 1 ≤ s.2.1 ∧ s.2.1 ≤ 50 := fun q hq => hs q (List.mem_cons_of_mem _ hq)
  by_cases h : s.2.1 ≤ a
  ·rw [Qqc h, Qqc (by omega)]
   have e : a + 1 - s.2.1 = (a - s.2.1) + 1 := by omega
   rw [e, QlK hr (by omega) (by omega)]
   obtain ⟨g0, _⟩ := QaT (m := r) (k := k + 1) (a := a - s.2.1) hr (by omega) (by omega)
   have e2 : (Qz (k + 1) r (a - s.2.1)).1 + 1 - k = ((Qz (k + 1) r (a - s.2.1)).1 + 1 - (k + 1)) + 1 := by omega
   rw [e2, List.getD_cons_succ]
  ·rw [QnB h]
   have hs1 := hs s (by simp)
   by_cases h2 : s.2.1 ≤ a + 1
   ·rw [Qqc h2, if_pos (by simp only; omega)]
    have e : a + 1 - s.2.1 = 0 := by omega
    rw [e]
    cases r with
    | nil => simp [QD] at h1; omega
    | cons q r =>
     have := hr q (by simp)
     rw [QnB (by omega)]
     have e3 : k + 1 - k = 1 := by omega
     rw [e3]
     simp
   ·rw [QnB h2, if_neg (by simp only; omega)]
    simp only
    congr 2
    omega
theorem Qqb : ∀ {m : List TwoD} {k : Nat} {a : Int}, (∀ s ∈ m, 1 ≤ s.2.1 ∧ s.2.1 ≤ 50) → 0 ≤ a → a + 1 = QD (-1) m → (Qz k m a).1 + 1 = k + m.length ∧ (Qz k m a).2.2 = 1
 | [], k, a, _, h0, h1 => by simp [QD] at h1; omega
 | s :: r, k, a, hs, h0, h1 => by
  rw [QhO] at h1
  have hr : ∀ s ∈ r, 1 ≤ s.2.1 ∧ s.2.1 ≤ 50 := fun q hq => hs q (List.mem_cons_of_mem _ hq)
  by_cases h : s.2.1 ≤ a
  ·rw [Qqc h]
   have := Qqb (k := k + 1) hr (a := a - s.2.1) (by omega) (by omega)
   simp only [List.length_cons]
   omega
  ·rw [QnB h]
   have hp := (QcM (g := -1) hr).1
   cases r with
   | nil =>
    have h0 : QD (-1) ([] : List TwoD) = 0 := rfl
    rw [h0] at h1
    show k + 1 = k + (0 + 1) ∧ s.2.1 - a = 1
    omega
   | cons q r =>
    have := Qdc hr (by simp)
    omega
theorem QsO {m : List TwoD} (hs : ∀ s ∈ m, 1 ≤ s.2.1 ∧ s.2.1 ≤ 50) (hl : 1 ≤ m.length) : Qz 0 m 0 = (0, 0, (m.getD 0 (0, 0, ())).2.1) := by
 cases m with
 | nil => simp at hl
 | cons s r =>
  have := hs s (by simp)
  rw [QnB (by omega)]
  simp
def QfC (plan : List TwoD) (slot left : Int) : Int × Int :=
 if left - 1 = 0 then ((slot + 1) % (plan.length : Int), (plan.getD ((slot + 1) % (plan.length : Int)).toNat (0, 0, ())).2.1) else (slot, left - 1)
theorem QeP {p : PolD} (hok : OkPol p) : ∀ s ∈ p.2.2.2.1, 1 ≤ s.2.1 ∧ s.2.1 ≤ 50 := fun s hs => (hok.slots s hs).2
theorem QtM {p : PolD} (hok : OkPol p) (c : Int) : (0 ≤ (Qbk p c).1 ∧ (Qbk p c).1 < (p.2.2.2.1.length : Int)) ∧ 1 ≤ (Qbk p c).2 ∧ (Qbk p c).2 ≤ 50 := by
 have hR := Qdc (QeP hok) hok.plan.1
 obtain ⟨h1, s, h2, h3, h4, h5⟩ := QaT (m := p.2.2.2.1) (k := 0) (a := c % QD (-1) p.2.2.2.1) (QeP hok) (Int.emod_nonneg _ (by omega)) (Int.emod_lt_of_pos _ (by omega))
 rw [Nat.sub_zero] at h2
 have h6 := (List.getElem?_eq_some_iff.1 h2).1
 have h7 := QeP hok s (List.mem_of_getElem? h2)
 unfold Qbk
 dsimp only
 omega
theorem QkS {p : PolD} (hok : OkPol p) {c : Int} (h0 : 0 ≤ c) : Qbk p (c + 1) = QfC p.2.2.2.1 (Qbk p c).1 (Qbk p c).2 := by
 have hR := Qdc (QeP hok) hok.plan.1
 have hs := QeP hok
 have hlen := hok.plan.1
 unfold Qbk QfC
 dsimp only
 generalize p.2.2.2.1 = m at *
 generalize hRR : QD (-1) m = R at *
 have a0 := Int.emod_nonneg c (b := R) (by omega)
 have a1 := Int.emod_lt_of_pos c (b := R) (by omega)
 have hadd : (c + 1) % R = if c % R + 1 = R then 0 else c % R + 1 := by
  rw [Int.add_emod]
  by_cases hR1 : R = 1
  ·subst hR1
   simp
  ·rw [Int.emod_eq_of_lt (a := 1) (by omega) (by omega)]
   split
   ·rename_i e; rw [e]; exact Int.emod_self
   ·exact Int.emod_eq_of_lt (by omega) (by omega)
 rw [hadd]
 generalize c % R = a at *
 by_cases hl : a + 1 = R
 ·rw [if_pos hl, QsO hs hlen]
  obtain ⟨e1, e2⟩ := Qqb (k := 0) hs a0 (by rw [hRR]; exact hl)
  rw [if_pos (by rw [e2]; decide)]
  have e3 : ((Qz 0 m a).1 : Int) + 1 = (m.length : Int) := by omega
  rw [e3, Int.emod_self]
  rfl
 ·rw [if_neg hl, QlK hs a0 (by rw [hRR]; omega)]
  obtain ⟨_, s, h2, h3, h4, h5⟩ := QaT (m := m) (k := 0) (a := a) hs a0 (by rw [hRR]; exact a1)
  rw [Nat.sub_zero] at h2
  have h6 := (List.getElem?_eq_some_iff.1 h2).1
  by_cases h1 : (Qz 0 m a).2.2 = 1
  ·rw [if_pos h1, if_pos (by omega)]
   have hlt : (Qz 0 m a).1 + 1 < m.length := by
    have key := QlK (k := 0) hs a0 (by rw [hRR]; omega : a + 1 < QD (-1) m)
    rw [if_pos h1] at key
    obtain ⟨_, s', h2', _⟩ := QaT (m := m) (k := 0) (a := a + 1) hs (by omega) (by rw [hRR]; omega)
    rw [key, Nat.sub_zero] at h2'
    exact (List.getElem?_eq_some_iff.1 h2').1
   have e4 : (((Qz 0 m a).1 : Int) + 1) % (m.length : Int) = (((Qz 0 m a).1 + 1 : Nat) : Int) := by rw [Int.emod_eq_of_lt (by omega) (by omega)]; omega
   rw [e4, Int.toNat_natCast, Nat.sub_zero]
  ·rw [if_neg h1, if_neg (by omega)]
structure HK (x : Qx) : Prop where
 pol : polM x.1 = 0
 mem : QC x.2.1 = 0 ∧ x.2.1.length = 192
 len : x.2.2.1.length = x.1.1.length
 harts : ∀ h ∈ x.2.2.1, hartM h = 0
 clock : 0 ≤ x.2.2.2.2.2.1 ∧ x.2.2.2.2.2.1 ≤ 1000000
 slot : x.2.2.2.1 = (Qbk x.1 x.2.2.2.2.2.1).1
 left : x.2.2.2.2.1 = (Qbk x.1 x.2.2.2.2.2.1).2
theorem HK.ok {x : Qx} (h : HK x) : OkPol x.1 := Qku h.pol
theorem Qhz : ∀ {m : List QJ}, QgZ m = none ↔ ∀ h ∈ m, hartM h = 0 := by
 have key : ∀ {m : List QJ} {i : Nat}, scan (fun (_ : Nat) h => nz (hartM h)) i m = none ↔ ∀ h ∈ m, hartM h = 0 := by
  intro m
  induction m with
  | nil => intro i; simp [scan]
  | cons y r ih =>
   intro i
   simp only [scan]
   by_cases hy : hartM y = 0
   ·have : nz (hartM y) = none := by unfold nz; rw [if_neg (by simpa using hy)]
    rw [this]
    simp only
    rw [ih]
    simp [hy]
   ·have : nz (hartM y) = some (hartM y) := by unfold nz; rw [if_pos hy]
    rw [this]
    simp [hy]
 intro m
 unfold QgZ
 exact key
theorem HK.of {x : Qx} (h : Qbn x = 0) : HK x := by
 have hp := Qgv h
 unfold Qbn at h
 rw [if_neg (by simpa using hp)] at h
 split at h
 ·rename_i g
  cases hh : QgZ x.2.2.1 with
  | some c =>
   rw [hh] at h
   have : c ≠ 0 := by
    have : ∀ {m : List QJ} {i : Nat} {c : Int}, scan (fun (_ : Nat) h => nz (hartM h)) i m = some c → c ≠ 0 := by
     intro m
     induction m with
     | nil => intro i c h; simp [scan] at h
     | cons y r ih =>
      intro i c h
      simp only [scan] at h
      split at h
      ·rename_i c' hc'
       obtain rfl := Osj h
       unfold nz at hc'
       split at hc'
       ·obtain rfl := Osj hc'; assumption
       ·cases hc'
      ·exact ih h
    exact this hh
   exact absurd h this
  | none =>
   rw [hh] at h
   simp only at h
   split at h
   ·rename_i hc
    split at h
    ·rename_i hs
     exact ⟨hp, g.1, g.2, Qhz.1 hh, QcS.1 hc, hs.1, hs.2⟩
    ·cases h
   ·cases h
 ·cases h
theorem HK.to {x : Qx} (h : HK x) : Qbn x = 0 := by
 unfold Qbn
 rw [if_neg (by simpa using h.pol), if_pos ⟨h.mem, h.len⟩, Qhz.2 h.harts]
 simp only
 rw [if_pos (QcS.2 h.clock), if_pos ⟨h.slot, h.left⟩]
theorem Qez {h : QJ} (hh : hartM h = 0) : Qam 1048576 h := by
 unfold hartM at hh
 split at hh
 ·rename_i c1
  split at hh
  ·split at hh
   ·rename_i c3
    exact ⟨by omega, by omega, by omega, by omega⟩
   ·cases hh
  ·cases hh
 ·cases hh
theorem QhX {p : PolD} (h : OkPol p) : QfH 1048576 p := by
 have h1 := h.own; have h2 := h.lanes.1; have h3 := h.bells.1; have h4 := h.plan.2
 exact ⟨⟨by omega, fun l hl => by have := (h.own1 l hl).2.1; omega⟩, by omega, by omega, by omega⟩
theorem HK.le {x : Qx} (h : HK x) : Qcv 1048576 x := by
 have h1 := h.mem.2; have h2 := h.len; have h3 := h.ok.own
 exact ⟨QhX h.ok, by omega, by omega, fun y hy => Qez (h.harts y hy)⟩
abbrev Qpp := List (List Int) × List Qay × List TwoD × List TwoD × List Int × List QJ × Int × Int × Int × Unit
def boxH (x : Qx) : Qpp := (x.1.1, x.1.2.1, x.1.2.2.1, x.1.2.2.2.1, x.2.1, x.2.2.1, x.2.2.2.1, x.2.2.2.2.1, x.2.2.2.2.2.1, ())
def QpT (h : QJ) : QJ := (h.1, h.2.1, h.2.2.1, h.2.2.2.1, h.2.2.2.2.1, true, h.2.2.2.2.2.2)
def QbJ (k : Int) (hs : List QJ) : List QJ := hs.set k.toNat (QpT (hs.getD k.toNat Qbu))
def turnG (x : Qx) : Int := (x.1.2.2.2.1.getD x.2.2.2.1.toNat (0, 0, ())).1
def Qav (x : Qx) : Mc := Qac (Mc.of (x.2.2.1.getD (turnG x).toNat Qbu) x.2.1) (pgM x.1 (turnG x))
def Qas (x : Qx) : List QJ := x.2.2.1.set (turnG x).toNat (Qav x).hart
def QeI (x : Qx) : Bool := x.1.2.2.1.any (Qaq (turnG x, (Qav x).ring, ()))
def Qdp (x : Qx) : Qx :=
 (x.1, (Qav x).m, (if QeI x = true then QbJ (Qav x).ring (Qas x) else Qas x), (QfC x.1.2.2.2.1 x.2.2.2.1 x.2.2.2.2.1).1, (QfC x.1.2.2.2.1 x.2.2.2.1 x.2.2.2.2.1).2, x.2.2.2.2.2.1 + 1, ())
theorem Qum {p : PolD} (hok : OkPol p) : ∀ b ∈ p.2.2.1, isG p b.1 = true ∧ isG p b.2.1 = true ∧ b.1 ≠ b.2.1 := by
 intro b hb
 obtain ⟨i, e⟩ := Qbq hok.bells.2 b hb
 have e := QpM e
 unfold Qfw at e
 split at e
 ·rename_i h; exact absurd e h
 ·rename_i h0
  have h0 : Qcy p b.1 b.2.1 = 0 := by simpa using h0
  unfold Qcy at h0
  split at h0
  ·split at h0
   ·split at h0
    ·cases h0
    ·exact ⟨‹_›, ‹_›, ‹_›⟩
   ·cases h0
  ·cases h0
theorem HK.turn {x : Qx} (h : HK x) : (0 ≤ x.2.2.2.1 ∧ x.2.2.2.1 < (x.1.2.2.2.1.length : Int)) ∧ (1 ≤ x.2.2.2.2.1 ∧ x.2.2.2.2.1 ≤ 50) ∧ isG x.1 (turnG x) = true ∧ x.1.2.2.2.1[x.2.2.2.1.toNat]? = some (x.1.2.2.2.1.getD x.2.2.2.1.toNat (0, 0, ())) := by
 have ht := QtM h.ok x.2.2.2.2.2.1
 rw [← h.slot, ← h.left] at ht
 have hlt : x.2.2.2.1.toNat < x.1.2.2.2.1.length := by omega
 refine ⟨ht.1, ht.2, (h.ok.slots _ (QaU (d := (0, 0, ())) hlt)).1, ?_⟩
 rw [List.getD_eq_getElem?_getD, List.getElem?_eq_getElem hlt]
 rfl
theorem HK.guest {x : Qx} (h : HK x) {g : Int} (hg : isG x.1 g = true) : (0 ≤ g ∧ g < (x.2.2.1.length : Int)) ∧ x.2.2.1[g.toNat]? = some (x.2.2.1.getD g.toNat Qbu) ∧ hartM (x.2.2.1.getD g.toNat Qbu) = 0 := by
 have hgi := Qgx.1 hg
 have hl := h.len
 have hlt : g.toNat < x.2.2.1.length := by omega
 refine ⟨by omega, ?_, h.harts _ (QaU hlt)⟩
 rw [List.getD_eq_getElem?_getD, List.getElem?_eq_getElem hlt]
 rfl
theorem HK.okL {x : Qx} (h : HK x) {g : Int} (hg : isG x.1 g = true) : OkL (pgM x.1 g) x.2.1 := by
 have hm := h.mem
 have hw : allW x.2.1 = true := by
  have h1 := h.mem.1
  unfold QC at h1
  rw [if_pos (QfA h.mem.1)] at h1
  split at h1
  ·assumption
  ·cases h1
 refine ⟨QtD _ _, fun q hq => ?_, QaF.1 hw, by omega⟩
 have := Qur h.ok hg q hq
 omega
theorem HK.okS {x : Qx} (h : HK x) : OkS (Mc.of (x.2.2.1.getD (turnG x).toNat Qbu) x.2.1) (pgM x.1 (turnG x)) := QtV (h.guest h.turn.2.2.1).2.2 (h.okL h.turn.2.2.1)
theorem HK.okT {x : Qx} (h : HK x) : OkS (Qav x) (pgM x.1 (turnG x)) := QgK h.okS
theorem QoB {h : QJ} (hh : hartM h = 0) : hartM (QpT h) = 0 := hh
theorem QlD {x : Qx} (h : HK x) (hr : QeI x = true) : isG x.1 (Qav x).ring = true := by
 unfold QeI at hr
 obtain ⟨b, hb, e⟩ := List.any_eq_true.1 hr
 unfold Qaq at e
 simp only [Bool.and_true, Bool.and_eq_true, beq_iff_eq] at e
 rw [e.2]
 exact (Qum h.ok b hb).2.1
theorem QcR (x : Qx) : (Qas x).length = x.2.2.1.length := by unfold Qas; simp
theorem QeA {x : Qx} (h : HK x) : ∀ y ∈ Qas x, hartM y = 0 := by
 intro y hy
 unfold Qas at hy
 rcases List.mem_or_eq_of_mem_set hy with hy | rfl
 ·exact h.harts y hy
 ·exact h.okT.hartM
theorem Qjd {x : Qx} (h : HK x) : (Qav x).m.length = 192 := by unfold Qav; rw [Qjc]; exact h.mem.2
theorem HK.next {x : Qx} (h : HK x) (hc : x.2.2.2.2.2.1 < 1000000) : HK (Qdp x) := by
 have hl := h.okT.l
 refine ⟨h.pol, ⟨?_, Qjd h⟩, ?_, ?_, ?_, ?_, ?_⟩
 ·show QC (Qav x).m = 0
  unfold QC
  rw [Qjd h, if_pos (by decide), if_pos (QaF.2 hl.words)]
 ·show (if QeI x = true then QbJ (Qav x).ring (Qas x) else Qas x).length = _
  split
  ·unfold QbJ; rw [List.length_set, QcR]; exact h.len
  ·rw [QcR]; exact h.len
 ·show ∀ y ∈ (if QeI x = true then QbJ (Qav x).ring (Qas x) else Qas x), hartM y = 0
  split
  ·rename_i hr
   have hg := Qgx.1 (QlD h hr)
   intro y hy
   unfold QbJ at hy
   rcases List.mem_or_eq_of_mem_set hy with hy | rfl
   ·exact QeA h y hy
   ·exact QoB (QeA h _ (QaU (by rw [QcR, h.len]; omega)))
  ·exact QeA h
 ·have := h.clock
  show 0 ≤ x.2.2.2.2.2.1 + 1 ∧ x.2.2.2.2.2.1 + 1 ≤ 1000000
  omega
 ·show (QfC x.1.2.2.2.1 x.2.2.2.1 x.2.2.2.2.1).1 = (Qbk x.1 (x.2.2.2.2.2.1 + 1)).1
  rw [QkS h.ok h.clock.1, ← h.slot, ← h.left]
 ·show (QfC x.1.2.2.2.1 x.2.2.2.1 x.2.2.2.2.1).2 = (Qbk x.1 (x.2.2.2.2.2.1 + 1)).2
  rw [QkS h.ok h.clock.1, ← h.slot, ← h.left]
theorem Dr.gatE {X Y : Type} {xs : List X} {i : Int} {n : Nat} {f : X → Option Y} {P : Y → Prop} (hn : xs.length = n) (h : 0 ≤ i ∧ i < (n : Int)) (k : ∀ y, xs[i.toNat]? = some y → Dr (f y) P) : Dr (if 0 ≤ i ∧ i < ((xs.length : Nat) : Int) then (xs[i.toNat]?).bind f else none) P := by
 subst hn
 exact Dr.guard h (Dr.get (by omega) fun y _ hy => k y hy)
theorem QmZ (k : Int) (hs : List QJ) : QbJ k (QbJ k hs) = QbJ k hs := by
 unfold QbJ
 by_cases hk : k.toNat < hs.length
 ·rw [List.set_set]
  congr 1
  rw [List.getD_eq_getElem?_getD, List.getElem?_set_self hk]
  rfl
 ·rw [List.set_eq_of_length_le (by simp; omega)]
def Qdz (g k : Int) : List TwoD → List QJ → List QJ
 | [], hs => hs
 | b :: r, hs => Qdz g k r (if Qaq (g, k, ()) b = true then QbJ k hs else hs)
theorem QeL (g k : Int) : ∀ (r : List TwoD) (hs : List QJ), Qdz g k r (QbJ k hs) = QbJ k hs
 | [], _ => rfl
 | b :: r, hs => by
  rw [Qdz]
  split
  ·rw [QmZ, QeL g k r]
  ·exact QeL g k r hs
theorem QiJ (g k : Int) : ∀ (r : List TwoD) (hs : List QJ), Qdz g k r hs = if r.any (Qaq (g, k, ())) = true then QbJ k hs else hs
 | [], _ => rfl
 | b :: r, hs => by
  rw [Qdz, List.any_cons]
  by_cases hb : Qaq (g, k, ()) b = true
  ·rw [if_pos hb, QeL, if_pos (by simp [hb])]
  ·have hb' : Qaq (g, k, ()) b = false := by simpa using hb
   rw [if_neg hb, QiJ g k r, hb', Bool.false_or]
def QmV (b : Qpp) (hs : List QJ) : Qpp := (b.1, b.2.1, b.2.2.1, b.2.2.2.1, b.2.2.2.2.1, hs, b.2.2.2.2.2.2.1, b.2.2.2.2.2.2.2.1, b.2.2.2.2.2.2.2.2.1, ())
theorem QoR (b : Qpp) (g k : Int) (hb : b.2.2.1.length ≤ 1000) (hk : ∀ y ∈ b.2.2.1, Qaq (g, k, ()) y = true → 0 ≤ k ∧ k < (b.2.2.2.2.2.1.length : Int)) :
  F_cw (b, g, k, ()) = some ((), (QmV b (if b.2.2.1.any (Qaq (g, k, ())) = true then QbJ k b.2.2.2.2.2.1 else b.2.2.2.2.2.1), ())) := by
 rw [← QiJ]
 refine Dr.eq ?_
 unfold F_cw
 have k1 : Dr (L_cw_1 (((), (g, (k, ((0 : Int), ())))), ((b, ()), ()))) fun o => o = .inl ((), ((QmV b (Qdz g k b.2.2.1 b.2.2.2.2.2.1), ()), ())) := by
  refine QbQ (fun n u => ∃ (i : Nat) (hs : List QJ), u = (((), (g, (k, ((i : Int), ())))), ((QmV b hs, ()), ())) ∧ n = b.2.2.1.length - i ∧ i ≤ b.2.2.1.length ∧ hs.length = b.2.2.2.2.2.1.length ∧ Qdz g k (b.2.2.1.drop i) hs = Qdz g k b.2.2.1 b.2.2.2.2.2.1) ?_ _ _ ⟨0, _, rfl, rfl, Nat.zero_le _, rfl, rfl⟩ (by rw [Qaj]; omega)
  rintro rec n _ ⟨i, hs, rfl, hn, hi, hl, he⟩ ih
  unfold l_cw_1 QmV
  dsimp only
  by_cases hlt : i < b.2.2.1.length
  case neg =>
   rw [if_neg (lt_f hlt)]
   rw [List.drop_of_length_le (by omega)] at he
   exact Dr.ret (by rw [← he]; rfl)
  rw [if_pos (lt_t hlt), if_pos nat0, Ql hlt, QK (by omega)]
  rw [List.drop_eq_getElem_cons hlt, Qdz] at he
  have hky := hk _ (List.getElem_mem hlt)
  generalize b.2.2.1[i] = y at *
  have skip : ¬ Qaq (g, k, ()) y = true → Dr (rec (((), (g, (k, (((i + 1 : Nat) : Int), ())))), (((b.1, b.2.1, b.2.2.1, b.2.2.2.1, b.2.2.2.2.1, hs, b.2.2.2.2.2.2.1, b.2.2.2.2.2.2.2.1, b.2.2.2.2.2.2.2.2.1, ()), ()), ()))) fun o => o = .inl ((), (((b.1, b.2.1, b.2.2.1, b.2.2.2.1, b.2.2.2.2.1, Qdz g k b.2.2.1 b.2.2.2.2.2.1, b.2.2.2.2.2.2.1, b.2.2.2.2.2.2.2.1, b.2.2.2.2.2.2.2.2.1, ()), ()), ())) := fun hn' => by
   rw [if_neg hn'] at he
   exact ih (n - 1) _ (by omega) ⟨i + 1, hs, rfl, by omega, by omega, hl, he⟩
  by_cases h1 : y.1 = g
  ·rw [if_pos (by simpa using h1)]
   by_cases h2 : y.2.1 = k
   ·have hs' : Qaq (g, k, ()) y = true := by unfold Qaq; simp [h1, h2]
    have hkk := hky hs'
    rw [if_pos hs'] at he
    rw [if_pos (by simpa using h2)]
    refine Dr.gatE (n := hs.length) rfl (by omega) fun z hz => ih (n - 1) _ (by omega) ⟨i + 1, _, rfl, by omega, by omega, by simpa using hl, ?_⟩
    rw [← he]
    unfold QbJ
    rw [List.getD_eq_getElem?_getD, hz]
    rfl
   ·rw [if_neg (by simpa using h2)]
    exact skip (by unfold Qaq; simp; intro _ e; exact absurd e.symm h2)
  ·rw [if_neg (by simpa using h1)]
   exact skip (by unfold Qaq; simp; intro e; exact absurd e.symm h1)
 refine k1.bind fun o ho => ?_
 subst ho
 exact Dr.ret rfl
theorem QhM {x : Qx} (h : HK x) (hc : x.2.2.2.2.2.1 < 1000000) : F_cx (boxH x, ()) = some ((), (boxH (Qdp x), ())) := by
 obtain ⟨h1, h2, h3, h4⟩ := h.turn
 obtain ⟨g1, g2, g3⟩ := h.guest h3
 have hS := h.okS
 have hfr : FR (Qav x) := Qnw (Mc.of (x.2.2.1.getD (turnG x).toNat Qbu) x.2.1) (pgM x.1 (turnG x))
 have hstep : F_ct ((Mc.of (x.2.2.1.getD (turnG x).toNat Qbu) x.2.1).bus (pgM x.1 (turnG x)), ()) = some ((), ((Qav x).bus (pgM x.1 (turnG x)), ())) := QiZ hS
 have hm := h.mem.2
 have hrang := QlD h
 have hcl := h.clock
 have hle := Qez g3
 have hpl := h.ok.plan
 refine Dr.eq ?_
 unfold F_cx
 refine Dr.guard h1.1 (Dr.step h4 (Dr.guard g1 (Dr.step g2 (Dr.step (Qnn h.ok h3) (Dr.step (QkF _ _ _ hle (by show x.2.1.length ≤ 1048576; omega)) (Dr.step hstep ?_))))))
 refine Dr.guard g1 (Dr.step g2 ?_)
 have e1 : IntKind.i64.wrap (x.2.2.2.2.2.1 + 1) = x.2.2.2.2.2.1 + 1 := QP (by omega) (by omega)
 have e2 : IntKind.i64.wrap (x.2.2.2.2.1 - 1) = x.2.2.2.2.1 - 1 := QP (by omega) (by omega)
 have e3 : IntKind.i64.wrap (x.2.2.2.1 + 1) = x.2.2.2.1 + 1 := QP (by omega) (by omega)
 have hpos : 0 < (x.1.2.2.2.1.length : Int) := by omega
 have hmod : (x.2.2.2.1 + 1).tmod ((x.1.2.2.2.1.length : Nat) : Int) = (x.2.2.2.1 + 1) % (x.1.2.2.2.1.length : Int) := Int.tmod_eq_emod_of_nonneg (by omega)
 have m0 := Int.emod_nonneg (x.2.2.2.1 + 1) (b := (x.1.2.2.2.1.length : Int)) (by omega)
 have m1 := Int.emod_lt_of_pos (x.2.2.2.1 + 1) (b := (x.1.2.2.2.1.length : Int)) hpos
 have hmi : ((x.2.2.2.1 + 1) % (x.1.2.2.2.1.length : Int)).toNat < x.1.2.2.2.1.length := by omega
 have hd : x.1.2.2.2.1[((x.2.2.2.1 + 1) % (x.1.2.2.2.1.length : Int)).toNat]? = some (x.1.2.2.2.1.getD ((x.2.2.2.1 + 1) % (x.1.2.2.2.1.length : Int)).toNat (0, 0, ())) := by
  rw [List.getD_eq_getElem?_getD, List.getElem?_eq_getElem hmi]; rfl
 -- what is behind the bell
 have fin : ∀ hs : List QJ, hs = (if QeI x = true then QbJ (Qav x).ring (Qas x) else Qas x) →
   (∀ (a : Int), a = x.2.2.2.2.1 - 1 → Dr (if (a == (0 : Int)) = true then (if ((x.1.2.2.2.1.length : Nat) : Int) = 0 then none else if 0 ≤ (x.2.2.2.1 + 1).tmod ((x.1.2.2.2.1.length : Nat) : Int) then (x.1.2.2.2.1[((x.2.2.2.1 + 1).tmod ((x.1.2.2.2.1.length : Nat) : Int)).toNat]?).bind fun y => some ((), ((x.1.1, x.1.2.1, x.1.2.2.1, x.1.2.2.2.1, (Qav x).m, hs, (x.2.2.2.1 + 1).tmod ((x.1.2.2.2.1.length : Nat) : Int), y.2.1, x.2.2.2.2.2.1 + 1, ()), ())) else none)
    else some ((), ((x.1.1, x.1.2.1, x.1.2.2.1, x.1.2.2.2.1, (Qav x).m, hs, x.2.2.2.1, a, x.2.2.2.2.2.1 + 1, ()), ()))) fun r => r = ((), (boxH (Qdp x), ()))) := by
  rintro hs rfl a rfl
  rw [hmod]
  by_cases hz : x.2.2.2.2.1 - 1 = 0
  ·refine Dr.pos (by simpa using hz) (Dr.nguard (by omega) (Dr.guard m0 (Dr.step hd (Dr.ret ?_))))
   unfold boxH Qdp QfC
   dsimp only
   rw [if_pos hz]
  ·refine Dr.neg (by simpa using hz) (Dr.ret ?_)
   unfold boxH Qdp QfC
   dsimp only
   rw [if_neg hz]
 by_cases hr : 0 ≤ (Qav x).ring
 ·refine Dr.pos (QaZ.2 hr) ?_
  have hring := QoR (QmV (boxH (x.1, (Qav x).m, x.2.2.1, x.2.2.2.1, x.2.2.2.2.1, x.2.2.2.2.2.1, ())) (Qas x)) (turnG x) (Qav x).ring (by have := h.ok.bells.1; show x.1.2.2.1.length ≤ 1000; omega) (fun y hy hs => by
   have hin : QeI x = true := List.any_eq_true.2 ⟨y, hy, hs⟩
   have := Qgx.1 (hrang hin)
   show 0 ≤ (Qav x).ring ∧ (Qav x).ring < ((Qas x).length : Int)
   rw [QcR, h.len]
   exact this)
  refine Dr.step hring ?_
  have q := fin (if QeI x = true then QbJ (Qav x).ring (Qas x) else Qas x) rfl (IntKind.i64.wrap (x.2.2.2.2.1 - 1)) e2
  rw [← e1, ← e3] at q
  exact q
 ·refine Dr.neg (by rw [QaZ]; exact hr) ?_
  have hno : ¬ QeI x = true := fun hin => hr (by have := Qgx.1 (hrang hin); omega)
  have q := fin (Qas x) (by rw [if_neg hno]) (IntKind.i64.wrap (x.2.2.2.2.1 - 1)) e2
  rw [← e1, ← e3] at q
  exact q
theorem Qiu {h : QJ} {l : List TwoD} {m : List Int} (hh : Qam 1048576 h) (hm : m.length ≤ 1048576) (ho : OkS (Mc.of h m) l) : F_go (h, l, m, 1, ()) = some (((Qac (Mc.of h m) l).res (Qac (Mc.of h m) l).fall (Qac (Mc.of h m) l).ring, ()), ()) := by
 rw [Qfy h l m 1 hh hm ho (by decide), show (1 : Int).toNat = 1 from rfl]
 simp only [QbR]
 obtain ⟨h1, h2⟩ := Qnw (Mc.of h m) l
 have e1 : (if 0 ≤ (Qac (Mc.of h m) l).fall then (Qac (Mc.of h m) l).fall else -1) = (Qac (Mc.of h m) l).fall := by split <;> omega
 have e2 : (if 0 ≤ (Qac (Mc.of h m) l).ring then (Qac (Mc.of h m) l).ring else -1) = (Qac (Mc.of h m) l).ring := by split <;> omega
 rw [e1, e2]
theorem QhB {x : Qx} (h : HK x) (hc : x.2.2.2.2.2.1 < 1000000) : F_gv (boxH x, ()) = some ((), (boxH (Qdp x), ())) := by
 obtain ⟨h1, h2, h3, h4⟩ := h.turn
 obtain ⟨g1, g2, g3⟩ := h.guest h3
 have hS := h.okS
 have hm := h.mem.2
 have hrang := QlD h
 have hcl := h.clock
 have hle := Qez g3
 have hpl := h.ok.plan
 have hturn : F_fb (x, ()) = some ((turnG x, ()), ()) := by
  refine Dr.eq ?_
  unfold F_fb
  exact Dr.guard h1.1 (Dr.step h4 (Dr.ret rfl))
 have hst : F_go (x.2.2.1.getD (turnG x).toNat Qbu, pgM x.1 (turnG x), x.2.1, 1, ()) = some (((Qav x).res (Qav x).fall (Qav x).ring, ()), ()) := Qiu hle (by omega) hS
 refine Dr.eq ?_
 unfold F_gv
 refine Dr.step hturn (Dr.guard g1 (Dr.step g2 (Dr.step (Qmz h.ok h3) (Dr.step hst ?_))))
 refine Dr.guard g1 (Dr.step g2 ?_)
 refine Dr.step (Qhv (turnG x, (Qav x).ring, ()) x.1.2.2.1 (by have := h.ok.bells.1; omega)) ?_
 have e1 : IntKind.i64.wrap (x.2.2.2.2.2.1 + 1) = x.2.2.2.2.2.1 + 1 := QP (by omega) (by omega)
 have e2 : IntKind.i64.wrap (x.2.2.2.2.1 - 1) = x.2.2.2.2.1 - 1 := QP (by omega) (by omega)
 have e3 : IntKind.i64.wrap (x.2.2.2.1 + 1) = x.2.2.2.1 + 1 := QP (by omega) (by omega)
 have hpos : 0 < (x.1.2.2.2.1.length : Int) := by omega
 have hmod : (x.2.2.2.1 + 1).tmod ((x.1.2.2.2.1.length : Nat) : Int) = (x.2.2.2.1 + 1) % (x.1.2.2.2.1.length : Int) := Int.tmod_eq_emod_of_nonneg (by omega)
 have m0 := Int.emod_nonneg (x.2.2.2.1 + 1) (b := (x.1.2.2.2.1.length : Int)) (by omega)
 have m1 := Int.emod_lt_of_pos (x.2.2.2.1 + 1) (b := (x.1.2.2.2.1.length : Int)) hpos
 have hmi : ((x.2.2.2.1 + 1) % (x.1.2.2.2.1.length : Int)).toNat < x.1.2.2.2.1.length := by omega
 have hd : x.1.2.2.2.1[((x.2.2.2.1 + 1) % (x.1.2.2.2.1.length : Int)).toNat]? = some (x.1.2.2.2.1.getD ((x.2.2.2.1 + 1) % (x.1.2.2.2.1.length : Int)).toNat (0, 0, ())) := by
  rw [List.getD_eq_getElem?_getD, List.getElem?_eq_getElem hmi]; rfl
 have fin : ∀ hs : List QJ, hs = (if QeI x = true then QbJ (Qav x).ring (Qas x) else Qas x) →
   (∀ (a : Int), a = x.2.2.2.2.1 - 1 → Dr (if (a == (0 : Int)) = true then (if ((x.1.2.2.2.1.length : Nat) : Int) = 0 then none else if 0 ≤ (x.2.2.2.1 + 1).tmod ((x.1.2.2.2.1.length : Nat) : Int) then (x.1.2.2.2.1[((x.2.2.2.1 + 1).tmod ((x.1.2.2.2.1.length : Nat) : Int)).toNat]?).bind fun y => some ((), ((x.1.1, x.1.2.1, x.1.2.2.1, x.1.2.2.2.1, (Qav x).m, hs, (x.2.2.2.1 + 1).tmod ((x.1.2.2.2.1.length : Nat) : Int), y.2.1, x.2.2.2.2.2.1 + 1, ()), ())) else none)
    else some ((), ((x.1.1, x.1.2.1, x.1.2.2.1, x.1.2.2.2.1, (Qav x).m, hs, x.2.2.2.1, a, x.2.2.2.2.2.1 + 1, ()), ()))) fun r => r = ((), (boxH (Qdp x), ()))) := by
  rintro hs rfl a rfl
  rw [hmod]
  by_cases hz : x.2.2.2.2.1 - 1 = 0
  ·refine Dr.pos (by simpa using hz) (Dr.nguard (by omega) (Dr.guard m0 (Dr.step hd (Dr.ret ?_))))
   unfold boxH Qdp QfC
   dsimp only
   rw [if_pos hz]
  ·refine Dr.neg (by simpa using hz) (Dr.ret ?_)
   unfold boxH Qdp QfC
   dsimp only
   rw [if_neg hz]
 by_cases hin : QeI x = true
 ·refine Dr.pos hin ?_
  have hg := Qgx.1 (hrang hin)
  refine Dr.gatE (n := (Qas x).length) rfl (by rw [QcR, h.len]; exact hg) fun z hz => ?_
  have hz' : (Qas x)[(Qav x).ring.toNat]? = some z := hz
  have ez : QbJ (Qav x).ring (Qas x) = (Qas x).set (Qav x).ring.toNat (QpT z) := by
   unfold QbJ
   rw [List.getD_eq_getElem?_getD, hz']
   rfl
  have q := fin ((Qas x).set (Qav x).ring.toNat (QpT z)) (by rw [if_pos hin, ez]) (IntKind.i64.wrap (x.2.2.2.2.1 - 1)) e2
  rw [← e1, ← e3] at q
  exact q
 ·refine Dr.neg hin ?_
  have q := fin (Qas x) (by rw [if_neg hin]) (IntKind.i64.wrap (x.2.2.2.2.1 - 1)) e2
  rw [← e1, ← e3] at q
  exact q
theorem QkM {X : Type} {xs : List X} {i : Nat} (h : i < xs.length) : xs.take i ++ [xs[i]] = xs.take (i + 1) := by
 rw [List.take_add_one, List.getElem?_eq_getElem h]
 rfl
theorem QeO {X : Type} {xs : List X} {i : Nat} (h : i < xs.length) : xs.set i xs[i] = xs := by
 apply List.ext_getElem (by simp)
 intro j h1 h2
 rw [List.getElem_set]
 split
 ·rename_i e; subst e; rfl
 ·rfl
theorem QjE {p : PolD} (hok : OkPol p) : F_av (p, ()) = some (((p.1, p.2.1, p.2.2.1, p.2.2.2.1, ()), ()), ()) := by
 have hle := QhX hok
 have ho := hok.own
 have hb := hok.bells.1
 have hp := hok.plan.2
 have hl := hok.lanes.1
 refine Dr.eq ?_
 unfold F_av
 dsimp only
 refine Dr.pos (by simp; omega) (.pos (by simp; omega) (.pos (by simp; omega) ?_))
 have k1 : Dr (L_av_3 (((), ((), ((), ((0 : Int), ())))), ((p, (([], ([], ([], ([], ())))), (([], ([] ++ p.2.1, ([] ++ p.2.2.1, ([] ++ p.2.2.2.1, ())))), ()))), ()))) fun o => o = .inl (((), ((), ())), ((([], ([], ([], ([], ())))), ((p.1, (p.2.1, (p.2.2.1, (p.2.2.2.1, ())))), ())), ())) := by
  refine QbQ (fun n u => ∃ i : Nat, u = (((), ((), ((), ((i : Int), ())))), ((p, (([], ([], ([], ([], ())))), ((p.1.take i, ([] ++ p.2.1, ([] ++ p.2.2.1, ([] ++ p.2.2.2.1, ())))), ()))), ())) ∧ n = p.1.length - i ∧ i ≤ p.1.length) ?_ _ _ ⟨0, rfl, rfl, Nat.zero_le _⟩ (by rw [Qaj]; omega)
  rintro rec n _ ⟨i, rfl, hn, hi⟩ ih
  unfold l_av_3
  dsimp only
  by_cases hlt : i < p.1.length
  case neg =>
   rw [if_neg (lt_f hlt), List.take_of_length_le (by omega)]
   exact Dr.ret rfl
  have hy := (hok.own1 _ (List.getElem_mem hlt)).2.1
  rw [if_pos (lt_t hlt), if_pos nat0, Ql hlt, QK (by omega)]
  refine Dr.pos (by simp; omega) (.pos (by simp; omega) ?_)
  exact ih (n - 1) _ (by omega) ⟨i + 1, by rw [List.nil_append, QkM hlt], by omega, by omega⟩
 refine k1.bind fun o h => ?_
 subst h
 exact Dr.ret rfl
theorem Qmw {x : Qx} (h : HK x) : F_ay (x, ()) = some ((boxH x, ()), ()) := by
 have hle := h.le
 have hm := h.mem.2
 have hh := hle.2.2.1
 refine Dr.eq ?_
 unfold F_ay
 refine Dr.step (QjE h.ok) ?_
 unfold F_aw
 dsimp only
 rw [if_pos (by simp; omega), Obn]
 have k1 : Dr (L_ay_3 (((), ((), ((), ((0 : Int), ())))), ((boxH x, (([], ([], ([], ([], ([], ([], ((0 : Int), ((0 : Int), ((0 : Int), ()))))))))), ((x.1.1, (x.1.2.1, (x.1.2.2.1, (x.1.2.2.2.1, ([] ++ x.2.1, ([], (x.2.2.2.1, (x.2.2.2.2.1, (x.2.2.2.2.2.1, ()))))))))), ()))), ()))) fun o => o = .inl (((), ((), ())), ((([], ([], ([], ([], ([], ([], ((0 : Int), ((0 : Int), ((0 : Int), ()))))))))), (boxH x, ())), ())) := by
  refine QbQ (fun n u => ∃ i : Nat, u = (((), ((), ((), ((i : Int), ())))), ((boxH x, (([], ([], ([], ([], ([], ([], ((0 : Int), ((0 : Int), ((0 : Int), ()))))))))), ((x.1.1, (x.1.2.1, (x.1.2.2.1, (x.1.2.2.2.1, ([] ++ x.2.1, (x.2.2.1.take i, (x.2.2.2.1, (x.2.2.2.2.1, (x.2.2.2.2.2.1, ()))))))))), ()))), ())) ∧ n = x.2.2.1.length - i ∧ i ≤ x.2.2.1.length) ?_ _ _ ⟨0, rfl, rfl, Nat.zero_le _⟩ (by rw [Qaj]; omega)
  rintro rec n _ ⟨i, rfl, hn, hi⟩ ih
  unfold l_ay_3 boxH
  dsimp only
  by_cases hlt : i < x.2.2.1.length
  case neg =>
   rw [if_neg (lt_f hlt), List.take_of_length_le (by omega), List.nil_append]
   exact Dr.ret rfl
  rw [if_pos (lt_t hlt), if_pos nat0, Ql hlt, QK (by omega), Qhc _ (hle.2.2.2 _ (List.getElem_mem hlt)), Obn]
  dsimp only
  refine Dr.pos (by simp; omega) ?_
  exact ih (n - 1) _ (by omega) ⟨i + 1, by rw [QkM hlt]; rfl, by omega, by omega⟩
 refine k1.bind fun o h => ?_
 subst h
 exact Dr.ret rfl
theorem Qjx {p : PolD} (hok : OkPol p) : F_ep (p, ()) = some (((p.1, p.2.1, p.2.2.1, p.2.2.2.1, ()), ()), ()) := by
 have hle := QhX hok
 have ho := hok.own
 have hb := hok.bells.1
 have hp := hok.plan.2
 have hl := hok.lanes.1
 refine Dr.eq ?_
 unfold F_ep F_ek
 dsimp only
 rw [if_pos (by simp; omega), Obn]
 have k1 : Dr (L_ep_3 (((), ((), (((p.1.length : Nat) : Int), ((0 : Int), ())))), (((p.1, (p.2.1, (p.2.2.1, (p.2.2.2.1, ())))), (([], ([], ([], ([], ())))), ())), ()))) fun o => o = .inl (((), ((), ())), (((p.1, (p.2.1, (p.2.2.1, (p.2.2.2.1, ())))), (([], ([], ([], ([], ())))), ())), ())) := by
  refine QbQ (fun n u => ∃ i : Nat, u = (((), ((), (((p.1.length : Nat) : Int), ((i : Int), ())))), (((p.1, (p.2.1, (p.2.2.1, (p.2.2.2.1, ())))), (([], ([], ([], ([], ())))), ())), ())) ∧ n = p.1.length - i ∧ i ≤ p.1.length) ?_ _ _ ⟨0, rfl, rfl, Nat.zero_le _⟩ (by rw [Qaj]; omega)
  rintro rec n _ ⟨i, rfl, hn, hi⟩ ih
  unfold l_ep_3
  dsimp only
  by_cases hlt : i < p.1.length
  case neg =>
   rw [if_neg (lt_f hlt)]
   exact Dr.ret rfl
  have hy := (hok.own1 _ (List.getElem_mem hlt)).2.1
  rw [if_pos (lt_t hlt), if_pos ⟨nat0, Int.ofNat_lt.2 hlt⟩, Ql hlt, QK (by omega), Qcj (by omega), Obn, if_pos ⟨nat0, Int.ofNat_lt.2 hlt⟩, Ql hlt, Int.toNat_natCast]
  dsimp only
  rw [QeO hlt]
  exact ih (n - 1) _ (by omega) ⟨i + 1, rfl, by omega, by omega⟩
 refine k1.bind fun o h => ?_
 subst h
 unfold F_em F_en F_eo
 dsimp only
 rw [if_pos (by simp; omega), Obn, if_pos (by simp; omega), Obn, if_pos (by simp; omega), Obn]
 exact Dr.ret rfl
theorem Qmv {x : Qx} (h : HK x) : F_es (x, ()) = some ((boxH x, ()), ()) := by
 have hle := h.le
 have hm := h.mem.2
 have hh := hle.2.2.1
 refine Dr.eq ?_
 unfold F_es
 refine Dr.step (Qjx h.ok) (.step (Qcj (q := x.2.1) (by omega)) ?_)
 unfold F_eq
 dsimp only
 rw [if_pos (by simp; omega), Obn]
 have k1 : Dr (L_es_5 (((), ((), (((x.2.2.1.length : Nat) : Int), ((0 : Int), ())))), ((boxH x, (([], ([], ([], ([], ([], ([], ((0 : Int), ((0 : Int), ((0 : Int), ()))))))))), ())), ()))) fun o => o = .inl (((), ((), ())), ((boxH x, (([], ([], ([], ([], ([], ([], ((0 : Int), ((0 : Int), ((0 : Int), ()))))))))), ())), ())) := by
  refine QbQ (fun n u => ∃ i : Nat, u = (((), ((), (((x.2.2.1.length : Nat) : Int), ((i : Int), ())))), ((boxH x, (([], ([], ([], ([], ([], ([], ((0 : Int), ((0 : Int), ((0 : Int), ()))))))))), ())), ())) ∧ n = x.2.2.1.length - i ∧ i ≤ x.2.2.1.length) ?_ _ _ ⟨0, rfl, rfl, Nat.zero_le _⟩ (by rw [Qaj]; omega)
  rintro rec n _ ⟨i, rfl, hn, hi⟩ ih
  unfold l_es_5 boxH
  dsimp only
  by_cases hlt : i < x.2.2.1.length
  case neg =>
   rw [if_neg (lt_f hlt)]
   exact Dr.ret rfl
  rw [if_pos (lt_t hlt), if_pos ⟨nat0, Int.ofNat_lt.2 hlt⟩, Ql hlt, QK (by omega), QdY _ (hle.2.2.2 _ (List.getElem_mem hlt)), Obn, if_pos ⟨nat0, Int.ofNat_lt.2 hlt⟩, Ql hlt, Int.toNat_natCast]
  dsimp only
  rw [QeO hlt]
  exact ih (n - 1) _ (by omega) ⟨i + 1, rfl, by omega, by omega⟩
 refine k1.bind fun o h => ?_
 subst h
 exact Dr.ret rfl
abbrev Qep := List Int × Int × List Int × Bool × Bool × Bool × Int × List Int × List Int × List Int × List Int × Unit
def Qdh (x : Qx) (g : Int) : Qep := (QfN 0 (x.2.2.1.getD g.toNat Qbu) (Qah x.2.1 (x.1.1.getD g.toNat [])) (Qah x.2.1 (Qar g true x.1.2.1))).2
def vD (r : Qep) : QtQ := ((r.1, r.2.1, r.2.2.1, r.2.2.2.1, r.2.2.2.2.1, r.2.2.2.2.2.1, r.2.2.2.2.2.2.1, r.2.2.2.2.2.2.2.1, r.2.2.2.2.2.2.2.2.1, ()), r.2.2.2.2.2.2.2.2.2.1, r.2.2.2.2.2.2.2.2.2.2.1, ())
theorem QsY {x : Qx} {g : Int} (h : HK x) (hg : isG x.1 g = true) : Qqh x g = (0, Qdh x g) := by
 unfold Qqh Qdh
 rw [if_neg (by simpa using h.to), if_pos hg]
 rfl
theorem Qnu {x : Qx} {g : Int} (h : HK x) (hg : isG x.1 g = true) : F_bc (x, g, ()) = some ((Qdh x g, ()), ()) := by
 obtain ⟨⟨g0, e1, e2⟩, a1, ⟨a2, a3⟩, a4⟩ := Qit h.le h.to hg
 have hok := h.ok
 have hm := h.mem.2
 have hll := hok.lanes.1
 unfold F_bc
 dsimp only
 rw [if_pos g0, e1, Obn, Qhc _ a1, Obn, if_pos g0, e2, Obn, Qbs _ _ (by omega) a3 (by omega), Obn]
 rw [Qms x.1 g true hok.lanes.1, Obn, Qbs _ _ (by omega) a4 (by have := QdW g true x.1.2.1; have := hok.lanes.1; omega), Obn]
 rfl
theorem QmG {x : Qx} {g : Int} (hk : HK x) (hg : isG x.1 g = true) : F_ev (x, g, ()) = some ((Qdh x g, ()), ()) := by
 obtain ⟨⟨g0, e1, e2⟩, a1, ⟨a2, a3⟩, a4⟩ := Qit hk.le hk.to hg
 have hok := hk.ok
 have hm := hk.mem.2
 have hll := hok.lanes.1
 unfold Qdh
 unfold F_ev
 dsimp only
 rw [if_pos g0, e1, Obn, QdY _ a1, Obn, if_pos g0, e2, Obn, Qlv _ _ (by omega) a3 (by omega), Obn]
 generalize x.2.2.1.getD g.toNat Qbu = h at *
 generalize Qah x.2.1 (x.1.1.getD g.toNat []) = ow at *
 dsimp only
 have key := QbX (step := l_ev_3) (γ := denO o_ev_3)
  (fun k (out : List Int) => ((x, g, (), (), x.1.2.1, ((x.1.2.1.length : Nat) : Int), ((k : Nat) : Int), ()), (([], 0, [], false, false, false, 0, [], [], [], [], ()), (h.1, h.2.1, h.2.2.1, h.2.2.2.1, h.2.2.2.2.1, h.2.2.2.2.2.1, h.2.2.2.2.2.2.1, h.2.2.2.2.2.2.2.1, h.2.2.2.2.2.2.2.2.1, ow, out, ()), ()), ()))
  x.1.2.1.length (QW (by omega)) (fun k out => out.length ≤ 8 * k)
  (fun k out => some (.inl (((), (), ()), (([], 0, [], false, false, false, 0, [], [], [], [], ()), (h.1, h.2.1, h.2.2.1, h.2.2.2.1, h.2.2.2.2.1, h.2.2.2.2.2.1, h.2.2.2.2.2.2.1, h.2.2.2.2.2.2.2.1, h.2.2.2.2.2.2.2.2.1, ow, out ++ Qah x.2.1 (Qar g true (x.1.2.1.drop k)), ()), ()), ()))) ?_ 0 [] (by omega) (by simp)
 ·have e0 : ((0 : Nat) : Int) = 0 := rfl
  rw [e0, List.drop_zero, List.nil_append] at key
  show (Qc l_ev_3 lots _).bind _ = _
  rw [key, Obn]
  rfl
 ·rintro rec k out hk' ho ih
  unfold l_ev_3
  dsimp only
  by_cases hlt : k < x.1.2.1.length
  ·have hln := (QeF hok _ (List.getElem_mem hlt)).2.1
   rw [if_pos (lt_t hlt), if_pos nat0, Ql hlt, QaB hlt, Qar, QK (by omega)]
   by_cases hq : (x.1.2.1[k]).1 = g
   ·rw [if_pos (by simpa using hq), if_pos hq, Qdq x.2.1 _ (by omega) (by omega), Obn]
    dsimp only
    have := Qga x.2.1 (x.1.2.1[k]).2.2.1
    rw [if_pos (by omega), ih _ hlt (by rw [List.length_append]; omega), List.append_assoc]
    rfl
   ·rw [if_neg (by simpa using hq), if_neg hq]
    exact ih _ hlt (by omega)
  ·rw [if_neg (lt_f hlt), QaJ hlt]
   simp only [Qar, Qah, List.flatMap_nil, List.append_nil]
def QhJ (v w : Qep) : Bool := match F_bh (vD v, vD w, ()) with
 | some r => r.1.1
 | none => false
theorem QpU {v w : Qep} (h : Qpi maxLen (vD v)) : F_bh (vD v, vD w, ()) = some ((QhJ v w, ()), ()) ∧ F_ez (vD v, vD w, ()) = some ((QhJ v w, ()), ()) := by
 obtain ⟨b, e1, e2⟩ := QsZ (vD v, vD w, ()) h
 unfold QhJ
 rw [e1, e2]
 exact ⟨rfl, rfl⟩
theorem QnG {x : Qx} {g : Int} (h : HK x) (hg : isG x.1 g = true) : Qpi maxLen (vD (Qdh x g)) := by
 have := QsX x g h.le
 rw [QsY h hg] at this
 obtain ⟨h1, h2, h3, h4, h5, h6⟩ := this
 exact ⟨⟨leM h1, leM h2, leM h3, leM h4⟩, leM h5, leM h6⟩
abbrev QrB := Int × Int × Bool × Unit
theorem QkJ {x : Qx} {n : Int} (h : HK x) (hs : Qbx x n = true) : (0 ≤ n ∧ n ≤ 200) ∧ x.2.2.2.2.2.1 + n ≤ 1000000 := by
 unfold Qbx at hs
 obtain ⟨h1, h2⟩ := Bool.and_eq_true_iff.1 hs
 have h1 := QcS.1 h1
 have hc := h.clock
 rw [QP (by omega) (by omega)] at h2
 refine ⟨h1, ?_⟩
 rw [Qad] at h2
 have := of_decide_eq_true h2
 omega
theorem QrS (r : QrB) : F_gx (r, r, ()) = some ((true, ()), ()) := by
 unfold F_gx
 dsimp only
 rw [if_neg (by simp), if_neg (by simp), if_neg (by simp)]
def Qkd (v : Qep) : Bool := v.2.2.2.2.2.1
def setF (v : Qep) (b : Bool) : Qep := (v.1, v.2.1, v.2.2.1, v.2.2.2.1, v.2.2.2.2.1, b, v.2.2.2.2.2.2)
theorem QoE (v w : Qep) (b c : Bool) : QhJ (setF v b) (setF w b) = QhJ (setF v c) (setF w c) := by
 unfold QhJ vD setF F_bh F_bg
 simp only [beq_self_eq_true, if_true]
def QfQ (v w : Qep) : Bool := QhJ v (setF w (Qkd v))
theorem Qqj (v w : Qep) : QhJ (setF v (Qkd w)) w = QfQ v w := QoE v w (Qkd w) (Qkd v)
def sB (s : QL) : QlS := (s.1.1, s.1.2.1, s.1.2.2.1, s.1.2.2.2.1, s.1.2.2.2.2.1, s.1.2.2.2.2.2.1, s.1.2.2.2.2.2.2.1, s.1.2.2.2.2.2.2.2.1, s.1.2.2.2.2.2.2.2.2.1, s.2.1, s.2.2.1, ())
def setM (s : QL) (m : List Int) : QL := (s.1, s.2.1, m, ())
def QtX (s : QL) (h : QJ) : QL := ((s.1.1, s.1.2.1, s.1.2.2.1, s.1.2.2.2.1, s.1.2.2.2.2.1, h.2.2.2.2.2.1, s.1.2.2.2.2.2.2), s.2.1, s.2.2.1, ())
theorem QgO {m : List Int} (h : QC m = 0) : ∀ w ∈ m, WW w := by
 unfold QC at h
 split at h
 ·split at h
  ·exact QaF.1 ‹_›
  ·cases h
 ·cases h
theorem QrW {m : List Int} (hl : m.length = 64) (h : ∀ w ∈ m, WW w) : QC m = 0 := by
 unfold QC
 rw [if_pos (by rw [hl]; decide), if_pos (QaF.2 h)]
theorem QiU {s : QL} (h1 : hartM s.1 = 0) (h2 : QaD s.2.1 8 = 0) (h3 : s.2.2.1.length = 64) (h4 : ∀ w ∈ s.2.2.1, WW w) : QS s = 0 := by
 unfold QS
 rw [if_neg (by simpa using h1), if_neg (by simpa using h2), if_pos ⟨QrW h3 h4, h3⟩]
theorem QgI {s : QL} (h : QS s = 0) : Qce 1048576 s := by
 obtain ⟨h1, h2, h3, h4⟩ := QbW h
 have := (QfZ (by decide) h2).1
 exact ⟨Qez h1, by omega, by omega⟩
theorem QiV {s : QL} (h : QS s = 0) {m : List Int} (hl : m.length = 64) (hw : ∀ w ∈ m, WW w) : QS (setM s m) = 0 := by
 obtain ⟨h1, h2, h3, h4⟩ := QbW h
 exact QiU h1 h2 hl hw
theorem Qnc {s : QL} (h : QS s = 0) (y : QJ) : QS (QtX s y) = 0 := by
 obtain ⟨h1, h2, h3, h4⟩ := QbW h
 exact QiU h1 h2 h4 (QgO h3)
def QdH (m : List Int) (g : Int) : List Qay → List Int → List Int
 | [], q => q
 | l :: r, q => QdH m g r (if l.2.1 = g then QfI q l.2.2.2.2.1.toNat (pg m l.2.2.1) else q)
end Go.Proofs.YtopmpmbdkieenaaGreatDoor
