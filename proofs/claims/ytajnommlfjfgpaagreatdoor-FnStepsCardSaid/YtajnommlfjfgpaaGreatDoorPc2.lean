/- Plain laws: what the functions compute, and that both programs compute the same. -/
import Derived.Test.YtajnommlfjfgpaaGreatDoorPc1
namespace Go.Proofs.YtajnommlfjfgpaaGreatDoor
open Go Go.RowKit S Go.Proofs
set_option maxRecDepth 100000
set_option linter.unusedVariables false
set_option linter.unusedSimpArgs false
section
variable {r cs iq oq m : List Int} {pc dn ring fall : Int} {ha wa ru : Bool} {l : List TwoD} {s : Mc}
theorem specTaken_e (hr : OkR r) {op d a i : Int} (hd : 0 ≤ d ∧ d ≤ 15) (hA : 0 ≤ a ∧ a ≤ 15) : F_dd ((r, pc, cs, ha, wa, ru, dn, iq, oq, ()), (op, d, a, i, ()), ()) =
  some ((takenM op (r.getD d.toNat 0) (r.getD a.toNat 0), ()), ()) := by
 unfold F_dd takenM
 dsimp only
 rw [if_pos hd.1, get_bind 0 (by rw [hr.len]; omega), if_pos hA.1, get_bind 0 (by rw [hr.len]; omega), specSigned_e, Option.bind_some, specSigned_e, Option.bind_some]
 by_cases h16 : op = 16
 ·subst h16; rfl
 rw [if_neg (by simpa using h16), if_neg h16]
 by_cases h17 : op = 17
 ·subst h17
  rw [if_pos (by decide), if_pos rfl]
  generalize r.getD d.toNat 0 = x
  generalize r.getD a.toNat 0 = y
  by_cases e : x = y <;> simp [e]
 rw [if_neg (by simpa using h17), if_neg h17, ltI_eq]
theorem i65536 {i : Int} (h : 0 ≤ i ∧ i ≤ 65535) : IntKind.i64.wrap (i * 65536) = i * 65536 := i64_same (by omega) (by omega)
theorem specMem_e (h : OkS s l) {op d a i : Int} (hi : OkI op d a i) (hop : op = 14 ∨ op = 15) {e : Bool × Int × Int × Mc} (he : exM s l op d a i = e) : F_db (s.bus l, (op, d, a, i, ()), ()) =
  some ((e.1, ()), (({ e.2.2.2 with r := if e.1 = true ∧ op = 14 ∧ 0 < d then e.2.2.2.r.set d.toNat e.2.2.1 else e.2.2.2.r }).bus l, ())) := by
 obtain ⟨r, pc, cs, ha, wa, ru, dn, iq, oq, m, ring, fall⟩ := s
 obtain ⟨hr, hpc, hc, hiq, hoq, hdn, hl⟩ := h
 have hd := hi.hd
 have ha' := hi.ha
 unfold F_db Mc.bus
 unfold exM Mc.trap at he
 dsimp only at *
 have hda : a.toNat < r.length := by rw [hr.len]; omega
 have hdd : d.toNat < r.length := by rw [hr.len]; omega
 have hia : 0 ≤ a ∧ a < ((r.length : Nat) : Int) := by rw [hr.len]; omega
 have hid : 0 ≤ d ∧ d < ((r.length : Nat) : Int) := by rw [hr.len]; omega
 rw [if_pos hia, get_bind 0 hda, specOff_e, Option.bind_some]
 dsimp only
 rw [specAdd_e, Option.bind_some]
 dsimp only
 rcases hop with rfl | rfl
 ·rw [if_neg (by decide), if_neg (by decide), if_pos rfl] at he
  rw [if_neg (by decide), specPlace_e hc hl, Option.bind_some]
  dsimp only
  have hin := placeM_in hc hl (addW (r.getD a.toNat 0) (off i)) 1
  generalize placeM cs l m (addW (r.getD a.toNat 0) (off i)) 1 = q at *
  by_cases h0 : q.2 = 0
  ·rw [if_neg (by simpa using h0)] at he
   rw [if_neg (by simpa using h0), if_pos (by decide)]
   by_cases hq : 1000 ≤ q.1
   ·have hle : q.1 ≤ 1007 := by have := hl.mlen; rcases hin h0 with h | h <;> omega
    rw [if_pos hq] at he
    subst he
    rw [if_pos (leI_t.2 hq), i64_same (by omega) (by omega), specRead_e hc hiq, Option.bind_some]
    dsimp only
    rw [specPut_e hr hd, Option.bind_some]
    simp
   ·have hlt : 0 ≤ q.1 ∧ q.1 < ((m.length : Nat) : Int) := by rcases hin h0 with h | h; omega; exact h
    rw [if_neg hq] at he
    subst he
    rw [if_neg (by rw [leI_t]; exact hq), if_pos (by decide), if_pos hlt, get_bind 0 (by omega), specPut_e hr hd, Option.bind_some]
    simp
  ·rw [if_pos h0] at he
   subst he
   rw [if_pos (by simpa using h0), specFall_e hc, Option.bind_some]
   simp
 ·rw [if_neg (by decide), if_neg (by decide), if_neg (by decide), if_pos rfl] at he
  rw [if_pos (by decide), specPlace_e hc hl, Option.bind_some]
  dsimp only
  have hin := placeM_in hc hl (addW (r.getD a.toNat 0) (off i)) 2
  generalize placeM cs l m (addW (r.getD a.toNat 0) (off i)) 2 = q at *
  by_cases h0 : q.2 = 0
  ·rw [if_neg (by simpa using h0)] at he
   rw [if_neg (by simpa using h0), if_neg (by decide), if_neg (by decide)]
   by_cases hq : 1000 ≤ q.1
   ·have hle : q.1 ≤ 1007 := by have := hl.mlen; rcases hin h0 with h | h <;> omega
    rw [if_pos hq] at he
    subst he
    rw [if_pos (leI_t.2 hq), i64_same (by omega) (by omega), if_pos hid, get_bind 0 hdd, specWrite_e hc hoq, Option.bind_some]
    simp
   ·have hlt : 0 ≤ q.1 ∧ q.1 < ((m.length : Nat) : Int) := by rcases hin h0 with h | h; omega; exact h
    rw [if_neg hq] at he
    subst he
    rw [if_neg (by rw [leI_t]; exact hq), if_pos hid, get_bind 0 hdd, if_pos hlt, get_bind 0 (by omega)]
    simp
  ·rw [if_pos h0] at he
   subst he
   rw [if_pos (by simpa using h0), specFall_e hc, Option.bind_some]
   simp
end
section
variable {l : List TwoD} {s : Mc}
theorem specDo_e (h : OkS s l) {op d a i : Int} (hi : OkI op d a i) {e : Bool × Mc} (he : doM s l op d a i = e) : F_dm (s.bus l, (op, d, a, i, ()), ()) = some ((e.1, ()), (e.2.bus l, ())) := by
 have hmem := specMem_e h hi
 obtain ⟨r, pc, cs, ha, wa, ru, dn, iq, oq, m, ring, fall⟩ := s
 obtain ⟨hr, hpc, hc, hiq, hoq, hdn, hl⟩ := h
 have hd := hi.hd
 have ha' := hi.ha
 unfold doM at he
 unfold F_dm
 unfold Mc.bus at hmem ⊢
 dsimp only at *
 have hda : a.toNat < r.length := by rw [hr.len]; omega
 have hia : 0 ≤ a ∧ a < ((r.length : Nat) : Int) := by rw [hr.len]; omega
 rw [specAdd_e, Option.bind_some]
 dsimp only
 rw [specOff_e, Option.bind_some]
 dsimp only
 rw [specAdd_e, Option.bind_some]
 dsimp only
 by_cases h12 : op = 12
 ·subst h12
  rw [show exM ⟨r, pc, cs, ha, wa, ru, dn, iq, oq, m, ring, fall⟩ l 12 d a i = (true, addW pc 1, addW (r.getD a.toNat 0) (off i), ⟨r, pc, cs, ha, wa, ru, dn, iq, oq, m, ring, fall⟩) from rfl] at he
  subst he
  rw [if_pos (by decide), if_pos hia, get_bind 0 hda, Option.bind_some]
  dsimp only
  rw [specAdd_e, Option.bind_some]
  dsimp only
  rw [specPut_e hr hd, Option.bind_some]
  simp [wrD]
 rw [if_neg (by simpa using h12)]
 by_cases h13 : op = 13
 ·subst h13
  rw [show exM ⟨r, pc, cs, ha, wa, ru, dn, iq, oq, m, ring, fall⟩ l 13 d a i = (true, addW pc 1, i * 65536, ⟨r, pc, cs, ha, wa, ru, dn, iq, oq, m, ring, fall⟩) from rfl] at he
  subst he
  rw [if_pos (by decide), i65536 hi.hi, specPut_e hr hd, Option.bind_some]
  simp [wrD]
 rw [if_neg (by simpa using h13)]
 by_cases h14 : op = 14
 ·subst h14
  rw [if_pos (by decide), hmem (.inl rfl) rfl, Option.bind_some]
  generalize hx : exM ⟨r, pc, cs, ha, wa, ru, dn, iq, oq, m, ring, fall⟩ l 14 d a i = x at *
  have hn : x.1 = true → x.2.1 = addW pc 1 := by
   rw [← hx]; unfold exM; dsimp only
   rw [if_neg (by decide), if_neg (by decide), if_pos rfl]
   repeat' split
   all_goals simp
  obtain ⟨b, nx, rs, s1⟩ := x
  cases b
  ·subst he; simp
  ·subst he
   simp only at hn
   simp [wrD, hn]
 rw [if_neg (by simpa using h14)]
 by_cases h15 : op = 15
 ·subst h15
  rw [if_pos (by decide), hmem (.inr rfl) rfl, Option.bind_some]
  generalize hx : exM ⟨r, pc, cs, ha, wa, ru, dn, iq, oq, m, ring, fall⟩ l 15 d a i = x at *
  have hn : x.1 = true → x.2.1 = addW pc 1 := by
   rw [← hx]; unfold exM; dsimp only
   rw [if_neg (by decide), if_neg (by decide), if_neg (by decide), if_pos rfl]
   repeat' split
   all_goals simp
  obtain ⟨b, nx, rs, s1⟩ := x
  cases b
  ·subst he; simp
  ·subst he
   simp only at hn
   simp [wrD, hn]
 rw [if_neg (by simpa using h15)]
 have hex : exM ⟨r, pc, cs, ha, wa, ru, dn, iq, oq, m, ring, fall⟩ l op d a i =
   (if op = 16 ∨ op = 17 ∨ op = 18 then (true, if takenM op (r.getD d.toNat 0) (r.getD a.toNat 0) = true then addW pc (off i) else addW pc 1, 0, ⟨r, pc, cs, ha, wa, ru, dn, iq, oq, m, ring, fall⟩)
   else if op = 19 then (true, addW pc (off i), addW pc 1, ⟨r, pc, cs, ha, wa, ru, dn, iq, oq, m, ring, fall⟩)
   else if op = 20 then (true, addW (r.getD a.toNat 0) (off i), addW pc 1, ⟨r, pc, cs, ha, wa, ru, dn, iq, oq, m, ring, fall⟩)
   else if op = 21 then (true, addW pc 1, getM cs ru dn iq i, ⟨r, pc, cs, ha, wa, ru, dn, iq, oq, m, ring, fall⟩)
   else if op = 22 then (true, addW pc 1, 0, ⟨r, pc, setC cs i (r.getD a.toNat 0), ha, wa, setR ru i (r.getD a.toNat 0), dn, iq, oq, m, ring, fall⟩)
   else if op = 23 then (false, 0, 0, ⟨r, cs.getD 1 0, trapC cs pc 5 0, ha, false, ru, dn, iq, oq, m, ring, 5⟩)
   else if op = 24 then (true, cs.getD 2 0, 0, ⟨r, cs.getD 2 0, backC cs, ha, wa, ru, dn, iq, oq, m, ring, fall⟩)
   else if op = 25 then (true, addW pc 1, 0, ⟨r, pc, cs, ha, true, ru, dn, iq, oq, m, ring, fall⟩)
   else if op = 26 then (true, pc, 0, ⟨r, pc, cs, true, wa, ru, dn, iq, oq, m, ring, fall⟩)
   else (true, addW pc 1, aluW op (r.getD a.toNat 0) (r.getD i.toNat 0), ⟨r, pc, cs, ha, wa, ru, dn, iq, oq, m, ring, fall⟩)) := by
  unfold exM Mc.trap
  dsimp only
  rw [if_neg h12, if_neg h13, if_neg h14, if_neg h15]
 clear hmem
 have htk := fun o => specTaken_e (pc := pc) (cs := cs) (ha := ha) (wa := wa) (ru := ru) (dn := dn) (iq := iq) (oq := oq) hr (op := o) (i := i) hd ha'
 have hput := fun pc cs ha wa ru w => specPut_e (l := l) (m := m) (ring := ring) (pc := pc) (cs := cs) (ha := ha) (wa := wa) (ru := ru) (dn := dn) (iq := iq) (oq := oq) (fall := fall) hr hd w
 by_cases h16 : op = 16
 ·subst h16
  rw [if_pos (.inl rfl)] at hex
  rw [hex] at he
  subst he
  rw [if_pos (by decide), htk, Option.bind_some]
  cases takenM 16 (r.getD d.toNat 0) (r.getD a.toNat 0) <;> simp [wrD]
 rw [if_neg (by simpa using h16)]
 by_cases h17 : op = 17
 ·subst h17
  rw [if_pos (.inr (.inl rfl))] at hex
  rw [hex] at he
  subst he
  rw [if_pos (by decide), htk, Option.bind_some]
  cases takenM 17 (r.getD d.toNat 0) (r.getD a.toNat 0) <;> simp [wrD]
 rw [if_neg (by simpa using h17)]
 by_cases h18 : op = 18
 ·subst h18
  rw [if_pos (.inr (.inr rfl))] at hex
  rw [hex] at he
  subst he
  rw [if_pos (by decide), htk, Option.bind_some]
  cases takenM 18 (r.getD d.toNat 0) (r.getD a.toNat 0) <;> simp [wrD]
 rw [if_neg (by simpa using h18)]
 rw [if_neg (c := op = 16 ∨ op = 17 ∨ op = 18) (by omega)] at hex
 by_cases h19 : op = 19
 ·subst h19
  rw [if_pos rfl] at hex
  rw [hex] at he
  subst he
  rw [if_pos (by decide), hput, Option.bind_some]
  simp [wrD]
 rw [if_neg (by simpa using h19)]
 rw [if_neg h19] at hex
 by_cases h20 : op = 20
 ·subst h20
  rw [if_pos rfl] at hex
  rw [hex] at he
  subst he
  rw [if_pos (by decide), if_pos hia, get_bind 0 hda, Option.bind_some]
  dsimp only
  rw [specAdd_e, Option.bind_some]
  dsimp only
  rw [hput, Option.bind_some]
  simp [wrD]
 rw [if_neg (by simpa using h20)]
 rw [if_neg h20] at hex
 by_cases h21 : op = 21
 ·subst h21
  rw [if_pos rfl] at hex
  rw [hex] at he
  subst he
  have hi10 := hi.i21 (.inl rfl)
  have hi0 := hi.hi
  rw [if_pos (by decide), specGet_e hc ⟨hi0.1, hi10⟩, Option.bind_some]
  dsimp only
  rw [hput, Option.bind_some]
  simp [wrD]
 rw [if_neg (by simpa using h21)]
 rw [if_neg h21] at hex
 by_cases h22 : op = 22
 ·subst h22
  rw [if_pos rfl] at hex
  rw [hex] at he
  subst he
  have hi10 := hi.i21 (.inr rfl)
  have hi0 := hi.hi
  rw [if_pos (by decide), if_pos hia, get_bind 0 hda, specSet_e hc ⟨hi0.1, hi10⟩, Option.bind_some]
  simp [wrD]
 rw [if_neg (by simpa using h22)]
 rw [if_neg h22] at hex
 by_cases h23 : op = 23
 ·subst h23
  rw [if_pos rfl] at hex
  rw [hex] at he
  subst he
  rw [if_pos (by decide), specFall_e hc, Option.bind_some]
  simp
 rw [if_neg (by simpa using h23)]
 rw [if_neg h23] at hex
 by_cases h24 : op = 24
 ·subst h24
  rw [if_pos rfl] at hex
  rw [hex] at he
  subst he
  rw [if_pos (by decide), specBack_e hc, Option.bind_some]
  simp [wrD]
 rw [if_neg (by simpa using h24)]
 rw [if_neg h24] at hex
 by_cases h25 : op = 25
 ·subst h25
  rw [if_pos rfl] at hex
  rw [hex] at he
  subst he
  rw [if_pos (by decide)]
  simp [wrD]
 rw [if_neg (by simpa using h25)]
 rw [if_neg h25] at hex
 by_cases h26 : op = 26
 ·subst h26
  rw [if_pos rfl] at hex
  rw [hex] at he
  subst he
  rw [if_pos (by decide)]
  simp [wrD]
 rw [if_neg (by simpa using h26)]
 rw [if_neg h26] at hex
 have h1 := hi.hop
 have h11 : op ≤ 11 := by omega
 have hi15 := hi.i11 h11
 have hi0 := hi.hi
 have hii : 0 ≤ i ∧ i < ((r.length : Nat) : Int) := by rw [hr.len]; omega
 have hiN : i.toNat < r.length := by rw [hr.len]; omega
 rw [hex] at he
 subst he
 rw [if_pos hia, get_bind 0 hda, if_pos hii, get_bind 0 hiN, specAlu_e, Option.bind_some]
 dsimp only
 rw [hput, Option.bind_some]
 have hw : wrD op = true := by unfold wrD; rw [decide_eq_true_eq]; omega
 simp [hw]
theorem implLoad_e (h : OkS s l) {op d a i : Int} (h14 : op = 14) {e : Bool × Int × Int × Mc} (he : exM s l op d a i = e) : F_bl (s.core l, addW (s.r.getD a.toNat 0) (off i), ()) =
  some ((e.2.2.1, e.1, ()), (e.2.2.2.core l, ())) := by
 subst h14
 obtain ⟨r, pc, cs, ha, wa, ru, dn, iq, oq, m, ring, fall⟩ := s
 obtain ⟨hr, hpc, hc, hiq, hoq, hdn, hl⟩ := h
 unfold F_bl Mc.core
 unfold exM Mc.trap at he
 dsimp only at *
 rw [if_neg (by decide), if_neg (by decide), if_pos rfl] at he
 rw [implPlace_e hc hl _ (.inl rfl), Option.bind_some]
 dsimp only
 have hin := placeM_in hc hl (addW (r.getD a.toNat 0) (off i)) 1
 generalize placeM cs l m (addW (r.getD a.toNat 0) (off i)) 1 = q at *
 by_cases h0 : q.2 = 0
 ·rw [if_neg (by simpa using h0)] at he
  rw [if_neg (by simpa using h0)]
  by_cases hq : 1000 ≤ q.1
  ·have hle : q.1 ≤ 1007 := by have := hl.mlen; rcases hin h0 with h | h <;> omega
   rw [if_pos hq] at he
   subst he
   rw [if_pos (leI_t.2 hq), i64_same (by omega) (by omega), implRead_e hc hiq, Option.bind_some]
  ·have hlt : 0 ≤ q.1 ∧ q.1 < ((m.length : Nat) : Int) := by rcases hin h0 with h | h; omega; exact h
   rw [if_neg hq] at he
   subst he
   rw [if_neg (by rw [leI_t]; exact hq), if_pos hlt, get_bind 0 (by omega)]
 ·rw [if_pos h0] at he
  subst he
  rw [if_pos (by simpa using h0), implFail_e hc, Option.bind_some]
theorem implStore_e (h : OkS s l) {op d a i : Int} (h15 : op = 15) {e : Bool × Int × Int × Mc} (he : exM s l op d a i = e) : F_bo (s.core l, addW (s.r.getD a.toNat 0) (off i), s.r.getD d.toNat 0, ()) =
  some ((e.1, ()), (e.2.2.2.core l, ())) := by
 subst h15
 obtain ⟨r, pc, cs, ha, wa, ru, dn, iq, oq, m, ring, fall⟩ := s
 obtain ⟨hr, hpc, hc, hiq, hoq, hdn, hl⟩ := h
 unfold F_bo Mc.core
 unfold exM Mc.trap at he
 dsimp only at *
 rw [if_neg (by decide), if_neg (by decide), if_neg (by decide), if_pos rfl] at he
 rw [implPlace_e hc hl _ (.inr (.inl rfl)), Option.bind_some]
 dsimp only
 have hin := placeM_in hc hl (addW (r.getD a.toNat 0) (off i)) 2
 generalize placeM cs l m (addW (r.getD a.toNat 0) (off i)) 2 = q at *
 by_cases h0 : q.2 = 0
 ·rw [if_neg (by simpa using h0)] at he
  rw [if_neg (by simpa using h0)]
  by_cases hq : 1000 ≤ q.1
  ·have hle : q.1 ≤ 1007 := by have := hl.mlen; rcases hin h0 with h | h <;> omega
   rw [if_pos hq] at he
   subst he
   rw [if_pos (leI_t.2 hq), i64_same (by omega) (by omega), implWrite_e hc hoq, Option.bind_some]
  ·have hlt : 0 ≤ q.1 ∧ q.1 < ((m.length : Nat) : Int) := by rcases hin h0 with h | h; omega; exact h
   rw [if_neg hq] at he
   subst he
   rw [if_neg (by rw [leI_t]; exact hq), if_pos hlt, get_bind 0 (by omega)]
 ·rw [if_pos h0] at he
  subst he
  rw [if_pos (by simpa using h0), implFail_e hc, Option.bind_some]
/-- The switch over the ops. -/
theorem implEx_e (h : OkS s l) {op d a i : Int} (hi : OkI op d a i) {e : Bool × Int × Int × Mc} (he : exM s l op d a i = e) :
  ∃ nx : Int, (e.1 = true → nx = e.2.2.1 ∨ wrD op = false) ∧
  L_bz_100000 (((), ((), (s.pc, (addW s.pc 1, (addW s.pc (off i), (s.r.getD d.toNat 0, (s.r.getD a.toNat 0, (addW (s.r.getD a.toNat 0) (off i), ((0 : Int), (op, (op, ()))))))))))), (((op, (d, (a, (i, ())))), (s.core l, ())), ())) =
  some (if e.1 = true then .inl (((), ((), (e.2.1, (nx, ())))), (((op, (d, (a, (i, ())))), (e.2.2.2.core l, ())), ())) else .inr (.inl ((false, ()), ((e.2.2.2.core l, ()), ())))) := by
 have hld := fun h14 => implLoad_e h (op := op) (d := d) (a := a) (i := i) h14 he
 have hst := fun h15 => implStore_e h (op := op) (d := d) (a := a) (i := i) h15 he
 have hd := hi.hd
 have ha' := hi.ha
 unfold L_bz_100000
 dsimp only at *
 by_cases h12 : op = 12
 ·subst h12
  rw [show exM s l 12 d a i = (true, addW s.pc 1, addW (s.r.getD a.toNat 0) (off i), s) from rfl] at he
  subst he
  exact ⟨_, fun _ => .inl rfl, by rw [if_pos (by decide)]; rfl⟩
 rw [if_neg (by simpa using h12)]
 by_cases h13 : op = 13
 ·subst h13
  rw [show exM s l 13 d a i = (true, addW s.pc 1, i * 65536, s) from rfl] at he
  subst he
  exact ⟨_, fun _ => .inl rfl, by rw [if_pos (by decide), i65536 hi.hi]; rfl⟩
 rw [if_neg (by simpa using h13)]
 by_cases h14 : op = 14
 ·subst h14
  have hn : e.1 = true → e.2.1 = addW s.pc 1 := by
   rw [← he]; unfold exM; dsimp only
   rw [if_neg (by decide), if_neg (by decide), if_pos rfl]
   repeat' split
   all_goals simp
  refine ⟨e.2.2.1, fun _ => .inl rfl, ?_⟩
  rw [if_pos (by decide), hld rfl, Option.bind_some]
  obtain ⟨b, nx, rs, s1⟩ := e
  cases b
  ·simp
  ·simp only at hn
   simp [hn]
 rw [if_neg (by simpa using h14)]
 by_cases h15 : op = 15
 ·subst h15
  have hn : e.1 = true → e.2.1 = addW s.pc 1 := by
   rw [← he]; unfold exM; dsimp only
   rw [if_neg (by decide), if_neg (by decide), if_neg (by decide), if_pos rfl]
   repeat' split
   all_goals simp
  refine ⟨0, fun _ => .inr rfl, ?_⟩
  rw [if_pos (by decide), hst rfl, Option.bind_some]
  obtain ⟨b, nx, rs, s1⟩ := e
  cases b
  ·simp
  ·simp only at hn
   simp [hn]
 rw [if_neg (by simpa using h15)]
 clear hld hst
 obtain ⟨r, pc, cs, ha, wa, ru, dn, iq, oq, m, ring, fall⟩ := s
 obtain ⟨hr, hpc, hc, hiq, hoq, hdn, hl⟩ := h
 have hex : exM ⟨r, pc, cs, ha, wa, ru, dn, iq, oq, m, ring, fall⟩ l op d a i =
   (if op = 16 ∨ op = 17 ∨ op = 18 then (true, if takenM op (r.getD d.toNat 0) (r.getD a.toNat 0) = true then addW pc (off i) else addW pc 1, 0, ⟨r, pc, cs, ha, wa, ru, dn, iq, oq, m, ring, fall⟩)
   else if op = 19 then (true, addW pc (off i), addW pc 1, ⟨r, pc, cs, ha, wa, ru, dn, iq, oq, m, ring, fall⟩)
   else if op = 20 then (true, addW (r.getD a.toNat 0) (off i), addW pc 1, ⟨r, pc, cs, ha, wa, ru, dn, iq, oq, m, ring, fall⟩)
   else if op = 21 then (true, addW pc 1, getM cs ru dn iq i, ⟨r, pc, cs, ha, wa, ru, dn, iq, oq, m, ring, fall⟩)
   else if op = 22 then (true, addW pc 1, 0, ⟨r, pc, setC cs i (r.getD a.toNat 0), ha, wa, setR ru i (r.getD a.toNat 0), dn, iq, oq, m, ring, fall⟩)
   else if op = 23 then (false, 0, 0, ⟨r, cs.getD 1 0, trapC cs pc 5 0, ha, false, ru, dn, iq, oq, m, ring, 5⟩)
   else if op = 24 then (true, cs.getD 2 0, 0, ⟨r, cs.getD 2 0, backC cs, ha, wa, ru, dn, iq, oq, m, ring, fall⟩)
   else if op = 25 then (true, addW pc 1, 0, ⟨r, pc, cs, ha, true, ru, dn, iq, oq, m, ring, fall⟩)
   else if op = 26 then (true, pc, 0, ⟨r, pc, cs, true, wa, ru, dn, iq, oq, m, ring, fall⟩)
   else (true, addW pc 1, aluW op (r.getD a.toNat 0) (r.getD i.toNat 0), ⟨r, pc, cs, ha, wa, ru, dn, iq, oq, m, ring, fall⟩)) := by
  unfold exM Mc.trap
  dsimp only
  rw [if_neg h12, if_neg h13, if_neg h14, if_neg h15]
 unfold Mc.core
 dsimp only at *
 by_cases h16 : op = 16
 ·subst h16
  rw [if_pos (.inl rfl)] at hex
  rw [hex] at he
  subst he
  refine ⟨0, fun _ => .inr rfl, ?_⟩
  rw [if_pos (by decide), if_pos (by decide)]
  generalize r.getD d.toNat 0 = x
  generalize r.getD a.toNat 0 = y
  unfold takenM
  by_cases hxy : x = y <;> simp [hxy]
 rw [if_neg (by simpa using h16)]
 by_cases h17 : op = 17
 ·subst h17
  rw [if_pos (.inr (.inl rfl))] at hex
  rw [hex] at he
  subst he
  refine ⟨0, fun _ => .inr rfl, ?_⟩
  rw [if_pos (by decide), if_neg (by decide), if_pos (by decide)]
  generalize r.getD d.toNat 0 = x
  generalize r.getD a.toNat 0 = y
  unfold takenM
  by_cases hxy : x = y <;> simp [hxy]
 rw [if_neg (by simpa using h17)]
 by_cases h18 : op = 18
 ·subst h18
  rw [if_pos (.inr (.inr rfl))] at hex
  rw [hex] at he
  subst he
  refine ⟨0, fun _ => .inr rfl, ?_⟩
  rw [if_pos (by decide), if_neg (by decide), if_neg (by decide), if_pos (by decide), implSigned_e, Option.bind_some, implSigned_e, Option.bind_some]
  generalize r.getD d.toNat 0 = x
  generalize r.getD a.toNat 0 = y
  unfold takenM
  by_cases hxy : sg x < sg y <;> simp [hxy, ltI_eq]
 rw [if_neg (by simpa using h18)]
 rw [if_neg (c := op = 16 ∨ op = 17 ∨ op = 18) (by omega)] at hex
 by_cases h19 : op = 19
 ·subst h19
  rw [if_pos rfl] at hex
  rw [hex] at he
  subst he
  exact ⟨_, fun _ => .inl rfl, by rw [if_pos (by decide)]; rfl⟩
 rw [if_neg (by simpa using h19)]
 rw [if_neg h19] at hex
 by_cases h20 : op = 20
 ·subst h20
  rw [if_pos rfl] at hex
  rw [hex] at he
  subst he
  exact ⟨_, fun _ => .inl rfl, by rw [if_pos (by decide)]; rfl⟩
 rw [if_neg (by simpa using h20)]
 rw [if_neg h20] at hex
 by_cases h21 : op = 21
 ·subst h21
  rw [if_pos rfl] at hex
  rw [hex] at he
  subst he
  have hi10 := hi.i21 (.inl rfl)
  have hi0 := hi.hi
  exact ⟨_, fun _ => .inl rfl, by rw [if_pos (by decide), implGet_e hc ⟨hi0.1, hi10⟩, Option.bind_some]; rfl⟩
 rw [if_neg (by simpa using h21)]
 rw [if_neg h21] at hex
 by_cases h22 : op = 22
 ·subst h22
  rw [if_pos rfl] at hex
  rw [hex] at he
  subst he
  have hi10 := hi.i21 (.inr rfl)
  have hi0 := hi.hi
  exact ⟨0, fun _ => .inr rfl, by rw [if_pos (by decide), implSet_e hc ⟨hi0.1, hi10⟩, Option.bind_some]; rfl⟩
 rw [if_neg (by simpa using h22)]
 rw [if_neg h22] at hex
 by_cases h23 : op = 23
 ·subst h23
  rw [if_pos rfl] at hex
  rw [hex] at he
  subst he
  exact ⟨0, fun _ => .inr rfl, by rw [if_pos (by decide), implFail_e hc, Option.bind_some]; rfl⟩
 rw [if_neg (by simpa using h23)]
 rw [if_neg h23] at hex
 by_cases h24 : op = 24
 ·subst h24
  rw [if_pos rfl] at hex
  rw [hex] at he
  subst he
  exact ⟨0, fun _ => .inr rfl, by rw [if_pos (by decide), implBack_e hc, Option.bind_some]; rfl⟩
 rw [if_neg (by simpa using h24)]
 rw [if_neg h24] at hex
 by_cases h25 : op = 25
 ·subst h25
  rw [if_pos rfl] at hex
  rw [hex] at he
  subst he
  exact ⟨0, fun _ => .inr rfl, by rw [if_pos (by decide)]; rfl⟩
 rw [if_neg (by simpa using h25)]
 rw [if_neg h25] at hex
 by_cases h26 : op = 26
 ·subst h26
  rw [if_pos rfl] at hex
  rw [hex] at he
  subst he
  exact ⟨0, fun _ => .inr rfl, by rw [if_pos (by decide)]; rfl⟩
 rw [if_neg (by simpa using h26)]
 rw [if_neg h26] at hex
 have h1 := hi.hop
 have h11 : op ≤ 11 := by omega
 have hi15 := hi.i11 h11
 have hi0 := hi.hi
 have hii : 0 ≤ i ∧ i < ((r.length : Nat) : Int) := by rw [hr.len]; omega
 have hiN : i.toNat < r.length := by rw [hr.len]; omega
 rw [hex] at he
 subst he
 refine ⟨_, fun _ => .inl rfl, ?_⟩
 rw [if_pos hii, get_bind 0 hiN, implAlu_e op _ _ (hr.w (by omega)) (hr.w (by omega)) ⟨h1.1, h11⟩, Option.bind_some]
 rfl
/-- Behind an instruction one more is done. -/
def moreM (s : Mc) : Mc := { s with dn := if 1000000000 < s.dn + 1 then 1000000000 else s.dn + 1 }
theorem implWr_e (op : Int) : F_by (op, ()) = some ((wrD op, ()), ()) := by
 unfold F_by wrD
 dsimp only
 rw [within_eq, Option.bind_some, within_eq, Option.bind_some]
 dsimp only
 by_cases h1 : 1 ≤ op ∧ op ≤ 14
 ·rw [if_neg (by simp [h1]), decide_eq_true (.inl h1)]
 ·rw [if_pos (by simp; omega)]
  by_cases h2 : 19 ≤ op ∧ op ≤ 21
  ·rw [decide_eq_true (p := (1 ≤ op ∧ op ≤ 14) ∨ (19 ≤ op ∧ op ≤ 21)) (.inr h2)]; simp [h2]
  ·rw [decide_eq_false (p := (1 ≤ op ∧ op ≤ 14) ∨ (19 ≤ op ∧ op ≤ 21)) (by omega)]; simp; omega
theorem ite_P {α : Type} (P : α → Prop) {c : Prop} [Decidable c] {a b : α} (h1 : c → P a) (h2 : ¬ c → P b) : P (if c then a else b) := by
 by_cases h : c
 ·rw [if_pos h]; exact h1 h
 ·rw [if_neg h]; exact h2 h
theorem exM_r (s : Mc) (l : List TwoD) (op d a i : Int) : (exM s l op d a i).2.2.2.r = s.r ∧ (exM s l op d a i).2.2.2.dn = s.dn := by
 unfold exM Mc.trap
 let P : Bool × Int × Int × Mc → Prop := fun x => x.2.2.2.r = s.r ∧ x.2.2.2.dn = s.dn
 refine ite_P P (fun _ => ⟨rfl, rfl⟩) fun _ => ite_P P (fun _ => ⟨rfl, rfl⟩) fun _ => ite_P P (fun _ => ite_P P (fun _ => ⟨rfl, rfl⟩) fun _ => ite_P P (fun _ => ⟨rfl, rfl⟩) fun _ => ⟨rfl, rfl⟩) fun _ =>
  ite_P P (fun _ => ite_P P (fun _ => ⟨rfl, rfl⟩) fun _ => ite_P P (fun _ => ⟨rfl, rfl⟩) fun _ => ⟨rfl, rfl⟩) fun _ => ite_P P (fun _ => ⟨rfl, rfl⟩) fun _ => ite_P P (fun _ => ⟨rfl, rfl⟩) fun _ => ite_P P (fun _ => ⟨rfl, rfl⟩) fun _ =>
  ite_P P (fun _ => ⟨rfl, rfl⟩) fun _ => ite_P P (fun _ => ⟨rfl, rfl⟩) fun _ => ite_P P (fun _ => ⟨rfl, rfl⟩) fun _ => ite_P P (fun _ => ⟨rfl, rfl⟩) fun _ => ite_P P (fun _ => ⟨rfl, rfl⟩) fun _ => ite_P P (fun _ => ⟨rfl, rfl⟩) fun _ => ⟨rfl, rfl⟩
theorem implDo_e (h : OkS s l) {op d a i : Int} (hi : OkI op d a i) {e : Bool × Mc} (he : doM s l op d a i = e) : F_bz (s.core l, (op, d, a, i, ()), ()) =
  some ((e.1, ()), ((if e.1 = true then (moreM e.2).core l else e.2.core l), ())) := by
 have hd := hi.hd
 have ha' := hi.ha
 have hr := h.r
 obtain ⟨nx, hnx, hL⟩ := implEx_e h hi rfl
 have hrr := exM_r s l op d a i
 unfold F_bz
 dsimp only
 have e1 : (s.core l).2.1 = s.pc := rfl
 have e2 : (s.core l).1 = s.r := rfl
 rw [e1, e2, implAdd_e, Option.bind_some]
 dsimp only
 rw [implOff_e, Option.bind_some]
 dsimp only
 rw [implAdd_e, Option.bind_some]
 dsimp only
 have hid : 0 ≤ d ∧ d < ((s.r.length : Nat) : Int) := by rw [hr.len]; omega
 have hia : 0 ≤ a ∧ a < ((s.r.length : Nat) : Int) := by rw [hr.len]; omega
 rw [if_pos hid, get_bind 0 (by rw [hr.len]; omega), if_pos hia, get_bind 0 (by rw [hr.len]; omega), Option.bind_some]
 dsimp only
 rw [implAdd_e, Option.bind_some]
 dsimp only
 rw [hL, Option.bind_some]
 unfold doM at he
 dsimp only at he
 generalize exM s l op d a i = x at *
 obtain ⟨b, nxt, rs, s1⟩ := x
 cases b
 ·subst he; rfl
 ·simp only [if_true] at he ⊢
  subst he
  simp only at hrr hnx
  have hdn := h.d
  have hw : IntKind.i64.wrap (s1.dn + 1) = s1.dn + 1 := i64_same (by rw [hrr.2]; omega) (by rw [hrr.2]; omega)
  unfold Mc.core moreM
  dsimp only
  rw [implWr_e, Option.bind_some, hw]
  dsimp only
  have hid2 : 0 ≤ d ∧ d < ((s1.r.length : Nat) : Int) := by rw [hrr.1, hr.len]; omega
  by_cases hwd : wrD op = true
  ·have hx : nx = rs := by
    rcases hnx trivial with h | h
    ·exact h
    ·rw [h] at hwd; cases hwd
   subst hx
   rw [if_pos hwd]
   by_cases hd0 : 0 < d
   ·rw [if_pos (ltI_t.2 hd0), if_pos hid2, get_bind 0 (by rw [hrr.1, hr.len]; omega), if_pos (c := wrD op = true ∧ 0 < d) ⟨hwd, hd0⟩]; rfl
   ·rw [if_neg (by rw [ltI_t]; exact hd0), if_neg (c := wrD op = true ∧ 0 < d) (fun h => hd0 h.2)]; rfl
  ·rw [if_neg hwd, if_neg (c := wrD op = true ∧ 0 < d) (fun h => hwd h.1)]; rfl
/-- What is fetched, and done. -/
def runM (s : Mc) (l : List TwoD) : Mc :=
 if (placeM s.cs l s.m s.pc 4).2 ≠ 0 then s.trap 2 s.pc
 else
  let w := s.m.getD (placeM s.cs l s.m s.pc 4).1.toNat 0
  if decF w = 0 then (if (doM s l (decM w).1 (decM w).2.1 (decM w).2.2.1 (decM w).2.2.2.1).1 = true then moreM (doM s l (decM w).1 (decM w).2.1 (decM w).2.2.1 (decM w).2.2.2.1).2
   else (doM s l (decM w).1 (decM w).2.1 (decM w).2.2.1 (decM w).2.2.2.1).2) else s.trap 1 w
def stepM (s0 : Mc) (l : List TwoD) : Mc :=
 let s : Mc := { s0 with ring := -1, fall := -1 }
 if s.ha = true then s
 else if 0 ≤ dueM s.cs s.ru s.dn s.iq then s.trap (16 + dueM s.cs s.ru s.dn s.iq) 0
 else if s.wa = true then (if iand .i64 (pendM s.cs s.ru s.dn s.iq) (s.cs.getD 7 0) = 0 then s else runM { s with wa := false } l)
 else runM s l
theorem okI_dec {w : Int} (h : decF w = 0) : OkI (decM w).1 (decM w).2.1 (decM w).2.2.1 (decM w).2.2.2.1 := by
 obtain ⟨h1, h2, h3, h4, h5, h6⟩ := decF_ok h
 exact ⟨h1, h2, h3, h4, h5, h6⟩
theorem dueM_le (cs : List Int) (ru : Bool) (dn : Int) (iq : List Int) : -1 ≤ dueM cs ru dn iq ∧ dueM cs ru dn iq ≤ 2 := by
 unfold dueM; split
 ·omega
 ·exact lowB_le _
theorem specRun_e (h : OkS s l) {K : Option Unit} :
  ((F_cu ((l, s.m, s.ring, (s.r, s.pc, s.cs, s.ha, s.wa, s.ru, s.dn, s.iq, s.oq, ()), s.fall, ()), s.pc, (4 : Int), ())).bind fun r7 =>
    if (r7.1.2.1 != (0 : Int)) then
     (F_co (s.bus l, (2 : Int), s.pc, ())).bind fun r8 => some (((), (r8.2.1, ())) : Unit × BusD × Unit)
    else
     if 0 ≤ r7.1.1 ∧ r7.1.1 < ((s.m.length : Nat) : Int) then
      ((s.m)[(r7.1.1).toNat]?).bind fun y9 =>
      (F_cv (y9, ())).bind fun r10 =>
      if (!r10.1.2.1) then
       if 0 ≤ r7.1.1 ∧ r7.1.1 < ((s.m.length : Nat) : Int) then
        ((s.m)[(r7.1.1).toNat]?).bind fun y11 =>
        (F_co (s.bus l, (1 : Int), y11, ())).bind fun r12 => some ((), (r12.2.1, ()))
       else none
      else
       (F_dm (s.bus l, r10.1.1, ())).bind fun r13 =>
       if r13.1.1 then
        let v14 := (IntKind.i64.wrap (r13.2.1.2.2.2.2.2.2.2.2.2.1 + (1 : Int)))
        (F_dn ((1000000000 : Int), v14, ())).bind fun r15 =>
        some ((), ((r13.2.1.1, (r13.2.1.2.1, (r13.2.1.2.2.1, (r13.2.1.2.2.2.1, (r13.2.1.2.2.2.2.1, (r13.2.1.2.2.2.2.2.1, (r13.2.1.2.2.2.2.2.2.1, (r13.2.1.2.2.2.2.2.2.2.1, (r13.2.1.2.2.2.2.2.2.2.2.1, (r15.1.1, (r13.2.1.2.2.2.2.2.2.2.2.2.2.1, (r13.2.1.2.2.2.2.2.2.2.2.2.2.2.1, (r13.2.1.2.2.2.2.2.2.2.2.2.2.2.2.1, ()))))))))))))), ()))
       else some ((), (r13.2.1, ()))
     else none) = some ((), ((runM s l).bus l, ())) := by
 have hdo := fun {w : Int} (hw : decF w = 0) => specDo_e h (okI_dec hw) rfl
 have hdn := h.d
 rw [specPlace_e h.c h.l, Option.bind_some]
 dsimp only
 unfold runM
 have hin := placeM_in h.c h.l s.pc 4
 generalize placeM s.cs l s.m s.pc 4 = q at *
 by_cases h0 : q.2 = 0
 ·have hlt : 0 ≤ q.1 ∧ q.1 < ((s.m.length : Nat) : Int) := by
   rcases hin h0 with h | h
   ·exact absurd rfl h.2.2
   ·exact h
  have hN : q.1.toNat < s.m.length := by omega
  have hw : WW (s.m.getD q.1.toNat 0) := h.l.words _ (getD_mem hN)
  rw [if_neg (by simpa using h0), if_pos hlt, get_bind 0 hN, specDec_e hw, Option.bind_some, if_pos hlt, get_bind 0 hN, if_neg (c := q.2 ≠ 0) (by simpa using h0)]
  dsimp only
  generalize s.m.getD q.1.toNat 0 = w at *
  by_cases hd : decF w = 0
  ·rw [if_neg (by simp [hd]), if_pos hd]
   have hx := hdo hd
   have hrr := exM_r s l (decM w).1 (decM w).2.1 (decM w).2.2.1 (decM w).2.2.2.1
   have hdn2 : (doM s l (decM w).1 (decM w).2.1 (decM w).2.2.1 (decM w).2.2.2.1).2.dn = s.dn := by
    unfold doM; dsimp only; split <;> exact hrr.2
   have e1 : ((decM w).1, (decM w).2.1, (decM w).2.2.1, (decM w).2.2.2.1, ()) = decM w := rfl
   rw [e1] at hx
   rw [hx, Option.bind_some]
   dsimp only
   generalize doM s l (decM w).1 (decM w).2.1 (decM w).2.2.1 (decM w).2.2.2.1 = x at *
   obtain ⟨b, s1⟩ := x
   cases b
   ·rfl
   ·simp only at hdn2
    rw [if_pos rfl, if_pos rfl]
    unfold F_dn Mc.bus moreM
    dsimp only
    rw [hdn2, i64_same (by omega) (by omega)]
    by_cases hlt : 1000000000 < s.dn + 1
    ·rw [if_pos (ltI_t.2 hlt), if_pos hlt]; rfl
    ·rw [if_neg (by rw [ltI_t]; exact hlt), if_neg hlt]; rfl
  ·rw [if_pos (by simp [hd]), if_neg hd]
   unfold Mc.bus
   rw [specFall_e h.c, Option.bind_some]
   rfl
 ·rw [if_pos (by simpa using h0), if_pos (c := q.2 ≠ 0) h0]
  unfold Mc.bus
  rw [specFall_e h.c, Option.bind_some]
  rfl
theorem specStep_e (h : OkS s l) : F_do (s.bus l, ()) = some ((), ((stepM s l).bus l, ())) := by
 obtain ⟨r, pc, cs, ha, wa, ru, dn, iq, oq, m, ring, fall⟩ := s
 have h0 : OkS ⟨r, pc, cs, ha, wa, ru, dn, iq, oq, m, -1, -1⟩ l := ⟨h.r, h.pc, h.c, h.i, h.o, h.d, h.l⟩
 have h1 : OkS ⟨r, pc, cs, ha, false, ru, dn, iq, oq, m, -1, -1⟩ l := ⟨h.r, h.pc, h.c, h.i, h.o, h.d, h.l⟩
 have hc : OkC cs := h.c
 have hle := dueM_le cs ru dn iq
 generalize he : stepM ⟨r, pc, cs, ha, wa, ru, dn, iq, oq, m, ring, fall⟩ l = e
 unfold stepM at he
 unfold F_do
 dsimp only at he
 rw [show (Mc.bus ⟨r, pc, cs, ha, wa, ru, dn, iq, oq, m, ring, fall⟩ l) = (l, m, ring, r, pc, cs, ha, wa, ru, dn, iq, oq, fall, ()) from rfl]
 dsimp only
 cases ha
 ·rw [if_neg (by decide)] at he
  rw [if_neg (by decide), specDue_e hc, Option.bind_some]
  dsimp only
  by_cases hk : 0 ≤ dueM cs ru dn iq
  ·rw [if_pos hk] at he
   subst he
   rw [if_pos (leI_t.2 hk), i64_same (by omega) (by omega), specFall_e hc, Option.bind_some]
   rfl
  ·rw [if_neg hk] at he
   rw [if_neg (by rw [leI_t]; exact hk)]
   cases wa
   ·rw [if_neg (by decide)] at he
    subst he
    rw [if_neg (by decide)]
    exact specRun_e (K := none) h0
   ·rw [if_pos rfl] at he
    have h7 : (0 : Int) ≤ 7 ∧ (7 : Int) < ((cs.length : Nat) : Int) := by rw [hc.len]; decide
    rw [if_pos rfl, specPend_e hc, Option.bind_some]
    dsimp only
    rw [if_pos h7, get_bind 0 (by rw [hc.len]; decide)]
    simp only [show ((7 : Int)).toNat = 7 from rfl]
    by_cases hz : iand .i64 (pendM cs ru dn iq) (cs.getD 7 0) = 0
    ·rw [if_pos hz] at he
     subst he
     rw [if_pos (by simpa using hz)]
     rfl
    ·rw [if_neg hz] at he
     subst he
     rw [if_neg (by simpa using hz)]
     exact specRun_e (K := none) h1
 ·rw [if_pos rfl] at he
  subst he
  rw [if_pos rfl]
  rfl
theorem implRun_e (h : OkS s l) :
  ((F_be ((s.r, s.pc, s.cs, s.ha, s.wa, s.ru, s.dn, s.iq, s.oq, ()), l, s.m, s.pc, (4 : Int), ())).bind fun r14 =>
    if (r14.1.1.1 != (0 : Int)) then
     (F_av (s.core l, (2 : Int), s.pc, ())).bind fun r15 => some (((), (r15.2.1, ())) : Unit × CoreD × Unit)
    else
     if 0 ≤ r14.1.1.2.1 ∧ r14.1.1.2.1 < ((s.m.length : Nat) : Int) then
      ((s.m)[(r14.1.1.2.1).toNat]?).bind fun y16 =>
      (F_bg (y16, ())).bind fun r17 =>
      if (r17.1.1.1 != (0 : Int)) then
       if 0 ≤ r14.1.1.2.1 ∧ r14.1.1.2.1 < ((s.m.length : Nat) : Int) then
        ((s.m)[(r14.1.1.2.1).toNat]?).bind fun y18 =>
        (F_av (s.core l, (1 : Int), y18, ())).bind fun r19 => some ((), (r19.2.1, ()))
       else none
      else
       (F_bz (s.core l, r17.1.1.2.1, ())).bind fun r20 => some ((), (r20.2.1, ()))
     else none) = some ((), ((runM s l).core l, ())) := by
 have hdo := fun {w : Int} (hw : decF w = 0) => implDo_e h (okI_dec hw) rfl
 rw [implPlace_e h.c h.l _ (.inr (.inr rfl)), Option.bind_some]
 dsimp only
 unfold runM
 have hin := placeM_in h.c h.l s.pc 4
 generalize placeM s.cs l s.m s.pc 4 = q at *
 by_cases h0 : q.2 = 0
 ·have hlt : 0 ≤ q.1 ∧ q.1 < ((s.m.length : Nat) : Int) := by
   rcases hin h0 with h | h
   ·exact absurd rfl h.2.2
   ·exact h
  have hN : q.1.toNat < s.m.length := by omega
  have hw : WW (s.m.getD q.1.toNat 0) := h.l.words _ (getD_mem hN)
  rw [if_neg (by simpa using h0), if_pos hlt, get_bind 0 hN, implDec_e hw, Option.bind_some, if_pos hlt, get_bind 0 hN, if_neg (c := q.2 ≠ 0) (by simpa using h0)]
  dsimp only
  generalize s.m.getD q.1.toNat 0 = w at *
  by_cases hd : decF w = 0
  ·rw [if_pos hd, if_pos hd]
   dsimp only
   rw [if_neg (by decide)]
   have hx := hdo hd
   have e1 : ((decM w).1, (decM w).2.1, (decM w).2.2.1, (decM w).2.2.2.1, ()) = decM w := rfl
   rw [e1] at hx
   rw [hx, Option.bind_some]
   generalize doM s l (decM w).1 (decM w).2.1 (decM w).2.2.1 (decM w).2.2.2.1 = x at *
   obtain ⟨b, s1⟩ := x
   cases b <;> rfl
  ·rw [if_neg hd, if_neg hd]
   dsimp only
   rw [if_pos (by decide)]
   unfold Mc.core
   rw [implFail_e h.c, Option.bind_some]
   rfl
 ·rw [if_pos (by simpa using h0), if_pos (c := q.2 ≠ 0) h0]
  unfold Mc.core
  rw [implFail_e h.c, Option.bind_some]
  rfl
theorem implStep_e (h : OkS s l) : F_ca (s.core l, ()) = some ((), ((stepM s l).core l, ())) := by
 obtain ⟨r, pc, cs, ha, wa, ru, dn, iq, oq, m, ring, fall⟩ := s
 have h0 : OkS ⟨r, pc, cs, ha, wa, ru, dn, iq, oq, m, -1, -1⟩ l := ⟨h.r, h.pc, h.c, h.i, h.o, h.d, h.l⟩
 have h1 : OkS ⟨r, pc, cs, ha, false, ru, dn, iq, oq, m, -1, -1⟩ l := ⟨h.r, h.pc, h.c, h.i, h.o, h.d, h.l⟩
 have hc : OkC cs := h.c
 have hle := dueM_le cs ru dn iq
 generalize he : stepM ⟨r, pc, cs, ha, wa, ru, dn, iq, oq, m, ring, fall⟩ l = e
 unfold stepM at he
 unfold F_ca
 dsimp only at he
 rw [show (Mc.core ⟨r, pc, cs, ha, wa, ru, dn, iq, oq, m, ring, fall⟩ l) = (r, pc, cs, ha, wa, ru, dn, iq, oq, l, m, fall, ring, ()) from rfl]
 dsimp only
 cases ha
 ·rw [if_neg (by decide)] at he
  rw [if_neg (by decide), implDue_e hc, Option.bind_some]
  dsimp only
  by_cases hk : 0 ≤ dueM cs ru dn iq
  ·rw [if_pos hk] at he
   subst he
   rw [if_pos (leI_t.2 hk), i64_same (by omega) (by omega), implFail_e hc, Option.bind_some]
   rfl
  ·rw [if_neg hk] at he
   rw [if_neg (by rw [leI_t]; exact hk)]
   cases wa
   ·rw [if_neg (by decide)] at he
    subst he
    rw [if_neg (by decide)]
    exact implRun_e h0
   ·rw [if_pos rfl] at he
    have h7 : (0 : Int) ≤ 7 ∧ (7 : Int) < ((cs.length : Nat) : Int) := by rw [hc.len]; decide
    rw [if_pos rfl, implPend_e hc, Option.bind_some]
    dsimp only
    rw [if_pos h7, get_bind 0 (by rw [hc.len]; decide)]
    simp only [show ((7 : Int)).toNat = 7 from rfl]
    by_cases hz : iand .i64 (pendM cs ru dn iq) (cs.getD 7 0) = 0
    ·rw [if_pos hz] at he
     subst he
     rw [if_pos (by simpa using hz)]
     rfl
    ·rw [if_neg hz] at he
     subst he
     rw [if_neg (by simpa using hz)]
     exact implRun_e h1
 ·rw [if_pos rfl] at he
  subst he
  rw [if_pos rfl]
  rfl
theorem exM_ok (h : OkS s l) {op d a i : Int} (hi : OkI op d a i) : OkS (exM s l op d a i).2.2.2 l ∧ WW (exM s l op d a i).2.2.1 ∧ ((exM s l op d a i).1 = true → WW (exM s l op d a i).2.1) := by
 have hp : ∀ x y, WW (addW x y) := addW_word
 have h0 : WW 0 := by unfold WW; omega
 have hd := hi.hd
 have ha := hi.ha
 have hii := hi.hi
 have hra := h.r.w (k := a.toNat) (by omega)
 have hrd := h.r.w (k := d.toNat) (by omega)
 unfold exM
 let P : Bool × Int × Int × Mc → Prop := fun x => OkS x.2.2.2 l ∧ WW x.2.2.1 ∧ (x.1 = true → WW x.2.1)
 refine ite_P P (fun _ => ⟨h, hp _ _, fun _ => hp _ _⟩) fun _ => ite_P P (fun _ => ⟨h, by unfold WW; dsimp only; omega, fun _ => hp _ _⟩) fun _ => ite_P P (fun _ => ?_) fun _ => ite_P P (fun _ => ?_) fun _ =>
  ite_P P (fun _ => ⟨h, h0, fun _ => ite_P WW (fun _ => hp _ _) fun _ => hp _ _⟩) fun _ => ite_P P (fun _ => ⟨h, hp _ _, fun _ => hp _ _⟩) fun _ => ite_P P (fun _ => ⟨h, hp _ _, fun _ => hp _ _⟩) fun _ =>
  ite_P P (fun h21 => ⟨h, getM_word h.c ⟨hii.1, hi.i21 (.inl h21)⟩ h.d, fun _ => hp _ _⟩) fun _ => ite_P P (fun h22 => ⟨⟨h.r, h.pc, setC_ok h.c ⟨hii.1, hi.i21 (.inr h22)⟩, h.i, h.o, h.d, h.l⟩, h0, fun _ => hp _ _⟩) fun _ =>
  ite_P P (fun _ => ⟨trap_ok h (by unfold WW; omega) h0, h0, fun _ => h0⟩) fun _ => ite_P P (fun _ => ⟨⟨h.r, h.c.w (by decide), backC_ok h.c, h.i, h.o, h.d, h.l⟩, h0, fun _ => h.c.w (by decide)⟩) fun _ =>
  ite_P P (fun _ => ⟨⟨h.r, h.pc, h.c, h.i, h.o, h.d, h.l⟩, h0, fun _ => hp _ _⟩) fun _ => ite_P P (fun _ => ⟨⟨h.r, h.pc, h.c, h.i, h.o, h.d, h.l⟩, h0, fun _ => h.pc⟩) fun _ => ⟨h, aluW_word _ _ _, fun _ => hp _ _⟩
 ·have hin := placeM_in h.c h.l (addW (s.r.getD a.toNat 0) (off i)) 1
  refine ite_P P (fun _ => ⟨trap_ok h (by unfold WW; omega) (hp _ _), h0, fun _ => h0⟩) fun hq0 => ite_P P (fun _ => ?_) fun hq => ⟨h, ?_, fun _ => hp _ _⟩
  ·have := readM_ok (ru := s.ru) h.c h.i h.d ((placeM s.cs l s.m (addW (s.r.getD a.toNat 0) (off i)) 1).1 - 1000)
   exact ⟨⟨h.r, h.pc, h.c, this.2, h.o, h.d, h.l⟩, this.1, fun _ => hp _ _⟩
  ·have hlt : 0 ≤ (placeM s.cs l s.m (addW (s.r.getD a.toNat 0) (off i)) 1).1 ∧ (placeM s.cs l s.m (addW (s.r.getD a.toNat 0) (off i)) 1).1 < (s.m.length : Int) := by
    rcases hin (by simpa using hq0) with h | h
    ·exact absurd h.1 hq
    ·exact h
   exact h.l.words _ (getD_mem (by omega))
 ·refine ite_P P (fun _ => ⟨trap_ok h (by unfold WW; omega) (hp _ _), h0, fun _ => h0⟩) fun hq0 => ite_P P (fun _ => ?_) fun hq => ?_
  ·exact ⟨⟨h.r, h.pc, wrC_ok h.c _ _, h.i, wrO_ok h.o _ _, h.d, h.l⟩, h0, fun _ => hp _ _⟩
  ·refine ⟨⟨h.r, h.pc, h.c, h.i, h.o, h.d, ⟨h.l.len, fun p hpm => ?_, fun w hw => ?_, ?_⟩⟩, h0, fun _ => hp _ _⟩
   ·have := h.l.pgs p hpm
    dsimp only
    rw [List.length_set]
    exact this
   ·rcases List.mem_or_eq_of_mem_set hw with hw | rfl
    ·exact h.l.words w hw
    ·exact hrd
   ·dsimp only
    rw [List.length_set]
    exact h.l.mlen
theorem OkR.set {r : List Int} (h : OkR r) {k : Nat} {w : Int} (hk : 0 < k) (hw : WW w) : OkR (r.set k w) :=
 ⟨by rw [List.length_set]; exact h.len, fun z hz => by
  rcases List.mem_or_eq_of_mem_set hz with hz | rfl
  ·exact h.words z hz
  ·exact hw, by rw [getD_set_ne (by omega)]; exact h.zero⟩
theorem doM_ok (h : OkS s l) {op d a i : Int} (hi : OkI op d a i) : OkS (doM s l op d a i).2 l := by
 have he := exM_ok h hi
 unfold doM
 dsimp only
 refine ite_P (fun x : Bool × Mc => OkS x.2 l) (fun hb => ?_) fun _ => he.1
 refine ⟨?_, he.2.2 hb, he.1.c, he.1.i, he.1.o, he.1.d, he.1.l⟩
 refine ite_P OkR (fun hd => he.1.r.set (by omega) he.2.1) fun _ => he.1.r
theorem moreM_ok (h : OkS s l) : OkS (moreM s) l := by
 have := h.d
 refine ⟨h.r, h.pc, h.c, h.i, h.o, ?_, h.l⟩
 unfold moreM
 dsimp only
 split <;> omega
theorem runM_ok (h : OkS s l) : OkS (runM s l) l := by
 unfold runM
 have hin := placeM_in h.c h.l s.pc 4
 refine ite_P (fun x => OkS x l) (fun _ => trap_ok h (by unfold WW; omega) h.pc) fun hq0 => ?_
 have hlt : 0 ≤ (placeM s.cs l s.m s.pc 4).1 ∧ (placeM s.cs l s.m s.pc 4).1 < (s.m.length : Int) := by
  rcases hin (by simpa using hq0) with h | h
  ·exact absurd rfl h.2.2
  ·exact h
 have hw : WW (s.m.getD (placeM s.cs l s.m s.pc 4).1.toNat 0) := h.l.words _ (getD_mem (by omega))
 refine ite_P (fun x => OkS x l) (fun hd => ?_) fun _ => trap_ok h (by unfold WW; omega) hw
 exact ite_P (fun x => OkS x l) (fun _ => moreM_ok (doM_ok h (okI_dec hd))) fun _ => doM_ok h (okI_dec hd)
theorem stepM_ok (h : OkS s l) : OkS (stepM s l) l := by
 have h0 : OkS { s with ring := -1, fall := -1 } l := ⟨h.r, h.pc, h.c, h.i, h.o, h.d, h.l⟩
 have h1 : OkS { s with ring := -1, fall := -1, wa := false } l := ⟨h.r, h.pc, h.c, h.i, h.o, h.d, h.l⟩
 have hle := dueM_le s.cs s.ru s.dn s.iq
 unfold stepM
 refine ite_P (fun x => OkS x l) (fun _ => h0) fun _ => ite_P (fun x => OkS x l) (fun hk => trap_ok h0 ?_ (by unfold WW; omega)) fun _ => ite_P (fun x => OkS x l) (fun _ => ite_P (fun x => OkS x l) (fun _ => h0) fun _ => runM_ok h1) fun _ => runM_ok h0
 unfold WW
 dsimp only at *
 omega
end
def outL (l : List TwoD) (m : List Int) : Bool := l.any fun p => decide ((m.length : Int) < (p.1 + 1) * 8)
def askS (h : HartD) (l : List TwoD) (m : List Int) : Int :=
 if hartM h ≠ 0 then hartM h else if pagesM l 24 ≠ 0 then pagesM l 24 else if memFault m ≠ 0 then 1 else if outL l m = true then 1 else 0
theorem scanN_none {α β : Type} {f : Nat → α → Option β} : ∀ {m : List α} {i : Nat}, scan f i m = none → ∀ x ∈ m, ∃ j, f j x = none
 | [], _, _, _, hx => by cases hx
 | y :: r, i, h, x, hx => by
  simp only [scan] at h
  split at h
  ·cases h
  ·rename_i hn
   rcases List.mem_cons.1 hx with rfl | hx
   ·exact ⟨_, hn⟩
   ·exact scanN_none h x hx
theorem pagesM_top {l : List TwoD} {top : Int} (ht : 1 ≤ top ∧ top ≤ 24) (h : pagesM l top = 0) : l.length = 8 ∧ ∀ p ∈ l, (-1 ≤ p.1 ∧ p.1 ≤ top - 1) ∧ (0 ≤ p.2.1 ∧ p.2.1 ≤ 7) := by
 unfold pagesM at h
 rw [if_pos (by unfold inB; simp [ht.1, ht.2])] at h
 split at h
 ·rename_i hl
  refine ⟨hl, fun p hp => ?_⟩
  have key : scan (fun (_ : Nat) p => pageF top p) 0 l = none := by
   split at h
   ·rename_i c hc
    exfalso
    have : ∀ {l : List TwoD} {i : Nat} {c : Int}, scan (fun (_ : Nat) p => pageF top p) i l = some c → c ≠ 0 := by
     intro l
     induction l with
     | nil => intro i c h; simp [scan] at h
     | cons y r ih =>
      intro i c h
      simp only [scan] at h
      split at h
      ·rename_i c' hc'
       obtain rfl := Option.some.inj h
       unfold pageF nz at hc'
       intro e
       subst e
       repeat' split at hc'
       all_goals first | (cases hc'; done) | simp_all
      ·exact ih h
    exact this hc h
   ·rename_i hn; exact hn
  obtain ⟨j, hj⟩ := scanN_none key p hp
  unfold pageF inB at hj
  split at hj
  ·rename_i h1
   split at hj
   ·rename_i h2
    simp only [Bool.and_eq_true, decide_eq_true_eq] at h1 h2
    omega
   ·cases hj
  ·cases hj
 ·omega
theorem pagesM_ok {l : List TwoD} (h : pagesM l 24 = 0) : l.length = 8 ∧ ∀ p ∈ l, (-1 ≤ p.1 ∧ p.1 ≤ 23) ∧ (0 ≤ p.2.1 ∧ p.2.1 ≤ 7) := pagesM_top (by decide) h
theorem okL_of {l : List TwoD} {m : List Int} (h1 : pagesM l 24 = 0) (h2 : memFault m = 0) (h3 : outL l m = false) : OkL l m := by
 obtain ⟨hl, hp⟩ := pagesM_ok h1
 have hm := memFault_zero h2
 refine ⟨hl, fun p hpm => ⟨(hp p hpm).1, (hp p hpm).2, ?_⟩, ?_, hm.2.2⟩
 ·have : decide ((m.length : Int) < (p.1 + 1) * 8) = false := by
   unfold outL at h3
   rw [List.any_eq_false] at h3
   simpa using h3 p hpm
  rw [decide_eq_false_iff_not] at this
  omega
 ·unfold memFault at h2
  rw [if_pos hm] at h2
  split at h2
  ·exact allW_iff.1 ‹_›
  ·omega
def Mc.of (h : HartD) (m : List Int) : Mc := ⟨h.1, h.2.1, h.2.2.1, h.2.2.2.1, h.2.2.2.2.1, h.2.2.2.2.2.1, h.2.2.2.2.2.2.1, h.2.2.2.2.2.2.2.1, h.2.2.2.2.2.2.2.2.1, m, -1, -1⟩
theorem okS_h {h : HartD} {l : List TwoD} {m : List Int} (h1 : hartM h = 0) (hL : OkL l m) : OkS (Mc.of h m) l := by
 unfold hartM at h1
 split at h1
 ·rename_i c1
  split at h1
  ·rename_i c2
   split at h1
   ·rename_i c3
    split at h1
    ·rename_i c4
     split at h1
     ·rename_i c5
      simp only [inB, Bool.and_eq_true, decide_eq_true_eq] at c4
      exact ⟨⟨c1.1, allW_iff.1 c2.1, c1.2.2⟩, okW_iff.1 c2.2.1, ⟨c1.2.1, allW_iff.1 c2.2.2.1, c5.1, c5.2.1, c5.2.2.1, c5.2.2.2.1, c5.2.2.2.2⟩, ⟨c3.1, allW_iff.1 c2.2.2.2.1⟩, ⟨c3.2, allW_iff.1 c2.2.2.2.2⟩, c4, hL⟩
     ·omega
    ·omega
   ·omega
  ·omega
 ·omega
theorem okS_of {h : HartD} {l : List TwoD} {m : List Int} (ha : askS h l m = 0) : OkS (Mc.of h m) l := by
 unfold askS at ha
 split at ha
 ·exact absurd ha ‹_›
 rename_i h1
 split at ha
 ·exact absurd ha ‹_›
 rename_i h2
 split at ha
 ·omega
 rename_i h3
 split at ha
 ·omega
 rename_i h4
 exact okS_h (by simpa using h1) (okL_of (m := m) (by simpa using h2) (by simpa using h3) (by simpa using h4))
theorem specAsk_e (h : HartD) (l : List TwoD) (m : List Int) (hh : hartLe 1048576 h) (hl : l.length ≤ 1048576) (hm : m.length ≤ 1048576) : F_ch (h, l, m, ()) = some ((askS h l m, ()), ()) := by
 unfold F_ch askS
 dsimp only
 rw [specHart_eq h hh, Option.bind_some]
 dsimp only
 by_cases h1 : hartM h = 0
 ·rw [if_neg (by simpa using h1), if_neg (c := hartM h ≠ 0) (by simpa using h1), specPagesF_eq l 24 hl, Option.bind_some]
  dsimp only
  by_cases h2 : pagesM l 24 = 0
  ·rw [if_neg (by simpa using h2), if_neg (c := pagesM l 24 ≠ 0) (by simpa using h2), specFault_eq m (leM hm), Option.bind_some]
   dsimp only
   by_cases h3 : memFault m = 0
   ·rw [if_neg (by simpa using h3), if_neg (c := memFault m ≠ 0) (by simpa using h3)]
    obtain ⟨hl8, hp⟩ := pagesM_ok h2
    have key := scan_loop (step := l_ch_10) (γ := denO o_ch_10) (fun i => ((l, m, ((i : Nat) : Int), ()), (), ())) l (fun (_ : Nat) p => if (m.length : Int) < (p.1 + 1) * 8 then some (1 : Int) else none) (fun c => some (.inr (.inl ((c, ()), (), ())))) (some (.inl ((), (), ()))) (by omega) ?_ ?_
    ·show (iterF l_ch_10 lots ((l, m, 0, ()), (), ())).bind _ = _
     rw [show (0 : Int) = ((0 : Nat) : Int) from rfl, key]
     have hs : (scan (fun (_ : Nat) (p : TwoD) => if (m.length : Int) < (p.1 + 1) * 8 then some (1 : Int) else none) 0 l).isSome = outL l m := by
      unfold outL
      refine scan_any fun j hj => ?_
      by_cases hc : (m.length : Int) < (l[j].1 + 1) * 8 <;> simp [hc]
     have h1 : ∀ {l : List TwoD} {i : Nat} {c : Int}, scan (fun (_ : Nat) (p : TwoD) => if (m.length : Int) < (p.1 + 1) * 8 then some (1 : Int) else none) i l = some c → c = 1 := by
      intro l
      induction l with
      | nil => intro i c h; simp [scan] at h
      | cons y r ih =>
       intro i c h
       simp only [scan] at h
       split at h
       ·rename_i c' hc'
        obtain rfl := Option.some.inj h
        split at hc'
        ·exact (Option.some.inj hc').symm
        ·cases hc'
       ·exact ih h
     cases hsc : scan (fun (_ : Nat) (p : TwoD) => if (m.length : Int) < (p.1 + 1) * 8 then some (1 : Int) else none) 0 l with
     | none =>
      rw [hsc] at hs
      rw [← hs]
      rfl
     | some c =>
      rw [hsc] at hs
      rw [← hs, h1 hsc]
      rfl
    ·intro rec i hi
     unfold l_ch_10
     dsimp only
     have hpi := (hp _ (List.getElem_mem hi)).1
     rw [if_pos (lt_t hi), if_pos nat0, at_get hi, i64_same (n := l[i].1 + 1) (by omega) (by omega), i64_same (n := (l[i].1 + 1) * 8) (by omega) (by omega), wrapS (by omega)]
     by_cases hc : (m.length : Int) < (l[i].1 + 1) * 8
     ·rw [if_pos (ltI_t.2 hc), if_pos hc]
     ·rw [if_neg (by rw [ltI_t]; exact hc), if_neg hc]
    ·intro rec
     unfold l_ch_10
     dsimp only
     rw [if_neg lt_same]
   ·rw [if_pos (by simpa using h3), if_pos (c := memFault m ≠ 0) h3]
  ·rw [if_pos (by simpa using h2), if_pos (c := pagesM l 24 ≠ 0) h2]
 ·rw [if_pos (by simpa using h1), if_pos (c := hartM h ≠ 0) h1]
theorem implOut_e (l : List TwoD) (n : Int) (hl : l.length ≤ 1048576) : F_ao_1 (l, (n, ()), ()) = some ((l.any fun p => decide (n ≤ p.1), ()), ()) := by
 have key := scan_loop (step := l_an_2) (γ := denO o_an_2) (fun i => ((l, (n, ()), ((l.length : Nat) : Int), ((i : Nat) : Int), ()), (), ())) l (fun (i : Nat) p => if n ≤ p.1 then some ((i : Nat) : Int) else none)
  (fun c => some (.inr (.inl ((c, ()), (), ())))) (some (.inl ((), (), ()))) (by omega) ?_ ?_
 ·unfold F_ao_1 F_am_1
  dsimp only
  show (Option.bind ((iterF l_an_2 lots ((l, (n, ()), ((l.length : Nat) : Int), 0, ()), (), ())).bind _) _) = _
  rw [show (0 : Int) = ((0 : Nat) : Int) from rfl, key]
  have hs : (scan (fun (i : Nat) (p : TwoD) => if n ≤ p.1 then some ((i : Nat) : Int) else none) 0 l).isSome = l.any fun p => decide (n ≤ p.1) := by
   refine scan_any fun j hj => ?_
   by_cases hc : n ≤ l[j].1 <;> simp [hc]
  have h1 : ∀ {l : List TwoD} {i : Nat} {c : Int}, scan (fun (i : Nat) (p : TwoD) => if n ≤ p.1 then some ((i : Nat) : Int) else none) i l = some c → 0 ≤ c := by
   intro l
   induction l with
   | nil => intro i c h; simp [scan] at h
   | cons y r ih =>
    intro i c h
    simp only [scan] at h
    split at h
    ·rename_i c' hc'
     obtain rfl := Option.some.inj h
     split at hc'
     ·have := Option.some.inj hc'; omega
     ·cases hc'
    ·exact ih h
  cases hsc : scan (fun (i : Nat) (p : TwoD) => if n ≤ p.1 then some ((i : Nat) : Int) else none) 0 l with
  | none =>
   rw [hsc] at hs
   rw [← hs]
   rfl
  | some c =>
   rw [hsc] at hs
   rw [← hs]
   show some ((leI 0 c, ()), ()) = _
   rw [leI_t.2 (h1 hsc)]
   rfl
 ·intro rec i hi
  unfold l_an_2 F_al_1
  dsimp only
  rw [if_pos (lt_t hi), if_pos nat0, at_get hi, Option.bind_some, wrapS (by omega)]
  by_cases hc : n ≤ l[i].1
  ·rw [if_pos (leI_t.2 hc), if_pos hc]
  ·rw [if_neg (by rw [leI_t]; exact hc), if_neg hc]
 ·intro rec
  unfold l_an_2
  dsimp only
  rw [if_neg lt_same]
theorem implAsk_e (h : HartD) (l : List TwoD) (m : List Int) (hh : hartLe 1048576 h) (hl : l.length ≤ 1048576) (hm : m.length ≤ 1048576) : F_al (h, l, m, ()) = some ((askS h l m, ()), ()) := by
 unfold F_al askS
 dsimp only
 rw [implHart_eq h hh, Option.bind_some, implPagesF_eq l 24 hl, Option.bind_some, firstOf_eq, Option.bind_some]
 dsimp only
 by_cases h1 : hartM h = 0
 ·rw [if_neg (c := hartM h ≠ 0) (by simpa using h1), if_neg (c := hartM h ≠ 0) (by simpa using h1)]
  by_cases h2 : pagesM l 24 = 0
  ·rw [if_neg (by simpa using h2), if_neg (c := pagesM l 24 ≠ 0) (by simpa using h2), implFault_eq m (leM hm), Option.bind_some, implOut_e l _ hl, Option.bind_some]
   dsimp only
   by_cases h3 : memFault m = 0
   ·rw [if_pos (by simpa using h3), if_neg (c := memFault m ≠ 0) (by simpa using h3)]
    have hmm := memFault_zero h3
    have e : (l.any fun p => decide (IntKind.i64.wrap (((m.length : Nat) : Int).tdiv 8) ≤ p.1)) = outL l m := by
     rw [Int.tdiv_eq_ediv_of_nonneg nat0, i64_same (by omega) (by omega)]
     unfold outL
     congr 1
     funext p
     rw [decide_eq_decide]
     omega
    rw [e]
    cases outL l m <;> rfl
   ·rw [if_neg (by simpa using h3), if_pos (c := memFault m ≠ 0) h3]
  ·rw [if_pos (by simpa using h2), if_pos (c := pagesM l 24 ≠ 0) h2]
 ·rw [if_pos (c := hartM h ≠ 0) h1, if_pos (by simpa using h1), if_pos (c := hartM h ≠ 0) h1]
theorem specCopy_e (h : HartD) (hh : hartLe 1048576 h) : F_cj (h, ()) = some ((h, ()), ()) := by
 obtain ⟨h1, h2, h3, h4⟩ := hh
 unfold F_cj
 dsimp only
 rw [if_pos (by simp; omega), if_pos (by simp; omega), if_pos (by simp; omega), if_pos (by simp; omega)]
 rfl
theorem implOwn_e (h : HartD) (hh : hartLe 1048576 h) : F_aq (h, ()) = some ((h, ()), ()) := by
 obtain ⟨h1, h2, h3, h4⟩ := hh
 unfold F_aq
 dsimp only
 rw [clone_e h1, Option.bind_some, clone_e h2, Option.bind_some, clone_e h3, Option.bind_some, clone_e h4, Option.bind_some]
theorem specNew_e (h : HartD) (l : List TwoD) (m : List Int) (hh : hartLe 1048576 h) (hm : m.length ≤ 1048576) : F_ck (h, l, m, ()) = some (((Mc.of h m).bus l, ()), ()) := by
 unfold F_ck F_ci
 dsimp only
 rw [if_pos (by simp; omega), Option.bind_some, specCopy_e h hh, Option.bind_some]
 rfl
def manyM (l : List TwoD) : Nat → Int → Int → Mc → Int × Int × Mc
 | 0, c, g, s => (c, g, s)
 | k + 1, c, g, s => manyM l k (if 0 ≤ (stepM s l).fall then (stepM s l).fall else c) (if 0 ≤ (stepM s l).ring then (stepM s l).ring else g) (stepM s l)
abbrev StepR := Int × Int × Int × List Int × Int × List Int × Bool × Bool × Bool × Int × List Int × List Int × List Int × Unit
def zeroS (c : Int) : StepR := (c, 0, 0, [], 0, [], false, false, false, 0, [], [], [], ())
def Mc.res (s : Mc) (c g : Int) : StepR := (0, c, g, s.r, s.pc, s.cs, s.ha, s.wa, s.ru, s.dn, s.iq, s.oq, s.m, ())
def manyS (h : HartD) (l : List TwoD) (m : List Int) (n : Int) : StepR :=
 if askS h l m ≠ 0 then zeroS (askS h l m) else if 0 ≤ n ∧ n ≤ 500 then (manyM l n.toNat (-1) (-1) (Mc.of h m)).2.2.res (manyM l n.toNat (-1) (-1) (Mc.of h m)).1 (manyM l n.toNat (-1) (-1) (Mc.of h m)).2.1 else zeroS 3
theorem implMany_loop (l : List TwoD) (n : Int) (h0 : 0 ≤ n ∧ n ≤ 500) (s0 : Mc) (h : OkS s0 l) : ∀ (i : Nat) (x : Int × Int × Mc), i ≤ n.toNat → OkS x.2.2 l →
  iterF l_cb_4 lots (((), (), x.1, x.2.1, n, ((i : Nat) : Int), ()), (zeroS 0, x.2.2.core l, ()), ()) =
   some (.inl (((), (), (manyM l (n.toNat - i) x.1 x.2.1 x.2.2).1, (manyM l (n.toNat - i) x.1 x.2.1 x.2.2).2.1, ()), (zeroS 0, (manyM l (n.toNat - i) x.1 x.2.1 x.2.2).2.2.core l, ()), ())) := by
 have key := loopN (step := l_cb_4) (γ := denO o_cb_4) (fun i (x : Int × Int × Mc) => (((), (), x.1, x.2.1, n, ((i : Nat) : Int), ()), (zeroS 0, x.2.2.core l, ()), ())) n.toNat (lots_gt' (by omega)) (fun _ x => OkS x.2.2 l)
  (fun i x => some (.inl (((), (), (manyM l (n.toNat - i) x.1 x.2.1 x.2.2).1, (manyM l (n.toNat - i) x.1 x.2.1 x.2.2).2.1, ()), (zeroS 0, (manyM l (n.toNat - i) x.1 x.2.1 x.2.2).2.2.core l, ()), ()))) ?_
 ·exact key
 ·rintro rec i ⟨c, g, s⟩ hi hok ih
  unfold l_cb_4
  dsimp only at *
  by_cases hlt : i < n.toNat
  ·rw [if_pos (ltI_t.2 (by omega)), implStep_e hok, Option.bind_some]
   have e1 : n.toNat - i = n.toNat - (i + 1) + 1 := by omega
   have ih2 := ih (if 0 ≤ (stepM s l).fall then (stepM s l).fall else c, if 0 ≤ (stepM s l).ring then (stepM s l).ring else g, stepM s l) hlt (stepM_ok hok)
   dsimp only
   rw [wrapS (by omega), e1]
   simp only [manyM]
   rw [← ih2]
   unfold Mc.core
   dsimp only
   by_cases hf : 0 ≤ (stepM s l).fall
   ·rw [if_pos (leI_t.2 hf), if_pos hf]
    by_cases hg : 0 ≤ (stepM s l).ring
    ·rw [if_pos (leI_t.2 hg), if_pos hg]
    ·rw [if_neg (by rw [leI_t]; exact hg), if_neg hg]
   ·rw [if_neg (by rw [leI_t]; exact hf), if_neg hf]
    by_cases hg : 0 ≤ (stepM s l).ring
    ·rw [if_pos (leI_t.2 hg), if_pos hg]
    ·rw [if_neg (by rw [leI_t]; exact hg), if_neg hg]
  ·have : i = n.toNat := by omega
   subst this
   rw [if_neg (by rw [ltI_t]; omega), Nat.sub_self]
   rfl
theorem many_start (l : List TwoD) (a b : Int) (s : Mc) : ∀ (k : Nat) (c g : Int), (manyM l k c g { s with ring := a, fall := b }).1 = (manyM l k c g s).1 ∧ (manyM l k c g { s with ring := a, fall := b }).2.1 = (manyM l k c g s).2.1 ∧
  ∀ x y, (manyM l k c g { s with ring := a, fall := b }).2.2.res x y = (manyM l k c g s).2.2.res x y
 | 0, _, _ => ⟨rfl, rfl, fun _ _ => rfl⟩
 | k + 1, _, _ => ⟨rfl, rfl, fun _ _ => rfl⟩
theorem implStepped_e (h : HartD) (l : List TwoD) (m : List Int) (n : Int) (hh : hartLe 1048576 h) (hm : m.length ≤ 1048576) (ho : OkS (Mc.of h m) l) (hn : 0 ≤ n ∧ n ≤ 500) : F_cb (h, l, m, n, ()) =
  some (((manyM l n.toNat (-1) (-1) (Mc.of h m)).2.2.res (manyM l n.toNat (-1) (-1) (Mc.of h m)).1 (manyM l n.toNat (-1) (-1) (Mc.of h m)).2.1, ()), ()) := by
 have ho2 : OkS { Mc.of h m with ring := 0, fall := 0 } l := ⟨ho.r, ho.pc, ho.c, ho.i, ho.o, ho.d, ho.l⟩
 have key := implMany_loop l n hn _ ho2 0 (-1, -1, { Mc.of h m with ring := 0, fall := 0 }) (by omega) ho2
 obtain ⟨q1, q2, q3⟩ := many_start l 0 0 (Mc.of h m) n.toNat (-1) (-1)
 unfold F_cb
 dsimp only
 rw [implOwn_e h hh, Option.bind_some, clone_e hm, Option.bind_some]
 show (iterF l_cb_4 lots (((), (), (-1), (-1), n, (((0 : Nat) : Nat) : Int), ()), (zeroS 0, Mc.core { Mc.of h m with ring := 0, fall := 0 } l, ()), ())).bind _ = _
 rw [key, ← q1, ← q2, ← q3]
 rfl
theorem implMany_e (h : HartD) (l : List TwoD) (m : List Int) (n : Int) (hh : hartLe 1048576 h) (hl : l.length ≤ 1048576) (hm : m.length ≤ 1048576) : F_cc (h, l, m, n, ()) = some ((manyS h l m n, ()), ()) := by
 unfold F_cc manyS
 dsimp only
 rw [implAsk_e h l m hh hl hm, Option.bind_some, within_eq, Option.bind_some]
 dsimp only
 by_cases ha : askS h l m = 0
 ·rw [if_pos (by simpa using ha), if_neg (c := askS h l m ≠ 0) (by simpa using ha)]
  by_cases hn : 0 ≤ n ∧ n ≤ 500
  ·rw [if_neg (by simp [hn.1, hn.2]), if_neg (by simpa using ha), if_pos hn]
   rw [implStepped_e h l m n hh hm (okS_of ha) hn, Option.bind_some]
  ·rw [if_pos (by simp; omega), if_neg hn]
   rfl
 ·rw [if_neg (by simpa using ha), if_pos (by simpa using ha), if_pos (c := askS h l m ≠ 0) ha]
  rfl
section
variable {l : List TwoD} {s : Mc}
def FR (s : Mc) : Prop := (s.fall = -1 ∨ 0 ≤ s.fall) ∧ (s.ring = -1 ∨ 0 ≤ s.ring)
theorem FR.trap (h : FR s) {cause tval : Int} (hc : 0 ≤ cause) : FR (s.trap cause tval) := ⟨.inr hc, h.2⟩
theorem ringM_fr (k w : Int) : ringM k w = -1 ∨ 0 ≤ ringM k w := by
 unfold ringM; split
 ·exact .inr (wd_word w).1
 ·exact .inl rfl
theorem exM_fr (h : FR s) (op d a i : Int) : FR (exM s l op d a i).2.2.2 := by
 unfold exM
 let P : Bool × Int × Int × Mc → Prop := fun x => FR x.2.2.2
 refine ite_P P (fun _ => h) fun _ => ite_P P (fun _ => h) fun _ => ite_P P (fun _ => ite_P P (fun _ => h.trap (by omega)) fun _ => ite_P P (fun _ => h) fun _ => h) fun _ =>
  ite_P P (fun _ => ite_P P (fun _ => h.trap (by omega)) fun _ => ite_P P (fun _ => ⟨h.1, ringM_fr _ _⟩) fun _ => h) fun _ => ite_P P (fun _ => h) fun _ => ite_P P (fun _ => h) fun _ => ite_P P (fun _ => h) fun _ =>
  ite_P P (fun _ => h) fun _ => ite_P P (fun _ => h) fun _ => ite_P P (fun _ => h.trap (by omega)) fun _ => ite_P P (fun _ => h) fun _ => ite_P P (fun _ => h) fun _ => ite_P P (fun _ => h) fun _ => h
theorem doM_fr (h : FR s) (op d a i : Int) : FR (doM s l op d a i).2 := by
 have he := exM_fr (l := l) h op d a i
 unfold doM
 dsimp only
 exact ite_P (fun x : Bool × Mc => FR x.2) (fun _ => he) fun _ => he
theorem runM_fr (h : FR s) : FR (runM s l) := by
 unfold runM
 refine ite_P FR (fun _ => h.trap (by omega)) fun _ => ite_P FR (fun _ => ?_) fun _ => h.trap (by omega)
 exact ite_P FR (fun _ => doM_fr (l := l) h _ _ _ _) fun _ => doM_fr h _ _ _ _
theorem stepM_fr (s : Mc) (l : List TwoD) : FR (stepM s l) := by
 have h0 : FR { s with ring := -1, fall := -1 } := ⟨.inl rfl, .inl rfl⟩
 have h1 : FR { s with ring := -1, fall := -1, wa := false } := ⟨.inl rfl, .inl rfl⟩
 unfold stepM
 refine ite_P FR (fun _ => h0) fun _ => ite_P FR (fun hk => h0.trap (Int.add_nonneg (by decide) hk)) fun _ => ite_P FR (fun _ => ite_P FR (fun _ => h0) fun _ => runM_fr h1) fun _ => runM_fr h0
theorem manyS_one (h : HartD) (l : List TwoD) (m : List Int) : manyS h l m 1 = if askS h l m ≠ 0 then zeroS (askS h l m) else (stepM (Mc.of h m) l).res (stepM (Mc.of h m) l).fall (stepM (Mc.of h m) l).ring := by
 unfold manyS
 rw [if_pos (c := (0 : Int) ≤ 1 ∧ (1 : Int) ≤ 500) (by decide), show (1 : Int).toNat = 1 from rfl]
 simp only [manyM]
 obtain ⟨h1, h2⟩ := stepM_fr (Mc.of h m) l
 have e1 : (if 0 ≤ (stepM (Mc.of h m) l).fall then (stepM (Mc.of h m) l).fall else -1) = (stepM (Mc.of h m) l).fall := by split <;> omega
 have e2 : (if 0 ≤ (stepM (Mc.of h m) l).ring then (stepM (Mc.of h m) l).ring else -1) = (stepM (Mc.of h m) l).ring := by split <;> omega
 rw [e1, e2]
theorem specStepHart_e (h : HartD) (l : List TwoD) (m : List Int) (hh : hartLe 1048576 h) (hl : l.length ≤ 1048576) (hm : m.length ≤ 1048576) : F_dp (h, l, m, ()) = some ((manyS h l m 1, ()), ()) := by
 rw [manyS_one]
 unfold F_dp
 dsimp only
 rw [specAsk_e h l m hh hl hm, Option.bind_some]
 dsimp only
 by_cases ha : askS h l m = 0
 ·rw [if_neg (by simpa using ha), if_neg (c := askS h l m ≠ 0) (by simpa using ha), specNew_e h l m hh hm, Option.bind_some]
  dsimp only
  rw [specStep_e (okS_of ha), Option.bind_some]
  rfl
 ·rw [if_pos (by simpa using ha), if_pos (c := askS h l m ≠ 0) ha]
  rfl
theorem implStepHart_e (h : HartD) (l : List TwoD) (m : List Int) (hh : hartLe 1048576 h) (hl : l.length ≤ 1048576) (hm : m.length ≤ 1048576) : F_cd (h, l, m, ()) = some ((manyS h l m 1, ()), ()) := by
 unfold F_cd
 dsimp only
 rw [implMany_e h l m 1 hh hl hm, Option.bind_some]
def srLe (r : StepR) : Prop := r.2.2.2.1.length ≤ 1048576 ∧ r.2.2.2.2.2.1.length ≤ 1048576 ∧ r.2.2.2.2.2.2.2.2.2.2.1.length ≤ 1048576 ∧ r.2.2.2.2.2.2.2.2.2.2.2.1.length ≤ 1048576 ∧ r.2.2.2.2.2.2.2.2.2.2.2.2.1.length ≤ 1048576
def srH (r : StepR) : HartD := (r.2.2.2.1, r.2.2.2.2.1, r.2.2.2.2.2.1, r.2.2.2.2.2.2.1, r.2.2.2.2.2.2.2.1, r.2.2.2.2.2.2.2.2.1, r.2.2.2.2.2.2.2.2.2.1, r.2.2.2.2.2.2.2.2.2.2.1, r.2.2.2.2.2.2.2.2.2.2.2.1, ())
theorem srLe_res {c g : Int} (h : OkS s l) : srLe (s.res c g) := by
 have h1 := h.r.len; have h2 := h.c.len; have h3 := h.i.len; have h4 := h.o.len; have h5 := h.l.mlen
 unfold srLe Mc.res
 dsimp only
 exact ⟨by omega, by omega, by omega, by omega, by omega⟩
theorem srH_le {r : StepR} (h : srLe r) : hartLe 1048576 (srH r) := ⟨h.1, h.2.1, h.2.2.1, h.2.2.2.1⟩
end
abbrev SrcD := List Int × Int × Unit
/-- A source that has been read so far at most. -/
def Sr (s : SrcD) (k : Int) : Prop := Byt s.1 ∧ 0 ≤ s.2.1 ∧ s.2.1 ≤ k
theorem Sr.le {s : SrcD} {k k' : Int} (h : Sr s k) (hk : k ≤ k') : Sr s k' := ⟨h.1, h.2.1, Int.le_trans h.2.2 hk⟩
theorem Sr.pos {s : SrcD} {k : Int} (h : Sr s k) : 0 ≤ k := Int.le_trans h.2.1 h.2.2
/-- It answers, and the answer is such. -/
def Dr {X : Type} (o : Option X) (P : X → Prop) : Prop := ∃ v, o = some v ∧ P v
theorem Dr.bind {X Y : Type} {o : Option X} {f : X → Option Y} {Q : X → Prop} {P : Y → Prop} (h : Dr o Q) (g : ∀ v, Q v → Dr (f v) P) : Dr (o.bind f) P := by
 obtain ⟨v, rfl, hv⟩ := h
 exact g v hv
theorem Dr.ret {X : Type} {v : X} {P : X → Prop} (h : P v) : Dr (some v) P := ⟨v, rfl, h⟩
theorem Dr.ite {X : Type} {c : Prop} [Decidable c] {a b : Option X} {P : X → Prop} (ha : c → Dr a P) (hb : ¬ c → Dr b P) : Dr (if c then a else b) P := by
 split
 ·exact ha ‹_›
 ·exact hb ‹_›
theorem Dr.guard {X : Type} {c : Prop} [Decidable c] {a : Option X} {P : X → Prop} (hc : c) (ha : Dr a P) : Dr (if c then a else none) P := by rw [if_pos hc]; exact ha
theorem Dr.nguard {X : Type} {c : Prop} [Decidable c] {a : Option X} {P : X → Prop} (hc : ¬ c) (ha : Dr a P) : Dr (if c then none else a) P := by rw [if_neg hc]; exact ha
theorem Dr.get {X Y : Type} {xs : List X} {i : Nat} {f : X → Option Y} {P : Y → Prop} (hi : i < xs.length) (h : ∀ y, y ∈ xs → xs[i]? = some y → Dr (f y) P) : Dr ((xs[i]?).bind f) P := by
 rw [List.getElem?_eq_getElem hi, Option.bind_some]
 exact h _ (List.getElem_mem hi) (List.getElem?_eq_getElem hi)
theorem Dr.gat {X Y : Type} {xs : List X} {i : Int} {n : Nat} {f : X → Option Y} {P : Y → Prop} (hn : xs.length = n) (h : 0 ≤ i ∧ i < (n : Int)) (k : ∀ y, y ∈ xs → Dr (f y) P) : Dr (if 0 ≤ i ∧ i < ((xs.length : Nat) : Int) then (xs[i.toNat]?).bind f else none) P := by
 subst hn
 exact Dr.guard h (Dr.get (by omega) fun y hy _ => k y hy)
theorem Dr.of {X : Type} {o : Option X} {v : X} {P : X → Prop} (h : o = some v) (hv : P v) : Dr o P := ⟨v, h, hv⟩
theorem iter_d {X Y : Type} {step : (X → Option Y) → X → Option Y} {Q : Y → Prop} (I : Nat → X → Prop) (h : ∀ rec m x, I m x → (∀ m' x', m' < m → I m' x' → Dr (rec x') Q) → Dr (step rec x) Q) (m : Nat) (x : X) (hI : I m x) (hm : m < lots) : Dr (iterF step lots x) Q := by
 have key : ∀ n m x, m < n → I m x → Dr (iterF step n x) Q := by
  intro n
  induction n with
  | zero => intro m x h; omega
  | succ n ih => intro m x hm hI; exact h _ m x hI fun m' x' hlt hI' => ih m' x' (by omega) hI'
 exact key lots m x hm hI
def Bd (n x : Int) : Prop := 0 ≤ x ∧ (x < n ∨ x = 0)
theorem Bd.to3 {x : Int} (h : Bd 3 x) : x.toNat ≤ 2 ∧ 0 ≤ x ∧ x ≤ 2 := by unfold Bd at h; omega
theorem Bd.fit8 {x : Int} (h : Bd 8 x) : 0 ≤ x ∧ x < ((8 : Nat) : Int) := by unfold Bd at h; omega
theorem Bd.e {n x : Int} (h : Bd n x) : 0 ≤ x ∧ (x < n ∨ x = 0) := h
def Bt (a b x : Int) : Prop := a ≤ x ∧ x ≤ b
theorem Bt.e {a b x : Int} (h : Bt a b x) : a ≤ x ∧ x ≤ b := h
theorem next_d {s : SrcD} {k : Int} (h : Sr s k) (hk : k ≤ 1099511627776) (n : Int) : Dr (F_c (s, n, ())) fun r => Sr r.2.1 (k + 1) ∧ Bd n r.1.1 :=
 .of (next_rw (s, n, ()) h.1 ⟨h.2.1, Int.le_trans h.2.2 hk⟩) ⟨⟨h.1, by have := h.2.1; dsimp only; omega, by have := h.2.2; dsimp only; omega⟩, next_b (s, n, ()) h.1 ⟨h.2.1, Int.le_trans h.2.2 hk⟩⟩
theorem pick_d {s : SrcD} {k : Int} (h : Sr s k) (hk : k ≤ 1099511627776) (x : Int) (l : List Int) : Dr (F_i (s, x :: l, ())) fun r => Sr r.2.1 (k + 1) ∧ (r.1.1 : Int) ∈ x :: l :=
 .of (pick_rw (s, x :: l, ()) rfl h.1 ⟨h.2.1, Int.le_trans h.2.2 hk⟩) ⟨⟨h.1, by have := h.2.1; dsimp only; omega, by have := h.2.2; dsimp only; omega⟩, pick_m (s, x :: l, ()) rfl h.1 ⟨h.2.1, Int.le_trans h.2.2 hk⟩⟩
theorem chance_d {s : SrcD} {k : Int} (h : Sr s k) (hk : k ≤ 1099511627776) (n : Int) : Dr (F_h (s, n, ())) fun r => Sr r.2.1 (k + 1) :=
 .of (chance_rw (s, n, ()) h.1 ⟨h.2.1, Int.le_trans h.2.2 hk⟩) ⟨h.1, by have := h.2.1; dsimp only; omega, by have := h.2.2; dsimp only; omega⟩
theorem word_d {s : SrcD} {k : Int} (h : Sr s k) (hk : k ≤ 1073741824) : Dr (F_j (s, ())) fun r => Sr r.2.1 (k + 5) ∧ Bt 0 4294967295 r.1.1 :=
 .of (word_rw (s, ()) h.1 ⟨h.2.1, Int.le_trans h.2.2 hk⟩) ⟨⟨h.1, by have := h.2.1; dsimp only; omega, by have := h.2.2; dsimp only; omega⟩, word_b (s, ()) h.1 ⟨h.2.1, Int.le_trans h.2.2 hk⟩⟩
theorem image_d {s : SrcD} {k : Int} (h : Sr s k) (hk : k ≤ 10000000) (n : Int) (h0 : 0 ≤ n) (hn : n ≤ 1000) : Dr (F_x (s, n, ())) fun r => Sr r.2.1 (k + 26 * n) ∧ (r.1.1.length : Int) = n := by
 obtain ⟨c, a, _⟩ := s
 obtain ⟨hc, h1, h2⟩ := h
 dsimp only at h1 h2
 obtain ⟨m, a', e, l1, l2, l3⟩ := image_ok hc n a ⟨h1, by omega⟩ hn
 rw [if_neg (by omega)] at l1 l3
 exact .of e ⟨⟨hc, by dsimp only; omega, by dsimp only; omega⟩, l1⟩
theorem source_d {c : List Int} (h : Byt c) : Dr (F_b (c, ())) fun r => Sr r.1.1 0 := .of rfl ⟨h, Int.le_refl _, Int.le_refl _⟩
structure HL (h : HartD) : Prop where
 r : h.1.length = 16
 c : h.2.2.1.length = 11
 i : h.2.2.2.2.2.2.2.1.length ≤ 2
 o : h.2.2.2.2.2.2.2.2.1.length ≤ 40
theorem set_d {h : HartD} (hh : HL h) {k : Int} (hk : 0 ≤ k ∧ k ≤ 10) (w : Int) : Dr (F_l (h, k, w, ())) fun r => HL r.2.1 := by
 obtain ⟨h1, h2, h3, h4⟩ := hh
 have hin : 0 ≤ k ∧ k < ((h.2.2.1.length : Nat) : Int) := by omega
 have hin' : ∀ x, 0 ≤ k ∧ k < (((h.2.2.1.set k.toNat x).length : Nat) : Int) := fun x => by rw [List.length_set]; exact hin
 have hlt : k.toNat < h.2.2.1.length := by omega
 have hlt' : ∀ x, k.toNat < (h.2.2.1.set k.toNat x).length := fun x => by rw [List.length_set]; exact hlt
 have hl : ∀ x y, ((h.2.2.1.set k.toNat x).set k.toNat y).length = 11 := fun x y => by simp [h2]
 have hl' : ∀ x, (h.2.2.1.set k.toNat x).length = 11 := fun x => by simp [h2]
 unfold F_l
 refine Dr.bind (Q := fun _ => True) (.of (specWrap_e _) trivial) fun r1 _ => ?_
 repeat' (first
  | exact Dr.ret ⟨h1, h2, h3, h4⟩
  | exact Dr.ret ⟨h1, hl' _, h3, h4⟩
  | exact Dr.ret ⟨h1, hl _ _, h3, h4⟩
  | refine Dr.guard hin ?_
  | refine Dr.guard (hin' _) ?_
  | refine Dr.get hlt fun _ _ _ => ?_
  | refine Dr.get (hlt' _) fun _ _ _ => ?_
  | refine Dr.ite (fun _ => ?_) fun _ => ?_)
theorem newHart_d {l : List Int} (hl : l.length ≤ 2) (hw : allW l = true) : Dr (F_g (l, ())) fun r => HL r.1.1.2 ∧ r.1.1.2.2.2.2.2.2.2.2.1 = l := by
 unfold F_g
 refine Dr.ite (fun c => ?_) fun c => ?_
 ·rw [ltI_t] at c; dsimp only at c; omega
 refine Dr.bind (Q := fun r => r.1.1 = allW l) (.of (l8All_eq l (by omega)) rfl) fun r hr => ?_
 rw [if_neg (by rw [hr, hw]; simp)]
 refine Dr.guard (by simp; omega) (Dr.ret ⟨⟨by simp, by simp, by simpa using hl, by simp⟩, by simp⟩)
theorem l8Hart3_d {h : HartD} {s : SrcD} {k : Int} (z : HartD) (hh : HL h) (hs : Sr s k) (hk : k ≤ 1000000000) : Dr (L_m_3 (((), ((), ((), ((1 : Int), ())))), ((z, (h, (s, ()))), ()))) fun o => ∃ x, o = .inl x ∧ HL x.2.1.2.1 ∧ Sr x.2.1.2.2.1 (k + 150) := by
 refine iter_d (fun m u => (m : Int) = 16 - (u.1.2.2.2.1 : Int) ∧ 1 ≤ (u.1.2.2.2.1 : Int) ∧ HL u.2.1.2.1 ∧ Sr u.2.1.2.2.1 (k + 10 * ((u.1.2.2.2.1 : Int) - 1))) ?_ 15 _ ⟨by dsimp only; omega, by dsimp only; omega, hh, hs.le (by dsimp only; omega)⟩ (by rw [lots_eq]; omega)
 intro rec m u ⟨hm, h1, hh, hs⟩ ih
 unfold l_m_3
 have hk0 := hs.pos
 refine Dr.ite (fun c => ?_) fun c => ?_
 ·rw [ltI_t] at c
  have e : IntKind.i64.wrap ((u.1.2.2.2.1 : Int) + 1) = (u.1.2.2.2.1 : Int) + 1 := wrap64 (by omega) (by omega)
  refine (chance_d hs (by omega) _).bind fun r9 h9 => Dr.ite (fun _ => ?_) fun _ => ?_
  ·refine (word_d h9 (by omega)).bind fun r10 h10 => (next_d h10.1 (by omega) _).bind fun r11 h11 => (next_d h11.1 (by omega) _).bind fun r12 h12 => (pick_d h12.1 (by omega) _ _).bind fun r14 h14 => ?_
   refine Dr.gat hh.r (by omega) fun _ _ => ih (m - 1) _ (by omega) ?_
   rw [e]
   exact ⟨by dsimp only; omega, by dsimp only; omega, ⟨by simpa using hh.r, hh.c, hh.i, hh.o⟩, h14.1.le (by dsimp only; omega)⟩
  ·refine ih (m - 1) _ (by omega) ?_
   rw [e]
   exact ⟨by dsimp only; omega, by dsimp only; omega, hh, h9.le (by dsimp only; omega)⟩
 ·rw [ltI_t] at c
  exact Dr.ret ⟨_, rfl, hh, hs.le (by omega)⟩
theorem l8Hart10_d {h : HartD} {s : SrcD} {k : Int} (z : HartD) (hh : HL h) (hs : Sr s k) (hk : k ≤ 1000000000) : Dr (L_m_10 (((), ((), ((), ((0 : Int), ())))), ((z, (h, (s, ()))), ()))) fun o => ∃ x, o = .inl x ∧ HL x.2.1.2.1 ∧ Sr x.2.1.2.2.1 (k + 110) := by
 refine iter_d (fun m u => (m : Int) = 11 - (u.1.2.2.2.1 : Int) ∧ 0 ≤ (u.1.2.2.2.1 : Int) ∧ HL u.2.1.2.1 ∧ Sr u.2.1.2.2.1 (k + 10 * (u.1.2.2.2.1 : Int))) ?_ 11 _ ⟨by dsimp only; omega, by dsimp only; omega, hh, hs.le (by dsimp only; omega)⟩ (by rw [lots_eq]; omega)
 intro rec m u ⟨hm, h1, hh, hs⟩ ih
 unfold l_m_10
 have hk0 := hs.pos
 refine Dr.ite (fun c => ?_) fun c => ?_
 ·rw [ltI_t] at c
  have e : IntKind.i64.wrap ((u.1.2.2.2.1 : Int) + 1) = (u.1.2.2.2.1 : Int) + 1 := wrap64 (by omega) (by omega)
  refine (chance_d hs (by omega) _).bind fun r9 h9 => Dr.ite (fun _ => ?_) fun _ => ?_
  ·refine (next_d h9 (by omega) _).bind fun r11 h11 => (next_d h11.1 (by omega) _).bind fun r12 h12 => (word_d h12.1 (by omega)).bind fun r10 h10 => (pick_d h10.1 (by omega) _ _).bind fun r14 h14 => ?_
   refine (set_d hh ⟨h1, by omega⟩ _).bind fun r43 h43 => ih (m - 1) _ (by omega) ?_
   rw [e]
   exact ⟨by dsimp only; omega, by dsimp only; omega, h43, h14.1.le (by dsimp only; omega)⟩
  ·refine ih (m - 1) _ (by omega) ?_
   rw [e]
   exact ⟨by dsimp only; omega, by dsimp only; omega, hh, h9.le (by dsimp only; omega)⟩
 ·rw [ltI_t] at c
  exact Dr.ret ⟨_, rfl, hh, hs.le (by omega)⟩
theorem l8Hart_d {s : SrcD} {k : Int} (hs : Sr s k) (hk : k ≤ 900000000) : Dr (F_m (s, ())) fun r => Sr r.2.1 (k + 300) ∧ HL r.1.1 := by
 have hk0 := hs.pos
 unfold F_m
 refine (next_d hs (by omega) _).bind fun r1 h1 => ?_
 have hb := h1.2.to3
 refine Dr.guard ⟨by decide, hb.2.1, hb.2.2⟩ ?_
 have hlen : (([(7 : Int), 8].drop (0 + ((0 : Int)).toNat)).take ((r1.1.1).toNat - ((0 : Int)).toNat)).length ≤ 2 := by rw [List.length_take]; have := hb.1; omega
 refine (newHart_d (by omega) ?_).bind fun r2 h2 => ?_
 ·rw [allW_iff]
  intro w hw
  have := List.mem_of_mem_drop (List.mem_of_mem_take hw)
  simp at this
  unfold WW
  omega
 have h2' : HL r2.1.1.2 := h2.1
 refine (l8Hart3_d _ h2' h1.1 (by omega)).bind fun z hz => ?_
 obtain ⟨x, rfl, hx, hxs⟩ := hz
 dsimp only
 refine (next_d hxs (by omega) _).bind fun r21 h21 => (next_d h21.1 (by omega) _).bind fun r22 h22 => (word_d h22.1 (by omega)).bind fun r23 h23 => (pick_d h23.1 (by omega) _ _).bind fun r24 h24 => (next_d h24.1 (by omega) _).bind fun r25 h25 => ?_
 refine (l8Hart10_d _ (h := (x.2.1.2.1.1, (r24.1.1, (x.2.1.2.1.2.2.1, (x.2.1.2.1.2.2.2.1, (x.2.1.2.1.2.2.2.2.1, (x.2.1.2.1.2.2.2.2.2.1, (r25.1.1, (x.2.1.2.1.2.2.2.2.2.2.2.1, (x.2.1.2.1.2.2.2.2.2.2.2.2.1, ())))))))))) ⟨hx.r, hx.c, hx.i, hx.o⟩ h25.1 (by omega)).bind fun z hz => ?_
 obtain ⟨x, rfl, hx, hxs⟩ := hz
 dsimp only
 refine (chance_d hxs (by omega) _).bind fun r h => (chance_d h (by omega) _).bind fun r h => (chance_d h (by omega) _).bind fun r h => (chance_d h (by omega) _).bind fun r h => ?_
 refine Dr.ite (fun _ => Dr.ret ⟨h.le (by omega), hx.r, hx.c, hx.i, by simp⟩) fun _ => Dr.ret ⟨h.le (by omega), hx.r, hx.c, hx.i, hx.o⟩
structure HB (h : HartD) : Prop where
 r : h.1.length ≤ 16
 c : h.2.2.1.length = 11
 i : h.2.2.2.2.2.2.2.1.length ≤ 41
 o : h.2.2.2.2.2.2.2.2.1.length ≤ 40
theorem HL.b {h : HartD} (hh : HL h) : HB h := ⟨by rw [hh.r]; omega, hh.c, by have := hh.i; omega, hh.o⟩
theorem HB.le {h : HartD} (hh : HB h) : hartLe 1048576 h := ⟨by have := hh.r; omega, by rw [hh.c]; omega, by have := hh.i; omega, by have := hh.o; omega⟩
theorem l8Bent_d {s : SrcD} {k : Int} (hs : Sr s k) (hk : k ≤ 900000000) : Dr (F_n (s, ())) fun r => Sr r.2.1 (k + 400) ∧ HB r.1.1 := by
 have hk0 := hs.pos
 unfold F_n
 refine (l8Hart_d hs hk).bind fun r1 h1 => (next_d h1.1 (by omega) _).bind fun r2 h2 => ?_
 have hr := h1.2.r
 have hc := h1.2.c
 have hi := h1.2.i
 have ho := h1.2.o
 refine Dr.ite (fun _ => ?_) fun _ => Dr.ite (fun _ => ?_) fun _ => Dr.ite (fun _ => ?_) fun _ => Dr.ite (fun _ => ?_) fun _ => Dr.ite (fun _ => ?_) fun _ => Dr.ite (fun _ => ?_) fun _ => ?_
 ·exact Dr.gat hr (by omega) fun _ _ => Dr.ret ⟨h2.1.le (by omega), ⟨by simpa using Nat.le_of_eq hr, hc, by dsimp only; omega, ho⟩⟩
 ·refine Dr.guard ⟨by decide, by rw [hr]; decide, Int.le_refl _⟩ (Dr.ret ⟨h2.1.le (by omega), ⟨by simp; omega, hc, by dsimp only; omega, ho⟩⟩)
 ·refine (next_d h2.1 (by omega) _).bind fun r5 h5 => (pick_d h5.1 (by omega) _ _).bind fun r6 h6 => Dr.gat hc (by have := h5.2.e; omega) fun _ _ => Dr.ret ⟨h6.1.le (by omega), ⟨by dsimp only; omega, by simpa using hc, by dsimp only; omega, ho⟩⟩
 ·exact (pick_d h2.1 (by omega) _ _).bind fun r9 h9 => Dr.ret ⟨h9.1.le (by omega), ⟨by dsimp only; omega, hc, by dsimp only; omega, ho⟩⟩
 ·exact Dr.ret ⟨h2.1.le (by omega), ⟨by dsimp only; omega, hc, by simp, ho⟩⟩
 ·exact (pick_d h2.1 (by omega) _ _).bind fun r9 h9 => Dr.ret ⟨h9.1.le (by omega), ⟨by dsimp only; omega, hc, by dsimp only; omega, ho⟩⟩
 ·exact Dr.ret ⟨h2.1.le (by omega), h1.2.b⟩
theorem l4None_d : Dr (F_o ()) fun _ => True := .of rfl trivial
theorem l4Pages_d {s : SrcD} {k : Int} (hs : Sr s k) (hk : k ≤ 900000000) (n : Int) : Dr (F_p (s, n, ())) fun r => Sr r.2.1 (k + 24) ∧ (r.1.1 : List TwoD).length = 8 := by
 have hk0 := hs.pos
 unfold F_p
 have key : Dr (L_p_3 (((), (n, (([] : List (den Y40)), ((0 : Int), ())))), ((s, ()), ()))) fun o => ∃ x, o = .inl x ∧ Sr x.2.1.1 (k + 24) ∧ (x.1.1 : List TwoD).length = 8 := by
  refine iter_d (fun m u => (m : Int) = 8 - (u.1.2.2.2.1 : Int) ∧ 0 ≤ (u.1.2.2.2.1 : Int) ∧ ((u.1.2.2.1 : List TwoD).length : Int) = (u.1.2.2.2.1 : Int) ∧ Sr u.2.1.1 (k + 3 * (u.1.2.2.2.1 : Int))) ?_ 8 _ ⟨by dsimp only; omega, by dsimp only; omega, rfl, hs.le (by dsimp only; omega)⟩ (by rw [lots_eq]; omega)
  intro rec m u ⟨hm, h1, hl, hs⟩ ih
  unfold l_p_3
  have hk0 := hs.pos
  refine Dr.ite (fun c => ?_) fun c => ?_
  ·rw [ltI_t] at c
   have e : IntKind.i64.wrap ((u.1.2.2.2.1 : Int) + 1) = (u.1.2.2.2.1 : Int) + 1 := wrap64 (by omega) (by omega)
   have hg : ∀ (l : List TwoD) (p : TwoD), (l.length : Int) < 8 → (l.length + [p].length) * 16 ≤ 140737488355328 := fun l p h => by simp; omega
   refine (next_d hs (by omega) _).bind fun r5 h5 => (pick_d h5.1 (by omega) _ _).bind fun r6 h6 => (chance_d h6.1 (by omega) _).bind fun r7 h7 => Dr.ite (fun _ => ?_) fun _ => ?_
   ·refine l4None_d.bind fun r8 _ => Dr.guard (hg _ _ (by rw [hl]; exact c)) (ih (m - 1) _ (by omega) ?_)
    rw [e]
    exact ⟨by dsimp only; omega, by dsimp only; omega, by simp; omega, h7.le (by dsimp only; omega)⟩
   ·refine Dr.guard (hg _ _ (by rw [hl]; exact c)) (ih (m - 1) _ (by omega) ?_)
    rw [e]
    exact ⟨by dsimp only; omega, by dsimp only; omega, by simp; omega, h7.le (by dsimp only; omega)⟩
  ·rw [ltI_t] at c
   exact Dr.ret ⟨_, rfl, hs.le (by omega), by dsimp only; omega⟩
 refine key.bind fun z hz => ?_
 obtain ⟨x, rfl, h1, h2⟩ := hz
 exact Dr.ret ⟨h1, h2⟩
/-- A view of a row. -/
def Vw (v : List TwoD × Nat × Nat) : Prop := v.1.length = 8 ∧ v.2.1 + v.2.2 = 8 ∧ 7 ≤ v.2.2
theorem l4Bent_d {s : SrcD} {k : Int} (hs : Sr s k) (hk : k ≤ 900000000) (n : Int) : Dr (F_q (s, n, ())) fun r => Sr r.2.1 (k + 30) ∧ Vw r.1.1 := by
 have hk0 := hs.pos
 unfold F_q
 refine (l4Pages_d hs hk n).bind fun r1 h1 => (next_d h1.1 (by omega) _).bind fun r2 h2 => (next_d h2.1 (by omega) _).bind fun r3 h3 => ?_
 have hl : (r1.1.1 : List TwoD).length = 8 := h1.2
 have hi := h2.2.fit8
 refine Dr.ite (fun _ => ?_) fun _ => Dr.ite (fun _ => ?_) fun _ => Dr.ite (fun _ => ?_) fun _ => ?_
 ·exact (pick_d h3.1 (by omega) _ _).bind fun r4 h4 => Dr.gat hl hi fun _ _ => Dr.ret ⟨h4.1.le (by omega), by unfold Vw; simp; omega⟩
 ·exact (pick_d h3.1 (by omega) _ _).bind fun r4 h4 => Dr.gat hl hi fun _ _ => Dr.ret ⟨h4.1.le (by omega), by unfold Vw; simp; omega⟩
 ·exact Dr.guard ⟨by decide, by rw [hl]; decide, Int.le_refl _⟩ (Dr.ret ⟨h3.1.le (by omega), by unfold Vw; simp; omega⟩)
 ·exact Dr.ret ⟨h3.1.le (by omega), by unfold Vw; simp; omega⟩
theorem newMem_d (n : Int) (h : 1 ≤ n ∧ n ≤ 24) : Dr (F_r (n, ())) fun r => ((r.1.1.2.1 : List Int).length : Int) = 8 * n := by
 unfold F_r
 refine Dr.bind (Q := fun r => r.1.1 = inB n 1 24) (.of (l1In_eq2 n 1 24) rfl) fun r hr => ?_
 have hr2 : ¬ (!r.1.1) = true := by rw [hr, inB_t.2 h]; simp
 have e : IntKind.i64.wrap (n * 8) = n * 8 := wrap64 (by omega) (by omega)
 rw [if_neg hr2]
 dsimp only
 rw [e]
 exact Dr.guard (by omega) (Dr.ret (by simp; omega))
theorem l3Memory_d {s : SrcD} {k : Int} (hs : Sr s k) (hk : k ≤ 900000000) : Dr (F_y (s, ())) fun r => Sr r.2.1 (k + 2000) ∧ (r.1.1 : List Int).length ≤ 200 := by
 have hk0 := hs.pos
 unfold F_y
 refine (next_d hs (by omega) _).bind fun r1 h1 => ?_
 have hr := h1.2.e
 have e : IntKind.i64.wrap (1 + (r1.1.1 : Int)) = 1 + (r1.1.1 : Int) := wrap64 (by omega) (by omega)
 dsimp only
 rw [e]
 refine (newMem_d _ (by omega)).bind fun r3 h3 => ?_
 have hlen : 8 ≤ (r3.1.1.2.1 : List Int).length ∧ (r3.1.1.2.1 : List Int).length ≤ 40 := by omega
 have key : ∀ (ms : List Int), 8 ≤ ms.length ∧ ms.length ≤ 40 → Dr (L_y_3 (((), (ms, ((0 : Int), ()))), ((r1.2.1, ()), ()))) fun o => ∃ x, o = .inl x ∧ Sr x.2.1.1 (k + 1 + 240) ∧ 8 ≤ (x.1.2.1 : List Int).length ∧ (x.1.2.1 : List Int).length ≤ 40 := by
  intro ms hms
  refine iter_d (fun m u => (m : Int) = ((u.1.2.1 : List Int).length : Int) - (u.1.2.2.1 : Int) ∧ 0 ≤ (u.1.2.2.1 : Int) ∧ (8 ≤ (u.1.2.1 : List Int).length ∧ (u.1.2.1 : List Int).length ≤ 40) ∧ Sr u.2.1.1 (k + 1 + 6 * (u.1.2.2.1 : Int))) ?_ ms.length _ ⟨by dsimp only; omega, by dsimp only; omega, hms, h1.1.le (by dsimp only; omega)⟩ (by rw [lots_eq]; omega)
  intro rec m u ⟨hm, g1, hl, hs⟩ ih
  unfold l_y_3
  have hk0 := hs.pos
  refine Dr.ite (fun c => ?_) fun c => ?_
  ·rw [ltI_t] at c
   have e : IntKind.i64.wrap ((u.1.2.2.1 : Int) + 1) = (u.1.2.2.1 : Int) + 1 := wrap64 (by omega) (by omega)
   refine (chance_d hs (by omega) _).bind fun r8 h8 => Dr.ite (fun _ => ?_) fun _ => ?_
   ·refine (word_d h8 (by omega)).bind fun r9 h9 => Dr.gat rfl ⟨g1, c⟩ fun _ _ => ih (m - 1) _ (by omega) ?_
    rw [e]
    exact ⟨by simp; omega, by dsimp only; omega, by simpa using hl, h9.1.le (by dsimp only; omega)⟩
   ·refine ih (m - 1) _ (by omega) ?_
    rw [e]
    exact ⟨by dsimp only; omega, by dsimp only; omega, hl, h8.le (by dsimp only; omega)⟩
  ·rw [ltI_t] at c
   exact Dr.ret ⟨_, rfl, hs.le (by omega), hl⟩
 refine (key _ hlen).bind fun z hz => ?_
 obtain ⟨x, rfl, g1, g2⟩ := hz
 refine (next_d g1 (by omega) _).bind fun r16 h16 => Dr.ite (fun _ => ?_) fun _ => Dr.ite (fun _ => ?_) fun _ => Dr.ite (fun _ => ?_) fun _ => ?_
 ·exact Dr.guard ⟨by decide, by omega, Int.le_refl _⟩ (Dr.ret ⟨h16.1.le (by omega), by simp; omega⟩)
 ·exact (next_d h16.1 (by omega) _).bind fun r18 h18 => (pick_d h18.1 (by omega) _ _).bind fun r19 h19 => Dr.gat rfl (by have := h18.2.e; omega) fun _ _ => Dr.ret ⟨h19.1.le (by omega), by simp; omega⟩
 ·exact Dr.ret ⟨h16.1.le (by omega), by simp⟩
 ·exact Dr.ret ⟨h16.1.le (by omega), by have := g2.2; dsimp only; omega⟩
theorem Dr.vget {X Y : Type} {xs : List X} {i n : Int} {lo : Nat} {f : X → Option Y} {P : Y → Prop} (h : 0 ≤ i ∧ i < n) (hl : lo + i.toNat < xs.length) (k : ∀ y, y ∈ xs → Dr (f y) P) : Dr (if 0 ≤ i ∧ i < n then (xs[lo + i.toNat]?).bind f else none) P :=
 Dr.guard h (Dr.get hl fun y hy _ => k y hy)
theorem World5_d {h : HartD} {s : SrcD} {k : Int} (z : HartD) {v : List TwoD × Nat × Nat} (hh : HB h) (hs : Sr s k) (hv : Vw v) : Dr (L_z_5 (((), ((), ((), ((v.1, (v.2.1, v.2.2)), ((0 : Int), ()))))), ((z, (h, (s, ()))), ()))) fun o => ∃ x, o = .inl x ∧ HB x.2.1.2.1 ∧ Sr x.2.1.2.2.1 k ∧ Vw (x.1.2.2.2.1.1, (x.1.2.2.2.1.2.1, x.1.2.2.2.1.2.2)) := by
 refine iter_d (fun m u => (m : Int) = 5 - (u.1.2.2.2.2.1 : Int) ∧ 0 ≤ (u.1.2.2.2.2.1 : Int) ∧ HB u.2.1.2.1 ∧ Sr u.2.1.2.2.1 k ∧ Vw (u.1.2.2.2.1.1, (u.1.2.2.2.1.2.1, u.1.2.2.2.1.2.2))) ?_ 5 _ ⟨by dsimp only; omega, by dsimp only; omega, hh, hs, hv⟩ (by rw [lots_eq]; omega)
 intro rec m u ⟨hm, h1, hh, hs, hv⟩ ih
 unfold l_z_5
 refine Dr.ite (fun c => ?_) fun c => ?_
 ·rw [ltI_t] at c
  have e : IntKind.i64.wrap ((u.1.2.2.2.2.1 : Int) + 1) = (u.1.2.2.2.2.1 : Int) + 1 := wrap64 (by omega) (by omega)
  have hv' : (u.1.2.2.2.1.1 : List TwoD).length = 8 ∧ u.1.2.2.2.1.2.1 + u.1.2.2.2.1.2.2 = 8 ∧ 7 ≤ u.1.2.2.2.1.2.2 := hv
  have q : ∀ (i : Int) (n : Nat), 0 ≤ i → i < 5 → 7 ≤ n → i.tmod ((n : Nat) : Int) = i := fun i n a b c => Int.tmod_eq_of_lt a (by omega)
  have e2 : Int.tmod (u.1.2.2.2.2.1 : Int) ((u.1.2.2.2.1.2.2 : Nat) : Int) = (u.1.2.2.2.2.1 : Int) := q _ _ h1 c hv'.2.2
  refine Dr.nguard (by omega) ?_
  rw [e2]
  refine Dr.vget (by omega) (by omega) fun _ _ => ih (m - 1) _ (by omega) ?_
  rw [e]
  exact ⟨by dsimp only; omega, by dsimp only; omega, hh, hs, by simpa [Vw] using hv'⟩
 ·exact Dr.ret ⟨_, rfl, hh, hs, hv⟩
theorem World11_d {h : HartD} {s : SrcD} {k : Int} (z : HartD) {v : List TwoD × Nat × Nat} {ms im : List Int} (hh : HB h) (hs : Sr s k) (hv : Vw v) (hm : ms.length = 48) (hi : (im.length : Int) = 40) :
  Dr (L_z_11 (((), ((), ((), ((v.1, (v.2.1, v.2.2)), (ms, (im, ((0 : Int), ()))))))), ((z, (h, (s, ()))), ()))) fun o => ∃ x, o = .inl x ∧ HB x.2.1.2.1 ∧ Sr x.2.1.2.2.1 k ∧ Vw (x.1.2.2.2.1.1, (x.1.2.2.2.1.2.1, x.1.2.2.2.1.2.2)) ∧ (x.1.2.2.2.2.1 : List Int).length = 48 := by
 refine iter_d (fun m u => (m : Int) = 40 - (u.1.2.2.2.2.2.2.1 : Int) ∧ 0 ≤ (u.1.2.2.2.2.2.2.1 : Int) ∧ HB u.2.1.2.1 ∧ Sr u.2.1.2.2.1 k ∧ Vw (u.1.2.2.2.1.1, (u.1.2.2.2.1.2.1, u.1.2.2.2.1.2.2)) ∧ (u.1.2.2.2.2.1 : List Int).length = 48 ∧ ((u.1.2.2.2.2.2.1 : List Int).length : Int) = 40) ?_ 40 _ ⟨by dsimp only; omega, by dsimp only; omega, hh, hs, hv, hm, hi⟩ (by rw [lots_eq]; omega)
 intro rec m u ⟨hm, h1, hh, hs, hv, hl, hi⟩ ih
 unfold l_z_11
 refine Dr.ite (fun c => ?_) fun c => ?_
 ·rw [ltI_t] at c
  have c : (u.1.2.2.2.2.2.2.1 : Int) < 40 := by rw [← hi]; exact c
  have e : IntKind.i64.wrap ((u.1.2.2.2.2.2.2.1 : Int) + 1) = (u.1.2.2.2.2.2.2.1 : Int) + 1 := wrap64 (by omega) (by omega)
  refine Dr.gat rfl (by omega) fun _ _ => Dr.gat hl (by omega) fun _ _ => ih (m - 1) _ (by omega) ?_
  rw [e]
  exact ⟨by dsimp only; omega, by dsimp only; omega, hh, hs, hv, by simpa using hl, hi⟩
 ·exact Dr.ret ⟨_, rfl, hh, hs, hv, hl⟩
theorem World16_d {h : HartD} {s : SrcD} {k : Int} (z : HartD) {v : List TwoD × Nat × Nat} {ms : List Int} (hh : HB h) (hs : Sr s k) (hk : k ≤ 1000000000) (hv : Vw v) (hm : ms.length = 48) :
  Dr (L_z_16 (((), ((), ((), ((v.1, (v.2.1, v.2.2)), (ms, ((0 : Int), ())))))), ((z, (h, (s, ()))), ()))) fun o => ∃ x, o = .inl x ∧ HB x.2.1.2.1 ∧ Sr x.2.1.2.2.1 (k + 16) ∧ Vw (x.1.2.2.2.1.1, (x.1.2.2.2.1.2.1, x.1.2.2.2.1.2.2)) ∧ (x.1.2.2.2.2.1 : List Int).length = 48 := by
 refine iter_d (fun m u => (m : Int) = 8 - (u.1.2.2.2.2.2.1 : Int) ∧ 0 ≤ (u.1.2.2.2.2.2.1 : Int) ∧ HB u.2.1.2.1 ∧ Sr u.2.1.2.2.1 (k + 2 * (u.1.2.2.2.2.2.1 : Int)) ∧ Vw (u.1.2.2.2.1.1, (u.1.2.2.2.1.2.1, u.1.2.2.2.1.2.2)) ∧ (u.1.2.2.2.2.1 : List Int).length = 48) ?_ 8 _ ⟨by dsimp only; omega, by dsimp only; omega, hh, hs.le (by dsimp only; omega), hv, hm⟩ (by rw [lots_eq]; omega)
 intro rec m u ⟨hm, h1, hh, hs, hv, hl⟩ ih
 unfold l_z_16
 refine Dr.ite (fun c => ?_) fun c => ?_
 ·rw [ltI_t] at c
  have e : IntKind.i64.wrap ((u.1.2.2.2.2.2.1 : Int) + 1) = (u.1.2.2.2.2.2.1 : Int) + 1 := wrap64 (by omega) (by omega)
  have e2 : IntKind.i64.wrap (8 + (u.1.2.2.2.2.2.1 : Int)) = 8 + (u.1.2.2.2.2.2.1 : Int) := wrap64 (by omega) (by omega)
  refine (next_d hs (by omega) _).bind fun r28 h28 => (next_d h28.1 (by omega) _).bind fun r30 h30 => ?_
  rw [e2]
  refine Dr.gat hl (by omega) fun _ _ => ih (m - 1) _ (by omega) ?_
  rw [e]
  exact ⟨by dsimp only; omega, by dsimp only; omega, hh, h30.1.le (by dsimp only; omega), hv, by simpa using hl⟩
 ·rw [ltI_t] at c
  exact Dr.ret ⟨_, rfl, hh, hs.le (by omega), hv, hl⟩
/-- What is drawn: a machine, pages, a memory; all small. -/
structure WLe (h : HartD) (l : List TwoD) (m : List Int) : Prop where
 h : hartLe 1048576 h
 l : l.length ≤ 8
 m : m.length ≤ 200
theorem vw_len {v : List TwoD × Nat × Nat} (h : Vw v) : ((v.1.drop v.2.1).take v.2.2).length ≤ 8 := by unfold Vw at h; rw [List.length_take]; omega
theorem l10World_d {s : SrcD} {k : Int} (hs : Sr s k) (hk : k ≤ 1000000) : Dr (F_z (s, ())) fun r => Sr r.2.1 (k + 10000) ∧ WLe r.1.1 r.1.2.1 r.1.2.2.1 := by
 have hk0 := hs.pos
 unfold F_z
 refine (l8Bent_d hs (by omega)).bind fun r1 h1 => (l4Bent_d h1.1 (by omega) _).bind fun r2 h2 => (chance_d h2.1 (by omega) _).bind fun r3 h3 => Dr.ite (fun _ => ?_) fun _ => ?_
 ·refine (World5_d _ h1.2 h3 h2.2).bind fun z hz => ?_
  obtain ⟨x, rfl, g1, g2, g3⟩ := hz
  refine (newMem_d 6 (by omega)).bind fun r12 h12 => (image_d g2 (by omega) 40 (by omega) (by omega)).bind fun r13 h13 => ?_
  refine (World11_d _ g1 h13.1 g3 (by omega) h13.2).bind fun z hz => ?_
  obtain ⟨x, rfl, g1, g2, g3, g4⟩ := hz
  refine (chance_d g2 (by omega) _).bind fun r23 h23 => Dr.ite (fun _ => ?_) fun _ => ?_
  ·refine (World16_d _ g1 h23 (by omega) g3 g4).bind fun z hz => ?_
   obtain ⟨x, rfl, g1, g2, g3, g4⟩ := hz
   refine Dr.ite (fun _ => Dr.gat g1.c (by omega) fun _ _ => ?_) fun _ => ?_
   ·refine (chance_d g2 (by omega) _).bind fun r40 h40 => Dr.ite (fun _ => ?_) fun _ => ?_
    ·exact (l3Memory_d h40 (by omega)).bind fun r41 h41 => Dr.ret ⟨h41.1.le (by omega), HB.le ⟨g1.r, by simpa using g1.c, g1.i, g1.o⟩, vw_len g3, h41.2⟩
    ·exact Dr.ret ⟨h40.le (by omega), HB.le ⟨g1.r, by simpa using g1.c, g1.i, g1.o⟩, vw_len g3, Nat.le_trans (Nat.le_of_eq g4) (by decide)⟩
   ·refine (chance_d g2 (by omega) _).bind fun r40 h40 => Dr.ite (fun _ => ?_) fun _ => ?_
    ·exact (l3Memory_d h40 (by omega)).bind fun r41 h41 => Dr.ret ⟨h41.1.le (by omega), g1.le, vw_len g3, h41.2⟩
    ·exact Dr.ret ⟨h40.le (by omega), g1.le, vw_len g3, Nat.le_trans (Nat.le_of_eq g4) (by decide)⟩
  ·refine (chance_d h23 (by omega) _).bind fun r40 h40 => Dr.ite (fun _ => ?_) fun _ => ?_
   ·exact (l3Memory_d h40 (by omega)).bind fun r41 h41 => Dr.ret ⟨h41.1.le (by omega), g1.le, vw_len g3, h41.2⟩
   ·exact Dr.ret ⟨h40.le (by omega), g1.le, vw_len g3, Nat.le_trans (Nat.le_of_eq g4) (by decide)⟩
 ·refine (newMem_d 6 (by omega)).bind fun r12 h12 => (image_d h3 (by omega) 40 (by omega) (by omega)).bind fun r13 h13 => ?_
  refine (World11_d _ h1.2 h13.1 h2.2 (by omega) h13.2).bind fun z hz => ?_
  obtain ⟨x, rfl, g1, g2, g3, g4⟩ := hz
  refine (chance_d g2 (by omega) _).bind fun r23 h23 => Dr.ite (fun _ => ?_) fun _ => ?_
  ·refine (World16_d _ g1 h23 (by omega) g3 g4).bind fun z hz => ?_
   obtain ⟨x, rfl, g1, g2, g3, g4⟩ := hz
   refine Dr.ite (fun _ => Dr.gat g1.c (by omega) fun _ _ => ?_) fun _ => ?_
   ·refine (chance_d g2 (by omega) _).bind fun r40 h40 => Dr.ite (fun _ => ?_) fun _ => ?_
    ·exact (l3Memory_d h40 (by omega)).bind fun r41 h41 => Dr.ret ⟨h41.1.le (by omega), HB.le ⟨g1.r, by simpa using g1.c, g1.i, g1.o⟩, vw_len g3, h41.2⟩
    ·exact Dr.ret ⟨h40.le (by omega), HB.le ⟨g1.r, by simpa using g1.c, g1.i, g1.o⟩, vw_len g3, Nat.le_trans (Nat.le_of_eq g4) (by decide)⟩
   ·refine (chance_d g2 (by omega) _).bind fun r40 h40 => Dr.ite (fun _ => ?_) fun _ => ?_
    ·exact (l3Memory_d h40 (by omega)).bind fun r41 h41 => Dr.ret ⟨h41.1.le (by omega), g1.le, vw_len g3, h41.2⟩
    ·exact Dr.ret ⟨h40.le (by omega), g1.le, vw_len g3, Nat.le_trans (Nat.le_of_eq g4) (by decide)⟩
  ·refine (chance_d h23 (by omega) _).bind fun r40 h40 => Dr.ite (fun _ => ?_) fun _ => ?_
   ·exact (l3Memory_d h40 (by omega)).bind fun r41 h41 => Dr.ret ⟨h41.1.le (by omega), g1.le, vw_len g3, h41.2⟩
   ·exact Dr.ret ⟨h40.le (by omega), g1.le, vw_len g3, Nat.le_trans (Nat.le_of_eq g4) (by decide)⟩
theorem Dr.step {X Y : Type} {o : Option X} {v : X} {f : X → Option Y} {P : Y → Prop} (h : o = some v) (g : Dr (f v) P) : Dr (o.bind f) P := by rw [h]; exact g
theorem Dr.pos {X : Type} {c : Prop} [Decidable c] {a b : Option X} {P : X → Prop} (hc : c) (h : Dr a P) : Dr (if c then a else b) P := by rw [if_pos hc]; exact h
theorem Dr.neg {X : Type} {c : Prop} [Decidable c] {a b : Option X} {P : X → Prop} (hc : ¬ c) (h : Dr b P) : Dr (if c then a else b) P := by rw [if_neg hc]; exact h
theorem Dr.eq {X : Type} {o : Option X} {v : X} (h : Dr o fun r => r = v) : o = some v := by
 obtain ⟨_, e, rfl⟩ := h
 exact e
/-- What a law's text answers. -/
abbrev Yes (o : Option ((Bool × Unit) × Unit)) : Prop := Dr o fun r => r = ((true, ()), ())
theorem yes {b : Bool} (h : b = true) : Yes (some ((b, ()), ())) := by subst h; exact ⟨_, rfl, rfl⟩
def Mc.hart (s : Mc) : HartD := (s.r, s.pc, s.cs, s.ha, s.wa, s.ru, s.dn, s.iq, s.oq, ())
theorem exM_mlen (s : Mc) (l : List TwoD) (op d a i : Int) : (exM s l op d a i).2.2.2.m.length = s.m.length := by
 unfold exM
 let P : Bool × Int × Int × Mc → Prop := fun x => x.2.2.2.m.length = s.m.length
 exact ite_P P (fun _ => rfl) fun _ => ite_P P (fun _ => rfl) fun _ => ite_P P (fun _ => ite_P P (fun _ => rfl) fun _ => ite_P P (fun _ => rfl) fun _ => rfl) fun _ =>
  ite_P P (fun _ => ite_P P (fun _ => rfl) fun _ => ite_P P (fun _ => rfl) fun _ => List.length_set) fun _ => ite_P P (fun _ => rfl) fun _ => ite_P P (fun _ => rfl) fun _ => ite_P P (fun _ => rfl) fun _ =>
  ite_P P (fun _ => rfl) fun _ => ite_P P (fun _ => rfl) fun _ => ite_P P (fun _ => rfl) fun _ => ite_P P (fun _ => rfl) fun _ => ite_P P (fun _ => rfl) fun _ => ite_P P (fun _ => rfl) fun _ => rfl
theorem doM_mlen (s : Mc) (l : List TwoD) (op d a i : Int) : (doM s l op d a i).2.m.length = s.m.length := by
 have := exM_mlen s l op d a i
 unfold doM
 dsimp only
 split <;> exact this
theorem runM_mlen (s : Mc) (l : List TwoD) : (runM s l).m.length = s.m.length := by
 unfold runM
 dsimp only
 split
 ·rfl
 ·split
  ·split
   ·exact doM_mlen s l _ _ _ _
   ·exact doM_mlen s l _ _ _ _
  ·rfl
theorem stepM_mlen (s : Mc) (l : List TwoD) : (stepM s l).m.length = s.m.length := by
 unfold stepM
 dsimp only
 split
 ·rfl
 ·split
  ·rfl
  ·split
   ·split
    ·rfl
    ·exact runM_mlen { s with ring := -1, fall := -1, wa := false } l
   ·exact runM_mlen { s with ring := -1, fall := -1 } l
theorem OkS.hartM {s : Mc} {l : List TwoD} (h : OkS s l) : hartM s.hart = 0 := by
 unfold Go.Proofs.YtajnommlfjfgpaaGreatDoor.hartM Mc.hart
 dsimp only
 rw [if_pos ⟨h.r.len, h.c.len, h.r.zero⟩, if_pos ⟨allW_iff.2 h.r.words, okW_iff.2 h.pc, allW_iff.2 h.c.words, allW_iff.2 h.i.words, allW_iff.2 h.o.words⟩, if_pos ⟨h.i.len, h.o.len⟩,
  if_pos (inB_t.2 h.d), if_pos ⟨h.c.st, h.c.msk, h.c.tb, h.c.pd, h.c.tm⟩]
theorem OkS.hle {s : Mc} {l : List TwoD} (h : OkS s l) : hartLe 1048576 s.hart := srH_le (srLe_res (c := 0) (g := 0) h)
theorem askS_zero {h : HartD} {l : List TwoD} {m : List Int} (ha : askS h l m = 0) : pagesM l 24 = 0 ∧ memFault m = 0 ∧ outL l m = false := by
 unfold askS at ha
 split at ha
 ·exact absurd ha ‹_›
 split at ha
 ·exact absurd ha ‹_›
 rename_i h2
 split at ha
 ·omega
 rename_i h3
 split at ha
 ·omega
 rename_i h4
 exact ⟨by simpa using h2, by simpa using h3, by simpa using h4⟩
theorem manyS_no {h : HartD} {l : List TwoD} {m : List Int} {n : Int} (hq : (manyS h l m n).1 = 0) : askS h l m = 0 ∧ 0 ≤ n ∧ n ≤ 500 := by
 unfold manyS at hq
 split at hq
 ·exact absurd hq ‹_›
 ·rename_i ha
  split at hq
  ·rename_i hn; exact ⟨by simpa using ha, hn⟩
  ·exact absurd hq (by decide)
theorem big_or {c : List Int} (h : ¬ (1048576 : Int) < ((c.length : Nat) : Int)) (hb : ∀ b ∈ c, 0 ≤ b ∧ b ≤ 255) : Byt c := ⟨hb, by omega⟩
section
variable {l : List TwoD} {s s' : Mc}
/-- A word that turns lies in a page that may be written. -/
def MemW (l : List TwoD) (m m' : List Int) : Prop := ∀ i : Nat, m'[i]? ≠ m[i]? → ∃ p ∈ l, p.1 = ((i / 8 : Nat) : Int) ∧ iand .i64 p.2.1 2 ≠ 0
theorem MemW.refl (l : List TwoD) (m : List Int) : MemW l m m := fun i h => absurd rfl h
theorem walkM_may {l : List TwoD} (hl : l.length = 8) {at_ kind : Int} (h0 : 0 ≤ walkM l at_ kind) : ∃ p ∈ l, p.1 = walkM l at_ kind / 8 ∧ iand .i64 p.2.1 kind ≠ 0 := by
 unfold walkM at *
 split at h0
 ·rename_i h1
  rw [if_pos h1]
  split at h0
  ·rename_i h2
   rw [if_pos h2]
   refine ⟨_, getD_mem (l := l) (k := (at_ / 8).toNat) (d := (-1, 0, ())) (by rw [hl]; omega), by omega, ?_⟩
   simp only [mayP, Bool.and_eq_true, decide_eq_true_eq] at h2
   simpa using h2.2
  ·omega
 ·omega
theorem placeM_walk {cs : List Int} {m : List Int} {at_ kind : Int} (h0 : (placeM cs l m at_ kind).2 = 0) (h1 : ¬ 1000 ≤ (placeM cs l m at_ kind).1) : ∃ g, (placeM cs l m at_ kind).1 = walkM l g kind ∧ 0 ≤ walkM l g kind := by
 unfold placeM at *
 cases hs : spaceM cs l m with
 | none => rw [hs] at h0; simp at h0
 | some s =>
  rw [hs] at h0 h1
  simp only at h0 h1 ⊢
  split at h0
  ·exact absurd h0 (codeK_ne kind)
  ·rename_i a1
   rw [if_neg a1] at h1 ⊢
   split at h0
   ·rename_i a2
    rw [if_pos a2] at h1 ⊢
    split at h0
    ·simp at h0
    ·rename_i a3
     rw [if_neg a3] at h1 ⊢
     exfalso
     simp only at h1
     omega
   ·rename_i a2
    rw [if_neg a2] at h1 ⊢
    split at h0
    ·exact absurd h0 (codeK_ne kind)
    ·rename_i a3
     rw [if_neg a3] at h1 ⊢
     exact ⟨_, rfl, by omega⟩
theorem exM_mem (hl : l.length = 8) (s : Mc) (op d a i : Int) : MemW l s.m (exM s l op d a i).2.2.2.m := by
 unfold exM
 let P : Bool × Int × Int × Mc → Prop := fun x => MemW l s.m x.2.2.2.m
 have r0 := MemW.refl l s.m
 refine ite_P P (fun _ => r0) fun _ => ite_P P (fun _ => r0) fun _ => ite_P P (fun _ => ite_P P (fun _ => r0) fun _ => ite_P P (fun _ => r0) fun _ => r0) fun _ =>
  ite_P P (fun _ => ite_P P (fun _ => r0) fun h2 => ite_P P (fun _ => r0) fun h1 => ?_) fun _ => ite_P P (fun _ => r0) fun _ => ite_P P (fun _ => r0) fun _ => ite_P P (fun _ => r0) fun _ =>
  ite_P P (fun _ => r0) fun _ => ite_P P (fun _ => r0) fun _ => ite_P P (fun _ => r0) fun _ => ite_P P (fun _ => r0) fun _ => ite_P P (fun _ => r0) fun _ => ite_P P (fun _ => r0) fun _ => r0
 intro k hk
 obtain ⟨g, e1, e2⟩ := placeM_walk (by simpa using h2) h1
 obtain ⟨p, hp, q1, q2⟩ := walkM_may hl e2
 dsimp only at hk
 rw [e1] at hk
 by_cases hkk : (walkM l g 2).toNat = k
 ·subst hkk
  exact ⟨p, hp, by rw [q1]; omega, q2⟩
 ·exact absurd (List.getElem?_set_ne hkk) hk
theorem exM_dn (s : Mc) (l : List TwoD) (op d a i : Int) : (exM s l op d a i).2.2.2.dn = s.dn ∧ ((exM s l op d a i).1 = true → (exM s l op d a i).2.2.2.fall = s.fall) := by
 unfold exM
 let P : Bool × Int × Int × Mc → Prop := fun x => x.2.2.2.dn = s.dn ∧ (x.1 = true → x.2.2.2.fall = s.fall)
 have r0 : ∀ {x : Bool × Int × Int × Mc}, x.2.2.2.dn = s.dn → x.2.2.2.fall = s.fall → P x := fun h1 h2 => ⟨h1, fun _ => h2⟩
 have r1 : ∀ {c t : Int}, P (false, 0, 0, s.trap c t) := ⟨rfl, fun h => by cases h⟩
 exact ite_P P (fun _ => r0 rfl rfl) fun _ => ite_P P (fun _ => r0 rfl rfl) fun _ => ite_P P (fun _ => ite_P P (fun _ => r1) fun _ => ite_P P (fun _ => r0 rfl rfl) fun _ => r0 rfl rfl) fun _ =>
  ite_P P (fun _ => ite_P P (fun _ => r1) fun h2 => ite_P P (fun _ => r0 rfl rfl) fun h1 => r0 rfl rfl) fun _ => ite_P P (fun _ => r0 rfl rfl) fun _ => ite_P P (fun _ => r0 rfl rfl) fun _ => ite_P P (fun _ => r0 rfl rfl) fun _ =>
  ite_P P (fun _ => r0 rfl rfl) fun _ => ite_P P (fun _ => r0 rfl rfl) fun _ => ite_P P (fun _ => r1) fun _ => ite_P P (fun _ => r0 rfl rfl) fun _ => ite_P P (fun _ => r0 rfl rfl) fun _ => ite_P P (fun _ => r0 rfl rfl) fun _ => r0 rfl rfl
/-- What a step does. -/
structure StepP (l : List TwoD) (s s' : Mc) : Prop where
 mem : MemW l s.m s'.m
 dn : s.dn ≤ s'.dn ∧ s'.dn ≤ s.dn + 1
 fl : 0 ≤ s'.fall → s'.dn = s.dn
theorem doM_p (hl : l.length = 8) (s : Mc) (op d a i : Int) : MemW l s.m (doM s l op d a i).2.m ∧ (doM s l op d a i).2.dn = s.dn ∧ ((doM s l op d a i).1 = true → (doM s l op d a i).2.fall = s.fall) := by
 have h1 := exM_mem hl s op d a i
 have h2 := exM_dn s l op d a i
 unfold doM
 dsimp only
 split
 ·rename_i h
  exact ⟨h1, h2.1, fun _ => h2.2 h⟩
 ·exact ⟨h1, h2.1, fun h => by cases h⟩
theorem runM_p (hl : l.length = 8) (s : Mc) (hf : s.fall = -1) (hd : s.dn ≤ 1000000000) : StepP l s (runM s l) := by
 have r1 : ∀ {c t : Int}, StepP l s (s.trap c t) := ⟨MemW.refl l s.m, ⟨Int.le_refl _, by show s.dn ≤ s.dn + 1; omega⟩, fun _ => rfl⟩
 unfold runM
 refine ite_P (StepP l s) (fun _ => r1) fun _ => ite_P (StepP l s) (fun _ => ?_) fun _ => r1
 generalize (decM (s.m.getD (placeM s.cs l s.m s.pc 4).1.toNat 0)) = x
 obtain ⟨h1, h2, h3⟩ := doM_p hl s x.1 x.2.1 x.2.2.1 x.2.2.2.1
 refine ite_P (StepP l s) (fun ht => ?_) fun _ => ⟨h1, by omega, fun _ => h2⟩
 refine ⟨h1, ?_, fun h => ?_⟩
 ·unfold moreM
  dsimp only
  rw [h2]
  split <;> omega
 ·exfalso
  have : (moreM (doM s l x.1 x.2.1 x.2.2.1 x.2.2.2.1).2).fall = -1 := by rw [← hf]; exact h3 ht
  omega
theorem stepM_p (hl : l.length = 8) (s : Mc) (hd : s.dn ≤ 1000000000) : StepP l s (stepM s l) ∧ (s.ha = true → (stepM s l).pc = s.pc) := by
 have r0 : StepP l s { s with ring := -1, fall := -1 } := ⟨MemW.refl l s.m, ⟨Int.le_refl _, by show s.dn ≤ s.dn + 1; omega⟩, fun _ => rfl⟩
 have r1 : ∀ {c t : Int}, StepP l s (Mc.trap { s with ring := -1, fall := -1 } c t) := ⟨MemW.refl l s.m, ⟨Int.le_refl _, by show s.dn ≤ s.dn + 1; omega⟩, fun _ => rfl⟩
 have ra : ∀ b, StepP l s (runM { s with ring := -1, fall := -1, wa := b } l) := fun b => by
  obtain ⟨h1, h2, h3⟩ := runM_p hl { s with ring := -1, fall := -1, wa := b } rfl hd
  exact ⟨h1, h2, h3⟩
 unfold stepM
 refine ite_P (fun x => StepP l s x ∧ (s.ha = true → x.pc = s.pc)) (fun _ => ⟨r0, fun _ => rfl⟩) fun h => ⟨?_, fun h' => absurd h' h⟩
 exact ite_P (StepP l s) (fun _ => r1) fun _ => ite_P (StepP l s) (fun _ => ite_P (StepP l s) (fun _ => r0) fun _ => ra false) fun _ => ra s.wa
theorem steps15_d (l : List TwoD) (m : List Int) (hl : l.length ≤ 1000) (i : Nat) (hi : i < 1000) (z z2 : _) (h : ∃ p ∈ l, p.1 = ((i / 8 : Nat) : Int) ∧ iand .i64 p.2.1 2 ≠ 0) :
  Dr (L_dq_15 (((), (l, (m, ((), ((i : Int), (false, ((0 : Int), ()))))))), ((z, (z2, ())), ()))) fun o => o = .inl (((), (l, (m, ((), ((i : Int), (true, ())))))), ((z, (z2, ())), ())) := by
 refine iter_d (fun n u => ∃ (k : Nat) (b : Bool), u = (((), (l, (m, ((), ((i : Int), (b, ((k : Int), ()))))))), ((z, (z2, ())), ())) ∧ n = l.length - k ∧ k ≤ l.length ∧ (b = true ∨ ∃ p ∈ l.drop k, p.1 = ((i / 8 : Nat) : Int) ∧ iand .i64 p.2.1 2 ≠ 0)) ?_ l.length _ ⟨0, false, rfl, rfl, Nat.zero_le _, .inr h⟩ (by rw [lots_eq]; omega)
 rintro rec n _ ⟨k, b, rfl, hn, hk, hb⟩ ih
 unfold l_dq_15
 dsimp only
 by_cases hlt : k < l.length
 case neg =>
  rw [if_neg (lt_f hlt)]
  rw [List.drop_of_length_le (by omega)] at hb
  have : b = true := hb.resolve_right (by simp)
  subst this
  exact Dr.ret rfl
 rw [if_pos (lt_t hlt), wrapS (by omega)]
 have ed : IntKind.i64.wrap ((i : Int).tdiv 8) = ((i / 8 : Nat) : Int) := by rw [Int.tdiv_eq_ediv_of_nonneg (by omega), wrap64 (by omega) (by omega)]; rfl
 rw [ed]
 cases b with
 | true =>
  rw [if_neg (by simp)]
  exact ih (n - 1) _ (by omega) ⟨k + 1, true, rfl, by omega, by omega, .inl rfl⟩
 | false =>
  rw [if_pos rfl, if_pos nat0, at_get hlt]
  have hb := hb.resolve_left (by simp)
  rw [drop_get hlt] at hb
  by_cases h1 : l[k].1 = ((i / 8 : Nat) : Int)
  ·rw [if_pos (by simpa using h1), if_pos nat0, at_get hlt]
   refine ih (n - 1) _ (by omega) ⟨k + 1, _, rfl, by omega, by omega, ?_⟩
   by_cases h2 : iand .i64 l[k].2.1 2 = 0
   ·right
    obtain ⟨p, hp, q1, q2⟩ := hb
    rcases List.mem_cons.1 hp with rfl | hp
    ·exact absurd h2 q2
    ·exact ⟨p, hp, q1, q2⟩
   ·left; simpa using h2
  ·rw [if_neg (by simpa using h1)]
   refine ih (n - 1) _ (by omega) ⟨k + 1, _, rfl, by omega, by omega, .inr ?_⟩
   obtain ⟨p, hp, q1, q2⟩ := hb
   rcases List.mem_cons.1 hp with rfl | hp
   ·exact absurd q1 h1
   ·exact ⟨p, hp, q1, q2⟩
theorem steps10_d (l : List TwoD) (m : List Int) (hl : l.length ≤ 1000) (hm : m.length ≤ 1000) (z : HartD) (s : Mc) (c g : Int) (hlen : s.m.length = m.length) (h : MemW l m s.m) :
  Dr (L_dq_10 (((), (l, (m, ((), ((0 : Int), ()))))), ((z, (s.res c g, ())), ()))) fun o => o = .inl (((), (l, (m, ((), ())))), ((z, (s.res c g, ())), ())) := by
 refine iter_d (fun n u => ∃ (i : Nat), u = (((), (l, (m, ((), ((i : Int), ()))))), ((z, (s.res c g, ())), ())) ∧ n = m.length - i ∧ i ≤ m.length) ?_ m.length _ ⟨0, rfl, rfl, Nat.zero_le _⟩ (by rw [lots_eq]; omega)
 rintro rec n _ ⟨i, rfl, hn, hi⟩ ih
 unfold l_dq_10
 dsimp only
 by_cases hlt : i < m.length
 case neg =>
  rw [if_neg (lt_f hlt)]
  exact Dr.ret rfl
 have hlt' : i < s.m.length := by omega
 have hin : 0 ≤ (i : Int) ∧ (i : Int) < ((s.m.length : Nat) : Int) := by omega
 rw [if_pos (lt_t hlt)]
 show Dr (if 0 ≤ (i : Int) ∧ (i : Int) < ((s.m.length : Nat) : Int) then ((s.m)[(i : Int).toNat]?).bind _ else none) _
 rw [if_pos hin, at_get hlt', if_pos nat0, at_get hlt]
 by_cases he : s.m[i] = m[i]
 ·rw [if_pos (by simpa using he), wrapS (by omega)]
  exact ih (n - 1) _ (by omega) ⟨i + 1, rfl, by omega, by omega⟩
 ·rw [if_neg (by simpa using he)]
  refine (steps15_d l m hl i (by omega) z _ (h i (by rw [List.getElem?_eq_getElem hlt, List.getElem?_eq_getElem hlt']; simpa using he))).bind fun o ho => ?_
  subst ho
  dsimp only
  rw [if_neg (by simp), wrapS (by omega)]
  exact ih (n - 1) _ (by omega) ⟨i + 1, rfl, by omega, by omega⟩
theorem drawStep_d {c : List Int} (hc : Byt c) : Dr (F_aa (c, ())) fun r => WLe r.1.1 r.1.2.1 r.1.2.2.1 := by
 unfold F_aa
 exact (source_d hc).bind fun r1 h1 => (l10World_d h1 (by omega)).bind fun r2 h2 => Dr.ret h2.2
theorem manyS1 {h : HartD} {l : List TwoD} {m : List Int} (ha : askS h l m = 0) : manyS h l m 1 = (stepM (Mc.of h m) l).res (stepM (Mc.of h m) l).fall (stepM (Mc.of h m) l).ring := by
 rw [manyS_one, if_neg (by simpa using ha)]
theorem steps_law (c : List Int) (hb : ∀ b ∈ c, 0 ≤ b ∧ b ≤ 255) : Yes (F_dq (c, ())) := by
 unfold F_dq F_a
 refine Dr.step rfl (Dr.ite (fun _ => yes rfl) fun h0 => ?_)
 have hc : Byt c := big_or (by rw [ltI_t] at h0; exact h0) hb
 refine (drawStep_d hc).bind fun r2 h2 => ?_
 obtain ⟨⟨h, l, m, _⟩, _⟩ := r2
 obtain ⟨hh, hl, hm⟩ := h2
 have hl8 : List.length (α := TwoD) l ≤ 1000 := Nat.le_trans hl (by decide)
 have hm2 : List.length (α := Int) m ≤ 1000 := Nat.le_trans hm (by decide)
 have hl : List.length (α := TwoD) l ≤ 1048576 := by omega
 have hm : List.length (α := Int) m ≤ 1048576 := by omega
 refine Dr.step (implStepHart_e h l m hh hl hm) (Dr.ite (fun hz => Dr.step (specStepHart_e h l m hh hl hm) (yes (by simp))) fun hz => ?_)
 obtain ⟨ha, _⟩ := manyS_no (h := h) (l := l) (m := m) (n := 1) (by simpa using hz)
 have hok := okS_of ha
 obtain ⟨⟨p1, p2, p3⟩, p4⟩ := stepM_p hok.l.len (Mc.of h m) hok.d.2
 have ho := stepM_ok hok
 have hlen := stepM_mlen (Mc.of h m) l
 have e1 := specStepHart_e h l m hh hl hm
 rw [manyS1 ha] at e1
 rw [manyS1 ha]
 have hd0 : 0 ≤ (Mc.of h m).dn ∧ (Mc.of h m).dn ≤ 1000000000 := hok.d
 have hmz : memFault (stepM (Mc.of h m) l).m = 0 := by
  unfold memFault
  have hmm : (Mc.of h m).m.length % 8 = 0 ∧ 8 ≤ (Mc.of h m).m.length ∧ (Mc.of h m).m.length ≤ 192 := memFault_zero (askS_zero ha).2.1
  rw [hlen, if_pos hmm, if_pos (allW_iff.2 ho.l.words)]
 generalize stepM (Mc.of h m) l = t at *
 obtain ⟨hr, hpc, hcs, hha, hwa, hru, hdn, hiq, hoq, _⟩ := h
 have e2 := implHart_eq t.hart ho.hle
 rw [ho.hartM] at e2
 have e3 := implFault_eq t.m (by have := ho.l.mlen; rw [maxLen_eq]; omega)
 rw [hmz] at e3
 dsimp only [Mc.of] at *
 dsimp only [Mc.res]
 have hrl := ho.r.len
 have hz0 : t.r.getD 0 0 = 0 := ho.r.zero
 have ew : IntKind.i64.wrap (hdn + 1) = hdn + 1 := wrap64 (by omega) (by omega)
 refine Dr.step e2 (Dr.pos (by simp) (Dr.step e3 (Dr.pos (by simp) (Dr.pos (by simp [hlen]) (Dr.pos (by rw [hrl]; decide) ?_)))))
 rw [at_lit 0 rfl (by omega), hz0, ew]
 refine Dr.pos (by simp) (Dr.pos (by rw [ltI_f]; omega) (Dr.pos (by rw [ltI_f]; omega) ?_))
 have fin : ∀ {P : Prop}, Dr (L_dq_10 (((), (l, (m, ((), ((0 : Int), ()))))), (((hr, hpc, hcs, hha, hwa, hru, hdn, hiq, hoq, ()), (t.res t.fall t.ring, ())), ()))) fun o => o = .inl (((), (l, (m, ((), ())))), (((hr, hpc, hcs, hha, hwa, hru, hdn, hiq, hoq, ()), (t.res t.fall t.ring, ())), ())) :=
  fun {P} => steps10_d l m hl8 hm2 _ t _ _ hlen p1
 refine Dr.ite (fun hf => Dr.pos ?_ (Dr.ite (fun hh' => Dr.neg ?_ ?_) fun hh' => ?_)) fun hf => Dr.ite (fun hh' => Dr.neg ?_ ?_) fun hh' => ?_
 ·rw [leI_t] at hf
  simp [p3 hf]
 ·simp [p4 hh']
 ·refine (fin (P := True)).bind fun o ho => ?_
  subst ho
  exact Dr.step e1 (yes (by simp [Mc.res]))
 ·refine (fin (P := True)).bind fun o ho => ?_
  subst ho
  exact Dr.step e1 (yes (by simp [Mc.res]))
 ·simp [p4 hh']
 ·refine (fin (P := True)).bind fun o ho => ?_
  subst ho
  exact Dr.step e1 (yes (by simp [Mc.res]))
 ·refine (fin (P := True)).bind fun o ho => ?_
  subst ho
  exact Dr.step e1 (yes (by simp [Mc.res]))
theorem bytes_of {c : List Int} (hc : ∀ x ∈ c, inR (.int .u8) x) : ∀ b ∈ c, 0 ≤ b ∧ b ≤ 255 := fun b hb => by
 have := hc b hb
 have h1 : IntKind.u8.min = 0 := by decide
 have h2 : IntKind.u8.max = 255 := by decide
 simp only [inR, h1, h2] at this
 exact this
theorem steps_F : ∀ x, inRP P_dq x → F_dq x = some ((true, ()), ()) := by
 rintro ⟨c, _⟩ ⟨hc, _⟩
 exact (steps_law c (bytes_of hc.2)).eq
end
end Go.Proofs.YtajnommlfjfgpaaGreatDoor
