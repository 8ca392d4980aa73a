/- Plain laws: what the functions compute, and that both programs compute the same. -/
import Derived.Test.YtkbcjonmodmfcaaGreatDoorPb1
namespace Go.Proofs.YtkbcjonmodmfcaaGreatDoor
open Go Go.RowKit S Go.Proofs
set_option maxRecDepth 100000
set_option linter.unusedVariables false
set_option linter.unusedSimpArgs false
section
variable {r cs iq oq m : List Int} {pc dn ring fall : Int} {ha wa ru : Bool} {l : List TwoD}
theorem implRead_e (hc : OkC cs) (hq : OkQ iq) (k : Int) : F_impl_Hart_readDevice ((r, pc, cs, ha, wa, ru, dn, iq, oq, ()), k, ()) =
    some (((readM cs ru dn iq k).1, ()), ((r, pc, cs, ha, wa, ru, dn, (readM cs ru dn iq k).2, oq, ()), ())) := by
  unfold F_impl_Hart_readDevice readM
  dsimp only
  rw [implPend_e hc, Option.bind_some]
  have hl := hq.len
  by_cases h1 : k = 1
  · subst h1
    rw [if_pos (by decide), if_pos rfl]
    cases iq with
    | nil => rfl
    | cons w t =>
      have hlt : ltI 0 (((w :: t).length : Nat) : Int) = true := ltI_t.2 (by simp only [List.length_cons]; omega)
      rw [if_pos hlt, if_pos (by simp only [List.length_cons]; omega)]
      simp only [show ((0 : Int)).toNat = 0 from rfl, show ((1 : Int)).toNat = 1 from rfl, List.getElem?_cons_zero, Option.bind_some]
      rw [if_pos (by simp only [List.length_cons]; omega)]
      have e : ((w :: t).drop 1).take ((((w :: t).length : Nat) : Int).toNat - 1) = t := by simp
      rw [e, clone_e (by simp at hl; omega), Option.bind_some]
      rfl
  rw [if_neg (by simpa using h1), if_neg h1]
  by_cases h2 : k = 2
  · subst h2; rfl
  rw [if_neg (by simpa using h2), if_neg h2]
  by_cases h3 : k = 3
  · subst h3
    rw [if_pos (by decide), if_pos rfl, if_pos (by rw [hc.len]; decide), get_bind 0 (by rw [hc.len]; decide)]; rfl
  rw [if_neg (by simpa using h3), if_neg h3]
  by_cases h4 : k = 4
  · subst h4; rfl
  rw [if_neg (by simpa using h4), if_neg h4]
  by_cases h6 : k = 6
  · subst h6; rfl
  rw [if_neg (by simpa using h6), if_neg h6]

theorem readM_ok (hc : OkC cs) (hq : OkQ iq) (hd : 0 ≤ dn ∧ dn ≤ 1000000000) (k : Int) : WW (readM cs ru dn iq k).1 ∧ OkQ (readM cs ru dn iq k).2 := by
  have hp := pendM_le cs ru dn iq
  have hl := hq.len
  have h9 := hc.w (k := 9) (by decide)
  unfold readM
  repeat' split
  · refine ⟨?_, ⟨by simp only [List.length_drop]; omega, fun w hw => hq.words w (List.mem_of_mem_drop hw)⟩⟩
    cases iq with
    | nil => unfold WW; simp
    | cons w t => exact hq.words w (by simp)
  all_goals refine ⟨?_, hq⟩
  · unfold WW; simp only; omega
  · exact h9
  · unfold WW; simp only; omega
  · unfold WW; simp only; omega
  · unfold WW; simp

/-- What a write to a device's word turns: the ring, the csrs, whether it is rung, what is out. -/
def ringM (k w : Int) : Int := if k = 5 then wd w else -1

def wrC (cs : List Int) (k w : Int) : List Int := if k = 3 then cs.set 9 (wd w) else cs

def wrR (ru : Bool) (k w : Int) : Bool := if k = 4 then setR ru 6 (wd w) else ru

def wrO (oq : List Int) (k w : Int) : List Int := if k = 0 ∧ oq.length < 40 then oq ++ [wd w] else oq

theorem setC6 (w : Int) : setC cs 6 w = cs := by unfold setC; simp

theorem setC9 (w : Int) : setC cs 9 w = cs.set 9 (wd w) := by unfold setC; simp

theorem setR9 (w : Int) : setR ru 9 w = ru := by unfold setR; simp

theorem specWrite_e (hc : OkC cs) (hq : OkQ oq) (k w : Int) : F_spec_l9Write ((r, pc, cs, ha, wa, ru, dn, iq, oq, ()), k, w, ()) =
    some ((ringM k w, ()), ((r, pc, wrC cs k w, ha, wa, wrR ru k w, dn, iq, wrO oq k w, ()), ())) := by
  unfold F_spec_l9Write ringM wrC wrR wrO
  dsimp only
  rw [specWrap_e, Option.bind_some, specSet_e hc (by omega), Option.bind_some, setC6]
  dsimp only
  have hl := hq.len
  by_cases h0 : k = 0
  · subst h0
    by_cases h40 : oq.length < 40
    · have : ltI ((oq.length : Nat) : Int) 40 = true := ltI_t.2 (by omega)
      rw [if_pos (by decide), if_pos this, if_pos (by simp; omega), if_neg (by decide), if_neg (by decide), if_neg (by decide), if_pos ⟨rfl, h40⟩]
    · have : ¬ ltI ((oq.length : Nat) : Int) 40 = true := by rw [ltI_t]; omega
      rw [if_pos (by decide), if_neg this, if_neg (by decide), if_neg (by decide), if_neg (by decide), if_neg (by omega)]
  rw [if_neg (by simpa using h0), if_neg (c := k = 0 ∧ oq.length < 40) (by omega)]
  by_cases h3 : k = 3
  · subst h3
    rw [if_pos (by decide), if_pos (by rw [hc.len]; decide), get_bind 0 (by rw [hc.len]; decide)]; rfl
  rw [if_neg (by simpa using h3), if_neg h3]
  by_cases h4 : k = 4
  · subst h4; rfl
  rw [if_neg (by simpa using h4), if_neg h4]
  by_cases h5 : k = 5
  · subst h5; rfl
  rw [if_neg (by simpa using h5), if_neg h5]

theorem implWrite_e (hc : OkC cs) (hq : OkQ oq) (k w : Int) : F_impl_Hart_writeDevice ((r, pc, cs, ha, wa, ru, dn, iq, oq, ()), k, w, ()) =
    some ((ringM k w, ()), ((r, pc, wrC cs k w, ha, wa, wrR ru k w, dn, iq, wrO oq k w, ()), ())) := by
  have hl := hq.len
  unfold F_impl_Hart_writeDevice ringM wrC wrR wrO
  dsimp only
  rw [implWrap_e, Option.bind_some, clone_e (by omega), Option.bind_some]
  dsimp only
  rw [implSet_e hc (by omega), Option.bind_some, implSet_e hc (by omega), Option.bind_some, setC6, setC9, setR9, wd_wd]
  by_cases h0 : k = 0
  · subst h0
    by_cases h40 : oq.length < 40
    · have : ltI ((oq.length : Nat) : Int) 40 = true := ltI_t.2 (by omega)
      rw [if_pos (by decide), if_pos this, if_pos (by simp; omega), if_neg (by decide), if_neg (by decide), if_neg (by decide), if_pos ⟨rfl, h40⟩]
    · have : ¬ ltI ((oq.length : Nat) : Int) 40 = true := by rw [ltI_t]; omega
      rw [if_pos (by decide), if_neg this, if_neg (by decide), if_neg (by decide), if_neg (by decide), if_neg (by omega)]
  rw [if_neg (by simpa using h0), if_neg (c := k = 0 ∧ oq.length < 40) (by omega)]
  by_cases h3 : k = 3
  · subst h3; rfl
  rw [if_neg (by simpa using h3), if_neg h3]
  by_cases h4 : k = 4
  · subst h4; rfl
  rw [if_neg (by simpa using h4), if_neg h4]
  by_cases h5 : k = 5
  · subst h5; rfl
  rw [if_neg (by simpa using h5), if_neg h5]

theorem wrC_ok (hc : OkC cs) (k w : Int) : OkC (wrC cs k w) := by
  unfold wrC; split
  · exact hc.set (wd_word w) (by decide) (fun e => absurd e (by decide)) (fun e => absurd e (by decide)) (fun e => absurd e (by decide))
  · exact hc

theorem wrO_ok (hq : OkQ oq) (k w : Int) : OkQ (wrO oq k w) := by
  unfold wrO; split
  · rename_i h
    refine ⟨by simp; omega, fun z hz => ?_⟩
    rcases List.mem_append.1 hz with hz | hz
    · exact hq.words z hz
    · rw [List.mem_singleton.1 hz]; exact wd_word w
  · exact hq

def badI (op d a i : Int) : Bool :=
  if op ≤ 11 then decide (15 < i) else if op = 13 ∨ op = 19 then decide (a ≠ 0) else if op = 21 then decide (10 < i ∨ a ≠ 0) else if op = 22 then decide (10 < i ∨ d ≠ 0)
  else if 23 ≤ op then decide (d ≠ 0 ∨ a ≠ 0 ∨ i ≠ 0) else false

def insM (op d a i : Int) : Int :=
  if (1 ≤ op ∧ op ≤ 26) ∧ (0 ≤ d ∧ d ≤ 15) ∧ (0 ≤ a ∧ a ≤ 15) ∧ (0 ≤ i ∧ i ≤ 65535) then (if badI op d a i = true then 1 else 0) else 3

theorem implIns_e (op d a i : Int) : F_impl_InsFault ((op, d, a, i, ()), ()) = some ((insM op d a i, ()), ()) := by
  unfold F_impl_InsFault insM
  dsimp only
  rw [within_eq, Option.bind_some, within_eq, Option.bind_some, within_eq, Option.bind_some, within_eq, Option.bind_some]
  dsimp only
  by_cases h1 : 1 ≤ op ∧ op ≤ 26
  · by_cases h2 : 0 ≤ d ∧ d ≤ 15
    · by_cases h3 : 0 ≤ a ∧ a ≤ 15
      · by_cases h4 : 0 ≤ i ∧ i ≤ 65535
        · rw [if_pos (c := (1 ≤ op ∧ op ≤ 26) ∧ (0 ≤ d ∧ d ≤ 15) ∧ (0 ≤ a ∧ a ≤ 15) ∧ (0 ≤ i ∧ i ≤ 65535)) ⟨h1, h2, h3, h4⟩, if_pos (by simp [h1]), if_pos (by simp [h2]), if_pos (by simp [h3]), if_neg (by simp [h4])]
          unfold badI
          simp only [leI_eq, ltI_eq, beq_iff_eq, bne_iff_ne, decide_eq_true_eq, decide_eq_false_iff_not, Bool.not_eq_true, bne_eq_false_iff_eq, ne_eq]
          repeat' split
          all_goals first | rfl | (exfalso; simp_all; done) | (exfalso; simp_all; omega) | (exfalso; omega)
        · rw [if_neg (c := (1 ≤ op ∧ op ≤ 26) ∧ (0 ≤ d ∧ d ≤ 15) ∧ (0 ≤ a ∧ a ≤ 15) ∧ (0 ≤ i ∧ i ≤ 65535)) (by omega), if_pos (by simp [h1]), if_pos (by simp [h2]), if_pos (by simp [h3]), if_pos (by simp; omega)]
      · rw [if_neg (c := (1 ≤ op ∧ op ≤ 26) ∧ (0 ≤ d ∧ d ≤ 15) ∧ (0 ≤ a ∧ a ≤ 15) ∧ (0 ≤ i ∧ i ≤ 65535)) (by omega), if_pos (by simp [h1]), if_pos (by simp [h2]), if_neg (by simp; omega)]
    · rw [if_neg (c := (1 ≤ op ∧ op ≤ 26) ∧ (0 ≤ d ∧ d ≤ 15) ∧ (0 ≤ a ∧ a ≤ 15) ∧ (0 ≤ i ∧ i ≤ 65535)) (by omega), if_pos (by simp [h1]), if_neg (by simp; omega)]
  · rw [if_neg (c := (1 ≤ op ∧ op ≤ 26) ∧ (0 ≤ d ∧ d ≤ 15) ∧ (0 ≤ a ∧ a ≤ 15) ∧ (0 ≤ i ∧ i ≤ 65535)) (by omega), if_neg (by simp; omega)]

def bareD (op : Int) : Bool := decide (op = 22 ∨ 23 ≤ op)

def bareA (op : Int) : Bool := decide (op = 13 ∨ op = 19 ∨ op = 21 ∨ 23 ≤ op)

def bareI (op : Int) : Bool := decide (23 ≤ op)

theorem specBare_e {op : Int} (h : op ≤ 26) : F_spec_l2Bare (op, ()) = some ((bareD op, bareA op, bareI op, ()), ()) := by
  have hc : op = 13 ∨ op = 19 ∨ op = 21 ∨ op = 22 ∨ op = 23 ∨ op = 24 ∨ op = 25 ∨ op = 26 ∨ (¬ op = 13 ∧ ¬ op = 19 ∧ ¬ op = 21 ∧ ¬ op = 22 ∧ ¬ op = 23 ∧ ¬ op = 24 ∧ ¬ op = 25 ∧ ¬ op = 26) := by omega
  rcases hc with rfl | rfl | rfl | rfl | rfl | rfl | rfl | rfl | ⟨n1, n2, n3, n4, n5, n6, n7, n8⟩
  iterate 8 rfl
  have e3 : ¬ 23 ≤ op := by omega
  unfold F_spec_l2Bare bareD bareA bareI
  simp [n1, n2, n3, n4, n5, n6, n7, n8, e3]

theorem specIns_e (op d a i : Int) : F_spec_InsFault ((op, d, a, i, ()), ()) = some ((insM op d a i, ()), ()) := by
  unfold F_spec_InsFault insM
  dsimp only
  rw [l1In_eq, Option.bind_some, l1In_eq, Option.bind_some, l1In_eq, Option.bind_some, l1In_eq, Option.bind_some]
  dsimp only
  by_cases h1 : 1 ≤ op ∧ op ≤ 26
  · by_cases h2 : 0 ≤ d ∧ d ≤ 15
    · by_cases h3 : 0 ≤ a ∧ a ≤ 15
      · by_cases h4 : 0 ≤ i ∧ i ≤ 65535
        · rw [if_pos (c := (1 ≤ op ∧ op ≤ 26) ∧ (0 ≤ d ∧ d ≤ 15) ∧ (0 ≤ a ∧ a ≤ 15) ∧ (0 ≤ i ∧ i ≤ 65535)) ⟨h1, h2, h3, h4⟩, if_pos (by simp [h1]), if_pos (by simp [h2]), if_pos (by simp [h3]), if_neg (by simp [h4]), specBare_e h1.2, Option.bind_some]
          unfold badI
          dsimp only
          have hb : (bareD op = true ↔ (op = 22 ∨ 23 ≤ op)) ∧ (bareA op = true ↔ (op = 13 ∨ op = 19 ∨ op = 21 ∨ 23 ≤ op)) ∧ (bareI op = true ↔ 23 ≤ op) := by
            unfold bareD bareA bareI; simp
          generalize bareD op = bd at *
          generalize bareA op = ba at *
          generalize bareI op = bi at *
          by_cases c1 : op ≤ 11
          · have q1 : bd = false := by rw [Bool.eq_false_iff]; intro e; have := hb.1.1 e; omega
            have q2 : ba = false := by rw [Bool.eq_false_iff]; intro e; have := hb.2.1.1 e; omega
            have q3 : bi = false := by rw [Bool.eq_false_iff]; intro e; have := hb.2.2.1 e; omega
            have n1 : ¬ op = 21 := by omega
            have n2 : ¬ op = 22 := by omega
            by_cases hi : 15 < i <;> simp [q1, q2, q3, c1, hi, leI_eq, ltI_eq, n1, n2]
          · by_cases c2 : 23 ≤ op
            · have q1 : bd = true := hb.1.2 (.inr c2)
              have q2 : ba = true := hb.2.1.2 (.inr (.inr (.inr c2)))
              have q3 : bi = true := hb.2.2.2 c2
              have n1 : ¬ op = 21 := by omega
              have n2 : ¬ op = 22 := by omega
              have n3 : ¬ op = 13 := by omega
              have n4 : ¬ op = 19 := by omega
              by_cases hd : d = 0 <;> by_cases ha' : a = 0 <;> by_cases hi : i = 0 <;> simp [q1, q2, q3, c1, c2, hd, ha', hi, leI_eq, ltI_eq, n1, n2, n3, n4]
            · have q3 : bi = false := by rw [Bool.eq_false_iff]; intro e; have := hb.2.2.1 e; omega
              by_cases c3 : op = 22
              · have q1 : bd = true := hb.1.2 (.inl c3)
                have q2 : ba = false := by rw [Bool.eq_false_iff]; intro e; have := hb.2.1.1 e; omega
                subst c3
                by_cases hd : d = 0 <;> by_cases hi : 10 < i <;> simp [q1, q2, q3, hd, hi, leI_eq, ltI_eq]
              · have q1 : bd = false := by rw [Bool.eq_false_iff]; intro e; have := hb.1.1 e; omega
                by_cases c4 : op = 21
                · have q2 : ba = true := hb.2.1.2 (by omega)
                  subst c4
                  by_cases ha' : a = 0 <;> by_cases hi : 10 < i <;> simp [q1, q2, q3, ha', hi, leI_eq, ltI_eq]
                · by_cases c5 : op = 13 ∨ op = 19
                  · have q2 : ba = true := hb.2.1.2 (by omega)
                    by_cases ha' : a = 0 <;> simp [q1, q2, q3, ha', c1, c3, c4, c5, leI_eq, ltI_eq]
                  · have q2 : ba = false := by rw [Bool.eq_false_iff]; intro e; have := hb.2.1.1 e; omega
                    simp [q1, q2, q3, c1, c2, c3, c4, c5, leI_eq, ltI_eq]
        · rw [if_neg (c := (1 ≤ op ∧ op ≤ 26) ∧ (0 ≤ d ∧ d ≤ 15) ∧ (0 ≤ a ∧ a ≤ 15) ∧ (0 ≤ i ∧ i ≤ 65535)) (by omega), if_pos (by simp [h1]), if_pos (by simp [h2]), if_pos (by simp [h3]), if_pos (by simp; omega)]
      · rw [if_neg (c := (1 ≤ op ∧ op ≤ 26) ∧ (0 ≤ d ∧ d ≤ 15) ∧ (0 ≤ a ∧ a ≤ 15) ∧ (0 ≤ i ∧ i ≤ 65535)) (by omega), if_pos (by simp [h1]), if_pos (by simp [h2]), if_neg (by simp; omega)]
    · rw [if_neg (c := (1 ≤ op ∧ op ≤ 26) ∧ (0 ≤ d ∧ d ≤ 15) ∧ (0 ≤ a ∧ a ≤ 15) ∧ (0 ≤ i ∧ i ≤ 65535)) (by omega), if_pos (by simp [h1]), if_neg (by simp; omega)]
  · rw [if_neg (c := (1 ≤ op ∧ op ≤ 26) ∧ (0 ≤ d ∧ d ≤ 15) ∧ (0 ≤ a ∧ a ≤ 15) ∧ (0 ≤ i ∧ i ≤ 65535)) (by omega), if_neg (by simp; omega)]

abbrev InsW := Int × Int × Int × Int × Unit

def decM (w : Int) : InsW := (w / 16777216, w / 1048576 % 16, w / 65536 % 16, w % 65536, ())

def decF (w : Int) : Int := insM (decM w).1 (decM w).2.1 (decM w).2.2.1 (decM w).2.2.2.1

theorem specDec_e {w : Int} (h : WW w) : F_spec_l2Decode (w, ()) = some ((decM w, decide (decF w = 0), ()), ()) := by
  unfold F_spec_l2Decode
  dsimp only
  rw [l1In_eq, Option.bind_some]
  dsimp only
  have hok : (decide (w ≥ 0) && decide (w ≤ 4294967295)) = true := okW_iff.2 h
  rw [if_neg (by rw [hok]; decide), mask4, mask4, mask16, fdiv_pow h.1, fdiv_pow h.1, fdiv_pow h.1, specIns_e, Option.bind_some]
  rfl

theorem implDec_e {w : Int} (h : WW w) : F_impl_DecodeIns (w, ()) = some ((if decF w = 0 then (0, decM w, ()) else (5, (0, 0, 0, 0, ()), ()), ()), ()) := by
  unfold F_impl_DecodeIns
  dsimp only
  rw [mask4, mask4, mask16, fdiv_pow h.1, fdiv_pow h.1, fdiv_pow h.1, implIns_e, Option.bind_some]
  dsimp only
  have e : insM (w / 2 ^ 24) (w / 2 ^ 20 % 16) (w / 2 ^ 16 % 16) (w % 65536) = decF w := rfl
  rw [e]
  by_cases h0 : decF w = 0
  · rw [if_neg (by simpa using h0), if_pos h0]; rfl
  · rw [if_pos (by simpa using h0), if_neg h0]

theorem decF_ok {w : Int} (h : decF w = 0) : (1 ≤ (decM w).1 ∧ (decM w).1 ≤ 26) ∧ (0 ≤ (decM w).2.1 ∧ (decM w).2.1 ≤ 15) ∧ (0 ≤ (decM w).2.2.1 ∧ (decM w).2.2.1 ≤ 15) ∧ (0 ≤ (decM w).2.2.2.1 ∧ (decM w).2.2.2.1 ≤ 65535) ∧
    ((decM w).1 ≤ 11 → (decM w).2.2.2.1 ≤ 15) ∧ ((decM w).1 = 21 ∨ (decM w).1 = 22 → (decM w).2.2.2.1 ≤ 10) := by
  unfold decF insM at h
  generalize decM w = x at *
  obtain ⟨op, d, a, i, _⟩ := x
  simp only at *
  split at h
  · rename_i hin
    split at h
    · omega
    · rename_i hb
      refine ⟨hin.1, hin.2.1, hin.2.2.1, hin.2.2.2, fun h11 => ?_, fun h2 => ?_⟩
      · unfold badI at hb
        rw [if_pos h11] at hb
        simpa using hb
      · unfold badI at hb
        rw [if_neg (by omega), if_neg (by omega)] at hb
        rcases h2 with h2 | h2
        · rw [if_pos h2] at hb; simp at hb; omega
        · rw [if_neg (by omega), if_pos h2] at hb; simp at hb; omega
  · omega

end
/-- A machine. -/
structure Mc where
  r : List Int
  pc : Int
  cs : List Int
  ha : Bool
  wa : Bool
  ru : Bool
  dn : Int
  iq : List Int
  oq : List Int
  m : List Int
  ring : Int
  fall : Int

abbrev BusD := List TwoD × List Int × Int × List Int × Int × List Int × Bool × Bool × Bool × Int × List Int × List Int × Int × Unit

abbrev CoreD := List Int × Int × List Int × Bool × Bool × Bool × Int × List Int × List Int × List TwoD × List Int × Int × Int × Unit

def Mc.bus (s : Mc) (l : List TwoD) : BusD := (l, s.m, s.ring, s.r, s.pc, s.cs, s.ha, s.wa, s.ru, s.dn, s.iq, s.oq, s.fall, ())

def Mc.core (s : Mc) (l : List TwoD) : CoreD := (s.r, s.pc, s.cs, s.ha, s.wa, s.ru, s.dn, s.iq, s.oq, l, s.m, s.fall, s.ring, ())

def Mc.trap (s : Mc) (cause tval : Int) : Mc := { s with pc := s.cs.getD 1 0, cs := trapC s.cs s.pc cause tval, wa := false, fall := cause }

structure OkS (s : Mc) (l : List TwoD) : Prop where
  r : OkR s.r
  pc : WW s.pc
  c : OkC s.cs
  i : OkQ s.iq
  o : OkQ s.oq
  d : 0 ≤ s.dn ∧ s.dn ≤ 1000000000
  l : OkL l s.m

section
variable {r cs iq oq m : List Int} {pc dn ring fall : Int} {ha wa ru : Bool} {l : List TwoD} {s : Mc}
theorem trap_ok (h : OkS s l) {cause tval : Int} (h1 : WW cause) (h2 : WW tval) : OkS (s.trap cause tval) l :=
  ⟨h.r, h.c.w (by decide), trapC_ok h.c h.pc h1 h2, h.i, h.o, h.d, h.l⟩

theorem specFall_e (hc : OkC cs) (cause tval : Int) : F_spec_l10Fall ((l, m, ring, r, pc, cs, ha, wa, ru, dn, iq, oq, fall, ()), cause, tval, ()) =
    some ((), ((l, m, ring, r, cs.getD 1 0, trapC cs pc cause tval, ha, false, ru, dn, iq, oq, cause, ()), ())) := by
  unfold F_spec_l10Fall
  dsimp only
  rw [specTrap_e hc, Option.bind_some]

theorem implFail_e (hc : OkC cs) (cause tval : Int) : F_impl_core_fail ((r, pc, cs, ha, wa, ru, dn, iq, oq, l, m, fall, ring, ()), cause, tval, ()) =
    some ((), ((r, cs.getD 1 0, trapC cs pc cause tval, ha, false, ru, dn, iq, oq, l, m, cause, ring, ()), ())) := by
  unfold F_impl_core_fail
  dsimp only
  rw [implTrap_e hc, Option.bind_some]

def takenM (op d a : Int) : Bool := if op = 16 then decide (d = a) else if op = 17 then decide (d ≠ a) else decide (sg d < sg a)

/-- Goes it on? where, with which result, and what has become of the machine. -/
def exM (s : Mc) (l : List TwoD) (op d a i : Int) : Bool × Int × Int × Mc :=
  let next := addW s.pc 1
  let far := addW s.pc (off i)
  let rd := s.r.getD d.toNat 0
  let ra := s.r.getD a.toNat 0
  let p := addW ra (off i)
  if op = 12 then (true, next, p, s)
  else if op = 13 then (true, next, i * 65536, s)
  else if op = 14 then
    (if (placeM s.cs l s.m p 1).2 ≠ 0 then (false, 0, 0, s.trap 3 p)
     else if 1000 ≤ (placeM s.cs l s.m p 1).1 then (true, next, (readM s.cs s.ru s.dn s.iq ((placeM s.cs l s.m p 1).1 - 1000)).1, { s with iq := (readM s.cs s.ru s.dn s.iq ((placeM s.cs l s.m p 1).1 - 1000)).2 })
     else (true, next, s.m.getD (placeM s.cs l s.m p 1).1.toNat 0, s))
  else if op = 15 then
    (if (placeM s.cs l s.m p 2).2 ≠ 0 then (false, 0, 0, s.trap 4 p)
     else if 1000 ≤ (placeM s.cs l s.m p 2).1 then (true, next, 0, { s with ring := ringM ((placeM s.cs l s.m p 2).1 - 1000) rd, cs := wrC s.cs ((placeM s.cs l s.m p 2).1 - 1000) rd, ru := wrR s.ru ((placeM s.cs l s.m p 2).1 - 1000) rd, oq := wrO s.oq ((placeM s.cs l s.m p 2).1 - 1000) rd })
     else (true, next, 0, { s with m := s.m.set (placeM s.cs l s.m p 2).1.toNat rd }))
  else if op = 16 ∨ op = 17 ∨ op = 18 then (true, if takenM op rd ra = true then far else next, 0, s)
  else if op = 19 then (true, far, next, s)
  else if op = 20 then (true, p, next, s)
  else if op = 21 then (true, next, getM s.cs s.ru s.dn s.iq i, s)
  else if op = 22 then (true, next, 0, { s with cs := setC s.cs i ra, ru := setR s.ru i ra })
  else if op = 23 then (false, 0, 0, s.trap 5 0)
  else if op = 24 then (true, s.cs.getD 2 0, 0, { s with pc := s.cs.getD 2 0, cs := backC s.cs })
  else if op = 25 then (true, next, 0, { s with wa := true })
  else if op = 26 then (true, s.pc, 0, { s with ha := true })
  else (true, next, aluW op ra (s.r.getD i.toNat 0), s)

def wrD (op : Int) : Bool := decide ((1 ≤ op ∧ op ≤ 14) ∨ (19 ≤ op ∧ op ≤ 21))

def doM (s : Mc) (l : List TwoD) (op d a i : Int) : Bool × Mc :=
  let e := exM s l op d a i
  if e.1 = true then (true, { e.2.2.2 with pc := e.2.1, r := if wrD op = true ∧ 0 < d then e.2.2.2.r.set d.toNat e.2.2.1 else e.2.2.2.r }) else (false, e.2.2.2)

structure OkI (op d a i : Int) : Prop where
  hop : 1 ≤ op ∧ op ≤ 26
  hd : 0 ≤ d ∧ d ≤ 15
  ha : 0 ≤ a ∧ a ≤ 15
  hi : 0 ≤ i ∧ i ≤ 65535
  i11 : op ≤ 11 → i ≤ 15
  i21 : op = 21 ∨ op = 22 → i ≤ 10

theorem specPut_e (hr : OkR r) {d : Int} (hd : 0 ≤ d ∧ d ≤ 15) (w : Int) : F_spec_l10Put ((l, m, ring, r, pc, cs, ha, wa, ru, dn, iq, oq, fall, ()), d, w, ()) =
    some ((), ((l, m, ring, if 0 < d then r.set d.toNat w else r, pc, cs, ha, wa, ru, dn, iq, oq, fall, ()), ())) := by
  unfold F_spec_l10Put
  dsimp only
  by_cases h0 : d = 0
  · subst h0; rfl
  · have hin : 0 ≤ d ∧ d < ((r.length : Nat) : Int) := by rw [hr.len]; omega
    rw [if_pos (by simpa using h0), if_pos hin, get_bind 0 (by rw [hr.len]; omega), if_pos (c := 0 < d) (by omega)]

theorem specTaken_e (hr : OkR r) {op d a i : Int} (hd : 0 ≤ d ∧ d ≤ 15) (hA : 0 ≤ a ∧ a ≤ 15) : F_spec_l10Taken ((r, pc, cs, ha, wa, ru, dn, iq, oq, ()), (op, d, a, i, ()), ()) =
    some ((takenM op (r.getD d.toNat 0) (r.getD a.toNat 0), ()), ()) := by
  unfold F_spec_l10Taken takenM
  dsimp only
  rw [if_pos hd.1, get_bind 0 (by rw [hr.len]; omega), if_pos hA.1, get_bind 0 (by rw [hr.len]; omega), specSigned_e, Option.bind_some, specSigned_e, Option.bind_some]
  by_cases h16 : op = 16
  · subst h16; rfl
  rw [if_neg (by simpa using h16), if_neg h16]
  by_cases h17 : op = 17
  · subst h17
    rw [if_pos (by decide), if_pos rfl]
    generalize r.getD d.toNat 0 = x
    generalize r.getD a.toNat 0 = y
    by_cases e : x = y <;> simp [e]
  rw [if_neg (by simpa using h17), if_neg h17, ltI_eq]

theorem i65536 {i : Int} (h : 0 ≤ i ∧ i ≤ 65535) : IntKind.i64.wrap (i * 65536) = i * 65536 := i64_same (by omega) (by omega)

theorem specMem_e (h : OkS s l) {op d a i : Int} (hi : OkI op d a i) (hop : op = 14 ∨ op = 15) {e : Bool × Int × Int × Mc} (he : exM s l op d a i = e) : F_spec_l10Memory (s.bus l, (op, d, a, i, ()), ()) =
    some ((e.1, ()), (({ e.2.2.2 with r := if e.1 = true ∧ op = 14 ∧ 0 < d then e.2.2.2.r.set d.toNat e.2.2.1 else e.2.2.2.r }).bus l, ())) := by
  obtain ⟨r, pc, cs, ha, wa, ru, dn, iq, oq, m, ring, fall⟩ := s
  obtain ⟨hr, hpc, hc, hiq, hoq, hdn, hl⟩ := h
  have hd := hi.hd
  have ha' := hi.ha
  unfold F_spec_l10Memory Mc.bus
  unfold exM Mc.trap at he
  dsimp only at *
  have hda : a.toNat < r.length := by rw [hr.len]; omega
  have hdd : d.toNat < r.length := by rw [hr.len]; omega
  have hia : 0 ≤ a ∧ a < ((r.length : Nat) : Int) := by rw [hr.len]; omega
  have hid : 0 ≤ d ∧ d < ((r.length : Nat) : Int) := by rw [hr.len]; omega
  rw [if_pos hia, get_bind 0 hda, specOff_e, Option.bind_some]
  dsimp only
  rw [specAdd_e, Option.bind_some]
  dsimp only
  rcases hop with rfl | rfl
  · rw [if_neg (by decide), if_neg (by decide), if_pos rfl] at he
    rw [if_neg (by decide), specPlace_e hc hl, Option.bind_some]
    dsimp only
    have hin := placeM_in hc hl (addW (r.getD a.toNat 0) (off i)) 1
    generalize placeM cs l m (addW (r.getD a.toNat 0) (off i)) 1 = q at *
    by_cases h0 : q.2 = 0
    · rw [if_neg (by simpa using h0)] at he
      rw [if_neg (by simpa using h0), if_pos (by decide)]
      by_cases hq : 1000 ≤ q.1
      · have hle : q.1 ≤ 1007 := by have := hl.mlen; rcases hin h0 with h | h <;> omega
        rw [if_pos hq] at he
        subst he
        rw [if_pos (leI_t.2 hq), i64_same (by omega) (by omega), specRead_e hc hiq, Option.bind_some]
        dsimp only
        rw [specPut_e hr hd, Option.bind_some]
        simp
      · have hlt : 0 ≤ q.1 ∧ q.1 < ((m.length : Nat) : Int) := by rcases hin h0 with h | h; omega; exact h
        rw [if_neg hq] at he
        subst he
        rw [if_neg (by rw [leI_t]; exact hq), if_pos (by decide), if_pos hlt, get_bind 0 (by omega), specPut_e hr hd, Option.bind_some]
        simp
    · rw [if_pos h0] at he
      subst he
      rw [if_pos (by simpa using h0), specFall_e hc, Option.bind_some]
      simp
  · rw [if_neg (by decide), if_neg (by decide), if_neg (by decide), if_pos rfl] at he
    rw [if_pos (by decide), specPlace_e hc hl, Option.bind_some]
    dsimp only
    have hin := placeM_in hc hl (addW (r.getD a.toNat 0) (off i)) 2
    generalize placeM cs l m (addW (r.getD a.toNat 0) (off i)) 2 = q at *
    by_cases h0 : q.2 = 0
    · rw [if_neg (by simpa using h0)] at he
      rw [if_neg (by simpa using h0), if_neg (by decide), if_neg (by decide)]
      by_cases hq : 1000 ≤ q.1
      · have hle : q.1 ≤ 1007 := by have := hl.mlen; rcases hin h0 with h | h <;> omega
        rw [if_pos hq] at he
        subst he
        rw [if_pos (leI_t.2 hq), i64_same (by omega) (by omega), if_pos hid, get_bind 0 hdd, specWrite_e hc hoq, Option.bind_some]
        simp
      · have hlt : 0 ≤ q.1 ∧ q.1 < ((m.length : Nat) : Int) := by rcases hin h0 with h | h; omega; exact h
        rw [if_neg hq] at he
        subst he
        rw [if_neg (by rw [leI_t]; exact hq), if_pos hid, get_bind 0 hdd, if_pos hlt, get_bind 0 (by omega)]
        simp
    · rw [if_pos h0] at he
      subst he
      rw [if_pos (by simpa using h0), specFall_e hc, Option.bind_some]
      simp

end
section
variable {l : List TwoD} {s : Mc}
theorem specDo_e (h : OkS s l) {op d a i : Int} (hi : OkI op d a i) {e : Bool × Mc} (he : doM s l op d a i = e) : F_spec_l10Do (s.bus l, (op, d, a, i, ()), ()) = some ((e.1, ()), (e.2.bus l, ())) := by
  have hmem := specMem_e h hi
  obtain ⟨r, pc, cs, ha, wa, ru, dn, iq, oq, m, ring, fall⟩ := s
  obtain ⟨hr, hpc, hc, hiq, hoq, hdn, hl⟩ := h
  have hd := hi.hd
  have ha' := hi.ha
  unfold doM at he
  unfold F_spec_l10Do
  unfold Mc.bus at hmem ⊢
  dsimp only at *
  have hda : a.toNat < r.length := by rw [hr.len]; omega
  have hia : 0 ≤ a ∧ a < ((r.length : Nat) : Int) := by rw [hr.len]; omega
  rw [specAdd_e, Option.bind_some]
  dsimp only
  rw [specOff_e, Option.bind_some]
  dsimp only
  rw [specAdd_e, Option.bind_some]
  dsimp only
  by_cases h12 : op = 12
  · subst h12
    rw [show exM ⟨r, pc, cs, ha, wa, ru, dn, iq, oq, m, ring, fall⟩ l 12 d a i = (true, addW pc 1, addW (r.getD a.toNat 0) (off i), ⟨r, pc, cs, ha, wa, ru, dn, iq, oq, m, ring, fall⟩) from rfl] at he
    subst he
    rw [if_pos (by decide), if_pos hia, get_bind 0 hda, Option.bind_some]
    dsimp only
    rw [specAdd_e, Option.bind_some]
    dsimp only
    rw [specPut_e hr hd, Option.bind_some]
    simp [wrD]
  rw [if_neg (by simpa using h12)]
  by_cases h13 : op = 13
  · subst h13
    rw [show exM ⟨r, pc, cs, ha, wa, ru, dn, iq, oq, m, ring, fall⟩ l 13 d a i = (true, addW pc 1, i * 65536, ⟨r, pc, cs, ha, wa, ru, dn, iq, oq, m, ring, fall⟩) from rfl] at he
    subst he
    rw [if_pos (by decide), i65536 hi.hi, specPut_e hr hd, Option.bind_some]
    simp [wrD]
  rw [if_neg (by simpa using h13)]
  by_cases h14 : op = 14
  · subst h14
    rw [if_pos (by decide), hmem (.inl rfl) rfl, Option.bind_some]
    generalize hx : exM ⟨r, pc, cs, ha, wa, ru, dn, iq, oq, m, ring, fall⟩ l 14 d a i = x at *
    have hn : x.1 = true → x.2.1 = addW pc 1 := by
      rw [← hx]; unfold exM; dsimp only
      rw [if_neg (by decide), if_neg (by decide), if_pos rfl]
      repeat' split
      all_goals simp
    obtain ⟨b, nx, rs, s1⟩ := x
    cases b
    · subst he; simp
    · subst he
      simp only at hn
      simp [wrD, hn]
  rw [if_neg (by simpa using h14)]
  by_cases h15 : op = 15
  · subst h15
    rw [if_pos (by decide), hmem (.inr rfl) rfl, Option.bind_some]
    generalize hx : exM ⟨r, pc, cs, ha, wa, ru, dn, iq, oq, m, ring, fall⟩ l 15 d a i = x at *
    have hn : x.1 = true → x.2.1 = addW pc 1 := by
      rw [← hx]; unfold exM; dsimp only
      rw [if_neg (by decide), if_neg (by decide), if_neg (by decide), if_pos rfl]
      repeat' split
      all_goals simp
    obtain ⟨b, nx, rs, s1⟩ := x
    cases b
    · subst he; simp
    · subst he
      simp only at hn
      simp [wrD, hn]
  rw [if_neg (by simpa using h15)]
  have hex : exM ⟨r, pc, cs, ha, wa, ru, dn, iq, oq, m, ring, fall⟩ l op d a i =
      (if op = 16 ∨ op = 17 ∨ op = 18 then (true, if takenM op (r.getD d.toNat 0) (r.getD a.toNat 0) = true then addW pc (off i) else addW pc 1, 0, ⟨r, pc, cs, ha, wa, ru, dn, iq, oq, m, ring, fall⟩)
      else if op = 19 then (true, addW pc (off i), addW pc 1, ⟨r, pc, cs, ha, wa, ru, dn, iq, oq, m, ring, fall⟩)
      else if op = 20 then (true, addW (r.getD a.toNat 0) (off i), addW pc 1, ⟨r, pc, cs, ha, wa, ru, dn, iq, oq, m, ring, fall⟩)
      else if op = 21 then (true, addW pc 1, getM cs ru dn iq i, ⟨r, pc, cs, ha, wa, ru, dn, iq, oq, m, ring, fall⟩)
      else if op = 22 then (true, addW pc 1, 0, ⟨r, pc, setC cs i (r.getD a.toNat 0), ha, wa, setR ru i (r.getD a.toNat 0), dn, iq, oq, m, ring, fall⟩)
      else if op = 23 then (false, 0, 0, ⟨r, cs.getD 1 0, trapC cs pc 5 0, ha, false, ru, dn, iq, oq, m, ring, 5⟩)
      else if op = 24 then (true, cs.getD 2 0, 0, ⟨r, cs.getD 2 0, backC cs, ha, wa, ru, dn, iq, oq, m, ring, fall⟩)
      else if op = 25 then (true, addW pc 1, 0, ⟨r, pc, cs, ha, true, ru, dn, iq, oq, m, ring, fall⟩)
      else if op = 26 then (true, pc, 0, ⟨r, pc, cs, true, wa, ru, dn, iq, oq, m, ring, fall⟩)
      else (true, addW pc 1, aluW op (r.getD a.toNat 0) (r.getD i.toNat 0), ⟨r, pc, cs, ha, wa, ru, dn, iq, oq, m, ring, fall⟩)) := by
    unfold exM Mc.trap
    dsimp only
    rw [if_neg h12, if_neg h13, if_neg h14, if_neg h15]
  clear hmem
  have htk := fun o => specTaken_e (pc := pc) (cs := cs) (ha := ha) (wa := wa) (ru := ru) (dn := dn) (iq := iq) (oq := oq) hr (op := o) (i := i) hd ha'
  have hput := fun pc cs ha wa ru w => specPut_e (l := l) (m := m) (ring := ring) (pc := pc) (cs := cs) (ha := ha) (wa := wa) (ru := ru) (dn := dn) (iq := iq) (oq := oq) (fall := fall) hr hd w
  by_cases h16 : op = 16
  · subst h16
    rw [if_pos (.inl rfl)] at hex
    rw [hex] at he
    subst he
    rw [if_pos (by decide), htk, Option.bind_some]
    cases takenM 16 (r.getD d.toNat 0) (r.getD a.toNat 0) <;> simp [wrD]
  rw [if_neg (by simpa using h16)]
  by_cases h17 : op = 17
  · subst h17
    rw [if_pos (.inr (.inl rfl))] at hex
    rw [hex] at he
    subst he
    rw [if_pos (by decide), htk, Option.bind_some]
    cases takenM 17 (r.getD d.toNat 0) (r.getD a.toNat 0) <;> simp [wrD]
  rw [if_neg (by simpa using h17)]
  by_cases h18 : op = 18
  · subst h18
    rw [if_pos (.inr (.inr rfl))] at hex
    rw [hex] at he
    subst he
    rw [if_pos (by decide), htk, Option.bind_some]
    cases takenM 18 (r.getD d.toNat 0) (r.getD a.toNat 0) <;> simp [wrD]
  rw [if_neg (by simpa using h18)]
  rw [if_neg (c := op = 16 ∨ op = 17 ∨ op = 18) (by omega)] at hex
  by_cases h19 : op = 19
  · subst h19
    rw [if_pos rfl] at hex
    rw [hex] at he
    subst he
    rw [if_pos (by decide), hput, Option.bind_some]
    simp [wrD]
  rw [if_neg (by simpa using h19)]
  rw [if_neg h19] at hex
  by_cases h20 : op = 20
  · subst h20
    rw [if_pos rfl] at hex
    rw [hex] at he
    subst he
    rw [if_pos (by decide), if_pos hia, get_bind 0 hda, Option.bind_some]
    dsimp only
    rw [specAdd_e, Option.bind_some]
    dsimp only
    rw [hput, Option.bind_some]
    simp [wrD]
  rw [if_neg (by simpa using h20)]
  rw [if_neg h20] at hex
  by_cases h21 : op = 21
  · subst h21
    rw [if_pos rfl] at hex
    rw [hex] at he
    subst he
    have hi10 := hi.i21 (.inl rfl)
    have hi0 := hi.hi
    rw [if_pos (by decide), specGet_e hc ⟨hi0.1, hi10⟩, Option.bind_some]
    dsimp only
    rw [hput, Option.bind_some]
    simp [wrD]
  rw [if_neg (by simpa using h21)]
  rw [if_neg h21] at hex
  by_cases h22 : op = 22
  · subst h22
    rw [if_pos rfl] at hex
    rw [hex] at he
    subst he
    have hi10 := hi.i21 (.inr rfl)
    have hi0 := hi.hi
    rw [if_pos (by decide), if_pos hia, get_bind 0 hda, specSet_e hc ⟨hi0.1, hi10⟩, Option.bind_some]
    simp [wrD]
  rw [if_neg (by simpa using h22)]
  rw [if_neg h22] at hex
  by_cases h23 : op = 23
  · subst h23
    rw [if_pos rfl] at hex
    rw [hex] at he
    subst he
    rw [if_pos (by decide), specFall_e hc, Option.bind_some]
    simp
  rw [if_neg (by simpa using h23)]
  rw [if_neg h23] at hex
  by_cases h24 : op = 24
  · subst h24
    rw [if_pos rfl] at hex
    rw [hex] at he
    subst he
    rw [if_pos (by decide), specBack_e hc, Option.bind_some]
    simp [wrD]
  rw [if_neg (by simpa using h24)]
  rw [if_neg h24] at hex
  by_cases h25 : op = 25
  · subst h25
    rw [if_pos rfl] at hex
    rw [hex] at he
    subst he
    rw [if_pos (by decide)]
    simp [wrD]
  rw [if_neg (by simpa using h25)]
  rw [if_neg h25] at hex
  by_cases h26 : op = 26
  · subst h26
    rw [if_pos rfl] at hex
    rw [hex] at he
    subst he
    rw [if_pos (by decide)]
    simp [wrD]
  rw [if_neg (by simpa using h26)]
  rw [if_neg h26] at hex
  have h1 := hi.hop
  have h11 : op ≤ 11 := by omega
  have hi15 := hi.i11 h11
  have hi0 := hi.hi
  have hii : 0 ≤ i ∧ i < ((r.length : Nat) : Int) := by rw [hr.len]; omega
  have hiN : i.toNat < r.length := by rw [hr.len]; omega
  rw [hex] at he
  subst he
  rw [if_pos hia, get_bind 0 hda, if_pos hii, get_bind 0 hiN, specAlu_e, Option.bind_some]
  dsimp only
  rw [hput, Option.bind_some]
  have hw : wrD op = true := by unfold wrD; rw [decide_eq_true_eq]; omega
  simp [hw]

theorem implLoad_e (h : OkS s l) {op d a i : Int} (h14 : op = 14) {e : Bool × Int × Int × Mc} (he : exM s l op d a i = e) : F_impl_core_load (s.core l, addW (s.r.getD a.toNat 0) (off i), ()) =
    some ((e.2.2.1, e.1, ()), (e.2.2.2.core l, ())) := by
  subst h14
  obtain ⟨r, pc, cs, ha, wa, ru, dn, iq, oq, m, ring, fall⟩ := s
  obtain ⟨hr, hpc, hc, hiq, hoq, hdn, hl⟩ := h
  unfold F_impl_core_load Mc.core
  unfold exM Mc.trap at he
  dsimp only at *
  rw [if_neg (by decide), if_neg (by decide), if_pos rfl] at he
  rw [implPlace_e hc hl _ (.inl rfl), Option.bind_some]
  dsimp only
  have hin := placeM_in hc hl (addW (r.getD a.toNat 0) (off i)) 1
  generalize placeM cs l m (addW (r.getD a.toNat 0) (off i)) 1 = q at *
  by_cases h0 : q.2 = 0
  · rw [if_neg (by simpa using h0)] at he
    rw [if_neg (by simpa using h0)]
    by_cases hq : 1000 ≤ q.1
    · have hle : q.1 ≤ 1007 := by have := hl.mlen; rcases hin h0 with h | h <;> omega
      rw [if_pos hq] at he
      subst he
      rw [if_pos (leI_t.2 hq), i64_same (by omega) (by omega), implRead_e hc hiq, Option.bind_some]
    · have hlt : 0 ≤ q.1 ∧ q.1 < ((m.length : Nat) : Int) := by rcases hin h0 with h | h; omega; exact h
      rw [if_neg hq] at he
      subst he
      rw [if_neg (by rw [leI_t]; exact hq), if_pos hlt, get_bind 0 (by omega)]
  · rw [if_pos h0] at he
    subst he
    rw [if_pos (by simpa using h0), implFail_e hc, Option.bind_some]

theorem implStore_e (h : OkS s l) {op d a i : Int} (h15 : op = 15) {e : Bool × Int × Int × Mc} (he : exM s l op d a i = e) : F_impl_core_store (s.core l, addW (s.r.getD a.toNat 0) (off i), s.r.getD d.toNat 0, ()) =
    some ((e.1, ()), (e.2.2.2.core l, ())) := by
  subst h15
  obtain ⟨r, pc, cs, ha, wa, ru, dn, iq, oq, m, ring, fall⟩ := s
  obtain ⟨hr, hpc, hc, hiq, hoq, hdn, hl⟩ := h
  unfold F_impl_core_store Mc.core
  unfold exM Mc.trap at he
  dsimp only at *
  rw [if_neg (by decide), if_neg (by decide), if_neg (by decide), if_pos rfl] at he
  rw [implPlace_e hc hl _ (.inr (.inl rfl)), Option.bind_some]
  dsimp only
  have hin := placeM_in hc hl (addW (r.getD a.toNat 0) (off i)) 2
  generalize placeM cs l m (addW (r.getD a.toNat 0) (off i)) 2 = q at *
  by_cases h0 : q.2 = 0
  · rw [if_neg (by simpa using h0)] at he
    rw [if_neg (by simpa using h0)]
    by_cases hq : 1000 ≤ q.1
    · have hle : q.1 ≤ 1007 := by have := hl.mlen; rcases hin h0 with h | h <;> omega
      rw [if_pos hq] at he
      subst he
      rw [if_pos (leI_t.2 hq), i64_same (by omega) (by omega), implWrite_e hc hoq, Option.bind_some]
    · have hlt : 0 ≤ q.1 ∧ q.1 < ((m.length : Nat) : Int) := by rcases hin h0 with h | h; omega; exact h
      rw [if_neg hq] at he
      subst he
      rw [if_neg (by rw [leI_t]; exact hq), if_pos hlt, get_bind 0 (by omega)]
  · rw [if_pos h0] at he
    subst he
    rw [if_pos (by simpa using h0), implFail_e hc, Option.bind_some]

/-- The switch over the ops. -/
theorem implEx_e (h : OkS s l) {op d a i : Int} (hi : OkI op d a i) {e : Bool × Int × Int × Mc} (he : exM s l op d a i = e) :
    ∃ nx : Int, (e.1 = true → nx = e.2.2.1 ∨ wrD op = false) ∧
    L_impl_core_do_100000 (((), ((), (s.pc, (addW s.pc 1, (addW s.pc (off i), (s.r.getD d.toNat 0, (s.r.getD a.toNat 0, (addW (s.r.getD a.toNat 0) (off i), ((0 : Int), (op, (op, ()))))))))))), (((op, (d, (a, (i, ())))), (s.core l, ())), ())) =
    some (if e.1 = true then .inl (((), ((), (e.2.1, (nx, ())))), (((op, (d, (a, (i, ())))), (e.2.2.2.core l, ())), ())) else .inr (.inl ((false, ()), ((e.2.2.2.core l, ()), ())))) := by
  have hld := fun h14 => implLoad_e h (op := op) (d := d) (a := a) (i := i) h14 he
  have hst := fun h15 => implStore_e h (op := op) (d := d) (a := a) (i := i) h15 he
  have hd := hi.hd
  have ha' := hi.ha
  unfold L_impl_core_do_100000
  dsimp only at *
  by_cases h12 : op = 12
  · subst h12
    rw [show exM s l 12 d a i = (true, addW s.pc 1, addW (s.r.getD a.toNat 0) (off i), s) from rfl] at he
    subst he
    exact ⟨_, fun _ => .inl rfl, by rw [if_pos (by decide)]; rfl⟩
  rw [if_neg (by simpa using h12)]
  by_cases h13 : op = 13
  · subst h13
    rw [show exM s l 13 d a i = (true, addW s.pc 1, i * 65536, s) from rfl] at he
    subst he
    exact ⟨_, fun _ => .inl rfl, by rw [if_pos (by decide), i65536 hi.hi]; rfl⟩
  rw [if_neg (by simpa using h13)]
  by_cases h14 : op = 14
  · subst h14
    have hn : e.1 = true → e.2.1 = addW s.pc 1 := by
      rw [← he]; unfold exM; dsimp only
      rw [if_neg (by decide), if_neg (by decide), if_pos rfl]
      repeat' split
      all_goals simp
    refine ⟨e.2.2.1, fun _ => .inl rfl, ?_⟩
    rw [if_pos (by decide), hld rfl, Option.bind_some]
    obtain ⟨b, nx, rs, s1⟩ := e
    cases b
    · simp
    · simp only at hn
      simp [hn]
  rw [if_neg (by simpa using h14)]
  by_cases h15 : op = 15
  · subst h15
    have hn : e.1 = true → e.2.1 = addW s.pc 1 := by
      rw [← he]; unfold exM; dsimp only
      rw [if_neg (by decide), if_neg (by decide), if_neg (by decide), if_pos rfl]
      repeat' split
      all_goals simp
    refine ⟨0, fun _ => .inr rfl, ?_⟩
    rw [if_pos (by decide), hst rfl, Option.bind_some]
    obtain ⟨b, nx, rs, s1⟩ := e
    cases b
    · simp
    · simp only at hn
      simp [hn]
  rw [if_neg (by simpa using h15)]
  clear hld hst
  obtain ⟨r, pc, cs, ha, wa, ru, dn, iq, oq, m, ring, fall⟩ := s
  obtain ⟨hr, hpc, hc, hiq, hoq, hdn, hl⟩ := h
  have hex : exM ⟨r, pc, cs, ha, wa, ru, dn, iq, oq, m, ring, fall⟩ l op d a i =
      (if op = 16 ∨ op = 17 ∨ op = 18 then (true, if takenM op (r.getD d.toNat 0) (r.getD a.toNat 0) = true then addW pc (off i) else addW pc 1, 0, ⟨r, pc, cs, ha, wa, ru, dn, iq, oq, m, ring, fall⟩)
      else if op = 19 then (true, addW pc (off i), addW pc 1, ⟨r, pc, cs, ha, wa, ru, dn, iq, oq, m, ring, fall⟩)
      else if op = 20 then (true, addW (r.getD a.toNat 0) (off i), addW pc 1, ⟨r, pc, cs, ha, wa, ru, dn, iq, oq, m, ring, fall⟩)
      else if op = 21 then (true, addW pc 1, getM cs ru dn iq i, ⟨r, pc, cs, ha, wa, ru, dn, iq, oq, m, ring, fall⟩)
      else if op = 22 then (true, addW pc 1, 0, ⟨r, pc, setC cs i (r.getD a.toNat 0), ha, wa, setR ru i (r.getD a.toNat 0), dn, iq, oq, m, ring, fall⟩)
      else if op = 23 then (false, 0, 0, ⟨r, cs.getD 1 0, trapC cs pc 5 0, ha, false, ru, dn, iq, oq, m, ring, 5⟩)
      else if op = 24 then (true, cs.getD 2 0, 0, ⟨r, cs.getD 2 0, backC cs, ha, wa, ru, dn, iq, oq, m, ring, fall⟩)
      else if op = 25 then (true, addW pc 1, 0, ⟨r, pc, cs, ha, true, ru, dn, iq, oq, m, ring, fall⟩)
      else if op = 26 then (true, pc, 0, ⟨r, pc, cs, true, wa, ru, dn, iq, oq, m, ring, fall⟩)
      else (true, addW pc 1, aluW op (r.getD a.toNat 0) (r.getD i.toNat 0), ⟨r, pc, cs, ha, wa, ru, dn, iq, oq, m, ring, fall⟩)) := by
    unfold exM Mc.trap
    dsimp only
    rw [if_neg h12, if_neg h13, if_neg h14, if_neg h15]
  unfold Mc.core
  dsimp only at *
  by_cases h16 : op = 16
  · subst h16
    rw [if_pos (.inl rfl)] at hex
    rw [hex] at he
    subst he
    refine ⟨0, fun _ => .inr rfl, ?_⟩
    rw [if_pos (by decide), if_pos (by decide)]
    generalize r.getD d.toNat 0 = x
    generalize r.getD a.toNat 0 = y
    unfold takenM
    by_cases hxy : x = y <;> simp [hxy]
  rw [if_neg (by simpa using h16)]
  by_cases h17 : op = 17
  · subst h17
    rw [if_pos (.inr (.inl rfl))] at hex
    rw [hex] at he
    subst he
    refine ⟨0, fun _ => .inr rfl, ?_⟩
    rw [if_pos (by decide), if_neg (by decide), if_pos (by decide)]
    generalize r.getD d.toNat 0 = x
    generalize r.getD a.toNat 0 = y
    unfold takenM
    by_cases hxy : x = y <;> simp [hxy]
  rw [if_neg (by simpa using h17)]
  by_cases h18 : op = 18
  · subst h18
    rw [if_pos (.inr (.inr rfl))] at hex
    rw [hex] at he
    subst he
    refine ⟨0, fun _ => .inr rfl, ?_⟩
    rw [if_pos (by decide), if_neg (by decide), if_neg (by decide), if_pos (by decide), implSigned_e, Option.bind_some, implSigned_e, Option.bind_some]
    generalize r.getD d.toNat 0 = x
    generalize r.getD a.toNat 0 = y
    unfold takenM
    by_cases hxy : sg x < sg y <;> simp [hxy, ltI_eq]
  rw [if_neg (by simpa using h18)]
  rw [if_neg (c := op = 16 ∨ op = 17 ∨ op = 18) (by omega)] at hex
  by_cases h19 : op = 19
  · subst h19
    rw [if_pos rfl] at hex
    rw [hex] at he
    subst he
    exact ⟨_, fun _ => .inl rfl, by rw [if_pos (by decide)]; rfl⟩
  rw [if_neg (by simpa using h19)]
  rw [if_neg h19] at hex
  by_cases h20 : op = 20
  · subst h20
    rw [if_pos rfl] at hex
    rw [hex] at he
    subst he
    exact ⟨_, fun _ => .inl rfl, by rw [if_pos (by decide)]; rfl⟩
  rw [if_neg (by simpa using h20)]
  rw [if_neg h20] at hex
  by_cases h21 : op = 21
  · subst h21
    rw [if_pos rfl] at hex
    rw [hex] at he
    subst he
    have hi10 := hi.i21 (.inl rfl)
    have hi0 := hi.hi
    exact ⟨_, fun _ => .inl rfl, by rw [if_pos (by decide), implGet_e hc ⟨hi0.1, hi10⟩, Option.bind_some]; rfl⟩
  rw [if_neg (by simpa using h21)]
  rw [if_neg h21] at hex
  by_cases h22 : op = 22
  · subst h22
    rw [if_pos rfl] at hex
    rw [hex] at he
    subst he
    have hi10 := hi.i21 (.inr rfl)
    have hi0 := hi.hi
    exact ⟨0, fun _ => .inr rfl, by rw [if_pos (by decide), implSet_e hc ⟨hi0.1, hi10⟩, Option.bind_some]; rfl⟩
  rw [if_neg (by simpa using h22)]
  rw [if_neg h22] at hex
  by_cases h23 : op = 23
  · subst h23
    rw [if_pos rfl] at hex
    rw [hex] at he
    subst he
    exact ⟨0, fun _ => .inr rfl, by rw [if_pos (by decide), implFail_e hc, Option.bind_some]; rfl⟩
  rw [if_neg (by simpa using h23)]
  rw [if_neg h23] at hex
  by_cases h24 : op = 24
  · subst h24
    rw [if_pos rfl] at hex
    rw [hex] at he
    subst he
    exact ⟨0, fun _ => .inr rfl, by rw [if_pos (by decide), implBack_e hc, Option.bind_some]; rfl⟩
  rw [if_neg (by simpa using h24)]
  rw [if_neg h24] at hex
  by_cases h25 : op = 25
  · subst h25
    rw [if_pos rfl] at hex
    rw [hex] at he
    subst he
    exact ⟨0, fun _ => .inr rfl, by rw [if_pos (by decide)]; rfl⟩
  rw [if_neg (by simpa using h25)]
  rw [if_neg h25] at hex
  by_cases h26 : op = 26
  · subst h26
    rw [if_pos rfl] at hex
    rw [hex] at he
    subst he
    exact ⟨0, fun _ => .inr rfl, by rw [if_pos (by decide)]; rfl⟩
  rw [if_neg (by simpa using h26)]
  rw [if_neg h26] at hex
  have h1 := hi.hop
  have h11 : op ≤ 11 := by omega
  have hi15 := hi.i11 h11
  have hi0 := hi.hi
  have hii : 0 ≤ i ∧ i < ((r.length : Nat) : Int) := by rw [hr.len]; omega
  have hiN : i.toNat < r.length := by rw [hr.len]; omega
  rw [hex] at he
  subst he
  refine ⟨_, fun _ => .inl rfl, ?_⟩
  rw [if_pos hii, get_bind 0 hiN, implAlu_e op _ _ (hr.w (by omega)) (hr.w (by omega)) ⟨h1.1, h11⟩, Option.bind_some]
  rfl

/-- Behind an instruction one more is done. -/
def moreM (s : Mc) : Mc := { s with dn := if 1000000000 < s.dn + 1 then 1000000000 else s.dn + 1 }

theorem implWr_e (op : Int) : F_impl_WritesD (op, ()) = some ((wrD op, ()), ()) := by
  unfold F_impl_WritesD wrD
  dsimp only
  rw [within_eq, Option.bind_some, within_eq, Option.bind_some]
  dsimp only
  by_cases h1 : 1 ≤ op ∧ op ≤ 14
  · rw [if_neg (by simp [h1]), decide_eq_true (.inl h1)]
  · rw [if_pos (by simp; omega)]
    by_cases h2 : 19 ≤ op ∧ op ≤ 21
    · rw [decide_eq_true (p := (1 ≤ op ∧ op ≤ 14) ∨ (19 ≤ op ∧ op ≤ 21)) (.inr h2)]; simp [h2]
    · rw [decide_eq_false (p := (1 ≤ op ∧ op ≤ 14) ∨ (19 ≤ op ∧ op ≤ 21)) (by omega)]; simp; omega

theorem ite_P {α : Type} (P : α → Prop) {c : Prop} [Decidable c] {a b : α} (h1 : c → P a) (h2 : ¬ c → P b) : P (if c then a else b) := by
  by_cases h : c
  · rw [if_pos h]; exact h1 h
  · rw [if_neg h]; exact h2 h

theorem exM_r (s : Mc) (l : List TwoD) (op d a i : Int) : (exM s l op d a i).2.2.2.r = s.r ∧ (exM s l op d a i).2.2.2.dn = s.dn := by
  unfold exM Mc.trap
  let P : Bool × Int × Int × Mc → Prop := fun x => x.2.2.2.r = s.r ∧ x.2.2.2.dn = s.dn
  refine ite_P P (fun _ => ⟨rfl, rfl⟩) fun _ => ite_P P (fun _ => ⟨rfl, rfl⟩) fun _ => ite_P P (fun _ => ite_P P (fun _ => ⟨rfl, rfl⟩) fun _ => ite_P P (fun _ => ⟨rfl, rfl⟩) fun _ => ⟨rfl, rfl⟩) fun _ =>
    ite_P P (fun _ => ite_P P (fun _ => ⟨rfl, rfl⟩) fun _ => ite_P P (fun _ => ⟨rfl, rfl⟩) fun _ => ⟨rfl, rfl⟩) fun _ => ite_P P (fun _ => ⟨rfl, rfl⟩) fun _ => ite_P P (fun _ => ⟨rfl, rfl⟩) fun _ => ite_P P (fun _ => ⟨rfl, rfl⟩) fun _ =>
    ite_P P (fun _ => ⟨rfl, rfl⟩) fun _ => ite_P P (fun _ => ⟨rfl, rfl⟩) fun _ => ite_P P (fun _ => ⟨rfl, rfl⟩) fun _ => ite_P P (fun _ => ⟨rfl, rfl⟩) fun _ => ite_P P (fun _ => ⟨rfl, rfl⟩) fun _ => ite_P P (fun _ => ⟨rfl, rfl⟩) fun _ => ⟨rfl, rfl⟩

theorem implDo_e (h : OkS s l) {op d a i : Int} (hi : OkI op d a i) {e : Bool × Mc} (he : doM s l op d a i = e) : F_impl_core_do (s.core l, (op, d, a, i, ()), ()) =
    some ((e.1, ()), ((if e.1 = true then (moreM e.2).core l else e.2.core l), ())) := by
  have hd := hi.hd
  have ha' := hi.ha
  have hr := h.r
  obtain ⟨nx, hnx, hL⟩ := implEx_e h hi rfl
  have hrr := exM_r s l op d a i
  unfold F_impl_core_do
  dsimp only
  have e1 : (s.core l).2.1 = s.pc := rfl
  have e2 : (s.core l).1 = s.r := rfl
  rw [e1, e2, implAdd_e, Option.bind_some]
  dsimp only
  rw [implOff_e, Option.bind_some]
  dsimp only
  rw [implAdd_e, Option.bind_some]
  dsimp only
  have hid : 0 ≤ d ∧ d < ((s.r.length : Nat) : Int) := by rw [hr.len]; omega
  have hia : 0 ≤ a ∧ a < ((s.r.length : Nat) : Int) := by rw [hr.len]; omega
  rw [if_pos hid, get_bind 0 (by rw [hr.len]; omega), if_pos hia, get_bind 0 (by rw [hr.len]; omega), Option.bind_some]
  dsimp only
  rw [implAdd_e, Option.bind_some]
  dsimp only
  rw [hL, Option.bind_some]
  unfold doM at he
  dsimp only at he
  generalize exM s l op d a i = x at *
  obtain ⟨b, nxt, rs, s1⟩ := x
  cases b
  · subst he; rfl
  · simp only [if_true] at he ⊢
    subst he
    simp only at hrr hnx
    have hdn := h.d
    have hw : IntKind.i64.wrap (s1.dn + 1) = s1.dn + 1 := i64_same (by rw [hrr.2]; omega) (by rw [hrr.2]; omega)
    unfold Mc.core moreM
    dsimp only
    rw [implWr_e, Option.bind_some, hw]
    dsimp only
    have hid2 : 0 ≤ d ∧ d < ((s1.r.length : Nat) : Int) := by rw [hrr.1, hr.len]; omega
    by_cases hwd : wrD op = true
    · have hx : nx = rs := by
        rcases hnx trivial with h | h
        · exact h
        · rw [h] at hwd; cases hwd
      subst hx
      rw [if_pos hwd]
      by_cases hd0 : 0 < d
      · rw [if_pos (ltI_t.2 hd0), if_pos hid2, get_bind 0 (by rw [hrr.1, hr.len]; omega), if_pos (c := wrD op = true ∧ 0 < d) ⟨hwd, hd0⟩]; rfl
      · rw [if_neg (by rw [ltI_t]; exact hd0), if_neg (c := wrD op = true ∧ 0 < d) (fun h => hd0 h.2)]; rfl
    · rw [if_neg hwd, if_neg (c := wrD op = true ∧ 0 < d) (fun h => hwd h.1)]; rfl

/-- What is fetched, and done. -/
def runM (s : Mc) (l : List TwoD) : Mc :=
  if (placeM s.cs l s.m s.pc 4).2 ≠ 0 then s.trap 2 s.pc
  else
    let w := s.m.getD (placeM s.cs l s.m s.pc 4).1.toNat 0
    if decF w = 0 then (if (doM s l (decM w).1 (decM w).2.1 (decM w).2.2.1 (decM w).2.2.2.1).1 = true then moreM (doM s l (decM w).1 (decM w).2.1 (decM w).2.2.1 (decM w).2.2.2.1).2
      else (doM s l (decM w).1 (decM w).2.1 (decM w).2.2.1 (decM w).2.2.2.1).2) else s.trap 1 w

def stepM (s0 : Mc) (l : List TwoD) : Mc :=
  let s : Mc := { s0 with ring := -1, fall := -1 }
  if s.ha = true then s
  else if 0 ≤ dueM s.cs s.ru s.dn s.iq then s.trap (16 + dueM s.cs s.ru s.dn s.iq) 0
  else if s.wa = true then (if iand .i64 (pendM s.cs s.ru s.dn s.iq) (s.cs.getD 7 0) = 0 then s else runM { s with wa := false } l)
  else runM s l

theorem okI_dec {w : Int} (h : decF w = 0) : OkI (decM w).1 (decM w).2.1 (decM w).2.2.1 (decM w).2.2.2.1 := by
  obtain ⟨h1, h2, h3, h4, h5, h6⟩ := decF_ok h
  exact ⟨h1, h2, h3, h4, h5, h6⟩

theorem dueM_le (cs : List Int) (ru : Bool) (dn : Int) (iq : List Int) : -1 ≤ dueM cs ru dn iq ∧ dueM cs ru dn iq ≤ 2 := by
  unfold dueM; split
  · omega
  · exact lowB_le _

theorem specRun_e (h : OkS s l) {K : Option Unit} :
    ((F_spec_l10Place ((l, s.m, s.ring, (s.r, s.pc, s.cs, s.ha, s.wa, s.ru, s.dn, s.iq, s.oq, ()), s.fall, ()), s.pc, (4 : Int), ())).bind fun r7 =>
        if (r7.1.2.1 != (0 : Int)) then
          (F_spec_l10Fall (s.bus l, (2 : Int), s.pc, ())).bind fun r8 => some (((), (r8.2.1, ())) : Unit × BusD × Unit)
        else
          if 0 ≤ r7.1.1 ∧ r7.1.1 < ((s.m.length : Nat) : Int) then
            ((s.m)[(r7.1.1).toNat]?).bind fun y9 =>
            (F_spec_l2Decode (y9, ())).bind fun r10 =>
            if (!r10.1.2.1) then
              if 0 ≤ r7.1.1 ∧ r7.1.1 < ((s.m.length : Nat) : Int) then
                ((s.m)[(r7.1.1).toNat]?).bind fun y11 =>
                (F_spec_l10Fall (s.bus l, (1 : Int), y11, ())).bind fun r12 => some ((), (r12.2.1, ()))
              else none
            else
              (F_spec_l10Do (s.bus l, r10.1.1, ())).bind fun r13 =>
              if r13.1.1 then
                let v14 := (IntKind.i64.wrap (r13.2.1.2.2.2.2.2.2.2.2.2.1 + (1 : Int)))
                (F_spec_l1Min ((1000000000 : Int), v14, ())).bind fun r15 =>
                some ((), ((r13.2.1.1, (r13.2.1.2.1, (r13.2.1.2.2.1, (r13.2.1.2.2.2.1, (r13.2.1.2.2.2.2.1, (r13.2.1.2.2.2.2.2.1, (r13.2.1.2.2.2.2.2.2.1, (r13.2.1.2.2.2.2.2.2.2.1, (r13.2.1.2.2.2.2.2.2.2.2.1, (r15.1.1, (r13.2.1.2.2.2.2.2.2.2.2.2.2.1, (r13.2.1.2.2.2.2.2.2.2.2.2.2.2.1, (r13.2.1.2.2.2.2.2.2.2.2.2.2.2.2.1, ()))))))))))))), ()))
              else some ((), (r13.2.1, ()))
          else none) = some ((), ((runM s l).bus l, ())) := by
  have hdo := fun {w : Int} (hw : decF w = 0) => specDo_e h (okI_dec hw) rfl
  have hdn := h.d
  rw [specPlace_e h.c h.l, Option.bind_some]
  dsimp only
  unfold runM
  have hin := placeM_in h.c h.l s.pc 4
  generalize placeM s.cs l s.m s.pc 4 = q at *
  by_cases h0 : q.2 = 0
  · have hlt : 0 ≤ q.1 ∧ q.1 < ((s.m.length : Nat) : Int) := by
      rcases hin h0 with h | h
      · exact absurd rfl h.2.2
      · exact h
    have hN : q.1.toNat < s.m.length := by omega
    have hw : WW (s.m.getD q.1.toNat 0) := h.l.words _ (getD_mem hN)
    rw [if_neg (by simpa using h0), if_pos hlt, get_bind 0 hN, specDec_e hw, Option.bind_some, if_pos hlt, get_bind 0 hN, if_neg (c := q.2 ≠ 0) (by simpa using h0)]
    dsimp only
    generalize s.m.getD q.1.toNat 0 = w at *
    by_cases hd : decF w = 0
    · rw [if_neg (by simp [hd]), if_pos hd]
      have hx := hdo hd
      have hrr := exM_r s l (decM w).1 (decM w).2.1 (decM w).2.2.1 (decM w).2.2.2.1
      have hdn2 : (doM s l (decM w).1 (decM w).2.1 (decM w).2.2.1 (decM w).2.2.2.1).2.dn = s.dn := by
        unfold doM; dsimp only; split <;> exact hrr.2
      have e1 : ((decM w).1, (decM w).2.1, (decM w).2.2.1, (decM w).2.2.2.1, ()) = decM w := rfl
      rw [e1] at hx
      rw [hx, Option.bind_some]
      dsimp only
      generalize doM s l (decM w).1 (decM w).2.1 (decM w).2.2.1 (decM w).2.2.2.1 = x at *
      obtain ⟨b, s1⟩ := x
      cases b
      · rfl
      · simp only at hdn2
        rw [if_pos rfl, if_pos rfl]
        unfold F_spec_l1Min Mc.bus moreM
        dsimp only
        rw [hdn2, i64_same (by omega) (by omega)]
        by_cases hlt : 1000000000 < s.dn + 1
        · rw [if_pos (ltI_t.2 hlt), if_pos hlt]; rfl
        · rw [if_neg (by rw [ltI_t]; exact hlt), if_neg hlt]; rfl
    · rw [if_pos (by simp [hd]), if_neg hd]
      unfold Mc.bus
      rw [specFall_e h.c, Option.bind_some]
      rfl
  · rw [if_pos (by simpa using h0), if_pos (c := q.2 ≠ 0) h0]
    unfold Mc.bus
    rw [specFall_e h.c, Option.bind_some]
    rfl

theorem specStep_e (h : OkS s l) : F_spec_l10Step (s.bus l, ()) = some ((), ((stepM s l).bus l, ())) := by
  obtain ⟨r, pc, cs, ha, wa, ru, dn, iq, oq, m, ring, fall⟩ := s
  have h0 : OkS ⟨r, pc, cs, ha, wa, ru, dn, iq, oq, m, -1, -1⟩ l := ⟨h.r, h.pc, h.c, h.i, h.o, h.d, h.l⟩
  have h1 : OkS ⟨r, pc, cs, ha, false, ru, dn, iq, oq, m, -1, -1⟩ l := ⟨h.r, h.pc, h.c, h.i, h.o, h.d, h.l⟩
  have hc : OkC cs := h.c
  have hle := dueM_le cs ru dn iq
  generalize he : stepM ⟨r, pc, cs, ha, wa, ru, dn, iq, oq, m, ring, fall⟩ l = e
  unfold stepM at he
  unfold F_spec_l10Step
  dsimp only at he
  rw [show (Mc.bus ⟨r, pc, cs, ha, wa, ru, dn, iq, oq, m, ring, fall⟩ l) = (l, m, ring, r, pc, cs, ha, wa, ru, dn, iq, oq, fall, ()) from rfl]
  dsimp only
  cases ha
  · rw [if_neg (by decide)] at he
    rw [if_neg (by decide), specDue_e hc, Option.bind_some]
    dsimp only
    by_cases hk : 0 ≤ dueM cs ru dn iq
    · rw [if_pos hk] at he
      subst he
      rw [if_pos (leI_t.2 hk), i64_same (by omega) (by omega), specFall_e hc, Option.bind_some]
      rfl
    · rw [if_neg hk] at he
      rw [if_neg (by rw [leI_t]; exact hk)]
      cases wa
      · rw [if_neg (by decide)] at he
        subst he
        rw [if_neg (by decide)]
        exact specRun_e (K := none) h0
      · rw [if_pos rfl] at he
        have h7 : (0 : Int) ≤ 7 ∧ (7 : Int) < ((cs.length : Nat) : Int) := by rw [hc.len]; decide
        rw [if_pos rfl, specPend_e hc, Option.bind_some]
        dsimp only
        rw [if_pos h7, get_bind 0 (by rw [hc.len]; decide)]
        simp only [show ((7 : Int)).toNat = 7 from rfl]
        by_cases hz : iand .i64 (pendM cs ru dn iq) (cs.getD 7 0) = 0
        · rw [if_pos hz] at he
          subst he
          rw [if_pos (by simpa using hz)]
          rfl
        · rw [if_neg hz] at he
          subst he
          rw [if_neg (by simpa using hz)]
          exact specRun_e (K := none) h1
  · rw [if_pos rfl] at he
    subst he
    rw [if_pos rfl]
    rfl

theorem implRun_e (h : OkS s l) :
    ((F_impl_Hart_place ((s.r, s.pc, s.cs, s.ha, s.wa, s.ru, s.dn, s.iq, s.oq, ()), l, s.m, s.pc, (4 : Int), ())).bind fun r14 =>
        if (r14.1.1.1 != (0 : Int)) then
          (F_impl_core_fail (s.core l, (2 : Int), s.pc, ())).bind fun r15 => some (((), (r15.2.1, ())) : Unit × CoreD × Unit)
        else
          if 0 ≤ r14.1.1.2.1 ∧ r14.1.1.2.1 < ((s.m.length : Nat) : Int) then
            ((s.m)[(r14.1.1.2.1).toNat]?).bind fun y16 =>
            (F_impl_DecodeIns (y16, ())).bind fun r17 =>
            if (r17.1.1.1 != (0 : Int)) then
              if 0 ≤ r14.1.1.2.1 ∧ r14.1.1.2.1 < ((s.m.length : Nat) : Int) then
                ((s.m)[(r14.1.1.2.1).toNat]?).bind fun y18 =>
                (F_impl_core_fail (s.core l, (1 : Int), y18, ())).bind fun r19 => some ((), (r19.2.1, ()))
              else none
            else
              (F_impl_core_do (s.core l, r17.1.1.2.1, ())).bind fun r20 => some ((), (r20.2.1, ()))
          else none) = some ((), ((runM s l).core l, ())) := by
  have hdo := fun {w : Int} (hw : decF w = 0) => implDo_e h (okI_dec hw) rfl
  rw [implPlace_e h.c h.l _ (.inr (.inr rfl)), Option.bind_some]
  dsimp only
  unfold runM
  have hin := placeM_in h.c h.l s.pc 4
  generalize placeM s.cs l s.m s.pc 4 = q at *
  by_cases h0 : q.2 = 0
  · have hlt : 0 ≤ q.1 ∧ q.1 < ((s.m.length : Nat) : Int) := by
      rcases hin h0 with h | h
      · exact absurd rfl h.2.2
      · exact h
    have hN : q.1.toNat < s.m.length := by omega
    have hw : WW (s.m.getD q.1.toNat 0) := h.l.words _ (getD_mem hN)
    rw [if_neg (by simpa using h0), if_pos hlt, get_bind 0 hN, implDec_e hw, Option.bind_some, if_pos hlt, get_bind 0 hN, if_neg (c := q.2 ≠ 0) (by simpa using h0)]
    dsimp only
    generalize s.m.getD q.1.toNat 0 = w at *
    by_cases hd : decF w = 0
    · rw [if_pos hd, if_pos hd]
      dsimp only
      rw [if_neg (by decide)]
      have hx := hdo hd
      have e1 : ((decM w).1, (decM w).2.1, (decM w).2.2.1, (decM w).2.2.2.1, ()) = decM w := rfl
      rw [e1] at hx
      rw [hx, Option.bind_some]
      generalize doM s l (decM w).1 (decM w).2.1 (decM w).2.2.1 (decM w).2.2.2.1 = x at *
      obtain ⟨b, s1⟩ := x
      cases b <;> rfl
    · rw [if_neg hd, if_neg hd]
      dsimp only
      rw [if_pos (by decide)]
      unfold Mc.core
      rw [implFail_e h.c, Option.bind_some]
      rfl
  · rw [if_pos (by simpa using h0), if_pos (c := q.2 ≠ 0) h0]
    unfold Mc.core
    rw [implFail_e h.c, Option.bind_some]
    rfl

theorem implStep_e (h : OkS s l) : F_impl_core_step (s.core l, ()) = some ((), ((stepM s l).core l, ())) := by
  obtain ⟨r, pc, cs, ha, wa, ru, dn, iq, oq, m, ring, fall⟩ := s
  have h0 : OkS ⟨r, pc, cs, ha, wa, ru, dn, iq, oq, m, -1, -1⟩ l := ⟨h.r, h.pc, h.c, h.i, h.o, h.d, h.l⟩
  have h1 : OkS ⟨r, pc, cs, ha, false, ru, dn, iq, oq, m, -1, -1⟩ l := ⟨h.r, h.pc, h.c, h.i, h.o, h.d, h.l⟩
  have hc : OkC cs := h.c
  have hle := dueM_le cs ru dn iq
  generalize he : stepM ⟨r, pc, cs, ha, wa, ru, dn, iq, oq, m, ring, fall⟩ l = e
  unfold stepM at he
  unfold F_impl_core_step
  dsimp only at he
  rw [show (Mc.core ⟨r, pc, cs, ha, wa, ru, dn, iq, oq, m, ring, fall⟩ l) = (r, pc, cs, ha, wa, ru, dn, iq, oq, l, m, fall, ring, ()) from rfl]
  dsimp only
  cases ha
  · rw [if_neg (by decide)] at he
    rw [if_neg (by decide), implDue_e hc, Option.bind_some]
    dsimp only
    by_cases hk : 0 ≤ dueM cs ru dn iq
    · rw [if_pos hk] at he
      subst he
      rw [if_pos (leI_t.2 hk), i64_same (by omega) (by omega), implFail_e hc, Option.bind_some]
      rfl
    · rw [if_neg hk] at he
      rw [if_neg (by rw [leI_t]; exact hk)]
      cases wa
      · rw [if_neg (by decide)] at he
        subst he
        rw [if_neg (by decide)]
        exact implRun_e h0
      · rw [if_pos rfl] at he
        have h7 : (0 : Int) ≤ 7 ∧ (7 : Int) < ((cs.length : Nat) : Int) := by rw [hc.len]; decide
        rw [if_pos rfl, implPend_e hc, Option.bind_some]
        dsimp only
        rw [if_pos h7, get_bind 0 (by rw [hc.len]; decide)]
        simp only [show ((7 : Int)).toNat = 7 from rfl]
        by_cases hz : iand .i64 (pendM cs ru dn iq) (cs.getD 7 0) = 0
        · rw [if_pos hz] at he
          subst he
          rw [if_pos (by simpa using hz)]
          rfl
        · rw [if_neg hz] at he
          subst he
          rw [if_neg (by simpa using hz)]
          exact implRun_e h1
  · rw [if_pos rfl] at he
    subst he
    rw [if_pos rfl]
    rfl

theorem exM_ok (h : OkS s l) {op d a i : Int} (hi : OkI op d a i) : OkS (exM s l op d a i).2.2.2 l ∧ WW (exM s l op d a i).2.2.1 ∧ ((exM s l op d a i).1 = true → WW (exM s l op d a i).2.1) := by
  have hp : ∀ x y, WW (addW x y) := addW_word
  have h0 : WW 0 := by unfold WW; omega
  have hd := hi.hd
  have ha := hi.ha
  have hii := hi.hi
  have hra := h.r.w (k := a.toNat) (by omega)
  have hrd := h.r.w (k := d.toNat) (by omega)
  unfold exM
  let P : Bool × Int × Int × Mc → Prop := fun x => OkS x.2.2.2 l ∧ WW x.2.2.1 ∧ (x.1 = true → WW x.2.1)
  refine ite_P P (fun _ => ⟨h, hp _ _, fun _ => hp _ _⟩) fun _ => ite_P P (fun _ => ⟨h, by unfold WW; dsimp only; omega, fun _ => hp _ _⟩) fun _ => ite_P P (fun _ => ?_) fun _ => ite_P P (fun _ => ?_) fun _ =>
    ite_P P (fun _ => ⟨h, h0, fun _ => ite_P WW (fun _ => hp _ _) fun _ => hp _ _⟩) fun _ => ite_P P (fun _ => ⟨h, hp _ _, fun _ => hp _ _⟩) fun _ => ite_P P (fun _ => ⟨h, hp _ _, fun _ => hp _ _⟩) fun _ =>
    ite_P P (fun h21 => ⟨h, getM_word h.c ⟨hii.1, hi.i21 (.inl h21)⟩ h.d, fun _ => hp _ _⟩) fun _ => ite_P P (fun h22 => ⟨⟨h.r, h.pc, setC_ok h.c ⟨hii.1, hi.i21 (.inr h22)⟩, h.i, h.o, h.d, h.l⟩, h0, fun _ => hp _ _⟩) fun _ =>
    ite_P P (fun _ => ⟨trap_ok h (by unfold WW; omega) h0, h0, fun _ => h0⟩) fun _ => ite_P P (fun _ => ⟨⟨h.r, h.c.w (by decide), backC_ok h.c, h.i, h.o, h.d, h.l⟩, h0, fun _ => h.c.w (by decide)⟩) fun _ =>
    ite_P P (fun _ => ⟨⟨h.r, h.pc, h.c, h.i, h.o, h.d, h.l⟩, h0, fun _ => hp _ _⟩) fun _ => ite_P P (fun _ => ⟨⟨h.r, h.pc, h.c, h.i, h.o, h.d, h.l⟩, h0, fun _ => h.pc⟩) fun _ => ⟨h, aluW_word _ _ _, fun _ => hp _ _⟩
  · have hin := placeM_in h.c h.l (addW (s.r.getD a.toNat 0) (off i)) 1
    refine ite_P P (fun _ => ⟨trap_ok h (by unfold WW; omega) (hp _ _), h0, fun _ => h0⟩) fun hq0 => ite_P P (fun _ => ?_) fun hq => ⟨h, ?_, fun _ => hp _ _⟩
    · have := readM_ok (ru := s.ru) h.c h.i h.d ((placeM s.cs l s.m (addW (s.r.getD a.toNat 0) (off i)) 1).1 - 1000)
      exact ⟨⟨h.r, h.pc, h.c, this.2, h.o, h.d, h.l⟩, this.1, fun _ => hp _ _⟩
    · have hlt : 0 ≤ (placeM s.cs l s.m (addW (s.r.getD a.toNat 0) (off i)) 1).1 ∧ (placeM s.cs l s.m (addW (s.r.getD a.toNat 0) (off i)) 1).1 < (s.m.length : Int) := by
        rcases hin (by simpa using hq0) with h | h
        · exact absurd h.1 hq
        · exact h
      exact h.l.words _ (getD_mem (by omega))
  · refine ite_P P (fun _ => ⟨trap_ok h (by unfold WW; omega) (hp _ _), h0, fun _ => h0⟩) fun hq0 => ite_P P (fun _ => ?_) fun hq => ?_
    · exact ⟨⟨h.r, h.pc, wrC_ok h.c _ _, h.i, wrO_ok h.o _ _, h.d, h.l⟩, h0, fun _ => hp _ _⟩
    · refine ⟨⟨h.r, h.pc, h.c, h.i, h.o, h.d, ⟨h.l.len, fun p hpm => ?_, fun w hw => ?_, ?_⟩⟩, h0, fun _ => hp _ _⟩
      · have := h.l.pgs p hpm
        dsimp only
        rw [List.length_set]
        exact this
      · rcases List.mem_or_eq_of_mem_set hw with hw | rfl
        · exact h.l.words w hw
        · exact hrd
      · dsimp only
        rw [List.length_set]
        exact h.l.mlen

theorem OkR.set {r : List Int} (h : OkR r) {k : Nat} {w : Int} (hk : 0 < k) (hw : WW w) : OkR (r.set k w) :=
  ⟨by rw [List.length_set]; exact h.len, fun z hz => by
    rcases List.mem_or_eq_of_mem_set hz with hz | rfl
    · exact h.words z hz
    · exact hw, by rw [getD_set_ne (by omega)]; exact h.zero⟩

theorem doM_ok (h : OkS s l) {op d a i : Int} (hi : OkI op d a i) : OkS (doM s l op d a i).2 l := by
  have he := exM_ok h hi
  unfold doM
  dsimp only
  refine ite_P (fun x : Bool × Mc => OkS x.2 l) (fun hb => ?_) fun _ => he.1
  refine ⟨?_, he.2.2 hb, he.1.c, he.1.i, he.1.o, he.1.d, he.1.l⟩
  refine ite_P OkR (fun hd => he.1.r.set (by omega) he.2.1) fun _ => he.1.r

theorem moreM_ok (h : OkS s l) : OkS (moreM s) l := by
  have := h.d
  refine ⟨h.r, h.pc, h.c, h.i, h.o, ?_, h.l⟩
  unfold moreM
  dsimp only
  split <;> omega

theorem runM_ok (h : OkS s l) : OkS (runM s l) l := by
  unfold runM
  have hin := placeM_in h.c h.l s.pc 4
  refine ite_P (fun x => OkS x l) (fun _ => trap_ok h (by unfold WW; omega) h.pc) fun hq0 => ?_
  have hlt : 0 ≤ (placeM s.cs l s.m s.pc 4).1 ∧ (placeM s.cs l s.m s.pc 4).1 < (s.m.length : Int) := by
    rcases hin (by simpa using hq0) with h | h
    · exact absurd rfl h.2.2
    · exact h
  have hw : WW (s.m.getD (placeM s.cs l s.m s.pc 4).1.toNat 0) := h.l.words _ (getD_mem (by omega))
  refine ite_P (fun x => OkS x l) (fun hd => ?_) fun _ => trap_ok h (by unfold WW; omega) hw
  exact ite_P (fun x => OkS x l) (fun _ => moreM_ok (doM_ok h (okI_dec hd))) fun _ => doM_ok h (okI_dec hd)

theorem stepM_ok (h : OkS s l) : OkS (stepM s l) l := by
  have h0 : OkS { s with ring := -1, fall := -1 } l := ⟨h.r, h.pc, h.c, h.i, h.o, h.d, h.l⟩
  have h1 : OkS { s with ring := -1, fall := -1, wa := false } l := ⟨h.r, h.pc, h.c, h.i, h.o, h.d, h.l⟩
  have hle := dueM_le s.cs s.ru s.dn s.iq
  unfold stepM
  refine ite_P (fun x => OkS x l) (fun _ => h0) fun _ => ite_P (fun x => OkS x l) (fun hk => trap_ok h0 ?_ (by unfold WW; omega)) fun _ => ite_P (fun x => OkS x l) (fun _ => ite_P (fun x => OkS x l) (fun _ => h0) fun _ => runM_ok h1) fun _ => runM_ok h0
  unfold WW
  dsimp only at *
  omega

end
theorem scanN_none {α β : Type} {f : Nat → α → Option β} : ∀ {m : List α} {i : Nat}, scan f i m = none → ∀ x ∈ m, ∃ j, f j x = none
  | [], _, _, _, hx => by cases hx
  | y :: r, i, h, x, hx => by
    simp only [scan] at h
    split at h
    · cases h
    · rename_i hn
      rcases List.mem_cons.1 hx with rfl | hx
      · exact ⟨_, hn⟩
      · exact scanN_none h x hx

theorem pagesM_top {l : List TwoD} {top : Int} (ht : 1 ≤ top ∧ top ≤ 24) (h : pagesM l top = 0) : l.length = 8 ∧ ∀ p ∈ l, (-1 ≤ p.1 ∧ p.1 ≤ top - 1) ∧ (0 ≤ p.2.1 ∧ p.2.1 ≤ 7) := by
  unfold pagesM at h
  rw [if_pos (by unfold inB; simp [ht.1, ht.2])] at h
  split at h
  · rename_i hl
    refine ⟨hl, fun p hp => ?_⟩
    have key : scan (fun (_ : Nat) p => pageF top p) 0 l = none := by
      split at h
      · rename_i c hc
        exfalso
        have : ∀ {l : List TwoD} {i : Nat} {c : Int}, scan (fun (_ : Nat) p => pageF top p) i l = some c → c ≠ 0 := by
          intro l
          induction l with
          | nil => intro i c h; simp [scan] at h
          | cons y r ih =>
            intro i c h
            simp only [scan] at h
            split at h
            · rename_i c' hc'
              obtain rfl := Option.some.inj h
              unfold pageF nz at hc'
              intro e
              subst e
              repeat' split at hc'
              all_goals first | (cases hc'; done) | simp_all
            · exact ih h
        exact this hc h
      · rename_i hn; exact hn
    obtain ⟨j, hj⟩ := scanN_none key p hp
    unfold pageF inB at hj
    split at hj
    · rename_i h1
      split at hj
      · rename_i h2
        simp only [Bool.and_eq_true, decide_eq_true_eq] at h1 h2
        omega
      · cases hj
    · cases hj
  · omega

def Mc.of (h : HartD) (m : List Int) : Mc := ⟨h.1, h.2.1, h.2.2.1, h.2.2.2.1, h.2.2.2.2.1, h.2.2.2.2.2.1, h.2.2.2.2.2.2.1, h.2.2.2.2.2.2.2.1, h.2.2.2.2.2.2.2.2.1, m, -1, -1⟩

theorem okS_h {h : HartD} {l : List TwoD} {m : List Int} (h1 : hartM h = 0) (hL : OkL l m) : OkS (Mc.of h m) l := by
  unfold hartM at h1
  split at h1
  · rename_i c1
    split at h1
    · rename_i c2
      split at h1
      · rename_i c3
        split at h1
        · rename_i c4
          split at h1
          · rename_i c5
            simp only [inB, Bool.and_eq_true, decide_eq_true_eq] at c4
            exact ⟨⟨c1.1, allW_iff.1 c2.1, c1.2.2⟩, okW_iff.1 c2.2.1, ⟨c1.2.1, allW_iff.1 c2.2.2.1, c5.1, c5.2.1, c5.2.2.1, c5.2.2.2.1, c5.2.2.2.2⟩, ⟨c3.1, allW_iff.1 c2.2.2.2.1⟩, ⟨c3.2, allW_iff.1 c2.2.2.2.2⟩, c4, hL⟩
          · omega
        · omega
      · omega
    · omega
  · omega

theorem specCopy_e (h : HartD) (hh : hartLe 1048576 h) : F_spec_l8Copy (h, ()) = some ((h, ()), ()) := by
  obtain ⟨h1, h2, h3, h4⟩ := hh
  unfold F_spec_l8Copy
  dsimp only
  rw [if_pos (by simp; omega), if_pos (by simp; omega), if_pos (by simp; omega), if_pos (by simp; omega)]
  rfl

theorem implOwn_e (h : HartD) (hh : hartLe 1048576 h) : F_impl_Hart_own (h, ()) = some ((h, ()), ()) := by
  obtain ⟨h1, h2, h3, h4⟩ := hh
  unfold F_impl_Hart_own
  dsimp only
  rw [clone_e h1, Option.bind_some, clone_e h2, Option.bind_some, clone_e h3, Option.bind_some, clone_e h4, Option.bind_some]

theorem specNew_e (h : HartD) (l : List TwoD) (m : List Int) (hh : hartLe 1048576 h) (hm : m.length ≤ 1048576) : F_spec_l10New (h, l, m, ()) = some (((Mc.of h m).bus l, ()), ()) := by
  unfold F_spec_l10New F_spec_l3Copy
  dsimp only
  rw [if_pos (by simp; omega), Option.bind_some, specCopy_e h hh, Option.bind_some]
  rfl

def manyM (l : List TwoD) : Nat → Int → Int → Mc → Int × Int × Mc
  | 0, c, g, s => (c, g, s)
  | k + 1, c, g, s => manyM l k (if 0 ≤ (stepM s l).fall then (stepM s l).fall else c) (if 0 ≤ (stepM s l).ring then (stepM s l).ring else g) (stepM s l)

abbrev StepR := Int × Int × Int × List Int × Int × List Int × Bool × Bool × Bool × Int × List Int × List Int × List Int × Unit

def zeroS (c : Int) : StepR := (c, 0, 0, [], 0, [], false, false, false, 0, [], [], [], ())

def Mc.res (s : Mc) (c g : Int) : StepR := (0, c, g, s.r, s.pc, s.cs, s.ha, s.wa, s.ru, s.dn, s.iq, s.oq, s.m, ())

theorem implMany_loop (l : List TwoD) (n : Int) (h0 : 0 ≤ n ∧ n ≤ 500) (s0 : Mc) (h : OkS s0 l) : ∀ (i : Nat) (x : Int × Int × Mc), i ≤ n.toNat → OkS x.2.2 l →
    iterF l_impl_stepped_4 lots (((), (), x.1, x.2.1, n, ((i : Nat) : Int), ()), (zeroS 0, x.2.2.core l, ()), ()) =
      some (.inl (((), (), (manyM l (n.toNat - i) x.1 x.2.1 x.2.2).1, (manyM l (n.toNat - i) x.1 x.2.1 x.2.2).2.1, ()), (zeroS 0, (manyM l (n.toNat - i) x.1 x.2.1 x.2.2).2.2.core l, ()), ())) := by
  have key := loopN (step := l_impl_stepped_4) (γ := denO o_impl_stepped_4) (fun i (x : Int × Int × Mc) => (((), (), x.1, x.2.1, n, ((i : Nat) : Int), ()), (zeroS 0, x.2.2.core l, ()), ())) n.toNat (lots_gt' (by omega)) (fun _ x => OkS x.2.2 l)
    (fun i x => some (.inl (((), (), (manyM l (n.toNat - i) x.1 x.2.1 x.2.2).1, (manyM l (n.toNat - i) x.1 x.2.1 x.2.2).2.1, ()), (zeroS 0, (manyM l (n.toNat - i) x.1 x.2.1 x.2.2).2.2.core l, ()), ()))) ?_
  · exact key
  · rintro rec i ⟨c, g, s⟩ hi hok ih
    unfold l_impl_stepped_4
    dsimp only at *
    by_cases hlt : i < n.toNat
    · rw [if_pos (ltI_t.2 (by omega)), implStep_e hok, Option.bind_some]
      have e1 : n.toNat - i = n.toNat - (i + 1) + 1 := by omega
      have ih2 := ih (if 0 ≤ (stepM s l).fall then (stepM s l).fall else c, if 0 ≤ (stepM s l).ring then (stepM s l).ring else g, stepM s l) hlt (stepM_ok hok)
      dsimp only
      rw [wrapS (by omega), e1]
      simp only [manyM]
      rw [← ih2]
      unfold Mc.core
      dsimp only
      by_cases hf : 0 ≤ (stepM s l).fall
      · rw [if_pos (leI_t.2 hf), if_pos hf]
        by_cases hg : 0 ≤ (stepM s l).ring
        · rw [if_pos (leI_t.2 hg), if_pos hg]
        · rw [if_neg (by rw [leI_t]; exact hg), if_neg hg]
      · rw [if_neg (by rw [leI_t]; exact hf), if_neg hf]
        by_cases hg : 0 ≤ (stepM s l).ring
        · rw [if_pos (leI_t.2 hg), if_pos hg]
        · rw [if_neg (by rw [leI_t]; exact hg), if_neg hg]
    · have : i = n.toNat := by omega
      subst this
      rw [if_neg (by rw [ltI_t]; omega), Nat.sub_self]
      rfl

theorem many_start (l : List TwoD) (a b : Int) (s : Mc) : ∀ (k : Nat) (c g : Int), (manyM l k c g { s with ring := a, fall := b }).1 = (manyM l k c g s).1 ∧ (manyM l k c g { s with ring := a, fall := b }).2.1 = (manyM l k c g s).2.1 ∧
    ∀ x y, (manyM l k c g { s with ring := a, fall := b }).2.2.res x y = (manyM l k c g s).2.2.res x y
  | 0, _, _ => ⟨rfl, rfl, fun _ _ => rfl⟩
  | k + 1, _, _ => ⟨rfl, rfl, fun _ _ => rfl⟩

theorem implStepped_e (h : HartD) (l : List TwoD) (m : List Int) (n : Int) (hh : hartLe 1048576 h) (hm : m.length ≤ 1048576) (ho : OkS (Mc.of h m) l) (hn : 0 ≤ n ∧ n ≤ 500) : F_impl_stepped (h, l, m, n, ()) =
    some (((manyM l n.toNat (-1) (-1) (Mc.of h m)).2.2.res (manyM l n.toNat (-1) (-1) (Mc.of h m)).1 (manyM l n.toNat (-1) (-1) (Mc.of h m)).2.1, ()), ()) := by
  have ho2 : OkS { Mc.of h m with ring := 0, fall := 0 } l := ⟨ho.r, ho.pc, ho.c, ho.i, ho.o, ho.d, ho.l⟩
  have key := implMany_loop l n hn _ ho2 0 (-1, -1, { Mc.of h m with ring := 0, fall := 0 }) (by omega) ho2
  obtain ⟨q1, q2, q3⟩ := many_start l 0 0 (Mc.of h m) n.toNat (-1) (-1)
  unfold F_impl_stepped
  dsimp only
  rw [implOwn_e h hh, Option.bind_some, clone_e hm, Option.bind_some]
  show (iterF l_impl_stepped_4 lots (((), (), (-1), (-1), n, (((0 : Nat) : Nat) : Int), ()), (zeroS 0, Mc.core { Mc.of h m with ring := 0, fall := 0 } l, ()), ())).bind _ = _
  rw [key, ← q1, ← q2, ← q3]
  rfl

section
variable {l : List TwoD} {s : Mc}
def FR (s : Mc) : Prop := (s.fall = -1 ∨ 0 ≤ s.fall) ∧ (s.ring = -1 ∨ 0 ≤ s.ring)

theorem FR.trap (h : FR s) {cause tval : Int} (hc : 0 ≤ cause) : FR (s.trap cause tval) := ⟨.inr hc, h.2⟩

end
def pgSeq : Int → Nat → List TwoD
  | _, 0 => []
  | k, n + 1 => (k, k + 1, ()) :: pgSeq (k + 2) n

theorem pgSeq_len : ∀ (n : Nat) (k : Int), (pgSeq k n).length = n
  | 0, _ => rfl
  | n + 1, k => by simp [pgSeq, pgSeq_len n]

theorem pgSeq_get : ∀ {n i : Nat} {k : Int}, i < n → (pgSeq k n)[i]? = some (k + 2 * (i : Int), k + 2 * (i : Int) + 1, ())
  | n + 1, 0, k, _ => by simp [pgSeq]
  | n + 1, i + 1, k, h => by
    have := pgSeq_get (n := n) (i := i) (k := k + 2) (by omega)
    simp only [pgSeq, List.getElem?_cons_succ, this]
    have e : k + 2 + 2 * (i : Int) = k + 2 * ((i + 1 : Nat) : Int) := by omega
    rw [e]

theorem pgSeq_snoc : ∀ (n : Nat) (k : Int), pgSeq k (n + 1) = pgSeq k n ++ [(k + 2 * (n : Int), k + 2 * (n : Int) + 1, ())]
  | 0, k => by simp [pgSeq]
  | n + 1, k => by
    have := pgSeq_snoc n (k + 2)
    rw [show pgSeq k (n + 1 + 1) = (k, k + 1, ()) :: pgSeq (k + 2) (n + 1) from rfl, this]
    have e : k + 2 + 2 * (n : Int) = k + 2 * ((n + 1 : Nat) : Int) := by omega
    rw [e]
    rfl

theorem markPg_eq (xs : List TwoD) (k : Int) (h : xs.length ≤ 1048576) (hk : 0 ≤ k ∧ k ≤ 1152921504606846976) : F_laws_markPageS (xs, k, ()) = some ((k + 2 * (xs.length : Int), ()), (pgSeq k xs.length, ())) := by
  have key := loopN (step := l_laws_markPageS_2) (γ := denO o_laws_markPageS_2) (fun i (row : List TwoD) => (((), k + 2 * (i : Int), ((i : Nat) : Int), ()), (), (row, ()))) xs.length (lots_gt' (by omega)) (fun i row => row = pgSeq k i ++ xs.drop i)
    (fun _ _ => some (.inl ((k + 2 * (xs.length : Int), ()), (), (pgSeq k xs.length, ())))) ?_ 0 xs (by omega) (by simp [pgSeq])
  · unfold F_laws_markPageS
    dsimp only
    show (iterF l_laws_markPageS_2 lots (((), k, 0, ()), (), (xs, ()))).bind _ = _
    have e : (k : Int) = k + 2 * ((0 : Nat) : Int) := by omega
    rw [show iterF l_laws_markPageS_2 lots (((), k, 0, ()), (), (xs, ())) = iterF l_laws_markPageS_2 lots (((), k + 2 * ((0 : Nat) : Int), ((0 : Nat) : Int), ()), (), (xs, ())) from by rw [← e]; rfl, key, Option.bind_some]
    dsimp only
    rw [if_pos (by rw [pgSeq_len]; simp)]
  · intro rec i row hi hrow ih
    have hlen : row.length = xs.length := by rw [hrow, List.length_append, pgSeq_len, List.length_drop]; omega
    unfold l_laws_markPageS_2
    dsimp only
    by_cases hlt : i < xs.length
    · have hlr : i < row.length := by omega
      have hin : 0 ≤ ((i : Nat) : Int) ∧ ((i : Nat) : Int) < ((row.length : Nat) : Int) := ⟨nat0, Int.ofNat_lt.2 hlr⟩
      have w1 : IntKind.i64.wrap (k + 2 * (i : Int) + 1) = k + 2 * (i : Int) + 1 := i64_same (by omega) (by omega)
      have w2 : IntKind.i64.wrap (k + 2 * (i : Int) + 1 + 1) = k + 2 * ((i + 1 : Nat) : Int) := by rw [i64_same (by omega) (by omega)]; omega
      rw [if_pos (lt_t hlr), if_pos hin, at_get hlr, w1, w2, wrapS (by omega)]
      simp only [List.length_set, Int.toNat_natCast]
      rw [if_pos hin, List.getElem?_set_self hlr, Option.bind_some, List.set_set]
      refine ih _ hlt ?_
      show row.set i (k + 2 * (i : Int), k + 2 * (i : Int) + 1, ()) = _
      rw [hrow, pgSeq_snoc, drop_get hlt, List.set_append_right _ _ (by rw [pgSeq_len]; omega), pgSeq_len, Nat.sub_self, List.append_assoc]
      rfl
    · have hie : i = xs.length := by omega
      rw [if_neg (lt_f (by omega))]
      have : row = pgSeq k xs.length := by rw [hrow, hie, List.drop_length, List.append_nil]
      rw [this, hie]

theorem heldPg_eq (n : Nat) (k : Int) (h : n ≤ 1048576) (hk : 0 ≤ k ∧ k ≤ 1152921504606846976) : F_laws_heldPageS (pgSeq k n, k, ()) = some ((k + 2 * (n : Int), ()), ()) := by
  have key := loopN (step := l_laws_heldPageS_2) (γ := denO o_laws_heldPageS_2) (fun i (_ : Unit) => ((pgSeq k n, k + 2 * (i : Int), ((i : Nat) : Int), ()), (), ())) n (lots_gt' (by omega)) (fun _ _ => True)
    (fun _ _ => some (.inl ((k + 2 * (n : Int), ()), (), ()))) ?_ 0 () (by omega) trivial
  · unfold F_laws_heldPageS
    dsimp only
    have e : (k : Int) = k + 2 * ((0 : Nat) : Int) := by omega
    show (iterF l_laws_heldPageS_2 lots ((pgSeq k n, k, 0, ()), (), ())).bind _ = _
    rw [show iterF l_laws_heldPageS_2 lots ((pgSeq k n, k, 0, ()), (), ()) = iterF l_laws_heldPageS_2 lots ((pgSeq k n, k + 2 * ((0 : Nat) : Int), ((0 : Nat) : Int), ()), (), ()) from by rw [← e]; rfl, key, Option.bind_some]
  · intro rec i _ hi _ ih
    unfold l_laws_heldPageS_2
    dsimp only
    rw [pgSeq_len]
    by_cases hlt : i < n
    · have w1 : IntKind.i64.wrap (k + 2 * (i : Int) + 1) = k + 2 * (i : Int) + 1 := i64_same (by omega) (by omega)
      have w2 : IntKind.i64.wrap (k + 2 * (i : Int) + 1 + 1) = k + 2 * ((i + 1 : Nat) : Int) := by rw [i64_same (by omega) (by omega)]; omega
      rw [if_pos (lt_t hlt), if_pos nat0, Int.toNat_natCast, pgSeq_get hlt, Option.bind_some, w1]
      dsimp only
      rw [if_neg (by simp), if_pos nat0, Option.bind_some]
      dsimp only
      rw [if_neg (by simp), w2, wrapS (by omega)]
      exact ih () hlt trivial
    · have hie : i = n := by omega
      rw [if_neg (lt_f (by omega)), hie]

def itM (l : List TwoD) : Nat → Mc → Mc
  | 0, s => s
  | k + 1, s => itM l k (stepM s l)

theorem many_it (l : List TwoD) : ∀ (k : Nat) (c g : Int) (s : Mc), (manyM l k c g s).2.2 = itM l k s
  | 0, _, _, _ => rfl
  | k + 1, _, _, _ => many_it l k _ _ _

theorem itM_ok {l : List TwoD} : ∀ {k : Nat} {s : Mc}, OkS s l → OkS (itM l k s) l
  | 0, _, h => h
  | k + 1, _, h => itM_ok (k := k) (stepM_ok h)

abbrev SoloR := Int × List Int × Int × List Int × Bool × Bool × Bool × Int × List Int × List Int × List TwoD × List Int × Unit

def zeroR (c : Int) : SoloR := (c, [], 0, [], false, false, false, 0, [], [], [], [], ())

def soloR (s : Mc) (l : List TwoD) : SoloR := (0, s.r, s.pc, s.cs, s.ha, s.wa, s.ru, s.dn, s.iq, s.oq, l, s.m, ())

def runSoloM (x : SoloD) (n : Int) : SoloR :=
  if soloM x ≠ 0 then zeroR (soloM x) else if 0 ≤ n ∧ n ≤ 500 then soloR (itM x.2.1 n.toNat (Mc.of x.1 x.2.2.1)) x.2.1 else zeroR 3

theorem okS_solo {x : SoloD} (h : soloM x = 0) : OkS (Mc.of x.1 x.2.2.1) x.2.1 := by
  obtain ⟨h1, h2, h3, h4⟩ := solo_ok h
  obtain ⟨hl, hp⟩ := pagesM_top (by decide) h2
  refine okS_h h1 ⟨hl, fun p hpm => ?_, ?_, by omega⟩
  · have := hp p hpm
    refine ⟨by omega, this.2, ?_⟩
    rw [h4]; omega
  · have hm := memFault_zero h3
    unfold memFault at h3
    rw [if_pos hm] at h3
    split at h3
    · exact allW_iff.1 ‹_›
    · omega

theorem specSoloCopy_e (x : SoloD) (h : soloLe 1048576 x) : F_spec_l11Copy (x, ()) = some (((x.1.1, x.1.2.1, x.1.2.2.1, x.1.2.2.2.1, x.1.2.2.2.2.1, x.1.2.2.2.2.2.1, x.1.2.2.2.2.2.2.1, x.1.2.2.2.2.2.2.2.1, x.1.2.2.2.2.2.2.2.2.1, x.2.1, x.2.2.1, ()), ()), ()) := by
  obtain ⟨h1, h2, h3⟩ := h
  unfold F_spec_l11Copy F_spec_l3Copy
  dsimp only
  rw [specCopy_e _ h1, Option.bind_some, if_pos (by simp; omega), if_pos (by simp; omega), Option.bind_some]
  rfl

theorem specSolo_loop (l : List TwoD) (n : Int) (h0 : 0 ≤ n ∧ n ≤ 500) (z : SoloR) (q : List Int × Int × List Int × Bool × Bool × Bool × Int × List Int × List Int × List TwoD × List Int × Unit) : ∀ (i : Nat) (s : Mc), i ≤ n.toNat → OkS s l →
    iterF l_spec_RunSolo_9 lots ((n, (), (), (), ((i : Nat) : Int), ()), (z, q, s.bus l, ()), ()) = some (.inl (((), (), (), ()), (z, q, (itM l (n.toNat - i) s).bus l, ()), ())) := by
  have key := loopN (step := l_spec_RunSolo_9) (γ := denO o_spec_RunSolo_9) (fun i (s : Mc) => ((n, (), (), (), ((i : Nat) : Int), ()), (z, q, s.bus l, ()), ())) n.toNat (lots_gt' (by omega)) (fun _ s => OkS s l)
    (fun i s => some (.inl (((), (), (), ()), (z, q, (itM l (n.toNat - i) s).bus l, ()), ()))) ?_
  · exact key
  · intro rec i s hi hok ih
    unfold l_spec_RunSolo_9
    dsimp only
    by_cases hlt : i < n.toNat
    · rw [if_pos (ltI_t.2 (by omega)), specStep_e hok, Option.bind_some]
      have e1 : n.toNat - i = n.toNat - (i + 1) + 1 := by omega
      have ih2 := ih (stepM s l) hlt (stepM_ok hok)
      dsimp only
      rw [wrapS (by omega), e1]
      simp only [itM]
      rw [← ih2]
    · have : i = n.toNat := by omega
      subst this
      rw [if_neg (by rw [ltI_t]; omega), Nat.sub_self]
      rfl

theorem specRunSolo_e (x : SoloD) (n : Int) (h : soloLe 1048576 x) : F_spec_RunSolo (x, n, ()) = some ((runSoloM x n, ()), ()) := by
  unfold F_spec_RunSolo runSoloM
  dsimp only
  rw [specSolo_eq x h, Option.bind_some, l1In_eq, Option.bind_some]
  dsimp only
  by_cases ha : soloM x = 0
  · rw [if_neg (by simpa using ha), if_neg (c := soloM x ≠ 0) (by simpa using ha)]
    by_cases hn : 0 ≤ n ∧ n ≤ 500
    · rw [if_neg (by simp [hn.1, hn.2]), if_pos hn, specSoloCopy_e x h, Option.bind_some, specNew_e x.1 x.2.1 x.2.2.1 h.1 h.2.2, Option.bind_some]
      have key := specSolo_loop x.2.1 n hn (zeroR 0) (x.1.1, x.1.2.1, x.1.2.2.1, x.1.2.2.2.1, x.1.2.2.2.2.1, x.1.2.2.2.2.2.1, x.1.2.2.2.2.2.2.1, x.1.2.2.2.2.2.2.2.1, x.1.2.2.2.2.2.2.2.2.1, x.2.1, x.2.2.1, ()) 0 (Mc.of x.1 x.2.2.1) (by omega) (okS_solo ha)
      show (iterF l_spec_RunSolo_9 lots ((n, (), (), (), (((0 : Nat) : Nat) : Int), ()), (zeroR 0, (x.1.1, x.1.2.1, x.1.2.2.1, x.1.2.2.2.1, x.1.2.2.2.2.1, x.1.2.2.2.2.2.1, x.1.2.2.2.2.2.2.1, x.1.2.2.2.2.2.2.2.1, x.1.2.2.2.2.2.2.2.2.1, x.2.1, x.2.2.1, ()), (Mc.of x.1 x.2.2.1).bus x.2.1, ()), ())).bind _ = _
      rw [key]
      rfl
    · rw [if_pos (by simp; omega), if_neg hn]
      rfl
  · rw [if_pos (by simpa using ha), if_pos (c := soloM x ≠ 0) ha]
    rfl

theorem implRunSolo_e (x : SoloD) (n : Int) (h : soloLe 1048576 x) : F_impl_RunSolo (x, n, ()) = some ((runSoloM x n, ()), ()) := by
  unfold F_impl_RunSolo runSoloM
  dsimp only
  rw [implSolo_eq x h, Option.bind_some, within_eq, Option.bind_some]
  dsimp only
  by_cases ha : soloM x = 0
  · rw [if_neg (by simpa using ha), if_neg (c := soloM x ≠ 0) (by simpa using ha)]
    by_cases hn : 0 ≤ n ∧ n ≤ 500
    · rw [if_neg (by simp [hn.1, hn.2]), if_pos hn]
      unfold F_impl_Solo_run F_impl_ownPages F_slices_Clone_impl_Page
      dsimp only
      have h2 := h.2.1
      rw [implStepped_e x.1 x.2.1 x.2.2.1 n h.1 h.2.2 (okS_solo ha) hn, Option.bind_some, if_pos (by simp; omega), Option.bind_some, Option.bind_some, Option.bind_some, many_it]
      rfl
    · rw [if_pos (by simp; omega), if_neg hn]
      rfl
  · rw [if_pos (by simpa using ha), if_pos (c := soloM x ≠ 0) ha]
    rfl

def rrLe (r : SoloR) : Prop := r.2.1.length ≤ 1048576 ∧ r.2.2.2.1.length ≤ 1048576 ∧ r.2.2.2.2.2.2.2.2.1.length ≤ 1048576 ∧ r.2.2.2.2.2.2.2.2.2.1.length ≤ 1048576 ∧ r.2.2.2.2.2.2.2.2.2.2.1.length ≤ 1048576 ∧ r.2.2.2.2.2.2.2.2.2.2.2.1.length ≤ 1048576

def rrV (r : SoloR) : Int × SoloD × Unit := (r.1, ((r.2.1, r.2.2.1, r.2.2.2.1, r.2.2.2.2.1, r.2.2.2.2.2.1, r.2.2.2.2.2.2.1, r.2.2.2.2.2.2.2.1, r.2.2.2.2.2.2.2.2.1, r.2.2.2.2.2.2.2.2.2.1, ()), r.2.2.2.2.2.2.2.2.2.2.1, r.2.2.2.2.2.2.2.2.2.2.2.1, ()), ())

theorem rrLe_zero (c : Int) : rrLe (zeroR c) := by unfold rrLe zeroR; simp

theorem rrLe_res {s : Mc} {l : List TwoD} (h : OkS s l) : rrLe (soloR s l) := by
  have h1 := h.r.len; have h2 := h.c.len; have h3 := h.i.len; have h4 := h.o.len; have h5 := h.l.mlen; have h6 := h.l.len
  unfold rrLe soloR
  dsimp only
  exact ⟨by omega, by omega, by omega, by omega, by omega, by omega⟩

theorem runSoloM_le (x : SoloD) (n : Int) : rrLe (runSoloM x n) := by
  unfold runSoloM
  split
  · exact rrLe_zero _
  · rename_i ha
    split
    · exact rrLe_res (itM_ok (okS_solo (by simpa using ha)))
    · exact rrLe_zero _

theorem eqSoloR_e (r : SoloR) (h : rrLe r) : F_laws_eqSoloResult (rrV r, rrV r, ()) = some ((true, ()), ()) := by
  obtain ⟨h1, h2, h3, h4, h5, h6⟩ := h
  unfold F_laws_eqSoloResult rrV
  dsimp only
  rw [if_neg (by simp), eqSolo_eq _ ⟨⟨h1, h2, h3, h4⟩, h5, h6⟩, Option.bind_some, if_neg (by simp)]

def rrK (r : SoloR) : Int × Int × Int × Int × Int × Int :=
  let k1 := 1 + (r.2.1.length : Int)
  let k2 := k1 + (r.2.2.2.1.length : Int)
  let k3 := k2 + (r.2.2.2.2.2.2.2.2.1.length : Int)
  let k4 := k3 + (r.2.2.2.2.2.2.2.2.2.1.length : Int)
  let k5 := k4 + 2 * (r.2.2.2.2.2.2.2.2.2.2.1.length : Int)
  (k1, k2, k3, k4, k5, k5 + (r.2.2.2.2.2.2.2.2.2.2.2.1.length : Int))

abbrev SixP := List Int × List Int × List Int × List Int × List TwoD × List Int × Unit

def rrS (r : SoloR) : SixP := (seqFrom 1 r.2.1.length, seqFrom (rrK r).1 r.2.2.2.1.length, seqFrom (rrK r).2.1 r.2.2.2.2.2.2.2.2.1.length, seqFrom (rrK r).2.2.1 r.2.2.2.2.2.2.2.2.2.1.length, pgSeq (rrK r).2.2.2.1 r.2.2.2.2.2.2.2.2.2.2.1.length, seqFrom (rrK r).2.2.2.2.1 r.2.2.2.2.2.2.2.2.2.2.2.1.length, ())

theorem rrS_len (r : SoloR) : (rrS r).1.length = r.2.1.length ∧ (rrS r).2.1.length = r.2.2.2.1.length ∧ (rrS r).2.2.1.length = r.2.2.2.2.2.2.2.2.1.length ∧ (rrS r).2.2.2.1.length = r.2.2.2.2.2.2.2.2.2.1.length ∧ (rrS r).2.2.2.2.1.length = r.2.2.2.2.2.2.2.2.2.2.1.length ∧ (rrS r).2.2.2.2.2.1.length = r.2.2.2.2.2.2.2.2.2.2.2.1.length := by
  unfold rrS; simp [seqFrom_len, pgSeq_len]

theorem rrK_pos (r : SoloR) : ¬ ((rrK r).2.2.2.2.2 < 0) := by unfold rrK; dsimp only; omega

theorem markSoloR_e (r : SoloR) (h : rrLe r) : F_laws_markSoloResult (r, 1, ()) = some (((rrK r).2.2.2.2.2, ()), (rrS r, ())) := by
  obtain ⟨h1, h2, h3, h4, h5, h6⟩ := h
  unfold F_laws_markSoloResult F_laws_markSolo F_laws_markHart
  dsimp only
  rw [mark_eq _ 1 h1 (by omega), Option.bind_some]
  dsimp only
  rw [if_pos (by simp [seqFrom_len]), mark_eq _ _ h2 (by omega), Option.bind_some]
  dsimp only
  rw [if_pos (by simp [seqFrom_len]), mark_eq _ _ h3 (by omega), Option.bind_some]
  dsimp only
  rw [if_pos (by simp [seqFrom_len]), mark_eq _ _ h4 (by omega), Option.bind_some]
  dsimp only
  rw [if_pos (by simp [seqFrom_len]), if_pos (by simp [seqFrom_len]), Option.bind_some]
  dsimp only
  rw [if_pos (by simp [seqFrom_len]), markPg_eq _ _ h5 (by omega), Option.bind_some]
  dsimp only
  rw [if_pos (by simp [pgSeq_len]), mark_eq _ _ h6 (by omega), Option.bind_some]
  dsimp only
  rw [if_pos (by simp [seqFrom_len]), if_pos (by simp [seqFrom_len, pgSeq_len]), Option.bind_some]
  dsimp only
  rw [if_pos (by simp [seqFrom_len, pgSeq_len]), if_pos (by simp [seqFrom_len, pgSeq_len])]
  rfl

theorem heldSoloR_e (c pc : Int) (b1 b2 b3 : Bool) (d : Int) (r : SoloR) (h : rrLe r) :
    F_laws_heldSoloResult ((c, (((rrS r).1, pc, (rrS r).2.1, b1, b2, b3, d, (rrS r).2.2.1, (rrS r).2.2.2.1, ()), (rrS r).2.2.2.2.1, (rrS r).2.2.2.2.2.1, ()), ()), 1, ()) = some (((rrK r).2.2.2.2.2, ()), ()) := by
  obtain ⟨h1, h2, h3, h4, h5, h6⟩ := h
  unfold F_laws_heldSoloResult F_laws_heldSolo F_laws_heldHart rrS rrK
  simp only [ltI_eq, decide_eq_true_eq]
  rw [held_eq _ 1 h1 (by omega), Option.bind_some]
  dsimp only
  rw [if_neg (by omega), held_eq _ _ h2 (by omega), Option.bind_some]
  dsimp only
  rw [if_neg (by omega), held_eq _ _ h3 (by omega), Option.bind_some]
  dsimp only
  rw [if_neg (by omega), held_eq _ _ h4 (by omega), Option.bind_some]
  dsimp only
  rw [if_neg (by omega), Option.bind_some]
  dsimp only
  rw [if_neg (by omega), heldPg_eq _ _ h5 (by omega), Option.bind_some]
  dsimp only
  rw [if_neg (by omega), held_eq _ _ h6 (by omega), Option.bind_some]
  dsimp only
  rw [if_neg (by omega), Option.bind_some]
  dsimp only
  rw [if_neg (by omega)]

theorem runSolo_law (x : SoloD) (n : Int) (hx : soloLe maxLen x) : F_laws_FnExactRunSolo (x, n, ()) = some ((true, ()), ()) := by
  unfold F_laws_FnExactRunSolo
  simp only [ltI_eq, decide_eq_true_eq]
  obtain ⟨r2, e2, c2⟩ := szSolo_eq x 1048576 (by omega) (by omega) hx
  rw [e2, Option.bind_some]
  by_cases d2 : r2 < 0
  · rw [if_pos d2]
  rw [if_neg d2]
  have hx := (c2.resolve_left d2).2.2
  have hl := runSoloM_le x n
  have he := eqSoloR_e (runSoloM x n) hl
  have hi := implRunSolo_e x n hx
  have hs := specRunSolo_e x n hx
  generalize runSoloM x n = r at *
  rw [toSolo_eq x hx, Option.bind_some]
  show (F_spec_RunSolo (x, n, ())).bind _ = _
  rw [hs, Option.bind_some, Option.bind_some]
  show (F_impl_RunSolo (x, n, ())).bind _ = _
  rw [hi, Option.bind_some]
  show (F_laws_eqSoloResult (rrV r, rrV r, ())).bind _ = _
  rw [he, Option.bind_some, if_neg (by simp), Option.bind_some]
  show (F_laws_eqSolo (x, x, ())).bind _ = _
  rw [eqSolo_eq x hx, Option.bind_some, if_neg (by simp)]
  obtain ⟨k2, x', n1, ⟨b1, b2, b3, b4, b5, b6⟩, n2, n3⟩ := markSolo_ok x 1 hx (by omega) (by omega)
  dsimp only
  rw [n1, Option.bind_some]
  dsimp only
  rw [if_pos (by rw [b1, b2, b3, b4, b5, b6]; simp), if_pos (by simp; omega)]
  show (F_laws_eqSoloResult (rrV r, rrV r, ())).bind _ = _
  rw [he, Option.bind_some, if_neg (by simp)]
  show (F_laws_markSoloResult (r, 1, ())).bind _ = _
  rw [markSoloR_e r hl, Option.bind_some]
  obtain ⟨s1, s2, s3, s4, s5, s6⟩ := rrS_len r
  dsimp only
  rw [if_pos (by rw [s1, s2, s3, s4, s5, s6]; simp), heldSoloR_e _ _ _ _ _ _ r hl, Option.bind_some]
  dsimp only
  rw [if_neg (rrK_pos r), if_neg (by simp), Option.bind_some]
  show (F_impl_RunSolo (x, n, ())).bind _ = _
  rw [hi, Option.bind_some]
  show (F_laws_eqSoloResult (rrV r, rrV r, ())).bind _ = _
  rw [he, Option.bind_some, if_neg (by simp), Option.bind_some]
  dsimp only
  rw [if_neg (rrK_pos r), if_neg (by simp)]

theorem runSolo_F : ∀ x, inRP P_laws_FnExactRunSolo x → F_laws_FnExactRunSolo x = some ((true, ()), ()) := by
  rintro ⟨x, n, _⟩ ⟨hx, _⟩
  exact runSolo_law x n ⟨inR_hart hx.1, hx.2.1.1, hx.2.2.1.1⟩

end Go.Proofs.YtkbcjonmodmfcaaGreatDoor
