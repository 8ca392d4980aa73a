/- Plain laws: what the functions compute, and that both programs compute the same. -/
import Derived.Test.YtilcgnimcdkfiaaPb1
namespace Go.Proofs.Ytilcgnimcdkfiaa
open Go Go.RowKit S Go.Proofs
set_option maxRecDepth 100000
set_option linter.unusedVariables false
set_option linter.unusedSimpArgs false
def sinM (v : Int) : List Int → List Int
 | [] => [v]
 | x :: r => if x < v then x :: sinM v r else if x = v then x :: r else v :: x :: r
def srt (l : List Int) : List Int := l.foldl (fun acc v => sinM v acc) []
theorem sinM_skip {v : Int} : ∀ {A B : List Int}, (∀ a ∈ A, a < v) → sinM v (A ++ B) = A ++ sinM v B
 | [], _, _ => rfl
 | a :: A, B, h => by
  rw [List.cons_append, sinM, if_pos (h a (by simp)), sinM_skip fun x hx => h x (List.mem_cons_of_mem _ hx)]
  rfl
theorem sinM_low {v : Int} {B : List Int} (h : ∀ b ∈ B, v < b) : sinM v B = v :: B := by
 cases B with
 | nil => rfl
 | cons b r =>
  have := h b (by simp)
  rw [sinM, if_neg (by omega), if_neg (by omega)]
theorem sinM_mem {v x : Int} : ∀ {L : List Int}, x ∈ sinM v L ↔ x = v ∨ x ∈ L
 | [] => by simp [sinM]
 | y :: r => by
  rw [sinM]
  by_cases c : y < v
  ·rw [if_pos c, List.mem_cons, sinM_mem, List.mem_cons]
   constructor
   ·rintro (h | h | h) <;> simp [h]
   ·rintro (h | h | h) <;> simp [h]
  ·rw [if_neg c]
   by_cases d : y = v
   ·rw [if_pos d, List.mem_cons]
    subst d
    simp
   ·rw [if_neg d]; simp
theorem sinM_up {v : Int} : ∀ {L : List Int}, L.Pairwise (· < ·) → (sinM v L).Pairwise (· < ·)
 | [], _ => by simp [sinM]
 | y :: r, h => by
  have h' := h
  rw [List.pairwise_cons] at h'
  rw [sinM]
  by_cases c : y < v
  ·rw [if_pos c, List.pairwise_cons]
   refine ⟨fun x hx => ?_, sinM_up h'.2⟩
   rcases sinM_mem.1 hx with rfl | hx
   ·exact c
   ·exact h'.1 x hx
  ·rw [if_neg c]
   by_cases d : y = v
   ·rw [if_pos d]; exact h
   ·rw [if_neg d, List.pairwise_cons]
    refine ⟨fun x hx => ?_, h⟩
    rcases List.mem_cons.1 hx with rfl | hx
    ·omega
    ·have := h'.1 x hx; omega
theorem sinM_len {v : Int} : ∀ {L : List Int}, L.Pairwise (· < ·) → v ∉ L → (sinM v L).length = L.length + 1
 | [], _, _ => rfl
 | y :: r, h, hv => by
  rw [List.pairwise_cons] at h
  rw [sinM]
  by_cases c : y < v
  ·rw [if_pos c, List.length_cons, sinM_len h.2 fun q => hv (List.mem_cons_of_mem _ q), List.length_cons]
  ·rw [if_neg c, if_neg (fun e => hv (by simp [e]))]; simp
theorem srt_snoc (l : List Int) (v : Int) : srt (l ++ [v]) = sinM v (srt l) := by unfold srt; rw [List.foldl_append]; rfl
theorem srt_ok : ∀ {l : List Int}, l.Nodup → (srt l).Pairwise (· < ·) ∧ (∀ x, x ∈ srt l ↔ x ∈ l) ∧ (srt l).length = l.length := by
 have key : ∀ {l acc : List Int}, l.Nodup → (∀ x ∈ l, x ∉ acc) → acc.Pairwise (· < ·) → (l.foldl (fun acc v => sinM v acc) acc).Pairwise (· < ·) ∧ (∀ x, x ∈ l.foldl (fun acc v => sinM v acc) acc ↔ x ∈ acc ∨ x ∈ l) ∧ (l.foldl (fun acc v => sinM v acc) acc).length = acc.length + l.length := by
  intro l
  induction l with
  | nil => intro acc _ _ h; exact ⟨h, by simp, by simp⟩
  | cons v r ih =>
   intro acc hn ha hp
   rw [List.nodup_cons] at hn
   obtain ⟨h1, h2, h3⟩ := ih (acc := sinM v acc) hn.2 (fun x hx hm => by
    rcases sinM_mem.1 hm with rfl | hm
    ·exact hn.1 hx
    ·exact ha x (List.mem_cons_of_mem _ hx) hm) (sinM_up hp)
   refine ⟨h1, fun x => ?_, ?_⟩
   ·rw [List.foldl_cons, h2, sinM_mem, List.mem_cons]
    constructor
    ·rintro ((h | h) | h) <;> simp [h]
    ·rintro (h | h | h) <;> simp [h]
   ·rw [List.foldl_cons, h3, sinM_len hp (ha v (by simp)), List.length_cons]; omega
 intro l h
 obtain ⟨h1, h2, h3⟩ := key (acc := []) h (by simp) List.Pairwise.nil
 exact ⟨h1, fun x => by rw [srt, h2]; simp, by rw [srt, h3]; simp⟩
theorem rise_e {L : List Int} {v : Int} (h : L.Pairwise (· < ·)) (hl : L.length ≤ 1000) : F_aa (L, v, ()) = some ((sinM v L, ()), ()) := by
 refine Dr.eq ?_
 unfold F_aa
 have key : Dr (L_aa_2 ((L, (v, ((0 : Int), ()))), ((), ()))) fun o => ∃ A B : List Int, L = A ++ B ∧ (∀ a ∈ A, a < v) ∧ (∀ b r, B = b :: r → ¬ b < v) ∧ o = .inl ((L, (v, (((A.length : Nat) : Int), ()))), ((), ())) := by
  refine iter_d (fun m u => ∃ A B : List Int, L = A ++ B ∧ (∀ a ∈ A, a < v) ∧ u = ((L, (v, (((A.length : Nat) : Int), ()))), ((), ())) ∧ m = B.length) ?_ L.length _ ⟨[], L, rfl, by simp, rfl, rfl⟩ (by rw [lots_eq]; omega)
  rintro rec m _ ⟨A, B, rfl, hA, rfl, rfl⟩ ih
  unfold l_aa_2
  dsimp only
  simp only [List.length_append] at hl
  cases B with
  | nil =>
   rw [if_neg (by rw [ltI_t]; simp)]
   exact Dr.ret ⟨A, [], rfl, hA, (fun b r h => by cases h), rfl⟩
  | cons b r =>
   simp only [List.length_cons] at hl
   rw [if_pos (lt_t (by simp)), if_pos nat0, at_get (by simp : A.length < (A ++ b :: r).length)]
   rw [show (A ++ b :: r)[A.length]'(by simp) = b by simp]
   by_cases c : b < v
   ·rw [if_pos (by rw [ltI_t]; exact c), wrapS (by omega)]
    exact ih r.length _ (by simp) ⟨A ++ [b], r, by simp, fun a ha => by
     rcases List.mem_append.1 ha with ha | ha
     ·exact hA a ha
     ·rw [List.mem_singleton.1 ha]; exact c, by simp, rfl⟩
   ·rw [if_neg (by rw [ltI_t]; exact c)]
    exact Dr.ret ⟨A, b :: r, rfl, hA, (fun b' r' h => by cases h; exact c), rfl⟩
 refine key.bind fun o ho => ?_
 obtain ⟨A, B, rfl, hA, hB, rfl⟩ := ho
 dsimp only
 rw [sinM_skip hA]
 have t1 : ((A ++ B).drop ((0 : Int)).toNat).take ((((A.length : Nat) : Int)).toNat - ((0 : Int)).toNat) = A := by simp
 have t2 : ((A ++ B).drop (((A.length : Nat) : Int)).toNat).take (((((A ++ B).length : Nat) : Int)).toNat - (((A.length : Nat) : Int)).toNat) = B := by
  rw [Int.toNat_natCast, Int.toNat_natCast, List.drop_append_of_le_length (Nat.le_refl _), List.drop_length, List.nil_append]
  exact List.take_of_length_le (by simp)
 simp only [List.length_append] at hl
 have g1 : 0 ≤ (0 : Int) ∧ (0 : Int) ≤ ((A.length : Nat) : Int) ∧ ((A.length : Nat) : Int) ≤ (((A ++ B).length : Nat) : Int) := by rw [List.length_append]; omega
 have g2 : 0 ≤ ((A.length : Nat) : Int) ∧ ((A.length : Nat) : Int) ≤ (((A ++ B).length : Nat) : Int) ∧ (((A ++ B).length : Nat) : Int) ≤ (((A ++ B).length : Nat) : Int) := by rw [List.length_append]; omega
 cases B with
 | nil =>
  rw [if_neg (by rw [ltI_t]; simp)]
  refine Dr.guard g1 (Dr.guard (by rw [t1]; simp; omega) (Dr.guard (by rw [t1]; simp; omega) (Dr.guard g2 (Dr.guard (by rw [t1, t2]; simp; omega) (Dr.ret ?_)))))
  rw [t1, t2]; simp [sinM]
 | cons b r =>
  have nb := hB b r rfl
  rw [if_pos (lt_t (by simp)), if_pos nat0, at_get (by simp : A.length < (A ++ b :: r).length), show (A ++ b :: r)[A.length]'(by simp) = b by simp, sinM, if_neg nb]
  by_cases d : b = v
  ·rw [if_pos (by simpa using d), if_pos d]; exact Dr.ret rfl
  ·rw [if_neg (by simpa using d), if_neg d]
   simp only [List.length_cons] at hl
   refine Dr.guard g1 (Dr.guard (by rw [t1]; simp; omega) (Dr.guard (by rw [t1]; simp; omega) (Dr.guard g2 (Dr.guard (by rw [t1, t2]; simp; omega) (Dr.ret ?_)))))
   rw [t1, t2]; simp
theorem less_e (a b : Int) : F_cmp_Less_int64 (a, b, ()) = some ((ltI a b, ()), ()) := by
 unfold F_cmp_Less_int64 F_cmp_isNaN_int64
 simp
theorem sort4_e {pre rest : List Int} {v n i : Int} (hp : pre.Pairwise (· < ·)) (hv : v ∉ pre) (hl : (pre ++ v :: rest).length ≤ 1000) :
  L_bh_4 (((), ((0 : Int), (n, (i, (((pre.length : Nat) : Int), ()))))), ((), (pre ++ v :: rest, ()))) = some (.inl (((), ((0 : Int), (n, (i, ())))), ((), (sinM v pre ++ rest, ())))) := by
 refine Dr.eq ?_
 refine iter_d (fun m u => ∃ A B : List Int, pre = A ++ B ∧ (∀ b ∈ B, v < b) ∧ u = (((), ((0 : Int), (n, (i, (((A.length : Nat) : Int), ()))))), ((), (A ++ v :: (B ++ rest), ()))) ∧ m = A.length) ?_ pre.length _ ⟨pre, [], by simp, by simp, rfl, rfl⟩ (by simp at hl; rw [lots_eq]; omega)
 rintro rec m _ ⟨A, B, rfl, hB, rfl, rfl⟩ ih
 unfold l_bh_4
 dsimp only
 simp only [List.length_append, List.length_cons] at hl
 rcases List.eq_nil_or_concat A with rfl | ⟨A', y, rfl⟩
 ·rw [if_neg (by rw [ltI_t]; simp)]
  simp only [List.nil_append]
  rw [sinM_low hB]
  exact Dr.ret rfl
 ·rw [List.concat_eq_append] at *
  simp only [List.length_append, List.length_singleton] at hl
  have hy : y ∈ (A' ++ [y]) ++ B := by simp
  have d0 : (A' ++ [y]) ++ v :: (B ++ rest) = A' ++ y :: v :: (B ++ rest) := by simp
  have lt1 : A'.length < (A' ++ y :: v :: (B ++ rest)).length := by simp
  have lt2 : A'.length + 1 < (A' ++ y :: v :: (B ++ rest)).length := by simp
  have g1 : (A' ++ y :: v :: (B ++ rest))[A'.length]'lt1 = y := by simp
  have g2 : (A' ++ y :: v :: (B ++ rest))[A'.length + 1]'lt2 = v := by
   rw [List.getElem_append_right (by omega)]
   simp
  have ej : ((((A' ++ [y]).length : Nat)) : Int) = ((A'.length + 1 : Nat) : Int) := by simp
  have ej1 : IntKind.i64.wrap (((A'.length + 1 : Nat) : Int) - 1) = ((A'.length : Nat) : Int) := by rw [wrap64 (by omega) (by omega)]; omega
  rw [d0, ej, ej1, if_pos (by rw [ltI_t]; omega)]
  have in1 : 0 ≤ ((A'.length : Nat) : Int) ∧ ((A'.length : Nat) : Int) < (((A' ++ y :: v :: (B ++ rest)).length : Nat) : Int) := by omega
  have in2 : 0 ≤ ((A'.length + 1 : Nat) : Int) ∧ ((A'.length + 1 : Nat) : Int) < (((A' ++ y :: v :: (B ++ rest)).length : Nat) : Int) := by omega
  rw [if_pos in2, at_get lt2, if_pos in1, at_get lt1, g1, g2, less_e, Option.bind_some]
  dsimp only
  by_cases c : v < y
  ·have s1 : (A' ++ y :: v :: (B ++ rest)).set (((A'.length + 1 : Nat) : Int)).toNat y = A' ++ y :: y :: (B ++ rest) := by
    rw [Int.toNat_natCast, List.set_append_right _ _ (by omega), show A'.length + 1 - A'.length = 1 by omega]; rfl
   have lt3 : A'.length < (A' ++ y :: y :: (B ++ rest)).length := by simp
   have in3 : 0 ≤ ((A'.length : Nat) : Int) ∧ ((A'.length : Nat) : Int) < (((A' ++ y :: y :: (B ++ rest)).length : Nat) : Int) := by omega
   have s2 : (A' ++ y :: y :: (B ++ rest)).set (((A'.length : Nat) : Int)).toNat v = A' ++ v :: (y :: B ++ rest) := by
    rw [Int.toNat_natCast, List.set_append_right _ _ (by omega), Nat.sub_self]; rfl
   rw [if_pos (by rw [ltI_t]; exact c), if_pos in1, at_get lt1, if_pos in2, at_get lt2, if_pos in2, at_get lt2, g1, g2, s1, if_pos in3, at_get lt3, s2]
   exact ih A'.length _ (by simp) ⟨A', y :: B, by simp, fun b hb => by
    rcases List.mem_cons.1 hb with rfl | hb
    ·exact c
    ·exact hB b hb, rfl, rfl⟩
  ·rw [if_neg (by rw [ltI_t]; exact c)]
   have yv : y < v := by
    have : v ≠ y := fun e => hv (e ▸ hy)
    omega
   rw [List.pairwise_append] at hp
   have hA : ∀ a ∈ A' ++ [y], a < v := fun a ha => by
    rcases List.mem_append.1 ha with ha' | ha'
    ·have := (List.pairwise_append.1 hp.1).2.2 a ha' y (by simp)
     omega
    ·rw [List.mem_singleton.1 ha']; exact yv
   rw [sinM_skip hA, sinM_low hB]
   refine Dr.ret ?_
   simp
theorem sort1_e {l : List Int} (h : l.Nodup) (hl : l.length ≤ 1000) : L_bh_1 (((), ((0 : Int), (((l.length : Nat) : Int), ((1 : Int), ())))), ((), (l, ()))) = some (.inl ((), ((), (srt l, ())))) := by
 refine Dr.eq ?_
 refine iter_d (fun m u => ∃ i : Nat, 1 ≤ i ∧ m = l.length - i ∧ u = (((), ((0 : Int), (((l.length : Nat) : Int), ((i : Int), ())))), ((), (srt (l.take i) ++ l.drop i, ())))) ?_ (l.length - 1) _ ⟨1, by omega, rfl, ?_⟩ (by rw [lots_eq]; omega)
 ·rintro rec m _ ⟨i, h1, hm, rfl⟩ ih
  unfold l_bh_1
  dsimp only
  by_cases c : i < l.length
  ·rw [if_pos (lt_t c)]
   have nd := h.sublist (List.take_sublist i l)
   obtain ⟨o1, o2, o3⟩ := srt_ok nd
   have lt : (srt (l.take i)).length = i := by rw [o3, List.length_take]; omega
   have hv : l[i] ∉ srt (l.take i) := fun hm => by
    rw [o2, List.mem_take_iff_getElem] at hm
    obtain ⟨j, hj, e⟩ := hm
    have := List.pairwise_iff_getElem.1 h j i (by omega) c (by omega)
    exact this e
   rw [List.drop_eq_getElem_cons c]
   have key := sort4_e (n := ((l.length : Nat) : Int)) (i := (i : Int)) (rest := l.drop (i + 1)) o1 hv (by simp [lt]; omega)
   rw [lt] at key
   refine Dr.step key ?_
   dsimp only
   rw [wrapS (by omega)]
   refine ih (m - 1) _ (by omega) ⟨i + 1, by omega, by omega, ?_⟩
   rw [take_snoc c, srt_snoc]
  ·rw [if_neg (lt_f c), List.take_of_length_le (by omega), List.drop_of_length_le (by omega), List.append_nil]
   exact Dr.ret rfl
 ·cases l with
  | nil => rfl
  | cons x r => rfl
theorem len12_e (n : Nat) (h : n ≤ 12) : ∃ r : Int, F_bg (IntKind.u64.wrap ((n : Nat) : Int), ()) = some ((r, ()), ()) := by
 have : n = 0 ∨ n = 1 ∨ n = 2 ∨ n = 3 ∨ n = 4 ∨ n = 5 ∨ n = 6 ∨ n = 7 ∨ n = 8 ∨ n = 9 ∨ n = 10 ∨ n = 11 ∨ n = 12 := by omega
 rcases this with rfl | rfl | rfl | rfl | rfl | rfl | rfl | rfl | rfl | rfl | rfl | rfl | rfl
 ·exact ⟨0, by kernel_rfl⟩
 ·exact ⟨1, by kernel_rfl⟩
 ·exact ⟨2, by kernel_rfl⟩
 ·exact ⟨2, by kernel_rfl⟩
 ·exact ⟨3, by kernel_rfl⟩
 ·exact ⟨3, by kernel_rfl⟩
 ·exact ⟨3, by kernel_rfl⟩
 ·exact ⟨3, by kernel_rfl⟩
 ·exact ⟨4, by kernel_rfl⟩
 ·exact ⟨4, by kernel_rfl⟩
 ·exact ⟨4, by kernel_rfl⟩
 ·exact ⟨4, by kernel_rfl⟩
 ·exact ⟨4, by kernel_rfl⟩
theorem sort_e {l : List Int} (h : l.Nodup) (hl : l.length ≤ 12) : F_bj (l, ()) = some ((), (srt l, ())) := by
 have o3 := (srt_ok h).2.2
 obtain ⟨r, er⟩ := len12_e l.length hl
 have e1 : F_bh (l, 0, ((l.length : Nat) : Int), ()) = some ((), (srt l, ())) := by
  refine Dr.eq ?_
  unfold F_bh
  exact Dr.step (sort1_e h (by omega)) (Dr.guard (by simp [o3]) (Dr.ret rfl))
 have e2 : F_bi (l, 0, ((l.length : Nat) : Int), r, ()) = some ((), (srt l, ())) := by
  refine Dr.eq ?_
  unfold F_bi
  have k : L_bi_2 (((), ((0 : Int), (((l.length : Nat) : Int), (r, (true, (true, ())))))), ((), (l, ()))) = some (.inl ((), ((), (srt l, ())))) := by
   refine Dr.eq ?_
   refine iter_d (fun m u => u = (((), ((0 : Int), (((l.length : Nat) : Int), (r, (true, (true, ())))))), ((), (l, ())))) ?_ 0 _ rfl (by rw [lots_eq]; omega)
   rintro rec m _ rfl _
   unfold l_bi_2
   dsimp only
   rw [wrap64 (by omega) (by omega)]
   exact Dr.pos (by rw [leI_t]; omega) (Dr.step e1 (Dr.guard (by simp [o3]) (Dr.ret rfl)))
  exact Dr.step k (Dr.guard (by simp [o3]) (Dr.ret rfl))
 refine Dr.eq ?_
 unfold F_bj
 exact Dr.step er (Dr.step e2 (Dr.guard (by simp [o3]) (Dr.guard (by simp [o3]) (Dr.ret rfl))))
abbrev IntsR := Int × List Int × Unit
theorem ask_inv {p : PolD} {g : Int} (h : askM p g = 0) : polM p = 0 ∧ isG p g = true := by
 unfold askM at h
 split at h
 ·exact absurd h ‹_›
 ·rename_i h1
  split at h
  ·exact ⟨by simpa using h1, ‹_›⟩
  ·cases h
def ins (acc l : List Int) : List Int := l.foldl (fun a v => sinM v a) acc
theorem ins_snoc (acc l : List Int) (v : Int) : ins acc (l ++ [v]) = sinM v (ins acc l) := by unfold ins; rw [List.foldl_append]; rfl
theorem ins_ok : ∀ {l acc : List Int}, acc.Pairwise (· < ·) → (ins acc l).Pairwise (· < ·) ∧ ∀ x, x ∈ ins acc l ↔ x ∈ acc ∨ x ∈ l
 | [], acc, h => ⟨h, by simp [ins]⟩
 | v :: r, acc, h => by
  obtain ⟨h1, h2⟩ := ins_ok (l := r) (sinM_up (v := v) h)
  refine ⟨h1, fun x => ?_⟩
  have h2 : x ∈ ins acc (v :: r) ↔ x ∈ sinM v acc ∨ x ∈ r := h2 x
  rw [h2, sinM_mem, List.mem_cons]
  constructor
  ·rintro ((h | h) | h) <;> simp [h]
  ·rintro (h | h | h) <;> simp [h]
theorem up_len : ∀ {L : List Int} {a b : Int}, L.Pairwise (· < ·) → (∀ x ∈ L, a ≤ x ∧ x < b) → (L.length : Int) ≤ b - a ∨ L = []
 | [], _, _, _, _ => .inr rfl
 | x :: r, a, b, h, hx => by
  rw [List.pairwise_cons] at h
  have h0 := hx x (by simp)
  rcases up_len (a := x + 1) (b := b) h.2 (fun y hy => ⟨by have := h.1 y hy; omega, (hx y (List.mem_cons_of_mem _ hy)).2⟩) with e | e
  ·left; rw [List.length_cons]; omega
  ·left; rw [e]; simp; omega
theorem sub_len : ∀ {A B : List Int}, A.Pairwise (· < ·) → (∀ x ∈ A, x ∈ B) → A.length ≤ B.length
 | [], _, _, _ => Nat.zero_le _
 | a :: r, B, h, hs => by
  rw [List.pairwise_cons] at h
  have ha := hs a (by simp)
  have hl := List.length_erase_of_mem ha
  have h1 := sub_len (B := B.erase a) h.2 fun x hx => by
   have hne : x ≠ a := fun e => by have := h.1 x hx; omega
   exact (List.mem_erase_of_ne hne).2 (hs x (List.mem_cons_of_mem _ hx))
  have hp := List.length_pos_of_mem ha
  rw [List.length_cons]; omega
def lfr (g : Int) (l : List LaneD) : List Int := (l.filter fun x => x.2.1 == g).map (·.1)
def bfr (g : Int) (l : List TwoD) : List Int := (l.filter fun x => x.2.1 == g).map (·.1)
def linksL (p : PolD) (g : Int) : List Int := ins (ins [] (lfr g p.2.1)) (bfr g p.2.2.1)
def linkB (p : PolD) (x g : Int) : Bool := p.2.1.any (fun l => l.1 == x && l.2.1 == g) || p.2.2.1.any (sameB (x, g, ()))
theorem lfr_snoc (g : Int) (l : List LaneD) (q : LaneD) : lfr g (l ++ [q]) = if (q.2.1 == g) = true then lfr g l ++ [q.1] else lfr g l := by
 unfold lfr
 rw [List.filter_append, List.map_append]
 by_cases c : (q.2.1 == g) = true
 ·rw [if_pos c]; simp only [List.filter_cons, c, if_true, List.filter_nil, List.map_cons, List.map_nil]
 ·rw [if_neg c]; simp [c]
theorem bfr_snoc (g : Int) (l : List TwoD) (q : TwoD) : bfr g (l ++ [q]) = if (q.2.1 == g) = true then bfr g l ++ [q.1] else bfr g l := by
 unfold bfr
 rw [List.filter_append, List.map_append]
 by_cases c : (q.2.1 == g) = true
 ·rw [if_pos c]; simp only [List.filter_cons, c, if_true, List.filter_nil, List.map_cons, List.map_nil]
 ·rw [if_neg c]; simp [c]
theorem linksL_up (p : PolD) (g : Int) : (linksL p g).Pairwise (· < ·) := (ins_ok (ins_ok List.Pairwise.nil).1).1
theorem sameB_t {x g : Int} {b : TwoD} : sameB (x, g, ()) b = true ↔ b.1 = x ∧ b.2.1 = g := by
 obtain ⟨b1, b2, _⟩ := b
 unfold sameB
 simp
 constructor <;> rintro ⟨h1, h2⟩ <;> simp [h1, h2]
theorem linksL_mem {p : PolD} {x g : Int} : x ∈ linksL p g ↔ linkB p x g = true := by
 unfold linksL linkB
 rw [(ins_ok (ins_ok List.Pairwise.nil).1).2, (ins_ok List.Pairwise.nil).2, Bool.or_eq_true, List.any_eq_true, List.any_eq_true]
 unfold lfr bfr
 simp only [List.mem_map, List.mem_filter, List.not_mem_nil, false_or, beq_iff_eq, Bool.and_eq_true]
 constructor
 ·rintro (⟨l, ⟨h1, h2⟩, h3⟩ | ⟨b, ⟨h1, h2⟩, h3⟩)
  ·exact .inl ⟨l, h1, h3, h2⟩
  ·exact .inr ⟨b, h1, sameB_t.2 ⟨h3, h2⟩⟩
 ·rintro (⟨l, h1, h3, h2⟩ | ⟨b, h1, h2⟩)
  ·exact .inl ⟨l, ⟨h1, h2⟩, h3⟩
  ·exact .inr ⟨b, ⟨h1, (sameB_t.1 h2).2⟩, (sameB_t.1 h2).1⟩
theorem linkB_guest {p : PolD} (hok : OkPol p) {x g : Int} (h : linkB p x g = true) : isG p x = true := by
 unfold linkB at h
 rw [Bool.or_eq_true, List.any_eq_true, List.any_eq_true] at h
 rcases h with ⟨l, h1, h2⟩ | ⟨b, h1, h2⟩
 ·simp only [Bool.and_eq_true, beq_iff_eq] at h2
  rw [← h2.1]; exact (okLane hok l h1).1.1
 ·rw [← (sameB_t.1 h2).1]; exact (okBell hok b h1).1
theorem guests_len {p : PolD} (hok : OkPol p) {L : List Int} (h : L.Pairwise (· < ·)) (hg : ∀ x ∈ L, isG p x = true) : L.length ≤ 3 := by
 have := hok.own.2
 rcases up_len (a := 0) (b := (p.1.length : Int)) h (fun x hx => isG_t.1 (hg x hx)) with e | e
 ·omega
 ·rw [e]; simp
theorem linksL_g {p : PolD} (hok : OkPol p) {g x : Int} (h : x ∈ linksL p g) : isG p x = true := linkB_guest hok (linksL_mem.1 h)
theorem linksL_len {p : PolD} (hok : OkPol p) (g : Int) : (linksL p g).length ≤ 3 := guests_len hok (linksL_up p g) fun _ => linksL_g hok
def rnd (p : PolD) (out : List Int) : List Int := out.foldl (fun acc y => ins acc (linksL p y)) out
def reachM (p : PolD) (g : Int) : List Int := rnd p (rnd p (rnd p (linksL p g)))
theorem rnd_ok {p : PolD} {out : List Int} (h : out.Pairwise (· < ·)) : (rnd p out).Pairwise (· < ·) ∧ ∀ x, x ∈ rnd p out ↔ x ∈ out ∨ ∃ y ∈ out, x ∈ linksL p y := by
 have key : ∀ {l acc : List Int}, acc.Pairwise (· < ·) → (l.foldl (fun acc y => ins acc (linksL p y)) acc).Pairwise (· < ·) ∧ ∀ x, x ∈ l.foldl (fun acc y => ins acc (linksL p y)) acc ↔ x ∈ acc ∨ ∃ y ∈ l, x ∈ linksL p y := by
  intro l
  induction l with
  | nil => intro acc h; exact ⟨h, by simp⟩
  | cons y r ih =>
   intro acc h
   obtain ⟨h1, h2⟩ := ih (acc := ins acc (linksL p y)) (ins_ok h).1
   refine ⟨h1, fun x => ?_⟩
   rw [List.foldl_cons, h2, (ins_ok h).2]
   constructor
   ·rintro ((h | h) | ⟨z, h3, h4⟩)
    ·exact .inl h
    ·exact .inr ⟨y, by simp, h⟩
    ·exact .inr ⟨z, List.mem_cons_of_mem _ h3, h4⟩
   ·rintro (h | ⟨z, h3, h4⟩)
    ·exact .inl (.inl h)
    ·rcases List.mem_cons.1 h3 with rfl | h3
     ·exact .inl (.inr h4)
     ·exact .inr ⟨z, h3, h4⟩
 exact key h
/-- A list of guests that rises. -/
structure GL (p : PolD) (L : List Int) : Prop where
 up : L.Pairwise (· < ·)
 g : ∀ x ∈ L, isG p x = true
theorem GL.len {p : PolD} (hok : OkPol p) {L : List Int} (h : GL p L) : L.length ≤ 3 := guests_len hok h.up h.g
theorem GL.rnd {p : PolD} (hok : OkPol p) {L : List Int} (h : GL p L) : GL p (rnd p L) :=
 ⟨(rnd_ok h.up).1, fun x hx => by
  rcases ((rnd_ok h.up).2 x).1 hx with h1 | ⟨y, _, h2⟩
  ·exact h.g x h1
  ·exact linksL_g hok h2⟩
theorem linksL_gl {p : PolD} (hok : OkPol p) (g : Int) : GL p (linksL p g) := ⟨linksL_up p g, fun _ => linksL_g hok⟩
def Closed (p : PolD) (L : List Int) : Prop := ∀ y ∈ L, ∀ x ∈ linksL p y, x ∈ L
theorem closed_rnd {p : PolD} {L : List Int} (h : L.Pairwise (· < ·)) (hc : Closed p L) : Closed p (rnd p L) := by
 have same : ∀ x, x ∈ rnd p L ↔ x ∈ L := fun x => by
  rw [(rnd_ok h).2]
  constructor
  ·rintro (h | ⟨y, h1, h2⟩)
   ·exact h
   ·exact hc y h1 x h2
  ·exact .inl
 intro y hy x hx
 rw [same] at hy ⊢
 exact hc y hy x hx
theorem rnd_grow {p : PolD} {L : List Int} (h : L.Pairwise (· < ·)) (hc : ¬ Closed p L) : L.length < (rnd p L).length := by
 obtain ⟨r1, r2⟩ := rnd_ok (p := p) h
 refine Nat.lt_of_not_le fun hle => hc fun y hy x hx => ?_
 refine Classical.byContradiction fun hn => ?_
 have h1 := sub_len (A := sinM x L) (B := rnd p L) (sinM_up h) fun z hz => by
  rcases sinM_mem.1 hz with rfl | hz
  ·exact (r2 _).2 (.inr ⟨y, hy, hx⟩)
  ·exact (r2 _).2 (.inl hz)
 rw [sinM_len h hn] at h1
 omega
theorem reach_closed {p : PolD} (hok : OkPol p) (g : Int) : Closed p (reachM p g) := by
 refine Classical.byContradiction fun h3 => ?_
 have a0 := linksL_gl hok g
 have a1 := a0.rnd hok
 have a2 := a1.rnd hok
 have a3 := a2.rnd hok
 have h2 : ¬ Closed p (rnd p (rnd p (linksL p g))) := fun h => h3 (closed_rnd a2.up h)
 have h1 : ¬ Closed p (rnd p (linksL p g)) := fun h => h2 (closed_rnd a1.up h)
 have h0 : ¬ Closed p (linksL p g) := fun h => h1 (closed_rnd a0.up h)
 have l0 := rnd_grow a0.up h0
 have l1 := rnd_grow a1.up h1
 have l2 := rnd_grow a2.up h2
 have l3 := a3.len hok
 have e : linksL p g = [] := List.eq_nil_of_length_eq_zero (by omega)
 exact h0 (by rw [e]; intro y hy; cases hy)
/-- Who reaches a guest. -/
def Rch (p : PolD) (g x : Int) : Prop := ∀ C : Int → Prop, (∀ k, linkB p k g = true → C k) → (∀ y k, C y → linkB p k y = true → C k) → C x
theorem reach_mem {p : PolD} (hok : OkPol p) (g x : Int) : x ∈ reachM p g ↔ Rch p g x := by
 have a0 := linksL_gl hok g
 have a1 := a0.rnd hok
 have a2 := a1.rnd hok
 constructor
 ·intro hx C h1 h2
  have up : ∀ {L : List Int}, L.Pairwise (· < ·) → (∀ x ∈ L, C x) → ∀ x ∈ rnd p L, C x := by
   intro L hL hC x hx
   rcases ((rnd_ok hL).2 x).1 hx with h | ⟨y, h3, h4⟩
   ·exact hC x h
   ·exact h2 y x (hC y h3) (linksL_mem.1 h4)
  exact up a2.up (up a1.up (up a0.up fun x hx => h1 x (linksL_mem.1 hx))) x hx
 ·intro h
  refine h (· ∈ reachM p g) (fun k hk => ?_) fun y k hy hk => reach_closed hok g y hy k (linksL_mem.2 hk)
  exact ((rnd_ok a2.up).2 k).2 (.inl (((rnd_ok a1.up).2 k).2 (.inl (((rnd_ok a0.up).2 k).2 (.inl (linksL_mem.2 hk))))))
def gL (n : Nat) (P : Int → Bool) : List Int := ((List.range n).map fun i : Nat => (i : Int)).filter P
theorem gL_snoc (n : Nat) (P : Int → Bool) : gL (n + 1) P = if P (n : Int) = true then gL n P ++ [(n : Int)] else gL n P := by
 unfold gL
 rw [List.range_succ, List.map_append, List.filter_append, List.map_singleton]
 by_cases c : P (n : Int) = true
 ·rw [if_pos c]; simp only [List.filter_cons, c, if_true, List.filter_nil]
 ·rw [if_neg c]; simp only [List.filter_cons, c, List.filter_nil]; simp
theorem gL_len (n : Nat) (P : Int → Bool) : (gL n P).length ≤ n := by
 unfold gL
 refine Nat.le_trans (List.length_filter_le _ _) (by simp)
theorem gL_mem {n : Nat} {P : Int → Bool} {x : Int} : x ∈ gL n P ↔ (0 ≤ x ∧ x < (n : Int)) ∧ P x = true := by
 unfold gL
 rw [List.mem_filter, List.mem_map]
 refine and_congr_left fun _ => ⟨?_, fun h => ⟨x.toNat, ?_, ?_⟩⟩
 ·rintro ⟨i, h1, rfl⟩
  rw [List.mem_range] at h1
  omega
 ·rw [List.mem_range]; omega
 ·omega
theorem gL_congr {n : Nat} {P Q : Int → Bool} (h : ∀ x, P x = Q x) : gL n P = gL n Q := by rw [show P = Q from funext h]
theorem specLinks_e {p : PolD} (hok : OkPol p) (g : Int) : F_ab (p, g, ()) = some ((linksL p g, ()), ()) := by
 refine Dr.eq ?_
 unfold F_ab
 have hl := hok.lanes.1
 have hb := hok.bells.1
 have len : ∀ {l acc : List Int}, (ins acc l).length ≤ acc.length + l.length := by
  have one : ∀ (v : Int) (L : List Int), (sinM v L).length ≤ L.length + 1 := by
   intro v L
   induction L with
   | nil => simp [sinM]
   | cons x r ih =>
    rw [sinM]
    split
    ·rw [List.length_cons, List.length_cons]; omega
    ·split <;> simp
  intro l
  induction l with
  | nil => intro acc; simp [ins]
  | cons v r ih =>
   intro acc
   have h1 := ih (acc := sinM v acc)
   have h2 := one v acc
   have e : ins acc (v :: r) = ins (sinM v acc) r := rfl
   rw [e, List.length_cons]; omega
 have lenF : ∀ (f : Nat), (lfr g (p.2.1.take f)).length ≤ 4 := fun f => by
  unfold lfr
  rw [List.length_map]
  refine Nat.le_trans (List.length_filter_le _ _) ?_
  rw [List.length_take]; omega
 have lenB : ∀ (f : Nat), (bfr g (p.2.2.1.take f)).length ≤ 4 := fun f => by
  unfold bfr
  rw [List.length_map]
  refine Nat.le_trans (List.length_filter_le _ _) ?_
  rw [List.length_take]; omega
 have k1 : Dr (L_ab_3 ((p, (g, (([] : List Int), ((0 : Int), ())))), ((), ()))) fun o => o = .inl ((p, (g, (ins [] (lfr g p.2.1), ()))), ((), ())) := by
  refine iter_d (fun m u => ∃ i : Nat, m + i = 4 ∧ u = ((p, (g, (ins [] (lfr g (p.2.1.take i)), ((i : Int), ())))), ((), ()))) ?_ 4 _ ⟨0, rfl, rfl⟩ (by rw [lots_eq]; omega)
  rintro rec m _ ⟨i, hm, rfl⟩ ih
  unfold l_ab_3
  dsimp only
  by_cases c : i < p.2.1.length
  ·rw [if_pos (lt_t c), if_pos nat0, at_get c, wrapS (by omega)]
   by_cases cg : (p.2.1[i].2.1 == g) = true
   ·rw [if_pos cg, if_pos nat0, at_get c]
    refine Dr.step (rise_e (ins_ok List.Pairwise.nil).1 (by have := lenF i; have := len (l := lfr g (p.2.1.take i)) (acc := []); simp only [List.length_nil] at this; omega)) ?_
    refine ih (m - 1) _ (by omega) ⟨i + 1, by omega, ?_⟩
    rw [take_snoc c, lfr_snoc, if_pos cg, ins_snoc]
   ·rw [if_neg cg]
    refine ih (m - 1) _ (by omega) ⟨i + 1, by omega, ?_⟩
    rw [take_snoc c, lfr_snoc, if_neg cg]
  ·rw [if_neg (lt_f c), List.take_of_length_le (by omega)]
   exact Dr.ret rfl
 refine k1.bind fun o ho => ?_
 subst ho
 dsimp only
 have k2 : Dr (L_ab_8 ((p, (g, (ins [] (lfr g p.2.1), ((0 : Int), ())))), ((), ()))) fun o => o = .inl ((linksL p g, ()), ((), ())) := by
  refine iter_d (fun m u => ∃ i : Nat, m + i = 4 ∧ u = ((p, (g, (ins (ins [] (lfr g p.2.1)) (bfr g (p.2.2.1.take i)), ((i : Int), ())))), ((), ()))) ?_ 4 _ ⟨0, rfl, rfl⟩ (by rw [lots_eq]; omega)
  rintro rec m _ ⟨i, hm, rfl⟩ ih
  unfold l_ab_8
  dsimp only
  by_cases c : i < p.2.2.1.length
  ·rw [if_pos (lt_t c), if_pos nat0, at_get c, wrapS (by omega)]
   by_cases cg : (p.2.2.1[i].2.1 == g) = true
   ·rw [if_pos cg, if_pos nat0, at_get c]
    refine Dr.step (rise_e (ins_ok (ins_ok List.Pairwise.nil).1).1 (by
     have h1 := lenB i
     have h2 := lenF 4
     rw [List.take_of_length_le (by omega)] at h2
     have h3 := len (l := bfr g (p.2.2.1.take i)) (acc := ins [] (lfr g p.2.1))
     have h4 := len (l := lfr g p.2.1) (acc := [])
     simp only [List.length_nil] at h4
     omega)) ?_
    refine ih (m - 1) _ (by omega) ⟨i + 1, by omega, ?_⟩
    rw [take_snoc c, bfr_snoc, if_pos cg, ins_snoc]
   ·rw [if_neg cg]
    refine ih (m - 1) _ (by omega) ⟨i + 1, by omega, ?_⟩
    rw [take_snoc c, bfr_snoc, if_neg cg]
  ·rw [if_neg (lt_f c), List.take_of_length_le (by omega)]
   exact Dr.ret rfl
 refine k2.bind fun o ho => ?_
 subst ho
 exact Dr.ret rfl
theorem specReach_e {p : PolD} (hok : OkPol p) (g : Int) : F_ac (p, g, ()) = some ((reachM p g, ()), ()) := by
 refine Dr.eq ?_
 unfold F_ac
 refine Dr.step (specLinks_e hok g) ?_
 dsimp only
 have inner : ∀ (at0 acc : List Int) (r i : Int) (y : Int), GL p acc → Dr (L_ac_11 ((p, (at0, (r, (acc, (i, (linksL p y, ((0 : Int), ()))))))), ((), ()))) fun o => o = .inl ((p, (at0, (r, (ins acc (linksL p y), (i, ()))))), ((), ())) := by
  intro at0 acc r i y hacc
  have hly := linksL_len hok y
  have gp : ∀ k, GL p (ins acc ((linksL p y).take k)) := fun k => ⟨(ins_ok hacc.up).1, fun x hx => by
   rcases ((ins_ok hacc.up).2 x).1 hx with h | h
   ·exact hacc.g x h
   ·exact linksL_g hok (List.mem_of_mem_take h)⟩
  refine iter_d (fun m u => ∃ k : Nat, m + k = 3 ∧ u = ((p, (at0, (r, (ins acc ((linksL p y).take k), (i, (linksL p y, ((k : Int), ()))))))), ((), ()))) ?_ 3 _ ⟨0, rfl, rfl⟩ (by rw [lots_eq]; omega)
  rintro rec m _ ⟨k, hm, rfl⟩ ih
  unfold l_ac_11
  dsimp only
  by_cases c : k < (linksL p y).length
  ·rw [if_pos (lt_t c), if_pos nat0, at_get c, wrapS (by omega)]
   refine Dr.step (rise_e (gp k).up (by have := (gp k).len hok; omega)) ?_
   refine ih (m - 1) _ (by omega) ⟨k + 1, by omega, ?_⟩
   rw [take_snoc c, ins_snoc]
  ·rw [if_neg (lt_f c), List.take_of_length_le (by omega)]
   exact Dr.ret rfl
 have round : ∀ (out : List Int) (r : Int), GL p out → Dr (L_ac_7 ((p, (out, (r, (out, ((0 : Int), ()))))), ((), ()))) fun o => o = .inl ((p, (r, (rnd p out, ()))), ((), ())) := by
  intro out r ho
  have h3 := ho.len hok
  have gp : ∀ k, GL p ((out.take k).foldl (fun acc y => ins acc (linksL p y)) out) := by
   intro k
   generalize out.take k = l
   have key : ∀ (l acc : List Int), GL p acc → GL p (l.foldl (fun acc y => ins acc (linksL p y)) acc) := by
    intro l
    induction l with
    | nil => exact fun _ h => h
    | cons y q ih =>
     intro acc h
     refine ih _ ⟨(ins_ok h.up).1, fun x hx => ?_⟩
     rcases ((ins_ok h.up).2 x).1 hx with h1 | h1
     ·exact h.g x h1
     ·exact linksL_g hok h1
   exact key l out ho
  refine iter_d (fun m u => ∃ k : Nat, m + k = 3 ∧ u = ((p, (out, (r, ((out.take k).foldl (fun acc y => ins acc (linksL p y)) out, ((k : Int), ()))))), ((), ()))) ?_ 3 _ ⟨0, rfl, rfl⟩ (by rw [lots_eq]; omega)
  rintro rec m _ ⟨k, hm, rfl⟩ ih
  unfold l_ac_7
  dsimp only
  by_cases c : k < out.length
  ·rw [if_pos (lt_t c), if_pos nat0, at_get c]
   refine Dr.step (specLinks_e hok _) ?_
   dsimp only
   refine (inner _ _ _ _ _ (gp k)).bind fun o ho => ?_
   subst ho
   dsimp only
   rw [wrapS (by omega)]
   refine ih (m - 1) _ (by omega) ⟨k + 1, by omega, ?_⟩
   rw [take_snoc c, List.foldl_append]; rfl
  ·rw [if_neg (lt_f c), List.take_of_length_le (by omega)]
   exact Dr.ret rfl
 have a0 := linksL_gl hok g
 have a1 := a0.rnd hok
 have a2 := a1.rnd hok
 have all : Dr (L_ac_3 ((p, (linksL p g, ((0 : Int), ()))), ((), ()))) fun o => o = .inl ((reachM p g, ()), ((), ())) := by
  have one : ∀ (rec : _) (out : List Int) (r : Int) (Q : _ → Prop), r < 3 → GL p out → Dr (rec ((p, (rnd p out, (IntKind.i64.wrap (r + 1), ()))), ((), ()))) Q → Dr (l_ac_3 rec ((p, (out, (r, ()))), ((), ()))) Q := by
   intro rec out r Q hr ho h
   unfold l_ac_3
   dsimp only
   rw [if_pos (by rw [ltI_t]; exact hr)]
   refine (round out r ho).bind fun o ho => ?_
   subst ho
   exact h
  unfold L_ac_3
  obtain ⟨n, hn⟩ : ∃ n, lots = n + 1 + 1 + 1 + 1 := ⟨lots - 4, by rw [lots_eq]⟩
  rw [hn]
  refine one _ _ _ _ (by omega) a0 ?_
  refine one _ _ _ _ (by decide) a1 ?_
  refine one _ _ _ _ (by decide) a2 ?_
  show Dr (l_ac_3 _ _) _
  unfold l_ac_3
  dsimp only
  rw [if_neg (by decide)]
  exact Dr.ret rfl
 refine all.bind fun o ho => ?_
 subst ho
 exact Dr.ret rfl
theorem implToLane_e (m : List LaneD) (x g : Int) (hm : m.length ≤ 1048576) : F_bb_1 (m, (x, (g, ())), ()) = some ((m.any (fun l => l.1 == x && l.2.1 == g), ()), ()) := by
 have key := scan_loop (step := l_ba_2) (γ := denO o_ba_2) (fun i => ((m, ((x, (g, ())), (((m.length : Nat) : Int), (((i : Nat) : Int), ())))), ((), ()))) m
  (fun i l => if (l.1 == x && l.2.1 == g) = true then some ((i : Nat) : Int) else none) (fun c => some (.inr (.inl ((c, ()), ((), ()))))) (some (.inl ((), ((), ())))) (leMax hm) ?_ ?_
 ·unfold F_bb_1 F_az_1
  show ((iterF l_ba_2 lots ((m, ((x, (g, ())), (((m.length : Nat) : Int), (((0 : Nat) : Int), ())))), ((), ()))).bind _).bind _ = _
  rw [key, ← contains_of (P := fun l : LaneD => l.1 == x && l.2.1 == g) (m := m) (f := fun i l => if (l.1 == x && l.2.1 == g) = true then some ((i : Nat) : Int) else none) (fun _ _ => rfl)]
  cases scan (fun i (l : LaneD) => if (l.1 == x && l.2.1 == g) = true then some ((i : Nat) : Int) else none) 0 m <;> rfl
 ·intro rec i hi
  unfold l_ba_2
  dsimp only
  rw [if_pos (lt_t hi), if_pos nat0, at_get hi, wrapS (lt1 hi hm)]
  unfold F_ay_1
  dsimp only
  cases c1 : m[i].1 == x
  ·rw [if_neg (by simp), Option.bind_some, Bool.false_and]; rfl
  ·rw [if_pos rfl, Option.bind_some, Bool.true_and]
   cases m[i].2.1 == g <;> rfl
 ·intro rec
  unfold l_ba_2
  dsimp only
  rw [if_neg lt_same]
theorem implLinks_e {p : PolD} (hok : OkPol p) (x g : Int) : F_ay (p, x, g, ()) = some ((linkB p x g, ()), ()) := by
 have hl := hok.lanes.1
 have hb := hok.bells.1
 unfold F_ay linkB
 dsimp only
 rw [implToLane_e _ _ _ (by omega), Option.bind_some]
 dsimp only
 by_cases c : (p.2.1.any fun l => l.1 == x && l.2.1 == g) = true
 ·rw [if_neg (by rw [c]; simp), c]; rfl
 ·have c : (p.2.1.any fun l => l.1 == x && l.2.1 == g) = false := Bool.eq_false_iff.2 c
  rw [if_pos c, bellsAny_eq (x, g, ()) p.2.2.1 (by omega), c]; rfl
theorem implTo_e {p : PolD} (hok : OkPol p) (g : Int) : F_bc (p, g, ()) = some ((gL p.1.length (fun x => linkB p x g), ()), ()) := by
 have hn := hok.own.2
 refine Dr.eq ?_
 unfold F_bc F_bd_1
 dsimp only
 have key : Dr (L_be_3 (((((), p), (g, ())), (([] : List Int), (((p.1.length : Nat) : Int), ((0 : Int), ())))), ((), ()))) fun o => o = .inl ((gL p.1.length (fun x => linkB p x g), ()), ((), ())) := by
  refine iter_d (fun m u => ∃ i : Nat, i ≤ p.1.length ∧ m + i = 3 ∧ u = (((((), p), (g, ())), (gL i (fun x => linkB p x g), (((p.1.length : Nat) : Int), ((i : Int), ())))), ((), ()))) ?_ 3 _ ⟨0, by omega, rfl, rfl⟩ (by rw [lots_eq]; omega)
  rintro rec m _ ⟨i, hi, hm, rfl⟩ ih
  unfold l_be_3
  dsimp only
  by_cases c : i < p.1.length
  ·rw [if_pos (lt_t c)]
   have e : F_bc_1 ((i : Int), ((), p), g, ()) = some ((linkB p (i : Int) g, ()), ()) := by
    unfold F_bc_1
    dsimp only
    rw [implLinks_e hok]; rfl
   refine Dr.step e ?_
   dsimp only
   rw [wrapS (by omega)]
   by_cases cl : linkB p (i : Int) g = true
   ·rw [if_pos cl]
    have := gL_len i (fun x => linkB p x g)
    refine Dr.guard (by simp; omega) (ih (m - 1) _ (by omega) ⟨i + 1, by omega, by omega, ?_⟩)
    rw [gL_snoc, if_pos cl]
   ·rw [if_neg cl]
    refine ih (m - 1) _ (by omega) ⟨i + 1, by omega, by omega, ?_⟩
    rw [gL_snoc, if_neg cl]
  ·rw [if_neg (lt_f c)]
   refine Dr.ret ?_
   rw [show i = p.1.length by omega]
 refine Dr.step (v := ((gL p.1.length (fun x => linkB p x g), ()), ())) ?_ (Dr.ret rfl)
 refine Dr.eq ?_
 refine key.bind fun o ho => ?_
 subst ho
 exact Dr.ret rfl
/-- What has been seen: once each. -/
structure Seen (p : PolD) (g : Int) (out : List Int) : Prop where
 nd : out.Nodup
 rch : ∀ x ∈ out, Rch p g x
 fst : ∀ k, linkB p k g = true → k ∈ out
theorem rch_guest {p : PolD} (hok : OkPol p) {g x : Int} (h : Rch p g x) : isG p x = true := h (fun x => isG p x = true) (fun _ h => linkB_guest hok h) fun _ _ _ h => linkB_guest hok h
theorem nd_len : ∀ {A B : List Int}, A.Nodup → (∀ x ∈ A, x ∈ B) → A.length ≤ B.length
 | [], _, _, _ => Nat.zero_le _
 | a :: r, B, h, hs => by
  rw [List.nodup_cons] at h
  have ha := hs a (by simp)
  have hl := List.length_erase_of_mem ha
  have h1 := nd_len (B := B.erase a) h.2 fun x hx => by
   have hne : x ≠ a := fun e => h.1 (e ▸ hx)
   exact (List.mem_erase_of_ne hne).2 (hs x (List.mem_cons_of_mem _ hx))
  have hp := List.length_pos_of_mem ha
  rw [List.length_cons]; omega
theorem Seen.len {p : PolD} (hok : OkPol p) {g : Int} {out : List Int} (h : Seen p g out) : out.length ≤ 3 := by
 have hn := hok.own.2
 have := nd_len (B := gL p.1.length fun _ => true) h.nd fun x hx => gL_mem.2 ⟨isG_t.1 (rch_guest hok (h.rch x hx)), rfl⟩
 have := gL_len p.1.length fun _ => true
 omega
theorem gL_nd (n : Nat) (P : Int → Bool) : (gL n P).Nodup := by
 unfold gL List.Nodup
 refine List.Pairwise.filter _ ?_
 rw [List.pairwise_map]
 exact List.Pairwise.imp (fun h e => by omega) List.pairwise_lt_range
def addM (out : List Int) (k : Int) : List Int := if out.contains k = true then out else out ++ [k]
theorem addM_ok {p : PolD} {g : Int} {out : List Int} {k : Int} (h : Seen p g out) (hk : Rch p g k) : Seen p g (addM out k) ∧ (∃ r, addM out k = out ++ r) ∧ k ∈ addM out k := by
 unfold addM
 by_cases c : out.contains k = true
 ·rw [if_pos c]
  exact ⟨h, ⟨[], by simp⟩, by simpa using c⟩
 ·rw [if_neg c]
  have c' : k ∉ out := by simpa using c
  refine ⟨⟨?_, ?_, fun j hj => List.mem_append_left _ (h.fst j hj)⟩, ⟨[k], rfl⟩, by simp⟩
  ·rw [List.nodup_append]
   refine ⟨h.nd, by simp, ?_⟩
   intro a ha b hb e
   rw [List.mem_singleton.1 hb] at e
   exact c' (e ▸ ha)
  ·intro x hx
   rcases List.mem_append.1 hx with hx | hx
   ·exact h.rch x hx
   ·rw [List.mem_singleton.1 hx]; exact hk
theorem addL_ok {p : PolD} {g : Int} : ∀ {l : List Int} {out : List Int}, Seen p g out → (∀ k ∈ l, Rch p g k) → Seen p g (l.foldl addM out) ∧ (∃ r, l.foldl addM out = out ++ r) ∧ ∀ k ∈ l, k ∈ l.foldl addM out
 | [], out, h, _ => ⟨h, ⟨[], by simp⟩, by simp⟩
 | k :: r, out, h, hk => by
  obtain ⟨h1, ⟨r1, e1⟩, h2⟩ := addM_ok h (hk k (by simp))
  obtain ⟨h3, ⟨r2, e2⟩, h4⟩ := addL_ok (l := r) h1 fun j hj => hk j (List.mem_cons_of_mem _ hj)
  refine ⟨h3, ⟨r1 ++ r2, by rw [List.foldl_cons, e2, e1, List.append_assoc]⟩, fun j hj => ?_⟩
  rcases List.mem_cons.1 hj with rfl | hj
  ·rw [List.foldl_cons, e2]; exact List.mem_append_left _ h2
  ·exact h4 j hj
theorem pre_get {A B r : List Int} (er : B = A ++ r) {j : Nat} (hA : j < A.length) (hB : j < B.length) : B[j] = A[j] := by subst er; exact List.getElem_append_left hA
theorem implReach_e {p : PolD} (hok : OkPol p) (g : Int) : ∃ out : List Int, (∀ x, x ∈ out ↔ Rch p g x) ∧ out.length ≤ 3 ∧ F_bk (p, g, ()) = some ((out, ()), ()) := by
 have hn := hok.own.2
 have toR : ∀ y, Rch p g y → ∀ k ∈ gL p.1.length (fun x => linkB p x y), Rch p g k := fun y hy k hk C h1 h2 => h2 y k (hy C h1 h2) (gL_mem.1 hk).2
 have s0 : Seen p g (gL p.1.length fun x => linkB p x g) := ⟨gL_nd _ _, fun x hx C h1 _ => h1 x (gL_mem.1 hx).2, fun k hk => gL_mem.2 ⟨isG_t.1 (linkB_guest hok hk), hk⟩⟩
 have inner : ∀ (out row : List Int) (i : Int), Seen p g out → row.length ≤ 3 → (∀ k ∈ row, Rch p g k) → Dr (L_bk_6 ((p, (out, (i, (row, (((row.length : Nat) : Int), ((0 : Int), ())))))), ((), ()))) fun o => o = .inl ((p, (row.foldl addM out, (i, ()))), ((), ())) := by
  intro out row i ho hr hk
  refine iter_d (fun m u => ∃ j : Nat, m + j = 3 ∧ u = ((p, ((row.take j).foldl addM out, (i, (row, (((row.length : Nat) : Int), ((j : Int), ())))))), ((), ()))) ?_ 3 _ ⟨0, rfl, rfl⟩ (by rw [lots_eq]; omega)
  rintro rec m _ ⟨j, hm, rfl⟩ ih
  unfold l_bk_6
  dsimp only
  by_cases c : j < row.length
  ·have hin : 0 ≤ (j : Int) ∧ (j : Int) < ((row.length : Nat) : Int) := by omega
   have sj := (addL_ok (l := row.take j) ho fun k h => hk k (List.mem_of_mem_take h)).1
   have lj := sj.len hok
   rw [if_pos (lt_t c), if_pos hin, at_get c, wrapS (by omega)]
   refine Dr.step (contains_eq _ _ (by omega)) ?_
   dsimp only
   cases cc : ((row.take j).foldl addM out).contains row[j] with
   | false =>
    rw [if_pos (by simp)]
    refine Dr.guard (by simp; omega) (ih (m - 1) _ (by omega) ⟨j + 1, by omega, ?_⟩)
    rw [take_snoc c, List.foldl_append]
    have e : [row[j]].foldl addM ((row.take j).foldl addM out) = (row.take j).foldl addM out ++ [row[j]] := if_neg (by rw [cc]; simp)
    rw [e]
   | true =>
    rw [if_neg (by simp)]
    refine ih (m - 1) _ (by omega) ⟨j + 1, by omega, ?_⟩
    rw [take_snoc c, List.foldl_append]
    have e : [row[j]].foldl addM ((row.take j).foldl addM out) = (row.take j).foldl addM out := if_pos cc
    rw [e]
  ·rw [if_neg (lt_f c), List.take_of_length_le (by omega)]
   exact Dr.ret rfl
 have outer : Dr (L_bk_3 ((p, (gL p.1.length (fun x => linkB p x g), ((0 : Int), ()))), ((), ()))) fun o => ∃ out, o = .inl ((out, ()), ((), ())) ∧ Seen p g out ∧ ∀ y ∈ out, ∀ k, linkB p k y = true → k ∈ out := by
  refine iter_d (fun m u => ∃ (out : List Int) (i : Nat), m + i = 3 ∧ i ≤ out.length ∧ Seen p g out ∧ (∀ j (hj : j < out.length), j < i → ∀ k, linkB p k out[j] = true → k ∈ out) ∧ u = ((p, (out, ((i : Int), ()))), ((), ()))) ?_ 3 _ ⟨_, 0, rfl, by omega, s0, fun j _ h => by omega, rfl⟩ (by rw [lots_eq]; omega)
  rintro rec m _ ⟨out, i, hm, hi, ho, hc, rfl⟩ ih
  unfold l_bk_3
  dsimp only
  have lo := ho.len hok
  by_cases c : i < out.length
  ·have hin : 0 ≤ (i : Int) ∧ (i : Int) < ((out.length : Nat) : Int) := by omega
   rw [if_pos (lt_t c), if_pos hin, at_get c]
   refine Dr.step (implTo_e hok _) ?_
   dsimp only
   have gl := gL_len p.1.length fun x => linkB p x out[i]
   have ry := toR _ (ho.rch _ (List.getElem_mem c))
   refine (inner _ _ _ ho (by omega) ry).bind fun o ho2 => ?_
   subst ho2
   dsimp only
   rw [wrapS (by omega)]
   obtain ⟨s1, ⟨r, er⟩, s2⟩ := addL_ok ho ry
   refine ih (m - 1) _ (by omega) ⟨_, i + 1, by omega, by rw [er, List.length_append]; omega, s1, fun j hj hlt k hk => ?_, rfl⟩
   by_cases ji : j = i
   ·subst ji
    have e : ((gL p.1.length fun x => linkB p x out[j]).foldl addM out)[j] = out[j] := pre_get er c hj
    rw [e] at hk
    exact s2 k (gL_mem.2 ⟨isG_t.1 (linkB_guest hok hk), hk⟩)
   ·have jl : j < out.length := by omega
    have e : ((gL p.1.length fun x => linkB p x out[i]).foldl addM out)[j] = out[j] := pre_get er jl hj
    rw [e] at hk
    rw [er]
    exact List.mem_append_left _ (hc j jl (by omega) k hk)
  ·rw [if_neg (lt_f c)]
   refine Dr.ret ⟨out, rfl, ho, fun y hy k hk => ?_⟩
   obtain ⟨j, hj, rfl⟩ := List.mem_iff_getElem.1 hy
   exact hc j hj (by omega) k hk
 obtain ⟨o, e, out, rfl, ho, hc⟩ := outer
 have lo := ho.len hok
 have so := srt_ok ho.nd
 refine ⟨srt out, fun x => ?_, by rw [so.2.2]; exact lo, ?_⟩
 ·rw [so.2.1]
  exact ⟨ho.rch x, fun h => h (· ∈ out) ho.fst fun y k hy hk => hc y hy k hk⟩
 ·refine Dr.eq ?_
  unfold F_bk
  refine Dr.step (implTo_e hok g) ?_
  dsimp only
  refine Dr.step e ?_
  dsimp only
  exact Dr.step (sort_e ho.nd (by omega)) (Dr.guard (by simp [so.2.2]) (Dr.ret rfl))
def strM (p : PolD) (g : Int) : IntsR := if askM p g ≠ 0 then (askM p g, [], ()) else (0, gL p.1.length (fun x => x != g && !(reachM p g).contains x), ())
theorem strM_len (p : PolD) (g : Int) (hp : polLe 1048576 p) : (strM p g).2.1.length ≤ 1048576 := by
 unfold strM
 split
 ·simp
 ·exact Nat.le_trans (gL_len _ _) hp.1.1
theorem specStr_e (p : PolD) (g : Int) (hp : polLe 1048576 p) : F_ad (p, g, ()) = some ((strM p g, ()), ()) := by
 refine Dr.eq ?_
 unfold F_ad strM
 refine Dr.step (specAsk_eq p g hp) ?_
 by_cases h : askM p g = 0
 case neg => rw [if_pos (c := askM p g ≠ 0) h]; exact Dr.pos (by simpa using h) (Dr.ret rfl)
 rw [if_neg (c := askM p g ≠ 0) (by simpa using h)]
 refine Dr.neg (by simpa using h) ?_
 obtain ⟨h1, hg⟩ := ask_inv h
 have hok := okPol h1
 have hn := hok.own.2
 refine Dr.step (specReach_e hok g) ?_
 dsimp only
 have a0 := linksL_gl hok g
 have hr := (((a0.rnd hok).rnd hok).rnd hok).len hok
 have key : ∀ Z : IntsR, Dr (L_ad_7 ((g, ((), ((), (reachM p g, ((), ((0 : Int), ())))))), ((p, (Z, (((0 : Int), (([] : List Int), ())), ()))), ()))) fun o => o = .inl (((), ((), ())), ((Z, (((0 : Int), (gL p.1.length (fun x => x != g && !(reachM p g).contains x), ())), ())), ())) := by
  intro Z
  refine iter_d (fun m u => ∃ i : Nat, i ≤ p.1.length ∧ m + i = 3 ∧ u = ((g, ((), ((), (reachM p g, ((), ((i : Int), ())))))), ((p, (Z, (((0 : Int), (gL i (fun x => x != g && !(reachM p g).contains x), ())), ()))), ()))) ?_ 3 _ ⟨0, by omega, rfl, rfl⟩ (by rw [lots_eq]; omega)
  rintro rec m _ ⟨i, hi, hm, rfl⟩ ih
  unfold l_ad_7
  dsimp only
  by_cases c : i < p.1.length
  ·rw [if_pos (lt_t c), wrapS (by omega)]
   have gl := gL_len i (fun x => x != g && !(reachM p g).contains x)
   have sn := gL_snoc i (fun x => x != g && !(reachM p g).contains x)
   cases cg : ((i : Int) != g) with
   | false =>
    rw [cg, if_neg (by simp)] at sn
    rw [if_neg (by simp)]
    exact ih (m - 1) _ (by omega) ⟨i + 1, by omega, by omega, by rw [sn]⟩
   | true =>
    rw [if_pos rfl]
    have hr' : (reachM p g).length ≤ 1048576 := by have : (reachM p g).length ≤ 3 := hr; omega
    refine Dr.step (l1Has_eq _ _ hr') ?_
    dsimp only
    cases cr : (reachM p g).contains (i : Int) with
    | false =>
     rw [cg, cr, if_pos (show (true && !false) = true from rfl)] at sn
     rw [if_pos (by simp)]
     refine Dr.guard (by have : [(i : Int)].length = 1 := rfl; omega) (ih (m - 1) _ (by omega) ⟨i + 1, by omega, by omega, by rw [sn]⟩)
    | true =>
     rw [cg, cr, if_neg (by simp)] at sn
     rw [if_neg (by simp)]
     exact ih (m - 1) _ (by omega) ⟨i + 1, by omega, by omega, by rw [sn]⟩
  ·rw [if_neg (lt_f c)]
   refine Dr.ret ?_
   rw [show i = p.1.length by omega]
 refine (key _).bind fun o ho => ?_
 subst ho
 exact Dr.ret rfl
theorem implStr_e (p : PolD) (g : Int) (hp : polLe 1048576 p) : F_bl (p, g, ()) = some ((strM p g, ()), ()) := by
 refine Dr.eq ?_
 unfold F_bl strM
 refine Dr.step (implAsk_eq p g hp) ?_
 by_cases h : askM p g = 0
 case neg => rw [if_pos (c := askM p g ≠ 0) h]; exact Dr.pos (by simpa using h) (Dr.ret rfl)
 rw [if_neg (c := askM p g ≠ 0) (by simpa using h)]
 refine Dr.neg (by simpa using h) ?_
 obtain ⟨h1, hg⟩ := ask_inv h
 have hok := okPol h1
 have hn := hok.own.2
 obtain ⟨out, ho, lo, eo⟩ := implReach_e hok g
 refine Dr.step eo ?_
 dsimp only
 have same : ∀ x, (x != g && !(reachM p g).contains x) = (x != g && !out.contains x) := fun x => by
  have : (reachM p g).contains x = out.contains x := by
   rw [Bool.eq_iff_iff, List.contains_iff_mem, List.contains_iff_mem, reach_mem hok, ho]
  rw [this]
 rw [gL_congr same]
 unfold F_bm_1
 dsimp only
 have key : Dr (L_bn_3 (((g, (out, ())), (([] : List Int), (((p.1.length : Nat) : Int), ((0 : Int), ())))), ((), ()))) fun o => o = .inl ((gL p.1.length (fun x => x != g && !out.contains x), ()), ((), ())) := by
  refine iter_d (fun m u => ∃ i : Nat, i ≤ p.1.length ∧ m + i = 3 ∧ u = (((g, (out, ())), (gL i (fun x => x != g && !out.contains x), (((p.1.length : Nat) : Int), ((i : Int), ())))), ((), ()))) ?_ 3 _ ⟨0, by omega, rfl, rfl⟩ (by rw [lots_eq]; omega)
  rintro rec m _ ⟨i, hi, hm, rfl⟩ ih
  unfold l_bn_3
  dsimp only
  by_cases c : i < p.1.length
  ·rw [if_pos (lt_t c)]
   have e : F_bl_1 ((i : Int), g, out, ()) = some ((((i : Int) != g && !out.contains (i : Int)), ()), ()) := by
    unfold F_bl_1
    dsimp only
    cases (i : Int) != g
    ·rfl
    ·rw [if_pos rfl, contains_eq _ _ (by omega)]; rfl
   refine Dr.step e ?_
   dsimp only
   rw [wrapS (by omega)]
   have gl := gL_len i (fun x => x != g && !out.contains x)
   have sn := gL_snoc i (fun x => x != g && !out.contains x)
   by_cases cl : ((i : Int) != g && !out.contains (i : Int)) = true
   ·rw [if_pos cl] at sn ⊢
    refine Dr.guard (by have : [(i : Int)].length = 1 := rfl; omega) (ih (m - 1) _ (by omega) ⟨i + 1, by omega, by omega, by rw [sn]⟩)
   ·rw [if_neg cl] at sn ⊢
    exact ih (m - 1) _ (by omega) ⟨i + 1, by omega, by omega, by rw [sn]⟩
  ·rw [if_neg (lt_f c)]
   refine Dr.ret ?_
   rw [show i = p.1.length by omega]
 refine Dr.step (v := ((gL p.1.length (fun x => x != g && !out.contains x), ()), ())) ?_ (Dr.ret rfl)
 refine Dr.eq ?_
 refine key.bind fun o ho => ?_
 subst ho
 exact Dr.ret rfl
theorem strangersTo_law (p : PolD) (g : Int) (hp : polLe maxLen p) : F_ch (p, g, ()) = some ((true, ()), ()) := by
 unfold F_ch
 simp only [ltI_eq, decide_eq_true_eq]
 obtain ⟨r1, e1, c1⟩ := szPol_eq p 1048576 (by omega) (by omega) hp
 rw [e1, Option.bind_some]
 by_cases d1 : r1 < 0
 ·rw [if_pos d1]
 rw [if_neg d1]
 have c1 := c1.resolve_left d1
 have hp := c1.2.2
 have hr : (strM p g).2.1.length ≤ 1048576 := strM_len p g hp
 have hi := implStr_e p g hp
 have he := eqInts_eq (strM p g) (leM hr)
 rw [toPol_eq p hp, Option.bind_some]
 show (F_ad (p, g, ())).bind _ = _
 rw [specStr_e p g hp, Option.bind_some, Option.bind_some]
 show (F_bl (p, g, ())).bind _ = _
 rw [hi, Option.bind_some]
 show (F_bp (strM p g, strM p g, ())).bind _ = _
 rw [he, Option.bind_some, if_neg (by simp), Option.bind_some]
 show (F_bx (p, p, ())).bind _ = _
 rw [eqPol_eq p hp, Option.bind_some, if_neg (by simp)]
 obtain ⟨k1, p', m1, ⟨a1, a2, a3, a4⟩, m2, m3⟩ := markPol_ok p 1 hp (by omega) (by omega)
 dsimp only
 rw [m1, Option.bind_some]
 dsimp only
 rw [if_pos (by rw [a1, a2, a3, a4]; simp), if_pos (by simp; omega)]
 rw [Option.bind_some, if_neg (by simp)]
 show (F_ce (((strM p g).1, (strM p g).2.1, ()), 1, ())).bind _ = _
 rw [markInts_eq (strM p g) 1 hr (by omega), Option.bind_some]
 have n2 : ((((strM p g).2.1.length == (seqFrom 1 (strM p g).2.1.length).length && true) && true) && true) = true := by simp [seqFrom_len]
 rw [if_pos n2, heldInts_eq _ _ 1 hr (by omega), Option.bind_some]
 have n3 : ¬ (1 + ((strM p g).2.1.length : Int) < 0) := by omega
 rw [if_neg n3, if_neg (by simp), Option.bind_some]
 show (F_bl (p, g, ())).bind _ = _
 rw [hi, Option.bind_some]
 show (F_bp (strM p g, strM p g, ())).bind _ = _
 rw [he, Option.bind_some, if_neg (by simp), Option.bind_some, if_neg n3, if_neg (by simp)]
theorem strangersTo_F : ∀ x, inRP P_ch x → F_ch x = some ((true, ()), ()) := by
 rintro ⟨p, g, _⟩ ⟨hp, _⟩
 exact strangersTo_law p g ⟨⟨hp.1.1, fun l hl => (hp.1.2 l hl).1⟩, hp.2.1.1, hp.2.2.1.1, hp.2.2.2.1.1⟩
end Go.Proofs.Ytilcgnimcdkfiaa
