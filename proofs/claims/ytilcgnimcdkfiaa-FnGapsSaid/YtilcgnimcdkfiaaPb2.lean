/- Plain laws: what the functions compute, and that both programs compute the same. -/
import Derived.Test.YtilcgnimcdkfiaaPb1
namespace Go.Proofs.Ytilcgnimcdkfiaa
open Go Go.RowKit S Go.Proofs
set_option maxRecDepth 100000
set_option linter.unusedVariables false
set_option linter.unusedSimpArgs false
theorem pol29_d {X : PolD} {L : List (List Int)} {ls : List LaneD} {bs : List TwoD} {s : SrcD} {k : Int} (hl : 1 ≤ L.length ∧ L.length ≤ 3) (K : Nat) (hK : K ≤ 4) (hs : Sr s k) (hk : k ≤ 1000000) :
  Dr (L_m_29 (((), ((), ((), (((L.length : Nat) : Int), ((K : Int), ()))))), ((X, ((L, (ls, (bs, (([] : List TwoD), ())))), (s, ()))), ()))) fun o => ∃ (pl : List TwoD) (s' : SrcD),
   o = .inl (((), ((), ())), ((X, ((L, (ls, (bs, (pl, ())))), (s', ()))), ())) ∧ Sr s' (k + 8) ∧ pl.length = K ∧ ∀ b ∈ pl, (0 ≤ b.1 ∧ b.1 < (L.length : Int)) ∧ 1 ≤ b.2.1 ∧ b.2.1 ≤ 9 := by
 have hk0 := hs.pos
 refine iter_d (fun m u => ∃ (pl : List TwoD) (s' : SrcD), u = (((), ((), ((), (((L.length : Nat) : Int), ((m : Int), ()))))), ((X, ((L, (ls, (bs, (pl, ())))), (s', ()))), ())) ∧ Sr s' (k + 2 * (4 - (m : Int))) ∧ pl.length + m = K ∧ ∀ b ∈ pl, (0 ≤ b.1 ∧ b.1 < (L.length : Int)) ∧ 1 ≤ b.2.1 ∧ b.2.1 ≤ 9) ?_ K _
  ⟨[], s, rfl, hs.le (by omega), by simp, by simp⟩ (by rw [lots_eq]; omega)
 rintro rec m _ ⟨pl, s', rfl, hs', hm, hI⟩ ih
 unfold l_m_29
 dsimp only
 by_cases c : 0 < m
 ·rw [if_pos (by rw [ltI_t]; omega)]
  refine (next_d hs' (by omega) _).bind fun r57 h57 => (next_d h57.1 (by omega) _).bind fun r58 h58 => ?_
  have em : ((m : Int) - 1) = ((m - 1 : Nat) : Int) := by omega
  have b1 := bdLt h57.2 (by omega)
  have b2 := bdLt h58.2 (by omega)
  rw [wrap64 (n := (m : Int) - 1) (by omega) (by omega), wrap64 (n := 1 + (r58.1.1 : Int)) (by omega) (by omega)]
  refine Dr.guard (by simp; omega) ?_
  refine ih (m - 1) _ (by omega) ⟨pl ++ [(r57.1.1, (1 + (r58.1.1 : Int), ()))], r58.2.1, by rw [em], h58.1.le (by omega), by simp; omega, fun b hb => ?_⟩
  rcases List.mem_append.1 hb with hb | hb
  ·exact hI b hb
  ·rw [List.mem_singleton.1 hb]; exact ⟨b1, by dsimp only; omega, by dsimp only; omega⟩
 ·obtain rfl : m = 0 := by omega
  rw [if_neg (by rw [ltI_t]; omega)]
  exact Dr.ret ⟨pl, s', rfl, hs'.le (by omega), by omega, hI⟩
theorem right_pol {L : List (List Int)} {ls : List LaneD} {bs pl : List TwoD} (h1 : ownsM L = 0) (h2 : ls.length ≤ 3) (h3 : lanesM (L, ls, [], [], ()) = none) (h4 : bs.length ≤ 1)
  (h5 : ∀ b ∈ bs, (0 ≤ b.1 ∧ b.1 < (L.length : Int)) ∧ (0 ≤ b.2.1 ∧ b.2.1 < (L.length : Int)) ∧ b.1 ≠ b.2.1) (h6 : 1 ≤ pl.length ∧ pl.length ≤ 4) (h7 : ∀ b ∈ pl, (0 ≤ b.1 ∧ b.1 < (L.length : Int)) ∧ 1 ≤ b.2.1 ∧ b.2.1 ≤ 9) : polM (L, ls, bs, pl, ()) = 0 := by
 have e1 : lanesM (L, ls, bs, pl, ()) = none := h3
 have e2 : bellsM (L, ls, bs, pl, ()) = none := by
  unfold bellsM
  match bs, h4, h5 with
  | [], _, _ => rfl
  | [b], _, h5 =>
   have := h5 b (by simp)
   simp only [scan]
   unfold bellM endsM
   rw [if_pos (isG_t.2 this.1), if_pos (isG_t.2 this.2.1), if_neg this.2.2]
   rfl
 have e3 : planM (L, ls, bs, pl, ()) = 0 := by
  unfold planM
  rw [if_pos (by dsimp only; omega), scan_free]
  intro _ b hb
  have := h7 b hb
  rw [if_pos (isG_t.2 this.1), if_pos (inB_t.2 (by omega))]
 unfold polM
 rw [if_neg (by simpa using h1), if_pos (by dsimp only; omega), e1]
 dsimp only
 rw [e2]
 exact e3
theorem bdNat {n x : Int} (h : Bd n x) : ∃ K : Nat, x = (K : Int) ∧ ((K : Int) < n ∨ K = 0) := ⟨x.toNat, by unfold Bd at h; omega, by unfold Bd at h; omega⟩
theorem l6Policy_d {s : SrcD} {k : Int} (hs : Sr s k) (hk : k ≤ 900000) : Dr (F_m (s, ())) fun r => Sr r.2.1 (k + 100) ∧ polM r.1.1 = 0 := by
 have hk0 := hs.pos
 unfold F_m
 refine (next_d hs (by omega) _).bind fun r1 h1 => (pick_d h1.1 (by omega) _ _).bind fun r2 h2 => ?_
 have b1 := bdLt h1.2 (by omega)
 obtain ⟨G, eG, hG⟩ : ∃ G : Nat, (r2.1.1 : Int) = (G : Int) ∧ 1 ≤ G ∧ G ≤ 3 := by
  have key : ∀ v : Int, v ∈ [(2 : Int), 3, 3, 1] → ∃ G : Nat, v = (G : Int) ∧ 1 ≤ G ∧ G ≤ 3 := fun v hv => by
   simp only [List.mem_cons, List.not_mem_nil, or_false] at hv
   exact ⟨v.toNat, by omega, by omega⟩
  exact key _ h2.2
 rw [eG]
 refine (pol4_d G hG (by omega) h2.1 (by omega)).bind fun z hz => ?_
 obtain ⟨L, page, s1, rfl, hs1, hl, hI⟩ := hz
 dsimp only
 have hl3 : 1 ≤ L.length ∧ L.length ≤ 3 := by omega
 have hO := hI.owns hl3
 have hp := hI.top
 have hl2 : ∀ l ∈ L, l.length ≤ 1048576 := fun l hm => by have := hI.one l hm; omega
 refine (next_d hs1 (by omega) _).bind fun r18 h18 => ?_
 obtain ⟨K1, e1, c1⟩ := bdNat h18.2
 rw [e1]
 refine (pol15_d hO hl3 hl2 (by omega) K1 (by omega) h18.1 (by omega)).bind fun z hz => ?_
 obtain ⟨ls, s2, rfl, hs2, hls, hlm⟩ := hz
 dsimp only
 refine (next_d hs2 (by omega) _).bind fun r41 h41 => ?_
 obtain ⟨K2, e2, c2⟩ := bdNat h41.2
 rw [e2]
 refine (pol23_d hl3 K2 (by omega) h41.1 (by omega)).bind fun z hz => ?_
 obtain ⟨bs, s3, rfl, hs3, hbs, hbm⟩ := hz
 dsimp only
 refine (next_d hs3 (by omega) _).bind fun r53 h53 => ?_
 obtain ⟨K3, e3, c3⟩ := bdNat h53.2
 rw [e3, wrap64 (by omega) (by omega), show (1 : Int) + (K3 : Int) = ((K3 + 1 : Nat) : Int) by omega]
 refine (pol29_d hl3 (K3 + 1) (by omega) h53.1 (by omega)).bind fun z hz => ?_
 obtain ⟨pl, s4, rfl, hs4, hpl, hpm⟩ := hz
 exact Dr.ret ⟨hs4.le (by omega), right_pol hO hls hlm hbs hbm (by omega) hpm⟩
theorem HK.pgs {x : HostD} (h : HK x) {g : Int} (hg : isG x.1 g = true) : ∀ q ∈ pgM x.1 g, 0 ≤ q.1 → 8 * q.1 + 8 ≤ (x.2.1.length : Int) := fun q hq _ => by
 have := pgM_in h.ok hg q hq
 rw [h.mem.2]
 omega
theorem ask_inv {p : PolD} {g : Int} (h : askM p g = 0) : polM p = 0 ∧ isG p g = true := by
 unfold askM at h
 split at h
 ·exact absurd h ‹_›
 ·rename_i h1
  split at h
  ·exact ⟨by simpa using h1, ‹_›⟩
  ·cases h
theorem up_len : ∀ {L : List Int} {a b : Int}, L.Pairwise (· < ·) → (∀ x ∈ L, a ≤ x ∧ x < b) → (L.length : Int) ≤ b - a ∨ L = []
 | [], _, _, _, _ => .inr rfl
 | x :: r, a, b, h, hx => by
  rw [List.pairwise_cons] at h
  have h0 := hx x (by simp)
  rcases up_len (a := x + 1) (b := b) h.2 (fun y hy => ⟨by have := h.1 y hy; omega, (hx y (List.mem_cons_of_mem _ hy)).2⟩) with e | e
  ·left; rw [List.length_cons]; omega
  ·left; rw [e]; simp; omega
def linkB (p : PolD) (x g : Int) : Bool := p.2.1.any (fun l => l.1 == x && l.2.1 == g) || p.2.2.1.any (sameB (x, g, ()))
theorem sameB_t {x g : Int} {b : TwoD} : sameB (x, g, ()) b = true ↔ b.1 = x ∧ b.2.1 = g := by
 obtain ⟨b1, b2, _⟩ := b
 unfold sameB
 simp
 constructor <;> rintro ⟨h1, h2⟩ <;> simp [h1, h2]
theorem linkB_guest {p : PolD} (hok : OkPol p) {x g : Int} (h : linkB p x g = true) : isG p x = true := by
 unfold linkB at h
 rw [Bool.or_eq_true, List.any_eq_true, List.any_eq_true] at h
 rcases h with ⟨l, h1, h2⟩ | ⟨b, h1, h2⟩
 ·simp only [Bool.and_eq_true, beq_iff_eq] at h2
  rw [← h2.1]; exact (okLane hok l h1).1.1
 ·rw [← (sameB_t.1 h2).1]; exact (okBell hok b h1).1
theorem guests_len {p : PolD} (hok : OkPol p) {L : List Int} (h : L.Pairwise (· < ·)) (hg : ∀ x ∈ L, isG p x = true) : L.length ≤ 3 := by
 have := hok.own.2
 rcases up_len (a := 0) (b := (p.1.length : Int)) h (fun x hx => isG_t.1 (hg x hx)) with e | e
 ·omega
 ·rw [e]; simp
/-- A list of guests that rises. -/
structure UpG (p : PolD) (L : List Int) : Prop where
 up : L.Pairwise (· < ·)
 g : ∀ x ∈ L, isG p x = true
theorem UpG.len {p : PolD} (hok : OkPol p) {L : List Int} (h : UpG p L) : L.length ≤ 3 := guests_len hok h.up h.g
/-- Who reaches a guest. -/
def Rch (p : PolD) (g x : Int) : Prop := ∀ C : Int → Prop, (∀ k, linkB p k g = true → C k) → (∀ y k, C y → linkB p k y = true → C k) → C x
def gL (n : Nat) (P : Int → Bool) : List Int := ((List.range n).map fun i : Nat => (i : Int)).filter P
theorem gL_len (n : Nat) (P : Int → Bool) : (gL n P).length ≤ n := by
 unfold gL
 refine Nat.le_trans (List.length_filter_le _ _) (by simp)
theorem gL_mem {n : Nat} {P : Int → Bool} {x : Int} : x ∈ gL n P ↔ (0 ≤ x ∧ x < (n : Int)) ∧ P x = true := by
 unfold gL
 rw [List.mem_filter, List.mem_map]
 refine and_congr_left fun _ => ⟨?_, fun h => ⟨x.toNat, ?_, ?_⟩⟩
 ·rintro ⟨i, h1, rfl⟩
  rw [List.mem_range] at h1
  omega
 ·rw [List.mem_range]; omega
 ·omega
/-- What has been seen: once each. -/
structure Seen (p : PolD) (g : Int) (out : List Int) : Prop where
 nd : out.Nodup
 rch : ∀ x ∈ out, Rch p g x
 fst : ∀ k, linkB p k g = true → k ∈ out
theorem rch_guest {p : PolD} (hok : OkPol p) {g x : Int} (h : Rch p g x) : isG p x = true := h (fun x => isG p x = true) (fun _ h => linkB_guest hok h) fun _ _ _ h => linkB_guest hok h
theorem nd_len : ∀ {A B : List Int}, A.Nodup → (∀ x ∈ A, x ∈ B) → A.length ≤ B.length
 | [], _, _, _ => Nat.zero_le _
 | a :: r, B, h, hs => by
  rw [List.nodup_cons] at h
  have ha := hs a (by simp)
  have hl := List.length_erase_of_mem ha
  have h1 := nd_len (B := B.erase a) h.2 fun x hx => by
   have hne : x ≠ a := fun e => h.1 (e ▸ hx)
   exact (List.mem_erase_of_ne hne).2 (hs x (List.mem_cons_of_mem _ hx))
  have hp := List.length_pos_of_mem ha
  rw [List.length_cons]; omega
theorem Seen.len {p : PolD} (hok : OkPol p) {g : Int} {out : List Int} (h : Seen p g out) : out.length ≤ 3 := by
 have hn := hok.own.2
 have := nd_len (B := gL p.1.length fun _ => true) h.nd fun x hx => gL_mem.2 ⟨isG_t.1 (rch_guest hok (h.rch x hx)), rfl⟩
 have := gL_len p.1.length fun _ => true
 omega
theorem bent_d {s : SrcD} {k : Int} (hs : Sr s k) (hk : k ≤ 800000) : Dr (F_n (s, ())) fun r => Sr r.2.1 (k + 110) ∧ polLe 1000 r.1.1 := by
 have hk0 := hs.pos
 unfold F_n
 refine (l6Policy_d hs (by omega)).bind fun r1 h1 => ?_
 refine (next_d h1.1 (by omega) _).bind fun r2 h2 => ?_
 have hok := okPol h1.2
 have a1 := hok.own
 have a2 : ∀ l ∈ r1.1.1.1, l.length ≤ 5 := fun l hl => (hok.own1 l hl).2.1
 have a3 := hok.lanes.1
 have a4 := hok.bells.1
 have a5 := hok.plan
 obtain ⟨⟨p, pu⟩, s1, su⟩ := r1
 obtain ⟨r2a, s2, s2u⟩ := r2
 simp only at h1 h2 hok a1 a2 a3 a4 a5 ⊢
 have hs2 : Sr s2 (k + 101) := h2.1.le (by omega)
 have i0 : ((0 : Int)).toNat < p.1.length := by show 0 < _; omega
 have g0 : 0 ≤ (0 : Int) ∧ (0 : Int) < ((p.1.length : Nat) : Int) := by omega
 have own0 : ∀ l : List Int, l.length ≤ 5 → polLe 1000 (p.1.set ((0 : Int)).toNat l, p.2.1, p.2.2.1, p.2.2.2.1, ()) := fun l hl => by
  refine ⟨⟨by rw [List.length_set]; show p.1.length ≤ 1000; omega, fun x hx => ?_⟩, by show p.2.1.length ≤ 1000; omega, by show p.2.2.1.length ≤ 1000; omega, by show p.2.2.2.1.length ≤ 1000; omega⟩
  rcases List.mem_or_eq_of_mem_set hx with hx | rfl
  ·have := a2 x hx; omega
  ·omega
 have hin : ∀ x ∈ p.1, x.length ≤ 1000 := fun x hx => by have := a2 x hx; omega
 refine Dr.ite (fun _ => ?_) fun _ => Dr.ite (fun _ => ?_) fun _ => Dr.ite (fun _ => ?_) fun _ => Dr.ite (fun _ => ?_) fun _ => Dr.ite (fun _ => ?_) fun _ => Dr.ite (fun _ => ?_) fun _ => Dr.ite (fun _ => ?_) fun _ => Dr.ite (fun _ => ?_) fun _ => Dr.ite (fun _ => ?_) fun _ => ?_
 ·refine Dr.guard g0 (Dr.step (List.getElem?_eq_getElem i0) ?_)
  refine (pick_d hs2 (by omega) _ _).bind fun r4 h4 => ?_
  have hy := hok.own1 _ (List.getElem_mem i0)
  refine Dr.step (List.getElem?_eq_getElem i0) (Dr.guard (by show 0 ≤ (0 : Int) ∧ (0 : Int) < ((p.1[((0 : Int)).toNat].length : Nat) : Int); omega) (Dr.step (List.getElem?_eq_getElem i0) (Dr.ret ⟨h4.1.le (by omega), own0 _ (by rw [List.length_set]; omega)⟩)))
 ·refine Dr.guard g0 (Dr.step (List.getElem?_eq_getElem i0) (Dr.step (List.getElem?_eq_getElem i0) (Dr.guard (by show (p.1.length + 1) * 24 ≤ _; omega) (Dr.ret ⟨hs2.le (by omega), ?_⟩))))
  refine ⟨⟨by show (p.1 ++ [p.1[((0 : Int)).toNat]]).length ≤ 1000; simp; omega, fun x hx => ?_⟩, by show p.2.1.length ≤ 1000; omega, by show p.2.2.1.length ≤ 1000; omega, by show p.2.2.2.1.length ≤ 1000; omega⟩
  rcases List.mem_append.1 (show x ∈ p.1 ++ [p.1[((0 : Int)).toNat]] from hx) with hx | hx
  ·exact hin x hx
  ·rw [List.mem_singleton.1 hx]; exact hin _ (List.getElem_mem i0)
 ·exact Dr.ret ⟨hs2.le (by omega), ⟨⟨Nat.zero_le _, fun x hx => by cases hx⟩, by show p.2.1.length ≤ 1000; omega, by show p.2.2.1.length ≤ 1000; omega, by show p.2.2.2.1.length ≤ 1000; omega⟩⟩
 ·refine (next_d hs2 (by omega) _).bind fun r11 h11 => (next_d h11.1 (by omega) _).bind fun r12 h12 => (pick_d h12.1 (by omega) _ _).bind fun r13 h13 => (pick_d h13.1 (by omega) _ _).bind fun r14 h14 => (pick_d h14.1 (by omega) _ _).bind fun r15 h15 => ?_
  refine Dr.guard (by show (p.2.1.length + 1) * 40 ≤ _; omega) (Dr.ret ⟨h15.1.le (by omega), ⟨⟨by show p.1.length ≤ 1000; omega, hin⟩, ?_, by show p.2.2.1.length ≤ 1000; omega, by show p.2.2.2.1.length ≤ 1000; omega⟩⟩)
  show (p.2.1 ++ [_]).length ≤ 1000
  rw [List.length_append, List.length_singleton]; omega
 ·refine (next_d hs2 (by omega) _).bind fun r17 h17 => (next_d h17.1 (by omega) _).bind fun r18 h18 => ?_
  refine Dr.guard (by show (p.2.2.1.length + 2) * 16 ≤ _; omega) (Dr.ret ⟨h18.1.le (by omega), ⟨⟨by show p.1.length ≤ 1000; omega, hin⟩, by show p.2.1.length ≤ 1000; omega, ?_, by show p.2.2.2.1.length ≤ 1000; omega⟩⟩)
  show (p.2.2.1 ++ [_, _]).length ≤ 1000
  rw [List.length_append]; simp; omega
 ·refine (pick_d hs2 (by omega) _ _).bind fun r20 h20 => (pick_d h20.1 (by omega) _ _).bind fun r21 h21 => ?_
  have i2 : ((0 : Int)).toNat < p.2.2.2.1.length := by show 0 < _; omega
  refine Dr.guard (by show 0 ≤ (0 : Int) ∧ (0 : Int) < ((p.2.2.2.1.length : Nat) : Int); omega) (Dr.step (List.getElem?_eq_getElem i2) (Dr.ret ⟨h21.1.le (by omega), ⟨⟨by show p.1.length ≤ 1000; omega, hin⟩, by show p.2.1.length ≤ 1000; omega, by show p.2.2.1.length ≤ 1000; omega, ?_⟩⟩))
  show (p.2.2.2.1.set _ _).length ≤ 1000
  rw [List.length_set]; omega
 ·exact Dr.ret ⟨hs2.le (by omega), ⟨⟨by show p.1.length ≤ 1000; omega, hin⟩, by show p.2.1.length ≤ 1000; omega, by show p.2.2.1.length ≤ 1000; omega, by show (List.replicate 9 _).length ≤ 1000; rw [List.length_replicate]; omega⟩⟩
 ·exact Dr.guard g0 (Dr.step (List.getElem?_eq_getElem i0) (Dr.ret ⟨hs2.le (by omega), own0 [] (by simp)⟩))
 ·exact Dr.ret ⟨hs2.le (by omega), ⟨⟨by show p.1.length ≤ 1000; omega, hin⟩, by show (List.replicate 5 _).length ≤ 1000; rw [List.length_replicate]; omega, by show p.2.2.1.length ≤ 1000; omega, by show p.2.2.2.1.length ≤ 1000; omega⟩⟩
 ·exact Dr.ret ⟨hs2.le (by omega), ⟨⟨by show p.1.length ≤ 1000; omega, hin⟩, by show p.2.1.length ≤ 1000; omega, by show p.2.2.1.length ≤ 1000; omega, by show p.2.2.2.1.length ≤ 1000; omega⟩⟩
theorem polLe.up {m n : Nat} {p : PolD} (h : polLe m p) (hmn : m ≤ n) : polLe n p :=
 ⟨⟨Nat.le_trans h.1.1 hmn, fun l hl => Nat.le_trans (h.1.2 l hl) hmn⟩, Nat.le_trans h.2.1 hmn, Nat.le_trans h.2.2.1 hmn, Nat.le_trans h.2.2.2 hmn⟩
theorem with_d {c : List Int} (hc : Byt c) : Dr (F_o (c, ())) fun r => polLe 1048576 r.1.1 := by
 unfold F_o
 exact (source_d hc).bind fun r1 h1 => (bent_d h1 (by omega)).bind fun r2 h2 => (pick_d h2.1 (by omega) _ _).bind fun r3 _ => Dr.ret (h2.2.up (by omega))
def exG (m : List TwoD) : List Int := m.flatMap fun s => List.replicate s.2.1.toNat s.1
def runGo (g : Int) : List Int → Int → Int → Int
 | [], _, w => w
 | x :: r, run, w => if x = g then runGo g r 0 w else runGo g r (run + 1) (if w < run + 1 then run + 1 else w)
theorem runGo_out {g x : Int} (h : x ≠ g) : ∀ (n : Nat) (r : List Int) (run w : Int), runGo g (List.replicate (n + 1) x ++ r) run w = runGo g r (run + ((n : Int) + 1)) (if w < run + ((n : Int) + 1) then run + ((n : Int) + 1) else w)
 | 0, r, run, w => by
  simp [runGo, h]
 | n + 1, r, run, w => by
  rw [List.replicate_succ, List.cons_append, runGo, if_neg h, runGo_out h n]
  have e : run + 1 + ((n : Int) + 1) = run + (((n + 1 : Nat) : Int) + 1) := by omega
  rw [e]
  congr 1
  by_cases c : w < run + 1
  ·rw [if_pos c, if_pos (by omega), if_pos (by omega)]
  ·rw [if_neg c]
theorem runGo_in {g : Int} : ∀ (n : Nat) (r : List Int) (run w : Int), runGo g (List.replicate (n + 1) g ++ r) run w = runGo g r 0 w
 | 0, r, run, w => by simp [runGo]
 | n + 1, r, run, w => by rw [List.replicate_succ, List.cons_append, runGo, if_pos rfl, runGo_in n]
theorem runGo_gap {g : Int} : ∀ {m : List TwoD} (gap now : Int), (∀ s ∈ m, 1 ≤ s.2.1 ∧ s.2.1 ≤ 50) → runGo g (exG m) now gap = gapGo g m gap now
 | [], _, _, _ => rfl
 | s :: r, gap, now, h => by
  have hs := h s (by simp)
  have hr : ∀ q ∈ r, 1 ≤ q.2.1 ∧ q.2.1 ≤ 50 := fun q hq => h q (List.mem_cons_of_mem _ hq)
  obtain ⟨n, hn⟩ : ∃ n : Nat, s.2.1.toNat = n + 1 := ⟨s.2.1.toNat - 1, by omega⟩
  have e : exG (s :: r) = List.replicate (n + 1) s.1 ++ exG r := by unfold exG; rw [List.flatMap_cons, hn]
  have e2 : (n : Int) + 1 = s.2.1 := by omega
  rw [e, gapGo]
  by_cases c : s.1 = g
  ·rw [if_pos c, c, runGo_in, runGo_gap _ _ hr]
  ·rw [if_neg c, runGo_out c, e2, runGo_gap _ _ hr]
theorem exG_len : ∀ {m : List TwoD}, (∀ s ∈ m, 1 ≤ s.2.1 ∧ s.2.1 ≤ 50) → ((exG m).length : Int) = stepsM (-1) m
 | [], _ => rfl
 | s :: r, h => by
  have hs := h s (by simp)
  have ih := exG_len (m := r) fun q hq => h q (List.mem_cons_of_mem _ hq)
  have e : exG (s :: r) = List.replicate s.2.1.toNat s.1 ++ exG r := by unfold exG; rw [List.flatMap_cons]
  rw [e, stepsM_cons, List.length_append, List.length_replicate]
  omega
theorem exG_at : ∀ {m : List TwoD} {k : Nat} {a : Int}, (∀ s ∈ m, 1 ≤ s.2.1 ∧ s.2.1 ≤ 50) → 0 ≤ a → a < stepsM (-1) m →
  k ≤ (turnEnd k m a).1 ∧ ∃ s, m[(turnEnd k m a).1 - k]? = some s ∧ (exG m)[a.toNat]? = some s.1
 | [], k, a, _, h0, h1 => by simp [stepsM] at h1; omega
 | s :: r, k, a, h, h0, h1 => by
  have hs := h s (by simp)
  have hr : ∀ q ∈ r, 1 ≤ q.2.1 ∧ q.2.1 ≤ 50 := fun q hq => h q (List.mem_cons_of_mem _ hq)
  rw [stepsM_cons] at h1
  have e : exG (s :: r) = List.replicate s.2.1.toNat s.1 ++ exG r := by unfold exG; rw [List.flatMap_cons]
  by_cases c : s.2.1 ≤ a
  ·obtain ⟨k1, q, k2, k3⟩ := exG_at (m := r) (k := k + 1) (a := a - s.2.1) hr (by omega) (by omega)
   rw [te_le c]
   refine ⟨by omega, q, ?_, ?_⟩
   ·rw [show (turnEnd (k + 1) r (a - s.2.1)).1 - k = ((turnEnd (k + 1) r (a - s.2.1)).1 - (k + 1)) + 1 by omega, List.getElem?_cons_succ]
    exact k2
   ·rw [e, List.getElem?_append_right (by simp; omega), List.length_replicate, show a.toNat - s.2.1.toNat = (a - s.2.1).toNat by omega]
    exact k3
  ·rw [te_gt c]
   refine ⟨Nat.le_refl _, s, by simp, ?_⟩
   rw [e, List.getElem?_append_left (by simp; omega), List.getElem?_replicate, if_pos (by omega)]
theorem implTurnAt_e {p : PolD} {c : Int} (hp : polM p = 0) (h0 : 0 ≤ c) (h1 : c ≤ 1000000) : ∃ s, p.2.2.2.1[(turnM p c).1.toNat]? = some s ∧ (exG p.2.2.2.1)[(c % stepsM (-1) p.2.2.2.1).toNat]? = some s.1 ∧
  F_ax (p, c, ()) = some (((0, (turnM p c).1, (s.1, (turnM p c).2, ()), ()), ()), ()) := by
 have hok := okPol hp
 obtain ⟨hl, hs⟩ := hok.okPlan
 have hpos := stepsM_pos hs hok.plan.1
 obtain ⟨k1, s, k2, k3⟩ := exG_at (k := 0) (a := c % stepsM (-1) p.2.2.2.1) hs (Int.emod_nonneg _ (by omega)) (Int.emod_lt_of_pos _ (by omega))
 have e1 : (turnM p c).1 = (((turnEnd 0 p.2.2.2.1 (c % stepsM (-1) p.2.2.2.1)).1 : Nat) : Int) := rfl
 have k2' : p.2.2.2.1[(turnM p c).1.toNat]? = some s := by rw [e1, Int.toNat_natCast]; exact k2
 refine ⟨s, k2', k3, ?_⟩
 refine Dr.eq ?_
 unfold F_ax
 refine Dr.step (v := ((0, ()), ())) ?_ ?_
 ·refine Dr.eq ?_
  unfold F_av
  refine Dr.step (implPol_eq p (pol0_le hok)) ?_
  rw [hp]
  refine Dr.pos (by simp) (Dr.step (within_eq2 _ _ _) (Dr.neg ?_ (Dr.ret rfl)))
  rw [inB_t.2 ⟨h0, h1⟩]; simp
 ·refine Dr.neg (by simp) (Dr.step (implTurn_eq p c hok h0) (Dr.guard ?_ (Dr.step k2' (Dr.ret rfl))))
  show 0 ≤ (turnM p c).1
  rw [e1]; omega
theorem gaps_law (c : List Int) (hb : ∀ b ∈ c, 0 ≤ b ∧ b ≤ 255) : Yes (F_az (c, ())) := by
 unfold F_az F_a
 refine Dr.step rfl (Dr.ite (fun _ => yes rfl) fun h0 => ?_)
 have h0 : ¬ (1048576 : Int) < ((c.length : Nat) : Int) := by rw [ltI_t] at h0; exact h0
 refine Dr.bind (Q := fun r => polLe 1048576 r.1.1) ?_ fun r2 h2 => ?_
 ·unfold F_p
  exact (with_d (big_or h0 hb)).bind fun r h => Dr.ret h
 obtain ⟨⟨p, g, _⟩, _⟩ := r2
 have h2 : polLe 1048576 p := h2
 refine Dr.step (implGap_eq p g h2) (Dr.ite (fun _ => ?_) fun hc => ?_)
 ·exact Dr.step (specGap_eq p g h2) (yes (by simp))
 have hc : (gapM p g).1 = 0 := by simpa using hc
 have hgap : askM p g = 0 ∧ stepsM g p.2.2.2.1 ≠ 0 ∧ gapM p g = (0, gapGo g (p.2.2.2.1 ++ p.2.2.2.1) 0 0, ()) := by
  unfold gapM at hc ⊢
  split at hc
  ·rename_i h; exact absurd hc h
  ·rename_i h
   split at hc
   ·cases hc
   ·rename_i h'
    rw [if_neg h, if_neg h']
    exact ⟨by simpa using h, h', rfl⟩
 obtain ⟨ha, hst, hg⟩ := hgap
 obtain ⟨hp, hgi⟩ := ask_inv ha
 have hok := okPol hp
 obtain ⟨hl, hs⟩ := hok.okPlan
 have hpos := stepsM_pos hs hok.plan.1
 have hle := (stepsM_le (g := -1) hs).2
 have hlen := exG_len hs
 rw [hg]
 have er : F_au (p, ()) = some (((0, stepsM (-1) p.2.2.2.1, ()), ()), ()) := by
  refine Dr.eq ?_
  unfold F_au
  refine Dr.step (implPol_eq p (pol0_le hok)) ?_
  rw [hp]
  exact Dr.neg (by simp) (Dr.step (stepsOf_eq p (-1) ⟨hl, hs⟩) (Dr.ret rfl))
 refine Dr.step er ?_
 have hs2 : ∀ s ∈ p.2.2.2.1 ++ p.2.2.2.1, 1 ≤ s.2.1 ∧ s.2.1 ≤ 50 := fun s hm => (List.mem_append.1 hm).elim (hs s) (hs s)
 have hW := runGo_gap (g := g) (m := p.2.2.2.1 ++ p.2.2.2.1) 0 0 hs2
 have e2 : exG (p.2.2.2.1 ++ p.2.2.2.1) = exG p.2.2.2.1 ++ exG p.2.2.2.1 := by unfold exG; rw [List.flatMap_append]
 rw [e2] at hW
 generalize gapGo g (p.2.2.2.1 ++ p.2.2.2.1) 0 0 = W at hW ⊢
 have key : Dr (L_az_11 (((), (g, ((), ((0 : Int), ((0 : Int), (stepsM (-1) p.2.2.2.1, ((0 : Int), ()))))))), ((p, (((0 : Int), (W, ())), ())), ()))) fun o => o = .inl (((), (g, ((), (W, ())))), ((p, (((0 : Int), (W, ())), ())), ())) := by
  refine iter_d (fun m u => ∃ (i : Nat) (run w : Int), (m : Int) + (i : Int) = 2 * stepsM (-1) p.2.2.2.1 ∧ 0 ≤ run ∧ run ≤ (i : Int) ∧ runGo g ((exG p.2.2.2.1 ++ exG p.2.2.2.1).drop i) run w = W ∧
   u = (((), (g, ((), (run, (w, (stepsM (-1) p.2.2.2.1, ((i : Int), ()))))))), ((p, (((0 : Int), (W, ())), ())), ()))) ?_ (2 * stepsM (-1) p.2.2.2.1).toNat _ ⟨0, 0, 0, by omega, by omega, by omega, by simpa using hW, rfl⟩ (by rw [lots_eq]; omega)
  rintro rec m _ ⟨i, run, w, hm, h1, h2, h3, rfl⟩ ih
  unfold l_az_11
  dsimp only
  rw [wrap64 (n := 2 * stepsM (-1) p.2.2.2.1) (by omega) (by omega)]
  by_cases ci : (i : Int) < 2 * stepsM (-1) p.2.2.2.1
  ·rw [if_pos (by rw [ltI_t]; exact ci)]
   obtain ⟨s, t1, t2, t3⟩ := implTurnAt_e (c := (i : Int)) hp (by omega) (by omega)
   have hi : (exG p.2.2.2.1 ++ exG p.2.2.2.1)[i]? = some s.1 := by
    by_cases c1 : (i : Int) < stepsM (-1) p.2.2.2.1
    ·rw [Int.emod_eq_of_lt (by omega) c1, Int.toNat_natCast] at t2
     rw [List.getElem?_append_left (by omega)]
     exact t2
    ·have em : (i : Int) % stepsM (-1) p.2.2.2.1 = (i : Int) - stepsM (-1) p.2.2.2.1 := by
      rw [← Int.sub_emod_right, Int.emod_eq_of_lt (by omega) (by omega)]
     rw [em] at t2
     rw [List.getElem?_append_right (by omega), show i - (exG p.2.2.2.1).length = ((i : Int) - stepsM (-1) p.2.2.2.1).toNat by omega]
     exact t2
   obtain ⟨hil, hie⟩ := List.getElem?_eq_some_iff.1 hi
   rw [List.drop_eq_getElem_cons hil, hie, runGo] at h3
   refine Dr.step t3 ?_
   dsimp only
   rw [wrapS (by omega)]
   by_cases cg : s.1 = g
   ·rw [if_pos cg] at h3
    refine Dr.pos (by simpa using cg) (ih (m - 1) _ (by omega) ⟨i + 1, 0, w, by omega, by omega, by omega, h3, rfl⟩)
   ·rw [if_neg cg] at h3
    refine Dr.neg (by simpa using cg) ?_
    rw [wrap64 (n := run + 1) (by omega) (by omega)]
    by_cases cw : w < run + 1
    ·rw [if_pos cw] at h3
     refine Dr.pos (by rw [ltI_t]; exact cw) (ih (m - 1) _ (by omega) ⟨i + 1, run + 1, run + 1, by omega, by omega, by omega, h3, rfl⟩)
    ·rw [if_neg cw] at h3
     refine Dr.neg (by rw [ltI_t]; exact cw) (ih (m - 1) _ (by omega) ⟨i + 1, run + 1, w, by omega, by omega, by omega, h3, rfl⟩)
  ·rw [if_neg (by rw [ltI_t]; exact ci)]
   rw [List.drop_of_length_le (by rw [List.length_append]; omega)] at h3
   have h3 : w = W := h3
   subst h3
   exact Dr.ret rfl
 refine key.bind fun o ho => ?_
 subst ho
 dsimp only
 refine Dr.pos (by simp) ?_
 have ef : F_ay (p, g, ()) = some (((0, stepsM g p.2.2.2.1, ()), ()), ()) := by
  refine Dr.eq ?_
  unfold F_ay
  refine Dr.step (implAsk_eq p g (pol0_le hok)) ?_
  rw [ha]
  exact Dr.neg (by simp) (Dr.step (stepsOf_eq p g ⟨hl, hs⟩) (Dr.ret rfl))
 refine Dr.step ef (yes ?_)
 dsimp only
 rw [ltI_t]
 have := (stepsM_le (g := g) hs).1
 omega
theorem gaps_F : ∀ x, inRP P_az x → F_az x = some ((true, ()), ()) := by
 rintro ⟨c, _⟩ ⟨hc, _⟩
 exact (gaps_law c fun b hb => by
  have := hc.2 b hb
  have h1 : IntKind.u8.min = 0 := by decide
  have h2 : IntKind.u8.max = 255 := by decide
  simp only [inR, h1, h2] at this
  exact this).eq
end Go.Proofs.Ytilcgnimcdkfiaa
