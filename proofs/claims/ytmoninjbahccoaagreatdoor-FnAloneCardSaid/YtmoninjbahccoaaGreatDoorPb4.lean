/- Plain laws: what the functions compute, and that both programs compute the same. -/
import Derived.Test.YtmoninjbahccoaaGreatDoorPb3
namespace Go.Proofs.YtmoninjbahccoaaGreatDoor
open Go Go.RowKit S Go.Proofs
set_option maxRecDepth 100000
set_option linter.unusedVariables false
set_option linter.unusedSimpArgs false
theorem QnB {p : PolD} {I J : List (List Int)} (hp : polM p = 0) (hI : Fit p I) (hJ : FitQ p J) : F_bg (p, I, J, ()) = some (((0, boxH (Qhp p I J)), ()), ()) := by
 have hok := Qeo hp
 have h3 := hok.own
 obtain ⟨hJ1, hJ2⟩ := hJ
 have hpl : 0 < p.2.2.2.1.length := by have := hok.plan; omega
 refine Dr.eq ?_
 unfold F_bg
 refine Dr.step (QkY hp hI) (Dr.neg (by simp) (Dr.neg (by rw [hJ1]; simp) (Dr.step (Qfs hok) ?_)))
 refine Dr.step (v := p.2.2.2.1.getD 0 (0, 0, ())) (Qcp (l := p.2.2.2.1) (k := 0) _ hpl) ?_
 dsimp only
 have key : ∀ (Z : Int × QlE) (M : List Int) (t : Int), L_bg_8 (((), ((), (J, (((J.length : Nat) : Int), ((0 : Int), ()))))), ((Z, (((p.1, (p.2.1, (p.2.2.1, (p.2.2.2.1, (M, (([] : List QZ), ((0 : Int), (t, ((0 : Int), ()))))))))) : QlE), ())), ())) =
   some (.inl (((), ((), ())), ((Z, (((p.1, (p.2.1, (p.2.2.1, (p.2.2.2.1, (M, (J.map Qen, ((0 : Int), (t, ((0 : Int), ()))))))))) : QlE), ())), ()))) := by
  intro Z M t
  refine Dr.eq ?_
  refine QaK (fun k u => ∃ i : Nat, u = (((), ((), (J, (((J.length : Nat) : Int), ((i : Int), ()))))), ((Z, (((p.1, (p.2.1, (p.2.2.1, (p.2.2.2.1, (M, ((J.take i).map Qen, ((0 : Int), (t, ((0 : Int), ()))))))))) : QlE), ())), ())) ∧ k + i = J.length) ?_ J.length _ ⟨0, rfl, by omega⟩ (by rw [Qac]; omega)
  rintro rec k _ ⟨i, rfl, hk⟩ ih
  unfold l_bg_8
  dsimp only
  by_cases c : i < J.length
  ·rw [if_pos (lt_t c), if_pos nat0, Qx c, QjT (hJ2 _ (List.getElem_mem c)), Obn]
   refine Dr.neg (by simp) (Dr.guard (by simp; omega) ?_)
   rw [Qai (by omega)]
   refine ih (k - 1) _ (by omega) ⟨i + 1, ?_, by omega⟩
   rw [Qhi c, List.map_append]
   rfl
  ·rw [if_neg (lt_f c), List.take_of_length_le (by omega)]
   exact Dr.ret rfl
 exact Dr.step (key _ _ _) (Dr.ret rfl)
theorem Qlc {p : PolD} {g : Int} {im q : List Int} (hp : polM p = 0) (hg : isG p g = true) (hl : im.length ≤ 8 * (ownL p g).length) (hq : OkQ q) : F_bo (p, g, im, q, ()) = some (((0, sB (Qpe p g im q)), ()), ()) := by
 have hok := Qeo hp
 have hgi := Qby.1 hg
 have h5 := (Qbo hok hg).2
 have hgn : g.toNat < p.1.length := by omega
 refine Dr.eq ?_
 unfold F_bo
 refine Dr.step (Qnz p g (QhM hok)) (Dr.neg (by rw [QlP hp hg]; simp) (Dr.guard hgi.1 (Dr.step (v := ownL p g) (Qcp (l := p.1) (k := g.toNat) _ hgn) ?_)))
 dsimp only
 rw [Qr (n := (((ownL p g).length : Nat) : Int) * 8) (by omega) (by omega)]
 refine Dr.neg (by rw [QO]; omega) (Dr.step (QjT hq) (Dr.neg (by simp) ?_))
 have key : ∀ (Z : Int × Qtk) (R : Int × QZ), L_bo_11 ((g, ((), ((), ((), ((List.replicate ((64 : Int)).toNat (QbB (.int .i64))), (im, (((im.length : Nat) : Int), ((0 : Int), ())))))))), ((p, (Z, (R, ()))), ())) = some (.inl ((g, ((), ((), ((), (imgS 0 im (List.replicate 64 0), ()))))), ((p, (Z, (R, ()))), ()))) := by
  intro Z R
  refine Dr.eq ?_
  refine QaK (fun k u => ∃ (i : Nat) (m' : List Int), u = ((g, ((), ((), ((), (m', (im, (((im.length : Nat) : Int), ((i : Int), ())))))))), ((p, (Z, (R, ()))), ())) ∧ k + i = im.length ∧ m'.length = 64 ∧ imgS i (im.drop i) m' = imgS 0 im (List.replicate 64 0)) ?_ im.length _ ⟨0, _, rfl, by omega, by simp, rfl⟩ (by rw [Qac]; omega)
  rintro rec k _ ⟨i, m', rfl, hk, hm', he⟩ ih
  unfold l_bo_11
  dsimp only
  by_cases c : i < im.length
  ·rw [if_pos (lt_t c), if_pos nat0, Qx c, QcV, Obn, Qai (by omega)]
   refine Dr.gat hm' (by omega) fun _ _ => ih (k - 1) _ (by omega) ⟨i + 1, _, rfl, by omega, by simpa using hm', ?_⟩
   rw [← he, List.drop_eq_getElem_cons c, imgS]
   rfl
  ·rw [if_neg (lt_f c)]
   rw [List.drop_of_length_le (by omega)] at he
   exact Dr.ret (by rw [← he]; rfl)
 exact Dr.step (key _ _) (Dr.step (Qml hok hg) (Dr.ret rfl))
theorem Qog {v : Qel} (h : Qly maxLen (vD v)) : QgD v v = true := by
 obtain ⟨v1, v2, v3, v4, v5, v6, v7, v8, v9, v10, v11, _⟩ := v
 obtain ⟨⟨h1, h2, h3, h4⟩, h5, h6⟩ := h
 unfold vD at h1 h2 h3 h4 h5 h6
 dsimp only at h1 h2 h3 h4 h5 h6
 have e : F_cl (vD (v1, v2, v3, v4, v5, v6, v7, v8, v9, v10, v11, ()), vD (v1, v2, v3, v4, v5, v6, v7, v8, v9, v10, v11, ()), ()) = some ((true, ()), ()) := by
  unfold F_cl F_ck vD
  dsimp only
  rw [Qaj (v1, v1, ()) h1, Qaj (v3, v3, ()) h2, Qaj (v8, v8, ()) h3, Qaj (v9, v9, ()) h4, Qaj (v10, v10, ()) h5, Qaj (v11, v11, ()) h6]
  simp
 unfold QgD
 rw [e]
theorem Rl.alike {x : Qw} {s : QT} {g : Int} (h : Rl x s g) : QfJ (QbU x g) (Qeq x.1 s g) = true := by
 unfold QfJ
 rw [h.views]
 exact Qog (Qni h.hk h.hg)
theorem Qpb {g : Int} : ∀ (n : Nat) (k : Int) (x : Qw) (s : QT), Rl x s g → x.2.2.2.2.2.1 + (n : Int) ≤ 1000000 → sdGo g n k x s = (0, 0, true, ())
 | 0, k, x, s, h, _ => by rw [sdGo, if_pos h.alike]
 | n + 1, k, x, s, h, hc => by
  rw [sdGo, if_pos h.alike]
  exact Qpb n (k + 1) _ _ (h.next (by omega)) (by show x.2.2.2.2.2.1 + 1 + (n : Int) ≤ 1000000; omega)
theorem QrP {g n : Int} {x : Qw} {s : QT} (h : Rl x s g) (hn : 0 ≤ n ∧ n ≤ 200) (hc : x.2.2.2.2.2.1 + n ≤ 1000000) : sdM x s g n = (0, 0, true, ()) := by
 have h0 := h.hk.clock
 unfold sdM
 rw [if_neg (by rw [h.hk.to]; simp), if_neg (by rw [h.hs]; simp), if_pos h.hg, if_pos, Qpb n.toNat 0 x s h (by omega)]
 unfold Qcg
 rw [Qci.2 hn, Qr (by omega) (by omega), QbK.2 hc]
 rfl
theorem byt3 {c : List Int} (h : ¬ (1048576 : Int) < ((c.length : Nat) : Int)) (hb : ∀ b ∈ c, 0 ≤ b ∧ b ≤ 255) : Byt ([3] ++ c) := ⟨fun b hm => by
 rcases List.mem_append.1 hm with hm | hm
 ·rw [List.mem_singleton.1 hm]; omega
 ·exact hb b hm, by simp; omega⟩
theorem Qpr (c : List Int) (hb : ∀ b ∈ c, 0 ≤ b ∧ b ≤ 255) : Yes (F_ed (c, ())) := by
 unfold F_ed F_a
 refine Dr.step rfl (Dr.ite (fun _ => yes rfl) fun h0 => ?_)
 have h0 : ¬ (1048576 : Int) < ((c.length : Nat) : Int) := by rw [QO] at h0; exact h0
 refine (QnP (QtB h0 hb) (byt3 h0 hb)).bind fun r2 h2 => ?_
 obtain ⟨⟨p, I, J, _⟩, _⟩ := r2
 obtain ⟨hp, hI, hJ⟩ := h2
 have hp : polM p = 0 := hp
 have hI : Fit p I := hI
 have hJ : FitQ p J := hJ
 have hok := Qeo hp
 have h3 := hok.own
 have hk := QlR (I := I) hp hJ.1 hJ.2
 refine Dr.step (QnB hp hI hJ) (Dr.pos (by simp) ?_)
 have hlen : (Qhp p I J).2.2.1.length = p.1.length := hk.len
 refine Dr.neg (by
  show ¬ ((((Qhp p I J).2.2.1.length : Nat) : Int) == 0) = true
  rw [hlen, beq_iff_eq]; omega) ?_
 have key : Dr (L_ed_8 (((), (I, (J, ((), ((0 : Int), ()))))), ((p, (((0 : Int), boxH (Qhp p I J)), ())), ()))) fun o => o = .inl ((), ((), ())) := by
  refine QaK (fun m u => ∃ i : Nat, u = (((), (I, (J, ((), ((i : Int), ()))))), ((p, (((0 : Int), boxH (Qhp p I J)), ())), ())) ∧ m + i = p.1.length) ?_ p.1.length _ ⟨0, rfl, by omega⟩ (by rw [Qac]; omega)
  rintro rec m _ ⟨i, rfl, hm⟩ ih
  unfold l_ed_8
  dsimp only
  by_cases c : i < p.1.length
  ·have ci : i < I.length := by rw [hI.1]; exact c
   have cj : i < J.length := by rw [hJ.1]; exact c
   have hg : isG p (i : Int) = true := Qby.2 (by omega)
   have eo : ownL p (i : Int) = p.1[i] := gget c
   have hs := Qlc hp hg (im := I[i]) (q := J[i]) (by rw [eo]; exact hI.2 i c ci) (hJ.2 _ (List.getElem_mem cj))
   have hr := QsT hp hg hI.1 hJ.1 hJ.2 hI.2
   rw [show I.getD ((i : Int)).toNat [] = I[i] from gget ci, show J.getD ((i : Int)).toNat [] = J[i] from gget cj] at hr
   have hd := Qrg (Qhp p I J) (Qpe p (i : Int) I[i] J[i]) (i : Int) 60 hk.le (QiS hr.hs)
   rw [QrP hr (by omega) (by show (0 : Int) + 60 ≤ 1000000; omega)] at hd
   rw [if_pos (lt_t c), if_pos nat0, Qx ci, if_pos nat0, Qx cj]
   refine Dr.step hs (Dr.step hd ?_)
   refine Dr.pos (by simp) (Dr.pos (by simp) (Dr.neg (by simp) ?_))
   rw [Qai (by omega)]
   exact ih (m - 1) _ (by omega) ⟨i + 1, rfl, by omega⟩
  ·rw [if_neg (lt_f c)]
   exact Dr.ret rfl
 refine key.bind fun o ho => ?_
 subst ho
 exact yes rfl
theorem Qsn : ∀ x, inRP P_a x → F_ed x = some ((true, ()), ()) := by
 rintro ⟨c, _⟩ ⟨hc, _⟩
 exact (Qpr c fun b hb => by
  have := hc.2 b hb
  have h1 : IntKind.u8.min = 0 := by decide
  have h2 : IntKind.u8.max = 255 := by decide
  simp only [inR, h1, h2] at this
  exact this).eq
theorem HK.pgs {x : Qw} (h : HK x) {g : Int} (hg : isG x.1 g = true) : ∀ q ∈ pgM x.1 g, 0 ≤ q.1 → 8 * q.1 + 8 ≤ (x.2.1.length : Int) := fun q hq _ => by
 have := Qlo h.ok hg q hq
 rw [h.mem.2]
 omega
end Go.Proofs.YtmoninjbahccoaaGreatDoor
