/- Promises of functions that are walked by hand: slices.Grow at the nil slice, a function that answers a pointer to a new variable. -/
import Derived.Test.YteddlkdbefloaaaSzd
import Derived.Lib.AppendZeros
namespace Go.Proofs.Yteddlkdbefloaaa.S
open Go Go.RowKit
set_option linter.unusedVariables false
set_option linter.unusedSimpArgs false

variable {P : Program} {T : Tab} {w w' : World} {M : Nat → Nat → Prop}

theorem kept_drew_alloc (o : Obj) : Kept M w (w.drew.alloc o) :=
  (Kept.refl M w).step rfl rfl rfl (by show w.heap.size ≤ (w.heap.push o).size; simp) fun b hb => .inl (heap_alloc_old w.drew o b hb)

theorem kept_alloc (o : Obj) : Kept M w (w.alloc o) := (Kept.refl M w).alloc o

theorem not_box {w : World} {ps : List PK} {S Q : Nat → Prop} {B : Nat → Option Pl} {F : List Nat} (hp : Pre M w ps S Q B F) {b : Nat} (hb : w.heap.size ≤ b) (o base : Nat) : B o ≠ some (.box b base) := fun h => by
  have := (hp.box o b base h).2.2.1
  omega

/-- append(nil, make([]T, n)...) at a type of the table. -/
theorem grow_append (hT : tabOk P T = true) {st e it : TypeId} {r q r3 : Row} (hr : look T st = some r) (hty : r.ty = .slice q.ty) (he : r.elem = e) (hq : look T e = some q) (h3 : look T it = some r3) (hi : r3.ty = .int .i64) {n : Nat} (w : World)
    (h0 : 0 < n) (hb : n * q.bytes ≤ 140737488355328) (hby : 0 < q.bytes) : ∃ c, c.size = grownCap w n 0 e * sz q.ty ∧ ∀ ty, (Builtin.append_ #[st, it] ty #[.slice none 0 0, .int .i64 (n : Int)]).run P w =
      .ok (.slice (some ⟨w.heap.size, 0, none⟩) n (grownCap w n 0 e)) (w.drew.alloc (.cells c e)) := by
  subst he
  obtain ⟨i, d, z, hrow⟩ := tab_row hT hr
  obtain ⟨rfl, q', hq', hqt, hpos⟩ := hrow.slice hty
  obtain ⟨i2, d2, z2, hrow2⟩ := tab_row hT hq
  obtain ⟨i3, d3, z3, hrow3⟩ := tab_row hT h3
  have hd3 : d3 = .int .i64 := by
    have := hrow3.desc
    unfold descOk at this
    rw [hi] at this
    cases d3 <;> first | (simp at this; done) | (have e := of_decide_eq_true this; subst e; rfl)
  subst hd3
  have hzs : z2.cells.size = sz q.ty := by have := Rp_len (zD_Rp (w := w) (S := fun _ => True) hrow2.zcells); simpa using this
  have hle : n ≤ n * q.bytes := Nat.le_mul_of_pos_right n hby
  have hge : n ≤ grownCap w n 0 r.elem := grownCap_ge w _ _ _
  refine ⟨Builtin.zeroCells z2.cells n ++ Builtin.zeroCells z2.cells (grownCap w n 0 r.elem - n), ?_, fun ty => Lib.run_append_nil_zeros w st it ty r.elem i2 z2 .i64 .i64 hrow.under hrow3.under hrow2.info hrow2.zero n h0 (by rw [hrow2.size]; exact hpos) (by omega) (by rw [hrow2.bytes]; omega)⟩
  rw [Array.size_append, size_zeroCells, size_zeroCells, hzs, ← Nat.add_mul]
  congr 1
  omega

/-- What slices.Grow gives for the nil slice. -/
def growF (t : Ty) (by_ : Nat) (e : TypeId) (x : denP [.val (.slice t), .val (.int .i64)]) : Option (denV [.s (.own e t)] × denQ [.val (.slice t), .val (.int .i64)]) :=
  if (0 : Int) ≤ x.2.1 ∧ x.2.1 * (by_ : Int) ≤ 140737488355328 then some (([], ()), ()) else none

theorem grow_sound {f : FuncId} {t : Ty} {by_ : Nat} {e : TypeId} (hby : 0 < by_)
    (hw : ∀ (n : Nat) (w : World), 0 < n → n * by_ ≤ 140737488355328 → Calls P f #[.slice none 0 0, .int .i64 n] w fun r w' => r = .returned (.slice (some ⟨w.heap.size, 0, none⟩) 0 (grownCap w n 0 e)) ∧
      ∃ c, w' = w.drew.alloc (.cells c e) ∧ c.size = grownCap w n 0 e * sz t)
    (h0 : ∀ (w : World), Calls P f #[.slice none 0 0, .int .i64 0] w fun r w' => r = .returned (.slice none 0 0) ∧ w' = w) :
    Sound P f ⟨[.val (.slice t), .val (.int .i64)], [.s (.own e t)], growF t by_ e, true⟩ := by
  intro x y hx w args S Q B M F hp ha hnl
  simp only [growF] at hx
  split at hx
  · rename_i hc
    obtain rfl := Option.some.inj hx
    obtain ⟨v0, vs0, rfl, _, v1, vs1, rfl, ⟨cs1, hv1, hr1⟩, rfl, rfl⟩ := ha
    obtain ⟨r, hr⟩ := hnl
    simp only [List.cons.injEq] at hr
    obtain ⟨rfl, _⟩ := hr
    have e1 : v1 = .int .i64 x.2.1 := by
      have h1 : cs1 = [v1] := hv1
      have h2 : cs1 = [.int .i64 x.2.1] := hr1
      rw [h1] at h2
      simpa using h2
    subst e1
    obtain ⟨n, hn⟩ : ∃ n : Nat, x.2.1 = (n : Int) := ⟨(x.2.1 : Int).toNat, (Int.toNat_of_nonneg hc.1).symm⟩
    have hb : n * by_ ≤ 140737488355328 := by
      have : ((n * by_ : Nat) : Int) ≤ 140737488355328 := by rw [Int.natCast_mul, ← hn]; exact hc.2
      exact Int.ofNat_le.1 this
    rw [hn]
    by_cases hz : n = 0
    · subst hz
      refine (h0 w).mono fun r w' h => ?_
      obtain ⟨rfl, rfl⟩ := h
      refine ⟨_, rfl, Kept.refl M _, [.slice none 0 0], [], [], rfl, ⟨_, [], [], [], rfl, rfl, ⟨none, .inl ⟨rfl, rfl⟩, ⟨rfl, rfl⟩, rfl⟩, rfl, rfl⟩, ⟨_, _, rfl, _, _, rfl, rfl, rfl⟩, by simp, by simp⟩
    · refine (hw n w (by omega) hb).mono fun r w' h => ?_
      obtain ⟨rfl, c, rfl, hcs⟩ := h
      have hle : n ≤ by_ * n := Nat.le_mul_of_pos_left n hby
      have hcap : grownCap w n 0 e ≤ maxLen := grownCap_le_maxLen w n 0 e (by rw [Nat.mul_comm] at hb; unfold maxLen; omega)
      have hnew : (w.drew.alloc (.cells c e)).heap[w.heap.size]? = some (.cells c e (0, 0)) := heap_new w.drew _
      refine ⟨_, rfl, kept_drew_alloc _, [.slice (some ⟨w.heap.size, 0, none⟩) 0 (grownCap w n 0 e)], [w.heap.size], [], rfl, ⟨_, [], [w.heap.size], [], rfl, rfl, ⟨some (w.heap.size, grownCap w n 0 e), .inr ⟨_, _, c, [], rfl, hnew, hcs, Nat.zero_le _, hcap, rfl, fun i hi => by simp at hi⟩, rfl, rfl⟩, rfl, rfl⟩,
        ⟨_, _, rfl, _, _, rfl, rfl, rfl⟩, by simp, fun b hb => ?_⟩
      simp only [List.append_nil, List.mem_singleton] at hb
      subst hb
      exact ⟨fun i => hp.fresh _ (Nat.le_refl _) i, (Array.getElem?_eq_some_iff.1 hnew).1, fun o base => not_box hp (Nat.le_refl _) o base⟩
  · cases hx

/-- A function that answers a pointer to a new variable, a struct of the argument and of zeros. -/
theorem src_sound {f : FuncId} {t : TypeId} (hw : ∀ (A : Option Addr) (n cap : Nat) (w : World), Calls P f #[.slice A n cap] w fun r w' => r = .returned (.pointer (some ⟨w.heap.size, 0, none⟩)) ∧ w' = w.alloc (.cells #[.slice A n cap, .int .i64 0] t)) :
    Sound P f ⟨[.val (.slice (.int .u8))], [.s (.bx (.pair (.slice (.int .u8)) (.pair (.int .i64) .unit)))], fun x => some (((x.1, (0 : Int), ()), ()), ()), false⟩ := by
  intro x y hx w args S Q B M F hp ha _
  obtain rfl := Option.some.inj hx
  obtain ⟨v0, vs0, rfl, ⟨cs, hv, hr⟩, rfl, rfl⟩ := ha
  have h1 : cs = [v0] := hv
  subst h1
  obtain ⟨A, cap, e1, hcap, hA⟩ := hr
  have e2 : v0 = .slice A x.1.length cap := by simpa using e1
  subst e2
  refine (hw A x.1.length cap w).mono fun r w' h => ?_
  obtain ⟨rfl, rfl⟩ := h
  have hnew : (w.alloc (.cells #[.slice A x.1.length cap, .int .i64 0] t)).heap[w.heap.size]? = some (.cells #[.slice A x.1.length cap, .int .i64 0] t (0, 0)) := heap_new w _
  have hrp : Rp w S (.slice (.int .u8)) x.1 [.slice A x.1.length cap] := ⟨A, cap, rfl, hcap, hA⟩
  have hrp' : Rp (w.alloc (.cells #[.slice A x.1.length cap, .int .i64 0] t)) (after S M B ([w.heap.size] ++ [])) (.slice (.int .u8)) x.1 [.slice A x.1.length cap] :=
    Rp_keep (fun b hb hS => ⟨⟨.inl hS, by simp; omega, (hp.data b hb hS).2⟩, heap_alloc_old w _ b hb⟩) hrp
  refine ⟨_, rfl, kept_alloc _, [.pointer (some ⟨w.heap.size, 0, none⟩)], [w.heap.size], [], rfl, ⟨_, [], [w.heap.size], [], rfl, rfl, ⟨w.heap.size, _, t, _, rfl, hnew, rfl, ⟨[_], [_], rfl, hrp', ⟨[_], [], rfl, rfl, rfl⟩⟩, rfl⟩, rfl, rfl⟩,
    ⟨_, _, rfl, rfl, rfl⟩, by simp, fun b hb => ?_⟩
  simp only [List.append_nil, List.mem_singleton] at hb
  subst hb
  exact ⟨fun i => hp.fresh _ (Nat.le_refl _) i, (Array.getElem?_eq_some_iff.1 hnew).1, fun o base => not_box hp (Nat.le_refl _) o base⟩

end Go.Proofs.Yteddlkdbefloaaa.S
