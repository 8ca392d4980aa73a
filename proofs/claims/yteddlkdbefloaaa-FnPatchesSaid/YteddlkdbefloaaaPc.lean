/- Plain laws of the functions that SameViews reaches. -/
import Derived.Test.YteddlkdbefloaaaPa
import Derived.Test.YteddlkdbefloaaaGb
namespace Go.Proofs.Yteddlkdbefloaaa
open Go Go.RowKit S Go.Proofs
set_option maxRecDepth 100000
set_option linter.unusedVariables false
set_option linter.unusedSimpArgs false

theorem specSame_loop (m m2 : List Int) (i : Int) (h0 : 0 ≤ i) (h1 : i ≤ (m.length : Int)) (h2 : m2.length = m.length) (h3 : m.length ≤ maxLen) :
    L_spec_l13Same_4 ((m, m2, i, ()), (), ()) = some (if m.drop i.toNat = m2.drop i.toNat then .inl ((), (), ()) else .inr (.inl ((false, ()), (), ()))) := by
  refine iter_map (γ := denO o_spec_l13Same_4) (step := l_spec_l13Same_4) (β := Int) (fun i => ((m, m2, i, ()), (), ())) (fun i => 0 ≤ i ∧ i ≤ (m.length : Int)) (fun i => some (if m.drop i.toNat = m2.drop i.toNat then .inl ((), (), ()) else .inr (.inl ((false, ()), (), ()))))
    (fun i => (m.length - i).toNat) ?_ lots _ ⟨h0, h1⟩ (by rw [maxLen_eq] at h3; rw [lots_eq]; omega)
  rintro rec i ⟨h0, h1⟩ ih
  simp only at h0 h1 ih ⊢
  unfold l_spec_l13Same_4
  simp only [ltI_eq, decide_eq_true_eq]
  by_cases hlt : i < (m.length : Int)
  · obtain ⟨y, hy, _, hd⟩ := at_lt h0 hlt
    obtain ⟨z, hz, _, hd2⟩ := at_lt (m := m2) h0 (by omega)
    rw [if_pos hlt, if_pos h0, hy, Option.bind_some, if_pos h0, hz, Option.bind_some, step64 h0 hlt h3, hd, hd2]
    by_cases e : y = z
    · subst e
      rw [if_neg (by simp), ih _ ⟨by omega, by omega⟩ (by omega)]
      simp
    · rw [if_pos (by simpa using e)]
      simp [e]
  · rw [if_neg hlt, drop_end hlt, drop_end (by omega)]
    simp

theorem specSame_eq (x : denP P_spec_l13Same) (h : x.1.length ≤ maxLen) : F_spec_l13Same x = some ((decide (x.1 = x.2.1), ()), ()) := by
  obtain ⟨m, m2, _⟩ := x
  unfold F_spec_l13Same
  simp only at h ⊢
  by_cases e : m.length = m2.length
  · have e' : ((m.length : Nat) : Int) = (m2.length : Nat) := by omega
    rw [if_neg (by simp; exact e'), specSame_loop m m2 0 (by simp) (by simp) e.symm h]
    simp only [Int.toNat_zero, List.drop_zero]
    by_cases e2 : m = m2
    · simp [e2]
    · simp [e2]
  · have e' : ¬ ((m.length : Nat) : Int) = (m2.length : Nat) := by omega
    rw [if_pos (by simp; exact e')]
    have : m ≠ m2 := fun e2 => e (by rw [e2])
    simp [this]

theorem implSame_loop (m m2 : List Int) (i : Int) (h0 : 0 ≤ i) (h1 : i ≤ (m.length : Int)) (h2 : m2.length = m.length) (h3 : m.length ≤ maxLen) :
    L_slices_Equal_int64_4 ((m, m2, ((m.length : Nat) : Int), i, ()), (), ()) = some (if m.drop i.toNat = m2.drop i.toNat then .inl ((), (), ()) else .inr (.inl ((false, ()), (), ()))) := by
  refine iter_map (γ := denO o_slices_Equal_int64_4) (step := l_slices_Equal_int64_4) (β := Int) (fun i => ((m, m2, ((m.length : Nat) : Int), i, ()), (), ())) (fun i => 0 ≤ i ∧ i ≤ (m.length : Int)) (fun i => some (if m.drop i.toNat = m2.drop i.toNat then .inl ((), (), ()) else .inr (.inl ((false, ()), (), ()))))
    (fun i => (m.length - i).toNat) ?_ lots _ ⟨h0, h1⟩ (by rw [maxLen_eq] at h3; rw [lots_eq]; omega)
  rintro rec i ⟨h0, h1⟩ ih
  simp only at h0 h1 ih ⊢
  unfold l_slices_Equal_int64_4
  simp only [ltI_eq, decide_eq_true_eq]
  by_cases hlt : i < (m.length : Int)
  · obtain ⟨y, hy, _, hd⟩ := at_lt h0 hlt
    obtain ⟨z, hz, _, hd2⟩ := at_lt (m := m2) h0 (by omega)
    rw [if_pos hlt, if_pos h0, hy, Option.bind_some, if_pos h0, hz, Option.bind_some, step64 h0 hlt h3, hd, hd2]
    by_cases e : y = z
    · subst e
      rw [if_neg (by simp), ih _ ⟨by omega, by omega⟩ (by omega)]
      simp
    · rw [if_pos (by simpa using e)]
      simp [e]
  · rw [if_neg hlt, drop_end hlt, drop_end (by omega)]
    simp

theorem implSame_eq (x : denP P_slices_Equal_int64) (h : x.1.length ≤ maxLen) : F_slices_Equal_int64 x = some ((decide (x.1 = x.2.1), ()), ()) := by
  obtain ⟨m, m2, _⟩ := x
  unfold F_slices_Equal_int64
  simp only at h ⊢
  by_cases e : m.length = m2.length
  · have e' : ((m.length : Nat) : Int) = (m2.length : Nat) := by omega
    rw [if_neg (by simp; exact e'), implSame_loop m m2 0 (by simp) (by simp) e.symm h]
    simp only [Int.toNat_zero, List.drop_zero]
    by_cases e2 : m = m2
    · simp [e2]
    · simp [e2]
  · have e' : ¬ ((m.length : Nat) : Int) = (m2.length : Nat) := by omega
    rw [if_pos (by simp; exact e')]
    have : m ≠ m2 := fun e2 => e (by rw [e2])
    simp [this]

/-! harts and views -/
abbrev HartD := den (.pair (.slice (.int .i64)) (.pair (.int .i64) (.pair (.slice (.int .i64)) (.pair .bool (.pair .bool (.pair .bool (.pair (.int .i64) (.pair (.slice (.int .i64)) (.pair (.slice (.int .i64)) .unit)))))))))
abbrev ViewD := HartD × List Int × List Int × Unit

/-- No list of it is longer. -/
def hartLe (n : Nat) (h : HartD) : Prop := h.1.length ≤ n ∧ h.2.2.1.length ≤ n ∧ h.2.2.2.2.2.2.2.1.length ≤ n ∧ h.2.2.2.2.2.2.2.2.1.length ≤ n
def viewLe (n : Nat) (v : ViewD) : Prop := hartLe n v.1 ∧ v.2.1.length ≤ n ∧ v.2.2.1.length ≤ n

theorem harts_eq (x : denP P_spec_l13Harts) (h : hartLe maxLen x.1) : ∃ b, F_spec_l13Harts x = some ((b, ()), ()) ∧ F_impl_sameHarts x = some ((b, ()), ()) := by
  obtain ⟨h1, h2, h3, h4⟩ := h
  unfold F_spec_l13Harts F_impl_sameHarts
  rw [specSame_eq (x.1.1, x.2.1.1, ()) h1, specSame_eq (x.1.2.2.1, x.2.1.2.2.1, ()) h2, specSame_eq (x.1.2.2.2.2.2.2.2.1, x.2.1.2.2.2.2.2.2.2.1, ()) h3, specSame_eq (x.1.2.2.2.2.2.2.2.2.1, x.2.1.2.2.2.2.2.2.2.2.1, ()) h4]
  rw [implSame_eq (x.1.1, x.2.1.1, ()) h1, implSame_eq (x.1.2.2.1, x.2.1.2.2.1, ()) h2, implSame_eq (x.1.2.2.2.2.2.2.2.1, x.2.1.2.2.2.2.2.2.2.1, ()) h3, implSame_eq (x.1.2.2.2.2.2.2.2.2.1, x.2.1.2.2.2.2.2.2.2.2.1, ()) h4]
  simp only [Option.bind_some]
  repeat' split
  all_goals exact ⟨_, rfl, rfl⟩

theorem views_eq (x : denP P_spec_SameViews) (h : viewLe maxLen x.1) : ∃ b, F_spec_SameViews x = some ((b, ()), ()) ∧ F_impl_SameViews x = some ((b, ()), ()) := by
  obtain ⟨h1, h2, h3⟩ := h
  obtain ⟨b, e1, e2⟩ := harts_eq (x.1.1, x.2.1.1, ()) h1
  unfold F_spec_SameViews F_impl_SameViews
  rw [e1, e2, specSame_eq (x.1.2.1, x.2.1.2.1, ()) h2, specSame_eq (x.1.2.2.1, x.2.1.2.2.1, ()) h3, implSame_eq (x.1.2.1, x.2.1.2.1, ()) h2, implSame_eq (x.1.2.2.1, x.2.1.2.2.1, ()) h3]
  simp only [Option.bind_some]
  repeat' split
  all_goals exact ⟨_, rfl, rfl⟩

theorem szInt_eq (m : List Int) (n : Int) (h0 : 0 ≤ n) (h1 : n ≤ 1048576) (h2 : m.length ≤ maxLen) : ∃ r : Int, F_laws_szInt64S (m, n, ()) = some ((r, ()), ()) ∧ (r < 0 ∨ (0 ≤ r ∧ r ≤ n ∧ m.length ≤ 1048576)) := by
  unfold F_laws_szInt64S
  have hw : IntKind.i64.wrap (n - (m.length : Int)) = n - (m.length : Int) := by
    rw [maxLen_eq] at h2
    exact wrap64 (by omega) (by omega)
  simp only [ltI_eq, decide_eq_true_eq]
  by_cases hlt : n - (m.length : Int) < 0
  · exact ⟨-1, by rw [if_pos (show IntKind.i64.wrap (n - (m.length : Int)) < 0 by rw [hw]; exact hlt)], .inl (by omega)⟩
  · exact ⟨n - (m.length : Int), by rw [if_neg (show ¬ IntKind.i64.wrap (n - (m.length : Int)) < 0 by rw [hw]; exact hlt), hw], .inr ⟨by omega, by omega, by omega⟩⟩

theorem szHart_eq (h : HartD) (n : Int) (h0 : 0 ≤ n) (h1 : n ≤ 1048576) (h2 : hartLe maxLen h) : ∃ r : Int, F_laws_szHart (h, n, ()) = some ((r, ()), ()) ∧ (r < 0 ∨ (0 ≤ r ∧ r ≤ n ∧ hartLe 1048576 h)) := by
  obtain ⟨a1, a2, a3, a4⟩ := h2
  unfold F_laws_szHart
  simp only [ltI_eq, decide_eq_true_eq]
  obtain ⟨r1, e1, c1⟩ := szInt_eq h.1 n h0 h1 a1
  rw [e1, Option.bind_some]
  by_cases d1 : r1 < 0
  · exact ⟨-1, by rw [if_pos d1], .inl (by omega)⟩
  rw [if_neg d1]
  have c1 := c1.resolve_left d1
  obtain ⟨r2, e2, c2⟩ := szInt_eq h.2.2.1 r1 (by omega) (by omega) a2
  rw [e2, Option.bind_some]
  by_cases d2 : r2 < 0
  · exact ⟨-1, by rw [if_pos d2], .inl (by omega)⟩
  rw [if_neg d2]
  have c2 := c2.resolve_left d2
  obtain ⟨r3, e3, c3⟩ := szInt_eq h.2.2.2.2.2.2.2.1 r2 (by omega) (by omega) a3
  rw [e3, Option.bind_some]
  by_cases d3 : r3 < 0
  · exact ⟨-1, by rw [if_pos d3], .inl (by omega)⟩
  rw [if_neg d3]
  have c3 := c3.resolve_left d3
  obtain ⟨r4, e4, c4⟩ := szInt_eq h.2.2.2.2.2.2.2.2.1 r3 (by omega) (by omega) a4
  rw [e4, Option.bind_some]
  by_cases d4 : r4 < 0
  · exact ⟨-1, by rw [if_pos d4], .inl (by omega)⟩
  rw [if_neg d4]
  have c4 := c4.resolve_left d4
  exact ⟨r4, rfl, .inr ⟨by omega, by omega, c1.2.2, c2.2.2, c3.2.2, c4.2.2⟩⟩

theorem szView_eq (v : ViewD) (n : Int) (h0 : 0 ≤ n) (h1 : n ≤ 1048576) (h2 : viewLe maxLen v) : ∃ r : Int, F_laws_szView (v, n, ()) = some ((r, ()), ()) ∧ (r < 0 ∨ (0 ≤ r ∧ r ≤ n ∧ viewLe 1048576 v)) := by
  obtain ⟨a1, a2, a3⟩ := h2
  unfold F_laws_szView
  simp only [ltI_eq, decide_eq_true_eq]
  obtain ⟨r1, e1, c1⟩ := szHart_eq v.1 n h0 h1 a1
  rw [e1, Option.bind_some]
  by_cases d1 : r1 < 0
  · exact ⟨-1, by rw [if_pos d1], .inl (by omega)⟩
  rw [if_neg d1]
  have c1 := c1.resolve_left d1
  obtain ⟨r2, e2, c2⟩ := szInt_eq v.2.1 r1 (by omega) (by omega) a2
  rw [e2, Option.bind_some]
  by_cases d2 : r2 < 0
  · exact ⟨-1, by rw [if_pos d2], .inl (by omega)⟩
  rw [if_neg d2]
  have c2 := c2.resolve_left d2
  obtain ⟨r3, e3, c3⟩ := szInt_eq v.2.2.1 r2 (by omega) (by omega) a3
  rw [e3, Option.bind_some]
  by_cases d3 : r3 < 0
  · exact ⟨-1, by rw [if_pos d3], .inl (by omega)⟩
  rw [if_neg d3]
  have c3 := c3.resolve_left d3
  exact ⟨r3, rfl, .inr ⟨by omega, by omega, c1.2.2, c2.2.2, c3.2.2⟩⟩

theorem le8 {n : Nat} (h : n ≤ 1048576) : n * 8 ≤ 140737488355328 := by omega
theorem leM {n : Nat} (h : n ≤ 1048576) : n ≤ maxLen := by rw [maxLen_eq]; omega

theorem toHart_eq (h : HartD) (hl : hartLe 1048576 h) : F_laws_toHart (h, ()) = some ((h, ()), ()) := by
  obtain ⟨a1, a2, a3, a4⟩ := hl
  unfold F_laws_toHart
  rw [toInt64S_eq h.1 (le8 a1), Option.bind_some, toInt64S_eq h.2.2.1 (le8 a2), Option.bind_some, toInt64S_eq h.2.2.2.2.2.2.2.1 (le8 a3), Option.bind_some, toInt64S_eq h.2.2.2.2.2.2.2.2.1 (le8 a4), Option.bind_some]

theorem toView_eq (v : ViewD) (hl : viewLe 1048576 v) : F_laws_toView (v, ()) = some (((v.1.1, v.1.2.1, v.1.2.2.1, v.1.2.2.2.1, v.1.2.2.2.2.1, v.1.2.2.2.2.2.1, v.1.2.2.2.2.2.2.1, v.1.2.2.2.2.2.2.2.1, v.1.2.2.2.2.2.2.2.2.1, v.2.1, v.2.2.1, ()), ()), ()) := by
  obtain ⟨a1, a2, a3⟩ := hl
  unfold F_laws_toView
  rw [toHart_eq v.1 a1, Option.bind_some, toInt64S_eq v.2.1 (le8 a2), Option.bind_some, toInt64S_eq v.2.2.1 (le8 a3), Option.bind_some]

theorem eqHart_eq (h : HartD) (hl : hartLe 1048576 h) : F_laws_eqHart (h, h, ()) = some ((true, ()), ()) := by
  obtain ⟨a1, a2, a3, a4⟩ := hl
  unfold F_laws_eqHart
  rw [eqInt64S_eq h.1 (leM a1), Option.bind_some, if_neg (by simp), if_neg (by simp), eqInt64S_eq h.2.2.1 (leM a2), Option.bind_some, if_neg (by simp), if_neg (by simp), if_neg (by simp), if_neg (by simp), if_neg (by simp),
    eqInt64S_eq h.2.2.2.2.2.2.2.1 (leM a3), Option.bind_some, if_neg (by simp), eqInt64S_eq h.2.2.2.2.2.2.2.2.1 (leM a4), Option.bind_some, if_neg (by simp)]

theorem eqView_eq (v : ViewD) (hl : viewLe 1048576 v) : F_laws_eqView (v, v, ()) = some ((true, ()), ()) := by
  obtain ⟨a1, a2, a3⟩ := hl
  unfold F_laws_eqView
  rw [eqHart_eq v.1 a1, Option.bind_some, if_neg (by simp), eqInt64S_eq v.2.1 (leM a2), Option.bind_some, if_neg (by simp), eqInt64S_eq v.2.2.1 (leM a3), Option.bind_some, if_neg (by simp)]

theorem views_law (a b : ViewD) (ha : viewLe maxLen a) (hb : viewLe maxLen b) : F_laws_FnExactSameViews (a, b, ()) = some ((true, ()), ()) := by
  unfold F_laws_FnExactSameViews
  simp only [ltI_eq, decide_eq_true_eq]
  obtain ⟨r1, e1, c1⟩ := szView_eq a 1048576 (by omega) (by omega) ha
  rw [e1, Option.bind_some]
  by_cases d1 : r1 < 0
  · rw [if_pos d1]
  rw [if_neg d1]
  have c1 := c1.resolve_left d1
  obtain ⟨r2, e2, c2⟩ := szView_eq b r1 (by omega) (by omega) hb
  rw [e2, Option.bind_some]
  by_cases d2 : r2 < 0
  · rw [if_pos d2]
  rw [if_neg d2]
  have c2 := c2.resolve_left d2
  have va := c1.2.2
  have vb := c2.2.2
  obtain ⟨bb, f1, f2⟩ := views_eq (a, b, ()) ha
  rw [toView_eq a va, Option.bind_some, toView_eq b vb, Option.bind_some]
  have f1' : F_spec_SameViews (a, b, ()) = some ((bb, ()), ()) := f1
  have f2' : F_impl_SameViews (a, b, ()) = some ((bb, ()), ()) := f2
  have hE : ∀ v : ViewD, ((v.1.1, v.1.2.1, v.1.2.2.1, v.1.2.2.2.1, v.1.2.2.2.2.1, v.1.2.2.2.2.2.1, v.1.2.2.2.2.2.2.1, v.1.2.2.2.2.2.2.2.1, v.1.2.2.2.2.2.2.2.2.1, ()), v.2.1, v.2.2.1, ()) = v := fun v => rfl
  show (F_spec_SameViews (a, b, ())).bind _ = _
  rw [f1', Option.bind_some, Option.bind_some, Option.bind_some]
  show (F_impl_SameViews (a, b, ())).bind _ = _
  rw [f2', Option.bind_some, if_neg (by simp), Option.bind_some]
  show (F_laws_eqView (a, a, ())).bind _ = _
  rw [eqView_eq a va, Option.bind_some, if_neg (by simp), Option.bind_some]
  show (F_laws_eqView (b, b, ())).bind _ = _
  rw [eqView_eq b vb, Option.bind_some, if_neg (by simp)]

theorem sameViews_F : ∀ x, inRP P_laws_FnExactSameViews x → F_laws_FnExactSameViews x = some ((true, ()), ()) := by
  rintro ⟨a, b, _⟩ ⟨ha, hb, _⟩
  exact views_law a b ⟨⟨ha.1.1.1, ha.1.2.2.1.1, ha.1.2.2.2.2.2.2.2.1.1, ha.1.2.2.2.2.2.2.2.2.1.1⟩, ha.2.1.1, ha.2.2.1.1⟩ ⟨⟨hb.1.1.1, hb.1.2.2.1.1, hb.1.2.2.2.2.2.2.2.1.1, hb.1.2.2.2.2.2.2.2.2.1.1⟩, hb.2.1.1, hb.2.2.1.1⟩

end Go.Proofs.Yteddlkdbefloaaa
