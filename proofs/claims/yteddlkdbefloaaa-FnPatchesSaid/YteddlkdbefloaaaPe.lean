/- Plain laws of policies: sizes, copies, comparisons, and the fault of a policy. -/
import Derived.Test.YteddlkdbefloaaaPc
import Derived.Test.YteddlkdbefloaaaPz
import Derived.Test.YteddlkdbefloaaaGe
namespace Go.Proofs.Yteddlkdbefloaaa
open Go Go.RowKit S Go.Proofs
set_option maxRecDepth 100000
set_option linter.unusedVariables false
set_option linter.unusedSimpArgs false

abbrev LaneD := Int × Int × Int × Int × Int × Unit
abbrev TwoD := Int × Int × Unit
abbrev PolD := List (List Int) × List LaneD × List TwoD × List TwoD × Unit

/-- No list of it is longer. -/
def polLe (n : Nat) (p : PolD) : Prop := (p.1.length ≤ n ∧ ∀ l ∈ p.1, l.length ≤ n) ∧ p.2.1.length ≤ n ∧ p.2.2.1.length ≤ n ∧ p.2.2.2.1.length ≤ n

theorem szInts_eq (m : List (List Int)) (n : Int) (h0 : 0 ≤ n) (h1 : n ≤ 1048576) (h2 : m.length ≤ maxLen) (h3 : ∀ l ∈ m, l.length ≤ maxLen) :
    ∃ r : Int, F_laws_szInt64SS (m, n, ()) = some ((r, ()), ()) ∧ (r < 0 ∨ (0 ≤ r ∧ r ≤ n ∧ m.length ≤ 1048576 ∧ ∀ l ∈ m, l.length ≤ 1048576)) :=
  szS_thm (F := F_laws_szInt64SS) (step := l_laws_szInt64SS_5) (f := fun y k => F_laws_szInt64S (y, k, ())) (ok := fun l => l.length ≤ 1048576) (fun _ _ => rfl) (fun _ => rfl) (fun _ => rfl) (fun _ _ _ _ => rfl) m h2 (fun y hy k g0 g1 => szInt_eq y k g0 g1 (h3 y hy)) n h0 h1

theorem szLanes_eq (m : List LaneD) (n : Int) (h0 : 0 ≤ n) (h1 : n ≤ 1048576) (h2 : m.length ≤ maxLen) : ∃ r : Int, F_laws_szLaneS (m, n, ()) = some ((r, ()), ()) ∧ (r < 0 ∨ (0 ≤ r ∧ r ≤ n ∧ m.length ≤ 1048576)) :=
  sz1_thm (F := F_laws_szLaneS) (fun _ _ => rfl) m h2 n h0 h1
theorem szBells_eq (m : List TwoD) (n : Int) (h0 : 0 ≤ n) (h1 : n ≤ 1048576) (h2 : m.length ≤ maxLen) : ∃ r : Int, F_laws_szBellS (m, n, ()) = some ((r, ()), ()) ∧ (r < 0 ∨ (0 ≤ r ∧ r ≤ n ∧ m.length ≤ 1048576)) :=
  sz1_thm (F := F_laws_szBellS) (fun _ _ => rfl) m h2 n h0 h1
theorem szSlots_eq (m : List TwoD) (n : Int) (h0 : 0 ≤ n) (h1 : n ≤ 1048576) (h2 : m.length ≤ maxLen) : ∃ r : Int, F_laws_szSlotS (m, n, ()) = some ((r, ()), ()) ∧ (r < 0 ∨ (0 ≤ r ∧ r ≤ n ∧ m.length ≤ 1048576)) :=
  sz1_thm (F := F_laws_szSlotS) (fun _ _ => rfl) m h2 n h0 h1

theorem szPol_eq (p : PolD) (n : Int) (h0 : 0 ≤ n) (h1 : n ≤ 1048576) (h2 : polLe maxLen p) : ∃ r : Int, F_laws_szPolicy (p, n, ()) = some ((r, ()), ()) ∧ (r < 0 ∨ (0 ≤ r ∧ r ≤ n ∧ polLe 1048576 p)) := by
  obtain ⟨⟨a1, a2⟩, a3, a4, a5⟩ := h2
  unfold F_laws_szPolicy
  simp only [ltI_eq, decide_eq_true_eq]
  obtain ⟨r1, e1, c1⟩ := szInts_eq p.1 n h0 h1 a1 a2
  rw [e1, Option.bind_some]
  by_cases d1 : r1 < 0
  · exact ⟨-1, by rw [if_pos d1], .inl (by omega)⟩
  rw [if_neg d1]
  have c1 := c1.resolve_left d1
  obtain ⟨r2, e2, c2⟩ := szLanes_eq p.2.1 r1 (by omega) (by omega) a3
  rw [e2, Option.bind_some]
  by_cases d2 : r2 < 0
  · exact ⟨-1, by rw [if_pos d2], .inl (by omega)⟩
  rw [if_neg d2]
  have c2 := c2.resolve_left d2
  obtain ⟨r3, e3, c3⟩ := szBells_eq p.2.2.1 r2 (by omega) (by omega) a4
  rw [e3, Option.bind_some]
  by_cases d3 : r3 < 0
  · exact ⟨-1, by rw [if_pos d3], .inl (by omega)⟩
  rw [if_neg d3]
  have c3 := c3.resolve_left d3
  obtain ⟨r4, e4, c4⟩ := szSlots_eq p.2.2.2.1 r3 (by omega) (by omega) a5
  rw [e4, Option.bind_some]
  by_cases d4 : r4 < 0
  · exact ⟨-1, by rw [if_pos d4], .inl (by omega)⟩
  rw [if_neg d4]
  have c4 := c4.resolve_left d4
  exact ⟨r4, rfl, .inr ⟨by omega, by omega, ⟨c1.2.2.1, c1.2.2.2⟩, c2.2.2, c3.2.2, c4.2.2⟩⟩

theorem toInts_eq (m : List (List Int)) (h : m.length ≤ 1048576) (h2 : ∀ l ∈ m, l.length ≤ 1048576) : F_laws_toInt64SS (m, ()) = some ((m, ()), ()) :=
  toS_thm (by_ := 24) (F := F_laws_toInt64SS) (step := l_laws_toInt64SS_3) (f := fun y => F_laws_toInt64S (y, ())) (g := fun r => r.1.1) (fun _ => rfl) (fun _ => rfl) (fun _ _ _ _ => rfl) (by omega) m h fun y hy => ⟨_, toInt64S_eq y (le8 (h2 y hy)), rfl⟩
theorem toLanes_eq (m : List LaneD) (h : m.length ≤ 1048576) : F_laws_toLaneS (m, ()) = some ((m, ()), ()) :=
  toS_thm (by_ := 40) (F := F_laws_toLaneS) (step := l_laws_toLaneS_3) (f := fun y => F_laws_toLane (y, ())) (g := fun r => r.1.1) (fun _ => rfl) (fun _ => rfl) (fun _ _ _ _ => rfl) (by omega) m h fun y hy => ⟨_, rfl, rfl⟩
theorem toBells_eq (m : List TwoD) (h : m.length ≤ 1048576) : F_laws_toBellS (m, ()) = some ((m, ()), ()) :=
  toS_thm (by_ := 16) (F := F_laws_toBellS) (step := l_laws_toBellS_3) (f := fun y => F_laws_toBell (y, ())) (g := fun r => r.1.1) (fun _ => rfl) (fun _ => rfl) (fun _ _ _ _ => rfl) (by omega) m h fun y hy => ⟨_, rfl, rfl⟩
theorem toSlots_eq (m : List TwoD) (h : m.length ≤ 1048576) : F_laws_toSlotS (m, ()) = some ((m, ()), ()) :=
  toS_thm (by_ := 16) (F := F_laws_toSlotS) (step := l_laws_toSlotS_3) (f := fun y => F_laws_toSlot (y, ())) (g := fun r => r.1.1) (fun _ => rfl) (fun _ => rfl) (fun _ _ _ _ => rfl) (by omega) m h fun y hy => ⟨_, rfl, rfl⟩

theorem toPol_eq (p : PolD) (h : polLe 1048576 p) : F_laws_toPolicy (p, ()) = some (((p.1, p.2.1, p.2.2.1, p.2.2.2.1, ()), ()), ()) := by
  obtain ⟨⟨a1, a2⟩, a3, a4, a5⟩ := h
  unfold F_laws_toPolicy
  rw [toInts_eq p.1 a1 a2, Option.bind_some, toLanes_eq p.2.1 a3, Option.bind_some, toBells_eq p.2.2.1 a4, Option.bind_some, toSlots_eq p.2.2.2.1 a5, Option.bind_some]

theorem leMax {n : Nat} (h : n ≤ 1048576) : n ≤ 9223372036854775807 := by omega

theorem eqInts_eq' (m : List (List Int)) (h : m.length ≤ 1048576) (h2 : ∀ l ∈ m, l.length ≤ 1048576) : F_laws_eqInt64SS (m, m, ()) = some ((true, ()), ()) :=
  eqS_thm (F := F_laws_eqInt64SS) (step := l_laws_eqInt64SS_4) (f := fun y y' => F_laws_eqInt64S (y, y', ())) (fun _ => rfl) (fun _ => rfl) (fun _ _ _ _ => rfl) m (leMax h) fun y hy => eqInt64S_eq y (leM (h2 y hy))
theorem eqLane1 (y : LaneD) : F_laws_eqLane (y, y, ()) = some ((true, ()), ()) := by
  unfold F_laws_eqLane; simp
theorem eqBell1 (y : TwoD) : F_laws_eqBell (y, y, ()) = some ((true, ()), ()) := by
  unfold F_laws_eqBell; simp
theorem eqSlot1 (y : TwoD) : F_laws_eqSlot (y, y, ()) = some ((true, ()), ()) := by
  unfold F_laws_eqSlot; simp
theorem eqLanes_eq (m : List LaneD) (h : m.length ≤ 1048576) : F_laws_eqLaneS (m, m, ()) = some ((true, ()), ()) :=
  eqS_thm (F := F_laws_eqLaneS) (step := l_laws_eqLaneS_4) (f := fun y y' => F_laws_eqLane (y, y', ())) (fun _ => rfl) (fun _ => rfl) (fun _ _ _ _ => rfl) m (leMax h) fun y hy => eqLane1 y
theorem eqBells_eq (m : List TwoD) (h : m.length ≤ 1048576) : F_laws_eqBellS (m, m, ()) = some ((true, ()), ()) :=
  eqS_thm (F := F_laws_eqBellS) (step := l_laws_eqBellS_4) (f := fun y y' => F_laws_eqBell (y, y', ())) (fun _ => rfl) (fun _ => rfl) (fun _ _ _ _ => rfl) m (leMax h) fun y hy => eqBell1 y
theorem eqSlots_eq (m : List TwoD) (h : m.length ≤ 1048576) : F_laws_eqSlotS (m, m, ()) = some ((true, ()), ()) :=
  eqS_thm (F := F_laws_eqSlotS) (step := l_laws_eqSlotS_4) (f := fun y y' => F_laws_eqSlot (y, y', ())) (fun _ => rfl) (fun _ => rfl) (fun _ _ _ _ => rfl) m (leMax h) fun y hy => eqSlot1 y

theorem eqPol_eq (p : PolD) (h : polLe 1048576 p) : F_laws_eqPolicy (p, p, ()) = some ((true, ()), ()) := by
  obtain ⟨⟨a1, a2⟩, a3, a4, a5⟩ := h
  unfold F_laws_eqPolicy
  rw [eqInts_eq' p.1 a1 a2, Option.bind_some, if_neg (by simp), eqLanes_eq p.2.1 a3, Option.bind_some, if_neg (by simp), eqBells_eq p.2.2.1 a4, Option.bind_some, if_neg (by simp), eqSlots_eq p.2.2.2.1 a5, Option.bind_some, if_neg (by simp)]

end Go.Proofs.Yteddlkdbefloaaa
