/- Plain laws of policies: how many steps a guest has, and its gaps; GapOf. -/
import Derived.Test.YteddlkdbefloaaaPg
namespace Go.Proofs.Yteddlkdbefloaaa
open Go Go.RowKit S Go.Proofs
set_option maxRecDepth 100000
set_option linter.unusedVariables false
set_option linter.unusedSimpArgs false

def OkPlan (m : List TwoD) : Prop := m.length ≤ 8 ∧ ∀ s ∈ m, 1 ≤ s.2.1 ∧ s.2.1 ≤ 50

theorem OkPol.okPlan {p : PolD} (h : OkPol p) : OkPlan p.2.2.2.1 := ⟨h.plan.2, fun s hs => (h.slots s hs).2⟩

/-- The steps of a guest's slots, of all slots if it is below 0. -/
def stepsM (g : Int) : List TwoD → Int
  | [] => 0
  | s :: r => (if g < 0 ∨ s.1 = g then s.2.1 else 0) + stepsM g r

theorem stepsM_le {g : Int} : ∀ {m : List TwoD}, (∀ s ∈ m, 1 ≤ s.2.1 ∧ s.2.1 ≤ 50) → 0 ≤ stepsM g m ∧ stepsM g m ≤ 50 * (m.length : Int)
  | [], _ => by simp [stepsM]
  | s :: r, h => by
    have h1 := h s (by simp)
    have := stepsM_le (g := g) (m := r) fun s hs => h s (List.mem_cons_of_mem _ hs)
    simp only [stepsM, List.length_cons]
    split <;> omega

theorem mem_drop' {α : Type} {m : List α} {i : Nat} {P : α → Prop} (h : ∀ s ∈ m, P s) : ∀ s ∈ m.drop i, P s := fun s hs => h s (List.mem_of_mem_drop hs)

theorem stepsOf_eq (p : PolD) (g : Int) (h : OkPlan p.2.2.2.1) : F_impl_Policy_stepsOf (p, g, ()) = some ((stepsM g p.2.2.2.1, ()), ()) := by
  obtain ⟨hl, hs⟩ := h
  have key := loopN (step := l_impl_Policy_stepsOf_3) (γ := denO o_impl_Policy_stepsOf_3) (fun k (a : Int) => ((g, a, p.2.2.2.1, ((p.2.2.2.1.length : Nat) : Int), ((k : Nat) : Int), ()), (), ())) p.2.2.2.1.length (lots_gt' (by omega)) (fun k a => 0 ≤ a ∧ a ≤ 50 * (k : Int))
    (fun k a => some (.inl ((a + stepsM g (p.2.2.2.1.drop k), ()), (), ()))) ?_ 0 0 (by omega) (by omega)
  · have e0 : ((0 : Nat) : Int) = 0 := rfl
    rw [e0] at key
    unfold F_impl_Policy_stepsOf
    show (iterF l_impl_Policy_stepsOf_3 lots ((g, 0, p.2.2.2.1, ((p.2.2.2.1.length : Nat) : Int), 0, ()), (), ())).bind _ = _
    rw [key, Option.bind_some]
    simp
  · rintro rec k a hk ha ih
    unfold l_impl_Policy_stepsOf_3
    dsimp only
    by_cases hlt : k < p.2.2.2.1.length
    · have hb := hs _ (List.getElem_mem hlt)
      rw [if_pos (lt_t hlt), if_pos nat0, at_get hlt, wrap64 (n := a + (p.2.2.2.1[k]).2.1) (by omega) (by omega), wrapS (by omega), drop_get hlt]
      rw [show stepsM g (p.2.2.2.1[k] :: p.2.2.2.1.drop (k + 1)) = (if g < 0 ∨ (p.2.2.2.1[k]).1 = g then (p.2.2.2.1[k]).2.1 else 0) + stepsM g (p.2.2.2.1.drop (k + 1)) from rfl]
      by_cases hg : g < 0
      · rw [if_neg (by rw [ltI_f]; omega), ih _ hlt (by omega), if_pos (.inl hg), Int.add_assoc]
      · rw [if_pos (by rw [ltI_f]; omega)]
        by_cases hg2 : (p.2.2.2.1[k]).1 = g
        · rw [if_pos (by simpa using hg2), ih _ hlt (by omega), if_pos (.inr hg2), Int.add_assoc]
        · rw [if_neg (by simpa using hg2), ih _ hlt (by omega), if_neg (by omega), Int.zero_add]
    · rw [if_neg (lt_f hlt), drop_all hlt]
      simp [stepsM]

def IntRes := Int × Int × Unit

theorem frames_eq (p : PolD) (g : Int) (h : polLe 1048576 p) : F_spec_FramesOf (p, g, ()) = some (((if askM p g ≠ 0 then (askM p g, 0, ()) else (0, stepsM g p.2.2.2.1, ())), ()), ()) := by
  unfold F_spec_FramesOf
  dsimp only
  rw [specAsk_eq p g h, Option.bind_some]
  dsimp only
  by_cases h0 : askM p g = 0
  case neg => rw [if_pos (by simpa using h0), if_pos h0]
  rw [if_neg (by simpa using h0), if_neg (by simpa using h0)]
  have hok : OkPol p ∧ isG p g = true := by
    unfold askM at h0
    split at h0
    · rename_i h'; exact absurd h0 h'
    · rename_i h'
      split at h0
      · rename_i h2; exact ⟨okPol (by simpa using h'), h2⟩
      · cases h0
  obtain ⟨hl, hs⟩ := hok.1.okPlan
  have hg : ¬ g < 0 := by
    have := hok.2
    unfold isG at this
    simp at this
    omega
  have key := loopN (step := l_spec_FramesOf_6) (γ := denO o_spec_FramesOf_6) (fun k (a : Int) => ((g, (), (), a, ((k : Nat) : Int), ()), (p, (0, 0, ()), ()), ())) p.2.2.2.1.length (lots_gt' (by omega)) (fun k a => 0 ≤ a ∧ a ≤ 50 * (k : Int))
    (fun k a => some (.inl (((), a + stepsM g (p.2.2.2.1.drop k), ()), ((0, 0, ()), ()), ()))) ?_ 0 0 (by omega) (by omega)
  · have e0 : ((0 : Nat) : Int) = 0 := rfl
    rw [e0] at key
    show (iterF l_spec_FramesOf_6 lots ((g, (), (), 0, 0, ()), (p, (0, 0, ()), ()), ())).bind _ = _
    rw [key, Option.bind_some]
    simp
  · rintro rec k a hk ha ih
    unfold l_spec_FramesOf_6
    dsimp only
    by_cases hlt : k < p.2.2.2.1.length
    · have hb := hs _ (List.getElem_mem hlt)
      rw [if_pos (lt_t hlt), if_pos nat0, at_get hlt, if_pos nat0, at_get hlt, wrap64 (n := a + (p.2.2.2.1[k]).2.1) (by omega) (by omega), wrapS (by omega), drop_get hlt]
      rw [show stepsM g (p.2.2.2.1[k] :: p.2.2.2.1.drop (k + 1)) = (if g < 0 ∨ (p.2.2.2.1[k]).1 = g then (p.2.2.2.1[k]).2.1 else 0) + stepsM g (p.2.2.2.1.drop (k + 1)) from rfl]
      by_cases hg2 : (p.2.2.2.1[k]).1 = g
      · rw [if_pos (by simpa using hg2), if_pos (.inr hg2), ← Int.add_assoc]
        exact ih _ hlt (by omega)
      · rw [if_neg (by simpa using hg2), if_neg (by omega), Int.zero_add]
        exact ih _ hlt (by omega)
    · rw [if_neg (lt_f hlt), drop_all hlt]
      simp [stepsM]

/-! gaps -/
def gapGo (g : Int) : List TwoD → Int → Int → Int
  | [], gap, _ => gap
  | s :: r, gap, now => if s.1 = g then gapGo g r gap 0 else gapGo g r (if now + s.2.1 > gap then now + s.2.1 else gap) (now + s.2.1)

def gapM (p : PolD) (g : Int) : Int × Int × Unit :=
  if askM p g ≠ 0 then (askM p g, 0, ()) else if stepsM g p.2.2.2.1 = 0 then (10, 0, ()) else (0, gapGo g (p.2.2.2.1 ++ p.2.2.2.1) 0 0, ())

theorem ask_ok {p : PolD} {g : Int} (h0 : askM p g = 0) : OkPol p ∧ 0 ≤ g ∧ g < (p.1.length : Int) := by
  unfold askM at h0
  split at h0
  · rename_i h'; exact absurd h0 h'
  · rename_i h'
    split at h0
    · rename_i h2
      unfold isG at h2
      simp at h2
      exact ⟨okPol (by simpa using h'), by omega, by omega⟩
    · cases h0

theorem concatSlots_eq (a b : List TwoD) (h : a.length ≤ 8) (h2 : b.length ≤ 8) : F_slices_Concat_impl_Slot ([a, b], ()) = some ((a ++ b, ()), ()) := by
  unfold F_slices_Concat_impl_Slot
  dsimp only
  show (iterF l_slices_Concat_impl_Slot_3 lots (([a, b], 0, [a, b], 2, 0, ()), (), ())).bind _ = _
  rw [concat_len (step := l_slices_Concat_impl_Slot_3) (fun _ _ _ _ _ _ => rfl) [a, b] a b (by omega), Option.bind_some]
  dsimp only
  unfold F_slices_Grow_impl_Slot growF
  dsimp only
  rw [if_pos ⟨by omega, by show _ * (16 : Int) ≤ _; omega⟩, Option.bind_some]
  show (iterF l_slices_Concat_impl_Slot_11 lots (([], [a, b], 2, 0, ()), (), ())).bind _ = _
  rw [concat_app (by_ := 16) (step := l_slices_Concat_impl_Slot_11) (fun _ _ _ _ _ => rfl) a b (by omega), Option.bind_some]

theorem implGap_eq (p : PolD) (g : Int) (h : polLe 1048576 p) : F_impl_GapOf (p, g, ()) = some ((gapM p g, ()), ()) := by
  unfold F_impl_GapOf gapM
  dsimp only
  rw [implAsk_eq p g h, Option.bind_some]
  dsimp only
  by_cases h0 : askM p g = 0
  case neg => rw [if_pos (by simpa using h0), if_pos h0]
  rw [if_neg (by simpa using h0), if_neg (by simpa using h0)]
  obtain ⟨hok, g0, g1⟩ := ask_ok h0
  obtain ⟨hl, hs⟩ := hok.okPlan
  rw [stepsOf_eq p g hok.okPlan, Option.bind_some]
  dsimp only
  by_cases h1 : stepsM g p.2.2.2.1 = 0
  · rw [if_pos (by simpa using h1), if_pos h1]
  rw [if_neg (by simpa using h1), if_neg h1, concatSlots_eq _ _ hl hl, Option.bind_some]
  dsimp only
  generalize hm : p.2.2.2.1 ++ p.2.2.2.1 = m
  have hml : m.length ≤ 16 := by rw [← hm]; simp; omega
  have hms : ∀ s ∈ m, 1 ≤ s.2.1 ∧ s.2.1 ≤ 50 := by
    rw [← hm]
    intro s hs'
    rcases List.mem_append.1 hs' with h' | h' <;> exact hs s h'
  have key := loopN (step := l_impl_GapOf_8) (γ := denO o_impl_GapOf_8) (fun k (a : Int × Int) => ((g, (), a.1, a.2, m, ((m.length : Nat) : Int), ((k : Nat) : Int), ()), ((0, 0, ()), ()), ())) m.length (lots_gt' (by omega)) (fun k a => 0 ≤ a.1 ∧ 0 ≤ a.2 ∧ a.2 ≤ 50 * (k : Int))
    (fun k a => some (.inl (((), gapGo g (m.drop k) a.1 a.2, ()), ((0, 0, ()), ()), ()))) ?_ 0 (0, 0) (by omega) (by simp)
  · have e0 : ((0 : Nat) : Int) = 0 := rfl
    rw [e0] at key
    show (iterF l_impl_GapOf_8 lots ((g, (), 0, 0, m, ((m.length : Nat) : Int), 0, ()), ((0, 0, ()), ()), ())).bind _ = _
    rw [key, Option.bind_some]
    simp
  · rintro rec k ⟨gap, now⟩ hk ha ih
    dsimp only at ha ih ⊢
    unfold l_impl_GapOf_8
    dsimp only
    by_cases hlt : k < m.length
    · have hb := hms _ (List.getElem_mem hlt)
      have hc : (0 : Int) ≤ (k : Int) ∧ (k : Int) < ((m.length : Nat) : Int) := by omega
      rw [if_pos (lt_t hlt), if_pos hc, at_get hlt, wrap64 (n := now + (m[k]).2.1) (by omega) (by omega), wrapS (by omega), drop_get hlt]
      rw [show gapGo g (m[k] :: m.drop (k + 1)) gap now = if (m[k]).1 = g then gapGo g (m.drop (k + 1)) gap 0 else gapGo g (m.drop (k + 1)) (if now + (m[k]).2.1 > gap then now + (m[k]).2.1 else gap) (now + (m[k]).2.1) from rfl]
      by_cases hg2 : (m[k]).1 = g
      · rw [if_pos (by simpa using hg2), if_pos hg2]
        have e : (if (0 : Int) > gap then (0 : Int) else gap) = gap := by rw [if_neg (by omega)]
        rw [e]
        exact ih (gap, 0) hlt ⟨ha.1, by simp, by simp; omega⟩
      · rw [if_neg (by simpa using hg2), if_neg hg2]
        exact ih ((if now + (m[k]).2.1 > gap then now + (m[k]).2.1 else gap), now + (m[k]).2.1) hlt ⟨by dsimp only; split <;> omega, by dsimp only; omega, by dsimp only; omega⟩
    · rw [if_neg (lt_f hlt), drop_all hlt]
      rfl

theorem specGap_eq (p : PolD) (g : Int) (h : polLe 1048576 p) : F_spec_GapOf (p, g, ()) = some ((gapM p g, ()), ()) := by
  unfold F_spec_GapOf gapM
  dsimp only
  rw [specAsk_eq p g h, Option.bind_some]
  dsimp only
  by_cases h0 : askM p g = 0
  case neg => rw [if_pos (by simpa using h0), if_pos h0]
  rw [if_neg (by simpa using h0), if_neg (by simpa using h0)]
  obtain ⟨hok, g0, g1⟩ := ask_ok h0
  obtain ⟨hl, hs⟩ := hok.okPlan
  have ef : (if askM p g ≠ 0 then (askM p g, (0 : Int), ()) else (0, stepsM g p.2.2.2.1, ())) = (0, stepsM g p.2.2.2.1, ()) := if_neg (by simpa using h0)
  rw [frames_eq p g h, ef, Option.bind_some]
  dsimp only
  by_cases h1 : stepsM g p.2.2.2.1 = 0
  · rw [if_pos (by simpa using h1), if_pos h1]
  rw [if_neg (by simpa using h1), if_neg h1]
  have hpl := hok.plan.1
  generalize hm : p.2.2.2.1 ++ p.2.2.2.1 = m
  have hml : m.length = 2 * p.2.2.2.1.length := by rw [← hm]; simp; omega
  have hms : ∀ s ∈ m, 1 ≤ s.2.1 ∧ s.2.1 ≤ 50 := by
    rw [← hm]
    intro s hs'
    rcases List.mem_append.1 hs' with h' | h' <;> exact hs s h'
  have hmk : ∀ k (hk : k < m.length), p.2.2.2.1[k % p.2.2.2.1.length]? = some m[k] := by
    intro k hk
    subst hm
    rw [List.getElem_append]
    split
    · rename_i h'
      rw [Nat.mod_eq_of_lt h', List.getElem?_eq_getElem h']
    · rename_i h'
      have : k % p.2.2.2.1.length = k - p.2.2.2.1.length := by
        rw [Nat.mod_eq_sub_mod (by omega), Nat.mod_eq_of_lt (by omega)]
      rw [this, List.getElem?_eq_getElem]
  have key := loopN (step := l_spec_GapOf_9) (γ := denO o_spec_GapOf_9) (fun k (a : Int × Int) => ((g, (), (), a.1, a.2, ((k : Nat) : Int), ()), (p, (0, 0, ()), ()), ())) m.length (lots_gt' (by omega)) (fun k a => 0 ≤ a.1 ∧ 0 ≤ a.2 ∧ a.2 ≤ 50 * (k : Int))
    (fun k a => some (.inl (((), gapGo g (m.drop k) a.1 a.2, ()), ((0, 0, ()), ()), ()))) ?_ 0 (0, 0) (by omega) (by simp)
  · have e0 : ((0 : Nat) : Int) = 0 := rfl
    rw [e0] at key
    show (iterF l_spec_GapOf_9 lots ((g, (), (), 0, 0, 0, ()), (p, (0, 0, ()), ()), ())).bind _ = _
    rw [key, Option.bind_some]
    simp
  · rintro rec k ⟨gap, now⟩ hk ha ih
    dsimp only at ha ih ⊢
    unfold l_spec_GapOf_9
    dsimp only
    have e2 : IntKind.i64.wrap ((2 : Int) * ((p.2.2.2.1.length : Nat) : Int)) = ((m.length : Nat) : Int) := by rw [wrap64 (by omega) (by omega)]; omega
    rw [e2]
    by_cases hlt : k < m.length
    · have hb := hms _ (List.getElem_mem hlt)
      have et : ((k : Nat) : Int).tmod ((p.2.2.2.1.length : Nat) : Int) = ((k % p.2.2.2.1.length : Nat) : Int) := rfl
      rw [if_pos (lt_t hlt), if_neg (by omega), et, if_pos nat0, Int.toNat_natCast, hmk k hlt, Option.bind_some, wrap64 (n := now + (m[k]).2.1) (by omega) (by omega), wrapS (by omega), drop_get hlt]
      rw [show gapGo g (m[k] :: m.drop (k + 1)) gap now = if (m[k]).1 = g then gapGo g (m.drop (k + 1)) gap 0 else gapGo g (m.drop (k + 1)) (if now + (m[k]).2.1 > gap then now + (m[k]).2.1 else gap) (now + (m[k]).2.1) from rfl]
      by_cases hg2 : (m[k]).1 = g
      · rw [if_pos (by simpa using hg2), if_pos hg2]
        exact ih (gap, 0) hlt ⟨ha.1, by simp, by simp; omega⟩
      · rw [if_neg (by simpa using hg2), if_neg hg2]
        have e3 : F_spec_l1Max (gap, now + (m[k]).2.1, ()) = some (((if now + (m[k]).2.1 > gap then now + (m[k]).2.1 else gap), ()), ()) := by
          unfold F_spec_l1Max
          dsimp only
          by_cases hx : now + (m[k]).2.1 < gap
          · rw [if_pos (by rw [ltI_t]; exact hx), if_neg (by omega)]
          · rw [if_neg (by rw [ltI_t]; exact hx)]
            have e4 : (if now + (m[k]).2.1 > gap then now + (m[k]).2.1 else gap) = now + (m[k]).2.1 := by split <;> omega
            rw [e4]
        rw [e3, Option.bind_some]
        exact ih ((if now + (m[k]).2.1 > gap then now + (m[k]).2.1 else gap), now + (m[k]).2.1) hlt ⟨by dsimp only; split <;> omega, by dsimp only; omega, by dsimp only; omega⟩
    · rw [if_neg (lt_f hlt), drop_all hlt]
      rfl

theorem eqInt_eq (r : Int × Int × Unit) : F_laws_eqIntResult (r, r, ()) = some ((true, ()), ()) := by
  unfold F_laws_eqIntResult
  simp

theorem gap_law (p : PolD) (g : Int) (hp : polLe maxLen p) : F_laws_FnExactGapOf (p, g, ()) = some ((true, ()), ()) := by
  unfold F_laws_FnExactGapOf
  simp only [ltI_eq, decide_eq_true_eq]
  obtain ⟨r1, e1, c1⟩ := szPol_eq p 1048576 (by omega) (by omega) hp
  rw [e1, Option.bind_some]
  by_cases d1 : r1 < 0
  · rw [if_pos d1]
  rw [if_neg d1]
  have c1 := c1.resolve_left d1
  have hp := c1.2.2
  rw [toPol_eq p hp, Option.bind_some]
  show (F_spec_GapOf (p, g, ())).bind _ = _
  rw [specGap_eq p g hp, Option.bind_some, Option.bind_some]
  show (F_impl_GapOf (p, g, ())).bind _ = _
  rw [implGap_eq p g hp, Option.bind_some]
  show (F_laws_eqIntResult (gapM p g, gapM p g, ())).bind _ = _
  rw [eqInt_eq, Option.bind_some, if_neg (by simp), Option.bind_some]
  show (F_laws_eqPolicy (p, p, ())).bind _ = _
  rw [eqPol_eq p hp, Option.bind_some, if_neg (by simp)]

theorem gapOf_F : ∀ x, inRP P_laws_FnExactGapOf x → F_laws_FnExactGapOf x = some ((true, ()), ()) := by
  rintro ⟨p, g, _⟩ ⟨hp, _⟩
  exact gap_law p g ⟨⟨hp.1.1, fun l hl => (hp.1.2 l hl).1⟩, hp.2.1.1, hp.2.2.1.1, hp.2.2.2.1.1⟩

end Go.Proofs.Yteddlkdbefloaaa
