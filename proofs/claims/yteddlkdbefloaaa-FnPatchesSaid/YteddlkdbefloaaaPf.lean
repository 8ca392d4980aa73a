/- Plain laws of policies: what the fault of a policy is, for both. -/
import Derived.Test.YteddlkdbefloaaaPe
namespace Go.Proofs.Yteddlkdbefloaaa
open Go Go.RowKit S Go.Proofs
set_option maxRecDepth 100000
set_option linter.unusedVariables false
set_option linter.unusedSimpArgs false

theorem mx {n : Nat} (h : n ≤ 1048576) : n < 9223372036854775807 := by omega

theorem scan_le {α β : Type} {f : Nat → α → Option β} {P : β → Prop} : ∀ {m : List α} {i : Nat}, (∀ j (h : j < m.length) c, f (i + j) m[j] = some c → P c) → ∀ c, scan f i m = some c → P c
  | [], _, _, c, h => by simp [scan] at h
  | x :: r, i, h, c, hc => by
    have h0 := h 0 (by simp)
    simp only [Nat.add_zero, List.getElem_cons_zero] at h0
    simp only [scan] at hc
    split at hc
    · rename_i d hd
      obtain rfl := Option.some.inj hc
      exact h0 _ hd
    · exact scan_le (m := r) (i := i + 1) (fun j hj c' hc' => h (j + 1) (by simpa using hj) c' (by simpa [Nat.add_assoc, Nat.add_comm, Nat.add_left_comm] using hc')) c hc

/-! is it in a list? -/
theorem l1Has_eq (m : List Int) (v : Int) (hm : m.length ≤ 1048576) : F_spec_l1Has (m, v, ()) = some ((m.contains v, ()), ()) := by
  have key := scan_loop (step := l_spec_l1Has_2) (γ := denO o_spec_l1Has_2) (fun i => ((m, v, ((i : Nat) : Int), ()), (), ())) m (fun _ y => if (y == v) = true then some () else none) (fun _ => some (.inr (.inl ((true, ()), (), ())))) (some (.inl ((), (), ()))) (leMax hm) ?_ ?_
  · unfold F_spec_l1Has
    show (iterF l_spec_l1Has_2 lots ((m, v, ((0 : Nat) : Int), ()), (), ())).bind _ = _
    rw [key]
    have := scan_any (f := fun (_ : Nat) y => if (y == v) = true then some () else none) (p := fun y => y == v) (m := m) (i := 0) (fun j hj => by cases m[j] == v <;> rfl)
    have e : m.any (fun y => y == v) = m.contains v := by
      rw [Bool.eq_iff_iff, List.any_eq_true, List.contains_iff_mem]
      exact ⟨fun ⟨y, hy, e⟩ => by rw [← beq_iff_eq.1 e]; exact hy, fun h => ⟨v, h, by simp⟩⟩
    rw [e] at this
    rw [← this]
    cases scan (fun (_ : Nat) y => if (y == v) = true then some () else none) 0 m <;> rfl
  · intro rec i h
    unfold l_spec_l1Has_2
    dsimp only
    rw [if_pos (lt_t h), if_pos nat0, at_get h, wrapS (lt1 h hm)]
    cases m[i] == v <;> rfl
  · intro rec
    unfold l_spec_l1Has_2
    dsimp only
    rw [if_neg lt_same]

/-! who is a guest, who owns -/
def isG (p : PolD) (g : Int) : Bool := decide (g ≥ 0) && decide (g ≤ (p.1.length : Int) - 1)

theorem l6Guest_eq (p : PolD) (g : Int) (h : p.1.length ≤ 1048576) : F_spec_l6Guest (p, g, ()) = some ((isG p g, ()), ()) := by
  unfold F_spec_l6Guest isG
  dsimp only
  rw [wrap64 (by omega) (by omega), l1In_eq, Option.bind_some]

theorem isGuest_eq (p : PolD) (g : Int) (h : p.1.length ≤ 1048576) : F_impl_Policy_isGuest (p, g, ()) = some ((isG p g, ()), ()) := by
  unfold F_impl_Policy_isGuest isG
  dsimp only
  rw [wrap64 (by omega) (by omega), within_eq, Option.bind_some]

def endsM (p : PolD) (a b : Int) : Int := if isG p a = true then (if isG p b = true then (if a = b then 1 else 0) else 4) else 4

theorem ends_eq (p : PolD) (a b : Int) (h : p.1.length ≤ 1048576) : F_spec_l6Ends (p, a, b, ()) = some ((endsM p a b, ()), ()) := by
  unfold F_spec_l6Ends endsM
  rw [l6Guest_eq p a h, l6Guest_eq p b h]
  simp only [Option.bind_some]
  cases isG p a <;> cases isG p b <;> by_cases e : a = b <;> simp [e]

theorem link_eq (p : PolD) (a b : Int) (h : p.1.length ≤ 1048576) : F_impl_Policy_linkFault (p, a, b, ()) = some ((endsM p a b, ()), ()) := by
  unfold F_impl_Policy_linkFault endsM
  rw [isGuest_eq p a h, isGuest_eq p b h]
  simp only [Option.bind_some]
  cases isG p a <;> cases isG p b <;> by_cases e : a = b <;> simp [e]

def orMinus : Option Int → Int
  | some c => c
  | none => -1

def ownerM (own : List (List Int)) (page : Int) : Int := orMinus (scan (fun i (l : List Int) => if l.contains page = true then some ((i : Nat) : Int) else none) 0 own)

theorem owner_eq (p : PolD) (page : Int) (h : p.1.length ≤ 1048576) (h2 : ∀ l ∈ p.1, l.length ≤ 1048576) : F_spec_l6Owner (p, page, ()) = some ((ownerM p.1 page, ()), ()) := by
  have key := scan_loop (step := l_spec_l6Owner_2) (γ := denO o_spec_l6Owner_2) (fun i => ((p, page, ((i : Nat) : Int), ()), (), ())) p.1 (fun i (l : List Int) => if l.contains page = true then some ((i : Nat) : Int) else none)
    (fun c => some (.inr (.inl ((c, ()), (), ())))) (some (.inl ((), (), ()))) (leMax h) ?_ ?_
  · unfold F_spec_l6Owner ownerM
    show (iterF l_spec_l6Owner_2 lots ((p, page, ((0 : Nat) : Int), ()), (), ())).bind _ = _
    rw [key]
    cases scan (fun i (l : List Int) => if l.contains page = true then some ((i : Nat) : Int) else none) 0 p.1 <;> rfl
  · intro rec i hi
    unfold l_spec_l6Owner_2
    dsimp only
    rw [if_pos (lt_t hi), if_pos nat0, at_get hi, wrapS (lt1 hi h), l1Has_eq _ _ (h2 _ (List.getElem_mem hi)), Option.bind_some]
    dsimp only
    cases (p.1[i]).contains page <;> rfl
  · intro rec
    unfold l_spec_l6Owner_2
    dsimp only
    rw [if_neg lt_same]

theorem scan_ge {α : Type} {P : Nat → α → Bool} {m : List α} {c : Int} (h : scan (fun i y => if P i y = true then some ((i : Nat) : Int) else none) 0 m = some c) : 0 ≤ c := by
  refine scan_le (P := fun c => 0 ≤ c) ?_ c h
  intro j hj c hc
  split at hc
  · obtain rfl := Option.some.inj hc; omega
  · cases hc

theorem contains_of {α : Type} {P : α → Bool} {m : List α} {f : Nat → α → Option Int} (hf : ∀ i y, f i y = if P y = true then some ((i : Nat) : Int) else none) : leI 0 (orMinus (scan f 0 m)) = m.any P := by
  have e : f = fun i y => if P y = true then some ((i : Nat) : Int) else none := by funext i y; exact hf i y
  subst e
  have h1 := scan_any (f := fun i y => if P y = true then some ((i : Nat) : Int) else none) (p := P) (m := m) (i := 0) (fun j hj => by cases P m[j] <;> rfl)
  rw [← h1, leI_eq]
  cases hs : scan (fun i y => if P y = true then some ((i : Nat) : Int) else none) 0 m with
  | none => rfl
  | some c => have := scan_ge (P := fun _ y => P y) hs; simp [orMinus, this]

theorem index_eq (m : List Int) (v : Int) (hm : m.length ≤ 1048576) : F_slices_Index_int64 (m, v, ()) = some ((orMinus (scan (fun i y => if (v == y) = true then some ((i : Nat) : Int) else none) 0 m), ()), ()) := by
  have key := scan_loop (step := l_slices_Index_int64_2) (γ := denO o_slices_Index_int64_2) (fun i => ((m, v, ((m.length : Nat) : Int), ((i : Nat) : Int), ()), (), ())) m (fun i y => if (v == y) = true then some ((i : Nat) : Int) else none)
    (fun c => some (.inr (.inl ((c, ()), (), ())))) (some (.inl ((), (), ()))) (leMax hm) ?_ ?_
  · unfold F_slices_Index_int64
    show (iterF l_slices_Index_int64_2 lots ((m, v, ((m.length : Nat) : Int), ((0 : Nat) : Int), ()), (), ())).bind _ = _
    rw [key]
    cases scan (fun i y => if (v == y) = true then some ((i : Nat) : Int) else none) 0 m <;> rfl
  · intro rec i hi
    unfold l_slices_Index_int64_2
    dsimp only
    rw [if_pos (lt_t hi), if_pos nat0, at_get hi, wrapS (lt1 hi hm)]
    cases v == m[i] <;> rfl
  · intro rec
    unfold l_slices_Index_int64_2
    dsimp only
    rw [if_neg lt_same]

theorem any_contains (m : List Int) (v : Int) : m.any (fun y => v == y) = m.contains v := by
  rw [Bool.eq_iff_iff, List.any_eq_true, List.contains_iff_mem]
  exact ⟨fun ⟨y, hy, e⟩ => by rw [beq_iff_eq.1 e]; exact hy, fun h => ⟨v, h, by simp⟩⟩

theorem contains_eq (m : List Int) (v : Int) (hm : m.length ≤ 1048576) : F_slices_Contains_int64 (m, v, ()) = some ((m.contains v, ()), ()) := by
  unfold F_slices_Contains_int64
  rw [index_eq m v hm, Option.bind_some]
  dsimp only
  rw [contains_of (P := fun y => v == y) (fun _ _ => rfl), any_contains]

theorem implOwner_eq (p : PolD) (page : Int) (h : p.1.length ≤ 1048576) (h2 : ∀ l ∈ p.1, l.length ≤ 1048576) : F_impl_Policy_owner (p, page, ()) = some ((ownerM p.1 page, ()), ()) := by
  have key := scan_loop (step := l_slices_IndexFunc_S_int64_of_impl_Policy_owner_1_2) (γ := denO o_slices_IndexFunc_S_int64_of_impl_Policy_owner_1_2) (fun i => ((p.1, (page, ()), ((p.1.length : Nat) : Int), ((i : Nat) : Int), ()), (), ())) p.1
    (fun i (l : List Int) => if l.contains page = true then some ((i : Nat) : Int) else none) (fun c => some (.inr (.inl ((c, ()), (), ())))) (some (.inl ((), (), ()))) (leMax h) ?_ ?_
  · unfold F_impl_Policy_owner ownerM F_slices_IndexFunc_S_int64_of_impl_Policy_owner_1
    show ((iterF l_slices_IndexFunc_S_int64_of_impl_Policy_owner_1_2 lots ((p.1, (page, ()), ((p.1.length : Nat) : Int), ((0 : Nat) : Int), ()), (), ())).bind _).bind _ = _
    rw [key]
    cases scan (fun i (l : List Int) => if l.contains page = true then some ((i : Nat) : Int) else none) 0 p.1 <;> rfl
  · intro rec i hi
    unfold l_slices_IndexFunc_S_int64_of_impl_Policy_owner_1_2
    dsimp only
    rw [if_pos (lt_t hi), if_pos nat0, at_get hi, wrapS (lt1 hi h)]
    unfold F_impl_Policy_owner_1
    rw [contains_eq _ _ (h2 _ (List.getElem_mem hi)), Option.bind_some, Option.bind_some]
    dsimp only
    cases (p.1[i]).contains page <;> rfl
  · intro rec
    unfold l_slices_IndexFunc_S_int64_of_impl_Policy_owner_1_2
    dsimp only
    rw [if_neg lt_same]

/-! lanes -/
def laneAt (l : LaneD) (g page : Int) : Bool := (l.1 == g && l.2.2.2.1 == page) || (l.2.1 == g && l.2.2.2.2.1 == page)

theorem l6At_eq (l : LaneD) (g page : Int) : F_spec_l6At (l, g, page, ()) = some ((laneAt l g page, ()), ()) := by
  unfold F_spec_l6At laneAt
  cases l.1 == g <;> cases l.2.2.2.1 == page <;> cases l.2.1 == g <;> rfl

theorem sits_eq (l : LaneD) (g page : Int) : F_impl_Lane_sits (l, g, page, ()) = some ((laneAt l g page, ()), ()) := by
  unfold F_impl_Lane_sits laneAt
  cases l.1 == g <;> cases l.2.2.2.1 == page <;> cases l.2.1 == g <;> rfl

/-- Does a lane stand in another one's way? -/
def clash (l o : LaneD) : Bool := o.2.2.1 == l.2.2.1 || (laneAt o l.1 l.2.2.2.1 || laneAt o l.2.1 l.2.2.2.2.1)

def inB (n a b : Int) : Bool := decide (n ≥ a) && decide (n ≤ b)

theorem within_eq2 (n a b : Int) : F_impl_within (n, a, b, ()) = some ((inB n a b, ()), ()) := within_eq n a b
theorem l1In_eq2 (n a b : Int) : F_spec_l1In (n, a, b, ()) = some ((inB n a b, ()), ()) := l1In_eq n a b

def laneM (p : PolD) (l : LaneD) (ahead : List LaneD) : Int :=
  if endsM p l.1 l.2.1 ≠ 0 then endsM p l.1 l.2.1
  else if inB l.2.2.1 0 23 = true ∧ inB l.2.2.2.1 5 6 = true ∧ inB l.2.2.2.2.1 5 6 = true then
    (if leI 0 (ownerM p.1 l.2.2.1) = true then 6 else if ahead.any (clash l) = true then 6 else 0) else 3

theorem lane1_eq (l o : LaneD) : F_impl_Policy_laneFault_1 (o, l, ()) = some ((clash l o, ()), ()) := by
  unfold F_impl_Policy_laneFault_1 clash
  dsimp only
  rw [sits_eq, sits_eq]
  simp only [Option.bind_some]
  cases o.2.2.1 == l.2.2.1 <;> cases laneAt o l.1 l.2.2.2.1 <;> rfl

theorem lanesAny_eq (l : LaneD) (m : List LaneD) (hm : m.length ≤ 1048576) : F_slices_ContainsFunc_impl_Lane_of_impl_Policy_laneFault_1 (m, (l, ()), ()) = some ((m.any (clash l), ()), ()) := by
  have key := scan_loop (step := l_slices_IndexFunc_impl_Lane_of_impl_Policy_laneFault_1_2) (γ := denO o_slices_IndexFunc_impl_Lane_of_impl_Policy_laneFault_1_2) (fun i => ((m, (l, ()), ((m.length : Nat) : Int), ((i : Nat) : Int), ()), (), ())) m
    (fun i o => if clash l o = true then some ((i : Nat) : Int) else none) (fun c => some (.inr (.inl ((c, ()), (), ())))) (some (.inl ((), (), ()))) (leMax hm) ?_ ?_
  · unfold F_slices_ContainsFunc_impl_Lane_of_impl_Policy_laneFault_1 F_slices_IndexFunc_impl_Lane_of_impl_Policy_laneFault_1
    show ((iterF l_slices_IndexFunc_impl_Lane_of_impl_Policy_laneFault_1_2 lots ((m, (l, ()), ((m.length : Nat) : Int), ((0 : Nat) : Int), ()), (), ())).bind _).bind _ = _
    rw [key, ← contains_of (P := clash l) (m := m) (f := fun i o => if clash l o = true then some ((i : Nat) : Int) else none) (fun _ _ => rfl)]
    cases scan (fun i o => if clash l o = true then some ((i : Nat) : Int) else none) 0 m <;> rfl
  · intro rec i hi
    unfold l_slices_IndexFunc_impl_Lane_of_impl_Policy_laneFault_1_2
    dsimp only
    rw [if_pos (lt_t hi), if_pos nat0, at_get hi, wrapS (lt1 hi hm), lane1_eq, Option.bind_some]
    dsimp only
    cases clash l m[i] <;> rfl
  · intro rec
    unfold l_slices_IndexFunc_impl_Lane_of_impl_Policy_laneFault_1_2
    dsimp only
    rw [if_neg lt_same]

theorem laneFault_eq (p : PolD) (l : LaneD) (ahead : List LaneD) (h : p.1.length ≤ 1048576) (h2 : ∀ l ∈ p.1, l.length ≤ 1048576) (hm : ahead.length ≤ 1048576) : F_impl_Policy_laneFault (p, l, ahead, ()) = some ((laneM p l ahead, ()), ()) := by
  unfold F_impl_Policy_laneFault laneM
  dsimp only
  rw [link_eq p _ _ h, within_eq2, within_eq2, within_eq2, implOwner_eq p _ h h2, lanesAny_eq l ahead hm]
  simp only [Option.bind_some]
  by_cases h0 : endsM p l.1 l.2.1 = 0
  · rw [h0]
    cases b1 : inB l.2.2.1 0 23 <;> cases b2 : inB l.2.2.2.1 5 6 <;> cases b3 : inB l.2.2.2.2.1 5 6 <;> cases b4 : leI 0 (ownerM p.1 l.2.2.1) <;> cases b5 : ahead.any (clash l) <;> simp
  · simp [h0]

def nz (c : Int) : Option Int := if c ≠ 0 then some c else none

def lanesM (p : PolD) : Option Int := scan (fun i l => nz (laneM p l (p.2.1.take i))) 0 p.2.1

theorem or3 {γ : Type} (x y z : Bool) (A B : γ) : (if x = false then (if y = false then (if z = true then A else B) else A) else A) = match (if (x || (y || z)) = true then some () else none) with | some c => A | none => B := by
  cases x <;> cases y <;> cases z <;> rfl

theorem specAhead_eq (p : PolD) (i : Nat) (hi : i < p.2.1.length) (hm : p.2.1.length ≤ 1048576) (l : LaneD) (a1 : Int) (a2 a3 : Bool) (a4 : Int) (a5 a6 : Bool) :
    (((p.2.1.take i).any (clash l) = true ∧ iterF l_spec_l6Lanes_15 lots ((p, (i : Int), (), 0, (), a1, a2, a3, (), a4, a5, a6, ()), ((l.1, l.2.1, l.2.2.1, l.2.2.2.1, l.2.2.2.2.1, ()), ()), ()) = some (.inr (.inl ((6, ()), (), ())))) ∨
     ((p.2.1.take i).any (clash l) = false ∧ ∃ x, iterF l_spec_l6Lanes_15 lots ((p, (i : Int), (), 0, (), a1, a2, a3, (), a4, a5, a6, ()), ((l.1, l.2.1, l.2.2.1, l.2.2.2.1, l.2.2.2.2.1, ()), ()), ()) = some (.inl x) ∧ x.1.1 = p ∧ x.1.2.1 = (i : Int))) := by
  have hl : (p.2.1.take i).length = i := by simp; omega
  obtain ⟨x, hx, hx1, hx2⟩ : ∃ x, (∀ rec, l_spec_l6Lanes_15 rec ((p, (i : Int), (), (i : Int), (), a1, a2, a3, (), a4, a5, a6, ()), ((l.1, l.2.1, l.2.2.1, l.2.2.2.1, l.2.2.2.2.1, ()), ()), ()) = some (.inl x)) ∧ x.1.1 = p ∧ x.1.2.1 = (i : Int) := by
    refine ⟨((p, (i : Int), (), a1, a2, a3, (), a4, a5, a6, ()), ((l.1, l.2.1, l.2.2.1, l.2.2.2.1, l.2.2.2.2.1, ()), ()), ()), fun rec => ?_, rfl, rfl⟩
    unfold l_spec_l6Lanes_15
    dsimp only
    rw [if_neg lt_same]
  have key := scan_loop (step := l_spec_l6Lanes_15) (γ := denO o_spec_l6Lanes_15) (fun k => ((p, (i : Int), (), ((k : Nat) : Int), (), a1, a2, a3, (), a4, a5, a6, ()), ((l.1, l.2.1, l.2.2.1, l.2.2.2.1, l.2.2.2.2.1, ()), ()), ())) (p.2.1.take i)
    (fun _ o => if clash l o = true then some () else none) (fun _ => some (.inr (.inl ((6, ()), (), ())))) (some (.inl x)) (leMax (by omega)) ?_ ?_
  · have h1 := scan_any (f := fun (_ : Nat) o => if clash l o = true then some () else none) (p := clash l) (m := p.2.1.take i) (i := 0) (fun j hj => by cases clash l (p.2.1.take i)[j] <;> rfl)
    have e0 : ((0 : Nat) : Int) = 0 := rfl
    rw [e0] at key
    rw [key, ← h1]
    cases scan (fun (_ : Nat) o => if clash l o = true then some () else none) 0 (p.2.1.take i) with
    | some c => exact .inl ⟨rfl, rfl⟩
    | none => exact .inr ⟨rfl, x, rfl, hx1, hx2⟩
  · intro rec k hk
    have hk' : k < i := by omega
    unfold l_spec_l6Lanes_15
    dsimp only
    rw [if_pos (lt_t hk'), if_pos nat0, at_get (by omega), wrapS (by omega), l6At_eq, l6At_eq, List.getElem_take]
    simp only [Option.bind_some, clash]
    rcases Bool.eq_false_or_eq_true ((p.2.1[k]).2.2.1 == l.2.2.1) with c1 | c1 <;> rcases Bool.eq_false_or_eq_true (laneAt p.2.1[k] l.1 l.2.2.2.1) with c2 | c2 <;> rcases Bool.eq_false_or_eq_true (laneAt p.2.1[k] l.2.1 l.2.2.2.2.1) with c3 | c3 <;> simp [c1, c2, c3]
  · intro rec
    rw [hl]
    exact hx rec

def polLanes (p : PolD) : Prop := (p.1.length ≤ 1048576 ∧ ∀ l ∈ p.1, l.length ≤ 1048576) ∧ p.2.1.length ≤ 1048576

theorem specLanes_eq (p : PolD) (h : p.1.length ≤ 1048576) (h2 : ∀ l ∈ p.1, l.length ≤ 1048576) (hm : p.2.1.length ≤ 1048576) :
    F_spec_l6Lanes (p, ()) = some ((if p.2.1.length ≤ 4 ∧ p.2.2.1.length ≤ 4 then (match lanesM p with | some c => c | none => 0) else 2, ()), ()) := by
  have key := scan_loop (step := l_spec_l6Lanes_4) (γ := denO o_spec_l6Lanes_4) (fun i => ((p, ((i : Nat) : Int), ()), (), ())) p.2.1 (fun i l => nz (laneM p l (p.2.1.take i)))
    (fun c => some (.inr (.inl ((c, ()), (), ())))) (some (.inl ((), (), ()))) (leMax hm) ?_ ?_
  · have e0 : ((0 : Nat) : Int) = 0 := rfl
    rw [e0] at key
    unfold F_spec_l6Lanes lanesM
    dsimp only
    by_cases h1 : p.2.1.length ≤ 4
    · rw [if_pos (by rw [ltI_f]; omega)]
      by_cases h3 : p.2.2.1.length ≤ 4
      · rw [if_neg (by rw [ltI_t]; omega), if_pos ⟨h1, h3⟩]
        show (iterF l_spec_l6Lanes_4 lots ((p, 0, ()), (), ())).bind _ = _
        rw [key]
        cases scan (fun i l => nz (laneM p l (p.2.1.take i))) 0 p.2.1 <;> rfl
      · rw [if_pos (by rw [ltI_t]; omega), if_neg (by omega)]
    · rw [if_neg (by rw [ltI_f]; omega), if_neg (by omega)]
  · intro rec i hi
    unfold l_spec_l6Lanes_4
    dsimp only
    rw [if_pos (lt_t hi), if_pos nat0, at_get hi, ends_eq p _ _ h, l1In_eq2, l1In_eq2, l1In_eq2, owner_eq p _ h h2]
    simp only [Option.bind_some]
    generalize p.2.1[i] = l
    unfold laneM
    by_cases h0 : endsM p l.1 l.2.1 = 0
    · rw [h0]
      cases b1 : inB l.2.2.1 0 23
      · simp [nz]
      cases b2 : inB l.2.2.2.1 5 6
      · simp [nz]
      cases b3 : inB l.2.2.2.2.1 5 6
      · simp [nz]
      cases b4 : leI 0 (ownerM p.1 l.2.2.1)
      · rw [if_neg (by simp), if_pos (by simp), if_pos (by simp), if_neg (by simp), if_neg (by simp), if_neg (by simp), if_pos (by simp), if_neg (by simp)]
        rcases specAhead_eq p i hi hm l l.2.2.2.1 true (!true) l.2.2.2.2.1 true (!true) with ⟨g1, g2⟩ | ⟨g1, x, g2, g3, g4⟩
        · show (iterF l_spec_l6Lanes_15 lots ((p, (i : Int), (), 0, (), l.2.2.2.1, true, (!true), (), l.2.2.2.2.1, true, (!true), ()), ((l.1, l.2.1, l.2.2.1, l.2.2.2.1, l.2.2.2.2.1, ()), ()), ())).bind _ = _
          rw [g1, g2]
          rfl
        · show (iterF l_spec_l6Lanes_15 lots ((p, (i : Int), (), 0, (), l.2.2.2.1, true, (!true), (), l.2.2.2.2.1, true, (!true), ()), ((l.1, l.2.1, l.2.2.1, l.2.2.2.1, l.2.2.2.2.1, ()), ()), ())).bind _ = _
          rw [g1, g2, Option.bind_some]
          dsimp only
          rw [g3, g4, wrapS (lt1 hi hm)]
          rfl
      · simp [nz]
    · simp [h0, nz]
  · intro rec
    unfold l_spec_l6Lanes_4
    dsimp only
    rw [if_neg lt_same]

/-! bells, the plan -/
def sameB (b o : TwoD) : Bool := (b.1 == o.1) && ((b.2.1 == o.2.1) && true)
def bellM (p : PolD) (b : TwoD) (ahead : List TwoD) : Int := if endsM p b.1 b.2.1 ≠ 0 then endsM p b.1 b.2.1 else if ahead.any (sameB b) = true then 6 else 0
def bellsM (p : PolD) : Option Int := scan (fun i b => nz (bellM p b (p.2.2.1.take i))) 0 p.2.2.1
def planM (p : PolD) : Int := if 1 ≤ p.2.2.2.1.length ∧ p.2.2.2.1.length ≤ 8 then
  (match scan (fun (_ : Nat) (s : TwoD) => if isG p s.1 = true then (if inB s.2.1 1 50 = true then none else some (3 : Int)) else some 4) 0 p.2.2.2.1 with | some c => c | none => 0) else 2

theorem sameB_comm (b o : TwoD) : sameB b o = sameB o b := by
  unfold sameB
  rw [Bool.eq_iff_iff]
  simp
  constructor <;> rintro ⟨h1, h2⟩ <;> exact ⟨h1.symm, h2.symm⟩

theorem bellsAny_eq (b : TwoD) (m : List TwoD) (hm : m.length ≤ 1048576) : F_slices_Contains_impl_Bell (m, b, ()) = some ((m.any (sameB b), ()), ()) := by
  have key := scan_loop (step := l_slices_Index_impl_Bell_2) (γ := denO o_slices_Index_impl_Bell_2) (fun i => ((m, (), ((m.length : Nat) : Int), ((i : Nat) : Int), ()), ((b.1, b.2.1, ()), ()), ())) m
    (fun i o => if sameB b o = true then some ((i : Nat) : Int) else none) (fun c => some (.inr (.inl ((c, ()), (), ())))) (some (.inl ((), (), ()))) (leMax hm) ?_ ?_
  · unfold F_slices_Contains_impl_Bell F_slices_Index_impl_Bell
    show ((iterF l_slices_Index_impl_Bell_2 lots ((m, (), ((m.length : Nat) : Int), ((0 : Nat) : Int), ()), ((b.1, b.2.1, ()), ()), ())).bind _).bind _ = _
    rw [key, ← contains_of (P := sameB b) (m := m) (f := fun i o => if sameB b o = true then some ((i : Nat) : Int) else none) (fun _ _ => rfl)]
    cases scan (fun i o => if sameB b o = true then some ((i : Nat) : Int) else none) 0 m <;> rfl
  · intro rec i hi
    unfold l_slices_Index_impl_Bell_2
    dsimp only
    rw [if_pos (lt_t hi), if_pos nat0, at_get hi, wrapS (lt1 hi hm)]
    show (if sameB b m[i] = true then _ else _) = _
    cases sameB b m[i] <;> rfl
  · intro rec
    unfold l_slices_Index_impl_Bell_2
    dsimp only
    rw [if_neg lt_same]

theorem bellFault_eq (p : PolD) (b : TwoD) (ahead : List TwoD) (h : p.1.length ≤ 1048576) (hm : ahead.length ≤ 1048576) : F_impl_Policy_bellFault (p, b, ahead, ()) = some ((bellM p b ahead, ()), ()) := by
  unfold F_impl_Policy_bellFault bellM
  dsimp only
  rw [link_eq p _ _ h, bellsAny_eq b ahead hm]
  simp only [Option.bind_some]
  by_cases h0 : endsM p b.1 b.2.1 = 0
  · rw [h0]
    cases ahead.any (sameB b) <;> simp
  · simp [h0]

theorem specBellAhead_eq (p : PolD) (i : Nat) (hi : i < p.2.2.1.length) (hm : p.2.2.1.length ≤ 1048576) (b : TwoD) :
    iterF l_spec_l6Rest_9 lots ((p, (i : Int), (), 0, ()), ((b.1, b.2.1, ()), ()), ()) = if (p.2.2.1.take i).any (sameB b) = true then some (.inr (.inl ((6, ()), (), ()))) else some (.inl ((p, (i : Int), ()), (), ())) := by
  have hl : (p.2.2.1.take i).length = i := by simp; omega
  have key := scan_loop (step := l_spec_l6Rest_9) (γ := denO o_spec_l6Rest_9) (fun k => ((p, (i : Int), (), ((k : Nat) : Int), ()), ((b.1, b.2.1, ()), ()), ())) (p.2.2.1.take i)
    (fun _ o => if sameB b o = true then some () else none) (fun _ => some (.inr (.inl ((6, ()), (), ())))) (some (.inl ((p, (i : Int), ()), (), ()))) (leMax (by omega)) ?_ ?_
  · have h1 := scan_any (f := fun (_ : Nat) o => if sameB b o = true then some () else none) (p := sameB b) (m := p.2.2.1.take i) (i := 0) (fun j hj => by cases sameB b (p.2.2.1.take i)[j] <;> rfl)
    have e0 : ((0 : Nat) : Int) = 0 := rfl
    rw [e0] at key
    rw [key, ← h1]
    cases scan (fun (_ : Nat) o => if sameB b o = true then some () else none) 0 (p.2.2.1.take i) <;> rfl
  · intro rec k hk
    have hk' : k < i := by omega
    unfold l_spec_l6Rest_9
    dsimp only
    rw [if_pos (lt_t hk'), if_pos nat0, at_get (by omega), wrapS (by omega), List.getElem_take]
    show (if sameB p.2.2.1[k] b = true then _ else _) = _
    rw [sameB_comm]
    cases sameB b p.2.2.1[k] <;> rfl
  · intro rec
    unfold l_spec_l6Rest_9
    dsimp only
    rw [hl, if_neg lt_same]

theorem specPlan_loop (p : PolD) (h : p.1.length ≤ 1048576) (hm : p.2.2.2.1.length ≤ 1048576) :
    iterF l_spec_l6Rest_16 lots ((p, 0, ()), (), ()) = match scan (fun (_ : Nat) (s : TwoD) => if isG p s.1 = true then (if inB s.2.1 1 50 = true then none else some (3 : Int)) else some 4) 0 p.2.2.2.1 with
      | some c => some (.inr (.inl ((c, ()), (), ()))) | none => some (.inl ((), (), ())) := by
  have key := scan_loop (step := l_spec_l6Rest_16) (γ := denO o_spec_l6Rest_16) (fun i => ((p, ((i : Nat) : Int), ()), (), ())) p.2.2.2.1 (fun (_ : Nat) (s : TwoD) => if isG p s.1 = true then (if inB s.2.1 1 50 = true then none else some (3 : Int)) else some 4) (fun c => some (.inr (.inl ((c, ()), (), ())))) (some (.inl ((), (), ()))) (leMax hm) ?_ ?_
  · have e0 : ((0 : Nat) : Int) = 0 := rfl
    rw [e0] at key
    rw [key]
    cases scan (fun (_ : Nat) (s : TwoD) => if isG p s.1 = true then (if inB s.2.1 1 50 = true then none else some (3 : Int)) else some 4) 0 p.2.2.2.1 <;> rfl
  · intro rec i hi
    unfold l_spec_l6Rest_16
    dsimp only
    rw [if_pos (lt_t hi), if_pos nat0, at_get hi, l6Guest_eq p _ h, Option.bind_some]
    cases b1 : isG p (p.2.2.2.1[i]).1
    · simp
    · rw [if_neg (by simp), if_pos nat0, at_get hi, l1In_eq2, Option.bind_some]
      cases b2 : inB (p.2.2.2.1[i]).2.1 1 50
      · simp
      · rw [if_neg (by simp), wrapS (lt1 hi hm)]; simp
  · intro rec
    unfold l_spec_l6Rest_16
    dsimp only
    rw [if_neg lt_same]

theorem specRest_eq (p : PolD) (h : p.1.length ≤ 1048576) (h3 : p.2.2.1.length ≤ 1048576) (h4 : p.2.2.2.1.length ≤ 1048576) :
    F_spec_l6Rest (p, ()) = some ((match bellsM p with | some c => c | none => planM p, ()), ()) := by
  have key := scan_loop (step := l_spec_l6Rest_2) (γ := denO o_spec_l6Rest_2) (fun i => ((p, ((i : Nat) : Int), ()), (), ())) p.2.2.1 (fun i b => nz (bellM p b (p.2.2.1.take i)))
    (fun c => some (.inr (.inl ((c, ()), (), ())))) (some (.inl ((p, ()), (), ()))) (leMax h3) ?_ ?_
  · have e0 : ((0 : Nat) : Int) = 0 := rfl
    rw [e0] at key
    unfold F_spec_l6Rest bellsM
    show (iterF l_spec_l6Rest_2 lots ((p, 0, ()), (), ())).bind _ = _
    rw [key]
    cases scan (fun i b => nz (bellM p b (p.2.2.1.take i))) 0 p.2.2.1 with
    | some c => rfl
    | none =>
      rw [Option.bind_some]
      dsimp only
      unfold planM
      by_cases g1 : 1 ≤ p.2.2.2.1.length
      · rw [if_pos (by rw [ltI_f]; omega)]
        by_cases g2 : p.2.2.2.1.length ≤ 8
        · rw [if_neg (by rw [ltI_t]; omega), if_pos ⟨g1, g2⟩]
          show (iterF l_spec_l6Rest_16 lots ((p, 0, ()), (), ())).bind _ = _
          rw [specPlan_loop p h h4]
          cases scan (fun (_ : Nat) (s : TwoD) => if isG p s.1 = true then (if inB s.2.1 1 50 = true then none else some (3 : Int)) else some 4) 0 p.2.2.2.1 <;> rfl
        · rw [if_pos (by rw [ltI_t]; omega), if_neg (by omega)]
      · rw [if_neg (by rw [ltI_f]; omega), if_neg (by omega)]
  · intro rec i hi
    unfold l_spec_l6Rest_2
    dsimp only
    rw [if_pos (lt_t hi), if_pos nat0, at_get hi, ends_eq p _ _ h, Option.bind_some]
    generalize p.2.2.1[i] = b
    unfold bellM
    by_cases h0 : endsM p b.1 b.2.1 = 0
    · rw [h0, if_neg (by simp)]
      show (iterF l_spec_l6Rest_9 lots ((p, (i : Int), (), 0, ()), ((b.1, b.2.1, ()), ()), ())).bind _ = _
      rw [specBellAhead_eq p i hi h3 b]
      cases (p.2.2.1.take i).any (sameB b)
      · rw [if_neg (by simp), Option.bind_some]
        dsimp only
        rw [wrapS (lt1 hi h3)]
        rfl
      · rfl
    · simp [h0, nz]
  · intro rec
    unfold l_spec_l6Rest_2
    dsimp only
    rw [if_neg lt_same]

theorem implPlan_eq (p : PolD) (h : p.1.length ≤ 1048576) (hm : p.2.2.2.1.length ≤ 1048576) : F_impl_Policy_planFault (p, ()) = some ((planM p, ()), ()) := by
  have key := scan_loop (step := l_impl_Policy_planFault_4) (γ := denO o_impl_Policy_planFault_4) (fun i => ((p, p.2.2.2.1, ((p.2.2.2.1.length : Nat) : Int), ((i : Nat) : Int), ()), (), ())) p.2.2.2.1
    (fun (_ : Nat) (s : TwoD) => if isG p s.1 = true then (if inB s.2.1 1 50 = true then none else some (3 : Int)) else some 4) (fun c => some (.inr (.inl ((c, ()), (), ())))) (some (.inl ((), (), ()))) (leMax hm) ?_ ?_
  · have e0 : ((0 : Nat) : Int) = 0 := rfl
    rw [e0] at key
    unfold F_impl_Policy_planFault planM
    dsimp only
    rw [within_eq2, Option.bind_some]
    by_cases g : 1 ≤ p.2.2.2.1.length ∧ p.2.2.2.1.length ≤ 8
    · have : inB ((p.2.2.2.1.length : Nat) : Int) 1 8 = true := by unfold inB; simp; omega
      rw [this, if_neg (by simp), if_pos g]
      show (iterF l_impl_Policy_planFault_4 lots ((p, p.2.2.2.1, ((p.2.2.2.1.length : Nat) : Int), 0, ()), (), ())).bind _ = _
      rw [key]
      cases scan (fun (_ : Nat) (s : TwoD) => if isG p s.1 = true then (if inB s.2.1 1 50 = true then none else some (3 : Int)) else some 4) 0 p.2.2.2.1 <;> rfl
    · have : inB ((p.2.2.2.1.length : Nat) : Int) 1 8 = false := by unfold inB; simp; omega
      rw [this, if_pos (by simp), if_neg g]
  · intro rec i hi
    unfold l_impl_Policy_planFault_4
    dsimp only
    rw [if_pos (lt_t hi), if_pos nat0, at_get hi, isGuest_eq p _ h, Option.bind_some, within_eq2, Option.bind_some, wrapS (lt1 hi hm)]
    cases b1 : isG p (p.2.2.2.1[i]).1
    · simp
    · cases b2 : inB (p.2.2.2.1[i]).2.1 1 50 <;> simp
  · intro rec
    unfold l_impl_Policy_planFault_4
    dsimp only
    rw [if_neg lt_same]

/-! what is owned -/
def own1 (l : List Int) : Option Int := if 1 ≤ l.length ∧ l.length ≤ 5 then scan (fun (_ : Nat) x => if inB x 0 23 = true then none else some (3 : Int)) 0 l else some 2
def dupM : List Int → List Int → Bool
  | _, [] => false
  | seen, x :: r => seen.contains x || dupM (seen ++ [x]) r
def ownsM (own : List (List Int)) : Int := if 1 ≤ own.length ∧ own.length ≤ 3 then (match scan (fun (_ : Nat) l => own1 l) 0 own with | some c => c | none => if dupM [] own.flatten = true then 6 else 0) else 2

theorem specOwn1_eq {T : Type} (p : PolD) (i : Nat) (hi : i < p.1.length) (hl : (p.1[i]).length ≤ 1048576) (a1 a2 : PolD) (b1 b2 : List (List Int)) (c : Int) (d1 d2 : List Int) (e1 : Int) (e2 : Bool) :
    ((scan (fun (_ : Nat) x => if inB x 0 23 = true then none else some (3 : Int)) 0 p.1[i] = none ∧ ∃ x, iterF l_spec_l6Owns_9 lots ((p, (i : Int), 0, a1, a2, b1, b2, c, d1, d2, e1, e2, ()), (), ()) = some (.inl x) ∧ x.1.1 = p ∧ x.1.2.1 = (i : Int)) ∨
     (scan (fun (_ : Nat) x => if inB x 0 23 = true then none else some (3 : Int)) 0 p.1[i] = some 3 ∧ iterF l_spec_l6Owns_9 lots ((p, (i : Int), 0, a1, a2, b1, b2, c, d1, d2, e1, e2, ()), (), ()) = some (.inr (.inl ((3, ()), (), ()))))) := by
  have key := scan_loop (step := l_spec_l6Owns_9) (γ := denO o_spec_l6Owns_9) (fun k => ((p, (i : Int), ((k : Nat) : Int), a1, a2, b1, b2, c, d1, d2, e1, e2, ()), (), ())) p.1[i]
    (fun (_ : Nat) x => if inB x 0 23 = true then none else some (3 : Int)) (fun c => some (.inr (.inl ((c, ()), (), ())))) (some (.inl ((p, (i : Int), a1, a2, b1, b2, c, d1, d2, e1, e2, ()), (), ()))) (leMax hl) ?_ ?_
  · have e0 : ((0 : Nat) : Int) = 0 := rfl
    rw [e0] at key
    rw [key]
    cases hs : scan (fun (_ : Nat) x => if inB x 0 23 = true then none else some (3 : Int)) 0 p.1[i] with
    | none => exact .inl ⟨rfl, _, rfl, rfl, rfl⟩
    | some c =>
      have : c = 3 := scan_le (P := fun c => c = 3) (fun j hj c hc => by
        split at hc
        · cases hc
        · exact (Option.some.inj hc).symm) c hs
      subst this
      exact .inr ⟨rfl, rfl⟩
  · intro rec k hk
    unfold l_spec_l6Owns_9
    dsimp only
    rw [if_pos nat0, at_get hi, if_pos (lt_t hk), if_pos nat0, at_get hi, if_pos nat0, at_get hk, l1In_eq2, Option.bind_some, wrapS (lt1 hk hl)]
    cases inB (p.1[i])[k] 0 23 <;> rfl
  · intro rec
    unfold l_spec_l6Owns_9
    dsimp only
    rw [if_pos nat0, at_get hi, if_neg lt_same]

theorem dupM_append : ∀ (l seen r : List Int), dupM seen (l ++ r) = (dupM seen l || dupM (seen ++ l) r)
  | [], seen, r => by simp [dupM]
  | x :: l, seen, r => by
    simp only [List.cons_append, dupM, dupM_append l (seen ++ [x]) r, Bool.or_assoc, List.append_assoc, List.singleton_append, List.nil_append]

theorem specSeen_eq (p : PolD) (seen : List Int) (i : Nat) (hi : i < p.1.length) (hl : (p.1[i]).length ≤ 1048576) (hs : seen.length ≤ 4194304) (hs2 : seen.length + (p.1[i]).length ≤ 1048576) :
    iterF l_spec_l6Owns_18 lots ((p, seen, (i : Int), 0, ()), (), ()) = if dupM seen p.1[i] = true then some (.inr (.inl ((6, ()), (), ()))) else some (.inl ((p, seen ++ p.1[i], (i : Int), ()), (), ())) := by
  have key := loopN (step := l_spec_l6Owns_18) (γ := denO o_spec_l6Owns_18) (fun k (s : List Int) => ((p, s, (i : Int), ((k : Nat) : Int), ()), (), ())) (p.1[i]).length (lots_gt' (leMax hl)) (fun k s => s = seen ++ (p.1[i]).take k)
    (fun k s => if dupM s ((p.1[i]).drop k) = true then some (.inr (.inl ((6, ()), (), ()))) else some (.inl ((p, seen ++ p.1[i], (i : Int), ()), (), ()))) ?_ 0 seen (by omega) (by simp)
  · exact key
  · rintro rec k s hk hsk ih
    unfold l_spec_l6Owns_18
    dsimp only
    rw [if_pos nat0, at_get hi]
    by_cases hlt : k < (p.1[i]).length
    · have hsl : s.length = seen.length + k := by rw [hsk]; simp; omega
      rw [if_pos (lt_t hlt), if_pos nat0, at_get hi, if_pos nat0, at_get hlt, l1Has_eq _ _ (by omega), Option.bind_some, drop_get hlt]
      rw [show dupM s ((p.1[i])[k] :: (p.1[i]).drop (k + 1)) = (s.contains (p.1[i])[k] || dupM (s ++ [(p.1[i])[k]]) ((p.1[i]).drop (k + 1))) from rfl]
      by_cases hc : s.contains (p.1[i])[k] = true
      · rw [if_pos hc, hc]
        simp
      · rw [if_neg hc, if_pos nat0, at_get hi, if_pos nat0, at_get hlt, if_pos (by simp; omega), wrapS (lt1 hlt hl)]
        have hc' : s.contains (p.1[i])[k] = false := by simpa using hc
        rw [hc', Bool.false_or]
        refine ih _ hlt ?_
        rw [hsk, List.append_assoc, List.take_add_one, List.getElem?_eq_getElem hlt]
        rfl
    · rw [if_neg (lt_f hlt), drop_all hlt]
      rw [show dupM s [] = false from rfl]
      rw [hsk, List.take_of_length_le (by omega)]
      simp

theorem flat_take {own : List (List Int)} {i : Nat} (hi : i < own.length) : (own.take (i + 1)).flatten = (own.take i).flatten ++ own[i] := by
  have e : own.take (i + 1) = own.take i ++ [own[i]] := by rw [List.take_add_one, List.getElem?_eq_getElem hi]; rfl
  rw [e, List.flatten_append]
  simp

theorem own1_len {l : List Int} (h : own1 l = none) : l.length ≤ 5 := by
  unfold own1 at h
  split at h
  · rename_i h'; exact h'.2
  · cases h

theorem scan_none {α β : Type} {f : Nat → α → Option β} : ∀ {m : List α} {i : Nat}, scan f i m = none → ∀ j (h : j < m.length), f (i + j) m[j] = none
  | [], _, _, j, h => by simp at h
  | x :: r, i, hs, j, h => by
    simp only [scan] at hs
    split at hs
    · cases hs
    · rename_i h0
      cases j with
      | zero => simpa using h0
      | succ j =>
        have := scan_none hs j (by simpa using h)
        simpa [Nat.add_assoc, Nat.add_comm, Nat.add_left_comm] using this

theorem flat_len {own : List (List Int)} (h : ∀ j (hj : j < own.length), (own[j]).length ≤ 5) : ∀ i, i ≤ own.length → (own.take i).flatten.length ≤ 5 * i
  | 0, _ => by simp
  | i + 1, hi => by
    rw [flat_take (by omega), List.length_append]
    have := flat_len h i (by omega)
    have := h i (by omega)
    omega

theorem specOwns_eq (p : PolD) (h : p.1.length ≤ 1048576) (h2 : ∀ l ∈ p.1, l.length ≤ 1048576) : F_spec_l6Owns (p, ()) = some ((ownsM p.1, ()), ()) := by
  unfold F_spec_l6Owns ownsM
  dsimp only
  by_cases g1 : 1 ≤ p.1.length
  case neg => rw [if_neg (by rw [ltI_f]; omega), if_neg (by omega)]
  rw [if_pos (by rw [ltI_f]; omega)]
  by_cases g2 : p.1.length ≤ 3
  case neg => rw [if_pos (by rw [ltI_t]; omega), if_neg (by omega)]
  rw [if_neg (by rw [ltI_t]; omega), if_pos ⟨g1, g2⟩]
  have key := scan_loop (step := l_spec_l6Owns_4) (γ := denO o_spec_l6Owns_4) (fun i => ((p, ((i : Nat) : Int), ()), (), ())) p.1 (fun (_ : Nat) l => own1 l)
    (fun c => some (.inr (.inl ((c, ()), (), ())))) (some (.inl ((p, ()), (), ()))) (leMax h) ?_ ?_
  · have e0 : ((0 : Nat) : Int) = 0 := rfl
    rw [e0] at key
    show (iterF l_spec_l6Owns_4 lots ((p, 0, ()), (), ())).bind _ = _
    rw [key]
    cases hs : scan (fun (_ : Nat) l => own1 l) 0 p.1 with
    | some c => rfl
    | none =>
      rw [Option.bind_some]
      dsimp only
      have h5 : ∀ j (hj : j < p.1.length), (p.1[j]).length ≤ 5 := fun j hj => own1_len (scan_none hs j hj)
      have key2 := loopN (step := l_spec_l6Owns_15) (γ := denO o_spec_l6Owns_15) (fun k (s : List Int) => ((p, s, ((k : Nat) : Int), ()), (), ())) p.1.length (lots_gt' (leMax h)) (fun k s => s = (p.1.take k).flatten)
        (fun k s => if dupM s ((p.1.drop k).flatten) = true then some (.inr (.inl ((6, ()), (), ()))) else some (.inl ((), (), ()))) ?_ 0 [] (by omega) (by simp)
      · show (iterF l_spec_l6Owns_15 lots ((p, [], 0, ()), (), ())).bind _ = _
        rw [e0] at key2
        rw [key2, List.drop_zero]
        cases dupM [] p.1.flatten <;> rfl
      · rintro rec k s hk hsk ih
        unfold l_spec_l6Owns_15
        dsimp only
        by_cases hlt : k < p.1.length
        · have hfl := flat_len h5 k hk
          rw [← hsk] at hfl
          have := h5 k hlt
          rw [if_pos (lt_t hlt), drop_get hlt, List.flatten_cons, dupM_append]
          show (iterF l_spec_l6Owns_18 lots ((p, s, (k : Int), 0, ()), (), ())).bind _ = _
          rw [specSeen_eq p s k hlt (by omega) (by omega) (by omega)]
          cases hd : dupM s p.1[k]
          · rw [if_neg (by simp), Option.bind_some]
            dsimp only
            rw [wrapS (lt1 hlt h), Bool.false_or]
            exact ih _ hlt (by rw [hsk, flat_take hlt])
          · rfl
        · rw [if_neg (lt_f hlt), drop_all hlt]
          rfl
  · intro rec i hi
    unfold l_spec_l6Owns_4
    dsimp only
    have hl := h2 _ (List.getElem_mem hi)
    rw [if_pos (lt_t hi), if_pos nat0, at_get hi]
    unfold own1
    by_cases k1 : 1 ≤ (p.1[i]).length
    case neg => rw [if_neg (by rw [ltI_f]; omega), if_neg (by omega)]
    rw [if_pos (by rw [ltI_f]; omega), if_pos nat0, at_get hi]
    by_cases k2 : (p.1[i]).length ≤ 5
    case neg => rw [if_pos (by rw [ltI_t]; omega), if_neg (by omega)]
    rw [if_neg (by rw [ltI_t]; omega), if_pos ⟨k1, k2⟩]
    rcases specOwn1_eq (T := Unit) p i hi hl p p p.1 p.1 (i : Int) p.1[i] p.1[i] (((p.1[i]).length : Nat) : Int) (ltI 5 (((p.1[i]).length : Nat) : Int)) with ⟨g, x, g3, g4, g5⟩ | ⟨g, g3⟩
    · show (iterF l_spec_l6Owns_9 lots _).bind _ = _
      rw [g, g3, Option.bind_some]
      dsimp only
      rw [g4, g5, wrapS (lt1 hi h)]
    · show (iterF l_spec_l6Owns_9 lots _).bind _ = _
      rw [g, g3]
      rfl
  · intro rec
    unfold l_spec_l6Owns_4
    dsimp only
    rw [if_neg lt_same]

theorem getM_setM (es : List (Int × Bool)) (x y : Int) : getM (setM es x true) y = (y == x || getM es y) := by
  induction es with
  | nil => 
    simp only [setM, getM]
    by_cases e : x = y
    · subst e; simp
    · rw [if_neg e]; simp [Ne.symm e]
  | cons a r ih =>
    simp only [setM, getM]
    by_cases e : a.1 = x
    · rw [if_pos e]
      simp only [getM]
      by_cases e2 : x = y
      · subst e2; simp
      · rw [if_neg e2, if_neg (by rw [e]; exact e2)]; simp [Ne.symm e2]
    · rw [if_neg e]
      simp only [getM]
      by_cases e2 : a.1 = y
      · subst e2; rw [if_pos rfl, if_pos rfl]; simp [e]
      · rw [if_neg e2, if_neg e2, ih]

theorem implPages_eq {T1 T2 T3 : Int} (es : List (Int × Bool)) (t : Bool) (own : List (List Int)) (a b : Int) (l : List Int) (hl : l.length ≤ 1048576) (seen : List Int) (hes : ∀ y, getM es y = seen.contains y) :
    (∃ es', scan (fun (_ : Nat) x => if inB x 0 23 = true then none else some (3 : Int)) 0 l = none ∧ (∀ y, getM es' y = (seen ++ l).contains y) ∧
      iterF l_impl_Policy_ownFault_10 lots ((es, t, own, a, b, l, ((l.length : Nat) : Int), 0, ()), (), ()) = some (.inl ((es', t || dupM seen l, own, a, b, ()), (), ()))) ∨
    (scan (fun (_ : Nat) x => if inB x 0 23 = true then none else some (3 : Int)) 0 l = some 3 ∧ iterF l_impl_Policy_ownFault_10 lots ((es, t, own, a, b, l, ((l.length : Nat) : Int), 0, ()), (), ()) = some (.inr (.inl ((3, ()), (), ())))) := by
  have key : ∀ n (k : Nat) (es : List (Int × Bool)) (t : Bool) (seen : List Int), l.length - k < n → k ≤ l.length → (∀ y, getM es y = seen.contains y) →
      (∃ es', scan (fun (_ : Nat) x => if inB x 0 23 = true then none else some (3 : Int)) k (l.drop k) = none ∧ (∀ y, getM es' y = (seen ++ l.drop k).contains y) ∧
      iterF l_impl_Policy_ownFault_10 n ((es, t, own, a, b, l, ((l.length : Nat) : Int), ((k : Nat) : Int), ()), (), ()) = some (.inl ((es', t || dupM seen (l.drop k), own, a, b, ()), (), ()))) ∨
      (scan (fun (_ : Nat) x => if inB x 0 23 = true then none else some (3 : Int)) k (l.drop k) = some 3 ∧ iterF l_impl_Policy_ownFault_10 n ((es, t, own, a, b, l, ((l.length : Nat) : Int), ((k : Nat) : Int), ()), (), ()) = some (.inr (.inl ((3, ()), (), ())))) := by
    intro n
    induction n with
    | zero => intro k _ _ _ h; omega
    | succ n ih =>
      intro k es t seen hn hk hes
      simp only [iterF]
      generalize iterF l_impl_Policy_ownFault_10 n = rec at ih ⊢
      by_cases hlt : k < l.length
      · have hw : IntKind.i64.wrap ((k : Int) + 1) = ((k + 1 : Nat) : Int) := wrapS (lt1 hlt hl)
        rw [drop_get hlt]
        simp only [scan, dupM]
        have hes2 : ∀ y, getM (setM es l[k] true) y = (seen ++ [l[k]]).contains y := by
          intro y
          rw [getM_setM, hes]
          rw [Bool.eq_iff_iff]
          simp [or_comm]
        cases hb : inB l[k] 0 23
        · right
          refine ⟨by simp, ?_⟩
          unfold l_impl_Policy_ownFault_10
          dsimp only
          rw [if_pos (lt_t hlt), if_pos nat0, at_get hlt, within_eq2, Option.bind_some, hb]
          rfl
        · have go : l_impl_Policy_ownFault_10 rec ((es, t, own, a, b, l, ((l.length : Nat) : Int), ((k : Nat) : Int), ()), (), ()) = rec ((setM es l[k] true, t || seen.contains l[k], own, a, b, l, ((l.length : Nat) : Int), ((k + 1 : Nat) : Int), ()), (), ()) := by
            unfold l_impl_Policy_ownFault_10
            dsimp only
            rw [if_pos (lt_t hlt), if_pos nat0, at_get hlt, within_eq2, Option.bind_some, hb, if_neg (by simp), hw, ← hes]
            cases t <;> rfl
          rw [go]
          rcases ih (k + 1) (setM es l[k] true) (t || seen.contains l[k]) (seen ++ [l[k]]) (by omega) (by omega) hes2 with ⟨es', g1, g2, g3⟩ | ⟨g1, g2⟩
          · left
            refine ⟨es', by simpa using g1, fun y => by rw [g2]; simp, ?_⟩
            rw [g3, Bool.or_assoc]
          · right
            exact ⟨by simpa using g1, g2⟩
      · left
        rw [drop_all hlt]
        refine ⟨es, rfl, by simpa using hes, ?_⟩
        unfold l_impl_Policy_ownFault_10
        dsimp only
        rw [if_neg (lt_f hlt)]
        simp [dupM]
  simpa using key lots 0 es t seen (by have := lots_gt' (leMax hl); omega) (by omega) hes

theorem implOwns_eq (p : PolD) (h : p.1.length ≤ 1048576) (h2 : ∀ l ∈ p.1, l.length ≤ 1048576) : F_impl_Policy_ownFault (p, ()) = some ((ownsM p.1, ()), ()) := by
  unfold F_impl_Policy_ownFault ownsM
  dsimp only
  rw [within_eq2, Option.bind_some]
  by_cases g : 1 ≤ p.1.length ∧ p.1.length ≤ 3
  case neg =>
    have : inB ((p.1.length : Nat) : Int) 1 3 = false := by unfold inB; simp; omega
    rw [this, if_pos (by simp), if_neg g]
  have : inB ((p.1.length : Nat) : Int) 1 3 = true := by unfold inB; simp; omega
  rw [this, if_neg (by simp), if_pos g]
  have key : ∀ n (k : Nat) (es : List (Int × Bool)) (t : Bool) (seen : List Int), p.1.length - k < n → k ≤ p.1.length → (∀ y, getM es y = seen.contains y) →
      (iterF l_impl_Policy_ownFault_5 n ((es, t, p.1, ((p.1.length : Nat) : Int), ((k : Nat) : Int), ()), (), ()) = match scan (fun (_ : Nat) l => own1 l) k (p.1.drop k) with
        | some c => some (.inr (.inl ((c, ()), (), ()))) | none => some (.inl ((t || dupM seen (p.1.drop k).flatten, ()), (), ()))) := by
    intro n
    induction n with
    | zero => intro k _ _ _ h; omega
    | succ n ih =>
      intro k es t seen hn hk hes
      simp only [iterF]
      generalize iterF l_impl_Policy_ownFault_5 n = rec at ih ⊢
      by_cases hlt : k < p.1.length
      · have hl := h2 _ (List.getElem_mem hlt)
        rw [drop_get hlt]
        simp only [scan, List.flatten_cons, dupM_append]
        unfold l_impl_Policy_ownFault_5 own1
        dsimp only
        rw [if_pos (lt_t hlt), if_pos nat0, at_get hlt, within_eq2, Option.bind_some]
        by_cases g1 : 1 ≤ (p.1[k]).length ∧ (p.1[k]).length ≤ 5
        · have : inB (((p.1[k]).length : Nat) : Int) 1 5 = true := by unfold inB; simp; omega
          rw [this, if_neg (by simp), if_pos g1]
          rcases implPages_eq (T1 := 0) (T2 := 0) (T3 := 0) es t p.1 ((p.1.length : Nat) : Int) ((k : Nat) : Int) p.1[k] hl seen hes with ⟨es', q1, q2, q3⟩ | ⟨q1, q2⟩
          · show (iterF l_impl_Policy_ownFault_10 lots _).bind _ = _
            rw [q1, q3, Option.bind_some]
            dsimp only
            rw [wrapS (lt1 hlt h), ih (k + 1) es' _ (seen ++ p.1[k]) (by omega) (by omega) q2, Bool.or_assoc]
            rfl
          · show (iterF l_impl_Policy_ownFault_10 lots _).bind _ = _
            rw [q1, q2]
            rfl
        · have : inB (((p.1[k]).length : Nat) : Int) 1 5 = false := by unfold inB; simp; omega
          rw [this, if_pos (by simp), if_neg g1]
      · rw [drop_all hlt]
        unfold l_impl_Policy_ownFault_5
        dsimp only
        rw [if_neg (lt_f hlt)]
        simp [scan, dupM]
  have k0 := key lots 0 [] false [] (by have := lots_gt' (leMax h); omega) (by omega) (fun y => by simp [getM])
  have e0 : ((0 : Nat) : Int) = 0 := rfl
  rw [e0, List.drop_zero] at k0
  show (iterF l_impl_Policy_ownFault_5 lots (([], false, p.1, ((p.1.length : Nat) : Int), 0, ()), (), ())).bind _ = _
  rw [k0]
  cases scan (fun (_ : Nat) l => own1 l) 0 p.1 with
  | some c => rfl
  | none =>
    rw [Option.bind_some]
    dsimp only
    cases dupM [] p.1.flatten <;> rfl

end Go.Proofs.Yteddlkdbefloaaa
