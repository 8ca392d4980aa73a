/- Plain laws: what the functions compute, and that both programs compute the same. -/
import Derived.Test.YtimbcpeilkaahaaGreatPo1
namespace Go.Proofs.YtimbcpeilkaahaaGreat
open Go Go.RowKit S Go.Proofs
set_option maxRecDepth 100000
set_option linter.unusedVariables false
set_option linter.unusedSimpArgs false
theorem implPage_eq (m : List Int) (p : Int) (hm : m.length ≤ 192) (hp : 0 ≤ p ∧ 8 * p + 8 ≤ (m.length : Int)) : F_impl_pageOf (m, p, ()) = some ((pg m p, ()), ()) := by
  obtain ⟨P, rfl⟩ : ∃ P : Nat, p = (P : Int) := ⟨p.toNat, by omega⟩
  rw [pageOf_eq m P (by omega) hm]
  unfold pg
  rw [Int.toNat_natCast]

def givesM (g : Int) (b : Bool) : List LaneD → List Int
  | [] => []
  | l :: r => if l.1 = g then (if b = true then l.2.2.1 else l.2.2.2.1) :: givesM g b r else givesM g b r

theorem givesM_len (g : Int) (b : Bool) : ∀ ls : List LaneD, (givesM g b ls).length ≤ ls.length
  | [] => by simp [givesM]
  | l :: r => by
    have := givesM_len g b r
    simp only [givesM]
    split
    · simp only [List.length_cons]; omega
    · simp only [List.length_cons]; omega

theorem givesM_mem {g : Int} {b : Bool} : ∀ {ls : List LaneD}, ∀ v ∈ givesM g b ls, ∃ l ∈ ls, l.1 = g ∧ v = if b = true then l.2.2.1 else l.2.2.2.1
  | [], v, h => by simp [givesM] at h
  | l :: r, v, h => by
    simp only [givesM] at h
    split at h
    · rename_i hg
      rcases List.mem_cons.1 h with h | h
      · exact ⟨l, by simp, hg, h⟩
      · obtain ⟨l', h1, h2⟩ := givesM_mem v h
        exact ⟨l', by simp [h1], h2⟩
    · obtain ⟨l', h1, h2⟩ := givesM_mem v h
      exact ⟨l', by simp [h1], h2⟩

theorem gives_eq (p : PolD) (g : Int) (b : Bool) (hl : p.2.1.length ≤ 4) : F_spec_l13Gives (p, g, b, ()) = some ((givesM g b p.2.1, ()), ()) := by
  have key := loopN (step := l_spec_l13Gives_3) (γ := denO o_spec_l13Gives_3) (fun k (out : List Int) => ((p, g, b, out, ((k : Nat) : Int), ()), (), ())) p.2.1.length (lots_gt' (by omega)) (fun k out => out.length ≤ k)
    (fun k out => some (.inl ((out ++ givesM g b (p.2.1.drop k), ()), (), ()))) ?_ 0 [] (by omega) (by simp)
  · have e0 : ((0 : Nat) : Int) = 0 := rfl
    rw [e0, List.drop_zero, List.nil_append] at key
    unfold F_spec_l13Gives
    show (iterF l_spec_l13Gives_3 lots _).bind _ = _
    rw [key, Option.bind_some]
  · rintro rec k out hk ho ih
    unfold l_spec_l13Gives_3
    dsimp only
    by_cases hlt : k < p.2.1.length
    · rw [if_pos (lt_t hlt), if_pos nat0, at_get hlt, drop_get hlt, givesM, wrapS (by omega)]
      by_cases h : (p.2.1[k]).1 = g
      · rw [if_neg (by simpa using h), if_pos h]
        cases b
        · rw [if_neg (by simp), if_pos nat0, at_get hlt, if_pos (by simp only [List.length_cons, List.length_nil]; omega), ih _ hlt (by simp; omega), if_neg (by simp), List.append_assoc]
          rfl
        · rw [if_pos rfl, if_pos nat0, at_get hlt, if_pos (by simp only [List.length_cons, List.length_nil]; omega), ih _ hlt (by simp; omega), if_pos rfl, List.append_assoc]
          rfl
      · rw [if_pos (by simpa using h), if_neg h]
        exact ih _ hlt (by omega)
    · rw [if_neg (lt_f hlt), drop_all hlt, givesM, List.append_nil]

def zeroH : HartD := ([], 0, [], false, false, false, 0, [], [], ())

theorem l8Copy_eq (h : HartD) (hl : hartLe 1048576 h) : F_spec_l8Copy (h, ()) = some ((h, ()), ()) := by
  obtain ⟨l1, l2, l3, l4⟩ := hl
  unfold F_spec_l8Copy
  dsimp only
  rw [if_pos (by simp only [List.length_nil]; omega), if_pos (by simp only [List.length_nil]; omega), if_pos (by simp only [List.length_nil]; omega), if_pos (by simp only [List.length_nil]; omega)]
  rfl

theorem clone_eq (m : List Int) (h : m.length ≤ 1048576) : F_slices_Clone_int64 (m, ()) = some ((m, ()), ()) := by
  unfold F_slices_Clone_int64
  rw [if_pos (by simp only [List.length_nil]; omega)]
  rfl

theorem hartOwn_eq (h : HartD) (hl : hartLe 1048576 h) : F_impl_Hart_own (h, ()) = some ((h, ()), ()) := by
  obtain ⟨l1, l2, l3, l4⟩ := hl
  unfold F_impl_Hart_own
  dsimp only
  rw [clone_eq _ l1, Option.bind_some, clone_eq _ l2, Option.bind_some, clone_eq _ l3, Option.bind_some, clone_eq _ l4, Option.bind_some]

abbrev ViewR := Int × List Int × Int × List Int × Bool × Bool × Bool × Int × List Int × List Int × List Int × List Int × Unit

/-- A view with a code, cell by cell. -/
def viewR (c : Int) (h : HartD) (o g : List Int) : ViewR := (c, h.1, h.2.1, h.2.2.1, h.2.2.2.1, h.2.2.2.2.1, h.2.2.2.2.2.1, h.2.2.2.2.2.2.1, h.2.2.2.2.2.2.2.1, h.2.2.2.2.2.2.2.2.1, o, g, ())

/-- A view's six rows are not too long. -/
def vrLe (r : ViewR) : Prop := r.2.1.length ≤ 1048576 ∧ r.2.2.2.1.length ≤ 1048576 ∧ r.2.2.2.2.2.2.2.2.1.length ≤ 1048576 ∧ r.2.2.2.2.2.2.2.2.2.1.length ≤ 1048576 ∧ r.2.2.2.2.2.2.2.2.2.2.1.length ≤ 1048576 ∧ r.2.2.2.2.2.2.2.2.2.2.2.1.length ≤ 1048576

theorem zero_vrLe (c : Int) : vrLe (viewR c zeroH [] []) := by unfold vrLe viewR zeroH; simp

/-- A view as the laws take it. -/
def vrV (r : ViewR) : Int × ViewD × Unit := (r.1, ((r.2.1, r.2.2.1, r.2.2.2.1, r.2.2.2.2.1, r.2.2.2.2.2.1, r.2.2.2.2.2.2.1, r.2.2.2.2.2.2.2.1, r.2.2.2.2.2.2.2.2.1, r.2.2.2.2.2.2.2.2.2.1, ()), r.2.2.2.2.2.2.2.2.2.2.1, r.2.2.2.2.2.2.2.2.2.2.2.1, ()), ())

theorem eqView2_eq (r : ViewR) (h : vrLe r) : F_laws_eqViewResult (vrV r, vrV r, ()) = some ((true, ()), ()) := by
  obtain ⟨h1, h2, h3, h4, h5, h6⟩ := h
  unfold F_laws_eqViewResult vrV
  dsimp only
  rw [if_neg (by simp), eqView_eq _ ⟨⟨h1, h2, h3, h4⟩, h5, h6⟩, Option.bind_some, if_neg (by simp)]

/-- The marked rows, and how far they count. -/
def vrK (r : ViewR) : Int × Int × Int × Int × Int × Int :=
  let k1 := 1 + (r.2.1.length : Int)
  let k2 := k1 + (r.2.2.2.1.length : Int)
  let k3 := k2 + (r.2.2.2.2.2.2.2.2.1.length : Int)
  let k4 := k3 + (r.2.2.2.2.2.2.2.2.2.1.length : Int)
  let k5 := k4 + (r.2.2.2.2.2.2.2.2.2.2.1.length : Int)
  (k1, k2, k3, k4, k5, k5 + (r.2.2.2.2.2.2.2.2.2.2.2.1.length : Int))

abbrev Six := List Int × List Int × List Int × List Int × List Int × List Int × Unit

def vrS (r : ViewR) : Six := (seqFrom 1 r.2.1.length, seqFrom (vrK r).1 r.2.2.2.1.length, seqFrom (vrK r).2.1 r.2.2.2.2.2.2.2.2.1.length, seqFrom (vrK r).2.2.1 r.2.2.2.2.2.2.2.2.2.1.length, seqFrom (vrK r).2.2.2.1 r.2.2.2.2.2.2.2.2.2.2.1.length, seqFrom (vrK r).2.2.2.2.1 r.2.2.2.2.2.2.2.2.2.2.2.1.length, ())

theorem vrS_len (r : ViewR) : (vrS r).1.length = r.2.1.length ∧ (vrS r).2.1.length = r.2.2.2.1.length ∧ (vrS r).2.2.1.length = r.2.2.2.2.2.2.2.2.1.length ∧ (vrS r).2.2.2.1.length = r.2.2.2.2.2.2.2.2.2.1.length ∧ (vrS r).2.2.2.2.1.length = r.2.2.2.2.2.2.2.2.2.2.1.length ∧ (vrS r).2.2.2.2.2.1.length = r.2.2.2.2.2.2.2.2.2.2.2.1.length := by
  unfold vrS; simp [seqFrom_len]

theorem markView_eq (r : ViewR) (h : vrLe r) : F_laws_markViewResult ((r.1, r.2.1, r.2.2.1, r.2.2.2.1, r.2.2.2.2.1, r.2.2.2.2.2.1, r.2.2.2.2.2.2.1, r.2.2.2.2.2.2.2.1, r.2.2.2.2.2.2.2.2.1, r.2.2.2.2.2.2.2.2.2.1, r.2.2.2.2.2.2.2.2.2.2.1, r.2.2.2.2.2.2.2.2.2.2.2.1, ()), 1, ()) = some (((vrK r).2.2.2.2.2, ()), (vrS r, ())) := by
  obtain ⟨h1, h2, h3, h4, h5, h6⟩ := h
  unfold F_laws_markViewResult F_laws_markView F_laws_markHart
  dsimp only
  rw [mark_eq _ 1 h1 (by omega), Option.bind_some]
  dsimp only
  rw [if_pos (by simp [seqFrom_len]), mark_eq _ _ h2 (by omega), Option.bind_some]
  dsimp only
  rw [if_pos (by simp [seqFrom_len]), mark_eq _ _ h3 (by omega), Option.bind_some]
  dsimp only
  rw [if_pos (by simp [seqFrom_len]), mark_eq _ _ h4 (by omega), Option.bind_some]
  dsimp only
  rw [if_pos (by simp [seqFrom_len]), if_pos (by simp [seqFrom_len]), Option.bind_some]
  dsimp only
  rw [if_pos (by simp [seqFrom_len]), mark_eq _ _ h5 (by omega), Option.bind_some]
  dsimp only
  rw [if_pos (by simp [seqFrom_len]), mark_eq _ _ h6 (by omega), Option.bind_some]
  dsimp only
  rw [if_pos (by simp [seqFrom_len]), if_pos (by simp [seqFrom_len]), Option.bind_some]
  dsimp only
  rw [if_pos (by simp [seqFrom_len]), if_pos (by simp [seqFrom_len])]
  rfl

theorem heldView_eq (c pc : Int) (b1 b2 b3 : Bool) (d : Int) (r : ViewR) (h : vrLe r) :
    F_laws_heldViewResult ((c, (((vrS r).1, pc, (vrS r).2.1, b1, b2, b3, d, (vrS r).2.2.1, (vrS r).2.2.2.1, ()), (vrS r).2.2.2.2.1, (vrS r).2.2.2.2.2.1, ()), ()), 1, ()) = some (((vrK r).2.2.2.2.2, ()), ()) := by
  obtain ⟨h1, h2, h3, h4, h5, h6⟩ := h
  unfold F_laws_heldViewResult F_laws_heldView F_laws_heldHart vrS vrK
  simp only [ltI_eq, decide_eq_true_eq]
  rw [held_eq _ 1 h1 (by omega), Option.bind_some]
  dsimp only
  rw [if_neg (by omega), held_eq _ _ h2 (by omega), Option.bind_some]
  dsimp only
  rw [if_neg (by omega), held_eq _ _ h3 (by omega), Option.bind_some]
  dsimp only
  rw [if_neg (by omega), held_eq _ _ h4 (by omega), Option.bind_some]
  dsimp only
  rw [if_neg (by omega), Option.bind_some]
  dsimp only
  rw [if_neg (by omega), held_eq _ _ h5 (by omega), Option.bind_some]
  dsimp only
  rw [if_neg (by omega), held_eq _ _ h6 (by omega), Option.bind_some]
  dsimp only
  rw [if_neg (by omega), Option.bind_some]
  dsimp only
  rw [if_neg (by omega)]

theorem vrK_pos (r : ViewR) : ¬ ((vrK r).2.2.2.2.2 < 0) := by unfold vrK; dsimp only; omega

abbrev SoloD := HartD × List TwoD × List Int × Unit

/-- What is not right with an entry of a list of pages. -/
def pageF (top : Int) (p : TwoD) : Option Int := if inB p.1 (-1) (top - 1) = true then (if inB p.2.1 0 7 = true then (if p.1 = -1 then nz (if p.2.1 = 0 then 0 else 1) else none) else some 3) else some 3

def pagesM (l : List TwoD) (top : Int) : Int := if inB top 1 24 = true then (if l.length = 8 then (match scan (fun (_ : Nat) p => pageF top p) 0 l with | some c => c | none => 0) else 1) else 3

theorem specPagesF_eq (l : List TwoD) (top : Int) (hl : l.length ≤ 1048576) : F_spec_PagesFault (l, top, ()) = some ((pagesM l top, ()), ()) := by
  unfold F_spec_PagesFault pagesM
  dsimp only
  rw [l1In_eq2, Option.bind_some]
  dsimp only
  by_cases ht : inB top 1 24 = true
  case neg => rw [if_pos (by simpa using ht), if_neg ht]
  rw [if_neg (by simpa using ht), if_pos ht]
  by_cases h8 : l.length = 8
  case neg => rw [if_pos (by simp; omega), if_neg h8]
  rw [if_neg (by rw [h8]; decide), if_pos h8]
  have hb := inB_t.1 ht
  have key := scan_loop (step := l_spec_PagesFault_6) (γ := denO o_spec_PagesFault_6) (fun i => ((l, top, ((i : Nat) : Int), ()), (), ())) l (fun (_ : Nat) p => pageF top p) (fun c => some (.inr (.inl ((c, ()), (), ())))) (some (.inl ((), (), ()))) (leMax hl) ?_ ?_
  · have e0 : ((0 : Nat) : Int) = 0 := rfl
    rw [e0] at key
    show (iterF l_spec_PagesFault_6 lots ((l, top, 0, ()), (), ())).bind _ = _
    rw [key]
    cases scan (fun (_ : Nat) p => pageF top p) 0 l <;> rfl
  · intro rec i hi
    unfold l_spec_PagesFault_6
    dsimp only
    rw [if_pos (lt_t hi), if_pos nat0, at_get hi, wrap64 (n := top - 1) (by omega) (by omega), l1In_eq2, Option.bind_some, if_pos nat0, at_get hi, l1In_eq2, Option.bind_some, if_pos nat0, at_get hi, if_pos nat0, at_get hi, wrapS (lt1 hi hl)]
    dsimp only
    unfold pageF
    by_cases c1 : inB (l[i]).1 (-1) (top - 1) = true
    · have g1 := inB_t.1 c1
      rw [if_pos (show (!inB (l[i]).1 (-1) (top - 1)) = false by rw [c1]; rfl), if_pos c1]
      by_cases c2 : inB (l[i]).2.1 0 7 = true
      · rw [if_neg (by simpa using c2), if_pos c2]
        by_cases c3 : (l[i]).1 = -1
        · rw [if_pos (ltI_t.2 (by omega)), if_pos c3]
          by_cases c4 : (l[i]).2.1 = 0
          · rw [if_neg (by simpa using c4), if_pos c4]; rfl
          · rw [if_pos (by simpa using c4), if_neg c4]; rfl
        · rw [if_neg (by rw [ltI_t]; omega), if_neg c3]
      · rw [if_pos (by simpa using c2), if_neg c2]
    · rw [if_neg (by simpa using c1), if_neg c1]
  · intro rec
    unfold l_spec_PagesFault_6
    dsimp only
    rw [if_neg lt_same]

theorem implPagesF_eq (l : List TwoD) (top : Int) (hl : l.length ≤ 1048576) : F_impl_PagesFault (l, top, ()) = some ((pagesM l top, ()), ()) := by
  unfold F_impl_PagesFault pagesM
  dsimp only
  rw [within_eq2, Option.bind_some]
  dsimp only
  by_cases ht : inB top 1 24 = true
  case neg => rw [if_pos (by simpa using ht), if_neg ht]
  rw [if_neg (by simpa using ht), if_pos ht]
  by_cases h8 : l.length = 8
  case neg => rw [if_pos (by simp; omega), if_neg h8]
  rw [if_neg (by rw [h8]; decide), if_pos h8]
  have hb := inB_t.1 ht
  have key := scan_loop (step := l_impl_PagesFault_6) (γ := denO o_impl_PagesFault_6) (fun i => ((top, l, ((l.length : Nat) : Int), ((i : Nat) : Int), ()), (), ())) l (fun (_ : Nat) p => pageF top p) (fun c => some (.inr (.inl ((c, ()), (), ())))) (some (.inl ((), (), ()))) (leMax hl) ?_ ?_
  · have e0 : ((0 : Nat) : Int) = 0 := rfl
    rw [e0] at key
    show (iterF l_impl_PagesFault_6 lots ((top, l, ((l.length : Nat) : Int), 0, ()), (), ())).bind _ = _
    rw [key]
    cases scan (fun (_ : Nat) p => pageF top p) 0 l <;> rfl
  · intro rec i hi
    unfold l_impl_PagesFault_6
    dsimp only
    rw [if_pos (lt_t hi), if_pos nat0, at_get hi, wrap64 (n := top - 1) (by omega) (by omega), within_eq2, Option.bind_some, within_eq2, Option.bind_some, wrapS (lt1 hi hl)]
    dsimp only
    unfold pageF
    by_cases c1 : inB (l[i]).1 (-1) (top - 1) = true
    · have g1 := inB_t.1 c1
      rw [if_pos (show (!inB (l[i]).1 (-1) (top - 1)) = false by rw [c1]; rfl), if_pos c1]
      by_cases c2 : inB (l[i]).2.1 0 7 = true
      · rw [if_neg (by simpa using c2), if_pos c2]
        by_cases c3 : (l[i]).1 = -1
        · rw [if_pos (by simpa using c3), if_pos c3]
          by_cases c4 : (l[i]).2.1 = 0
          · rw [if_neg (by simpa using c4), if_pos c4]; rfl
          · rw [if_pos (by simpa using c4), if_neg c4]; rfl
        · rw [if_neg (by simpa using c3), if_neg c3]
      · rw [if_pos (by simpa using c2), if_neg c2]
    · rw [if_neg (by simpa using c1), if_neg c1]
  · intro rec
    unfold l_impl_PagesFault_6
    dsimp only
    rw [if_neg lt_same]

def soloLe (n : Nat) (x : SoloD) : Prop := hartLe n x.1 ∧ x.2.1.length ≤ n ∧ x.2.2.1.length ≤ n

def soloM (x : SoloD) : Int := if hartM x.1 ≠ 0 then hartM x.1 else if pagesM x.2.1 8 ≠ 0 then pagesM x.2.1 8 else if memFault x.2.2.1 = 0 ∧ x.2.2.1.length = 64 then 0 else 1

theorem soloTail {m : List Int} : (if (memFault m != 0) = false then (if (((m.length : Nat) : Int) != 64) = true then some ((((1 : Int), ()), ()) : (Int × Unit) × Unit) else some (((0 : Int), ()), ())) else some (((1 : Int), ()), ())) = some ((if memFault m = 0 ∧ m.length = 64 then 0 else 1, ()), ()) := by
  by_cases g2 : memFault m = 0
  · by_cases g3 : m.length = 64
    · simp [g2, g3]
    · have : ¬ ((m.length : Nat) : Int) = 64 := by omega
      simp [g2, g3, this]
  · simp [g2]

theorem specSolo_eq (x : SoloD) (h : soloLe 1048576 x) : F_spec_SoloFault (x, ()) = some ((soloM x, ()), ()) := by
  obtain ⟨h1, h2, h3⟩ := h
  unfold F_spec_SoloFault soloM
  dsimp only
  rw [specHart_eq _ h1, Option.bind_some]
  dsimp only
  by_cases g0 : hartM x.1 = 0
  case neg => rw [if_pos (c := (hartM x.1 != 0) = true) (by simpa using g0), if_pos (c := hartM x.1 ≠ 0) g0]
  rw [if_neg (c := (hartM x.1 != 0) = true) (by simpa using g0), if_neg (c := hartM x.1 ≠ 0) (by simpa using g0), specPagesF_eq _ _ h2, Option.bind_some]
  dsimp only
  by_cases g1 : pagesM x.2.1 8 = 0
  case neg => rw [if_pos (c := (pagesM x.2.1 8 != 0) = true) (by simpa using g1), if_pos (c := pagesM x.2.1 8 ≠ 0) g1]
  rw [if_neg (c := (pagesM x.2.1 8 != 0) = true) (by simpa using g1), if_neg (c := pagesM x.2.1 8 ≠ 0) (by simpa using g1), specFault_eq _ (leM h3), Option.bind_some]
  exact soloTail

theorem implSolo_eq (x : SoloD) (h : soloLe 1048576 x) : F_impl_SoloFault (x, ()) = some ((soloM x, ()), ()) := by
  obtain ⟨h1, h2, h3⟩ := h
  unfold F_impl_SoloFault soloM
  dsimp only
  rw [implHart_eq _ h1, Option.bind_some, implPagesF_eq _ _ h2, Option.bind_some, firstOf_eq, Option.bind_some]
  dsimp only
  by_cases g0 : hartM x.1 = 0
  case neg =>
    have e1 : (if hartM x.1 ≠ 0 then hartM x.1 else pagesM x.2.1 8) = hartM x.1 := if_pos g0
    rw [e1, if_pos (c := (hartM x.1 != 0) = true) (by simpa using g0), if_pos (c := hartM x.1 ≠ 0) g0]
  have e1 : (if hartM x.1 ≠ 0 then hartM x.1 else pagesM x.2.1 8) = pagesM x.2.1 8 := if_neg (by simpa using g0)
  rw [e1, if_neg (c := hartM x.1 ≠ 0) (by simpa using g0)]
  by_cases g1 : pagesM x.2.1 8 = 0
  case neg => rw [if_pos (c := (pagesM x.2.1 8 != 0) = true) (by simpa using g1), if_pos (c := pagesM x.2.1 8 ≠ 0) g1]
  rw [if_neg (c := (pagesM x.2.1 8 != 0) = true) (by simpa using g1), if_neg (c := pagesM x.2.1 8 ≠ 0) (by simpa using g1), implFault_eq _ (leM h3), Option.bind_some]
  exact soloTail

theorem solo_ok {x : SoloD} (h : soloM x = 0) : hartM x.1 = 0 ∧ pagesM x.2.1 8 = 0 ∧ memFault x.2.2.1 = 0 ∧ x.2.2.1.length = 64 := by
  unfold soloM at h
  split at h
  · rename_i g; exact absurd h g
  · rename_i g0
    split at h
    · rename_i g; exact absurd h g
    · rename_i g1
      split at h
      · rename_i g2; exact ⟨by simpa using g0, by simpa using g1, g2⟩
      · cases h

/-- Words of the first pages are the first words. -/
theorem words_seq (m : List Int) : ∀ (n k : Nat), wordsM m (seqFrom (k : Int) n) = (m.drop (8 * k)).take (8 * n)
  | 0, k => by simp [seqFrom, wordsM]
  | n + 1, k => by
    have ih := words_seq m n (k + 1)
    have e : ((k + 1 : Nat) : Int) = (k : Int) + 1 := by omega
    rw [e] at ih
    simp only [seqFrom, wordsM, List.flatMap_cons] at ih ⊢
    rw [ih]
    unfold pg
    rw [Int.toNat_natCast, show 8 * (n + 1) = 8 + 8 * n by omega, List.take_add, List.drop_drop]
    congr 2

theorem seqFrom_mem : ∀ {n : Nat} {k : Int} {v : Int}, v ∈ seqFrom k n → k ≤ v ∧ v < k + (n : Int)
  | 0, k, v, h => by simp [seqFrom] at h
  | n + 1, k, v, h => by
    simp only [seqFrom] at h
    rcases List.mem_cons.1 h with h | h
    · omega
    · have := seqFrom_mem h; omega

def soloViewM (p : PolD) (x : SoloD) (g : Int) : ViewR :=
  if askM p g ≠ 0 then viewR (askM p g) zeroH [] []
  else if soloM x ≠ 0 then viewR (soloM x) zeroH [] []
  else viewR 0 x.1 (x.2.2.1.take (8 * (p.1.getD g.toNat []).length)) (wordsM x.2.2.1 (givesM g false p.2.1))

theorem ask_guest {p : PolD} {g : Int} (h : askM p g = 0) : OkPol p ∧ 0 ≤ g ∧ p.1[g.toNat]? = some (p.1.getD g.toNat []) ∧ (p.1.getD g.toNat []).length ≤ 5 := by
  obtain ⟨hok, g0, g1⟩ := ask_ok h
  have hk : g.toNat < p.1.length := by omega
  have e1 : p.1[g.toNat]? = some (p.1.getD g.toNat []) := by rw [List.getD_eq_getElem?_getD, List.getElem?_eq_getElem hk]; rfl
  exact ⟨hok, g0, e1, (hok.own1 _ (List.mem_of_getElem? e1)).2.1⟩

theorem gives_in {p : PolD} (hok : OkPol p) {g : Int} {n : Nat} (hn : 64 ≤ n) : ∀ q ∈ givesM g false p.2.1, 0 ≤ q ∧ 8 * q + 8 ≤ (n : Int) := by
  intro q hq
  obtain ⟨l, hl, _, e⟩ := givesM_mem q hq
  rw [if_neg (by simp)] at e
  have := (okLane hok l hl).2.2.1
  omega

theorem specSoloView_eq (p : PolD) (x : SoloD) (g : Int) (hp : polLe 1048576 p) (hx : soloLe 1048576 x) : F_spec_SoloView (p, x, g, ()) = some ((soloViewM p x g, ()), ()) := by
  unfold F_spec_SoloView soloViewM
  dsimp only
  rw [specAsk_eq p g hp, Option.bind_some]
  dsimp only
  by_cases h0 : askM p g = 0
  case neg => rw [if_pos (by simpa using h0), if_pos h0]; rfl
  rw [if_neg (by simpa using h0), if_neg (by simpa using h0), specSolo_eq x hx, Option.bind_some]
  dsimp only
  by_cases h1 : soloM x = 0
  case neg => rw [if_pos (by simpa using h1), if_pos h1]; rfl
  rw [if_neg (by simpa using h1), if_neg (by simpa using h1)]
  obtain ⟨hok, g0, e1, hl5⟩ := ask_guest h0
  obtain ⟨_, _, _, hm⟩ := solo_ok h1
  generalize p.1.getD g.toNat [] = ow at *
  have key := loopN (step := l_spec_SoloView_9) (γ := denO o_spec_SoloView_9)
    (fun k (out : List Int) => ((g, (), (), (), out, ((k : Nat) : Int), ()), ((p.1, p.2.1, p.2.2.1, p.2.2.2.1, ()), (x.1.1, x.1.2.1, x.1.2.2.1, x.1.2.2.2.1, x.1.2.2.2.2.1, x.1.2.2.2.2.2.1, x.1.2.2.2.2.2.2.1, x.1.2.2.2.2.2.2.2.1, x.1.2.2.2.2.2.2.2.2.1, x.2.1, x.2.2.1, ()), (0, [], 0, [], false, false, false, 0, [], [], [], [], ()), ()), ()))
    ow.length (lots_gt' (by omega)) (fun k out => out.length = k)
    (fun k out => some (.inl ((g, (), (), (), out ++ seqFrom (k : Int) (ow.length - k), ()), ((p.1, p.2.1, p.2.2.1, p.2.2.2.1, ()), (x.1.1, x.1.2.1, x.1.2.2.1, x.1.2.2.2.1, x.1.2.2.2.2.1, x.1.2.2.2.2.2.1, x.1.2.2.2.2.2.2.1, x.1.2.2.2.2.2.2.2.1, x.1.2.2.2.2.2.2.2.2.1, x.2.1, x.2.2.1, ()), (0, [], 0, [], false, false, false, 0, [], [], [], [], ()), ()), ()))) ?_ 0 [] (by omega) rfl
  · have e0 : ((0 : Nat) : Int) = 0 := rfl
    rw [e0, Nat.sub_zero, List.nil_append] at key
    show (iterF l_spec_SoloView_9 lots _).bind _ = _
    rw [key, Option.bind_some]
    dsimp only
    show (F_spec_l8Copy (x.1, ())).bind _ = _
    have w0 := words_seq x.2.2.1 ow.length 0
    rw [e0, Nat.mul_zero, List.drop_zero] at w0
    rw [l8Copy_eq _ hx.1, Option.bind_some, specWords2_eq _ _ (by omega) (fun q hq => by have := seqFrom_mem hq; omega) (by rw [seqFrom_len]; omega), Option.bind_some, w0]
    show (F_spec_l13Gives (p, g, false, ())).bind _ = _
    rw [gives_eq p g false hok.lanes.1, Option.bind_some, specWords2_eq _ _ (by omega) (gives_in hok (by omega)) (by have := givesM_len g false p.2.1; have := hok.lanes.1; omega), Option.bind_some]
    rfl
  · rintro rec k out hk ho ih
    unfold l_spec_SoloView_9
    dsimp only
    rw [if_pos g0, e1, Option.bind_some]
    by_cases hlt : k < ow.length
    · rw [if_pos (lt_t hlt), if_pos (by simp only [List.length_cons, List.length_nil]; omega), wrapS (by omega), ih _ hlt (by simp [ho])]
      have e2 : ow.length - k = (ow.length - (k + 1)) + 1 := by omega
      have e3 : ((k + 1 : Nat) : Int) = (k : Int) + 1 := by omega
      rw [e2, seqFrom, e3, List.append_assoc]
      rfl
    · have e2 : ow.length - k = 0 := by omega
      rw [if_neg (lt_f hlt), e2, seqFrom, List.append_nil]

theorem implSoloView_eq (p : PolD) (x : SoloD) (g : Int) (hp : polLe 1048576 p) (hx : soloLe 1048576 x) : F_impl_SoloView (p, x, g, ()) = some ((soloViewM p x g, ()), ()) := by
  unfold F_impl_SoloView soloViewM
  dsimp only
  rw [implAsk_eq p g hp, Option.bind_some, implSolo_eq x hx, Option.bind_some, firstOf_eq, Option.bind_some]
  dsimp only
  by_cases h0 : askM p g = 0
  case neg =>
    have e1 : (if askM p g ≠ 0 then askM p g else soloM x) = askM p g := if_pos h0
    rw [e1, if_pos (by simpa using h0), if_pos h0]; rfl
  have e1 : (if askM p g ≠ 0 then askM p g else soloM x) = soloM x := if_neg (by simpa using h0)
  rw [e1, if_neg (c := askM p g ≠ 0) (by simpa using h0)]
  by_cases h1 : soloM x = 0
  case neg => rw [if_pos (by simpa using h1), if_pos h1]; rfl
  rw [if_neg (by simpa using h1), if_neg (by simpa using h1)]
  obtain ⟨hok, g0, e2, hl5⟩ := ask_guest h0
  obtain ⟨_, _, _, hm⟩ := solo_ok h1
  generalize p.1.getD g.toNat [] = ow at *
  unfold F_impl_Solo_viewOf
  dsimp only
  rw [hartOwn_eq _ hx.1, Option.bind_some, if_pos g0, e2, Option.bind_some, wrap64 (n := ((ow.length : Nat) : Int) * 8) (by omega) (by omega), if_pos ⟨by omega, by omega, by omega⟩]
  have e3 : (x.2.2.1.drop (0 : Int).toNat).take ((((ow.length : Nat) : Int) * 8).toNat - (0 : Int).toNat) = x.2.2.1.take (8 * ow.length) := by
    have a : (((ow.length : Nat) : Int) * 8).toNat - (0 : Int).toNat = 8 * ow.length := by omega
    rw [a]; rfl
  rw [e3, clone_eq _ (by simp; omega), Option.bind_some]
  dsimp only
  generalize x.2.2.1.take (8 * ow.length) = tk at *
  have key := loopN (step := l_impl_Solo_viewOf_3) (γ := denO o_impl_Solo_viewOf_3)
    (fun k (out : List Int) => ((g, (), (), (), p.2.1, ((p.2.1.length : Nat) : Int), ((k : Nat) : Int), ()), ((x.1.1, x.1.2.1, x.1.2.2.1, x.1.2.2.2.1, x.1.2.2.2.2.1, x.1.2.2.2.2.2.1, x.1.2.2.2.2.2.2.1, x.1.2.2.2.2.2.2.2.1, x.1.2.2.2.2.2.2.2.2.1, x.2.1, x.2.2.1, ()), ([], 0, [], false, false, false, 0, [], [], [], [], ()), (x.1.1, x.1.2.1, x.1.2.2.1, x.1.2.2.2.1, x.1.2.2.2.2.1, x.1.2.2.2.2.2.1, x.1.2.2.2.2.2.2.1, x.1.2.2.2.2.2.2.2.1, x.1.2.2.2.2.2.2.2.2.1, tk, out, ()), ()), ()))
    p.2.1.length (lots_gt' (by have := hok.lanes.1; omega)) (fun k out => out.length ≤ 8 * k)
    (fun k out => some (.inl (((), (), ()), (([], 0, [], false, false, false, 0, [], [], [], [], ()), (x.1.1, x.1.2.1, x.1.2.2.1, x.1.2.2.2.1, x.1.2.2.2.2.1, x.1.2.2.2.2.2.1, x.1.2.2.2.2.2.2.1, x.1.2.2.2.2.2.2.2.1, x.1.2.2.2.2.2.2.2.2.1, tk, out ++ wordsM x.2.2.1 (givesM g false (p.2.1.drop k)), ()), ()), ()))) ?_ 0 [] (by omega) (by simp)
  · have e0 : ((0 : Nat) : Int) = 0 := rfl
    rw [e0, List.drop_zero, List.nil_append] at key
    show ((iterF l_impl_Solo_viewOf_3 lots _).bind _).bind _ = _
    rw [key, Option.bind_some]
    rfl
  · rintro rec k out hk ho ih
    have hl4 := hok.lanes.1
    unfold l_impl_Solo_viewOf_3
    dsimp only
    by_cases hlt : k < p.2.1.length
    · have hln := (okLane hok _ (List.getElem_mem hlt)).2.2.1
      rw [if_pos (lt_t hlt), if_pos nat0, at_get hlt, drop_get hlt, givesM, wrapS (by omega)]
      by_cases hq : (p.2.1[k]).1 = g
      · rw [if_pos (by simpa using hq), if_pos hq, implPage_eq x.2.2.1 _ (by omega) (by omega), Option.bind_some]
        dsimp only
        have := pg_len x.2.2.1 (p.2.1[k]).2.2.2.1
        rw [if_pos (by omega), ih _ hlt (by rw [List.length_append]; omega), List.append_assoc]
        rfl
      · rw [if_neg (by simpa using hq), if_neg hq]
        exact ih _ hlt (by omega)
    · rw [if_neg (lt_f hlt), drop_all hlt]
      simp only [givesM, wordsM, List.flatMap_nil, List.append_nil]

theorem soloViewM_le (p : PolD) (x : SoloD) (g : Int) (hx : soloLe 1048576 x) : vrLe (soloViewM p x g) := by
  unfold soloViewM
  split
  · exact zero_vrLe _
  · rename_i h0
    have h0 : askM p g = 0 := by simpa using h0
    split
    · exact zero_vrLe _
    · obtain ⟨hok, g0, e2, hl5⟩ := ask_guest h0
      have w2 := wordsM_len x.2.2.1 (givesM g false p.2.1)
      have w3 := givesM_len g false p.2.1
      have w4 := hok.lanes.1
      have a1 := hx.1
      refine ⟨a1.1, a1.2.1, a1.2.2.1, a1.2.2.2, ?_, by show (wordsM _ _).length ≤ _; omega⟩
      show (List.take _ _).length ≤ _
      rw [List.length_take]; have := hx.2.2; omega

theorem szPages_eq (m : List TwoD) (n : Int) (h0 : 0 ≤ n) (h1 : n ≤ 1048576) (h2 : m.length ≤ maxLen) : ∃ r : Int, F_laws_szPageS (m, n, ()) = some ((r, ()), ()) ∧ (r < 0 ∨ (0 ≤ r ∧ r ≤ n ∧ m.length ≤ 1048576)) :=
  sz1_thm (F := F_laws_szPageS) (fun _ _ => rfl) m h2 n h0 h1

theorem szSolo_eq (v : SoloD) (n : Int) (h0 : 0 ≤ n) (h1 : n ≤ 1048576) (h2 : soloLe maxLen v) : ∃ r : Int, F_laws_szSolo (v, n, ()) = some ((r, ()), ()) ∧ (r < 0 ∨ (0 ≤ r ∧ r ≤ n ∧ soloLe 1048576 v)) := by
  obtain ⟨a1, a2, a3⟩ := h2
  unfold F_laws_szSolo
  simp only [ltI_eq, decide_eq_true_eq]
  obtain ⟨r1, e1, c1⟩ := szHart_eq v.1 n h0 h1 a1
  rw [e1, Option.bind_some]
  by_cases d1 : r1 < 0
  · exact ⟨-1, by rw [if_pos d1], .inl (by omega)⟩
  rw [if_neg d1]
  have c1 := c1.resolve_left d1
  obtain ⟨r2, e2, c2⟩ := szPages_eq v.2.1 r1 (by omega) (by omega) a2
  rw [e2, Option.bind_some]
  by_cases d2 : r2 < 0
  · exact ⟨-1, by rw [if_pos d2], .inl (by omega)⟩
  rw [if_neg d2]
  have c2 := c2.resolve_left d2
  obtain ⟨r3, e3, c3⟩ := szInt_eq v.2.2.1 r2 (by omega) (by omega) a3
  rw [e3, Option.bind_some]
  by_cases d3 : r3 < 0
  · exact ⟨-1, by rw [if_pos d3], .inl (by omega)⟩
  rw [if_neg d3]
  have c3 := c3.resolve_left d3
  exact ⟨r3, rfl, .inr ⟨by omega, by omega, c1.2.2, c2.2.2, c3.2.2⟩⟩

theorem toPages_eq (m : List TwoD) (h : m.length ≤ 1048576) : F_laws_toPageS (m, ()) = some ((m, ()), ()) :=
  toS_thm (by_ := 16) (F := F_laws_toPageS) (step := l_laws_toPageS_3) (f := fun y => F_laws_toPage (y, ())) (g := fun r => r.1.1) (fun _ => rfl) (fun _ => rfl) (fun _ _ _ _ => rfl) (by omega) m h fun y hy => ⟨_, rfl, rfl⟩

theorem toSolo_eq (x : SoloD) (h : soloLe 1048576 x) : F_laws_toSolo (x, ()) = some (((x.1.1, x.1.2.1, x.1.2.2.1, x.1.2.2.2.1, x.1.2.2.2.2.1, x.1.2.2.2.2.2.1, x.1.2.2.2.2.2.2.1, x.1.2.2.2.2.2.2.2.1, x.1.2.2.2.2.2.2.2.2.1, x.2.1, x.2.2.1, ()), ()), ()) := by
  obtain ⟨h1, h2, h3⟩ := h
  unfold F_laws_toSolo
  rw [toHart_eq _ h1, Option.bind_some, toPages_eq _ h2, Option.bind_some, toInt64S_eq _ (le8 h3), Option.bind_some]

theorem eqPage1 (y : TwoD) : F_laws_eqPage (y, y, ()) = some ((true, ()), ()) := by
  unfold F_laws_eqPage; simp

theorem eqPages_eq (m : List TwoD) (h : m.length ≤ 1048576) : F_laws_eqPageS (m, m, ()) = some ((true, ()), ()) :=
  eqS_thm (F := F_laws_eqPageS) (step := l_laws_eqPageS_4) (f := fun y y' => F_laws_eqPage (y, y', ())) (fun _ => rfl) (fun _ => rfl) (fun _ _ _ _ => rfl) m (leMax h) fun y hy => eqPage1 y

theorem eqSolo_eq (x : SoloD) (h : soloLe 1048576 x) : F_laws_eqSolo (x, x, ()) = some ((true, ()), ()) := by
  obtain ⟨h1, h2, h3⟩ := h
  unfold F_laws_eqSolo
  rw [eqHart_eq _ h1, Option.bind_some, if_neg (by simp), eqPages_eq _ h2, Option.bind_some, if_neg (by simp), eqInt64S_eq _ (leM h3), Option.bind_some, if_neg (by simp)]

theorem markPages_ok (xs : List TwoD) (k : Int) (hl : xs.length ≤ 1048576) (hk : 0 ≤ k) (hk2 : k ≤ 576460752303423488) :
    ∃ k' : Int, ∃ xs', F_laws_markPageS (xs, k, ()) = some ((k', ()), (xs', ())) ∧ xs'.length = xs.length ∧ k ≤ k' ∧ k' ≤ k + 8796093022208 := by
  refine markS_thm (F := F_laws_markPageS) (step := l_laws_markPageS_2) (fun xs k z h => by unfold F_laws_markPageS L_laws_markPageS_2; dsimp only; rw [h]; rfl) (fun xs => xs.length ≤ 1048576) 5 ?_ ?_ xs k hl (by omega) hl hk hk2
  · rintro rec xs i k hi h0 hk hP
    have w1 : IntKind.i64.wrap (k + 1) = k + 1 := wrap1 h0 (by omega)
    have w2 : IntKind.i64.wrap (k + 1 + 1) = k + 1 + 1 := wrap1 (by omega) (by omega)
    have wi : IntKind.i64.wrap ((i : Int) + 1) = ((i + 1 : Nat) : Int) := wrapS (by omega)
    have c : ((i : Nat) : Int) < ((xs.length : Nat) : Int) := Int.ofNat_lt.2 hi
    have c0 : (0 : Int) ≤ ((i : Nat) : Int) := nat0
    refine ⟨k + 1 + 1, xs.set i (k, k + 1, ()), ?_, by simp, by omega, by omega, by simpa using hP⟩
    unfold l_laws_markPageS_2
    dsimp only
    rw [if_pos (lt_t hi)]
    simp only [List.length_set, c, c0, and_self, if_true, Int.toNat_natCast, List.getElem?_eq_getElem hi, Option.bind_some, w1, w2, wi, List.getElem?_set_self', Option.map_eq_map, Option.map_some, Function.const_apply, List.set_set]
  · intro rec xs k
    unfold l_laws_markPageS_2
    dsimp only
    rw [if_neg lt_same]

abbrev HartF := List Int × Int × List Int × Bool × Bool × Bool × Int × List Int × List Int × Unit

theorem markHart_ok (h : HartD) (k : Int) (hh : hartLe 1048576 h) (hk : 0 ≤ k) (hk2 : k ≤ 576460752303423488) :
    ∃ k' : Int, ∃ x', F_laws_markHart ((h.1, h.2.1, h.2.2.1, h.2.2.2.1, h.2.2.2.2.1, h.2.2.2.2.2.1, h.2.2.2.2.2.2.1, h.2.2.2.2.2.2.2.1, h.2.2.2.2.2.2.2.2.1, ()), k, ()) = some ((k', ()), (x', ())) ∧
      (x'.1.length = h.1.length ∧ x'.2.1.length = h.2.2.1.length ∧ x'.2.2.1.length = h.2.2.2.2.2.2.2.1.length ∧ x'.2.2.2.1.length = h.2.2.2.2.2.2.2.2.1.length) ∧ k ≤ k' ∧ k' ≤ k + 4194304 := by
  obtain ⟨h1, h2, h3, h4⟩ := hh
  obtain ⟨k1, r1, e1, l1, g1, g1'⟩ := mark_more (row := h.1) (k := k) h1 (by omega) (by omega)
  obtain ⟨k2, r2, e2, l2, g2, g2'⟩ := mark_more (row := h.2.2.1) (k := k1) h2 (by omega) (by omega)
  obtain ⟨k3, r3, e3, l3, g3, g3'⟩ := mark_more (row := h.2.2.2.2.2.2.2.1) (k := k2) h3 (by omega) (by omega)
  obtain ⟨k4, r4, e4, l4, g4, g4'⟩ := mark_more (row := h.2.2.2.2.2.2.2.2.1) (k := k3) h4 (by omega) (by omega)
  refine ⟨k4, (r1, r2, r3, r4, ()), ?_, ⟨l1, l2, l3, l4⟩, by omega, by omega⟩
  unfold F_laws_markHart
  dsimp only
  rw [e1, Option.bind_some]
  dsimp only
  rw [if_pos (by rw [l1]; simp), e2, Option.bind_some]
  dsimp only
  rw [if_pos (by rw [l2]; simp), e3, Option.bind_some]
  dsimp only
  rw [if_pos (by rw [l3]; simp), e4, Option.bind_some]
  dsimp only
  rw [if_pos (by rw [l4]; simp), if_pos (by rw [l1, l2, l3, l4]; simp)]

theorem markSolo_ok (x : SoloD) (k : Int) (hx : soloLe 1048576 x) (hk : 0 ≤ k) (hk2 : k ≤ 288230376151711744) :
    ∃ k' : Int, ∃ x', F_laws_markSolo ((x.1.1, x.1.2.1, x.1.2.2.1, x.1.2.2.2.1, x.1.2.2.2.2.1, x.1.2.2.2.2.2.1, x.1.2.2.2.2.2.2.1, x.1.2.2.2.2.2.2.2.1, x.1.2.2.2.2.2.2.2.2.1, x.2.1, x.2.2.1, ()), k, ()) = some ((k', ()), (x', ())) ∧
      (x'.1.length = x.1.1.length ∧ x'.2.1.length = x.1.2.2.1.length ∧ x'.2.2.1.length = x.1.2.2.2.2.2.2.2.1.length ∧ x'.2.2.2.1.length = x.1.2.2.2.2.2.2.2.2.1.length ∧ x'.2.2.2.2.1.length = x.2.1.length ∧ x'.2.2.2.2.2.1.length = x.2.2.1.length) ∧ k ≤ k' ∧ k' ≤ k + 17592186044416 := by
  obtain ⟨h1, h2, h3⟩ := hx
  obtain ⟨k1, x1, e1, ⟨l1, l2, l3, l4⟩, g1, g1'⟩ := markHart_ok x.1 k h1 hk (by omega)
  obtain ⟨k2, x2, e2, l5, g2, g2'⟩ := markPages_ok x.2.1 k1 h2 (by omega) (by omega)
  obtain ⟨k3, x3, e3, l6, g3, g3'⟩ := mark_more (row := x.2.2.1) (k := k2) h3 (by omega) (by omega)
  refine ⟨k3, (x1.1, x1.2.1, x1.2.2.1, x1.2.2.2.1, x2, x3, ()), ?_, ⟨l1, l2, l3, l4, l5, l6⟩, by omega, by omega⟩
  unfold F_laws_markSolo
  dsimp only
  rw [e1, Option.bind_some]
  dsimp only
  rw [if_pos (by rw [l1, l2, l3, l4]; simp), e2, Option.bind_some]
  dsimp only
  rw [if_pos (by rw [l5]; simp), e3, Option.bind_some]
  dsimp only
  rw [if_pos (by rw [l6]; simp), if_pos (by rw [l1, l2, l3, l4, l5, l6]; simp)]

theorem soloView_law (p : PolD) (x : SoloD) (g : Int) (hp : polLe maxLen p) (hx : soloLe maxLen x) : F_laws_FnExactSoloView (p, x, g, ()) = some ((true, ()), ()) := by
  unfold F_laws_FnExactSoloView
  simp only [ltI_eq, decide_eq_true_eq]
  obtain ⟨r1, e1, c1⟩ := szPol_eq p 1048576 (by omega) (by omega) hp
  rw [e1, Option.bind_some]
  by_cases d1 : r1 < 0
  · rw [if_pos d1]
  rw [if_neg d1]
  have c1 := c1.resolve_left d1
  obtain ⟨r2, e2, c2⟩ := szSolo_eq x r1 (by omega) (by omega) hx
  rw [e2, Option.bind_some]
  by_cases d2 : r2 < 0
  · rw [if_pos d2]
  rw [if_neg d2]
  have hp := c1.2.2
  have hx := (c2.resolve_left d2).2.2
  have hl := soloViewM_le p x g hx
  have he := eqView2_eq (soloViewM p x g) hl
  have hi := implSoloView_eq p x g hp hx
  have hs := specSoloView_eq p x g hp hx
  generalize soloViewM p x g = r at *
  rw [toPol_eq p hp, Option.bind_some, toSolo_eq x hx, Option.bind_some]
  show (F_spec_SoloView (p, x, g, ())).bind _ = _
  rw [hs, Option.bind_some, Option.bind_some, Option.bind_some]
  show (F_impl_SoloView (p, x, g, ())).bind _ = _
  rw [hi, Option.bind_some]
  show (F_laws_eqViewResult (vrV r, vrV r, ())).bind _ = _
  rw [he, Option.bind_some, if_neg (by simp), Option.bind_some]
  show (F_laws_eqPolicy (p, p, ())).bind _ = _
  rw [eqPol_eq p hp, Option.bind_some, if_neg (by simp), Option.bind_some]
  show (F_laws_eqSolo (x, x, ())).bind _ = _
  rw [eqSolo_eq x hx, Option.bind_some, if_neg (by simp)]
  obtain ⟨k1, p', m1, ⟨a1, a2, a3, a4⟩, m2, m3⟩ := markPol_ok p 1 hp (by omega) (by omega)
  obtain ⟨k2, x', n1, ⟨b1, b2, b3, b4, b5, b6⟩, n2, n3⟩ := markSolo_ok x k1 hx (by omega) (by omega)
  dsimp only
  rw [m1, Option.bind_some]
  dsimp only
  rw [if_pos (by rw [a1, a2, a3, a4]; simp), n1, Option.bind_some]
  dsimp only
  rw [if_pos (by rw [b1, b2, b3, b4, b5, b6]; simp), if_pos (by simp; omega)]
  show (F_laws_eqViewResult (vrV r, vrV r, ())).bind _ = _
  rw [he, Option.bind_some, if_neg (by simp)]
  rw [markView_eq r hl, Option.bind_some]
  obtain ⟨s1, s2, s3, s4, s5, s6⟩ := vrS_len r
  dsimp only
  rw [if_pos (by rw [s1, s2, s3, s4, s5, s6]; simp), heldView_eq _ _ _ _ _ _ r hl, Option.bind_some]
  dsimp only
  rw [if_neg (vrK_pos r), if_neg (by simp), Option.bind_some, Option.bind_some]
  show (F_impl_SoloView (p, x, g, ())).bind _ = _
  rw [hi, Option.bind_some]
  show (F_laws_eqViewResult (vrV r, vrV r, ())).bind _ = _
  rw [he, Option.bind_some, if_neg (by simp), Option.bind_some]
  dsimp only
  rw [if_neg (vrK_pos r), if_neg (by simp)]

theorem soloView_F : ∀ x, inRP P_laws_FnExactSoloView x → F_laws_FnExactSoloView x = some ((true, ()), ()) := by
  rintro ⟨p, x, n, _⟩ ⟨hp, hx, _⟩
  exact soloView_law p x n ⟨⟨hp.1.1, fun l hl => (hp.1.2 l hl).1⟩, hp.2.1.1, hp.2.2.1.1, hp.2.2.2.1.1⟩ ⟨inR_hart hx.1, hx.2.1.1, hx.2.2.1.1⟩

end Go.Proofs.YtimbcpeilkaahaaGreat
