/- Tools for plain laws: loops over a counter, numbers that do not overflow, places of lists. -/
import Derived.Test.YteddlkdbefloaaaS5
namespace Go.Proofs.Yteddlkdbefloaaa
open Go Go.RowKit S Go.Proofs
set_option linter.unusedVariables false
set_option linter.unusedSimpArgs false

/-- A loop whose counter goes from i up to N at most. -/
theorem loopN {X γ σ : Type} {step : (X → Option γ) → X → Option γ} (emb : Nat → σ → X) (N : Nat) (hN : N < lots) (I : Nat → σ → Prop) (out : Nat → σ → Option γ)
    (h : ∀ rec i s, i ≤ N → I i s → (∀ s', i < N → I (i + 1) s' → rec (emb (i + 1) s') = out (i + 1) s') → step rec (emb i s) = out i s) :
    ∀ i s, i ≤ N → I i s → iterF step lots (emb i s) = out i s := by
  have key : ∀ n i s, N - i < n → i ≤ N → I i s → iterF step n (emb i s) = out i s := by
    intro n
    induction n with
    | zero => intro i s h; omega
    | succ n ih =>
      intro i s hn hi hI
      simp only [iterF]
      exact h _ i s hi hI fun s' hlt hI' => ih (i + 1) s' (by omega) (by omega) hI'
  intro i s hi hI
  exact key lots i s (by omega) hi hI

theorem lots_gt {n : Nat} (h : n ≤ maxLen) : n < lots := by rw [maxLen_eq] at h; rw [lots_eq]; omega
theorem lots_gt' {n : Nat} (h : n ≤ 9223372036854775807) : n < lots := by rw [lots_eq]; omega

theorem wrapS {i : Nat} (h : i < 9223372036854775807) : IntKind.i64.wrap ((i : Int) + 1) = ((i + 1 : Nat) : Int) := by rw [wrap64 (by omega) (by omega)]; rfl

theorem wrapS' {i n : Nat} (h : i < n) (hn : n ≤ maxLen) : IntKind.i64.wrap ((i : Int) + 1) = ((i + 1 : Nat) : Int) := wrapS (by rw [maxLen_eq] at hn; omega)

theorem nat0 {i : Nat} : (0 : Int) ≤ (i : Int) := Int.natCast_nonneg i

/-- One step at a place of a list. -/
theorem at_get {α γ : Type} {m : List α} {i : Nat} (h : i < m.length) (K : α → Option γ) : (m[((i : Nat) : Int).toNat]?).bind K = K m[i] := by
  rw [Int.toNat_natCast, List.getElem?_eq_getElem h, Option.bind_some]

theorem drop_get {α : Type} {m : List α} {i : Nat} (h : i < m.length) : m.drop i = m[i] :: m.drop (i + 1) := List.drop_eq_getElem_cons h
theorem drop_all {α : Type} {m : List α} {i : Nat} (h : ¬ i < m.length) : m.drop i = [] := List.drop_of_length_le (by omega)

theorem ltN {a b : Nat} : ltI (a : Int) (b : Int) = decide (a < b) := by
  rw [ltI_eq]; by_cases h : a < b
  · have : (a : Int) < b := by omega
    simp [h, this]
  · have : ¬ (a : Int) < b := by omega
    simp [h, this]

theorem ltI_t {a b : Int} : ltI a b = true ↔ a < b := by rw [ltI_eq]; simp
theorem leI_t {a b : Int} : leI a b = true ↔ a ≤ b := by rw [leI_eq]; simp
theorem ltI_f {a b : Int} : ltI a b = false ↔ ¬ a < b := by rw [ltI_eq]; simp
theorem leI_f {a b : Int} : leI a b = false ↔ ¬ a ≤ b := by rw [leI_eq]; simp

/-! copies, element by element -/
theorem toS_loop {α β E : Type} {step : ((List α × List α × Int × Unit) × Unit × Unit → Option (((List α × Unit) × Unit × Unit) ⊕ E)) → (List α × List α × Int × Unit) × Unit × Unit → Option (((List α × Unit) × Unit × Unit) ⊕ E)}
    {f : α → Option β} {g : β → α}
    (hstep : ∀ rec m out i, step rec ((m, out, i, ()), (), ()) = if ltI i ((m.length : Nat) : Int) = true then (if 0 ≤ i then (m[i.toNat]?).bind fun y => (f y).bind fun r =>
      if 0 ≤ i ∧ i < ((out.length : Nat) : Int) then (out[i.toNat]?).bind fun _ => rec ((m, out.set i.toNat (g r), IntKind.i64.wrap (i + 1), ()), (), ()) else none else none) else some (.inl ((out, ()), (), ())))
    (m : List α) (hm : m.length ≤ 9223372036854775807) (hf : ∀ y ∈ m, ∃ r, f y = some r ∧ g r = y) (z : α) :
    iterF step lots ((m, List.replicate m.length z, 0, ()), (), ()) = some (.inl ((m, ()), (), ())) := by
  have key := loopN (step := step) (fun i (out : List α) => ((m, out, ((i : Nat) : Int), ()), (), ())) m.length (lots_gt' hm) (fun i out => out.length = m.length ∧ out.take i = m.take i) (fun _ _ => some (.inl ((m, ()), (), ()))) ?_ 0 (List.replicate m.length z) (by omega) ⟨by simp, by simp⟩
  · exact key
  · rintro rec i out hi ⟨hl, ht⟩ ih
    rw [hstep, ltN]
    by_cases hlt : i < m.length
    · obtain ⟨r, h1, h2⟩ := hf m[i] (List.getElem_mem hlt)
      have hb : (0 : Int) ≤ (i : Int) ∧ (i : Int) < ((out.length : Nat) : Int) := by omega
      rw [if_pos (by simpa using hlt), if_pos nat0, at_get hlt, h1, Option.bind_some, if_pos hb, at_get (by omega), wrapS (by omega), Int.toNat_natCast]
      refine ih _ hlt ⟨by simp [hl], ?_⟩
      rw [List.take_add_one, List.take_set_of_le (Nat.le_refl _), List.getElem?_set_self (by omega), h2, ht, List.take_add_one, List.getElem?_eq_getElem hlt]
    · rw [if_neg (by simpa using hlt)]
      have : out = m := by
        rw [List.take_of_length_le (by omega), List.take_of_length_le (by omega)] at ht
        exact ht
      rw [this]

theorem toS_thm {α β E : Type} {z : α} {by_ : Nat} {F : List α × Unit → Option ((List α × Unit) × Unit)} {step : ((List α × List α × Int × Unit) × Unit × Unit → Option (((List α × Unit) × Unit × Unit) ⊕ E)) → (List α × List α × Int × Unit) × Unit × Unit → Option (((List α × Unit) × Unit × Unit) ⊕ E)}
    {f : α → Option β} {g : β → α} {K : (((List α × Unit) × Unit × Unit) ⊕ E) → Option ((List α × Unit) × Unit)}
    (hF : ∀ m, F (m, ()) = if ((m.length : Nat) : Int) = ((m.length : Nat) : Int) ∧ 0 ≤ ((m.length : Nat) : Int) ∧ ((m.length : Nat) : Int) * (by_ : Int) ≤ 140737488355328 ∧ ((m.length : Nat) : Int) ≤ 9223372036854775807 then
      (iterF step lots ((m, List.replicate ((m.length : Nat) : Int).toNat z, 0, ()), (), ())).bind K else none)
    (hK : ∀ x, K (.inl x) = some ((x.1.1, ()), ()))
    (hstep : ∀ rec m out i, step rec ((m, out, i, ()), (), ()) = if ltI i ((m.length : Nat) : Int) = true then (if 0 ≤ i then (m[i.toNat]?).bind fun y => (f y).bind fun r =>
      if 0 ≤ i ∧ i < ((out.length : Nat) : Int) then (out[i.toNat]?).bind fun _ => rec ((m, out.set i.toNat (g r), IntKind.i64.wrap (i + 1), ()), (), ()) else none else none) else some (.inl ((out, ()), (), ())))
    (hb : by_ ≤ 1000) (m : List α) (hm : m.length ≤ 1048576) (hf : ∀ y ∈ m, ∃ r, f y = some r ∧ g r = y) : F (m, ()) = some ((m, ()), ()) := by
  have h1 : ((m.length : Nat) : Int) * (by_ : Int) ≤ 140737488355328 := by
    have : m.length * by_ ≤ 1048576 * 1000 := Nat.mul_le_mul hm hb
    have h2 : ((m.length * by_ : Nat) : Int) ≤ 1048576 * 1000 := by omega
    rw [Int.natCast_mul] at h2
    omega
  rw [hF, if_pos ⟨rfl, by omega, h1, by omega⟩, Int.toNat_natCast, toS_loop hstep m (by omega) hf, Option.bind_some, hK]

/-! equality of what is the same -/
theorem eqS_loop {α E : Type} {step : ((List α × List α × Int × Unit) × Unit × Unit → Option ((Unit × Unit × Unit) ⊕ E)) → (List α × List α × Int × Unit) × Unit × Unit → Option ((Unit × Unit × Unit) ⊕ E)} {f : α → α → Option ((Bool × Unit) × Unit)} {no : Option ((Unit × Unit × Unit) ⊕ E)}
    (hstep : ∀ rec a b i, step rec ((a, b, i, ()), (), ()) = if ltI i ((a.length : Nat) : Int) = true then (if 0 ≤ i then (a[i.toNat]?).bind fun y => if 0 ≤ i then (b[i.toNat]?).bind fun y' => (f y y').bind fun r =>
      if (!r.1.1) = true then no else rec ((a, b, IntKind.i64.wrap (i + 1), ()), (), ()) else none else none) else some (.inl ((), (), ())))
    (m : List α) (hm : m.length ≤ 9223372036854775807) (hf : ∀ y ∈ m, f y y = some ((true, ()), ())) : iterF step lots ((m, m, 0, ()), (), ()) = some (.inl ((), (), ())) := by
  have key := loopN (step := step) (fun i (_ : Unit) => ((m, m, ((i : Nat) : Int), ()), (), ())) m.length (lots_gt' hm) (fun _ _ => True) (fun _ _ => some (.inl ((), (), ()))) ?_ 0 () (by omega) trivial
  · exact key
  · rintro rec i _ hi _ ih
    rw [hstep, ltN]
    by_cases hlt : i < m.length
    · rw [if_pos (by simpa using hlt), if_pos nat0, at_get hlt, if_pos nat0, at_get hlt, hf _ (List.getElem_mem hlt), Option.bind_some, if_neg (by simp), wrapS (by omega)]
      exact ih () hlt trivial
    · rw [if_neg (by simpa using hlt)]

theorem eqS_thm {α E : Type} {F : List α × List α × Unit → Option ((Bool × Unit) × Unit)} {step : ((List α × List α × Int × Unit) × Unit × Unit → Option ((Unit × Unit × Unit) ⊕ E)) → (List α × List α × Int × Unit) × Unit × Unit → Option ((Unit × Unit × Unit) ⊕ E)}
    {f : α → α → Option ((Bool × Unit) × Unit)} {no : Option ((Unit × Unit × Unit) ⊕ E)} {K : (Unit × Unit × Unit) ⊕ E → Option ((Bool × Unit) × Unit)}
    (hF : ∀ m, F (m, m, ()) = if (((m.length : Nat) : Int) != ((m.length : Nat) : Int)) = true then some ((false, ()), ()) else (iterF step lots ((m, m, 0, ()), (), ())).bind K)
    (hK : ∀ x, K (.inl x) = some ((true, ()), ()))
    (hstep : ∀ rec a b i, step rec ((a, b, i, ()), (), ()) = if ltI i ((a.length : Nat) : Int) = true then (if 0 ≤ i then (a[i.toNat]?).bind fun y => if 0 ≤ i then (b[i.toNat]?).bind fun y' => (f y y').bind fun r =>
      if (!r.1.1) = true then no else rec ((a, b, IntKind.i64.wrap (i + 1), ()), (), ()) else none else none) else some (.inl ((), (), ())))
    (m : List α) (hm : m.length ≤ 9223372036854775807) (hf : ∀ y ∈ m, f y y = some ((true, ()), ())) : F (m, m, ()) = some ((true, ()), ()) := by
  rw [hF, if_neg (by simp), eqS_loop hstep m hm hf, Option.bind_some, hK]

/-! sizes, element by element -/
theorem szS_loop {α E : Type} {step : ((List α × Int × Int × Unit) × Unit × Unit → Option (((Int × Unit) × Unit × Unit) ⊕ (((Int × Unit) × Unit × Unit) ⊕ E))) → (List α × Int × Int × Unit) × Unit × Unit → Option (((Int × Unit) × Unit × Unit) ⊕ (((Int × Unit) × Unit × Unit) ⊕ E))}
    {f : α → Int → Option ((Int × Unit) × Unit)} {ok : α → Prop}
    (hstep : ∀ rec m k i, step rec ((m, k, i, ()), (), ()) = if ltI i ((m.length : Nat) : Int) = true then (if 0 ≤ i then (m[i.toNat]?).bind fun y => (f y k).bind fun r =>
      if ltI r.1.1 0 = true then some (.inr (.inl ((-1, ()), (), ()))) else rec ((m, r.1.1, IntKind.i64.wrap (i + 1), ()), (), ()) else none) else some (.inl ((k, ()), (), ())))
    (m : List α) (hm : m.length ≤ 9223372036854775807) (hf : ∀ y ∈ m, ∀ k : Int, 0 ≤ k → k ≤ 1048576 → ∃ r : Int, f y k = some ((r, ()), ()) ∧ (r < 0 ∨ (0 ≤ r ∧ r ≤ k ∧ ok y))) (k : Int) (h0 : 0 ≤ k) (h1 : k ≤ 1048576) :
    iterF step lots ((m, k, 0, ()), (), ()) = some (.inr (.inl ((-1, ()), (), ()))) ∨ ∃ r : Int, iterF step lots ((m, k, 0, ()), (), ()) = some (.inl ((r, ()), (), ())) ∧ 0 ≤ r ∧ r ≤ k ∧ ∀ y ∈ m, ok y := by
  have key : ∀ n (i : Nat) (k : Int), m.length - i < n → i ≤ m.length → 0 ≤ k → k ≤ 1048576 → (iterF step n ((m, k, ((i : Nat) : Int), ()), (), ()) = some (.inr (.inl ((-1, ()), (), ()))) ∨
      ∃ r : Int, iterF step n ((m, k, ((i : Nat) : Int), ()), (), ()) = some (.inl ((r, ()), (), ())) ∧ 0 ≤ r ∧ r ≤ k ∧ ∀ y ∈ m.drop i, ok y) := by
    intro n
    induction n with
    | zero => intro i k h; omega
    | succ n ih =>
      intro i k hn hi h0 h1
      simp only [iterF, hstep, ltN]
      by_cases hlt : i < m.length
      · obtain ⟨r, e1, e2⟩ := hf m[i] (List.getElem_mem hlt) k h0 h1
        rw [if_pos (by simpa using hlt), if_pos nat0, at_get hlt, e1, Option.bind_some]
        simp only
        by_cases hr : r < 0
        · left; rw [if_pos (ltI_t.2 hr)]
        · rw [if_neg (by rw [ltI_t]; exact hr), wrapS (by omega)]
          have e2 := e2.resolve_left hr
          rcases ih (i + 1) r (by omega) (by omega) e2.1 (by omega) with h | ⟨q, g1, g2, g3, g4⟩
          · exact .inl h
          · refine .inr ⟨q, g1, g2, by omega, ?_⟩
            rw [drop_get hlt]
            intro y hy
            rcases List.mem_cons.1 hy with rfl | hy
            · exact e2.2.2
            · exact g4 y hy
      · right
        refine ⟨k, by rw [if_neg (by simpa using hlt)], h0, by omega, ?_⟩
        rw [drop_all hlt]; simp
  simpa using key lots 0 k (by have := lots_gt' hm; omega) (by omega) h0 h1

theorem szS_thm {α E : Type} {F : List α × Int × Unit → Option ((Int × Unit) × Unit)} {step : ((List α × Int × Int × Unit) × Unit × Unit → Option (((Int × Unit) × Unit × Unit) ⊕ (((Int × Unit) × Unit × Unit) ⊕ E))) → (List α × Int × Int × Unit) × Unit × Unit → Option (((Int × Unit) × Unit × Unit) ⊕ (((Int × Unit) × Unit × Unit) ⊕ E))}
    {f : α → Int → Option ((Int × Unit) × Unit)} {ok : α → Prop} {K : (((Int × Unit) × Unit × Unit) ⊕ (((Int × Unit) × Unit × Unit) ⊕ E)) → Option ((Int × Unit) × Unit)}
    (hF : ∀ m k, F (m, k, ()) = if ltI (IntKind.i64.wrap (k - ((m.length : Nat) : Int))) 0 = true then some ((-1, ()), ()) else (iterF step lots ((m, IntKind.i64.wrap (k - ((m.length : Nat) : Int)), 0, ()), (), ())).bind K)
    (hK1 : ∀ x, K (.inl x) = some ((x.1.1, ()), ())) (hK2 : ∀ x, K (.inr (.inl x)) = some ((x.1.1, ()), ()))
    (hstep : ∀ rec m k i, step rec ((m, k, i, ()), (), ()) = if ltI i ((m.length : Nat) : Int) = true then (if 0 ≤ i then (m[i.toNat]?).bind fun y => (f y k).bind fun r =>
      if ltI r.1.1 0 = true then some (.inr (.inl ((-1, ()), (), ()))) else rec ((m, r.1.1, IntKind.i64.wrap (i + 1), ()), (), ()) else none) else some (.inl ((k, ()), (), ())))
    (m : List α) (hm : m.length ≤ maxLen) (hf : ∀ y ∈ m, ∀ k : Int, 0 ≤ k → k ≤ 1048576 → ∃ r : Int, f y k = some ((r, ()), ()) ∧ (r < 0 ∨ (0 ≤ r ∧ r ≤ k ∧ ok y))) (k : Int) (h0 : 0 ≤ k) (h1 : k ≤ 1048576) :
    ∃ r : Int, F (m, k, ()) = some ((r, ()), ()) ∧ (r < 0 ∨ (0 ≤ r ∧ r ≤ k ∧ m.length ≤ 1048576 ∧ ∀ y ∈ m, ok y)) := by
  rw [maxLen_eq] at hm
  rw [hF, wrap64 (by omega) (by omega)]
  by_cases hlt : k - ((m.length : Nat) : Int) < 0
  · exact ⟨-1, by rw [if_pos (ltI_t.2 hlt)], .inl (by omega)⟩
  · rw [if_neg (by rw [ltI_t]; exact hlt)]
    rcases szS_loop hstep m hm hf (k - ((m.length : Nat) : Int)) (by omega) (by omega) with h | ⟨r, g1, g2, g3, g4⟩
    · exact ⟨-1, by rw [h, Option.bind_some, hK2], .inl (by omega)⟩
    · exact ⟨r, by rw [g1, Option.bind_some, hK1], .inr ⟨g2, by omega, by omega, g4⟩⟩

/-- The size of a list whose elements are not asked. -/
theorem sz1_thm {α : Type} {F : List α × Int × Unit → Option ((Int × Unit) × Unit)}
    (hF : ∀ m k, F (m, k, ()) = if ltI (IntKind.i64.wrap (k - ((m.length : Nat) : Int))) 0 = true then some ((-1, ()), ()) else some ((IntKind.i64.wrap (k - ((m.length : Nat) : Int)), ()), ()))
    (m : List α) (hm : m.length ≤ maxLen) (k : Int) (h0 : 0 ≤ k) (h1 : k ≤ 1048576) : ∃ r : Int, F (m, k, ()) = some ((r, ()), ()) ∧ (r < 0 ∨ (0 ≤ r ∧ r ≤ k ∧ m.length ≤ 1048576)) := by
  rw [maxLen_eq] at hm
  rw [hF, wrap64 (by omega) (by omega)]
  by_cases hlt : k - ((m.length : Nat) : Int) < 0
  · exact ⟨-1, by rw [if_pos (ltI_t.2 hlt)], .inl (by omega)⟩
  · exact ⟨_, by rw [if_neg (by rw [ltI_t]; exact hlt)], .inr ⟨by omega, by omega, by omega⟩⟩

/-! the first element that tells something -/
def scan {α β : Type} (f : Nat → α → Option β) : Nat → List α → Option β
  | _, [] => none
  | i, x :: r => match f i x with
    | some c => some c
    | none => scan f (i + 1) r

theorem scan_loop {X α γ β : Type} {step : (X → Option γ) → X → Option γ} (emb : Nat → X) (m : List α) (f : Nat → α → Option β) (bad : β → Option γ) (done : Option γ) (hm : m.length ≤ 9223372036854775807)
    (h1 : ∀ rec i (h : i < m.length), step rec (emb i) = match f i m[i] with | some c => bad c | none => rec (emb (i + 1)))
    (h2 : ∀ rec, step rec (emb m.length) = done) : iterF step lots (emb 0) = match scan f 0 m with | some c => bad c | none => done := by
  have key := loopN (step := step) (fun i (_ : Unit) => emb i) m.length (lots_gt' hm) (fun _ _ => True) (fun i _ => match scan f i (m.drop i) with | some c => bad c | none => done) ?_ 0 () (by omega) trivial
  · simpa using key
  · intro rec i _ hi _ ih
    by_cases hlt : i < m.length
    · rw [h1 rec i hlt, drop_get hlt]
      simp only [scan]
      cases hf : f i m[i] with
      | some c => rfl
      | none => exact ih () hlt trivial
    · have : i = m.length := by omega
      subst this
      rw [h2, List.drop_length]
      rfl

theorem scan_congr {α β : Type} {f g : Nat → α → Option β} : ∀ {m : List α} {i : Nat}, (∀ j (h : j < m.length), f (i + j) m[j] = g (i + j) m[j]) → scan f i m = scan g i m
  | [], _, _ => rfl
  | x :: r, i, h => by
    have h0 := h 0 (by simp)
    simp only [Nat.add_zero, List.getElem_cons_zero] at h0
    have := scan_congr (f := f) (g := g) (m := r) (i := i + 1) fun j hj => by
      have := h (j + 1) (by simpa using hj)
      simpa [Nat.add_assoc, Nat.add_comm, Nat.add_left_comm] using this
    simp only [scan, h0, this]

/-- Is there an element that is so? -/
theorem scan_any {α β : Type} {f : Nat → α → Option β} {p : α → Bool} : ∀ {m : List α} {i : Nat}, (∀ j (h : j < m.length), (f (i + j) m[j]).isSome = p m[j]) → (scan f i m).isSome = m.any p
  | [], _, _ => rfl
  | x :: r, i, h => by
    have h0 := h 0 (by simp)
    simp only [Nat.add_zero, List.getElem_cons_zero] at h0
    have := scan_any (f := f) (p := p) (m := r) (i := i + 1) fun j hj => by
      have := h (j + 1) (by simpa using hj)
      simpa [Nat.add_assoc, Nat.add_comm, Nat.add_left_comm] using this
    simp only [scan, List.any_cons, ← h0, ← this]
    cases f i x <;> rfl

theorem lt_t {i n : Nat} (h : i < n) : ltI (i : Int) (n : Int) = true := by rw [ltN]; simpa using h
theorem lt_f {i n : Nat} (h : ¬ i < n) : ¬ ltI (i : Int) (n : Int) = true := by rw [ltN]; simpa using h
theorem lt_same {n : Nat} : ¬ ltI (n : Int) (n : Int) = true := lt_f (Nat.lt_irrefl n)
theorem lt1 {α : Type} {i : Nat} {m : List α} (h : i < m.length) (hm : m.length ≤ 1048576) : i < 9223372036854775807 := by omega

/-! two lists one behind another -/
theorem iter_s {X γ : Type} (step : (X → Option γ) → X → Option γ) (n : Nat) (x : X) : iterF step (n + 1) x = step (iterF step n) x := rfl

theorem lots3 : lots = 18446744073709551613 + 1 + 1 + 1 := rfl

theorem concat_len {α E : Type} {step : ((List (List α) × Int × List (List α) × Int × Int × Unit) × Unit × Unit → Option (((List (List α) × Int × Unit) × Unit × Unit) ⊕ E)) → (List (List α) × Int × List (List α) × Int × Int × Unit) × Unit × Unit → Option (((List (List α) × Int × Unit) × Unit × Unit) ⊕ E)}
    (hstep : ∀ rec m s l n i, step rec ((m, s, l, n, i, ()), (), ()) = if ltI i n = true then (if 0 ≤ i then (l[i.toNat]?).bind fun y => if ltI (IntKind.i64.wrap (s + ((y.length : Nat) : Int))) 0 = true then none else
      rec ((m, IntKind.i64.wrap (s + ((y.length : Nat) : Int)), l, n, IntKind.i64.wrap (i + 1), ()), (), ()) else none) else some (.inl ((m, s, ()), (), ())))
    (m : List (List α)) (a b : List α) (h : a.length + b.length ≤ 9223372036854775807) : iterF step lots ((m, 0, [a, b], 2, 0, ()), (), ()) = some (.inl ((m, (a.length : Int) + (b.length : Int), ()), (), ())) := by
  rw [lots3]
  generalize 18446744073709551613 = n
  have w1 : IntKind.i64.wrap ((0 : Int) + 1) = 1 := wrap64 (by omega) (by omega)
  have w2 : IntKind.i64.wrap ((1 : Int) + 1) = 2 := wrap64 (by omega) (by omega)
  rw [iter_s, hstep, if_pos (by decide), if_pos (by decide)]
  show (some a).bind _ = _
  rw [Option.bind_some, wrap64 (by omega) (by omega), if_neg (by rw [ltI_t]; omega), w1, iter_s, hstep, if_pos (by decide), if_pos (by decide)]
  show (some b).bind _ = _
  rw [Option.bind_some, wrap64 (by omega) (by omega), if_neg (by rw [ltI_t]; omega), w2, iter_s, hstep, if_neg (by decide), Int.zero_add]

theorem concat_app {α E : Type} {by_ : Nat} {step : ((List α × List (List α) × Int × Int × Unit) × Unit × Unit → Option (((List α × Unit) × Unit × Unit) ⊕ E)) → (List α × List (List α) × Int × Int × Unit) × Unit × Unit → Option (((List α × Unit) × Unit × Unit) ⊕ E)}
    (hstep : ∀ rec m l n i, step rec ((m, l, n, i, ()), (), ()) = if ltI i n = true then (if 0 ≤ i then (l[i.toNat]?).bind fun y => if (m.length + y.length) * by_ ≤ 140737488355328 then
      rec ((m ++ y, l, n, IntKind.i64.wrap (i + 1), ()), (), ()) else none else none) else some (.inl ((m, ()), (), ())))
    (a b : List α) (h : (a.length + b.length) * by_ ≤ 140737488355328) : iterF step lots (([], [a, b], 2, 0, ()), (), ()) = some (.inl ((a ++ b, ()), (), ())) := by
  rw [lots3]
  generalize 18446744073709551613 = n
  have w1 : IntKind.i64.wrap ((0 : Int) + 1) = 1 := wrap64 (by omega) (by omega)
  have w2 : IntKind.i64.wrap ((1 : Int) + 1) = 2 := wrap64 (by omega) (by omega)
  have h1 : a.length * by_ ≤ (a.length + b.length) * by_ := Nat.mul_le_mul_right _ (by omega)
  rw [iter_s, hstep, if_pos (by decide), if_pos (by decide)]
  show (some a).bind _ = _
  rw [Option.bind_some, if_pos (by simp; omega), w1, iter_s, hstep, if_pos (by decide), if_pos (by decide)]
  show (some b).bind _ = _
  rw [Option.bind_some, if_pos (by simp; omega), w2, iter_s, hstep, if_neg (by decide), List.nil_append]

end Go.Proofs.Yteddlkdbefloaaa
