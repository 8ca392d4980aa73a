/- Plain laws: what the functions compute, and that both programs compute the same. -/
import Derived.Test.YtilcgnimcdkfiaaGa1
namespace Go.Proofs.Ytilcgnimcdkfiaa
open Go Go.RowKit S Go.Proofs
set_option maxRecDepth 100000
set_option linter.unusedVariables false
set_option linter.unusedSimpArgs false
def okW (w : Int) : Bool := decide (w ≥ 0) && decide (w ≤ 4294967295)
def allW (m : List Int) : Bool := m.all okW
theorem l1In_eq (n a b : Int) : F_e (n, a, b, ()) = some ((decide (n ≥ a) && decide (n ≤ b), ()), ()) := by
 unfold F_e
 simp only [ltI_eq, leI_eq, decide_eq_true_eq, ge_iff_le, gt_iff_lt]
 split
 ·rename_i h; simp [h]
 ·rename_i h; simp [h]
theorem within_eq (n a b : Int) : F_q (n, a, b, ()) = some ((decide (n ≥ a) && decide (n ≤ b), ()), ()) := by
 unfold F_q
 simp only [ltI_eq, leI_eq, decide_eq_true_eq, ge_iff_le, gt_iff_lt]
 split
 ·rename_i h; simp [h]
 ·rename_i h; simp [h]
def memFault (m : List Int) : Int := if m.length % 8 = 0 ∧ 8 ≤ m.length ∧ m.length ≤ 192 then (if allW m = true then 0 else 3) else 1
abbrev HartD := den (.pair (.slice (.int .i64)) (.pair (.int .i64) (.pair (.slice (.int .i64)) (.pair .bool (.pair .bool (.pair .bool (.pair (.int .i64) (.pair (.slice (.int .i64)) (.pair (.slice (.int .i64)) .unit)))))))))
/-- No list of it is longer. -/
def hartLe (n : Nat) (h : HartD) : Prop := h.1.length ≤ n ∧ h.2.2.1.length ≤ n ∧ h.2.2.2.2.2.2.2.1.length ≤ n ∧ h.2.2.2.2.2.2.2.2.1.length ≤ n
/-- A loop whose counter goes from i up to N at most. -/
theorem loopN {X γ σ : Type} {step : (X → Option γ) → X → Option γ} (emb : Nat → σ → X) (N : Nat) (hN : N < lots) (I : Nat → σ → Prop) (out : Nat → σ → Option γ)
  (h : ∀ rec i s, i ≤ N → I i s → (∀ s', i < N → I (i + 1) s' → rec (emb (i + 1) s') = out (i + 1) s') → step rec (emb i s) = out i s) :
  ∀ i s, i ≤ N → I i s → iterF step lots (emb i s) = out i s := by
 have key : ∀ n i s, N - i < n → i ≤ N → I i s → iterF step n (emb i s) = out i s := by
  intro n
  induction n with
  | zero => intro i s h; omega
  | succ n ih =>
   intro i s hn hi hI
   simp only [iterF]
   exact h _ i s hi hI fun s' hlt hI' => ih (i + 1) s' (by omega) (by omega) hI'
 intro i s hi hI
 exact key lots i s (by omega) hi hI
theorem lots_gt' {n : Nat} (h : n ≤ 9223372036854775807) : n < lots := by rw [lots_eq]; omega
theorem wrapS {i : Nat} (h : i < 9223372036854775807) : IntKind.i64.wrap ((i : Int) + 1) = ((i + 1 : Nat) : Int) := by rw [wrap64 (by omega) (by omega)]; rfl
theorem nat0 {i : Nat} : (0 : Int) ≤ (i : Int) := Int.natCast_nonneg i
/-- One step at a place of a list. -/
theorem at_get {α γ : Type} {m : List α} {i : Nat} (h : i < m.length) (K : α → Option γ) : (m[((i : Nat) : Int).toNat]?).bind K = K m[i] := by
 rw [Int.toNat_natCast, List.getElem?_eq_getElem h, Option.bind_some]
theorem drop_get {α : Type} {m : List α} {i : Nat} (h : i < m.length) : m.drop i = m[i] :: m.drop (i + 1) := List.drop_eq_getElem_cons h
theorem drop_all {α : Type} {m : List α} {i : Nat} (h : ¬ i < m.length) : m.drop i = [] := List.drop_of_length_le (by omega)
theorem ltN {a b : Nat} : ltI (a : Int) (b : Int) = decide (a < b) := by
 rw [ltI_eq]; by_cases h : a < b
 ·have : (a : Int) < b := by omega
  simp [h, this]
 ·have : ¬ (a : Int) < b := by omega
  simp [h, this]
theorem ltI_t {a b : Int} : ltI a b = true ↔ a < b := by rw [ltI_eq]; simp
theorem leI_t {a b : Int} : leI a b = true ↔ a ≤ b := by rw [leI_eq]; simp
theorem ltI_f {a b : Int} : ltI a b = false ↔ ¬ a < b := by rw [ltI_eq]; simp
def scan {α β : Type} (f : Nat → α → Option β) : Nat → List α → Option β
 | _, [] => none
 | i, x :: r => match f i x with
  | some c => some c
  | none => scan f (i + 1) r
theorem scan_loop {X α γ β : Type} {step : (X → Option γ) → X → Option γ} (emb : Nat → X) (m : List α) (f : Nat → α → Option β) (bad : β → Option γ) (done : Option γ) (hm : m.length ≤ 9223372036854775807)
  (h1 : ∀ rec i (h : i < m.length), step rec (emb i) = match f i m[i] with | some c => bad c | none => rec (emb (i + 1)))
  (h2 : ∀ rec, step rec (emb m.length) = done) : iterF step lots (emb 0) = match scan f 0 m with | some c => bad c | none => done := by
 have key := loopN (step := step) (fun i (_ : Unit) => emb i) m.length (lots_gt' hm) (fun _ _ => True) (fun i _ => match scan f i (m.drop i) with | some c => bad c | none => done) ?_ 0 () (by omega) trivial
 ·simpa using key
 ·intro rec i _ hi _ ih
  by_cases hlt : i < m.length
  ·rw [h1 rec i hlt, drop_get hlt]
   simp only [scan]
   cases hf : f i m[i] with
   | some c => rfl
   | none => exact ih () hlt trivial
  ·have : i = m.length := by omega
   subst this
   rw [h2, List.drop_length]
   rfl
/-- Is there an element that is so? -/
theorem scan_any {α β : Type} {f : Nat → α → Option β} {p : α → Bool} : ∀ {m : List α} {i : Nat}, (∀ j (h : j < m.length), (f (i + j) m[j]).isSome = p m[j]) → (scan f i m).isSome = m.any p
 | [], _, _ => rfl
 | x :: r, i, h => by
  have h0 := h 0 (by simp)
  simp only [Nat.add_zero, List.getElem_cons_zero] at h0
  have := scan_any (f := f) (p := p) (m := r) (i := i + 1) fun j hj => by
   have := h (j + 1) (by simpa using hj)
   simpa [Nat.add_assoc, Nat.add_comm, Nat.add_left_comm] using this
  simp only [scan, List.any_cons, ← h0, ← this]
  cases f i x <;> rfl
theorem lt_t {i n : Nat} (h : i < n) : ltI (i : Int) (n : Int) = true := by rw [ltN]; simpa using h
theorem lt_f {i n : Nat} (h : ¬ i < n) : ¬ ltI (i : Int) (n : Int) = true := by rw [ltN]; simpa using h
theorem lt_same {n : Nat} : ¬ ltI (n : Int) (n : Int) = true := lt_f (Nat.lt_irrefl n)
theorem lt1 {α : Type} {i : Nat} {m : List α} (h : i < m.length) (hm : m.length ≤ 1048576) : i < 9223372036854775807 := by omega
theorem iter_s {X γ : Type} (step : (X → Option γ) → X → Option γ) (n : Nat) (x : X) : iterF step (n + 1) x = step (iterF step n) x := rfl
theorem lots3 : lots = 18446744073709551613 + 1 + 1 + 1 := rfl
theorem concat_len {α E : Type} {step : ((List (List α) × Int × List (List α) × Int × Int × Unit) × Unit × Unit → Option (((List (List α) × Int × Unit) × Unit × Unit) ⊕ E)) → (List (List α) × Int × List (List α) × Int × Int × Unit) × Unit × Unit → Option (((List (List α) × Int × Unit) × Unit × Unit) ⊕ E)}
  (hstep : ∀ rec m s l n i, step rec ((m, s, l, n, i, ()), (), ()) = if ltI i n = true then (if 0 ≤ i then (l[i.toNat]?).bind fun y => if ltI (IntKind.i64.wrap (s + ((y.length : Nat) : Int))) 0 = true then none else
   rec ((m, IntKind.i64.wrap (s + ((y.length : Nat) : Int)), l, n, IntKind.i64.wrap (i + 1), ()), (), ()) else none) else some (.inl ((m, s, ()), (), ())))
  (m : List (List α)) (a b : List α) (h : a.length + b.length ≤ 9223372036854775807) : iterF step lots ((m, 0, [a, b], 2, 0, ()), (), ()) = some (.inl ((m, (a.length : Int) + (b.length : Int), ()), (), ())) := by
 rw [lots3]
 generalize 18446744073709551613 = n
 have w1 : IntKind.i64.wrap ((0 : Int) + 1) = 1 := wrap64 (by omega) (by omega)
 have w2 : IntKind.i64.wrap ((1 : Int) + 1) = 2 := wrap64 (by omega) (by omega)
 rw [iter_s, hstep, if_pos (by decide), if_pos (by decide)]
 show (some a).bind _ = _
 rw [Option.bind_some, wrap64 (by omega) (by omega), if_neg (by rw [ltI_t]; omega), w1, iter_s, hstep, if_pos (by decide), if_pos (by decide)]
 show (some b).bind _ = _
 rw [Option.bind_some, wrap64 (by omega) (by omega), if_neg (by rw [ltI_t]; omega), w2, iter_s, hstep, if_neg (by decide), Int.zero_add]
theorem concat_app {α E : Type} {by_ : Nat} {step : ((List α × List (List α) × Int × Int × Unit) × Unit × Unit → Option (((List α × Unit) × Unit × Unit) ⊕ E)) → (List α × List (List α) × Int × Int × Unit) × Unit × Unit → Option (((List α × Unit) × Unit × Unit) ⊕ E)}
  (hstep : ∀ rec m l n i, step rec ((m, l, n, i, ()), (), ()) = if ltI i n = true then (if 0 ≤ i then (l[i.toNat]?).bind fun y => if (m.length + y.length) * by_ ≤ 140737488355328 then
   rec ((m ++ y, l, n, IntKind.i64.wrap (i + 1), ()), (), ()) else none else none) else some (.inl ((m, ()), (), ())))
  (a b : List α) (h : (a.length + b.length) * by_ ≤ 140737488355328) : iterF step lots (([], [a, b], 2, 0, ()), (), ()) = some (.inl ((a ++ b, ()), (), ())) := by
 rw [lots3]
 generalize 18446744073709551613 = n
 have w1 : IntKind.i64.wrap ((0 : Int) + 1) = 1 := wrap64 (by omega) (by omega)
 have w2 : IntKind.i64.wrap ((1 : Int) + 1) = 2 := wrap64 (by omega) (by omega)
 have h1 : a.length * by_ ≤ (a.length + b.length) * by_ := Nat.mul_le_mul_right _ (by omega)
 rw [iter_s, hstep, if_pos (by decide), if_pos (by decide)]
 show (some a).bind _ = _
 rw [Option.bind_some, if_pos (by simp; omega), w1, iter_s, hstep, if_pos (by decide), if_pos (by decide)]
 show (some b).bind _ = _
 rw [Option.bind_some, if_pos (by simp; omega), w2, iter_s, hstep, if_neg (by decide), List.nil_append]
abbrev LaneD := Int × Int × Int × Int × Int × Unit
abbrev TwoD := Int × Int × Unit
abbrev PolD := List (List Int) × List LaneD × List TwoD × List TwoD × Unit
/-- No list of it is longer. -/
def polLe (n : Nat) (p : PolD) : Prop := (p.1.length ≤ n ∧ ∀ l ∈ p.1, l.length ≤ n) ∧ p.2.1.length ≤ n ∧ p.2.2.1.length ≤ n ∧ p.2.2.2.1.length ≤ n
theorem leMax {n : Nat} (h : n ≤ 1048576) : n ≤ 9223372036854775807 := by omega
theorem scan_le {α β : Type} {f : Nat → α → Option β} {P : β → Prop} : ∀ {m : List α} {i : Nat}, (∀ j (h : j < m.length) c, f (i + j) m[j] = some c → P c) → ∀ c, scan f i m = some c → P c
 | [], _, _, c, h => by simp [scan] at h
 | x :: r, i, h, c, hc => by
  have h0 := h 0 (by simp)
  simp only [Nat.add_zero, List.getElem_cons_zero] at h0
  simp only [scan] at hc
  split at hc
  ·rename_i d hd
   obtain rfl := Option.some.inj hc
   exact h0 _ hd
  ·exact scan_le (m := r) (i := i + 1) (fun j hj c' hc' => h (j + 1) (by simpa using hj) c' (by simpa [Nat.add_assoc, Nat.add_comm, Nat.add_left_comm] using hc')) c hc
theorem l1Has_eq (m : List Int) (v : Int) (hm : m.length ≤ 1048576) : F_f (m, v, ()) = some ((m.contains v, ()), ()) := by
 have key := scan_loop (step := l_f_2) (γ := denO o_f_2) (fun i => ((m, v, ((i : Nat) : Int), ()), (), ())) m (fun _ y => if (y == v) = true then some () else none) (fun _ => some (.inr (.inl ((true, ()), (), ())))) (some (.inl ((), (), ()))) (leMax hm) ?_ ?_
 ·unfold F_f
  show (iterF l_f_2 lots ((m, v, ((0 : Nat) : Int), ()), (), ())).bind _ = _
  rw [key]
  have := scan_any (f := fun (_ : Nat) y => if (y == v) = true then some () else none) (p := fun y => y == v) (m := m) (i := 0) (fun j hj => by cases m[j] == v <;> rfl)
  have e : m.any (fun y => y == v) = m.contains v := by
   rw [Bool.eq_iff_iff, List.any_eq_true, List.contains_iff_mem]
   exact ⟨fun ⟨y, hy, e⟩ => by rw [← beq_iff_eq.1 e]; exact hy, fun h => ⟨v, h, by simp⟩⟩
  rw [e] at this
  rw [← this]
  cases scan (fun (_ : Nat) y => if (y == v) = true then some () else none) 0 m <;> rfl
 ·intro rec i h
  unfold l_f_2
  dsimp only
  rw [if_pos (lt_t h), if_pos nat0, at_get h, wrapS (lt1 h hm)]
  cases m[i] == v <;> rfl
 ·intro rec
  unfold l_f_2
  dsimp only
  rw [if_neg lt_same]
def isG (p : PolD) (g : Int) : Bool := decide (g ≥ 0) && decide (g ≤ (p.1.length : Int) - 1)
theorem l6Guest_eq (p : PolD) (g : Int) (h : p.1.length ≤ 1048576) : F_h (p, g, ()) = some ((isG p g, ()), ()) := by
 unfold F_h isG
 dsimp only
 rw [wrap64 (by omega) (by omega), l1In_eq, Option.bind_some]
theorem isGuest_eq (p : PolD) (g : Int) (h : p.1.length ≤ 1048576) : F_s (p, g, ()) = some ((isG p g, ()), ()) := by
 unfold F_s isG
 dsimp only
 rw [wrap64 (by omega) (by omega), within_eq, Option.bind_some]
def endsM (p : PolD) (a b : Int) : Int := if isG p a = true then (if isG p b = true then (if a = b then 1 else 0) else 4) else 4
theorem ends_eq (p : PolD) (a b : Int) (h : p.1.length ≤ 1048576) : F_i (p, a, b, ()) = some ((endsM p a b, ()), ()) := by
 unfold F_i endsM
 rw [l6Guest_eq p a h, l6Guest_eq p b h]
 simp only [Option.bind_some]
 cases isG p a <;> cases isG p b <;> by_cases e : a = b <;> simp [e]
theorem link_eq (p : PolD) (a b : Int) (h : p.1.length ≤ 1048576) : F_t (p, a, b, ()) = some ((endsM p a b, ()), ()) := by
 unfold F_t endsM
 rw [isGuest_eq p a h, isGuest_eq p b h]
 simp only [Option.bind_some]
 cases isG p a <;> cases isG p b <;> by_cases e : a = b <;> simp [e]
def orMinus : Option Int → Int
 | some c => c
 | none => -1
def ownerM (own : List (List Int)) (page : Int) : Int := orMinus (scan (fun i (l : List Int) => if l.contains page = true then some ((i : Nat) : Int) else none) 0 own)
theorem owner_eq (p : PolD) (page : Int) (h : p.1.length ≤ 1048576) (h2 : ∀ l ∈ p.1, l.length ≤ 1048576) : F_j (p, page, ()) = some ((ownerM p.1 page, ()), ()) := by
 have key := scan_loop (step := l_j_2) (γ := denO o_j_2) (fun i => ((p, page, ((i : Nat) : Int), ()), (), ())) p.1 (fun i (l : List Int) => if l.contains page = true then some ((i : Nat) : Int) else none)
  (fun c => some (.inr (.inl ((c, ()), (), ())))) (some (.inl ((), (), ()))) (leMax h) ?_ ?_
 ·unfold F_j ownerM
  show (iterF l_j_2 lots ((p, page, ((0 : Nat) : Int), ()), (), ())).bind _ = _
  rw [key]
  cases scan (fun i (l : List Int) => if l.contains page = true then some ((i : Nat) : Int) else none) 0 p.1 <;> rfl
 ·intro rec i hi
  unfold l_j_2
  dsimp only
  rw [if_pos (lt_t hi), if_pos nat0, at_get hi, wrapS (lt1 hi h), l1Has_eq _ _ (h2 _ (List.getElem_mem hi)), Option.bind_some]
  dsimp only
  cases (p.1[i]).contains page <;> rfl
 ·intro rec
  unfold l_j_2
  dsimp only
  rw [if_neg lt_same]
theorem scan_ge {α : Type} {P : Nat → α → Bool} {m : List α} {c : Int} (h : scan (fun i y => if P i y = true then some ((i : Nat) : Int) else none) 0 m = some c) : 0 ≤ c := by
 refine scan_le (P := fun c => 0 ≤ c) ?_ c h
 intro j hj c hc
 split at hc
 ·obtain rfl := Option.some.inj hc; omega
 ·cases hc
theorem contains_of {α : Type} {P : α → Bool} {m : List α} {f : Nat → α → Option Int} (hf : ∀ i y, f i y = if P y = true then some ((i : Nat) : Int) else none) : leI 0 (orMinus (scan f 0 m)) = m.any P := by
 have e : f = fun i y => if P y = true then some ((i : Nat) : Int) else none := by funext i y; exact hf i y
 subst e
 have h1 := scan_any (f := fun i y => if P y = true then some ((i : Nat) : Int) else none) (p := P) (m := m) (i := 0) (fun j hj => by cases P m[j] <;> rfl)
 rw [← h1, leI_eq]
 cases hs : scan (fun i y => if P y = true then some ((i : Nat) : Int) else none) 0 m with
 | none => rfl
 | some c => have := scan_ge (P := fun _ y => P y) hs; simp [orMinus, this]
theorem index_eq (m : List Int) (v : Int) (hm : m.length ≤ 1048576) : F_u (m, v, ()) = some ((orMinus (scan (fun i y => if (v == y) = true then some ((i : Nat) : Int) else none) 0 m), ()), ()) := by
 have key := scan_loop (step := l_u_2) (γ := denO o_u_2) (fun i => ((m, v, ((m.length : Nat) : Int), ((i : Nat) : Int), ()), (), ())) m (fun i y => if (v == y) = true then some ((i : Nat) : Int) else none)
  (fun c => some (.inr (.inl ((c, ()), (), ())))) (some (.inl ((), (), ()))) (leMax hm) ?_ ?_
 ·unfold F_u
  show (iterF l_u_2 lots ((m, v, ((m.length : Nat) : Int), ((0 : Nat) : Int), ()), (), ())).bind _ = _
  rw [key]
  cases scan (fun i y => if (v == y) = true then some ((i : Nat) : Int) else none) 0 m <;> rfl
 ·intro rec i hi
  unfold l_u_2
  dsimp only
  rw [if_pos (lt_t hi), if_pos nat0, at_get hi, wrapS (lt1 hi hm)]
  cases v == m[i] <;> rfl
 ·intro rec
  unfold l_u_2
  dsimp only
  rw [if_neg lt_same]
theorem any_contains (m : List Int) (v : Int) : m.any (fun y => v == y) = m.contains v := by
 rw [Bool.eq_iff_iff, List.any_eq_true, List.contains_iff_mem]
 exact ⟨fun ⟨y, hy, e⟩ => by rw [beq_iff_eq.1 e]; exact hy, fun h => ⟨v, h, by simp⟩⟩
theorem contains_eq (m : List Int) (v : Int) (hm : m.length ≤ 1048576) : F_v (m, v, ()) = some ((m.contains v, ()), ()) := by
 unfold F_v
 rw [index_eq m v hm, Option.bind_some]
 dsimp only
 rw [contains_of (P := fun y => v == y) (fun _ _ => rfl), any_contains]
theorem implOwner_eq (p : PolD) (page : Int) (h : p.1.length ≤ 1048576) (h2 : ∀ l ∈ p.1, l.length ≤ 1048576) : F_w (p, page, ()) = some ((ownerM p.1 page, ()), ()) := by
 have key := scan_loop (step := l_y_2) (γ := denO o_y_2) (fun i => ((p.1, (page, ()), ((p.1.length : Nat) : Int), ((i : Nat) : Int), ()), (), ())) p.1
  (fun i (l : List Int) => if l.contains page = true then some ((i : Nat) : Int) else none) (fun c => some (.inr (.inl ((c, ()), (), ())))) (some (.inl ((), (), ()))) (leMax h) ?_ ?_
 ·unfold F_w ownerM F_x_1
  show ((iterF l_y_2 lots ((p.1, (page, ()), ((p.1.length : Nat) : Int), ((0 : Nat) : Int), ()), (), ())).bind _).bind _ = _
  rw [key]
  cases scan (fun i (l : List Int) => if l.contains page = true then some ((i : Nat) : Int) else none) 0 p.1 <;> rfl
 ·intro rec i hi
  unfold l_y_2
  dsimp only
  rw [if_pos (lt_t hi), if_pos nat0, at_get hi, wrapS (lt1 hi h)]
  unfold F_w_1
  rw [contains_eq _ _ (h2 _ (List.getElem_mem hi)), Option.bind_some, Option.bind_some]
  dsimp only
  cases (p.1[i]).contains page <;> rfl
 ·intro rec
  unfold l_y_2
  dsimp only
  rw [if_neg lt_same]
def laneAt (l : LaneD) (g page : Int) : Bool := (l.1 == g && l.2.2.2.1 == page) || (l.2.1 == g && l.2.2.2.2.1 == page)
theorem l6At_eq (l : LaneD) (g page : Int) : F_k (l, g, page, ()) = some ((laneAt l g page, ()), ()) := by
 unfold F_k laneAt
 cases l.1 == g <;> cases l.2.2.2.1 == page <;> cases l.2.1 == g <;> rfl
theorem sits_eq (l : LaneD) (g page : Int) : F_z (l, g, page, ()) = some ((laneAt l g page, ()), ()) := by
 unfold F_z laneAt
 cases l.1 == g <;> cases l.2.2.2.1 == page <;> cases l.2.1 == g <;> rfl
/-- Does a lane stand in another one's way? -/
def clash (l o : LaneD) : Bool := o.2.2.1 == l.2.2.1 || (laneAt o l.1 l.2.2.2.1 || laneAt o l.2.1 l.2.2.2.2.1)
def inB (n a b : Int) : Bool := decide (n ≥ a) && decide (n ≤ b)
theorem within_eq2 (n a b : Int) : F_q (n, a, b, ()) = some ((inB n a b, ()), ()) := within_eq n a b
theorem l1In_eq2 (n a b : Int) : F_e (n, a, b, ()) = some ((inB n a b, ()), ()) := l1In_eq n a b
def laneM (p : PolD) (l : LaneD) (ahead : List LaneD) : Int :=
 if endsM p l.1 l.2.1 ≠ 0 then endsM p l.1 l.2.1
 else if inB l.2.2.1 0 23 = true ∧ inB l.2.2.2.1 5 6 = true ∧ inB l.2.2.2.2.1 5 6 = true then
  (if leI 0 (ownerM p.1 l.2.2.1) = true then 6 else if ahead.any (clash l) = true then 6 else 0) else 3
theorem lane1_eq (l o : LaneD) : F_aa_1 (o, l, ()) = some ((clash l o, ()), ()) := by
 unfold F_aa_1 clash
 dsimp only
 rw [sits_eq, sits_eq]
 simp only [Option.bind_some]
 cases o.2.2.1 == l.2.2.1 <;> cases laneAt o l.1 l.2.2.2.1 <;> rfl
theorem lanesAny_eq (l : LaneD) (m : List LaneD) (hm : m.length ≤ 1048576) : F_ad_1 (m, (l, ()), ()) = some ((m.any (clash l), ()), ()) := by
 have key := scan_loop (step := l_ac_2) (γ := denO o_ac_2) (fun i => ((m, (l, ()), ((m.length : Nat) : Int), ((i : Nat) : Int), ()), (), ())) m
  (fun i o => if clash l o = true then some ((i : Nat) : Int) else none) (fun c => some (.inr (.inl ((c, ()), (), ())))) (some (.inl ((), (), ()))) (leMax hm) ?_ ?_
 ·unfold F_ad_1 F_ab_1
  show ((iterF l_ac_2 lots ((m, (l, ()), ((m.length : Nat) : Int), ((0 : Nat) : Int), ()), (), ())).bind _).bind _ = _
  rw [key, ← contains_of (P := clash l) (m := m) (f := fun i o => if clash l o = true then some ((i : Nat) : Int) else none) (fun _ _ => rfl)]
  cases scan (fun i o => if clash l o = true then some ((i : Nat) : Int) else none) 0 m <;> rfl
 ·intro rec i hi
  unfold l_ac_2
  dsimp only
  rw [if_pos (lt_t hi), if_pos nat0, at_get hi, wrapS (lt1 hi hm), lane1_eq, Option.bind_some]
  dsimp only
  cases clash l m[i] <;> rfl
 ·intro rec
  unfold l_ac_2
  dsimp only
  rw [if_neg lt_same]
theorem laneFault_eq (p : PolD) (l : LaneD) (ahead : List LaneD) (h : p.1.length ≤ 1048576) (h2 : ∀ l ∈ p.1, l.length ≤ 1048576) (hm : ahead.length ≤ 1048576) : F_aa (p, l, ahead, ()) = some ((laneM p l ahead, ()), ()) := by
 unfold F_aa laneM
 dsimp only
 rw [link_eq p _ _ h, within_eq2, within_eq2, within_eq2, implOwner_eq p _ h h2, lanesAny_eq l ahead hm]
 simp only [Option.bind_some]
 by_cases h0 : endsM p l.1 l.2.1 = 0
 ·rw [h0]
  cases b1 : inB l.2.2.1 0 23 <;> cases b2 : inB l.2.2.2.1 5 6 <;> cases b3 : inB l.2.2.2.2.1 5 6 <;> cases b4 : leI 0 (ownerM p.1 l.2.2.1) <;> cases b5 : ahead.any (clash l) <;> simp
 ·simp [h0]
def nz (c : Int) : Option Int := if c ≠ 0 then some c else none
def lanesM (p : PolD) : Option Int := scan (fun i l => nz (laneM p l (p.2.1.take i))) 0 p.2.1
theorem specAhead_eq (p : PolD) (i : Nat) (hi : i < p.2.1.length) (hm : p.2.1.length ≤ 1048576) (l : LaneD) (a1 : Int) (a2 a3 : Bool) (a4 : Int) (a5 a6 : Bool) :
  (((p.2.1.take i).any (clash l) = true ∧ iterF l_l_15 lots ((p, (i : Int), (), 0, (), a1, a2, a3, (), a4, a5, a6, ()), ((l.1, l.2.1, l.2.2.1, l.2.2.2.1, l.2.2.2.2.1, ()), ()), ()) = some (.inr (.inl ((6, ()), (), ())))) ∨
   ((p.2.1.take i).any (clash l) = false ∧ ∃ x, iterF l_l_15 lots ((p, (i : Int), (), 0, (), a1, a2, a3, (), a4, a5, a6, ()), ((l.1, l.2.1, l.2.2.1, l.2.2.2.1, l.2.2.2.2.1, ()), ()), ()) = some (.inl x) ∧ x.1.1 = p ∧ x.1.2.1 = (i : Int))) := by
 have hl : (p.2.1.take i).length = i := by simp; omega
 obtain ⟨x, hx, hx1, hx2⟩ : ∃ x, (∀ rec, l_l_15 rec ((p, (i : Int), (), (i : Int), (), a1, a2, a3, (), a4, a5, a6, ()), ((l.1, l.2.1, l.2.2.1, l.2.2.2.1, l.2.2.2.2.1, ()), ()), ()) = some (.inl x)) ∧ x.1.1 = p ∧ x.1.2.1 = (i : Int) := by
  refine ⟨((p, (i : Int), (), a1, a2, a3, (), a4, a5, a6, ()), ((l.1, l.2.1, l.2.2.1, l.2.2.2.1, l.2.2.2.2.1, ()), ()), ()), fun rec => ?_, rfl, rfl⟩
  unfold l_l_15
  dsimp only
  rw [if_neg lt_same]
 have key := scan_loop (step := l_l_15) (γ := denO o_l_15) (fun k => ((p, (i : Int), (), ((k : Nat) : Int), (), a1, a2, a3, (), a4, a5, a6, ()), ((l.1, l.2.1, l.2.2.1, l.2.2.2.1, l.2.2.2.2.1, ()), ()), ())) (p.2.1.take i)
  (fun _ o => if clash l o = true then some () else none) (fun _ => some (.inr (.inl ((6, ()), (), ())))) (some (.inl x)) (leMax (by omega)) ?_ ?_
 ·have h1 := scan_any (f := fun (_ : Nat) o => if clash l o = true then some () else none) (p := clash l) (m := p.2.1.take i) (i := 0) (fun j hj => by cases clash l (p.2.1.take i)[j] <;> rfl)
  have e0 : ((0 : Nat) : Int) = 0 := rfl
  rw [e0] at key
  rw [key, ← h1]
  cases scan (fun (_ : Nat) o => if clash l o = true then some () else none) 0 (p.2.1.take i) with
  | some c => exact .inl ⟨rfl, rfl⟩
  | none => exact .inr ⟨rfl, x, rfl, hx1, hx2⟩
 ·intro rec k hk
  have hk' : k < i := by omega
  unfold l_l_15
  dsimp only
  rw [if_pos (lt_t hk'), if_pos nat0, at_get (by omega), wrapS (by omega), l6At_eq, l6At_eq, List.getElem_take]
  simp only [Option.bind_some, clash]
  rcases Bool.eq_false_or_eq_true ((p.2.1[k]).2.2.1 == l.2.2.1) with c1 | c1 <;> rcases Bool.eq_false_or_eq_true (laneAt p.2.1[k] l.1 l.2.2.2.1) with c2 | c2 <;> rcases Bool.eq_false_or_eq_true (laneAt p.2.1[k] l.2.1 l.2.2.2.2.1) with c3 | c3 <;> simp [c1, c2, c3]
 ·intro rec
  rw [hl]
  exact hx rec
theorem specLanes_eq (p : PolD) (h : p.1.length ≤ 1048576) (h2 : ∀ l ∈ p.1, l.length ≤ 1048576) (hm : p.2.1.length ≤ 1048576) :
  F_l (p, ()) = some ((if p.2.1.length ≤ 4 ∧ p.2.2.1.length ≤ 4 then (match lanesM p with | some c => c | none => 0) else 2, ()), ()) := by
 have key := scan_loop (step := l_l_4) (γ := denO o_l_4) (fun i => ((p, ((i : Nat) : Int), ()), (), ())) p.2.1 (fun i l => nz (laneM p l (p.2.1.take i)))
  (fun c => some (.inr (.inl ((c, ()), (), ())))) (some (.inl ((), (), ()))) (leMax hm) ?_ ?_
 ·have e0 : ((0 : Nat) : Int) = 0 := rfl
  rw [e0] at key
  unfold F_l lanesM
  dsimp only
  by_cases h1 : p.2.1.length ≤ 4
  ·rw [if_pos (by rw [ltI_f]; omega)]
   by_cases h3 : p.2.2.1.length ≤ 4
   ·rw [if_neg (by rw [ltI_t]; omega), if_pos ⟨h1, h3⟩]
    show (iterF l_l_4 lots ((p, 0, ()), (), ())).bind _ = _
    rw [key]
    cases scan (fun i l => nz (laneM p l (p.2.1.take i))) 0 p.2.1 <;> rfl
   ·rw [if_pos (by rw [ltI_t]; omega), if_neg (by omega)]
  ·rw [if_neg (by rw [ltI_f]; omega), if_neg (by omega)]
 ·intro rec i hi
  unfold l_l_4
  dsimp only
  rw [if_pos (lt_t hi), if_pos nat0, at_get hi, ends_eq p _ _ h, l1In_eq2, l1In_eq2, l1In_eq2, owner_eq p _ h h2]
  simp only [Option.bind_some]
  generalize p.2.1[i] = l
  unfold laneM
  by_cases h0 : endsM p l.1 l.2.1 = 0
  ·rw [h0]
   cases b1 : inB l.2.2.1 0 23
   ·simp [nz]
   cases b2 : inB l.2.2.2.1 5 6
   ·simp [nz]
   cases b3 : inB l.2.2.2.2.1 5 6
   ·simp [nz]
   cases b4 : leI 0 (ownerM p.1 l.2.2.1)
   ·rw [if_neg (by simp), if_pos (by simp), if_pos (by simp), if_neg (by simp), if_neg (by simp), if_neg (by simp), if_pos (by simp), if_neg (by simp)]
    rcases specAhead_eq p i hi hm l l.2.2.2.1 true (!true) l.2.2.2.2.1 true (!true) with ⟨g1, g2⟩ | ⟨g1, x, g2, g3, g4⟩
    ·show (iterF l_l_15 lots ((p, (i : Int), (), 0, (), l.2.2.2.1, true, (!true), (), l.2.2.2.2.1, true, (!true), ()), ((l.1, l.2.1, l.2.2.1, l.2.2.2.1, l.2.2.2.2.1, ()), ()), ())).bind _ = _
     rw [g1, g2]
     rfl
    ·show (iterF l_l_15 lots ((p, (i : Int), (), 0, (), l.2.2.2.1, true, (!true), (), l.2.2.2.2.1, true, (!true), ()), ((l.1, l.2.1, l.2.2.1, l.2.2.2.1, l.2.2.2.2.1, ()), ()), ())).bind _ = _
     rw [g1, g2, Option.bind_some]
     dsimp only
     rw [g3, g4, wrapS (lt1 hi hm)]
     rfl
   ·simp [nz]
  ·simp [h0, nz]
 ·intro rec
  unfold l_l_4
  dsimp only
  rw [if_neg lt_same]
def sameB (b o : TwoD) : Bool := (b.1 == o.1) && ((b.2.1 == o.2.1) && true)
def bellM (p : PolD) (b : TwoD) (ahead : List TwoD) : Int := if endsM p b.1 b.2.1 ≠ 0 then endsM p b.1 b.2.1 else if ahead.any (sameB b) = true then 6 else 0
def bellsM (p : PolD) : Option Int := scan (fun i b => nz (bellM p b (p.2.2.1.take i))) 0 p.2.2.1
def planM (p : PolD) : Int := if 1 ≤ p.2.2.2.1.length ∧ p.2.2.2.1.length ≤ 8 then
 (match scan (fun (_ : Nat) (s : TwoD) => if isG p s.1 = true then (if inB s.2.1 1 50 = true then none else some (3 : Int)) else some 4) 0 p.2.2.2.1 with | some c => c | none => 0) else 2
theorem sameB_comm (b o : TwoD) : sameB b o = sameB o b := by
 unfold sameB
 rw [Bool.eq_iff_iff]
 simp
 constructor <;> rintro ⟨h1, h2⟩ <;> exact ⟨h1.symm, h2.symm⟩
theorem bellsAny_eq (b : TwoD) (m : List TwoD) (hm : m.length ≤ 1048576) : F_af (m, b, ()) = some ((m.any (sameB b), ()), ()) := by
 have key := scan_loop (step := l_ae_2) (γ := denO o_ae_2) (fun i => ((m, (), ((m.length : Nat) : Int), ((i : Nat) : Int), ()), ((b.1, b.2.1, ()), ()), ())) m
  (fun i o => if sameB b o = true then some ((i : Nat) : Int) else none) (fun c => some (.inr (.inl ((c, ()), (), ())))) (some (.inl ((), (), ()))) (leMax hm) ?_ ?_
 ·unfold F_af F_ae
  show ((iterF l_ae_2 lots ((m, (), ((m.length : Nat) : Int), ((0 : Nat) : Int), ()), ((b.1, b.2.1, ()), ()), ())).bind _).bind _ = _
  rw [key, ← contains_of (P := sameB b) (m := m) (f := fun i o => if sameB b o = true then some ((i : Nat) : Int) else none) (fun _ _ => rfl)]
  cases scan (fun i o => if sameB b o = true then some ((i : Nat) : Int) else none) 0 m <;> rfl
 ·intro rec i hi
  unfold l_ae_2
  dsimp only
  rw [if_pos (lt_t hi), if_pos nat0, at_get hi, wrapS (lt1 hi hm)]
  show (if sameB b m[i] = true then _ else _) = _
  cases sameB b m[i] <;> rfl
 ·intro rec
  unfold l_ae_2
  dsimp only
  rw [if_neg lt_same]
theorem bellFault_eq (p : PolD) (b : TwoD) (ahead : List TwoD) (h : p.1.length ≤ 1048576) (hm : ahead.length ≤ 1048576) : F_ag (p, b, ahead, ()) = some ((bellM p b ahead, ()), ()) := by
 unfold F_ag bellM
 dsimp only
 rw [link_eq p _ _ h, bellsAny_eq b ahead hm]
 simp only [Option.bind_some]
 by_cases h0 : endsM p b.1 b.2.1 = 0
 ·rw [h0]
  cases ahead.any (sameB b) <;> simp
 ·simp [h0]
theorem specBellAhead_eq (p : PolD) (i : Nat) (hi : i < p.2.2.1.length) (hm : p.2.2.1.length ≤ 1048576) (b : TwoD) :
  iterF l_ao_9 lots ((p, (i : Int), (), 0, ()), ((b.1, b.2.1, ()), ()), ()) = if (p.2.2.1.take i).any (sameB b) = true then some (.inr (.inl ((6, ()), (), ()))) else some (.inl ((p, (i : Int), ()), (), ())) := by
 have hl : (p.2.2.1.take i).length = i := by simp; omega
 have key := scan_loop (step := l_ao_9) (γ := denO o_ao_9) (fun k => ((p, (i : Int), (), ((k : Nat) : Int), ()), ((b.1, b.2.1, ()), ()), ())) (p.2.2.1.take i)
  (fun _ o => if sameB b o = true then some () else none) (fun _ => some (.inr (.inl ((6, ()), (), ())))) (some (.inl ((p, (i : Int), ()), (), ()))) (leMax (by omega)) ?_ ?_
 ·have h1 := scan_any (f := fun (_ : Nat) o => if sameB b o = true then some () else none) (p := sameB b) (m := p.2.2.1.take i) (i := 0) (fun j hj => by cases sameB b (p.2.2.1.take i)[j] <;> rfl)
  have e0 : ((0 : Nat) : Int) = 0 := rfl
  rw [e0] at key
  rw [key, ← h1]
  cases scan (fun (_ : Nat) o => if sameB b o = true then some () else none) 0 (p.2.2.1.take i) <;> rfl
 ·intro rec k hk
  have hk' : k < i := by omega
  unfold l_ao_9
  dsimp only
  rw [if_pos (lt_t hk'), if_pos nat0, at_get (by omega), wrapS (by omega), List.getElem_take]
  show (if sameB p.2.2.1[k] b = true then _ else _) = _
  rw [sameB_comm]
  cases sameB b p.2.2.1[k] <;> rfl
 ·intro rec
  unfold l_ao_9
  dsimp only
  rw [hl, if_neg lt_same]
theorem specPlan_loop (p : PolD) (h : p.1.length ≤ 1048576) (hm : p.2.2.2.1.length ≤ 1048576) :
  iterF l_ao_16 lots ((p, 0, ()), (), ()) = match scan (fun (_ : Nat) (s : TwoD) => if isG p s.1 = true then (if inB s.2.1 1 50 = true then none else some (3 : Int)) else some 4) 0 p.2.2.2.1 with
   | some c => some (.inr (.inl ((c, ()), (), ()))) | none => some (.inl ((), (), ())) := by
 have key := scan_loop (step := l_ao_16) (γ := denO o_ao_16) (fun i => ((p, ((i : Nat) : Int), ()), (), ())) p.2.2.2.1 (fun (_ : Nat) (s : TwoD) => if isG p s.1 = true then (if inB s.2.1 1 50 = true then none else some (3 : Int)) else some 4) (fun c => some (.inr (.inl ((c, ()), (), ())))) (some (.inl ((), (), ()))) (leMax hm) ?_ ?_
 ·have e0 : ((0 : Nat) : Int) = 0 := rfl
  rw [e0] at key
  rw [key]
  cases scan (fun (_ : Nat) (s : TwoD) => if isG p s.1 = true then (if inB s.2.1 1 50 = true then none else some (3 : Int)) else some 4) 0 p.2.2.2.1 <;> rfl
 ·intro rec i hi
  unfold l_ao_16
  dsimp only
  rw [if_pos (lt_t hi), if_pos nat0, at_get hi, l6Guest_eq p _ h, Option.bind_some]
  cases b1 : isG p (p.2.2.2.1[i]).1
  ·simp
  ·rw [if_neg (by simp), if_pos nat0, at_get hi, l1In_eq2, Option.bind_some]
   cases b2 : inB (p.2.2.2.1[i]).2.1 1 50
   ·simp
   ·rw [if_neg (by simp), wrapS (lt1 hi hm)]; simp
 ·intro rec
  unfold l_ao_16
  dsimp only
  rw [if_neg lt_same]
theorem specRest_eq (p : PolD) (h : p.1.length ≤ 1048576) (h3 : p.2.2.1.length ≤ 1048576) (h4 : p.2.2.2.1.length ≤ 1048576) :
  F_ao (p, ()) = some ((match bellsM p with | some c => c | none => planM p, ()), ()) := by
 have key := scan_loop (step := l_ao_2) (γ := denO o_ao_2) (fun i => ((p, ((i : Nat) : Int), ()), (), ())) p.2.2.1 (fun i b => nz (bellM p b (p.2.2.1.take i)))
  (fun c => some (.inr (.inl ((c, ()), (), ())))) (some (.inl ((p, ()), (), ()))) (leMax h3) ?_ ?_
 ·have e0 : ((0 : Nat) : Int) = 0 := rfl
  rw [e0] at key
  unfold F_ao bellsM
  show (iterF l_ao_2 lots ((p, 0, ()), (), ())).bind _ = _
  rw [key]
  cases scan (fun i b => nz (bellM p b (p.2.2.1.take i))) 0 p.2.2.1 with
  | some c => rfl
  | none =>
   rw [Option.bind_some]
   dsimp only
   unfold planM
   by_cases g1 : 1 ≤ p.2.2.2.1.length
   ·rw [if_pos (by rw [ltI_f]; omega)]
    by_cases g2 : p.2.2.2.1.length ≤ 8
    ·rw [if_neg (by rw [ltI_t]; omega), if_pos ⟨g1, g2⟩]
     show (iterF l_ao_16 lots ((p, 0, ()), (), ())).bind _ = _
     rw [specPlan_loop p h h4]
     cases scan (fun (_ : Nat) (s : TwoD) => if isG p s.1 = true then (if inB s.2.1 1 50 = true then none else some (3 : Int)) else some 4) 0 p.2.2.2.1 <;> rfl
    ·rw [if_pos (by rw [ltI_t]; omega), if_neg (by omega)]
   ·rw [if_neg (by rw [ltI_f]; omega), if_neg (by omega)]
 ·intro rec i hi
  unfold l_ao_2
  dsimp only
  rw [if_pos (lt_t hi), if_pos nat0, at_get hi, ends_eq p _ _ h, Option.bind_some]
  generalize p.2.2.1[i] = b
  unfold bellM
  by_cases h0 : endsM p b.1 b.2.1 = 0
  ·rw [h0, if_neg (by simp)]
   show (iterF l_ao_9 lots ((p, (i : Int), (), 0, ()), ((b.1, b.2.1, ()), ()), ())).bind _ = _
   rw [specBellAhead_eq p i hi h3 b]
   cases (p.2.2.1.take i).any (sameB b)
   ·rw [if_neg (by simp), Option.bind_some]
    dsimp only
    rw [wrapS (lt1 hi h3)]
    rfl
   ·rfl
  ·simp [h0, nz]
 ·intro rec
  unfold l_ao_2
  dsimp only
  rw [if_neg lt_same]
theorem implPlan_eq (p : PolD) (h : p.1.length ≤ 1048576) (hm : p.2.2.2.1.length ≤ 1048576) : F_ah (p, ()) = some ((planM p, ()), ()) := by
 have key := scan_loop (step := l_ah_4) (γ := denO o_ah_4) (fun i => ((p, p.2.2.2.1, ((p.2.2.2.1.length : Nat) : Int), ((i : Nat) : Int), ()), (), ())) p.2.2.2.1
  (fun (_ : Nat) (s : TwoD) => if isG p s.1 = true then (if inB s.2.1 1 50 = true then none else some (3 : Int)) else some 4) (fun c => some (.inr (.inl ((c, ()), (), ())))) (some (.inl ((), (), ()))) (leMax hm) ?_ ?_
 ·have e0 : ((0 : Nat) : Int) = 0 := rfl
  rw [e0] at key
  unfold F_ah planM
  dsimp only
  rw [within_eq2, Option.bind_some]
  by_cases g : 1 ≤ p.2.2.2.1.length ∧ p.2.2.2.1.length ≤ 8
  ·have : inB ((p.2.2.2.1.length : Nat) : Int) 1 8 = true := by unfold inB; simp; omega
   rw [this, if_neg (by simp), if_pos g]
   show (iterF l_ah_4 lots ((p, p.2.2.2.1, ((p.2.2.2.1.length : Nat) : Int), 0, ()), (), ())).bind _ = _
   rw [key]
   cases scan (fun (_ : Nat) (s : TwoD) => if isG p s.1 = true then (if inB s.2.1 1 50 = true then none else some (3 : Int)) else some 4) 0 p.2.2.2.1 <;> rfl
  ·have : inB ((p.2.2.2.1.length : Nat) : Int) 1 8 = false := by unfold inB; simp; omega
   rw [this, if_pos (by simp), if_neg g]
 ·intro rec i hi
  unfold l_ah_4
  dsimp only
  rw [if_pos (lt_t hi), if_pos nat0, at_get hi, isGuest_eq p _ h, Option.bind_some, within_eq2, Option.bind_some, wrapS (lt1 hi hm)]
  cases b1 : isG p (p.2.2.2.1[i]).1
  ·simp
  ·cases b2 : inB (p.2.2.2.1[i]).2.1 1 50 <;> simp
 ·intro rec
  unfold l_ah_4
  dsimp only
  rw [if_neg lt_same]
def own1 (l : List Int) : Option Int := if 1 ≤ l.length ∧ l.length ≤ 5 then scan (fun (_ : Nat) x => if inB x 0 23 = true then none else some (3 : Int)) 0 l else some 2
def dupM : List Int → List Int → Bool
 | _, [] => false
 | seen, x :: r => seen.contains x || dupM (seen ++ [x]) r
def ownsM (own : List (List Int)) : Int := if 1 ≤ own.length ∧ own.length ≤ 3 then (match scan (fun (_ : Nat) l => own1 l) 0 own with | some c => c | none => if dupM [] own.flatten = true then 6 else 0) else 2
theorem specOwn1_eq {T : Type} (p : PolD) (i : Nat) (hi : i < p.1.length) (hl : (p.1[i]).length ≤ 1048576) (a1 a2 : PolD) (b1 b2 : List (List Int)) (c : Int) (d1 d2 : List Int) (e1 : Int) (e2 : Bool) :
  ((scan (fun (_ : Nat) x => if inB x 0 23 = true then none else some (3 : Int)) 0 p.1[i] = none ∧ ∃ x, iterF l_g_9 lots ((p, (i : Int), 0, a1, a2, b1, b2, c, d1, d2, e1, e2, ()), (), ()) = some (.inl x) ∧ x.1.1 = p ∧ x.1.2.1 = (i : Int)) ∨
   (scan (fun (_ : Nat) x => if inB x 0 23 = true then none else some (3 : Int)) 0 p.1[i] = some 3 ∧ iterF l_g_9 lots ((p, (i : Int), 0, a1, a2, b1, b2, c, d1, d2, e1, e2, ()), (), ()) = some (.inr (.inl ((3, ()), (), ()))))) := by
 have key := scan_loop (step := l_g_9) (γ := denO o_g_9) (fun k => ((p, (i : Int), ((k : Nat) : Int), a1, a2, b1, b2, c, d1, d2, e1, e2, ()), (), ())) p.1[i]
  (fun (_ : Nat) x => if inB x 0 23 = true then none else some (3 : Int)) (fun c => some (.inr (.inl ((c, ()), (), ())))) (some (.inl ((p, (i : Int), a1, a2, b1, b2, c, d1, d2, e1, e2, ()), (), ()))) (leMax hl) ?_ ?_
 ·have e0 : ((0 : Nat) : Int) = 0 := rfl
  rw [e0] at key
  rw [key]
  cases hs : scan (fun (_ : Nat) x => if inB x 0 23 = true then none else some (3 : Int)) 0 p.1[i] with
  | none => exact .inl ⟨rfl, _, rfl, rfl, rfl⟩
  | some c =>
   have : c = 3 := scan_le (P := fun c => c = 3) (fun j hj c hc => by
    split at hc
    ·cases hc
    ·exact (Option.some.inj hc).symm) c hs
   subst this
   exact .inr ⟨rfl, rfl⟩
 ·intro rec k hk
  unfold l_g_9
  dsimp only
  rw [if_pos nat0, at_get hi, if_pos (lt_t hk), if_pos nat0, at_get hi, if_pos nat0, at_get hk, l1In_eq2, Option.bind_some, wrapS (lt1 hk hl)]
  cases inB (p.1[i])[k] 0 23 <;> rfl
 ·intro rec
  unfold l_g_9
  dsimp only
  rw [if_pos nat0, at_get hi, if_neg lt_same]
theorem dupM_append : ∀ (l seen r : List Int), dupM seen (l ++ r) = (dupM seen l || dupM (seen ++ l) r)
 | [], seen, r => by simp [dupM]
 | x :: l, seen, r => by
  simp only [List.cons_append, dupM, dupM_append l (seen ++ [x]) r, Bool.or_assoc, List.append_assoc, List.singleton_append, List.nil_append]
theorem specSeen_eq (p : PolD) (seen : List Int) (i : Nat) (hi : i < p.1.length) (hl : (p.1[i]).length ≤ 1048576) (hs : seen.length ≤ 4194304) (hs2 : seen.length + (p.1[i]).length ≤ 1048576) :
  iterF l_g_18 lots ((p, seen, (i : Int), 0, ()), (), ()) = if dupM seen p.1[i] = true then some (.inr (.inl ((6, ()), (), ()))) else some (.inl ((p, seen ++ p.1[i], (i : Int), ()), (), ())) := by
 have key := loopN (step := l_g_18) (γ := denO o_g_18) (fun k (s : List Int) => ((p, s, (i : Int), ((k : Nat) : Int), ()), (), ())) (p.1[i]).length (lots_gt' (leMax hl)) (fun k s => s = seen ++ (p.1[i]).take k)
  (fun k s => if dupM s ((p.1[i]).drop k) = true then some (.inr (.inl ((6, ()), (), ()))) else some (.inl ((p, seen ++ p.1[i], (i : Int), ()), (), ()))) ?_ 0 seen (by omega) (by simp)
 ·exact key
 ·rintro rec k s hk hsk ih
  unfold l_g_18
  dsimp only
  rw [if_pos nat0, at_get hi]
  by_cases hlt : k < (p.1[i]).length
  ·have hsl : s.length = seen.length + k := by rw [hsk]; simp; omega
   rw [if_pos (lt_t hlt), if_pos nat0, at_get hi, if_pos nat0, at_get hlt, l1Has_eq _ _ (by omega), Option.bind_some, drop_get hlt]
   rw [show dupM s ((p.1[i])[k] :: (p.1[i]).drop (k + 1)) = (s.contains (p.1[i])[k] || dupM (s ++ [(p.1[i])[k]]) ((p.1[i]).drop (k + 1))) from rfl]
   by_cases hc : s.contains (p.1[i])[k] = true
   ·rw [if_pos hc, hc]
    simp
   ·rw [if_neg hc, if_pos nat0, at_get hi, if_pos nat0, at_get hlt, if_pos (by simp; omega), wrapS (lt1 hlt hl)]
    have hc' : s.contains (p.1[i])[k] = false := by simpa using hc
    rw [hc', Bool.false_or]
    refine ih _ hlt ?_
    rw [hsk, List.append_assoc, List.take_add_one, List.getElem?_eq_getElem hlt]
    rfl
  ·rw [if_neg (lt_f hlt), drop_all hlt]
   rw [show dupM s [] = false from rfl]
   rw [hsk, List.take_of_length_le (by omega)]
   simp
theorem flat_take {own : List (List Int)} {i : Nat} (hi : i < own.length) : (own.take (i + 1)).flatten = (own.take i).flatten ++ own[i] := by
 have e : own.take (i + 1) = own.take i ++ [own[i]] := by rw [List.take_add_one, List.getElem?_eq_getElem hi]; rfl
 rw [e, List.flatten_append]
 simp
theorem own1_len {l : List Int} (h : own1 l = none) : l.length ≤ 5 := by
 unfold own1 at h
 split at h
 ·rename_i h'; exact h'.2
 ·cases h
theorem scan_none {α β : Type} {f : Nat → α → Option β} : ∀ {m : List α} {i : Nat}, scan f i m = none → ∀ j (h : j < m.length), f (i + j) m[j] = none
 | [], _, _, j, h => by simp at h
 | x :: r, i, hs, j, h => by
  simp only [scan] at hs
  split at hs
  ·cases hs
  ·rename_i h0
   cases j with
   | zero => simpa using h0
   | succ j =>
    have := scan_none hs j (by simpa using h)
    simpa [Nat.add_assoc, Nat.add_comm, Nat.add_left_comm] using this
theorem flat_len {own : List (List Int)} (h : ∀ j (hj : j < own.length), (own[j]).length ≤ 5) : ∀ i, i ≤ own.length → (own.take i).flatten.length ≤ 5 * i
 | 0, _ => by simp
 | i + 1, hi => by
  rw [flat_take (by omega), List.length_append]
  have := flat_len h i (by omega)
  have := h i (by omega)
  omega
theorem specOwns_eq (p : PolD) (h : p.1.length ≤ 1048576) (h2 : ∀ l ∈ p.1, l.length ≤ 1048576) : F_g (p, ()) = some ((ownsM p.1, ()), ()) := by
 unfold F_g ownsM
 dsimp only
 by_cases g1 : 1 ≤ p.1.length
 case neg => rw [if_neg (by rw [ltI_f]; omega), if_neg (by omega)]
 rw [if_pos (by rw [ltI_f]; omega)]
 by_cases g2 : p.1.length ≤ 3
 case neg => rw [if_pos (by rw [ltI_t]; omega), if_neg (by omega)]
 rw [if_neg (by rw [ltI_t]; omega), if_pos ⟨g1, g2⟩]
 have key := scan_loop (step := l_g_4) (γ := denO o_g_4) (fun i => ((p, ((i : Nat) : Int), ()), (), ())) p.1 (fun (_ : Nat) l => own1 l)
  (fun c => some (.inr (.inl ((c, ()), (), ())))) (some (.inl ((p, ()), (), ()))) (leMax h) ?_ ?_
 ·have e0 : ((0 : Nat) : Int) = 0 := rfl
  rw [e0] at key
  show (iterF l_g_4 lots ((p, 0, ()), (), ())).bind _ = _
  rw [key]
  cases hs : scan (fun (_ : Nat) l => own1 l) 0 p.1 with
  | some c => rfl
  | none =>
   rw [Option.bind_some]
   dsimp only
   have h5 : ∀ j (hj : j < p.1.length), (p.1[j]).length ≤ 5 := fun j hj => own1_len (scan_none hs j hj)
   have key2 := loopN (step := l_g_15) (γ := denO o_g_15) (fun k (s : List Int) => ((p, s, ((k : Nat) : Int), ()), (), ())) p.1.length (lots_gt' (leMax h)) (fun k s => s = (p.1.take k).flatten)
    (fun k s => if dupM s ((p.1.drop k).flatten) = true then some (.inr (.inl ((6, ()), (), ()))) else some (.inl ((), (), ()))) ?_ 0 [] (by omega) (by simp)
   ·show (iterF l_g_15 lots ((p, [], 0, ()), (), ())).bind _ = _
    rw [e0] at key2
    rw [key2, List.drop_zero]
    cases dupM [] p.1.flatten <;> rfl
   ·rintro rec k s hk hsk ih
    unfold l_g_15
    dsimp only
    by_cases hlt : k < p.1.length
    ·have hfl := flat_len h5 k hk
     rw [← hsk] at hfl
     have := h5 k hlt
     rw [if_pos (lt_t hlt), drop_get hlt, List.flatten_cons, dupM_append]
     show (iterF l_g_18 lots ((p, s, (k : Int), 0, ()), (), ())).bind _ = _
     rw [specSeen_eq p s k hlt (by omega) (by omega) (by omega)]
     cases hd : dupM s p.1[k]
     ·rw [if_neg (by simp), Option.bind_some]
      dsimp only
      rw [wrapS (lt1 hlt h), Bool.false_or]
      exact ih _ hlt (by rw [hsk, flat_take hlt])
     ·rfl
    ·rw [if_neg (lt_f hlt), drop_all hlt]
     rfl
 ·intro rec i hi
  unfold l_g_4
  dsimp only
  have hl := h2 _ (List.getElem_mem hi)
  rw [if_pos (lt_t hi), if_pos nat0, at_get hi]
  unfold own1
  by_cases k1 : 1 ≤ (p.1[i]).length
  case neg => rw [if_neg (by rw [ltI_f]; omega), if_neg (by omega)]
  rw [if_pos (by rw [ltI_f]; omega), if_pos nat0, at_get hi]
  by_cases k2 : (p.1[i]).length ≤ 5
  case neg => rw [if_pos (by rw [ltI_t]; omega), if_neg (by omega)]
  rw [if_neg (by rw [ltI_t]; omega), if_pos ⟨k1, k2⟩]
  rcases specOwn1_eq (T := Unit) p i hi hl p p p.1 p.1 (i : Int) p.1[i] p.1[i] (((p.1[i]).length : Nat) : Int) (ltI 5 (((p.1[i]).length : Nat) : Int)) with ⟨g, x, g3, g4, g5⟩ | ⟨g, g3⟩
  ·show (iterF l_g_9 lots _).bind _ = _
   rw [g, g3, Option.bind_some]
   dsimp only
   rw [g4, g5, wrapS (lt1 hi h)]
  ·show (iterF l_g_9 lots _).bind _ = _
   rw [g, g3]
   rfl
 ·intro rec
  unfold l_g_4
  dsimp only
  rw [if_neg lt_same]
theorem getM_setM (es : List (Int × Bool)) (x y : Int) : getM (setM es x true) y = (y == x || getM es y) := by
 induction es with
 | nil =>
  simp only [setM, getM]
  by_cases e : x = y
  ·subst e; simp
  ·rw [if_neg e]; simp [Ne.symm e]
 | cons a r ih =>
  simp only [setM, getM]
  by_cases e : a.1 = x
  ·rw [if_pos e]
   simp only [getM]
   by_cases e2 : x = y
   ·subst e2; simp
   ·rw [if_neg e2, if_neg (by rw [e]; exact e2)]; simp [Ne.symm e2]
  ·rw [if_neg e]
   simp only [getM]
   by_cases e2 : a.1 = y
   ·subst e2; rw [if_pos rfl, if_pos rfl]; simp [e]
   ·rw [if_neg e2, if_neg e2, ih]
theorem implPages_eq {T1 T2 T3 : Int} (es : List (Int × Bool)) (t : Bool) (own : List (List Int)) (a b : Int) (l : List Int) (hl : l.length ≤ 1048576) (seen : List Int) (hes : ∀ y, getM es y = seen.contains y) :
  (∃ es', scan (fun (_ : Nat) x => if inB x 0 23 = true then none else some (3 : Int)) 0 l = none ∧ (∀ y, getM es' y = (seen ++ l).contains y) ∧
   iterF l_r_10 lots ((es, t, own, a, b, l, ((l.length : Nat) : Int), 0, ()), (), ()) = some (.inl ((es', t || dupM seen l, own, a, b, ()), (), ()))) ∨
  (scan (fun (_ : Nat) x => if inB x 0 23 = true then none else some (3 : Int)) 0 l = some 3 ∧ iterF l_r_10 lots ((es, t, own, a, b, l, ((l.length : Nat) : Int), 0, ()), (), ()) = some (.inr (.inl ((3, ()), (), ())))) := by
 have key : ∀ n (k : Nat) (es : List (Int × Bool)) (t : Bool) (seen : List Int), l.length - k < n → k ≤ l.length → (∀ y, getM es y = seen.contains y) →
   (∃ es', scan (fun (_ : Nat) x => if inB x 0 23 = true then none else some (3 : Int)) k (l.drop k) = none ∧ (∀ y, getM es' y = (seen ++ l.drop k).contains y) ∧
   iterF l_r_10 n ((es, t, own, a, b, l, ((l.length : Nat) : Int), ((k : Nat) : Int), ()), (), ()) = some (.inl ((es', t || dupM seen (l.drop k), own, a, b, ()), (), ()))) ∨
   (scan (fun (_ : Nat) x => if inB x 0 23 = true then none else some (3 : Int)) k (l.drop k) = some 3 ∧ iterF l_r_10 n ((es, t, own, a, b, l, ((l.length : Nat) : Int), ((k : Nat) : Int), ()), (), ()) = some (.inr (.inl ((3, ()), (), ())))) := by
  intro n
  induction n with
  | zero => intro k _ _ _ h; omega
  | succ n ih =>
   intro k es t seen hn hk hes
   simp only [iterF]
   generalize iterF l_r_10 n = rec at ih ⊢
   by_cases hlt : k < l.length
   ·have hw : IntKind.i64.wrap ((k : Int) + 1) = ((k + 1 : Nat) : Int) := wrapS (lt1 hlt hl)
    rw [drop_get hlt]
    simp only [scan, dupM]
    have hes2 : ∀ y, getM (setM es l[k] true) y = (seen ++ [l[k]]).contains y := by
     intro y
     rw [getM_setM, hes]
     rw [Bool.eq_iff_iff]
     simp [or_comm]
    cases hb : inB l[k] 0 23
    ·right
     refine ⟨by simp, ?_⟩
     unfold l_r_10
     dsimp only
     rw [if_pos (lt_t hlt), if_pos nat0, at_get hlt, within_eq2, Option.bind_some, hb]
     rfl
    ·have go : l_r_10 rec ((es, t, own, a, b, l, ((l.length : Nat) : Int), ((k : Nat) : Int), ()), (), ()) = rec ((setM es l[k] true, t || seen.contains l[k], own, a, b, l, ((l.length : Nat) : Int), ((k + 1 : Nat) : Int), ()), (), ()) := by
      unfold l_r_10
      dsimp only
      rw [if_pos (lt_t hlt), if_pos nat0, at_get hlt, within_eq2, Option.bind_some, hb, if_neg (by simp), hw, ← hes]
      cases t <;> rfl
     rw [go]
     rcases ih (k + 1) (setM es l[k] true) (t || seen.contains l[k]) (seen ++ [l[k]]) (by omega) (by omega) hes2 with ⟨es', g1, g2, g3⟩ | ⟨g1, g2⟩
     ·left
      refine ⟨es', by simpa using g1, fun y => by rw [g2]; simp, ?_⟩
      rw [g3, Bool.or_assoc]
     ·right
      exact ⟨by simpa using g1, g2⟩
   ·left
    rw [drop_all hlt]
    refine ⟨es, rfl, by simpa using hes, ?_⟩
    unfold l_r_10
    dsimp only
    rw [if_neg (lt_f hlt)]
    simp [dupM]
 simpa using key lots 0 es t seen (by have := lots_gt' (leMax hl); omega) (by omega) hes
theorem implOwns_eq (p : PolD) (h : p.1.length ≤ 1048576) (h2 : ∀ l ∈ p.1, l.length ≤ 1048576) : F_r (p, ()) = some ((ownsM p.1, ()), ()) := by
 unfold F_r ownsM
 dsimp only
 rw [within_eq2, Option.bind_some]
 by_cases g : 1 ≤ p.1.length ∧ p.1.length ≤ 3
 case neg =>
  have : inB ((p.1.length : Nat) : Int) 1 3 = false := by unfold inB; simp; omega
  rw [this, if_pos (by simp), if_neg g]
 have : inB ((p.1.length : Nat) : Int) 1 3 = true := by unfold inB; simp; omega
 rw [this, if_neg (by simp), if_pos g]
 have key : ∀ n (k : Nat) (es : List (Int × Bool)) (t : Bool) (seen : List Int), p.1.length - k < n → k ≤ p.1.length → (∀ y, getM es y = seen.contains y) →
   (iterF l_r_5 n ((es, t, p.1, ((p.1.length : Nat) : Int), ((k : Nat) : Int), ()), (), ()) = match scan (fun (_ : Nat) l => own1 l) k (p.1.drop k) with
    | some c => some (.inr (.inl ((c, ()), (), ()))) | none => some (.inl ((t || dupM seen (p.1.drop k).flatten, ()), (), ()))) := by
  intro n
  induction n with
  | zero => intro k _ _ _ h; omega
  | succ n ih =>
   intro k es t seen hn hk hes
   simp only [iterF]
   generalize iterF l_r_5 n = rec at ih ⊢
   by_cases hlt : k < p.1.length
   ·have hl := h2 _ (List.getElem_mem hlt)
    rw [drop_get hlt]
    simp only [scan, List.flatten_cons, dupM_append]
    unfold l_r_5 own1
    dsimp only
    rw [if_pos (lt_t hlt), if_pos nat0, at_get hlt, within_eq2, Option.bind_some]
    by_cases g1 : 1 ≤ (p.1[k]).length ∧ (p.1[k]).length ≤ 5
    ·have : inB (((p.1[k]).length : Nat) : Int) 1 5 = true := by unfold inB; simp; omega
     rw [this, if_neg (by simp), if_pos g1]
     rcases implPages_eq (T1 := 0) (T2 := 0) (T3 := 0) es t p.1 ((p.1.length : Nat) : Int) ((k : Nat) : Int) p.1[k] hl seen hes with ⟨es', q1, q2, q3⟩ | ⟨q1, q2⟩
     ·show (iterF l_r_10 lots _).bind _ = _
      rw [q1, q3, Option.bind_some]
      dsimp only
      rw [wrapS (lt1 hlt h), ih (k + 1) es' _ (seen ++ p.1[k]) (by omega) (by omega) q2, Bool.or_assoc]
      rfl
     ·show (iterF l_r_10 lots _).bind _ = _
      rw [q1, q2]
      rfl
    ·have : inB (((p.1[k]).length : Nat) : Int) 1 5 = false := by unfold inB; simp; omega
     rw [this, if_pos (by simp), if_neg g1]
   ·rw [drop_all hlt]
    unfold l_r_5
    dsimp only
    rw [if_neg (lt_f hlt)]
    simp [scan, dupM]
 have k0 := key lots 0 [] false [] (by have := lots_gt' (leMax h); omega) (by omega) (fun y => by simp [getM])
 have e0 : ((0 : Nat) : Int) = 0 := rfl
 rw [e0, List.drop_zero] at k0
 show (iterF l_r_5 lots (([], false, p.1, ((p.1.length : Nat) : Int), 0, ()), (), ())).bind _ = _
 rw [k0]
 cases scan (fun (_ : Nat) l => own1 l) 0 p.1 with
 | some c => rfl
 | none =>
  rw [Option.bind_some]
  dsimp only
  cases dupM [] p.1.flatten <;> rfl
/-- What is not right with a policy. -/
def polM (p : PolD) : Int :=
 if ownsM p.1 ≠ 0 then ownsM p.1
 else if p.2.1.length ≤ 4 ∧ p.2.2.1.length ≤ 4 then (match lanesM p with | some c => c | none => match bellsM p with | some c => c | none => planM p) else 2
theorem nz_ne {c d : Int} (h : nz c = some d) : d ≠ 0 := by
 unfold nz at h
 split at h
 ·rename_i h'; rw [← Option.some.inj h]; exact h'
 ·cases h
theorem lanesM_ne {p : PolD} {c : Int} (h : lanesM p = some c) : c ≠ 0 := scan_le (P := fun c => c ≠ 0) (fun j hj c hc => nz_ne hc) c h
theorem bellsM_ne {p : PolD} {c : Int} (h : bellsM p = some c) : c ≠ 0 := scan_le (P := fun c => c ≠ 0) (fun j hj c hc => nz_ne hc) c h
theorem specPol_eq (p : PolD) (h : polLe 1048576 p) : F_ap (p, ()) = some ((polM p, ()), ()) := by
 obtain ⟨⟨a1, a2⟩, a3, a4, a5⟩ := h
 unfold F_ap polM
 rw [specOwns_eq p a1 a2, specLanes_eq p a1 a2 a3, specRest_eq p a1 a4 a5]
 simp only [Option.bind_some]
 by_cases h0 : ownsM p.1 = 0
 ·simp only [h0, bne_self_eq_false, Bool.false_eq_true, if_false, ne_eq, not_true_eq_false]
  by_cases h4 : p.2.1.length ≤ 4 ∧ p.2.2.1.length ≤ 4
  ·simp only [if_pos h4]
   cases hl : lanesM p with
   | some c => have := lanesM_ne hl; simp [this]
   | none => simp <;> (cases bellsM p <;> rfl)
  ·simp [if_neg h4]
 ·rw [if_pos (by simpa using h0), if_pos h0]
theorem implPol_eq (p : PolD) (h : polLe 1048576 p) : F_ai (p, ()) = some ((polM p, ()), ()) := by
 obtain ⟨⟨a1, a2⟩, a3, a4, a5⟩ := h
 unfold F_ai polM
 dsimp only
 rw [implOwns_eq p a1 a2, Option.bind_some]
 dsimp only
 by_cases h0 : ownsM p.1 = 0
 case neg => rw [if_pos (by simpa using h0), if_pos h0]
 simp only [h0, bne_self_eq_false, Bool.false_eq_true, if_false, ne_eq, not_true_eq_false]
 by_cases h1 : p.2.1.length ≤ 4
 case neg => rw [if_neg (by rw [ltI_f]; omega), if_neg (by omega)]
 rw [if_pos (by rw [ltI_f]; omega)]
 by_cases h3 : p.2.2.1.length ≤ 4
 case neg => rw [if_pos (by rw [ltI_t]; omega), if_neg (by omega)]
 rw [if_neg (by rw [ltI_t]; omega), if_pos ⟨h1, h3⟩]
 have key1 := scan_loop (step := l_ai_7) (γ := denO o_ai_7) (fun i => (((), p.2.1, ((p.2.1.length : Nat) : Int), ((i : Nat) : Int), ()), (p, ()), ())) p.2.1 (fun i l => nz (laneM p l (p.2.1.take i)))
  (fun c => some (.inr (.inl ((c, ()), (), ())))) (some (.inl (((), ()), (p, ()), ()))) (leMax a3) ?_ ?_
 ·have key2 := scan_loop (step := l_ai_14) (γ := denO o_ai_14) (fun i => (((), p.2.2.1, ((p.2.2.1.length : Nat) : Int), ((i : Nat) : Int), ()), (p, ()), ())) p.2.2.1 (fun i b => nz (bellM p b (p.2.2.1.take i)))
   (fun c => some (.inr (.inl ((c, ()), (), ())))) (some (.inl (((), ()), (p, ()), ()))) (leMax a4) ?_ ?_
  ·have e0 : ((0 : Nat) : Int) = 0 := rfl
   rw [e0] at key1 key2
   show (iterF l_ai_7 lots (((), p.2.1, ((p.2.1.length : Nat) : Int), 0, ()), (p, ()), ())).bind _ = _
   rw [key1]
   unfold lanesM
   cases scan (fun i l => nz (laneM p l (p.2.1.take i))) 0 p.2.1 with
   | some c => rfl
   | none =>
    rw [Option.bind_some]
    dsimp only
    show (iterF l_ai_14 lots (((), p.2.2.1, ((p.2.2.1.length : Nat) : Int), 0, ()), (p, ()), ())).bind _ = _
    rw [key2]
    unfold bellsM
    cases scan (fun i b => nz (bellM p b (p.2.2.1.take i))) 0 p.2.2.1 with
    | some c => rfl
    | none =>
     rw [Option.bind_some]
     dsimp only
     rw [implPlan_eq p a1 a5, Option.bind_some]
  ·intro rec i hi
   unfold l_ai_14
   dsimp only
   rw [if_pos (lt_t hi), if_pos nat0, at_get hi, if_pos (show (0 : Int) ≤ 0 ∧ (0 : Int) ≤ (i : Int) ∧ (i : Int) ≤ ((p.2.2.1.length : Nat) : Int) from ⟨by omega, by omega, by omega⟩), wrapS (lt1 hi a4)]
   have e : (p.2.2.1.drop (0 : Int).toNat).take (((i : Nat) : Int).toNat - (0 : Int).toNat) = p.2.2.1.take i := by simp
   rw [e, bellFault_eq p _ _ a1 (by simp; omega), Option.bind_some]
   dsimp only
   unfold nz
   by_cases g : bellM p p.2.2.1[i] (p.2.2.1.take i) = 0
   ·rw [if_neg (by simpa using g), if_neg (by simpa using g)]
   ·rw [if_pos (by simpa using g), if_pos (by simpa using g)]
  ·intro rec
   unfold l_ai_14
   dsimp only
   rw [if_neg lt_same]
 ·intro rec i hi
  unfold l_ai_7
  dsimp only
  rw [if_pos (lt_t hi), if_pos nat0, at_get hi, if_pos (show (0 : Int) ≤ 0 ∧ (0 : Int) ≤ (i : Int) ∧ (i : Int) ≤ ((p.2.1.length : Nat) : Int) from ⟨by omega, by omega, by omega⟩), wrapS (lt1 hi a3)]
  have e : (p.2.1.drop (0 : Int).toNat).take (((i : Nat) : Int).toNat - (0 : Int).toNat) = p.2.1.take i := by simp
  rw [e, laneFault_eq p _ _ a1 a2 (by simp; omega), Option.bind_some]
  dsimp only
  unfold nz
  by_cases g : laneM p p.2.1[i] (p.2.1.take i) = 0
  ·rw [if_neg (by simpa using g), if_neg (by simpa using g)]
  ·rw [if_pos (by simpa using g), if_pos (by simpa using g)]
 ·intro rec
  unfold l_ai_7
  dsimp only
  rw [if_neg lt_same]
def askM (p : PolD) (g : Int) : Int := if polM p ≠ 0 then polM p else if isG p g = true then 0 else 4
theorem specAsk_eq (p : PolD) (g : Int) (h : polLe 1048576 p) : F_aq (p, g, ()) = some ((askM p g, ()), ()) := by
 unfold F_aq askM
 rw [specPol_eq p h, l6Guest_eq p g h.1.1]
 simp only [Option.bind_some]
 by_cases h0 : polM p = 0
 ·rw [h0]; cases isG p g <;> simp
 ·rw [if_pos (by simpa using h0), if_pos h0]
theorem implAsk_eq (p : PolD) (g : Int) (h : polLe 1048576 p) : F_aj (p, g, ()) = some ((askM p g, ()), ()) := by
 unfold F_aj askM
 rw [implPol_eq p h, isGuest_eq p g h.1.1]
 simp only [Option.bind_some]
 by_cases h0 : polM p = 0
 ·rw [h0]; cases isG p g <;> simp
 ·rw [if_neg (by simpa using h0), if_pos h0]
theorem scan_none_all {α β : Type} {f : Nat → α → Option β} {m : List α} (h : scan f 0 m = none) : ∀ x ∈ m, ∃ i, f i x = none := by
 intro x hx
 obtain ⟨i, hi, rfl⟩ := List.mem_iff_getElem.1 hx
 exact ⟨_, scan_none h i hi⟩
structure OkPol (p : PolD) : Prop where
 own : 1 ≤ p.1.length ∧ p.1.length ≤ 3
 own1 : ∀ l ∈ p.1, 1 ≤ l.length ∧ l.length ≤ 5 ∧ ∀ x ∈ l, 0 ≤ x ∧ x ≤ 23
 nodup : dupM [] p.1.flatten = false
 lanes : p.2.1.length ≤ 4 ∧ lanesM p = none
 bells : p.2.2.1.length ≤ 4 ∧ bellsM p = none
 plan : 1 ≤ p.2.2.2.1.length ∧ p.2.2.2.1.length ≤ 8
 slots : ∀ s ∈ p.2.2.2.1, isG p s.1 = true ∧ 1 ≤ s.2.1 ∧ s.2.1 ≤ 50
theorem inB_t {n a b : Int} : inB n a b = true ↔ a ≤ n ∧ n ≤ b := by unfold inB; simp
theorem okPol {p : PolD} (h : polM p = 0) : OkPol p := by
 unfold polM at h
 split at h
 ·rename_i h'; exact absurd h h'
 rename_i h0
 have h0 : ownsM p.1 = 0 := by simpa using h0
 split at h
 case isFalse => cases h
 rename_i h4
 cases hl : lanesM p with
 | some c => rw [hl] at h; exact absurd h (lanesM_ne hl)
 | none =>
 rw [hl] at h
 dsimp only at h
 cases hb : bellsM p with
 | some c => rw [hb] at h; exact absurd h (bellsM_ne hb)
 | none =>
 rw [hb] at h
 dsimp only at h
 unfold ownsM at h0
 split at h0
 case isFalse => cases h0
 rename_i g1
 unfold planM at h
 split at h
 case isFalse => cases h
 rename_i g2
 cases ho : scan (fun (_ : Nat) l => Go.Proofs.Ytilcgnimcdkfiaa.own1 l) 0 p.1 with
 | some c =>
  rw [ho] at h0
  dsimp only at h0
  subst h0
  have : (0 : Int) ≠ 0 := scan_le (P := fun c => c ≠ 0) (fun j hj c hc => by
   unfold Go.Proofs.Ytilcgnimcdkfiaa.own1 at hc
   split at hc
   ·exact scan_le (P := fun c => c ≠ 0) (fun j hj c hc => by
     split at hc
     ·cases hc
     ·rw [← Option.some.inj hc]; decide) c hc
   ·rw [← Option.some.inj hc]; decide) _ ho
  exact absurd rfl this
 | none =>
  rw [ho] at h0
  dsimp only at h0
  have hd : dupM [] p.1.flatten = false := by
   split at h0
   ·cases h0
   ·rename_i h'; simpa using h'
  refine ⟨g1, ?_, hd, ⟨h4.1, hl⟩, ⟨h4.2, hb⟩, g2, ?_⟩
  ·intro l hl'
   obtain ⟨_, e⟩ := scan_none_all ho l hl'
   unfold Go.Proofs.Ytilcgnimcdkfiaa.own1 at e
   split at e
   ·rename_i g
    refine ⟨g.1, g.2, fun x hx => ?_⟩
    obtain ⟨_, e2⟩ := scan_none_all e x hx
    split at e2
    ·rename_i g3; exact inB_t.1 g3
    ·cases e2
   ·cases e
  ·intro s hs
   cases hp : scan (fun (_ : Nat) (s : TwoD) => if isG p s.1 = true then (if inB s.2.1 1 50 = true then none else some (3 : Int)) else some 4) 0 p.2.2.2.1 with
   | some c =>
    rw [hp] at h
    dsimp only at h
    subst h
    have : (0 : Int) ≠ 0 := scan_le (P := fun c => c ≠ 0) (fun j hj c hc => by
     split at hc
     ·split at hc
      ·cases hc
      ·rw [← Option.some.inj hc]; decide
     ·rw [← Option.some.inj hc]; decide) _ hp
    exact absurd rfl this
   | none =>
    obtain ⟨_, e⟩ := scan_none_all hp s hs
    split at e
    ·rename_i g
     split at e
     ·rename_i g3; exact ⟨g, inB_t.1 g3⟩
     ·cases e
    ·cases e
def OkPlan (m : List TwoD) : Prop := m.length ≤ 8 ∧ ∀ s ∈ m, 1 ≤ s.2.1 ∧ s.2.1 ≤ 50
theorem OkPol.okPlan {p : PolD} (h : OkPol p) : OkPlan p.2.2.2.1 := ⟨h.plan.2, fun s hs => (h.slots s hs).2⟩
/-- The steps of a guest's slots, of all slots if it is below 0. -/
def stepsM (g : Int) : List TwoD → Int
 | [] => 0
 | s :: r => (if g < 0 ∨ s.1 = g then s.2.1 else 0) + stepsM g r
theorem stepsM_le {g : Int} : ∀ {m : List TwoD}, (∀ s ∈ m, 1 ≤ s.2.1 ∧ s.2.1 ≤ 50) → 0 ≤ stepsM g m ∧ stepsM g m ≤ 50 * (m.length : Int)
 | [], _ => by simp [stepsM]
 | s :: r, h => by
  have h1 := h s (by simp)
  have := stepsM_le (g := g) (m := r) fun s hs => h s (List.mem_cons_of_mem _ hs)
  simp only [stepsM, List.length_cons]
  split <;> omega
theorem mem_drop' {α : Type} {m : List α} {i : Nat} {P : α → Prop} (h : ∀ s ∈ m, P s) : ∀ s ∈ m.drop i, P s := fun s hs => h s (List.mem_of_mem_drop hs)
theorem stepsOf_eq (p : PolD) (g : Int) (h : OkPlan p.2.2.2.1) : F_ak (p, g, ()) = some ((stepsM g p.2.2.2.1, ()), ()) := by
 obtain ⟨hl, hs⟩ := h
 have key := loopN (step := l_ak_3) (γ := denO o_ak_3) (fun k (a : Int) => ((g, a, p.2.2.2.1, ((p.2.2.2.1.length : Nat) : Int), ((k : Nat) : Int), ()), (), ())) p.2.2.2.1.length (lots_gt' (by omega)) (fun k a => 0 ≤ a ∧ a ≤ 50 * (k : Int))
  (fun k a => some (.inl ((a + stepsM g (p.2.2.2.1.drop k), ()), (), ()))) ?_ 0 0 (by omega) (by omega)
 ·have e0 : ((0 : Nat) : Int) = 0 := rfl
  rw [e0] at key
  unfold F_ak
  show (iterF l_ak_3 lots ((g, 0, p.2.2.2.1, ((p.2.2.2.1.length : Nat) : Int), 0, ()), (), ())).bind _ = _
  rw [key, Option.bind_some]
  simp
 ·rintro rec k a hk ha ih
  unfold l_ak_3
  dsimp only
  by_cases hlt : k < p.2.2.2.1.length
  ·have hb := hs _ (List.getElem_mem hlt)
   rw [if_pos (lt_t hlt), if_pos nat0, at_get hlt, wrap64 (n := a + (p.2.2.2.1[k]).2.1) (by omega) (by omega), wrapS (by omega), drop_get hlt]
   rw [show stepsM g (p.2.2.2.1[k] :: p.2.2.2.1.drop (k + 1)) = (if g < 0 ∨ (p.2.2.2.1[k]).1 = g then (p.2.2.2.1[k]).2.1 else 0) + stepsM g (p.2.2.2.1.drop (k + 1)) from rfl]
   by_cases hg : g < 0
   ·rw [if_neg (by rw [ltI_f]; omega), ih _ hlt (by omega), if_pos (.inl hg), Int.add_assoc]
   ·rw [if_pos (by rw [ltI_f]; omega)]
    by_cases hg2 : (p.2.2.2.1[k]).1 = g
    ·rw [if_pos (by simpa using hg2), ih _ hlt (by omega), if_pos (.inr hg2), Int.add_assoc]
    ·rw [if_neg (by simpa using hg2), ih _ hlt (by omega), if_neg (by omega), Int.zero_add]
  ·rw [if_neg (lt_f hlt), drop_all hlt]
   simp [stepsM]
theorem frames_eq (p : PolD) (g : Int) (h : polLe 1048576 p) : F_ar (p, g, ()) = some (((if askM p g ≠ 0 then (askM p g, 0, ()) else (0, stepsM g p.2.2.2.1, ())), ()), ()) := by
 unfold F_ar
 dsimp only
 rw [specAsk_eq p g h, Option.bind_some]
 dsimp only
 by_cases h0 : askM p g = 0
 case neg => rw [if_pos (by simpa using h0), if_pos h0]
 rw [if_neg (by simpa using h0), if_neg (by simpa using h0)]
 have hok : OkPol p ∧ isG p g = true := by
  unfold askM at h0
  split at h0
  ·rename_i h'; exact absurd h0 h'
  ·rename_i h'
   split at h0
   ·rename_i h2; exact ⟨okPol (by simpa using h'), h2⟩
   ·cases h0
 obtain ⟨hl, hs⟩ := hok.1.okPlan
 have hg : ¬ g < 0 := by
  have := hok.2
  unfold isG at this
  simp at this
  omega
 have key := loopN (step := l_ar_6) (γ := denO o_ar_6) (fun k (a : Int) => ((g, (), (), a, ((k : Nat) : Int), ()), (p, (0, 0, ()), ()), ())) p.2.2.2.1.length (lots_gt' (by omega)) (fun k a => 0 ≤ a ∧ a ≤ 50 * (k : Int))
  (fun k a => some (.inl (((), a + stepsM g (p.2.2.2.1.drop k), ()), ((0, 0, ()), ()), ()))) ?_ 0 0 (by omega) (by omega)
 ·have e0 : ((0 : Nat) : Int) = 0 := rfl
  rw [e0] at key
  show (iterF l_ar_6 lots ((g, (), (), 0, 0, ()), (p, (0, 0, ()), ()), ())).bind _ = _
  rw [key, Option.bind_some]
  simp
 ·rintro rec k a hk ha ih
  unfold l_ar_6
  dsimp only
  by_cases hlt : k < p.2.2.2.1.length
  ·have hb := hs _ (List.getElem_mem hlt)
   rw [if_pos (lt_t hlt), if_pos nat0, at_get hlt, if_pos nat0, at_get hlt, wrap64 (n := a + (p.2.2.2.1[k]).2.1) (by omega) (by omega), wrapS (by omega), drop_get hlt]
   rw [show stepsM g (p.2.2.2.1[k] :: p.2.2.2.1.drop (k + 1)) = (if g < 0 ∨ (p.2.2.2.1[k]).1 = g then (p.2.2.2.1[k]).2.1 else 0) + stepsM g (p.2.2.2.1.drop (k + 1)) from rfl]
   by_cases hg2 : (p.2.2.2.1[k]).1 = g
   ·rw [if_pos (by simpa using hg2), if_pos (.inr hg2), ← Int.add_assoc]
    exact ih _ hlt (by omega)
   ·rw [if_neg (by simpa using hg2), if_neg (by omega), Int.zero_add]
    exact ih _ hlt (by omega)
  ·rw [if_neg (lt_f hlt), drop_all hlt]
   simp [stepsM]
def gapGo (g : Int) : List TwoD → Int → Int → Int
 | [], gap, _ => gap
 | s :: r, gap, now => if s.1 = g then gapGo g r gap 0 else gapGo g r (if now + s.2.1 > gap then now + s.2.1 else gap) (now + s.2.1)
def gapM (p : PolD) (g : Int) : Int × Int × Unit :=
 if askM p g ≠ 0 then (askM p g, 0, ()) else if stepsM g p.2.2.2.1 = 0 then (10, 0, ()) else (0, gapGo g (p.2.2.2.1 ++ p.2.2.2.1) 0 0, ())
theorem ask_ok {p : PolD} {g : Int} (h0 : askM p g = 0) : OkPol p ∧ 0 ≤ g ∧ g < (p.1.length : Int) := by
 unfold askM at h0
 split at h0
 ·rename_i h'; exact absurd h0 h'
 ·rename_i h'
  split at h0
  ·rename_i h2
   unfold isG at h2
   simp at h2
   exact ⟨okPol (by simpa using h'), by omega, by omega⟩
  ·cases h0
theorem concatSlots_eq (a b : List TwoD) (h : a.length ≤ 8) (h2 : b.length ≤ 8) : F_am ([a, b], ()) = some ((a ++ b, ()), ()) := by
 unfold F_am
 dsimp only
 show (iterF l_am_3 lots (([a, b], 0, [a, b], 2, 0, ()), (), ())).bind _ = _
 rw [concat_len (step := l_am_3) (fun _ _ _ _ _ _ => rfl) [a, b] a b (by omega), Option.bind_some]
 dsimp only
 unfold F_al growF
 dsimp only
 rw [if_pos ⟨by omega, by show _ * (16 : Int) ≤ _; omega⟩, Option.bind_some]
 show (iterF l_am_11 lots (([], [a, b], 2, 0, ()), (), ())).bind _ = _
 rw [concat_app (by_ := 16) (step := l_am_11) (fun _ _ _ _ _ => rfl) a b (by omega), Option.bind_some]
theorem implGap_eq (p : PolD) (g : Int) (h : polLe 1048576 p) : F_an (p, g, ()) = some ((gapM p g, ()), ()) := by
 unfold F_an gapM
 dsimp only
 rw [implAsk_eq p g h, Option.bind_some]
 dsimp only
 by_cases h0 : askM p g = 0
 case neg => rw [if_pos (by simpa using h0), if_pos h0]
 rw [if_neg (by simpa using h0), if_neg (by simpa using h0)]
 obtain ⟨hok, g0, g1⟩ := ask_ok h0
 obtain ⟨hl, hs⟩ := hok.okPlan
 rw [stepsOf_eq p g hok.okPlan, Option.bind_some]
 dsimp only
 by_cases h1 : stepsM g p.2.2.2.1 = 0
 ·rw [if_pos (by simpa using h1), if_pos h1]
 rw [if_neg (by simpa using h1), if_neg h1, concatSlots_eq _ _ hl hl, Option.bind_some]
 dsimp only
 generalize hm : p.2.2.2.1 ++ p.2.2.2.1 = m
 have hml : m.length ≤ 16 := by rw [← hm]; simp; omega
 have hms : ∀ s ∈ m, 1 ≤ s.2.1 ∧ s.2.1 ≤ 50 := by
  rw [← hm]
  intro s hs'
  rcases List.mem_append.1 hs' with h' | h' <;> exact hs s h'
 have key := loopN (step := l_an_8) (γ := denO o_an_8) (fun k (a : Int × Int) => ((g, (), a.1, a.2, m, ((m.length : Nat) : Int), ((k : Nat) : Int), ()), ((0, 0, ()), ()), ())) m.length (lots_gt' (by omega)) (fun k a => 0 ≤ a.1 ∧ 0 ≤ a.2 ∧ a.2 ≤ 50 * (k : Int))
  (fun k a => some (.inl (((), gapGo g (m.drop k) a.1 a.2, ()), ((0, 0, ()), ()), ()))) ?_ 0 (0, 0) (by omega) (by simp)
 ·have e0 : ((0 : Nat) : Int) = 0 := rfl
  rw [e0] at key
  show (iterF l_an_8 lots ((g, (), 0, 0, m, ((m.length : Nat) : Int), 0, ()), ((0, 0, ()), ()), ())).bind _ = _
  rw [key, Option.bind_some]
  simp
 ·rintro rec k ⟨gap, now⟩ hk ha ih
  dsimp only at ha ih ⊢
  unfold l_an_8
  dsimp only
  by_cases hlt : k < m.length
  ·have hb := hms _ (List.getElem_mem hlt)
   have hc : (0 : Int) ≤ (k : Int) ∧ (k : Int) < ((m.length : Nat) : Int) := by omega
   rw [if_pos (lt_t hlt), if_pos hc, at_get hlt, wrap64 (n := now + (m[k]).2.1) (by omega) (by omega), wrapS (by omega), drop_get hlt]
   rw [show gapGo g (m[k] :: m.drop (k + 1)) gap now = if (m[k]).1 = g then gapGo g (m.drop (k + 1)) gap 0 else gapGo g (m.drop (k + 1)) (if now + (m[k]).2.1 > gap then now + (m[k]).2.1 else gap) (now + (m[k]).2.1) from rfl]
   by_cases hg2 : (m[k]).1 = g
   ·rw [if_pos (by simpa using hg2), if_pos hg2]
    have e : (if (0 : Int) > gap then (0 : Int) else gap) = gap := by rw [if_neg (by omega)]
    rw [e]
    exact ih (gap, 0) hlt ⟨ha.1, by simp, by simp; omega⟩
   ·rw [if_neg (by simpa using hg2), if_neg hg2]
    exact ih ((if now + (m[k]).2.1 > gap then now + (m[k]).2.1 else gap), now + (m[k]).2.1) hlt ⟨by dsimp only; split <;> omega, by dsimp only; omega, by dsimp only; omega⟩
  ·rw [if_neg (lt_f hlt), drop_all hlt]
   rfl
theorem specGap_eq (p : PolD) (g : Int) (h : polLe 1048576 p) : F_at (p, g, ()) = some ((gapM p g, ()), ()) := by
 unfold F_at gapM
 dsimp only
 rw [specAsk_eq p g h, Option.bind_some]
 dsimp only
 by_cases h0 : askM p g = 0
 case neg => rw [if_pos (by simpa using h0), if_pos h0]
 rw [if_neg (by simpa using h0), if_neg (by simpa using h0)]
 obtain ⟨hok, g0, g1⟩ := ask_ok h0
 obtain ⟨hl, hs⟩ := hok.okPlan
 have ef : (if askM p g ≠ 0 then (askM p g, (0 : Int), ()) else (0, stepsM g p.2.2.2.1, ())) = (0, stepsM g p.2.2.2.1, ()) := if_neg (by simpa using h0)
 rw [frames_eq p g h, ef, Option.bind_some]
 dsimp only
 by_cases h1 : stepsM g p.2.2.2.1 = 0
 ·rw [if_pos (by simpa using h1), if_pos h1]
 rw [if_neg (by simpa using h1), if_neg h1]
 have hpl := hok.plan.1
 generalize hm : p.2.2.2.1 ++ p.2.2.2.1 = m
 have hml : m.length = 2 * p.2.2.2.1.length := by rw [← hm]; simp; omega
 have hms : ∀ s ∈ m, 1 ≤ s.2.1 ∧ s.2.1 ≤ 50 := by
  rw [← hm]
  intro s hs'
  rcases List.mem_append.1 hs' with h' | h' <;> exact hs s h'
 have hmk : ∀ k (hk : k < m.length), p.2.2.2.1[k % p.2.2.2.1.length]? = some m[k] := by
  intro k hk
  subst hm
  rw [List.getElem_append]
  split
  ·rename_i h'
   rw [Nat.mod_eq_of_lt h', List.getElem?_eq_getElem h']
  ·rename_i h'
   have : k % p.2.2.2.1.length = k - p.2.2.2.1.length := by
    rw [Nat.mod_eq_sub_mod (by omega), Nat.mod_eq_of_lt (by omega)]
   rw [this, List.getElem?_eq_getElem]
 have key := loopN (step := l_at_9) (γ := denO o_at_9) (fun k (a : Int × Int) => ((g, (), (), a.1, a.2, ((k : Nat) : Int), ()), (p, (0, 0, ()), ()), ())) m.length (lots_gt' (by omega)) (fun k a => 0 ≤ a.1 ∧ 0 ≤ a.2 ∧ a.2 ≤ 50 * (k : Int))
  (fun k a => some (.inl (((), gapGo g (m.drop k) a.1 a.2, ()), ((0, 0, ()), ()), ()))) ?_ 0 (0, 0) (by omega) (by simp)
 ·have e0 : ((0 : Nat) : Int) = 0 := rfl
  rw [e0] at key
  show (iterF l_at_9 lots ((g, (), (), 0, 0, 0, ()), (p, (0, 0, ()), ()), ())).bind _ = _
  rw [key, Option.bind_some]
  simp
 ·rintro rec k ⟨gap, now⟩ hk ha ih
  dsimp only at ha ih ⊢
  unfold l_at_9
  dsimp only
  have e2 : IntKind.i64.wrap ((2 : Int) * ((p.2.2.2.1.length : Nat) : Int)) = ((m.length : Nat) : Int) := by rw [wrap64 (by omega) (by omega)]; omega
  rw [e2]
  by_cases hlt : k < m.length
  ·have hb := hms _ (List.getElem_mem hlt)
   have et : ((k : Nat) : Int).tmod ((p.2.2.2.1.length : Nat) : Int) = ((k % p.2.2.2.1.length : Nat) : Int) := rfl
   rw [if_pos (lt_t hlt), if_neg (by omega), et, if_pos nat0, Int.toNat_natCast, hmk k hlt, Option.bind_some, wrap64 (n := now + (m[k]).2.1) (by omega) (by omega), wrapS (by omega), drop_get hlt]
   rw [show gapGo g (m[k] :: m.drop (k + 1)) gap now = if (m[k]).1 = g then gapGo g (m.drop (k + 1)) gap 0 else gapGo g (m.drop (k + 1)) (if now + (m[k]).2.1 > gap then now + (m[k]).2.1 else gap) (now + (m[k]).2.1) from rfl]
   by_cases hg2 : (m[k]).1 = g
   ·rw [if_pos (by simpa using hg2), if_pos hg2]
    exact ih (gap, 0) hlt ⟨ha.1, by simp, by simp; omega⟩
   ·rw [if_neg (by simpa using hg2), if_neg hg2]
    have e3 : F_as (gap, now + (m[k]).2.1, ()) = some (((if now + (m[k]).2.1 > gap then now + (m[k]).2.1 else gap), ()), ()) := by
     unfold F_as
     dsimp only
     by_cases hx : now + (m[k]).2.1 < gap
     ·rw [if_pos (by rw [ltI_t]; exact hx), if_neg (by omega)]
     ·rw [if_neg (by rw [ltI_t]; exact hx)]
      have e4 : (if now + (m[k]).2.1 > gap then now + (m[k]).2.1 else gap) = now + (m[k]).2.1 := by split <;> omega
      rw [e4]
    rw [e3, Option.bind_some]
    exact ih ((if now + (m[k]).2.1 > gap then now + (m[k]).2.1 else gap), now + (m[k]).2.1) hlt ⟨by dsimp only; split <;> omega, by dsimp only; omega, by dsimp only; omega⟩
  ·rw [if_neg (lt_f hlt), drop_all hlt]
   rfl
abbrev HostD := PolD × List Int × List HartD × Int × Int × Int × Unit
def hartM (h : HartD) : Int :=
 if h.1.length = 16 ∧ h.2.2.1.length = 11 ∧ h.1.getD 0 0 = 0 then
  (if allW h.1 = true ∧ okW h.2.1 = true ∧ allW h.2.2.1 = true ∧ allW h.2.2.2.2.2.2.2.1 = true ∧ allW h.2.2.2.2.2.2.2.2.1 = true then
   (if h.2.2.2.2.2.2.2.1.length ≤ 40 ∧ h.2.2.2.2.2.2.2.2.1.length ≤ 40 then
    (if inB h.2.2.2.2.2.2.1 0 1000000000 = true then
     (if h.2.2.1.getD 0 0 ≤ 3 ∧ h.2.2.1.getD 7 0 ≤ 7 ∧ h.2.2.1.getD 10 0 ≤ 8 ∧ h.2.2.1.getD 6 0 = 0 ∧ h.2.2.1.getD 8 0 = 0 then 0 else 1) else 3) else 2) else 3) else 1
def turnEnd : Nat → List TwoD → Int → Nat × Int × Int
 | k, [], at_ => (k, at_, 0)
 | k, s :: r, at_ => if s.2.1 ≤ at_ then turnEnd (k + 1) r (at_ - s.2.1) else (k, at_, s.2.1 - at_)
theorem turnEnd_spec : ∀ {m : List TwoD} {k : Nat} {a : Int}, (∀ s ∈ m, 1 ≤ s.2.1 ∧ s.2.1 ≤ 50) → 0 ≤ a → a < stepsM (-1) m →
  k ≤ (turnEnd k m a).1 ∧ ∃ s, m[(turnEnd k m a).1 - k]? = some s ∧ (turnEnd k m a).2.2 = s.2.1 - (turnEnd k m a).2.1 ∧ 0 ≤ (turnEnd k m a).2.1 ∧ (turnEnd k m a).2.1 < s.2.1
 | [], k, a, _, h0, h1 => by simp [stepsM] at h1; omega
 | s :: r, k, a, hs, h0, h1 => by
  simp only [stepsM] at h1
  rw [if_pos (.inl (by decide))] at h1
  simp only [turnEnd]
  by_cases h : s.2.1 ≤ a
  ·rw [if_pos h]
   obtain ⟨g0, q, g1, g2⟩ := turnEnd_spec (m := r) (k := k + 1) (a := a - s.2.1) (fun s hs' => hs s (List.mem_cons_of_mem _ hs')) (by omega) (by omega)
   refine ⟨by omega, q, ?_, g2⟩
   have e : (turnEnd (k + 1) r (a - s.2.1)).1 - k = ((turnEnd (k + 1) r (a - s.2.1)).1 - (k + 1)) + 1 := by omega
   rw [e, List.getElem?_cons_succ]
   exact g1
  ·rw [if_neg h]
   exact ⟨Nat.le_refl _, s, by simp, rfl, h0, by show a < s.2.1; omega⟩
def turnM (p : PolD) (clock : Int) : Int × Int := let e := turnEnd 0 p.2.2.2.1 (clock % stepsM (-1) p.2.2.2.1); ((e.1 : Int), e.2.2)
theorem stepsM_pos {m : List TwoD} (h : ∀ s ∈ m, 1 ≤ s.2.1 ∧ s.2.1 ≤ 50) (hl : 1 ≤ m.length) : 1 ≤ stepsM (-1) m := by
 cases m with
 | nil => simp at hl
 | cons s r =>
  have := stepsM_le (g := -1) (m := r) fun s hs => h s (List.mem_cons_of_mem _ hs)
  have := h s (by simp)
  simp only [stepsM]
  rw [if_pos (.inl (by decide))]
  omega
theorem tmod_pos {a b : Int} (h : 0 ≤ a) : a.tmod b = a % b := by
 rw [Int.tmod_eq_emod_of_nonneg h]
theorem turn_loop {γ : Type} {p : PolD} (hok : OkPol p) {step : ((PolD × Int × Int × Unit) × Unit × Unit → Option (((PolD × Int × Int × Unit) × Unit × Unit) ⊕ γ)) → (PolD × Int × Int × Unit) × Unit × Unit → Option (((PolD × Int × Int × Unit) × Unit × Unit) ⊕ γ)}
  (hstep : ∀ rec p a i, step rec ((p, a, i, ()), (), ()) = if 0 ≤ i then (p.2.2.2.1[i.toNat]?).bind fun y => if leI y.2.1 a = true then (if 0 ≤ i then (p.2.2.2.1[i.toNat]?).bind fun y =>
   rec ((p, IntKind.i64.wrap (a - y.2.1), IntKind.i64.wrap (i + 1), ()), (), ()) else none) else some (.inl ((p, a, i, ()), (), ())) else none)
  (a : Int) (h0 : 0 ≤ a) (h1 : a < stepsM (-1) p.2.2.2.1) : iterF step lots ((p, a, 0, ()), (), ()) = some (.inl ((p, (turnEnd 0 p.2.2.2.1 a).2.1, ((turnEnd 0 p.2.2.2.1 a).1 : Int), ()), (), ())) := by
 obtain ⟨hl, hs⟩ := hok.okPlan
 have key := loopN (step := step) (fun k (a : Int) => ((p, a, ((k : Nat) : Int), ()), (), ())) p.2.2.2.1.length (lots_gt' (by omega)) (fun k a => 0 ≤ a ∧ a < stepsM (-1) (p.2.2.2.1.drop k))
  (fun k a => some (.inl ((p, (turnEnd k (p.2.2.2.1.drop k) a).2.1, ((turnEnd k (p.2.2.2.1.drop k) a).1 : Int), ()), (), ()))) ?_ 0 a (by omega) ⟨h0, by simpa using h1⟩
 ·exact key
 ·rintro rec k a hk ⟨g0, g1⟩ ih
  by_cases hlt : k < p.2.2.2.1.length
  ·have hb := hs _ (List.getElem_mem hlt)
   have hle := (stepsM_le (g := -1) (mem_drop' (i := k) hs)).2
   rw [List.length_drop] at hle
   rw [hstep, if_pos nat0, at_get hlt, if_pos nat0, at_get hlt, wrapS (by omega), wrap64 (n := a - (p.2.2.2.1[k]).2.1) (by omega) (by omega)]
   rw [drop_get hlt] at g1
   simp only [stepsM] at g1
   rw [if_pos (.inl (by decide))] at g1
   by_cases h : (p.2.2.2.1[k]).2.1 ≤ a
   ·have e : turnEnd k (p.2.2.2.1.drop k) a = turnEnd (k + 1) (p.2.2.2.1.drop (k + 1)) (a - (p.2.2.2.1[k]).2.1) := by
     rw [drop_get hlt]; simp only [turnEnd]; rw [if_pos h]
    rw [if_pos (leI_t.2 h), e]
    exact ih _ hlt ⟨by omega, by omega⟩
   ·have e : turnEnd k (p.2.2.2.1.drop k) a = (k, a, (p.2.2.2.1[k]).2.1 - a) := by
     rw [drop_get hlt]; simp only [turnEnd]; rw [if_neg h]
    rw [if_neg (by rw [leI_t]; exact h), e]
  ·rw [drop_all hlt] at g1
   simp [stepsM] at g1
   omega
theorem implTurn_eq (p : PolD) (clock : Int) (hok : OkPol p) (h0 : 0 ≤ clock) : F_aw (p, clock, ()) = some (((turnM p clock).1, (turnM p clock).2, ()), ()) := by
 obtain ⟨hl, hs⟩ := hok.okPlan
 have hpos := stepsM_pos hs hok.plan.1
 have hle := (stepsM_le (g := -1) hs).2
 unfold F_aw
 dsimp only
 rw [stepsOf_eq p (-1) hok.okPlan, Option.bind_some]
 dsimp only
 have a0 : 0 ≤ clock % stepsM (-1) p.2.2.2.1 := Int.emod_nonneg _ (by omega)
 have a1 : clock % stepsM (-1) p.2.2.2.1 < stepsM (-1) p.2.2.2.1 := Int.emod_lt_of_pos _ (by omega)
 have hne : ¬ stepsM (-1) p.2.2.2.1 = 0 := by omega
 rw [if_neg hne, tmod_pos h0]
 show (iterF l_aw_3 lots ((p, clock % stepsM (-1) p.2.2.2.1, 0, ()), (), ())).bind _ = _
 rw [turn_loop hok (step := l_aw_3) (fun _ _ _ _ => rfl) _ a0 a1, Option.bind_some]
 dsimp only
 obtain ⟨_, s, g1, g2, g3, g4⟩ := turnEnd_spec (k := 0) hs a0 a1
 rw [Nat.sub_zero] at g1
 have hb := hs s (List.mem_of_getElem? g1)
 rw [if_pos nat0, Int.toNat_natCast, g1, Option.bind_some, wrap64 (by omega) (by omega), ← g2]
 rfl
def hostLe (n : Nat) (x : HostD) : Prop := polLe n x.1 ∧ x.2.1.length ≤ n ∧ x.2.2.1.length ≤ n ∧ ∀ h ∈ x.2.2.1, hartLe n h
def hartsM (m : List HartD) : Option Int := scan (fun (_ : Nat) h => nz (hartM h)) 0 m
def hostM (x : HostD) : Int :=
 if polM x.1 ≠ 0 then polM x.1
 else if (memFault x.2.1 = 0 ∧ x.2.1.length = 192) ∧ x.2.2.1.length = x.1.1.length then
  (match hartsM x.2.2.1 with
   | some c => c
   | none => if inB x.2.2.2.2.2.1 0 1000000 = true then (if x.2.2.2.1 = (turnM x.1 x.2.2.2.2.2.1).1 ∧ x.2.2.2.2.1 = (turnM x.1 x.2.2.2.2.2.1).2 then 0 else 1) else 3)
 else 1
theorem host_pol {x : HostD} (h : hostM x = 0) : polM x.1 = 0 := by
 unfold hostM at h
 split at h
 ·rename_i h'; exact absurd h h'
 ·rename_i h'; simpa using h'
/-- Bytes. -/
def Byt (c : List Int) : Prop := (∀ b ∈ c, 0 ≤ b ∧ b ≤ 255) ∧ c.length ≤ 1048580
theorem next_ok {c : List Int} (hc : Byt c) (a n : Int) (ha : 0 ≤ a ∧ a ≤ 1099511627776) :
  ∃ v : Int, F_c ((c, a, ()), n, ()) = some ((v, ()), ((c, a + 1, ()), ())) ∧ 0 ≤ v ∧ (v < n ∨ v = 0) := by
 unfold F_c
 dsimp only
 rw [wrap64 (n := a + 1) (by omega) (by omega), wrap64 (n := a + 1 - 1) (by omega) (by omega)]
 have e1 : a + 1 - 1 = a := by omega
 rw [e1]
 by_cases h1 : n < 1
 ·exact ⟨0, by rw [if_pos (ltI_t.2 h1)], Int.le_refl 0, .inr rfl⟩
 rw [if_neg (by rw [ltI_t]; exact h1)]
 have hn : ¬ n = 0 := by omega
 by_cases h2 : c.length = 0
 ·rw [if_pos (by rw [h2]; rfl), if_neg hn, wrap64 (n := a * 7) (by omega) (by omega)]
  exact ⟨(a * 7).tmod n, rfl, Int.tmod_nonneg _ (by omega), .inl (Int.tmod_lt_of_pos _ (by omega))⟩
 have h3 : ¬ ((c.length : Nat) : Int) = 0 := by omega
 have p1 : 0 ≤ a.tmod ((c.length : Nat) : Int) := Int.tmod_nonneg _ ha.1
 have p2 : a.tmod ((c.length : Nat) : Int) < ((c.length : Nat) : Int) := Int.tmod_lt_of_pos _ (by omega)
 have p3 : 0 ≤ (a + 1).tmod ((c.length : Nat) : Int) := Int.tmod_nonneg _ (by omega)
 have p4 : (a + 1).tmod ((c.length : Nat) : Int) < ((c.length : Nat) : Int) := Int.tmod_lt_of_pos _ (by omega)
 have p5 : 0 ≤ a.tdiv ((c.length : Nat) : Int) := Int.tdiv_nonneg ha.1 (by omega)
 have p6 : a.tdiv ((c.length : Nat) : Int) ≤ a := Int.tdiv_le_self _ ha.1
 obtain ⟨y, hy⟩ : ∃ y, c[(a.tmod ((c.length : Nat) : Int)).toNat]? = some y := ⟨_, List.getElem?_eq_getElem (by omega)⟩
 obtain ⟨z, hz⟩ : ∃ z, c[((a + 1).tmod ((c.length : Nat) : Int)).toNat]? = some z := ⟨_, List.getElem?_eq_getElem (by omega)⟩
 have by_ := hc.1 y (List.mem_of_getElem? hy)
 have bz := hc.1 z (List.mem_of_getElem? hz)
 rw [if_neg (by simpa using h3), if_neg h3, if_pos p1, hy, Option.bind_some]
 generalize a.tdiv ((c.length : Nat) : Int) = d at p5 p6 ⊢
 rw [wrap64 (n := y) (by omega) (by omega), wrap64 (n := d) (by omega) (by omega), wrap64 (n := d * 37) (by omega) (by omega), wrap64 (n := y + d * 37) (by omega) (by omega)]
 by_cases h4 : (200 : Int) < n
 ·rw [if_neg h3, if_pos (ltI_t.2 h4), if_neg h3]
  rw [wrap64 (n := (y + d * 37) * 251) (by omega) (by omega), wrap64 (n := a + 1) (by omega) (by omega), if_pos p3, hz, Option.bind_some, wrap64 (n := z) (by omega) (by omega), wrap64 (n := z * 13) (by omega) (by omega),
   wrap64 (n := (y + d * 37) * 251 + z * 13) (by omega) (by omega), wrap64 (n := (y + d * 37) * 251 + z * 13 + a) (by omega) (by omega), if_neg hn]
  exact ⟨_, rfl, Int.tmod_nonneg _ (by omega), .inl (Int.tmod_lt_of_pos _ (by omega))⟩
 ·rw [if_neg h3, if_neg (by rw [ltI_t]; exact h4), if_neg hn]
  exact ⟨_, rfl, Int.tmod_nonneg _ (by omega), .inl (Int.tmod_lt_of_pos _ (by omega))⟩
/-- What is drawn. -/
def nextV (x : denP P_c) : Int := match F_c x with | some r => r.1.1 | none => 0
def pickV (x : denP P_d) : Int := match F_d x with | some r => r.1.1 | none => 0
theorem next_rw (x : denP P_c) (hc : Byt x.1.1) (ha : 0 ≤ x.1.2.1 ∧ x.1.2.1 ≤ 1099511627776) : F_c x = some ((nextV x, ()), ((x.1.1, x.1.2.1 + 1, ()), ())) := by
 obtain ⟨⟨c, a, _⟩, n, _⟩ := x
 obtain ⟨v, e, h0, h1⟩ := next_ok hc a n ha
 unfold nextV
 rw [e]
theorem next_b (x : denP P_c) (hc : Byt x.1.1) (ha : 0 ≤ x.1.2.1 ∧ x.1.2.1 ≤ 1099511627776) : 0 ≤ nextV x ∧ (nextV x < x.2.1 ∨ nextV x = 0) := by
 obtain ⟨⟨c, a, _⟩, n, _⟩ := x
 obtain ⟨v, e, h0, h1⟩ := next_ok hc a n ha
 unfold nextV
 rw [e]
 exact ⟨h0, h1⟩
theorem pick_ok {c : List Int} (hc : Byt c) (a : Int) (l : List Int) (ha : 0 ≤ a ∧ a ≤ 1099511627776) (hl : l ≠ []) :
  ∃ v : Int, F_d ((c, a, ()), l, ()) = some ((v, ()), ((c, a + 1, ()), ())) ∧ v ∈ l := by
 have hpos : 0 < l.length := List.length_pos_iff.2 hl
 obtain ⟨v, e, h0, h1⟩ := next_ok hc a ((l.length : Nat) : Int) ha
 unfold F_d
 dsimp only
 rw [e, Option.bind_some]
 dsimp only
 have hv : v.toNat < l.length := by omega
 rw [if_pos h0, List.getElem?_eq_getElem hv, Option.bind_some]
 exact ⟨_, rfl, List.getElem_mem hv⟩
theorem pick_rw (x : denP P_d) (hl : x.2.1.isEmpty = false) (hc : Byt x.1.1) (ha : 0 ≤ x.1.2.1 ∧ x.1.2.1 ≤ 1099511627776) : F_d x = some ((pickV x, ()), ((x.1.1, x.1.2.1 + 1, ()), ())) := by
 obtain ⟨⟨c, a, _⟩, l, _⟩ := x
 obtain ⟨v, e, h0⟩ := pick_ok hc a l ha (by rintro rfl; cases hl)
 unfold pickV
 rw [e]
theorem pick_m (x : denP P_d) (hl : x.2.1.isEmpty = false) (hc : Byt x.1.1) (ha : 0 ≤ x.1.2.1 ∧ x.1.2.1 ≤ 1099511627776) : pickV x ∈ x.2.1 := by
 obtain ⟨⟨c, a, _⟩, l, _⟩ := x
 obtain ⟨v, e, h0⟩ := pick_ok hc a l ha (by rintro rfl; cases hl)
 unfold pickV
 rw [e]
 exact h0
def Drew {T : Type} (o : Option ((T × Unit) × (List Int × Int × Unit) × Unit)) (c : List Int) (a k : Int) : Prop := ∃ (v : T) (a' : Int), o = some ((v, ()), ((c, a', ()), ())) ∧ a ≤ a' ∧ a' ≤ a + k
theorem Drew.ite {T : Type} {p : Prop} [Decidable p] {x y : Option ((T × Unit) × (List Int × Int × Unit) × Unit)} {c : List Int} {a k : Int} (hx : Drew x c a k) (hy : Drew y c a k) : Drew (if p then x else y) c a k := by split <;> assumption
theorem nz_none {c : Int} (h : nz c = none) : c = 0 := by
 unfold nz at h
 split at h
 ·cases h
 ·rename_i h'; simpa using h'
theorem okLane {p : PolD} (hok : OkPol p) : ∀ l ∈ p.2.1, (isG p l.1 = true ∧ isG p l.2.1 = true ∧ l.1 ≠ l.2.1) ∧ (0 ≤ l.2.2.1 ∧ l.2.2.1 ≤ 23) ∧ (5 ≤ l.2.2.2.1 ∧ l.2.2.2.1 ≤ 6) ∧ 5 ≤ l.2.2.2.2.1 ∧ l.2.2.2.2.1 ≤ 6 := by
 intro l hl
 obtain ⟨i, e⟩ := scan_none_all hok.lanes.2 l hl
 have e := nz_none e
 unfold laneM at e
 split at e
 ·rename_i h; exact absurd e h
 ·rename_i h0
  split at e
  ·rename_i h1
   refine ⟨?_, inB_t.1 h1.1, inB_t.1 h1.2.1, inB_t.1 h1.2.2⟩
   have h0 : endsM p l.1 l.2.1 = 0 := by simpa using h0
   unfold endsM at h0
   split at h0
   ·rename_i g1
    split at h0
    ·rename_i g2
     split at h0
     ·cases h0
     ·rename_i g3; exact ⟨g1, g2, g3⟩
    ·cases h0
   ·cases h0
  ·cases e
theorem isG_t {p : PolD} {g : Int} : isG p g = true ↔ 0 ≤ g ∧ g < (p.1.length : Int) := by unfold isG; simp; omega
def pg (m : List Int) (p : Int) : List Int := (m.drop (8 * p.toNat)).take 8
def zeroH : HartD := ([], 0, [], false, false, false, 0, [], [], ())
abbrev SoloD := HartD × List TwoD × List Int × Unit
/-- What is not right with an entry of a list of pages. -/
def pageF (top : Int) (p : TwoD) : Option Int := if inB p.1 (-1) (top - 1) = true then (if inB p.2.1 0 7 = true then (if p.1 = -1 then nz (if p.2.1 = 0 then 0 else 1) else none) else some 3) else some 3
def pagesM (l : List TwoD) (top : Int) : Int := if inB top 1 24 = true then (if l.length = 8 then (match scan (fun (_ : Nat) p => pageF top p) 0 l with | some c => c | none => 0) else 1) else 3
def soloM (x : SoloD) : Int := if hartM x.1 ≠ 0 then hartM x.1 else if pagesM x.2.1 8 ≠ 0 then pagesM x.2.1 8 else if memFault x.2.2.1 = 0 ∧ x.2.2.1.length = 64 then 0 else 1
/-- A word. -/
def WW (n : Int) : Prop := 0 ≤ n ∧ n ≤ 4294967295
structure OkC (cs : List Int) : Prop where
 len : cs.length = 11
 words : ∀ w ∈ cs, WW w
 st : cs.getD 0 0 ≤ 3
 msk : cs.getD 7 0 ≤ 7
 tb : cs.getD 10 0 ≤ 8
 pd : cs.getD 6 0 = 0
 tm : cs.getD 8 0 = 0
structure OkR (r : List Int) : Prop where
 len : r.length = 16
 words : ∀ w ∈ r, WW w
 zero : r.getD 0 0 = 0
structure OkL (l : List TwoD) (m : List Int) : Prop where
 len : l.length = 8
 pgs : ∀ p ∈ l, (-1 ≤ p.1 ∧ p.1 ≤ 23) ∧ (0 ≤ p.2.1 ∧ p.2.1 ≤ 7) ∧ 8 * p.1 + 8 ≤ (m.length : Int)
 words : ∀ w ∈ m, WW w
 mlen : m.length ≤ 192
theorem getD_mem {α : Type} {l : List α} {k : Nat} {d : α} (h : k < l.length) : l.getD k d ∈ l := by
 rw [List.getD_eq_getElem?_getD, List.getElem?_eq_getElem h]; exact List.getElem_mem h
theorem OkC.w {cs : List Int} (h : OkC cs) {k : Nat} (hk : k < 11) : WW (cs.getD k 0) := h.words _ (getD_mem (by rw [h.len]; exact hk))
theorem OkR.w {cs : List Int} (h : OkR cs) {k : Nat} (hk : k < 16) : WW (cs.getD k 0) := h.words _ (getD_mem (by rw [h.len]; exact hk))
def pendM (cs : List Int) (ru : Bool) (dn : Int) (iq : List Int) : Int :=
 (if cs.getD 9 0 ≠ 0 ∧ cs.getD 9 0 ≤ dn then 1 else 0) + (if ru = true then 2 else 0) + (if 0 < iq.length then 4 else 0)
section
variable {r cs iq oq : List Int} {pc dn : Int} {ha wa ru : Bool}
theorem getD_set_ne {l : List Int} {i j : Nat} {y d : Int} (h : i ≠ j) : (l.set i y).getD j d = l.getD j d := by
 simp [List.getD_eq_getElem?_getD, List.getElem?_set_ne h]
theorem getD_set_eq {l : List Int} {i : Nat} {y d : Int} (h : i < l.length) : (l.set i y).getD i d = y := by
 simp [List.getD_eq_getElem?_getD, List.getElem?_set_self h]
theorem OkC.set {cs : List Int} (h : OkC cs) {k : Nat} {w : Int} (hw : WW w) (hk : k ≠ 6 ∧ k ≠ 8) (h0 : k = 0 → w ≤ 3) (h7 : k = 7 → w ≤ 7) (h10 : k = 10 → w ≤ 8) : OkC (cs.set k w) := by
 by_cases hlt : k < 11
 ·refine ⟨by simp [h.len], fun z hz => ?_, ?_, ?_, ?_, ?_, ?_⟩
  ·rcases List.mem_or_eq_of_mem_set hz with hz | rfl
   ·exact h.words z hz
   ·exact hw
  ·by_cases e : k = 0
   ·subst e; rw [getD_set_eq (by rw [h.len]; decide)]; exact h0 rfl
   ·rw [getD_set_ne e]; exact h.st
  ·by_cases e : k = 7
   ·subst e; rw [getD_set_eq (by rw [h.len]; decide)]; exact h7 rfl
   ·rw [getD_set_ne e]; exact h.msk
  ·by_cases e : k = 10
   ·subst e; rw [getD_set_eq (by rw [h.len]; decide)]; exact h10 rfl
   ·rw [getD_set_ne e]; exact h.tb
  ·rw [getD_set_ne hk.1]; exact h.pd
  ·rw [getD_set_ne hk.2]; exact h.tm
 ·rw [List.set_eq_of_length_le (by rw [h.len]; omega)]; exact h
def getM (cs : List Int) (ru : Bool) (dn : Int) (iq : List Int) (k : Int) : Int := if k = 6 then pendM cs ru dn iq else if k = 8 then dn else cs.getD k.toNat 0
end
structure OkP (l : List TwoD) : Prop where
 len : l.length = 8
 pgs : ∀ p ∈ l, -1 ≤ p.1 ∧ p.1 ≤ 23
theorem OkL.p {l : List TwoD} {m : List Int} (h : OkL l m) : OkP l := ⟨h.len, fun p hp => (h.pgs p hp).1⟩
theorem okW_iff {w : Int} : okW w = true ↔ WW w := by unfold okW WW; simp
theorem allW_iff {m : List Int} : allW m = true ↔ ∀ w ∈ m, WW w := by
 unfold allW; rw [List.all_eq_true]; exact ⟨fun h w hw => okW_iff.1 (h w hw), fun h w hw => okW_iff.2 (h w hw)⟩
/-- A machine. -/
structure Mc where
 r : List Int
 pc : Int
 cs : List Int
 ha : Bool
 wa : Bool
 ru : Bool
 dn : Int
 iq : List Int
 oq : List Int
 m : List Int
 ring : Int
 fall : Int
section
variable {l : List TwoD} {s : Mc}
theorem OkR.set {r : List Int} (h : OkR r) {k : Nat} {w : Int} (hk : 0 < k) (hw : WW w) : OkR (r.set k w) :=
 ⟨by rw [List.length_set]; exact h.len, fun z hz => by
  rcases List.mem_or_eq_of_mem_set hz with hz | rfl
  ·exact h.words z hz
  ·exact hw, by rw [getD_set_ne (by omega)]; exact h.zero⟩
end
def Mc.of (h : HartD) (m : List Int) : Mc := ⟨h.1, h.2.1, h.2.2.1, h.2.2.2.1, h.2.2.2.2.1, h.2.2.2.2.2.1, h.2.2.2.2.2.2.1, h.2.2.2.2.2.2.2.1, h.2.2.2.2.2.2.2.2.1, m, -1, -1⟩
abbrev SrcD := List Int × Int × Unit
/-- A source that has been read so far at most. -/
def Sr (s : SrcD) (k : Int) : Prop := Byt s.1 ∧ 0 ≤ s.2.1 ∧ s.2.1 ≤ k
theorem Sr.le {s : SrcD} {k k' : Int} (h : Sr s k) (hk : k ≤ k') : Sr s k' := ⟨h.1, h.2.1, Int.le_trans h.2.2 hk⟩
theorem Sr.pos {s : SrcD} {k : Int} (h : Sr s k) : 0 ≤ k := Int.le_trans h.2.1 h.2.2
/-- It answers, and the answer is such. -/
def Dr {X : Type} (o : Option X) (P : X → Prop) : Prop := ∃ v, o = some v ∧ P v
theorem Dr.bind {X Y : Type} {o : Option X} {f : X → Option Y} {Q : X → Prop} {P : Y → Prop} (h : Dr o Q) (g : ∀ v, Q v → Dr (f v) P) : Dr (o.bind f) P := by
 obtain ⟨v, rfl, hv⟩ := h
 exact g v hv
theorem Dr.ret {X : Type} {v : X} {P : X → Prop} (h : P v) : Dr (some v) P := ⟨v, rfl, h⟩
theorem Dr.ite {X : Type} {c : Prop} [Decidable c] {a b : Option X} {P : X → Prop} (ha : c → Dr a P) (hb : ¬ c → Dr b P) : Dr (if c then a else b) P := by
 split
 ·exact ha ‹_›
 ·exact hb ‹_›
theorem Dr.guard {X : Type} {c : Prop} [Decidable c] {a : Option X} {P : X → Prop} (hc : c) (ha : Dr a P) : Dr (if c then a else none) P := by rw [if_pos hc]; exact ha
theorem Dr.get {X Y : Type} {xs : List X} {i : Nat} {f : X → Option Y} {P : Y → Prop} (hi : i < xs.length) (h : ∀ y, y ∈ xs → xs[i]? = some y → Dr (f y) P) : Dr ((xs[i]?).bind f) P := by
 rw [List.getElem?_eq_getElem hi, Option.bind_some]
 exact h _ (List.getElem_mem hi) (List.getElem?_eq_getElem hi)
theorem Dr.of {X : Type} {o : Option X} {v : X} {P : X → Prop} (h : o = some v) (hv : P v) : Dr o P := ⟨v, h, hv⟩
theorem iter_d {X Y : Type} {step : (X → Option Y) → X → Option Y} {Q : Y → Prop} (I : Nat → X → Prop) (h : ∀ rec m x, I m x → (∀ m' x', m' < m → I m' x' → Dr (rec x') Q) → Dr (step rec x) Q) (m : Nat) (x : X) (hI : I m x) (hm : m < lots) : Dr (iterF step lots x) Q := by
 have key : ∀ n m x, m < n → I m x → Dr (iterF step n x) Q := by
  intro n
  induction n with
  | zero => intro m x h; omega
  | succ n ih => intro m x hm hI; exact h _ m x hI fun m' x' hlt hI' => ih m' x' (by omega) hI'
 exact key lots m x hm hI
def Bd (n x : Int) : Prop := 0 ≤ x ∧ (x < n ∨ x = 0)
theorem Bd.e {n x : Int} (h : Bd n x) : 0 ≤ x ∧ (x < n ∨ x = 0) := h
def Bt (a b x : Int) : Prop := a ≤ x ∧ x ≤ b
theorem Bt.e {a b x : Int} (h : Bt a b x) : a ≤ x ∧ x ≤ b := h
theorem next_d {s : SrcD} {k : Int} (h : Sr s k) (hk : k ≤ 1099511627776) (n : Int) : Dr (F_c (s, n, ())) fun r => Sr r.2.1 (k + 1) ∧ Bd n r.1.1 :=
 .of (next_rw (s, n, ()) h.1 ⟨h.2.1, Int.le_trans h.2.2 hk⟩) ⟨⟨h.1, by have := h.2.1; dsimp only; omega, by have := h.2.2; dsimp only; omega⟩, next_b (s, n, ()) h.1 ⟨h.2.1, Int.le_trans h.2.2 hk⟩⟩
theorem pick_d {s : SrcD} {k : Int} (h : Sr s k) (hk : k ≤ 1099511627776) (x : Int) (l : List Int) : Dr (F_d (s, x :: l, ())) fun r => Sr r.2.1 (k + 1) ∧ (r.1.1 : Int) ∈ x :: l :=
 .of (pick_rw (s, x :: l, ()) rfl h.1 ⟨h.2.1, Int.le_trans h.2.2 hk⟩) ⟨⟨h.1, by have := h.2.1; dsimp only; omega, by have := h.2.2; dsimp only; omega⟩, pick_m (s, x :: l, ()) rfl h.1 ⟨h.2.1, Int.le_trans h.2.2 hk⟩⟩
theorem source_d {c : List Int} (h : Byt c) : Dr (F_b (c, ())) fun r => Sr r.1.1 0 := .of rfl ⟨h, Int.le_refl _, Int.le_refl _⟩
structure HL (h : HartD) : Prop where
 r : h.1.length = 16
 c : h.2.2.1.length = 11
 i : h.2.2.2.2.2.2.2.1.length ≤ 2
 o : h.2.2.2.2.2.2.2.2.1.length ≤ 40
structure HB (h : HartD) : Prop where
 r : h.1.length ≤ 16
 c : h.2.2.1.length = 11
 i : h.2.2.2.2.2.2.2.1.length ≤ 41
 o : h.2.2.2.2.2.2.2.2.1.length ≤ 40
theorem HL.b {h : HartD} (hh : HL h) : HB h := ⟨by rw [hh.r]; omega, hh.c, by have := hh.i; omega, hh.o⟩
theorem HB.le {h : HartD} (hh : HB h) : hartLe 1048576 h := ⟨by have := hh.r; omega, by rw [hh.c]; omega, by have := hh.i; omega, by have := hh.o; omega⟩
theorem Dr.step {X Y : Type} {o : Option X} {v : X} {f : X → Option Y} {P : Y → Prop} (h : o = some v) (g : Dr (f v) P) : Dr (o.bind f) P := by rw [h]; exact g
theorem Dr.pos {X : Type} {c : Prop} [Decidable c] {a b : Option X} {P : X → Prop} (hc : c) (h : Dr a P) : Dr (if c then a else b) P := by rw [if_pos hc]; exact h
theorem Dr.neg {X : Type} {c : Prop} [Decidable c] {a b : Option X} {P : X → Prop} (hc : ¬ c) (h : Dr b P) : Dr (if c then a else b) P := by rw [if_neg hc]; exact h
theorem Dr.eq {X : Type} {o : Option X} {v : X} (h : Dr o fun r => r = v) : o = some v := by
 obtain ⟨_, e, rfl⟩ := h
 exact e
/-- What a law's text answers. -/
abbrev Yes (o : Option ((Bool × Unit) × Unit)) : Prop := Dr o fun r => r = ((true, ()), ())
theorem yes {b : Bool} (h : b = true) : Yes (some ((b, ()), ())) := by subst h; exact ⟨_, rfl, rfl⟩
def Mc.hart (s : Mc) : HartD := (s.r, s.pc, s.cs, s.ha, s.wa, s.ru, s.dn, s.iq, s.oq, ())
theorem big_or {c : List Int} (h : ¬ (1048576 : Int) < ((c.length : Nat) : Int)) (hb : ∀ b ∈ c, 0 ≤ b ∧ b ≤ 255) : Byt c := ⟨hb, by omega⟩
theorem Bd.top {n x : Int} (h : Bd (n + 1) x) (hn : 0 ≤ n) : 0 ≤ x ∧ x ≤ n := by unfold Bd at h; omega
def noPg : TwoD := (-1, 0, ())
def basePg : List TwoD := [noPg, noPg, noPg, noPg, noPg, noPg, noPg, noPg]
def ownPg : Nat → List Int → List TwoD → List TwoD
 | _, [], l => l
 | k, p :: r, l => ownPg (k + 1) r (l.set k (p, 7, ()))
def lane1 (g : Int) (x : LaneD) (l : List TwoD) : List TwoD :=
 let l1 := if x.1 = g then l.set x.2.2.2.1.toNat (x.2.2.1, 3, ()) else l
 if x.2.1 = g then l1.set x.2.2.2.2.1.toNat (x.2.2.1, 1, ()) else l1
def lanePg (g : Int) : List LaneD → List TwoD → List TwoD
 | [], l => l
 | x :: r, l => lanePg g r (lane1 g x l)
/-- The pages of a guest. -/
def pgM (p : PolD) (g : Int) : List TwoD := lanePg g p.2.1 (ownPg 0 (p.1.getD g.toNat []) basePg)
/-- A property of all pages. -/
theorem ownPg_all {P : TwoD → Prop} : ∀ (r : List Int) (k : Nat) (l : List TwoD), (∀ x ∈ r, P (x, 7, ())) → (∀ q ∈ l, P q) → ∀ q ∈ ownPg k r l, P q
 | [], _, _, _, h => h
 | p :: r, k, l, h1, h => ownPg_all r (k + 1) _ (fun x hx => h1 x (List.mem_cons_of_mem _ hx)) fun q hq => by
  rcases List.mem_or_eq_of_mem_set hq with hq | rfl
  ·exact h q hq
  ·exact h1 p (by simp)
theorem lane1_all {P : TwoD → Prop} {g : Int} {x : LaneD} {l : List TwoD} (h1 : P (x.2.2.1, 3, ())) (h2 : P (x.2.2.1, 1, ())) (h : ∀ q ∈ l, P q) : ∀ q ∈ lane1 g x l, P q := by
 have s : ∀ {l : List TwoD} {k : Nat} {y : TwoD}, P y → (∀ q ∈ l, P q) → ∀ q ∈ l.set k y, P q := fun hy h q hq => by
  rcases List.mem_or_eq_of_mem_set hq with hq | rfl
  ·exact h q hq
  ·exact hy
 unfold lane1
 dsimp only
 split
 ·split
  ·exact s h2 (s h1 h)
  ·exact s h2 h
 ·split
  ·exact s h1 h
  ·exact h
theorem lanePg_all {P : TwoD → Prop} {g : Int} : ∀ (r : List LaneD) (l : List TwoD), (∀ x ∈ r, P (x.2.2.1, 3, ()) ∧ P (x.2.2.1, 1, ())) → (∀ q ∈ l, P q) → ∀ q ∈ lanePg g r l, P q
 | [], _, _, h => h
 | x :: r, l, h1, h => lanePg_all r _ (fun y hy => h1 y (List.mem_cons_of_mem _ hy)) (lane1_all (h1 x (by simp)).1 (h1 x (by simp)).2 h)
theorem own_mem {p : PolD} {g : Int} (hok : OkPol p) (hg : isG p g = true) : p.1.getD g.toNat [] ∈ p.1 := by
 have := isG_t.1 hg
 exact getD_mem (by omega)
theorem pgM_in {p : PolD} {g : Int} (hok : OkPol p) (hg : isG p g = true) : ∀ q ∈ pgM p g, (-1 ≤ q.1 ∧ q.1 ≤ 23) ∧ 0 ≤ q.2.1 ∧ q.2.1 ≤ 7 := by
 refine lanePg_all (P := fun q => (-1 ≤ q.1 ∧ q.1 ≤ 23) ∧ 0 ≤ q.2.1 ∧ q.2.1 ≤ 7) _ _ (fun x hx => ?_) (ownPg_all _ _ _ (fun x hx => ?_) ?_)
 ·have := (okLane hok x hx).2.1
  dsimp only
  omega
 ·have := (hok.own1 _ (own_mem hok hg)).2.2 x hx
  dsimp only
  omega
 ·intro q hq
  simp only [basePg, List.mem_cons, List.not_mem_nil, or_false, or_self] at hq
  subst hq
  unfold noPg
  decide
def aloneM (l : List TwoD) : List TwoD := l.mapIdx fun k p => if 0 ≤ p.1 then ((k : Int), p.2) else p
theorem pg_len8 {m : List Int} {p : Int} (h : 0 ≤ p ∧ 8 * p + 8 ≤ (m.length : Int)) : (pg m p).length = 8 := by unfold pg; simp; omega
theorem stepsM_cons (s : TwoD) (r : List TwoD) : stepsM (-1) (s :: r) = s.2.1 + stepsM (-1) r := by
 simp only [stepsM]
 rw [if_pos (.inl (by decide))]
theorem te_le {s : TwoD} {r : List TwoD} {k : Nat} {a : Int} (h : s.2.1 ≤ a) : turnEnd k (s :: r) a = turnEnd (k + 1) r (a - s.2.1) := by simp only [turnEnd]; rw [if_pos h]
theorem te_gt {s : TwoD} {r : List TwoD} {k : Nat} {a : Int} (h : ¬ s.2.1 ≤ a) : turnEnd k (s :: r) a = (k, a, s.2.1 - a) := by simp only [turnEnd]; rw [if_neg h]
structure HK (x : HostD) : Prop where
 pol : polM x.1 = 0
 mem : memFault x.2.1 = 0 ∧ x.2.1.length = 192
 len : x.2.2.1.length = x.1.1.length
 harts : ∀ h ∈ x.2.2.1, hartM h = 0
 clock : 0 ≤ x.2.2.2.2.2.1 ∧ x.2.2.2.2.2.1 ≤ 1000000
 slot : x.2.2.2.1 = (turnM x.1 x.2.2.2.2.2.1).1
 left : x.2.2.2.2.1 = (turnM x.1 x.2.2.2.2.2.1).2
theorem HK.ok {x : HostD} (h : HK x) : OkPol x.1 := okPol h.pol
theorem hartsM_zero : ∀ {m : List HartD}, hartsM m = none ↔ ∀ h ∈ m, hartM h = 0 := by
 have key : ∀ {m : List HartD} {i : Nat}, scan (fun (_ : Nat) h => nz (hartM h)) i m = none ↔ ∀ h ∈ m, hartM h = 0 := by
  intro m
  induction m with
  | nil => intro i; simp [scan]
  | cons y r ih =>
   intro i
   simp only [scan]
   by_cases hy : hartM y = 0
   ·have : nz (hartM y) = none := by unfold nz; rw [if_neg (by simpa using hy)]
    rw [this]
    simp only
    rw [ih]
    simp [hy]
   ·have : nz (hartM y) = some (hartM y) := by unfold nz; rw [if_pos hy]
    rw [this]
    simp [hy]
 intro m
 unfold hartsM
 exact key
theorem HK.of {x : HostD} (h : hostM x = 0) : HK x := by
 have hp := host_pol h
 unfold hostM at h
 rw [if_neg (by simpa using hp)] at h
 split at h
 ·rename_i g
  cases hh : hartsM x.2.2.1 with
  | some c =>
   rw [hh] at h
   have : c ≠ 0 := by
    have : ∀ {m : List HartD} {i : Nat} {c : Int}, scan (fun (_ : Nat) h => nz (hartM h)) i m = some c → c ≠ 0 := by
     intro m
     induction m with
     | nil => intro i c h; simp [scan] at h
     | cons y r ih =>
      intro i c h
      simp only [scan] at h
      split at h
      ·rename_i c' hc'
       obtain rfl := Option.some.inj h
       unfold nz at hc'
       split at hc'
       ·obtain rfl := Option.some.inj hc'; assumption
       ·cases hc'
      ·exact ih h
    exact this hh
   exact absurd h this
  | none =>
   rw [hh] at h
   simp only at h
   split at h
   ·rename_i hc
    split at h
    ·rename_i hs
     exact ⟨hp, g.1, g.2, hartsM_zero.1 hh, inB_t.1 hc, hs.1, hs.2⟩
    ·cases h
   ·cases h
 ·cases h
theorem HK.to {x : HostD} (h : HK x) : hostM x = 0 := by
 unfold hostM
 rw [if_neg (by simpa using h.pol), if_pos ⟨h.mem, h.len⟩, hartsM_zero.2 h.harts]
 simp only
 rw [if_pos (inB_t.2 h.clock), if_pos ⟨h.slot, h.left⟩]
theorem hart0_le {h : HartD} (hh : hartM h = 0) : hartLe 1048576 h := by
 unfold hartM at hh
 split at hh
 ·rename_i c1
  split at hh
  ·split at hh
   ·rename_i c3
    exact ⟨by omega, by omega, by omega, by omega⟩
   ·cases hh
  ·cases hh
 ·cases hh
theorem pol0_le {p : PolD} (h : OkPol p) : polLe 1048576 p := by
 have h1 := h.own; have h2 := h.lanes.1; have h3 := h.bells.1; have h4 := h.plan.2
 exact ⟨⟨by omega, fun l hl => by have := (h.own1 l hl).2.1; omega⟩, by omega, by omega, by omega⟩
theorem HK.le {x : HostD} (h : HK x) : hostLe 1048576 x := by
 have h1 := h.mem.2; have h2 := h.len; have h3 := h.ok.own
 exact ⟨pol0_le h.ok, by omega, by omega, fun y hy => hart0_le (h.harts y hy)⟩
theorem okBell {p : PolD} (hok : OkPol p) : ∀ b ∈ p.2.2.1, isG p b.1 = true ∧ isG p b.2.1 = true ∧ b.1 ≠ b.2.1 := by
 intro b hb
 obtain ⟨i, e⟩ := scan_none_all hok.bells.2 b hb
 have e := nz_none e
 unfold bellM at e
 split at e
 ·rename_i h; exact absurd e h
 ·rename_i h0
  have h0 : endsM p b.1 b.2.1 = 0 := by simpa using h0
  unfold endsM at h0
  split at h0
  ·split at h0
   ·split at h0
    ·cases h0
    ·exact ⟨‹_›, ‹_›, ‹_›⟩
   ·cases h0
  ·cases h0
def setM (s : SoloD) (m : List Int) : SoloD := (s.1, s.2.1, m, ())
theorem words_of {m : List Int} (h : memFault m = 0) : ∀ w ∈ m, WW w := by
 unfold memFault at h
 split at h
 ·split at h
  ·exact allW_iff.1 ‹_›
  ·cases h
 ·cases h
theorem pg_words {m : List Int} {p : Int} (h : ∀ w ∈ m, WW w) : ∀ w ∈ pg m p, WW w := fun w hw => h w (List.mem_of_mem_drop (List.mem_of_mem_take hw))
/-- A lane of a right host, and what it brings. -/
theorem lane_in {x : HostD} (h : HK x) {l : LaneD} (hl : l ∈ x.1.2.1) : (0 ≤ l.2.2.1 ∧ 8 * l.2.2.1 + 8 ≤ (x.2.1.length : Int)) ∧ (0 ≤ l.2.2.2.2.1 ∧ l.2.2.2.2.1 < 8) ∧ (pg x.2.1 l.2.2.1).length = 8 ∧ ∀ w ∈ pg x.2.1 l.2.2.1, WW w := by
 have hm := h.mem.2
 obtain ⟨_, h2, h3, h4⟩ := okLane h.ok l hl
 have e : 0 ≤ l.2.2.1 ∧ 8 * l.2.2.1 + 8 ≤ (x.2.1.length : Int) := by omega
 exact ⟨e, by omega, pg_len8 e, pg_words (words_of h.mem.1)⟩
abbrev ownL (p : PolD) (g : Int) : List Int := p.1.getD g.toNat []
/-- A lane has its places. -/
def LaneOk (x : LaneD) : Prop := x.1 ≠ x.2.1 ∧ (5 ≤ x.2.2.2.1 ∧ x.2.2.2.1 ≤ 6) ∧ (5 ≤ x.2.2.2.2.1 ∧ x.2.2.2.2.1 ≤ 6)
theorem lanes_ok {p : PolD} (hok : OkPol p) : ∀ x ∈ p.2.1, LaneOk x := fun x hx => by
 have := okLane hok x hx
 exact ⟨this.1.2.2, this.2.2.1, this.2.2.2⟩
/-- A machine but for what is rung. -/
def calm (h : HartD) : HartD := (h.1, h.2.1, h.2.2.1, h.2.2.2.1, h.2.2.2.2.1, false, h.2.2.2.2.2.2)
/-- A guest of a host, and a lonely machine that is as it is. -/
structure Rl (x : HostD) (s : SoloD) (g : Int) : Prop where
 hk : HK x
 hs : soloM s = 0
 hg : isG x.1 g = true
 pages : s.2.1 = aloneM (pgM x.1 g)
 hart : calm s.1 = calm (x.2.2.1.getD g.toNat zeroH)
 own : ∀ k, k < (ownL x.1 g).length → pg x.2.1 ((ownL x.1 g).getD k 0) = pg s.2.2.1 (k : Nat)
 gives : ∀ y ∈ x.1.2.1, y.1 = g → pg x.2.1 y.2.2.1 = pg s.2.2.1 y.2.2.2.1
section
variable {x : HostD} {s : SoloD} {g : Int}
theorem Rl.lanes (h : Rl x s g) : ∀ y ∈ x.1.2.1, LaneOk y ∧ (pg x.2.1 y.2.2.1).length = 8 := fun y hy => ⟨lanes_ok h.hk.ok y hy, (lane_in h.hk hy).2.2.1⟩
end
theorem scan_free {α β : Type} {f : Nat → α → Option β} : ∀ {m : List α} {i : Nat}, (∀ j x, x ∈ m → f j x = none) → scan f i m = none
 | [], _, _ => rfl
 | x :: r, i, h => by
  simp only [scan]
  rw [h i x (by simp)]
  exact scan_free fun j y hy => h j y (List.mem_cons_of_mem _ hy)
theorem bdLt {n x : Int} (h : Bd n x) (hn : 1 ≤ n) : 0 ≤ x ∧ x < n := by unfold Bd at h; omega
structure OwnI (L : List (List Int)) (page : Int) : Prop where
 one : ∀ l ∈ L, 1 ≤ l.length ∧ l.length ≤ 3
 up : L.flatten.Pairwise (· < ·)
 bd : ∀ x ∈ L.flatten, 0 ≤ x ∧ x < page
 top : 0 ≤ page ∧ page ≤ 2 + 3 * (L.length : Int)
theorem OwnI.snoc {L : List (List Int)} {page : Int} (h : OwnI L page) {own : List Int} {K : Nat} (hK : 1 ≤ K ∧ K ≤ 3) (hl : own.length = K) (hu : own.Pairwise (· < ·)) (hb : ∀ x ∈ own, page ≤ x ∧ x < page + (K : Int)) : OwnI (L ++ [own]) (page + (K : Int)) := by
 have hp := h.top
 have ef : (L ++ [own]).flatten = L.flatten ++ own := by simp
 refine ⟨fun l hm => ?_, ?_, fun x hx => ?_, ?_⟩
 ·rcases List.mem_append.1 hm with hm | hm
  ·exact h.one l hm
  ·rw [List.mem_singleton.1 hm]; omega
 ·rw [ef, List.pairwise_append]
  exact ⟨h.up, hu, fun a ha b hb' => by have := (h.bd a ha).2; have := (hb b hb').1; omega⟩
 ·rw [ef] at hx
  rcases List.mem_append.1 hx with hx | hx
  ·have := h.bd x hx; omega
  ·have := hb x hx; omega
 ·rw [List.length_append, List.length_singleton]; omega
theorem dupM_free : ∀ {l seen : List Int}, l.Nodup → (∀ x ∈ l, x ∉ seen) → dupM seen l = false
 | [], _, _, _ => rfl
 | x :: r, seen, h, hs => by
  rw [List.nodup_cons] at h
  simp only [dupM, Bool.or_eq_false_iff]
  refine ⟨by simpa using hs x (by simp), dupM_free h.2 fun y hy hm => ?_⟩
  rcases List.mem_append.1 hm with hm | hm
  ·exact hs y (List.mem_cons_of_mem _ hy) hm
  ·rw [List.mem_singleton.1 hm] at hy; exact h.1 hy
theorem OwnI.owns {L : List (List Int)} {page : Int} (h : OwnI L page) (hl : 1 ≤ L.length ∧ L.length ≤ 3) : ownsM L = 0 := by
 have hp := h.top
 have e : scan (fun (_ : Nat) l => Go.Proofs.Ytilcgnimcdkfiaa.own1 l) 0 L = none := scan_free fun _ l hm => by
  have := h.one l hm
  unfold Go.Proofs.Ytilcgnimcdkfiaa.own1
  rw [if_pos (by omega)]
  refine scan_free fun _ x hx => ?_
  have := h.bd x (List.mem_flatten.2 ⟨l, hm, hx⟩)
  rw [if_pos (inB_t.2 (by omega))]
 unfold ownsM
 rw [if_pos hl, e, dupM_free (h.up.imp fun h => Int.ne_of_lt h) (by simp)]
 rfl
theorem pol8_d {X p : PolD} {s : SrcD} {page g : Int} (K : Nat) (hp : 0 ≤ page ∧ page ≤ 1000) (hK : K ≤ 10) :
  Dr (L_m_8 (((), ((), ((), (page, (g, (([] : List Int), ((K : Int), ()))))))), ((X, (p, (s, ()))), ()))) fun o => ∃ own : List Int, o = .inl (((), ((), ((), (page + (K : Int), (g, (own, ())))))), ((X, (p, (s, ()))), ())) ∧ own.length = K ∧ own.Pairwise (· < ·) ∧ ∀ x ∈ own, page ≤ x ∧ x < page + (K : Int) := by
 refine iter_d (fun m u => ∃ own : List Int, u = (((), ((), ((), (page + (own.length : Int), (g, (own, ((m : Int), ()))))))), ((X, (p, (s, ()))), ())) ∧ own.length + m = K ∧ own.Pairwise (· < ·) ∧ ∀ x ∈ own, page ≤ x ∧ x < page + (own.length : Int)) ?_ K _ ⟨[], by simp, by simp, by simp, by simp⟩ (by rw [lots_eq]; omega)
 rintro rec m _ ⟨own, rfl, hm, hu, hb⟩ ih
 unfold l_m_8
 dsimp only
 by_cases c : 0 < m
 ·rw [if_pos (by rw [ltI_t]; omega)]
  refine Dr.guard (by simp; omega) ?_
  rw [wrap64 (by omega) (by omega), wrap64 (by omega) (by omega)]
  refine ih (m - 1) _ (by omega) ⟨own ++ [page + (own.length : Int)], ?_, by simp; omega, ?_, fun x hx => ?_⟩
  ·rw [List.length_append, List.length_singleton, show page + (own.length : Int) + 1 = page + ((own.length + 1 : Nat) : Int) by omega, show ((m : Int) - 1) = ((m - 1 : Nat) : Int) by omega]
  ·rw [List.pairwise_append]
   exact ⟨hu, by simp, fun a ha b hb' => by rw [List.mem_singleton.1 hb']; exact (hb a ha).2⟩
  ·rw [List.length_append, List.length_singleton]
   rcases List.mem_append.1 hx with hx | hx
   ·have := hb x hx; omega
   ·rw [List.mem_singleton.1 hx]; omega
 ·obtain rfl : m = 0 := by omega
  rw [if_neg (by rw [ltI_t]; omega)]
  have : own.length = K := by omega
  subst this
  exact Dr.ret ⟨own, rfl, rfl, hu, hb⟩
theorem pol4_d {X : PolD} {s : SrcD} {k page : Int} (G : Nat) (hG : 1 ≤ G ∧ G ≤ 3) (hp : 0 ≤ page ∧ page ≤ 2) (hs : Sr s k) (hk : k ≤ 1000000) :
  Dr (L_m_4 (((), ((), ((), (page, ((G : Int), ()))))), ((X, ((([] : List (List Int)), (([] : List LaneD), (([] : List TwoD), (([] : List TwoD), ())))), (s, ()))), ()))) fun o => ∃ (L : List (List Int)) (page' : Int) (s' : SrcD),
   o = .inl (((), ((), ((), (page', ())))), ((X, ((L, (([] : List LaneD), (([] : List TwoD), (([] : List TwoD), ())))), (s', ()))), ())) ∧ Sr s' (k + 3) ∧ L.length = G ∧ OwnI L page' := by
 have hk0 := hs.pos
 refine iter_d (fun m u => ∃ (L : List (List Int)) (page' : Int) (s' : SrcD), u = (((), ((), ((), (page', ((m : Int), ()))))), ((X, ((L, (([] : List LaneD), (([] : List TwoD), (([] : List TwoD), ())))), (s', ()))), ())) ∧ Sr s' (k + (G : Int) - (m : Int)) ∧ L.length + m = G ∧ OwnI L page') ?_ G _
  ⟨[], page, s, rfl, hs.le (by omega), by simp, ⟨by simp, by simp, by simp, by simp; omega⟩⟩ (by rw [lots_eq]; omega)
 rintro rec m _ ⟨L, pa, s', rfl, hs', hl, hI⟩ ih
 unfold l_m_4
 dsimp only
 have hpa := hI.top
 by_cases c : 0 < m
 ·rw [if_pos (by rw [ltI_t]; omega)]
  refine (next_d hs' (by omega) _).bind fun r6 h6 => ?_
  have hb := bdLt h6.2 (by omega)
  have e : IntKind.i64.wrap (1 + (r6.1.1 : Int)) = ((r6.1.1.toNat + 1 : Nat) : Int) := by rw [wrap64 (by omega) (by omega)]; omega
  rw [e]
  refine (pol8_d (r6.1.1.toNat + 1) (by omega) (by omega)).bind fun z hz => ?_
  obtain ⟨own, rfl, ho, hu, hbd⟩ := hz
  dsimp only
  refine Dr.guard (by simp; omega) ?_
  rw [wrap64 (by omega) (by omega)]
  refine ih (m - 1) _ (by omega) ⟨L ++ [own], pa + ((r6.1.1.toNat + 1 : Nat) : Int), r6.2.1, ?_, h6.1.le (by omega), by simp; omega, hI.snoc (by omega) ho hu hbd⟩
  rw [show ((m : Int) - 1) = ((m - 1 : Nat) : Int) by omega]
 ·obtain rfl : m = 0 := by omega
  rw [if_neg (by rw [ltI_t]; omega)]
  exact Dr.ret ⟨L, pa, s', rfl, hs'.le (by omega), by omega, hI⟩
theorem pol15_d {X : PolD} {L : List (List Int)} {s : SrcD} {k page : Int} (hL : ownsM L = 0) (hl : 1 ≤ L.length ∧ L.length ≤ 3) (hl2 : ∀ l ∈ L, l.length ≤ 1048576) (hp : 0 ≤ page ∧ page ≤ 100) (K : Nat) (hK : K ≤ 3) (hs : Sr s k) (hk : k ≤ 1000000) :
  Dr (L_m_15 (((), ((), ((), (page, (((L.length : Nat) : Int), ((K : Int), ())))))), ((X, ((L, (([] : List LaneD), (([] : List TwoD), (([] : List TwoD), ())))), (s, ()))), ()))) fun o => ∃ (ls : List LaneD) (s' : SrcD),
   o = .inl (((), ((), ((), (((L.length : Nat) : Int), ())))), ((X, ((L, (ls, (([] : List TwoD), (([] : List TwoD), ())))), (s', ()))), ())) ∧ Sr s' (k + 12) ∧ ls.length ≤ 3 ∧ lanesM (L, ls, [], [], ()) = none := by
 have hk0 := hs.pos
 refine iter_d (fun m u => ∃ (ls : List LaneD) (pa : Int) (s' : SrcD), u = (((), ((), ((), (pa, (((L.length : Nat) : Int), ((m : Int), ())))))), ((X, ((L, (ls, (([] : List TwoD), (([] : List TwoD), ())))), (s', ()))), ())) ∧ Sr s' (k + 4 * (3 - (m : Int))) ∧ ls.length + m ≤ 3 ∧ (0 ≤ pa ∧ pa + (m : Int) ≤ 103) ∧ lanesM (L, ls, [], [], ()) = none) ?_ K _
  ⟨[], page, s, rfl, hs.le (by omega), by simp; omega, by omega, rfl⟩ (by rw [lots_eq]; omega)
 rintro rec m _ ⟨ls, pa, s', rfl, hs', hm, hpa, hI⟩ ih
 unfold l_m_15
 dsimp only
 by_cases c : 0 < m
 ·rw [if_pos (by rw [ltI_t]; omega)]
  refine Dr.guard (by simp; omega) ?_
  refine (next_d hs' (by omega) _).bind fun r26 h26 => (next_d h26.1 (by omega) _).bind fun r27 h27 => (next_d h27.1 (by omega) _).bind fun r28 h28 => (next_d h28.1 (by omega) _).bind fun r30 h30 => ?_
  have em : ((m : Int) - 1) = ((m - 1 : Nat) : Int) := by omega
  dsimp only [List.nil_append]
  refine Dr.guard (by simp; omega) ?_
  rw [wrap64 (n := pa + 1) (by omega) (by omega), wrap64 (n := (m : Int) - 1) (by omega) (by omega)]
  generalize hx : ((r26.1.1, (r27.1.1, (pa, (IntKind.i64.wrap (5 + r28.1.1), (IntKind.i64.wrap (5 + r30.1.1), ()))))) : LaneD) = x
  have hlen : (ls ++ [x]).length = ls.length + 1 := by simp
  have skip : Dr (rec (((), ((), ((), (pa, (((L.length : Nat) : Int), ((m : Int) - 1, ())))))), ((X, ((L, (ls, (([] : List TwoD), (([] : List TwoD), ())))), (r30.2.1, ()))), ()))) fun o => ∃ (ls : List LaneD) (s' : SrcD),
    o = .inl (((), ((), ((), (((L.length : Nat) : Int), ())))), ((X, ((L, (ls, (([] : List TwoD), (([] : List TwoD), ())))), (s', ()))), ())) ∧ Sr s' (k + 12) ∧ ls.length ≤ 3 ∧ lanesM (L, ls, [], [], ()) = none :=
   ih (m - 1) _ (by omega) ⟨ls, pa, r30.2.1, by rw [em], h30.1.le (by omega), by omega, by omega, hI⟩
  refine Dr.step (specOwns_eq (L, ls ++ [x], [], [], ()) (by dsimp only; omega) hl2) (Dr.ite (fun _ => ?_) fun _ => skip)
  refine Dr.step (specLanes_eq (L, ls ++ [x], [], [], ()) (by dsimp only; omega) hl2 (by dsimp only; omega)) (Dr.ite (fun h0 => ?_) fun _ => skip)
  refine ih (m - 1) _ (by omega) ⟨ls ++ [x], pa + 1, r30.2.1, by rw [em], h30.1.le (by omega), by omega, by omega, ?_⟩
  dsimp only at h0
  rw [if_pos (by simp; omega)] at h0
  cases hM : lanesM (L, ls ++ [x], [], [], ()) with
  | none => rfl
  | some c' =>
   rw [hM] at h0
   exact absurd (by simpa using h0) (lanesM_ne hM)
 ·obtain rfl : m = 0 := by omega
  rw [if_neg (by rw [ltI_t]; omega)]
  exact Dr.ret ⟨ls, s', rfl, hs'.le (by omega), by omega, hI⟩
theorem pol23_d {X : PolD} {L : List (List Int)} {ls : List LaneD} {s : SrcD} {k : Int} (hl : 1 ≤ L.length ∧ L.length ≤ 3) (K : Nat) (hK : K ≤ 3) (hs : Sr s k) (hk : k ≤ 1000000) :
  Dr (L_m_23 (((), ((), ((), (((L.length : Nat) : Int), ((K : Int), ()))))), ((X, ((L, (ls, (([] : List TwoD), (([] : List TwoD), ())))), (s, ()))), ()))) fun o => ∃ (bs : List TwoD) (s' : SrcD),
   o = .inl (((), ((), ((), (((L.length : Nat) : Int), ())))), ((X, ((L, (ls, (bs, (([] : List TwoD), ())))), (s', ()))), ())) ∧ Sr s' (k + 6) ∧ bs.length ≤ 1 ∧ ∀ b ∈ bs, (0 ≤ b.1 ∧ b.1 < (L.length : Int)) ∧ (0 ≤ b.2.1 ∧ b.2.1 < (L.length : Int)) ∧ b.1 ≠ b.2.1 := by
 have hk0 := hs.pos
 refine iter_d (fun m u => ∃ (bs : List TwoD) (s' : SrcD), u = (((), ((), ((), (((L.length : Nat) : Int), ((m : Int), ()))))), ((X, ((L, (ls, (bs, (([] : List TwoD), ())))), (s', ()))), ())) ∧ Sr s' (k + 2 * (3 - (m : Int))) ∧ m ≤ 3 ∧ bs.length ≤ 1 ∧ ∀ b ∈ bs, (0 ≤ b.1 ∧ b.1 < (L.length : Int)) ∧ (0 ≤ b.2.1 ∧ b.2.1 < (L.length : Int)) ∧ b.1 ≠ b.2.1) ?_ K _
  ⟨[], s, rfl, hs.le (by omega), hK, by simp, by simp⟩ (by rw [lots_eq]; omega)
 rintro rec m _ ⟨bs, s', rfl, hs', hm, hb1, hI⟩ ih
 unfold l_m_23
 dsimp only
 by_cases c : 0 < m
 ·rw [if_pos (by rw [ltI_t]; omega)]
  refine (next_d hs' (by omega) _).bind fun r44 h44 => (next_d h44.1 (by omega) _).bind fun r45 h45 => ?_
  have em : ((m : Int) - 1) = ((m - 1 : Nat) : Int) := by omega
  have b1 := bdLt h44.2 (by omega)
  have b2 := bdLt h45.2 (by omega)
  rw [wrap64 (n := (m : Int) - 1) (by omega) (by omega)]
  have skip : ∀ {Q}, (∀ x, (∃ (bs : List TwoD) (s' : SrcD), x = (((), ((), ((), (((L.length : Nat) : Int), (((m - 1 : Nat) : Int), ()))))), ((X, ((L, (ls, (bs, (([] : List TwoD), ())))), (s', ()))), ())) ∧ Sr s' (k + 2 * (3 - ((m - 1 : Nat) : Int))) ∧ m - 1 ≤ 3 ∧ bs.length ≤ 1 ∧ ∀ b ∈ bs, (0 ≤ b.1 ∧ b.1 < (L.length : Int)) ∧ (0 ≤ b.2.1 ∧ b.2.1 < (L.length : Int)) ∧ b.1 ≠ b.2.1) → Dr (rec x) Q) → Dr (rec (((), ((), ((), (((L.length : Nat) : Int), ((m : Int) - 1, ()))))), ((X, ((L, (ls, (bs, (([] : List TwoD), ())))), (r45.2.1, ()))), ()))) Q := fun h =>
   h _ ⟨bs, r45.2.1, by rw [em], h45.1.le (by omega), by omega, hb1, hI⟩
  refine Dr.ite (fun hne => Dr.ite (fun h0 => Dr.guard (by simp; omega) ?_) fun _ => skip fun x hx => ih (m - 1) x (by omega) hx) fun _ => skip fun x hx => ih (m - 1) x (by omega) hx
  rw [ltI_t] at h0
  have e0 : bs = [] := List.eq_nil_of_length_eq_zero (by omega)
  subst e0
  refine ih (m - 1) _ (by omega) ⟨[(r44.1.1, (r45.1.1, ()))], r45.2.1, by rw [em]; rfl, h45.1.le (by omega), by omega, by simp, fun b hb => ?_⟩
  rw [List.mem_singleton.1 hb]
  exact ⟨b1, b2, by simpa using hne⟩
 ·obtain rfl : m = 0 := by omega
  rw [if_neg (by rw [ltI_t]; omega)]
  exact Dr.ret ⟨bs, s', rfl, hs'.le (by omega), hb1, hI⟩
end Go.Proofs.Ytilcgnimcdkfiaa
