/- Plain laws of the functions that ChangedPages reaches: marks, pages, rising lists. -/
import Derived.Test.YteddlkdbefloaaaPc
import Derived.Test.YteddlkdbefloaaaGc
namespace Go.Proofs.Yteddlkdbefloaaa
open Go Go.RowKit S Go.Proofs
set_option maxRecDepth 100000
set_option linter.unusedVariables false
set_option linter.unusedSimpArgs false

/-! marks -/
def seqFrom (k : Int) : Nat → List Int
  | 0 => []
  | n + 1 => k :: seqFrom (k + 1) n

theorem seqFrom_len : ∀ (n : Nat) (k : Int), (seqFrom k n).length = n
  | 0, _ => rfl
  | n + 1, k => by simp [seqFrom, seqFrom_len n]

theorem set_take' {out : List Int} {i : Nat} {y : Int} (h : i < out.length) : (out.set i y).take (i + 1) = out.take i ++ [y] := by
  rw [List.take_add_one, List.take_set_of_le (Nat.le_refl _), List.getElem?_set_self h]
  rfl

theorem mark_loop (row : List Int) (k : Int) (i : Nat) (h1 : i ≤ row.length) (h3 : row.length ≤ 1048576) (hk : 0 ≤ k ∧ k ≤ 4294967296) :
    L_laws_markInt64S_2 (((), k, (i : Int), ()), (), row, ()) = some (.inl ((k + ((row.length - i : Nat) : Int), ()), (), row.take i ++ seqFrom k (row.length - i), ())) := by
  have key : ∀ (n : Nat) (row : List Int) (k : Int) (i : Nat), row.length - i < n → i ≤ row.length → row.length ≤ 1048576 → 0 ≤ k → k + ((row.length - i : Nat) : Int) ≤ 4296015872 →
      iterF l_laws_markInt64S_2 n (((), k, (i : Int), ()), (), row, ()) = some (.inl ((k + ((row.length - i : Nat) : Int), ()), (), row.take i ++ seqFrom k (row.length - i), ())) := by
    intro n
    induction n with
    | zero => intro row k i h; omega
    | succ n ih =>
      intro row k i hn h1 h3 hk hk2
      simp only [iterF]
      generalize hrec : iterF l_laws_markInt64S_2 n = rec at ih ⊢
      unfold l_laws_markInt64S_2
      simp only [ltI_eq, decide_eq_true_eq]
      by_cases hlt : i < row.length
      · have e1 : ((i : Int)).toNat = i := by omega
        have hlt' : (i : Int) < (row.length : Int) := by omega
        have hb : (0 : Int) ≤ (i : Int) ∧ (i : Int) < (row.length : Int) := by omega
        rw [if_pos hlt', if_pos hb, e1, List.getElem?_eq_getElem hlt, Option.bind_some, wrap64 (n := (i : Int) + 1) (by omega) (by omega), wrap64 (n := k + 1) (by omega) (by omega)]
        have := ih (row.set i k) (k + 1) (i + 1) (by simp; omega) (by simp; omega) (by simp; omega) (by omega) (by simp; omega)
        simp only [List.length_set] at this
        have e2 : (((i + 1 : Nat)) : Int) = (i : Int) + 1 := by omega
        rw [e2] at this
        rw [this, set_take' hlt]
        have e3 : row.length - i = (row.length - (i + 1)) + 1 := by omega
        rw [e3, seqFrom]
        have e4 : k + 1 + ((row.length - (i + 1) : Nat) : Int) = k + (((row.length - (i + 1)) + 1 : Nat) : Int) := by omega
        rw [e4]
        simp
      · have hge : ¬ ((i : Int) < (row.length : Int)) := by omega
        rw [if_neg hge]
        have e3 : row.length - i = 0 := by omega
        rw [e3, seqFrom, List.take_of_length_le (by omega)]
        simp
  exact key lots row k i (by rw [lots_eq]; omega) h1 h3 hk.1 (by omega)

theorem mark_eq (row : List Int) (k : Int) (h3 : row.length ≤ 1048576) (hk : 0 ≤ k ∧ k ≤ 4294967296) : F_laws_markInt64S (row, k, ()) = some ((k + (row.length : Int), ()), (seqFrom k row.length, ())) := by
  unfold F_laws_markInt64S
  have := mark_loop row k 0 (by omega) h3 hk
  simp only [Nat.sub_zero, List.take_zero, List.nil_append] at this
  have e : ((0 : Nat) : Int) = 0 := rfl
  rw [e] at this
  rw [this, Option.bind_some]
  simp only
  rw [if_pos (by rw [seqFrom_len]; simp)]

theorem held_loop : ∀ (n rounds : Nat) (k : Int) (pre : List Int), n < rounds → pre.length + n ≤ 1048576 → 0 ≤ k → k + (n : Int) ≤ 4296015872 →
    iterF l_laws_heldInt64S_2 rounds ((pre ++ seqFrom k n, k, (pre.length : Int), ()), (), ()) = some (.inl ((k + (n : Int), ()), (), ()))
  | n, 0, _, _, h, _, _, _ => by omega
  | 0, r + 1, k, pre, _, h, _, _ => by
    simp only [iterF]
    unfold l_laws_heldInt64S_2
    simp only [ltI_eq, decide_eq_true_eq, seqFrom, List.append_nil]
    have : ¬ ((pre.length : Int) < (pre.length : Int)) := by omega
    rw [if_neg this]
    simp
  | n + 1, r + 1, k, pre, hn, h, hk, hk2 => by
    have ih := held_loop n r (k + 1) (pre ++ [k]) (by omega) (by simp; omega) (by omega) (by omega)
    simp only [iterF]
    generalize iterF l_laws_heldInt64S_2 r = rec at ih ⊢
    unfold l_laws_heldInt64S_2
    simp only [ltI_eq, decide_eq_true_eq]
    have hlen : (pre ++ seqFrom k (n + 1)).length = pre.length + (n + 1) := by rw [List.length_append, seqFrom_len]
    have h1 : (pre.length : Int) < ((pre ++ seqFrom k (n + 1)).length : Int) := by rw [hlen]; omega
    have e1 : ((pre.length : Int)).toNat = pre.length := by omega
    have hat : (pre ++ seqFrom k (n + 1))[pre.length]? = some k := by
      rw [List.getElem?_append_right (Nat.le_refl _), Nat.sub_self]; rfl
    have h0 : (0 : Int) ≤ (pre.length : Int) := by omega
    rw [if_pos h1, if_pos h0, e1, hat, Option.bind_some, if_neg (by simp), wrap64 (n := k + 1) (by omega) (by omega), wrap64 (n := (pre.length : Int) + 1) (by omega) (by omega)]
    have e2 : pre ++ seqFrom k (n + 1) = (pre ++ [k]) ++ seqFrom (k + 1) n := by simp [seqFrom]
    have e3 : ((pre.length : Int) + 1) = ((pre ++ [k]).length : Int) := by simp
    rw [e2, e3, ih]
    have e4 : k + 1 + (n : Int) = k + ((n + 1 : Nat) : Int) := by omega
    rw [e4]

theorem held_eq (n : Nat) (k : Int) (h : n ≤ 1048576) (hk : 0 ≤ k ∧ k ≤ 4294967296) : F_laws_heldInt64S (seqFrom k n, k, ()) = some ((k + (n : Int), ()), ()) := by
  unfold F_laws_heldInt64S
  have : L_laws_heldInt64S_2 ((seqFrom k n, k, 0, ()), (), ()) = some (.inl ((k + (n : Int), ()), (), ())) := held_loop n lots k [] (by rw [lots_eq]; omega) (by simpa using h) hk.1 (by omega)
  rw [this]
  simp

/-! pages -/
def chA (a b : List Int) (i : Nat) : Bool := !(a[i]? == b[i]?)
def anyA (a b : List Int) (i : Nat) : Nat → Bool
  | 0 => false
  | j + 1 => chA a b i || anyA a b (i + 1) j
def rise (L : List Int) (v : Int) : List Int := if v ∈ L then L else L ++ [v]
def chgFrom (a b : List Int) (i : Nat) : Nat → List Int → List Int
  | 0, L => L
  | k + 1, L => chgFrom a b (i + 1) k (if chA a b i then rise L ((i / 8 : Nat) : Int) else L)
def pgsFrom (a b : List Int) (p : Nat) : Nat → List Int
  | 0 => []
  | k + 1 => (if anyA a b (8 * p) 8 then [(p : Int)] else []) ++ pgsFrom a b (p + 1) k

theorem not_mem_lt {L : List Int} {v : Int} (h : ∀ y ∈ L, y < v) : v ∉ L := fun hm => by have := h v hm; omega

theorem chg_page (a b L : List Int) (p r : Nat) (hL : ∀ y ∈ L, y < (p : Int)) : ∀ (j i : Nat) (c : Bool), i + j = 8 * p + 8 → 8 * p ≤ i →
    chgFrom a b i (j + r) (L ++ (if c then [(p : Int)] else [])) = chgFrom a b (8 * p + 8) r (L ++ (if (c || anyA a b i j) then [(p : Int)] else []))
  | 0, i, c, h1, h2 => by
    have : i = 8 * p + 8 := by omega
    subst this
    simp [anyA]
  | j + 1, i, c, h1, h2 => by
    have e : j + 1 + r = (j + r) + 1 := by omega
    have ed : i / 8 = p := by omega
    rw [e]
    simp only [chgFrom, ed]
    have := chg_page a b L p r hL j (i + 1) (c || chA a b i) (by omega) (by omega)
    rw [show (c || anyA a b i (j + 1)) = ((c || chA a b i) || anyA a b (i + 1) j) by simp [anyA, Bool.or_assoc], ← this]
    congr 1
    cases c <;> cases chA a b i <;> simp [rise, not_mem_lt hL]

theorem chg_pages (a b : List Int) : ∀ (k p : Nat) (L : List Int), (∀ y ∈ L, y < (p : Int)) → chgFrom a b (8 * p) (8 * k) L = L ++ pgsFrom a b p k
  | 0, p, L, _ => by simp [chgFrom, pgsFrom]
  | k + 1, p, L, hL => by
    have h := chg_page a b L p (8 * k) hL 8 (8 * p) false (by omega) (by omega)
    simp only [Bool.false_or, Bool.false_eq_true, if_false, List.append_nil] at h
    rw [show 8 * (k + 1) = 8 + 8 * k by omega, h, show 8 * p + 8 = 8 * (p + 1) by omega, chg_pages a b k (p + 1)]
    · simp only [pgsFrom, List.append_assoc]
    · intro y hy
      rcases List.mem_append.1 hy with hy | hy
      · have := hL y hy; omega
      · split at hy
        · simp at hy; omega
        · simp at hy

theorem any_take (a b : List Int) : ∀ (j i : Nat), i + j ≤ a.length → i + j ≤ b.length → ((a.drop i).take j = (b.drop i).take j ↔ anyA a b i j = false)
  | 0, i, _, _ => by simp [anyA]
  | j + 1, i, h1, h2 => by
    have ha : i < a.length := by omega
    have hb : i < b.length := by omega
    rw [List.drop_eq_getElem_cons ha, List.drop_eq_getElem_cons hb, List.take_succ_cons, List.take_succ_cons]
    simp only [List.cons.injEq, anyA, chA, List.getElem?_eq_getElem ha, List.getElem?_eq_getElem hb, Bool.or_eq_false_iff]
    rw [any_take a b j (i + 1) (by omega) (by omega)]
    simp

/-! the specification's rising list -/
theorem rise_loop (v : Int) (pre suf : List Int) (hp : ∀ y ∈ pre, y < v) (hs : suf = [] ∨ ∃ z t, suf = z :: t ∧ ¬ z < v) (hl : (pre ++ suf).length ≤ 1048576) : ∀ (n i : Nat), pre.length - i < n → i ≤ pre.length →
    iterF l_spec_l1Rise_2 n ((pre ++ suf, v, (i : Int), ()), (), ()) = some (.inl ((pre ++ suf, v, (pre.length : Int), ()), (), ()))
  | 0, i, h, _ => by omega
  | n + 1, i, h, hi => by
    have ih := rise_loop v pre suf hp hs hl n (i + 1)
    simp only [iterF]
    generalize iterF l_spec_l1Rise_2 n = rec at ih ⊢
    unfold l_spec_l1Rise_2
    simp only [ltI_eq, decide_eq_true_eq]
    have e1 : ((i : Int)).toNat = i := by omega
    have h0 : (0 : Int) ≤ (i : Int) := by omega
    by_cases hlt : i < pre.length
    · have hb : (i : Int) < ((pre ++ suf).length : Int) := by rw [List.length_append]; omega
      have hg : (pre ++ suf)[i]? = some pre[i] := by rw [List.getElem?_append_left hlt, List.getElem?_eq_getElem hlt]
      rw [if_pos hb, if_pos h0, e1, hg, Option.bind_some, if_pos (hp _ (List.getElem_mem hlt)), wrap64 (n := (i : Int) + 1) (by omega) (by rw [List.length_append] at hl; omega)]
      have := ih (by omega) (by omega)
      rw [show ((i + 1 : Nat) : Int) = (i : Int) + 1 by omega] at this
      exact this
    · have : i = pre.length := by omega
      subst this
      rcases hs with rfl | ⟨z, t, rfl, hz⟩
      · have hb : ¬ (pre.length : Int) < ((pre ++ []).length : Int) := by simp
        rw [if_neg hb]
      · have hb : (pre.length : Int) < ((pre ++ z :: t).length : Int) := by simp; omega
        have hg : (pre ++ z :: t)[pre.length]? = some z := by rw [List.getElem?_append_right (Nat.le_refl _), Nat.sub_self]; rfl
        rw [if_pos hb, if_pos h0, e1, hg, Option.bind_some, if_neg hz]

def Rises (L : List Int) (v : Int) : Prop := (∀ y ∈ L, y < v) ∨ ∃ L', L = L' ++ [v] ∧ ∀ y ∈ L', y < v

theorem l1Rise_eq (L : List Int) (v : Int) (h : Rises L v) (hl : L.length ≤ 1000) : F_spec_l1Rise (L, v, ()) = some ((rise L v, ()), ()) := by
  unfold F_spec_l1Rise
  rcases h with h | ⟨L', rfl, h⟩
  · have hloop : L_spec_l1Rise_2 ((L, v, 0, ()), (), ()) = some (.inl ((L, v, (L.length : Int), ()), (), ())) := by
      have := rise_loop v L [] h (.inl rfl) (by simpa using (by omega : L.length ≤ 1048576)) lots 0 (by rw [lots_eq]; omega) (by omega)
      show iterF l_spec_l1Rise_2 lots ((L, v, 0, ()), (), ()) = _
      simpa using this
    rw [hloop, Option.bind_some]
    simp only [ltI_eq, decide_eq_true_eq]
    have hb : ¬ (L.length : Int) < (L.length : Int) := by omega
    have c1 : (0 : Int) ≤ 0 ∧ (0 : Int) ≤ (L.length : Int) ∧ (L.length : Int) ≤ (L.length : Int) := by omega
    have c2 : (0 : Int) ≤ (L.length : Int) ∧ (L.length : Int) ≤ (L.length : Int) ∧ (L.length : Int) ≤ (L.length : Int) := by omega
    rw [if_neg hb, if_pos c1]
    have e1 : (L.drop (0 : Int).toNat).take ((L.length : Int).toNat - (0 : Int).toNat) = L := by simp
    rw [e1, if_pos (by simp; omega), if_pos (by simp; omega), if_pos c2]
    have e2 : (L.drop (L.length : Int).toNat).take ((L.length : Int).toNat - (L.length : Int).toNat) = [] := by simp
    rw [e2, if_pos (by simp; omega)]
    simp [rise, not_mem_lt h]
  · have hloop : L_spec_l1Rise_2 ((L' ++ [v], v, 0, ()), (), ()) = some (.inl ((L' ++ [v], v, (L'.length : Int), ()), (), ())) :=
      rise_loop v L' [v] h (.inr ⟨v, [], rfl, by omega⟩) (by omega) lots 0 (by rw [lots_eq]; simp at hl; omega) (by omega)
    rw [hloop, Option.bind_some]
    simp only [ltI_eq, decide_eq_true_eq]
    have hb : (L'.length : Int) < ((L' ++ [v]).length : Int) := by simp; omega
    have h0 : (0 : Int) ≤ (L'.length : Int) := by omega
    have e1 : ((L'.length : Int)).toNat = L'.length := by omega
    rw [if_pos hb, if_pos h0, e1]
    have hg : (L' ++ [v])[L'.length]? = some v := by rw [List.getElem?_append_right (Nat.le_refl _), Nat.sub_self]; rfl
    rw [hg, Option.bind_some, if_pos (by simp)]
    simp [rise]

theorem rise_next {L : List Int} {i : Nat} (h : Rises L ((i / 8 : Nat) : Int)) : Rises L (((i + 1) / 8 : Nat) : Int) ∧ Rises (rise L ((i / 8 : Nat) : Int)) (((i + 1) / 8 : Nat) : Int) := by
  have up : ∀ {M : List Int}, (∀ y ∈ M, y < ((i / 8 : Nat) : Int)) → ∀ y ∈ M, y < (((i + 1) / 8 : Nat) : Int) := fun hM y hy => by have := hM y hy; omega
  have snoc : ∀ {M : List Int}, (∀ y ∈ M, y < ((i / 8 : Nat) : Int)) → Rises (M ++ [((i / 8 : Nat) : Int)]) (((i + 1) / 8 : Nat) : Int) := by
    intro M hM
    by_cases e : (i + 1) / 8 = i / 8
    · rw [e]; exact .inr ⟨M, rfl, hM⟩
    · refine .inl fun y hy => ?_
      rcases List.mem_append.1 hy with hy | hy
      · exact up hM y hy
      · simp at hy; omega
  rcases h with h | ⟨L', rfl, h⟩
  · exact ⟨.inl (up h), by rw [rise, if_neg (not_mem_lt h)]; exact snoc h⟩
  · exact ⟨snoc h, by rw [rise, if_pos (by simp)]; exact snoc h⟩

theorem rise_len (L : List Int) (v : Int) : (rise L v).length ≤ L.length + 1 := by
  unfold rise; split <;> simp

theorem specPages_loop (a b : List Int) (hab : a.length = b.length) (hl : a.length ≤ 192) : ∀ (n i : Nat) (L : List Int), a.length - i < n → i ≤ a.length → L.length ≤ i → Rises L ((i / 8 : Nat) : Int) →
    iterF l_spec_ChangedPages_11 n ((a, b, (), (), (i : Int), ()), ((0, [], ()), (0, L, ()), ()), ()) = some (.inl (((), (), ()), ((0, [], ()), (0, chgFrom a b i (a.length - i) L, ()), ()), ()))
  | 0, i, L, h, _, _, _ => by omega
  | n + 1, i, L, h, hi, hL, hR => by
    have ih := specPages_loop a b hab hl n (i + 1)
    simp only [iterF]
    generalize iterF l_spec_ChangedPages_11 n = rec at ih ⊢
    unfold l_spec_ChangedPages_11
    simp only [ltI_eq, decide_eq_true_eq]
    have e1 : ((i : Int)).toNat = i := by omega
    have h0 : (0 : Int) ≤ (i : Int) := by omega
    by_cases hlt : i < a.length
    · have hb : (i : Int) < (a.length : Int) := by omega
      have hlb : i < b.length := by omega
      have ek : a.length - i = (a.length - (i + 1)) + 1 := by omega
      have en : ((i + 1 : Nat) : Int) = (i : Int) + 1 := by omega
      rw [if_pos hb, if_pos h0, e1, List.getElem?_eq_getElem hlt, Option.bind_some, if_pos h0, List.getElem?_eq_getElem hlb, Option.bind_some, wrap64 (n := (i : Int) + 1) (by omega) (by omega), ek, chgFrom]
      have hc : chA a b i = !(a[i] == b[i]) := by simp [chA, List.getElem?_eq_getElem hlt, List.getElem?_eq_getElem hlb]
      have hd : (i : Int).tdiv 8 = ((i / 8 : Nat) : Int) := rfl
      by_cases e : a[i] = b[i]
      · rw [if_neg (by simp; exact e)]
        have := ih L (by omega) (by omega) (by omega) (rise_next hR).1
        rw [en] at this
        rw [this, hc]
        simp [e]
      · rw [if_pos (by simp; exact e), hd, wrap64 (n := ((i / 8 : Nat) : Int)) (by omega) (by omega), l1Rise_eq L _ hR (by omega), Option.bind_some]
        have := ih (rise L ((i / 8 : Nat) : Int)) (by omega) (by omega) (by have := rise_len L ((i / 8 : Nat) : Int); omega) (rise_next hR).2
        rw [en] at this
        rw [this, hc]
        simp [e]
    · have hb : ¬ (i : Int) < (a.length : Int) := by omega
      have ek : a.length - i = 0 := by omega
      rw [if_neg hb, ek, chgFrom]

/-! the program's pages -/
theorem pageOf_eq (m : List Int) (p : Nat) (h : 8 * p + 8 ≤ m.length) (h2 : m.length ≤ 192) : F_impl_pageOf (m, (p : Int), ()) = some (((m.drop (8 * p)).take 8, ()), ()) := by
  unfold F_impl_pageOf F_slices_Clone_int64
  simp only
  rw [wrap64 (n := (p : Int) * 8) (by omega) (by omega), wrap64 (n := (p : Int) + 1) (by omega) (by omega), wrap64 (n := ((p : Int) + 1) * 8) (by omega) (by omega)]
  rw [if_pos ⟨by omega, by omega, by omega⟩]
  have e1 : ((p : Int) * 8).toNat = 8 * p := by omega
  have e2 : (((p : Int) + 1) * 8).toNat - 8 * p = 8 := by omega
  rw [e1, e2, if_pos (by simp; omega), Option.bind_some]
  simp

theorem implPages_loop (a b : List Int) (hab : a.length = b.length) (hl : a.length ≤ 192) (N : Nat) (hN : 8 * N ≤ a.length) : ∀ (n p : Nat) (out : List Int), N - p < n → p ≤ N → out.length ≤ p →
    iterF l_impl_ChangedPages_8 n ((a, b, (), out, (N : Int), (p : Int), ()), ((0, [], ()), ()), ()) = some (.inl (((), out ++ pgsFrom a b p (N - p), ()), ((0, [], ()), ()), ()))
  | 0, p, out, h, _, _ => by omega
  | n + 1, p, out, h, hp, ho => by
    have ih := implPages_loop a b hab hl N hN n (p + 1)
    simp only [iterF]
    generalize iterF l_impl_ChangedPages_8 n = rec at ih ⊢
    unfold l_impl_ChangedPages_8
    simp only [ltI_eq, decide_eq_true_eq]
    by_cases hlt : p < N
    · have hb : (p : Int) < (N : Int) := by omega
      have ek : N - p = (N - (p + 1)) + 1 := by omega
      have en : ((p + 1 : Nat) : Int) = (p : Int) + 1 := by omega
      have hla : ((a.drop (8 * p)).take 8).length ≤ maxLen := by rw [maxLen_eq]; simp; omega
      rw [if_pos hb, pageOf_eq a p (by omega) hl, Option.bind_some, pageOf_eq b p (by omega) (by omega), Option.bind_some, implSame_eq ((a.drop (8 * p)).take 8, (b.drop (8 * p)).take 8, ()) hla, Option.bind_some, wrap64 (n := (p : Int) + 1) (by omega) (by omega), ek, pgsFrom]
      have hany := any_take a b 8 (8 * p) (by omega) (by omega)
      cases e : anyA a b (8 * p) 8 with
      | false =>
        have e2 := hany.2 e
        have := ih out (by omega) (by omega) (by omega)
        rw [en] at this
        rw [if_neg (by simp [e2]), this]
        simp
      | true =>
        have e2 : ¬ (a.drop (8 * p)).take 8 = (b.drop (8 * p)).take 8 := fun h => by rw [hany.1 h] at e; cases e
        have := ih (out ++ [(p : Int)]) (by omega) (by omega) (by simp; omega)
        rw [en] at this
        rw [if_pos (by simp [e2]), if_pos (by simp; omega), this]
        simp
    · have hb : ¬ (p : Int) < (N : Int) := by omega
      have ek : N - p = 0 := by omega
      rw [if_neg hb, ek, pgsFrom, List.append_nil]

theorem firstOf_eq (x y : Int) : F_impl_firstOf ([x, y], ()) = some ((if x ≠ 0 then x else y, ()), ()) := by
  have key : L_impl_firstOf_2 (([x, y], 2, 0, ()), (), ()) = some (if x ≠ 0 then .inr (.inl ((x, ()), (), ())) else if y ≠ 0 then .inr (.inl ((y, ()), (), ())) else .inl ((), (), ())) := by
    have e : lots = (18446744073709551613 + 1) + 1 + 1 := rfl
    show iterF l_impl_firstOf_2 lots _ = _
    rw [e]
    generalize 18446744073709551613 = n
    have w1 : IntKind.i64.wrap ((0 : Int) + 1) = 1 := wrap64 (by omega) (by omega)
    have w2 : IntKind.i64.wrap ((1 : Int) + 1) = 2 := wrap64 (by omega) (by omega)
    have s3 : iterF l_impl_firstOf_2 (n + 1) (([x, y], 2, 2, ()), (), ()) = some (.inl ((), (), ())) := by
      simp only [iterF]
      generalize iterF l_impl_firstOf_2 n = rec
      unfold l_impl_firstOf_2
      simp [ltI_eq]
    have s2 : iterF l_impl_firstOf_2 (n + 1 + 1) (([x, y], 2, 1, ()), (), ()) = some (if y ≠ 0 then .inr (.inl ((y, ()), (), ())) else .inl ((), (), ())) := by
      rw [show iterF l_impl_firstOf_2 (n + 1 + 1) (([x, y], 2, 1, ()), (), ()) = l_impl_firstOf_2 (iterF l_impl_firstOf_2 (n + 1)) (([x, y], 2, 1, ()), (), ()) from rfl]
      generalize iterF l_impl_firstOf_2 (n + 1) = rec at s3 ⊢
      unfold l_impl_firstOf_2
      simp only [ltI_eq]
      rw [if_pos (by decide), if_pos (by decide)]
      show (some y).bind _ = _
      rw [Option.bind_some, w2, s3]
      by_cases h : y = 0
      · subst h; simp
      · rw [if_pos (by simp; exact h)]; simp [h]
    rw [show iterF l_impl_firstOf_2 (n + 1 + 1 + 1) (([x, y], 2, 0, ()), (), ()) = l_impl_firstOf_2 (iterF l_impl_firstOf_2 (n + 1 + 1)) (([x, y], 2, 0, ()), (), ()) from rfl]
    generalize iterF l_impl_firstOf_2 (n + 1 + 1) = rec at s2 ⊢
    unfold l_impl_firstOf_2
    simp only [ltI_eq]
    rw [if_pos (by decide), if_pos (by decide)]
    show (some x).bind _ = _
    rw [Option.bind_some, w1, s2]
    by_cases h : x = 0
    · subst h; simp
    · rw [if_pos (by simp; exact h)]; simp [h]
  unfold F_impl_firstOf
  simp only
  show (L_impl_firstOf_2 (([x, y], 2, 0, ()), (), ())).bind _ = _
  rw [key, Option.bind_some]
  by_cases h : x = 0
  · subst h
    by_cases h2 : y = 0
    · subst h2; simp
    · simp [h2]
  · simp [h]

/-- What both answer. -/
def changed (a b : List Int) : Int × List Int × Unit :=
  if memFault a ≠ 0 then (memFault a, [], ()) else if memFault b ≠ 0 then (memFault b, [], ()) else if a.length ≠ b.length then (1, [], ()) else (0, pgsFrom a b 0 (a.length / 8), ())

theorem memFault_zero {m : List Int} (h : memFault m = 0) : m.length % 8 = 0 ∧ 8 ≤ m.length ∧ m.length ≤ 192 := by
  unfold memFault at h
  split at h
  · assumption
  · omega

theorem specChanged_eq (a b : List Int) (ha : a.length ≤ maxLen) (hb : b.length ≤ maxLen) : F_spec_ChangedPages (a, b, ()) = some ((changed a b, ()), ()) := by
  unfold F_spec_ChangedPages changed
  rw [specFault_eq a ha, Option.bind_some]
  simp only [bne_iff_ne]
  by_cases h1 : memFault a = 0
  · have n1 : ¬ memFault a ≠ 0 := by simpa using h1
    simp only [if_neg n1]
    rw [specFault_eq b hb, Option.bind_some]
    by_cases h2 : memFault b = 0
    · have n2 : ¬ memFault b ≠ 0 := by simpa using h2
      simp only [if_neg n2]
      by_cases h3 : a.length = b.length
      · have h3' : ¬ ((a.length : Int) ≠ (b.length : Int)) := by omega
        have n3 : ¬ (a.length ≠ b.length) := by omega
        have hm := memFault_zero h1
        simp only [if_neg h3', if_neg n3]
        have := specPages_loop a b h3 hm.2.2 lots 0 [] (by rw [lots_eq]; omega) (by omega) (by simp) (.inl (by simp))
        have e8 : a.length - 0 = 8 * (a.length / 8) := by omega
        rw [e8, show (0 : Nat) = 8 * 0 from rfl, chg_pages a b (a.length / 8) 0 [] (by simp)] at this
        have this : L_spec_ChangedPages_11 ((a, b, (), (), 0, ()), ((0, [], ()), (0, [], ()), ()), ()) = some (.inl (((), (), ()), ((0, [], ()), (0, [] ++ pgsFrom a b 0 (a.length / 8), ()), ()), ())) := this
        rw [this]
        simp
      · have h3' : ((a.length : Int) ≠ (b.length : Int)) := by omega
        simp only [if_pos h3', if_pos h3]
    · simp only [if_pos h2]
  · simp only [if_pos h1]

theorem implChanged_eq (a b : List Int) (ha : a.length ≤ maxLen) (hb : b.length ≤ maxLen) : F_impl_ChangedPages (a, b, ()) = some ((changed a b, ()), ()) := by
  unfold F_impl_ChangedPages changed
  rw [implFault_eq a ha, Option.bind_some, implFault_eq b hb, Option.bind_some, firstOf_eq, Option.bind_some]
  simp only [bne_iff_ne]
  by_cases h1 : memFault a = 0
  · have n1 : ¬ memFault a ≠ 0 := by simpa using h1
    simp only [if_neg n1]
    by_cases h2 : memFault b = 0
    · have n2 : ¬ memFault b ≠ 0 := by simpa using h2
      simp only [if_neg n2]
      by_cases h3 : a.length = b.length
      · have h3' : ¬ ((a.length : Int) ≠ (b.length : Int)) := by omega
        have n3 : ¬ (a.length ≠ b.length) := by omega
        have hm := memFault_zero h1
        simp only [if_neg h3', if_neg n3]
        have := implPages_loop a b h3 hm.2.2 (a.length / 8) (by omega) lots 0 [] (by rw [lots_eq]; omega) (by omega) (by simp)
        have hd : (a.length : Int).tdiv 8 = ((a.length / 8 : Nat) : Int) := rfl
        rw [hd, wrap64 (n := ((a.length / 8 : Nat) : Int)) (by omega) (by omega)]
        have this : L_impl_ChangedPages_8 ((a, b, (), [], ((a.length / 8 : Nat) : Int), 0, ()), ((0, [], ()), ()), ()) = some (.inl (((), [] ++ pgsFrom a b 0 (a.length / 8 - 0), ()), ((0, [], ()), ()), ())) := this
        rw [this]
        simp
      · have h3' : ((a.length : Int) ≠ (b.length : Int)) := by omega
        simp only [if_pos h3', if_pos h3]
    · simp only [if_pos h2]
  · simp only [if_pos h1]

theorem pgs_len (a b : List Int) : ∀ (k p : Nat), (pgsFrom a b p k).length ≤ k
  | 0, _ => by simp [pgsFrom]
  | k + 1, p => by
    have := pgs_len a b k (p + 1)
    rw [pgsFrom]
    split <;> simp <;> omega

theorem changed_len (a b : List Int) : (changed a b).2.1.length ≤ 1048576 := by
  unfold changed
  by_cases h1 : memFault a = 0
  · by_cases h2 : memFault b = 0
    · by_cases h3 : a.length = b.length
      · have hm := memFault_zero h1
        have hp := pgs_len a b (a.length / 8) 0
        simp only [h1, h2, h3, ne_eq, not_true, if_false]
        rw [← h3]
        omega
      · simp [h1, h2, h3]
    · simp [h1, h2]
  · simp [h1]

theorem eqInts_eq (r : Int × List Int × Unit) (h : r.2.1.length ≤ maxLen) : F_laws_eqIntsResult (r, r, ()) = some ((true, ()), ()) := by
  unfold F_laws_eqIntsResult
  rw [if_neg (by simp), eqInt64S_eq r.2.1 h, Option.bind_some, if_neg (by simp)]

theorem markInts_eq (r : Int × List Int × Unit) (k : Int) (h3 : r.2.1.length ≤ 1048576) (hk : 0 ≤ k ∧ k ≤ 4294967296) :
    F_laws_markIntsResult ((r.1, r.2.1, ()), k, ()) = some ((k + (r.2.1.length : Int), ()), ((seqFrom k r.2.1.length, ()), ())) := by
  unfold F_laws_markIntsResult
  rw [mark_eq r.2.1 k h3 hk, Option.bind_some]
  have hc : ((r.2.1.length == (seqFrom k r.2.1.length).length && true) && true) = true := by simp [seqFrom_len]
  rw [if_pos hc, if_pos hc]

theorem heldInts_eq (e : Int) (n : Nat) (k : Int) (h : n ≤ 1048576) (hk : 0 ≤ k ∧ k ≤ 4294967296) :
    F_laws_heldIntsResult ((e, seqFrom k n, ()), k, ()) = some ((k + (n : Int), ()), ()) := by
  unfold F_laws_heldIntsResult
  rw [held_eq n k h hk, Option.bind_some]
  simp only [ltI_eq, decide_eq_true_eq]
  rw [if_neg (by omega)]

theorem changed_law (a b : List Int) : F_laws_FnExactChangedPages (a, b, ()) = some ((true, ()), ()) := by
  unfold F_laws_FnExactChangedPages
  simp only [ltI_eq, decide_eq_true_eq]
  by_cases hb : (1048576 : Int) < ((a.length : Nat) : Int)
  · rw [if_pos hb]
  rw [if_neg hb]
  by_cases hb2 : (1048576 : Int) < ((b.length : Nat) : Int)
  · rw [if_pos hb2]
  rw [if_neg hb2]
  have ha : a.length ≤ 1048576 := by omega
  have hbb : b.length ≤ 1048576 := by omega
  have hr := changed_len a b
  have ta := toInt64S_eq a (le8 ha)
  have tb := toInt64S_eq b (le8 hbb)
  have he := eqInts_eq (changed a b) (leM hr)
  have hi := implChanged_eq a b (leM ha) (leM hbb)
  rw [ta, Option.bind_some, tb, Option.bind_some, specChanged_eq a b (leM ha) (leM hbb), Option.bind_some, Option.bind_some, Option.bind_some]
  rw [hi, Option.bind_some]
  show (F_laws_eqIntsResult (changed a b, changed a b, ())).bind _ = _
  rw [he, Option.bind_some, if_neg (by simp), Option.bind_some]
  rw [eqInt64S_eq a (leM ha), Option.bind_some, if_neg (by simp), Option.bind_some, eqInt64S_eq b (leM hbb), Option.bind_some, if_neg (by simp)]
  rw [mark_eq a 1 ha (by omega), Option.bind_some, if_pos (by simp [seqFrom_len]), mark_eq b (1 + (a.length : Int)) hbb (by omega), Option.bind_some, if_pos (by simp [seqFrom_len])]
  have n1 : decide ((1 + (a.length : Int) + (b.length : Int)) < 0) = false := by simp; omega
  rw [if_pos n1, Option.bind_some, if_neg (by simp)]
  show (F_laws_markIntsResult (((changed a b).1, (changed a b).2.1, ()), 1, ())).bind _ = _
  rw [markInts_eq (changed a b) 1 hr (by omega), Option.bind_some]
  have n2 : ((((changed a b).2.1.length == (seqFrom 1 (changed a b).2.1.length).length && true) && true) && true) = true := by simp [seqFrom_len]
  rw [if_pos n2, heldInts_eq _ _ 1 hr (by omega), Option.bind_some]
  have n3 : ¬ (1 + ((changed a b).2.1.length : Int) < 0) := by omega
  rw [if_neg n3, if_neg (by simp), Option.bind_some, Option.bind_some]
  show (F_impl_ChangedPages (a, b, ())).bind _ = _
  rw [hi, Option.bind_some]
  show (F_laws_eqIntsResult (changed a b, changed a b, ())).bind _ = _
  rw [he, Option.bind_some, if_neg (by simp), Option.bind_some, if_neg n3, if_neg (by simp)]

theorem changedPages_F : ∀ x, inRP P_laws_FnExactChangedPages x → F_laws_FnExactChangedPages x = some ((true, ()), ()) := by
  rintro ⟨a, b, _⟩ _
  exact changed_law a b

end Go.Proofs.Yteddlkdbefloaaa
