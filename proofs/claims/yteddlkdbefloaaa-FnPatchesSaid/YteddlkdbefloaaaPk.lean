/- Plain laws of draws: numbers, words, instructions, images out of bytes: they are always told. -/
import Derived.Test.YteddlkdbefloaaaPj
import Derived.Test.YteddlkdbefloaaaGg
namespace Go.Proofs.Yteddlkdbefloaaa
open Go Go.RowKit S Go.Proofs
set_option maxRecDepth 100000
set_option linter.unusedVariables false
set_option linter.unusedSimpArgs false

/-- Bytes. -/
def Byt (c : List Int) : Prop := (∀ b ∈ c, 0 ≤ b ∧ b ≤ 255) ∧ c.length ≤ 1048577

theorem next_ok {c : List Int} (hc : Byt c) (a n : Int) (ha : 0 ≤ a ∧ a ≤ 1099511627776) :
    ∃ v : Int, F_spec_l1Next ((c, a, ()), n, ()) = some ((v, ()), ((c, a + 1, ()), ())) ∧ 0 ≤ v ∧ (v < n ∨ v = 0) := by
  unfold F_spec_l1Next
  dsimp only
  rw [wrap64 (n := a + 1) (by omega) (by omega), wrap64 (n := a + 1 - 1) (by omega) (by omega)]
  have e1 : a + 1 - 1 = a := by omega
  rw [e1]
  by_cases h1 : n < 1
  · exact ⟨0, by rw [if_pos (ltI_t.2 h1)], Int.le_refl 0, .inr rfl⟩
  rw [if_neg (by rw [ltI_t]; exact h1)]
  have hn : ¬ n = 0 := by omega
  by_cases h2 : c.length = 0
  · rw [if_pos (by rw [h2]; rfl), if_neg hn, wrap64 (n := a * 7) (by omega) (by omega)]
    exact ⟨(a * 7).tmod n, rfl, Int.tmod_nonneg _ (by omega), .inl (Int.tmod_lt_of_pos _ (by omega))⟩
  have h3 : ¬ ((c.length : Nat) : Int) = 0 := by omega
  have p1 : 0 ≤ a.tmod ((c.length : Nat) : Int) := Int.tmod_nonneg _ ha.1
  have p2 : a.tmod ((c.length : Nat) : Int) < ((c.length : Nat) : Int) := Int.tmod_lt_of_pos _ (by omega)
  have p3 : 0 ≤ (a + 1).tmod ((c.length : Nat) : Int) := Int.tmod_nonneg _ (by omega)
  have p4 : (a + 1).tmod ((c.length : Nat) : Int) < ((c.length : Nat) : Int) := Int.tmod_lt_of_pos _ (by omega)
  have p5 : 0 ≤ a.tdiv ((c.length : Nat) : Int) := Int.tdiv_nonneg ha.1 (by omega)
  have p6 : a.tdiv ((c.length : Nat) : Int) ≤ a := Int.tdiv_le_self _ ha.1
  obtain ⟨y, hy⟩ : ∃ y, c[(a.tmod ((c.length : Nat) : Int)).toNat]? = some y := ⟨_, List.getElem?_eq_getElem (by omega)⟩
  obtain ⟨z, hz⟩ : ∃ z, c[((a + 1).tmod ((c.length : Nat) : Int)).toNat]? = some z := ⟨_, List.getElem?_eq_getElem (by omega)⟩
  have by_ := hc.1 y (List.mem_of_getElem? hy)
  have bz := hc.1 z (List.mem_of_getElem? hz)
  rw [if_neg (by simpa using h3), if_neg h3, if_pos p1, hy, Option.bind_some]
  generalize a.tdiv ((c.length : Nat) : Int) = d at p5 p6 ⊢
  rw [wrap64 (n := y) (by omega) (by omega), wrap64 (n := d) (by omega) (by omega), wrap64 (n := d * 37) (by omega) (by omega), wrap64 (n := y + d * 37) (by omega) (by omega)]
  by_cases h4 : (200 : Int) < n
  · rw [if_neg h3, if_pos (ltI_t.2 h4), if_neg h3]
    rw [wrap64 (n := (y + d * 37) * 251) (by omega) (by omega), wrap64 (n := a + 1) (by omega) (by omega), if_pos p3, hz, Option.bind_some, wrap64 (n := z) (by omega) (by omega), wrap64 (n := z * 13) (by omega) (by omega),
      wrap64 (n := (y + d * 37) * 251 + z * 13) (by omega) (by omega), wrap64 (n := (y + d * 37) * 251 + z * 13 + a) (by omega) (by omega), if_neg hn]
    exact ⟨_, rfl, Int.tmod_nonneg _ (by omega), .inl (Int.tmod_lt_of_pos _ (by omega))⟩
  · rw [if_neg h3, if_neg (by rw [ltI_t]; exact h4), if_neg hn]
    exact ⟨_, rfl, Int.tmod_nonneg _ (by omega), .inl (Int.tmod_lt_of_pos _ (by omega))⟩


/-- What is drawn. -/
def nextV (x : denP P_spec_l1Next) : Int := match F_spec_l1Next x with | some r => r.1.1 | none => 0
def pickV (x : denP P_spec_l1Pick) : Int := match F_spec_l1Pick x with | some r => r.1.1 | none => 0
def chanceV (x : denP P_spec_l1Chance) : Bool := match F_spec_l1Chance x with | some r => r.1.1 | none => false
def wordV (x : denP P_spec_l1Word) : Int := match F_spec_l1Word x with | some r => r.1.1 | none => 0
def wideV (x : denP P_spec_l1Wide) : Int := match F_spec_l1Wide x with | some r => r.1.1 | none => 0

theorem next_rw (x : denP P_spec_l1Next) (hc : Byt x.1.1) (ha : 0 ≤ x.1.2.1 ∧ x.1.2.1 ≤ 1099511627776) : F_spec_l1Next x = some ((nextV x, ()), ((x.1.1, x.1.2.1 + 1, ()), ())) := by
  obtain ⟨⟨c, a, _⟩, n, _⟩ := x
  obtain ⟨v, e, h0, h1⟩ := next_ok hc a n ha
  unfold nextV
  rw [e]

theorem next_b (x : denP P_spec_l1Next) (hc : Byt x.1.1) (ha : 0 ≤ x.1.2.1 ∧ x.1.2.1 ≤ 1099511627776) : 0 ≤ nextV x ∧ (nextV x < x.2.1 ∨ nextV x = 0) := by
  obtain ⟨⟨c, a, _⟩, n, _⟩ := x
  obtain ⟨v, e, h0, h1⟩ := next_ok hc a n ha
  unfold nextV
  rw [e]
  exact ⟨h0, h1⟩

theorem pick_ok {c : List Int} (hc : Byt c) (a : Int) (l : List Int) (ha : 0 ≤ a ∧ a ≤ 1099511627776) (hl : l ≠ []) :
    ∃ v : Int, F_spec_l1Pick ((c, a, ()), l, ()) = some ((v, ()), ((c, a + 1, ()), ())) ∧ v ∈ l := by
  have hpos : 0 < l.length := List.length_pos_iff.2 hl
  obtain ⟨v, e, h0, h1⟩ := next_ok hc a ((l.length : Nat) : Int) ha
  unfold F_spec_l1Pick
  dsimp only
  rw [e, Option.bind_some]
  dsimp only
  have hv : v.toNat < l.length := by omega
  rw [if_pos h0, List.getElem?_eq_getElem hv, Option.bind_some]
  exact ⟨_, rfl, List.getElem_mem hv⟩

theorem pick_rw (x : denP P_spec_l1Pick) (hl : x.2.1.isEmpty = false) (hc : Byt x.1.1) (ha : 0 ≤ x.1.2.1 ∧ x.1.2.1 ≤ 1099511627776) : F_spec_l1Pick x = some ((pickV x, ()), ((x.1.1, x.1.2.1 + 1, ()), ())) := by
  obtain ⟨⟨c, a, _⟩, l, _⟩ := x
  obtain ⟨v, e, h0⟩ := pick_ok hc a l ha (by rintro rfl; cases hl)
  unfold pickV
  rw [e]

theorem pick_m (x : denP P_spec_l1Pick) (hl : x.2.1.isEmpty = false) (hc : Byt x.1.1) (ha : 0 ≤ x.1.2.1 ∧ x.1.2.1 ≤ 1099511627776) : pickV x ∈ x.2.1 := by
  obtain ⟨⟨c, a, _⟩, l, _⟩ := x
  obtain ⟨v, e, h0⟩ := pick_ok hc a l ha (by rintro rfl; cases hl)
  unfold pickV
  rw [e]
  exact h0

theorem chance_rw (x : denP P_spec_l1Chance) (hc : Byt x.1.1) (ha : 0 ≤ x.1.2.1 ∧ x.1.2.1 ≤ 1099511627776) : F_spec_l1Chance x = some ((chanceV x, ()), ((x.1.1, x.1.2.1 + 1, ()), ())) := by
  obtain ⟨⟨c, a, _⟩, n, _⟩ := x
  obtain ⟨v, e, h0, h1⟩ := next_ok hc a n ha
  have : F_spec_l1Chance ((c, a, ()), n, ()) = some ((v == 0, ()), ((c, a + 1, ()), ())) := by
    unfold F_spec_l1Chance
    dsimp only
    rw [e, Option.bind_some]
  unfold chanceV
  rw [this]

theorem word_ok {c : List Int} (hc : Byt c) (a : Int) (ha : 0 ≤ a ∧ a ≤ 1073741824) : ∃ v : Int, F_spec_l1Word ((c, a, ()), ()) = some ((v, ()), ((c, a + 5, ()), ())) ∧ 0 ≤ v ∧ v ≤ 4294967295 := by
  obtain ⟨v1, e1, a1, b1⟩ := next_ok hc a 90 (by omega)
  obtain ⟨v2, e2, a2, b2⟩ := next_ok hc (a + 1) 9 (by omega)
  obtain ⟨v3, e3, a3, b3⟩ := next_ok hc (a + 1 + 1) 9 (by omega)
  obtain ⟨v4, e4, a4, b4⟩ := next_ok hc (a + 1 + 1 + 1) 60000 (by omega)
  unfold F_spec_l1Word
  dsimp only
  rw [e1, Option.bind_some, e2, Option.bind_some, e3, Option.bind_some]
  dsimp only
  rw [e4, Option.bind_some]
  dsimp only
  rw [wrap64 (n := 4294967295 - v3) (by omega) (by omega), wrap64 (n := v4 * 70000) (by omega) (by omega)]
  obtain ⟨v, e, hv⟩ := pick_ok hc (a + 1 + 1 + 1 + 1) [v1, v2, 4294967295 - v3, 2147483648, 2147483647, 0, v4 * 70000] (by omega) (by simp)
  rw [e, Option.bind_some]
  refine ⟨v, ?_, ?_⟩
  · have : a + 1 + 1 + 1 + 1 + 1 = a + 5 := by omega
    rw [this]
  · simp at hv
    omega

theorem word_rw (x : denP P_spec_l1Word) (hc : Byt x.1.1) (ha : 0 ≤ x.1.2.1 ∧ x.1.2.1 ≤ 1073741824) : F_spec_l1Word x = some ((wordV x, ()), ((x.1.1, x.1.2.1 + 5, ()), ())) := by
  obtain ⟨⟨c, a, _⟩, _⟩ := x
  obtain ⟨v, e, h0⟩ := word_ok hc a ha
  unfold wordV
  rw [e]

theorem word_b (x : denP P_spec_l1Word) (hc : Byt x.1.1) (ha : 0 ≤ x.1.2.1 ∧ x.1.2.1 ≤ 1073741824) : 0 ≤ wordV x ∧ wordV x ≤ 4294967295 := by
  obtain ⟨⟨c, a, _⟩, _⟩ := x
  obtain ⟨v, e, h0⟩ := word_ok hc a ha
  unfold wordV
  rw [e]
  exact h0

theorem next_rx {c : List Int} (hc : Byt c) (a n : Int) (ha : 0 ≤ a ∧ a ≤ 1099511627776) : F_spec_l1Next ((c, a, ()), n, ()) = some ((nextV ((c, a, ()), n, ()), ()), ((c, a + 1, ()), ())) := next_rw _ hc ha
theorem pick_rx {c : List Int} (hc : Byt c) (a : Int) (x : Int) (l : List Int) (ha : 0 ≤ a ∧ a ≤ 1099511627776) : F_spec_l1Pick ((c, a, ()), x :: l, ()) = some ((pickV ((c, a, ()), x :: l, ()), ()), ((c, a + 1, ()), ())) := pick_rw _ rfl hc ha
theorem next_bx {c : List Int} (hc : Byt c) (a n : Int) (ha : 0 ≤ a ∧ a ≤ 1099511627776) : 0 ≤ nextV ((c, a, ()), n, ()) ∧ (nextV ((c, a, ()), n, ()) < n ∨ nextV ((c, a, ()), n, ()) = 0) := next_b _ hc ha
theorem pick_mx {c : List Int} (hc : Byt c) (a x : Int) (l : List Int) (ha : 0 ≤ a ∧ a ≤ 1099511627776) : pickV ((c, a, ()), x :: l, ()) ∈ x :: l := pick_m _ rfl hc ha
theorem chance_rx {c : List Int} (hc : Byt c) (a n : Int) (ha : 0 ≤ a ∧ a ≤ 1099511627776) : F_spec_l1Chance ((c, a, ()), n, ()) = some ((chanceV ((c, a, ()), n, ()), ()), ((c, a + 1, ()), ())) := chance_rw _ hc ha
theorem word_rx {c : List Int} (hc : Byt c) (a : Int) (ha : 0 ≤ a ∧ a ≤ 1073741824) : F_spec_l1Word ((c, a, ()), ()) = some ((wordV ((c, a, ()), ()), ()), ((c, a + 5, ()), ())) := word_rw _ hc ha

theorem wide_rx {c : List Int} (hc : Byt c) (a : Int) (ha : 0 ≤ a ∧ a ≤ 1000000000) : ∃ v : Int, F_spec_l1Wide ((c, a, ()), ()) = some ((v, ()), ((c, a + 5 + 5 + 5 + 1, ()), ())) := by
  unfold F_spec_l1Wide
  dsimp only
  rw [word_rx hc, Option.bind_some, word_rx hc, Option.bind_some, word_rx hc, Option.bind_some]
  dsimp only
  rw [pick_rx hc, Option.bind_some]
  · exact ⟨_, rfl⟩
  all_goals (first | omega | (dsimp only; omega))

abbrev InsD := Int × Int × Int × Int × Unit

theorem bare_ok (op : Int) : ∃ b1 b2 b3 : Bool, F_spec_l2Bare (op, ()) = some ((b1, b2, b3, ()), ()) := by
  unfold F_spec_l2Bare
  dsimp only
  repeat' split
  all_goals exact ⟨_, _, _, rfl⟩

theorem ex_ite {α β : Type} {P : α → β} {c : Prop} [Decidable c] {a b : β} (ha : ∃ v, a = P v) (hb : ∃ v, b = P v) : ∃ v, (if c then a else b) = P v := by split <;> assumption

theorem insFault_ok (x : InsD) : ∃ v : Int, F_spec_InsFault (x, ()) = some ((v, ()), ()) := by
  obtain ⟨b1, b2, b3, e⟩ := bare_ok x.1
  unfold F_spec_InsFault
  dsimp only
  rw [l1In_eq2, l1In_eq2, l1In_eq2, l1In_eq2, e]
  simp only [Option.bind_some]
  repeat' (first | exact ⟨_, rfl⟩ | refine ex_ite (P := fun v : Int => some ((v, ()), ())) ?_ ?_)

theorem encode_ok (x : InsD) : ∃ v : Int × Int × Unit, F_spec_EncodeIns (x, ()) = some ((v, ()), ()) := by
  obtain ⟨v, e⟩ := insFault_ok x
  unfold F_spec_EncodeIns
  dsimp only
  rw [e, Option.bind_some]
  dsimp only
  split <;> exact ⟨_, rfl⟩

theorem l2Ins_ok {c : List Int} (hc : Byt c) (a : Int) (ha : 0 ≤ a ∧ a ≤ 1000000000) : ∃ v : InsD, F_spec_l2Ins ((c, a, ()), ()) = some ((v, ()), ((c, a + 1 + 1 + 1 + 1 + 1 + 1 + 1, ()), ())) := by
  unfold F_spec_l2Ins
  dsimp only
  rw [next_rx hc, Option.bind_some]
  dsimp only
  generalize nextV _ = v1
  rw [next_rx hc, Option.bind_some]
  dsimp only
  generalize nextV _ = v2
  rw [next_rx hc, Option.bind_some]
  dsimp only
  generalize nextV _ = v3
  rw [next_rx hc, Option.bind_some]
  dsimp only
  generalize nextV _ = v4
  rw [next_rx hc, Option.bind_some]
  dsimp only
  generalize nextV _ = v5
  rw [next_rx hc, Option.bind_some]
  dsimp only
  generalize nextV _ = v6
  rw [pick_rx hc, Option.bind_some]
  dsimp only
  generalize pickV _ = v7
  obtain ⟨b1, b2, b3, e⟩ := bare_ok (IntKind.i64.wrap (1 + v1))
  rw [e, Option.bind_some]
  dsimp only
  repeat' (first | exact ⟨_, rfl⟩ | refine ex_ite (P := fun v : InsD => some ((v, ()), ((c, a + 1 + 1 + 1 + 1 + 1 + 1 + 1, ()), ()))) ?_ ?_)
  all_goals omega

def Drew {T : Type} (o : Option ((T × Unit) × (List Int × Int × Unit) × Unit)) (c : List Int) (a k : Int) : Prop := ∃ (v : T) (a' : Int), o = some ((v, ()), ((c, a', ()), ())) ∧ a ≤ a' ∧ a' ≤ a + k

theorem Drew.ite {T : Type} {p : Prop} [Decidable p] {x y : Option ((T × Unit) × (List Int × Int × Unit) × Unit)} {c : List Int} {a k : Int} (hx : Drew x c a k) (hy : Drew y c a k) : Drew (if p then x else y) c a k := by split <;> assumption

theorem l7Ins_ok {c : List Int} (hc : Byt c) (a : Int) (ha : 0 ≤ a ∧ a ≤ 100000000) : Drew (T := InsD) (F_spec_l7Ins ((c, a, ()), ())) c a 20 := by
  unfold F_spec_l7Ins
  dsimp only
  rw [next_rx hc, Option.bind_some]
  dsimp only
  generalize IntKind.i64.wrap (1 + nextV _) = v1
  rw [next_rx hc, Option.bind_some]
  dsimp only
  generalize nextV _ = v2
  obtain ⟨v, e⟩ := l2Ins_ok hc (a + 1 + 1) (by omega)
  rw [e]
  repeat' (first
    | refine Drew.ite ?_ ?_
    | (rw [next_rx hc, Option.bind_some]; dsimp only)
    | (rw [pick_rx hc, Option.bind_some]; dsimp only)
    | exact ⟨_, _, rfl, by omega, by omega⟩
    | omega
    | (rw [Option.bind_some]; dsimp only))

theorem image_ok {c : List Int} (hc : Byt c) (n a : Int) (ha : 0 ≤ a ∧ a ≤ 10000000) (hn : n ≤ 1000) : ∃ (m : List Int) (a' : Int), F_spec_l7Image ((c, a, ()), n, ()) = some ((m, ()), ((c, a', ()), ())) ∧ (m.length : Int) = (if n < 0 then 0 else n) ∧ a ≤ a' ∧ a' ≤ a + 26 * (if n < 0 then 0 else n) := by
  have key : ∀ f (k : Nat) (m : List Int) (a : Int), k < f → k ≤ 1000 → 0 ≤ a ∧ a ≤ 100000000 - 26 * (k : Int) → m.length ≤ 1000 - k →
      ∃ (m' : List Int) (a' : Int), iterF l_spec_l7Image_2 f (((), (k : Int), m, ()), ((c, a, ()), ()), ()) = some (.inl ((m', ()), ((c, a', ()), ()), ())) ∧ m'.length = m.length + k ∧ a ≤ a' ∧ a' ≤ a + 26 * (k : Int) := by
    intro f
    induction f with
    | zero => intro k _ _ h; omega
    | succ f ih =>
      intro k m a hk hk2 ha hm
      simp only [iterF]
      generalize iterF l_spec_l7Image_2 f = rec at ih ⊢
      unfold l_spec_l7Image_2
      dsimp only
      by_cases h0 : 0 < k
      · obtain ⟨x, a1, e1, g1, g2⟩ := l7Ins_ok hc a (by omega)
        obtain ⟨w, e2⟩ := encode_ok x
        rw [if_pos (by rw [ltI_t]; omega), e1, Option.bind_some, e2, Option.bind_some]
        dsimp only
        rw [chance_rx hc _ _ (by omega), Option.bind_some]
        dsimp only
        have ew : IntKind.i64.wrap ((k : Int) - 1) = ((k - 1 : Nat) : Int) := by rw [wrap64 (by omega) (by omega)]; omega
        rw [ew]
        split
        · rw [word_rx hc _ (by omega), Option.bind_some]
          dsimp only
          rw [if_pos (by simp; omega)]
          obtain ⟨m', a', i1, i2, i3, i4⟩ := ih (k - 1) (m ++ [wordV ((c, a1 + 1, ()), ())]) (a1 + 1 + 5) (by omega) (by omega) (by omega) (by simp; omega)
          exact ⟨m', a', i1, by rw [i2]; simp; omega, by omega, by omega⟩
        · rw [if_pos (by simp; omega)]
          obtain ⟨m', a', i1, i2, i3, i4⟩ := ih (k - 1) (m ++ [w.2.1]) (a1 + 1) (by omega) (by omega) (by omega) (by simp; omega)
          exact ⟨m', a', i1, by rw [i2]; simp; omega, by omega, by omega⟩
      · have : k = 0 := by omega
        subst this
        rw [if_neg (by rw [ltI_t]; omega)]
        exact ⟨m, a, rfl, by omega, by omega, by omega⟩
  unfold F_spec_l7Image
  dsimp only
  by_cases h0 : n < 0
  · have : L_spec_l7Image_2 (((), n, [], ()), ((c, a, ()), ()), ()) = some (.inl (([], ()), ((c, a, ()), ()), ())) := by
      show iterF l_spec_l7Image_2 lots _ = _
      rw [lots3, iter_s]
      unfold l_spec_l7Image_2
      dsimp only
      rw [if_neg (by rw [ltI_t]; omega)]
    rw [this, Option.bind_some, if_pos h0]
    exact ⟨[], a, rfl, rfl, by omega, by omega⟩
  · obtain ⟨m', a', i1, i2, i3, i4⟩ := key lots n.toNat [] a (by rw [lots_eq]; omega) (by omega) (by omega) (by simp)
    have en : ((n.toNat : Nat) : Int) = n := by omega
    rw [en] at i1 i4
    rw [if_neg h0]
    show ∃ m a', (iterF l_spec_l7Image_2 lots (((), n, [], ()), ((c, a, ()), ()), ())).bind _ = _ ∧ _
    rw [i1, Option.bind_some]
    exact ⟨m', a', rfl, by rw [i2]; simp; omega, i3, i4⟩

theorem drawDis_ok {c : List Int} (hc : Byt c) : ∃ m : List Int, F_spec_DrawDisassemble (c, ()) = some ((m, ()), ()) ∧ m.length ≤ 81 := by
  unfold F_spec_DrawDisassemble F_spec_l1Source
  dsimp only
  rw [Option.bind_some]
  dsimp only
  have b1 : 0 ≤ nextV ((c, 0, ()), 12, ()) ∧ (nextV ((c, 0, ()), 12, ()) < 12 ∨ nextV ((c, 0, ()), 12, ()) = 0) := next_bx hc 0 12 (by omega)
  have b2 : 0 ≤ nextV ((c, 0 + 1, ()), 12, ()) ∧ (nextV ((c, 0 + 1, ()), 12, ()) < 12 ∨ nextV ((c, 0 + 1, ()), 12, ()) = 0) := next_bx hc (0 + 1) 12 (by omega)
  rw [next_rx hc _ _ (by omega), Option.bind_some]
  dsimp only
  rw [next_rx hc _ _ (by omega), Option.bind_some]
  dsimp only
  generalize nextV ((c, 0, ()), 12, ()) = v1 at b1 ⊢
  generalize nextV ((c, 0 + 1, ()), 12, ()) = v2 at b2 ⊢
  have hm : pickV ((c, 0 + 1 + 1, ()), [v1, v2, 80, 81], ()) ∈ ([v1, v2, 80, 81] : List Int) := pick_mx hc (0 + 1 + 1) v1 [v2, 80, 81] (by omega)
  rw [pick_rx hc _ _ _ (by omega), Option.bind_some]
  dsimp only
  generalize pickV ((c, 0 + 1 + 1, ()), [v1, v2, 80, 81], ()) = v3 at hm ⊢
  have hv : 0 ≤ v3 ∧ v3 ≤ 81 := by simp at hm; omega
  obtain ⟨m, a', e, l1, l2, l3⟩ := image_ok hc v3 (0 + 1 + 1 + 1) (by omega) (by omega)
  rw [if_neg (by omega)] at l1 l3
  rw [e, Option.bind_some]
  dsimp only
  by_cases h0 : 0 < m.length
  · rw [if_pos (by rw [ltI_t]; omega), chance_rx hc _ _ (by omega), Option.bind_some]
    dsimp only
    split
    · obtain ⟨v, e2⟩ := wide_rx hc (a' + 1) (by omega)
      have h1 : (0 : Int) ≤ 0 ∧ (0 : Int) < ((m.length : Nat) : Int) := by omega
      rw [e2, Option.bind_some, if_pos h1, show ((0 : Int)).toNat = 0 from rfl, List.getElem?_eq_getElem h0, Option.bind_some]
      exact ⟨_, rfl, by simp; omega⟩
    · exact ⟨_, rfl, by omega⟩
  · rw [if_neg (by rw [ltI_t]; omega)]
    exact ⟨_, rfl, by omega⟩

theorem drawPatch_ok {c : List Int} (hc : Byt c) : ∃ (m : List Int) (a : Int) (m2 : List Int), F_spec_DrawPatchImage (c, ()) = some ((m, a, m2, ()), ()) ∧ m.length ≤ 81 ∧ m2.length ≤ 81 := by
  obtain ⟨m, e, hm⟩ := drawDis_ok hc
  unfold F_spec_DrawPatchImage F_spec_l1Source
  dsimp only
  rw [Option.bind_some, e, Option.bind_some]
  dsimp only
  rw [wrap64 (n := ((m.length : Nat) : Int) + 1) (by omega) (by omega), next_rx hc _ _ (by omega), Option.bind_some]
  dsimp only
  rw [next_rx hc _ _ (by omega), Option.bind_some]
  dsimp only
  rw [pick_rx hc _ _ _ (by omega), Option.bind_some]
  dsimp only
  have b1 : 0 ≤ nextV ((c, 0 + 1 + 1 + 1, ()), 9, ()) ∧ (nextV ((c, 0 + 1 + 1 + 1, ()), 9, ()) < 9 ∨ nextV ((c, 0 + 1 + 1 + 1, ()), 9, ()) = 0) := next_bx hc (0 + 1 + 1 + 1) 9 (by omega)
  rw [next_rx hc _ _ (by omega), Option.bind_some]
  dsimp only
  generalize nextV ((c, 0 + 1 + 1 + 1, ()), 9, ()) = v at b1 ⊢
  obtain ⟨m2, a', e2, l1, l2, l3⟩ := image_ok hc v (0 + 1 + 1 + 1 + 1) (by omega) (by omega)
  rw [if_neg (by omega)] at l1
  rw [e2, Option.bind_some]
  exact ⟨m, _, m2, rfl, hm, by omega⟩

/-! the law -/
theorem patched_get {words more : List Int} {k i : Nat} (hk : k ≤ words.length) : (patched words k more)[i]? = if k ≤ i ∧ i < k + more.length then more[i - k]? else words[i]? := by
  unfold patched
  have l1 : (words.take k).length = k := by simp; omega
  by_cases h1 : i < k
  · rw [if_neg (by omega), List.append_assoc, List.getElem?_append_left (by omega), List.getElem?_take, if_pos h1]
  · by_cases h2 : i < k + more.length
    · rw [if_pos ⟨by omega, h2⟩, List.append_assoc, List.getElem?_append_right (by omega), List.getElem?_append_left (by omega), l1]
    · rw [if_neg (by omega), List.getElem?_append_right (by simp; omega), List.getElem?_drop]
      congr 1
      simp
      omega

theorem patches_loop (words more out : List Int) (at_ : Int) (h0 : 0 ≤ at_ ∧ at_ ≤ (words.length : Int)) (hl : words.length ≤ 1000) (hm : more.length ≤ 1000) (e1 e2 : Int) (ho : out = patched words at_.toNat more) :
    iterF l_laws_FnPatches_8 lots ((words, at_, more, (), 0, ()), ((e1, e2, out, ()), ()), ()) = some (.inl ((words, at_, more, (), ()), ((e1, e2, out, ()), ()), ())) := by
  have hol : out.length ≤ 3000 := by rw [ho]; unfold patched; simp; omega
  have hout : ∀ i (hi : i < out.length), (at_.toNat ≤ i ∧ i < at_.toNat + more.length ∧ some out[i] = more[i - at_.toNat]?) ∨ (¬ (at_.toNat ≤ i ∧ i < at_.toNat + more.length) ∧ some out[i] = words[i]?) := by
    intro i hi
    have := patched_get (more := more) (i := i) (k := at_.toNat) (words := words) (by omega)
    rw [← ho, List.getElem?_eq_getElem hi] at this
    split at this
    · rename_i h; exact .inl ⟨h.1, h.2, this⟩
    · rename_i h; exact .inr ⟨h, this⟩
  have key := loopN (step := l_laws_FnPatches_8) (γ := denO o_laws_FnPatches_8) (fun k (_ : Unit) => ((words, at_, more, (), ((k : Nat) : Int), ()), ((e1, e2, out, ()), ()), ())) out.length (lots_gt' (by omega)) (fun _ _ => True)
    (fun _ _ => some (.inl ((words, at_, more, (), ()), ((e1, e2, out, ()), ()), ()))) ?_ 0 () (by omega) trivial
  · exact key
  · rintro rec i _ hi _ ih
    unfold l_laws_FnPatches_8
    dsimp only
    by_cases hlt : i < out.length
    case neg => rw [if_neg (lt_f hlt)]
    rw [if_pos (lt_t hlt), wrap64 (n := at_ + ((more.length : Nat) : Int)) (by omega) (by omega), wrapS (by omega)]
    have hb : (0 : Int) ≤ (i : Int) ∧ (i : Int) < ((out.length : Nat) : Int) := by omega
    rcases hout i hlt with ⟨g1, g2, g3⟩ | ⟨g1, g3⟩
    · have ew : IntKind.i64.wrap ((i : Int) - at_) = (((i - at_.toNat : Nat)) : Int) := by rw [wrap64 (by omega) (by omega)]; omega
      have hb2 : (0 : Int) ≤ ((i - at_.toNat : Nat) : Int) ∧ ((i - at_.toNat : Nat) : Int) < ((more.length : Nat) : Int) := by omega
      rw [if_pos (by rw [leI_t]; omega), if_pos (by rw [ltI_t]; omega), if_pos hb, at_get hlt, ew, if_pos hb2, Int.toNat_natCast, ← g3, Option.bind_some, if_pos (by simp)]
      rw [if_neg (by simp [ltI_eq]; omega)]
      exact ih () hlt trivial
    · have hw : i < words.length := by
        by_cases h : i < words.length
        · exact h
        · rw [List.getElem?_eq_none (by omega)] at g3; cases g3
      have hb3 : (0 : Int) ≤ (i : Int) ∧ (i : Int) < ((words.length : Nat) : Int) := by omega
      rw [List.getElem?_eq_getElem hw] at g3
      have g3 := Option.some.inj g3
      by_cases h1 : at_ ≤ (i : Int)
      · rw [if_pos (by rw [leI_t]; omega), if_neg (by rw [ltI_t]; omega), if_pos (by simp [ltI_eq]; omega), if_pos (by rw [leI_f]; omega), if_pos hb, at_get hlt, if_pos hb3, at_get hw, if_neg (by simp [g3])]
        exact ih () hlt trivial
      · rw [if_neg (by rw [leI_t]; omega), if_pos (by rw [leI_f]; omega), if_pos hb, at_get hlt, if_pos hb3, at_get hw, if_neg (by simp [g3])]
        exact ih () hlt trivial

theorem patches_law (c : List Int) (h1 : ∀ b ∈ c, 0 ≤ b ∧ b ≤ 255) : F_laws_FnPatches (c, ()) = some ((true, ()), ()) := by
  unfold F_laws_FnPatches F_laws_lwBig
  dsimp only
  rw [Option.bind_some]
  dsimp only
  by_cases h0 : (1048576 : Int) < ((c.length : Nat) : Int)
  · rw [if_pos (ltI_t.2 h0)]
  rw [if_neg (by rw [ltI_t]; exact h0)]
  obtain ⟨m, a, m2, e, l1, l2⟩ := drawPatch_ok (c := c) ⟨h1, by omega⟩
  rw [e, Option.bind_some]
  dsimp only
  rw [implPatch_eq m a m2 (by omega) (by omega), Option.bind_some]
  dsimp only
  by_cases h2 : (patchM m a m2).1 = 0
  · rw [if_neg (by simpa using h2)]
    unfold patchM at h2 ⊢
    split at h2
    case isFalse => cases h2
    rename_i g1
    split at h2
    case isFalse => cases h2
    rename_i g2
    split at h2
    case isFalse => cases h2
    rename_i g3
    rw [if_pos g1, if_pos g2, if_pos g3]
    dsimp only
    show (iterF l_laws_FnPatches_8 lots ((m, a, m2, (), 0, ()), ((0, 0, patched m a.toNat m2, ()), ()), ())).bind _ = _
    rw [patches_loop m m2 _ a g1 (by omega) (by omega) 0 0 rfl, Option.bind_some]
    dsimp only
    have el : (patched m a.toNat m2).length = if m.length ≤ a.toNat + m2.length then a.toNat + m2.length else m.length := by
      unfold patched
      simp
      split <;> omega
    rw [if_pos (by rw [leI_t]; split at el <;> omega), wrap64 (n := a + ((m2.length : Nat) : Int)) (by omega) (by omega)]
    have : leI (a + ((m2.length : Nat) : Int)) (((patched m a.toNat m2).length : Nat) : Int) = true := by rw [leI_t]; split at el <;> omega
    rw [this]
  · rw [if_pos (by simpa using h2), specPatch_eq m a m2 (by omega) (by omega), Option.bind_some]
    simp

theorem patches_F : ∀ x, inRP P_laws_FnPatches x → F_laws_FnPatches x = some ((true, ()), ()) := by
  rintro ⟨c, _⟩ ⟨hc, _⟩
  exact patches_law c fun b hb => by
    have := hc.2 b hb
    have h1 : IntKind.u8.min = 0 := by decide
    have h2 : IntKind.u8.max = 255 := by decide
    simp only [inR, h1, h2] at this
    exact this

end Go.Proofs.Yteddlkdbefloaaa
