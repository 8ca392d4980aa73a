/- Machinery S: any order does what the text's order does. -/
import Derived.Test.YteddlkdbefloaaaSvbb
namespace Go.Proofs.Yteddlkdbefloaaa.S
open Go Go.RowKit
set_option linter.unusedVariables false
set_option linter.unusedSimpArgs false

variable {P : Program} {T : Tab} {G : Env} {w w' w0 : World} {Z : Nat → Prop} {M : Nat → Nat → Prop} {N : Nat → Option (Option (Nat × Nat))} {a : Act} {σ σ' : St} {β : Names}
variable {o : Oper} {Q : Exit → Act → World → Prop} {R : Type} {ops : Array Oper} {recs : List Rec}

theorem look_pre_none {α : Type} {p : List (Nat × α)} {n : Nat} (h : ∀ q ∈ p, q.1 ≠ n) (H : List (Nat × α)) : look (p ++ H) n = look H n := by
  rw [look_append, look_none_of h]

theorem appD_nt {D : Nat → Bool} : ∀ {k : Nat}, (appD D recs σ k).nt = σ.nt
  | 0 => rfl
  | k + 1 => by
    simp only [appD]
    split
    · split
      · exact appD_nt
      · exact appD_nt
    · exact appD_nt

section
variable (htr : Tr P ops Q Z M N w0 σ recs)
include htr

theorem appD_env {D D' : Nat → Bool} {t : Nat} : ∀ {k : Nat}, (∀ j r, j < k → recs[j]? = some r → D j ≠ D' j → r.it.dst ≠ some t) → look (appD D recs σ k).env t = look (appD D' recs σ k).env t
  | 0, _ => rfl
  | k + 1, h => by
    have ih := appD_env (k := k) fun j r hj => h j r (by omega)
    simp only [appD]
    split
    · rename_i r hr
      have pe : r.it.dst ≠ some t → ∀ q ∈ r.pe, q.1 ≠ t := fun hne q hq e => hne (by rw [(htr.step k r hr).pe q hq, e])
      cases hD : D k <;> cases hD' : D' k
      · simpa using ih
      · have := h k r (by omega) hr (by rw [hD, hD']; simp)
        simp only [Bool.false_eq_true, if_false, if_true, St.pre]
        rw [look_pre_none (pe this)]; exact ih
      · have := h k r (by omega) hr (by rw [hD, hD']; simp)
        simp only [Bool.false_eq_true, if_false, if_true, St.pre]
        rw [look_pre_none (pe this)]; exact ih
      · simp only [if_true, St.pre, look_append, ih]
    · exact ih

theorem appD_H {D D' : Nat → Bool} {n : Nat} : ∀ {k : Nat}, (∀ j r, j < k → recs[j]? = some r → D j ≠ D' j → n ∉ r.it.wr) → look (appD D recs σ k).H n = look (appD D' recs σ k).H n
  | 0, _ => rfl
  | k + 1, h => by
    have ih := appD_H (k := k) fun j r hj => h j r (by omega)
    simp only [appD]
    split
    · rename_i r hr
      have pe : n ∉ r.it.wr → ∀ q ∈ r.pH, q.1 ≠ n := fun hne q hq e => hne (by rw [← e]; exact (htr.step k r hr).pH q hq)
      cases hD : D k <;> cases hD' : D' k
      · simpa using ih
      · have := h k r (by omega) hr (by rw [hD, hD']; simp)
        simp only [Bool.false_eq_true, if_false, if_true, St.pre]
        rw [look_pre_none (pe this)]; exact ih
      · have := h k r (by omega) hr (by rw [hD, hD']; simp)
        simp only [Bool.false_eq_true, if_false, if_true, St.pre]
        rw [look_pre_none (pe this)]; exact ih
      · simp only [if_true, St.pre, look_append, ih]
    · exact ih

omit htr in
theorem appD_cut {i : Nat} : ∀ {k : Nat}, appD (fun j => decide (j < i)) recs σ k = appD (fun _ => true) recs σ (min k i)
  | 0 => by simp [appD]
  | k + 1 => by
    rcases Nat.lt_or_ge k i with h | h
    · have e : min (k + 1) i = k + 1 := by omega
      have e2 : min k i = k := by omega
      have ih := appD_cut (i := i) (k := k)
      rw [e2] at ih
      rw [e]
      simp only [appD, ih, h, decide_true]
    · have e : min (k + 1) i = i := by omega
      have e2 : min k i = i := by omega
      have ih := appD_cut (i := i) (k := k)
      rw [e2] at ih
      rw [e]
      have hf : decide (k < i) = false := by simp; omega
      simp only [appD, ih, hf]
      split <;> simp

omit htr in
theorem look_swap {α : Type} {A B C : List (Nat × α)} {n : Nat} (h : (∀ q ∈ A, q.1 ≠ n) ∨ ∀ q ∈ B, q.1 ≠ n) : look (A ++ (B ++ C)) n = look (B ++ (A ++ C)) n := by
  rcases h with h | h
  · rw [look_pre_none h, look_append, look_append, look_pre_none h]
  · rw [look_append, look_pre_none h, look_pre_none h, look_append]

/-- One more is done. -/
theorem appD_one {D : Nat → Bool} {i : Nat} {r : Rec} (hr : recs[i]? = some r) (hDi : D i = false) (hap : ∀ k q, recs[k]? = some q → i < k → D k = true → Apart r.it q.it) :
    ∀ {k : Nat}, (k ≤ i → appD (fun j => D j || j == i) recs σ k = appD D recs σ k) ∧ (i < k → Leq ((appD D recs σ k).pre r.pe r.pH) (appD (fun j => D j || j == i) recs σ k))
  | 0 => ⟨fun _ => rfl, fun h => by omega⟩
  | k + 1 => by
    obtain ⟨ih1, ih2⟩ := appD_one hr hDi hap (k := k)
    refine ⟨fun hk => ?_, fun hk => ?_⟩
    · have : (k == i) = false := by simp; omega
      simp only [appD, ih1 (by omega), this, Bool.or_false]
    · rcases Nat.lt_or_ge i k with hlt | hge
      · have hki : (k == i) = false := by simp; omega
        have ih := ih2 hlt
        simp only [appD, hki, Bool.or_false]
        split
        · rename_i q hq
          cases hDk : D k with
          | false => simpa using ih
          | true =>
            have hpq := hap k q hq hlt hDk
            simp only [if_true]
            refine Leq.trans (σ' := ((appD D recs σ k).pre r.pe r.pH).pre q.pe q.pH) ⟨rfl, fun t => ?_, fun n => ?_⟩ (ih.pre q.pe q.pH)
            · simp only [St.pre]
              by_cases hq2 : ∀ z ∈ r.pe, z.1 ≠ t
              · exact (look_swap (.inl hq2)).symm
              · refine (look_swap (.inr fun z hz e => ?_)).symm
                apply hq2
                intro z' hz' e'
                exact hpq.h5 t (by rw [(htr.step i r hr).pe z' hz', e']) (by rw [(htr.step k q hq).pe z hz, e])
            · simp only [St.pre]
              by_cases hq2 : ∀ z ∈ r.pH, z.1 ≠ n
              · exact (look_swap (.inl hq2)).symm
              · refine (look_swap (.inr fun z hz e => ?_)).symm
                apply hq2
                intro z' hz' e'
                exact hpq.h3 n (by rw [← e']; exact (htr.step i r hr).pH z' hz') (by rw [← e]; exact (htr.step k q hq).pH z hz)
        · exact ih
      · have hki : k = i := by omega
        subst hki
        simp only [appD, hr, hDi, beq_self_eq_true, Bool.or_true, if_true, Bool.false_eq_true, if_false]
        rw [ih1 (Nat.le_refl _)]
        exact Leq.refl _

end

def unl (D : Nat → Bool) : Nat → Nat
  | 0 => 0
  | k + 1 => unl D k + (if D k then 0 else 1)

theorem unl_one {D : Nat → Bool} {i : Nat} (hi : D i = false) : ∀ {k : Nat}, (k ≤ i → unl (fun j => D j || j == i) k = unl D k) ∧ (i < k → unl (fun j => D j || j == i) k + 1 = unl D k)
  | 0 => ⟨fun _ => rfl, fun h => by omega⟩
  | k + 1 => by
    obtain ⟨h1, h2⟩ := unl_one hi (k := k)
    refine ⟨fun hk => ?_, fun hk => ?_⟩
    · have : (k == i) = false := by simp; omega
      simp only [unl, h1 (by omega), this, Bool.or_false]
    · rcases Nat.lt_or_ge i k with hlt | hge
      · have : (k == i) = false := by simp; omega
        have := h2 hlt
        simp only [unl, *, Bool.or_false]
        omega
      · have hki : k = i := by omega
        subst hki
        simp only [unl, h1 (Nat.le_refl _), hi, beq_self_eq_true, Bool.or_true, if_true, Bool.false_eq_true, if_false]

theorem unl_zero {D : Nat → Bool} : ∀ {k : Nat}, unl D k = 0 → ∀ j, j < k → D j = true
  | 0, _, j, h => by omega
  | k + 1, h, j, hj => by
    simp only [unl] at h
    rcases Nat.lt_or_ge j k with hlt | hge
    · exact unl_zero (k := k) (by omega) j hlt
    · have : j = k := by omega
      subst this
      cases hD : D j with
      | true => rfl
      | false => rw [hD] at h; simp at h

theorem unl_all {D : Nat → Bool} : ∀ {k : Nat}, (∀ j, j < k → D j = true) → unl D k = 0
  | 0, _ => rfl
  | k + 1, h => by simp only [unl, h k (by omega)]; simpa using unl_all fun j hj => h j (by omega)

theorem appD_all {D : Nat → Bool} : ∀ {k : Nat}, (∀ j, j < k → D j = true) → appD D recs σ k = appD (fun _ => true) recs σ k
  | 0, _ => rfl
  | k + 1, h => by simp only [appD, h k (by omega), appD_all (k := k) fun j hj => h j (by omega)]

theorem any_sound (htr : Tr P ops Q Z M N w0 σ recs) (hn : recs.length = ops.size)
    (hQ : ∀ a w, Rep Z M N w0 (appD (fun _ => true) recs σ ops.size) a w → Q .normal a w) : ∀ {fuel : Nat} {listed : Array Bool} {D : Nat → Bool} {a : Act} {w : World}, (∀ j, D j = listed.getD j false) → listed.size = ops.size →
    (∀ j r, recs[j]? = some r → D j = true → ∀ m, r.it.anc.testBit m = true → D m = true) → unl D ops.size ≤ fuel → Rep Z M N w0 (appD D recs σ ops.size) a w → wpAny P .any ops Q fuel listed a w := by
  intro fuel
  have gets : ∀ {listed : Array Bool} {D : Nat → Bool}, (∀ j, D j = listed.getD j false) → listed.size = ops.size → ∀ j, j < ops.size → listed.getD j true = D j := fun hD hs j hj => by
    rw [hD j]
    have : j < _ := (hs.symm ▸ hj : j < _)
    simp [this]
  have full : ∀ {listed : Array Bool} {D : Nat → Bool}, (∀ j, D j = listed.getD j false) → listed.size = ops.size → Region.ready .any ops listed = [] → ∀ j, j < ops.size → D j = true := by
    intro listed D hD hs hr j
    induction j using Nat.strongRecOn with
    | ind j ih =>
      intro hj
      cases hDj : D j with
      | true => rfl
      | false =>
        exfalso
        have : j ∈ Region.ready .any ops listed := by
          obtain ⟨r, hrj⟩ : ∃ r, recs[j]? = some r := ⟨recs[j]'(by omega), List.getElem?_eq_getElem (by omega)⟩
          obtain ⟨o, ho, hdep, -⟩ := htr.anc j r hrj
          refine mem_ready.2 ⟨by rw [gets hD hs j hj, hDj], o, ho, fun e he hb => ?_⟩
          have hlt := hdep e.on (List.mem_map.2 ⟨e, List.mem_filter.2 ⟨by simpa using he, hb⟩, rfl⟩)
          rw [← hD]
          exact ih e.on hlt (by omega)
        rw [hr] at this
        cases this
  induction fuel with
  | zero =>
    intro listed D a w hD hs hdown hfuel hrep
    have hall := unl_zero (D := D) (k := ops.size) (by omega)
    refine ⟨?_, hQ a w (by rw [← appD_all hall]; exact hrep)⟩
    cases hr : Region.ready .any ops listed with
    | nil => rfl
    | cons j l =>
      exfalso
      have hj : j ∈ Region.ready .any ops listed := by rw [hr]; simp
      obtain ⟨h0, o, ho, -⟩ := mem_ready.1 hj
      have hlt : j < ops.size := (Array.getElem?_eq_some_iff.1 ho).1
      rw [gets hD hs j hlt, hall j hlt] at h0
      cases h0
  | succ fuel ih =>
    intro listed D a w hD hs hdown hfuel hrep
    refine ⟨fun hr => hQ a w (by rw [← appD_all (full hD hs hr)]; exact hrep), fun i hi => ?_⟩
    obtain ⟨h0, o, ho, hafter⟩ := mem_ready.1 hi
    have hlt : i < ops.size := (Array.getElem?_eq_some_iff.1 ho).1
    rw [gets hD hs i hlt] at h0
    obtain ⟨r, hr⟩ : ∃ r, recs[i]? = some r := ⟨recs[i]'(by omega), List.getElem?_eq_getElem (by omega)⟩
    have hanc : ∀ m, r.it.anc.testBit m = true → D m = true := by
      intro m hm
      obtain ⟨o', ho', hdep, h3⟩ := htr.anc i r hr
      rw [ho] at ho'
      obtain rfl := Option.some.inj ho'
      obtain ⟨e, he, h4⟩ := h3 m hm
      obtain ⟨e', he', rfl⟩ := List.mem_map.1 he
      obtain ⟨he1, he2⟩ := List.mem_filter.1 he'
      have hDe : D e'.on = true := by rw [hD]; exact hafter e' (by simpa using he1) he2
      rcases h4 with rfl | ⟨r', hr', h5⟩
      · exact hDe
      · exact hdown _ r' hr' hDe m h5
    have hi' : ∀ k q, recs[k]? = some q → i < k → D k = true → Apart r.it q.it := fun k q hq hik hDk => by
      refine htr.pair _ _ _ _ hr hq hik ?_
      cases hb : q.it.anc.testBit i with
      | false => rfl
      | true => have := hdown k q hq hDk i hb; rw [h0] at this; cases this
    have hst := htr.step i r hr
    have hcut : appD (fun j => decide (j < i)) recs σ ops.size = appD (fun _ => true) recs σ i := by
      rw [appD_cut]; congr 1; omega
    refine hst.wp (appD D recs σ ops.size) (by rw [appD_nt, appD_nt]) (fun t ht => ?_) (fun n hnm => ?_) a w hrep _ (fun a' w' hr' => ?_)
    · rw [← hcut]
      refine appD_env htr fun j q hj hq hne hdst => ?_
      rcases Nat.lt_or_ge j i with hji | hji
      · have hDj : D j = false := by simpa [hji] using hne
        have hap := htr.pair _ _ _ _ hq hr hji (by
          cases hb : r.it.anc.testBit j with
          | false => rfl
          | true => rw [hanc j hb] at hDj; cases hDj)
        exact hap.h4 t hdst ht
      · have hdj : decide (j < i) = false := by simp; omega
        have hDj : D j = true := by simpa [hdj] using hne
        have : i < j := by
          rcases Nat.lt_or_ge i j with h | h
          · exact h
          · have : j = i := by omega
            subst this; rw [h0] at hDj; cases hDj
        exact (hi' j q hq this hDj).h6 t hdst ht
    · rw [← hcut]
      refine appD_H htr fun j q hj hq hne hwr => ?_
      rcases Nat.lt_or_ge j i with hji | hji
      · have hDj : D j = false := by simpa [hji] using hne
        have hap := htr.pair _ _ _ _ hq hr hji (by
          cases hb : r.it.anc.testBit j with
          | false => rfl
          | true => rw [hanc j hb] at hDj; cases hDj)
        exact hap.h1 n hwr hnm
      · have hdj : decide (j < i) = false := by simp; omega
        have hDj : D j = true := by simpa [hdj] using hne
        have : i < j := by
          rcases Nat.lt_or_ge i j with h | h
          · exact h
          · have : j = i := by omega
            subst this; rw [h0] at hDj; cases hDj
        exact (hi' j q hq this hDj).h2 n hwr hnm
    · refine ih (D := fun j => D j || j == i) (fun j => ?_) (by simp [hs]) (fun j q hq hDj m hm => ?_) ?_ ?_
      · by_cases hji : j = i
        · subst hji
          have : j < listed.size := by omega
          simp [this]
        · have e1 : (j == i) = false := by simpa using hji
          rw [getD_set_ne false (fun e => hji e.symm), ← hD j, e1, Bool.or_false]
      · simp only [Bool.or_eq_true, beq_iff_eq] at hDj ⊢
        rcases hDj with hDj | rfl
        · exact .inl (hdown j q hq hDj m hm)
        · rw [hr] at hq; obtain rfl := Option.some.inj hq
          exact .inl (hanc m hm)
      · have := (unl_one h0 (k := ops.size)).2 hlt
        omega
      · exact hr'.same ((appD_one htr hr h0 hi' (k := ops.size)).2 hlt)

theorem region_any (hT : tabOk P T = true) (hG : EnvOk P G) (hm : P.follows .mixedOrders = true) {id nm : Nat} {K : St → Option R} {y : R} (hrep : Rep Z M N w0 σ a w)
    (h : opsD T G ops nm ops.toList σ 0 [] K = some y)
    (hK : ∀ σ', K σ' = some y → σ'.nt = σ.nt → ∀ a' w', Rep Z M N w0 σ' a' w' → Q .normal a' w') : (Code.region id ops true).wp P Q a w := by
  have htr0 : Tr P ops Q Z M N w0 σ [] := ⟨fun k r h => by simp at h, fun k r h => by simp at h, fun i k x y h => by simp at h⟩
  obtain ⟨recs, σ', hlen, hl, htr, h2⟩ := opsD_trace hT hG (σ0 := σ) (recs := []) (k := 0) (acc := []) (fun k => by simp) rfl rfl (Leq.refl _) htr0 h
  simp only [List.length_nil, Nat.zero_add, Array.length_toList] at hlen
  refine wp_region_any hm (any_sound htr hlen (fun a' w' hr => ?_) (D := fun _ => false) (fun j => ?_) (by simp) (fun j r _ h => by cases h) ?_ ?_)
  · rw [hlen] at hl
    exact hK σ' h2 (by rw [hl.nt, appD_nt]) a' w' (hr.same hl)
  · simp
    cases h : (Array.replicate ops.size false)[j]? with
    | none => rfl
    | some b =>
      have := Array.getElem?_eq_some_iff.1 h
      obtain ⟨h1, h2⟩ := this
      simp at h2
      simp [← h2]
  · have : ∀ k, unl (fun _ => false) k = k := fun k => by
      induction k with
      | zero => rfl
      | succ k ih => simp [unl, ih]
    rw [this]; exact Nat.le_refl _
  · have : appD (fun _ => false) recs σ ops.size = σ := by
      generalize ops.size = k
      induction k with
      | zero => rfl
      | succ k ih =>
        simp only [appD, ih]
        split <;> simp
    rw [this]
    obtain ⟨β, hrep⟩ := hrep
    exact ⟨β, hrep.drawn _⟩

end Go.Proofs.Yteddlkdbefloaaa.S
