/- The machinery S: a state that is made of data. -/
import Derived.Test.YteddlkdbefloaaaSm
namespace Go.Proofs.Yteddlkdbefloaaa.S
open Go Go.RowKit
set_option linter.unusedVariables false
set_option linter.unusedSimpArgs false

def SlotsR (w : World) (S Q : Nat → Prop) (B : Nat → Option Pl) (a : Act) : (l : List (Nat × VK)) → denS l → List Nat → Prop
  | [], _, F => F = []
  | (i, k) :: r, x, F => ∃ F1 F2, F = F1 ++ F2 ∧ i < a.tmps.size ∧ VKR w S Q B k x.1 (a.tmps.getD i undef) F1 ∧ SlotsR w S Q B a r x.2 F2

def BoxesR (w : World) (S Q : Nat → Prop) (B : Nat → Option Pl) : (l : List (Nat × List CK)) → denB l → List Nat → Prop
  | [], _, F => F = []
  | (o, cs) :: r, x, F => ∃ F1 F2 b base c e, F = F1 ++ F2 ∧ B o = some (.box b base) ∧ w.heap[b]? = some (.cells c e (0, 0)) ∧ base + cs.length ≤ c.size ∧
      CellsR w S Q B cs x.1 ((c.toList.drop base).take cs.length) F1 ∧ (∀ u ∈ (c.toList.drop base).take cs.length, u.oneCell' = true) ∧ BoxesR w S Q B r x.2 F2

def RowsR (w : World) (S : Nat → Prop) (B : Nat → Option Pl) : (l : List (Nat × TypeId × Ty)) → denW l → List Nat → Prop
  | [], _, F => F = []
  | (o, e, t) :: r, x, F => ∃ q F2, F = blkq q ++ F2 ∧ B o = some (.row q x.1.length) ∧ RowO w S e t x.1 q ∧ RowsR w S B r x.2 F2

variable {w : World} {S S' Q : Nat → Prop} {B : Nat → Option Pl} {a : Act}

theorem mkS_sound : ∀ {l : List (Nat × VK)} {x : denS l} {F : List Nat} (nm : Nat), SlotsR w S Q B a l x F → ∃ qs, Grs w S (mkS nm l x).2 qs F ∧
    ∀ {S' : Nat → Prop} {β : Names} {H : Heap}, Agree S Q B w S' β H → (∀ p ∈ (mkS nm l x).2, look H p.1 = some p.2) → (∀ p ∈ qs, β p.1 = p.2) →
      ∀ p ∈ (mkS nm l x).1, p.1 < a.tmps.size ∧ VL w S' β H p.2 (a.tmps.getD p.1 undef)
  | [], _, _, _, h => ⟨[], ⟨rfl, h⟩, fun _ _ _ p hp => by simp [mkS] at hp⟩
  | (i, k) :: r, x, _, nm, ⟨F1, F2, h1, h2, h3, h4⟩ => by
    subst h1
    obtain ⟨q1, g1, k1⟩ := mkV_sound nm h3
    obtain ⟨q2, g2, k2⟩ := mkS_sound (nm + 30) h4
    refine ⟨q1 ++ q2, g1.append g2, fun ha hH hb p hp => ?_⟩
    simp only [mkS, List.mem_cons] at hp
    rcases hp with rfl | hp
    · exact ⟨h2, k1 ha (fun p hp => hH p (List.mem_append_left _ hp)) (fun p hp => hb p (List.mem_append_left _ hp))⟩
    · exact k2 ha (fun p hp => hH p (List.mem_append_right _ hp)) (fun p hp => hb p (List.mem_append_right _ hp)) p hp

theorem All2.and {α β : Type} {R : α → β → Prop} {p : β → Prop} : ∀ {as : List α} {bs : List β}, All2 R as bs → (∀ b ∈ bs, p b) → All2 (fun x y => R x y ∧ p y) as bs
  | _, _, .nil, _ => .nil
  | _, _, .cons h hr, hp => .cons ⟨h, hp _ (by simp)⟩ (hr.and fun b hb => hp b (by simp [hb]))

theorem mkCs_len : ∀ (nm : Nat) (cs : List CK) (x : denC cs), (mkCs nm cs x).1.length = cs.length
  | _, [], _ => rfl
  | nm, c :: r, x => by simp [mkCs, mkCs_len]

theorem mkB_sound : ∀ {l : List (Nat × List CK)} {x : denB l} {F : List Nat} (nm : Nat), BoxesR w S Q B l x F → ∃ qs, Grs w S (mkB nm l x).2 qs F ∧
    (∀ p ∈ (mkB nm l x).1, ∃ cs, p.2 = .box cs ∧ ∃ ks b base c e, (p.1, ks) ∈ l ∧ ks.length = cs.length ∧ B p.1 = some (.box b base) ∧ w.heap[b]? = some (.cells c e (0, 0)) ∧ base + cs.length ≤ c.size) ∧
    ∀ {S' : Nat → Prop} {β : Names} {H : Heap}, Agree S Q B w S' β H → (∀ p ∈ (mkB nm l x).2, look H p.1 = some p.2) → (∀ p ∈ qs, β p.1 = p.2) →
      ∀ p ∈ (mkB nm l x).1, OR w S' β H (β p.1) p.2
  | [], _, _, _, h => ⟨[], ⟨rfl, h⟩, fun p hp => by simp [mkB] at hp, fun _ _ _ p hp => by simp [mkB] at hp⟩
  | (o, cs) :: r, x, _, nm, ⟨F1, F2, b, base, c, e, h1, h2, h3, h4, h5, h6, h7⟩ => by
    subst h1
    obtain ⟨q1, g1, k1⟩ := mkCs_sound nm h5
    obtain ⟨q2, g2, i2, k2⟩ := mkB_sound (nm + 30) h7
    refine ⟨q1 ++ q2, g1.append g2, fun p hp => ?_, fun ha hH hb p hp => ?_⟩
    · simp only [mkB, List.mem_cons] at hp
      rcases hp with rfl | hp
      · exact ⟨_, rfl, cs, b, base, c, e, by simp, (mkCs_len ..).symm, h2, h3, by rw [mkCs_len]; exact h4⟩
      · obtain ⟨cs', e1, ks, b', base', c', e', hm, hrest⟩ := i2 p hp
        exact ⟨cs', e1, ks, b', base', c', e', by simp [hm], hrest⟩
    · simp only [mkB, List.mem_cons] at hp
      rcases hp with rfl | hp
      · refine ⟨b, base, c, e, (ha.box o b base h2).1, h3, by rw [mkCs_len]; exact h4, ?_⟩
        rw [mkCs_len]
        exact (k1 ha (fun p hp => hH p (List.mem_append_left _ hp)) (fun p hp => hb p (List.mem_append_left _ hp))).and h6
      · exact k2 ha (fun p hp => hH p (List.mem_append_right _ hp)) (fun p hp => hb p (List.mem_append_right _ hp)) p hp

theorem Grs.mem : ∀ {A : List (Nat × Ob)} {qs F}, Grs w S A qs F → ∀ p ∈ A, ∃ q, (p.1, q) ∈ qs ∧ (∀ b ∈ blkq q, b ∈ F) ∧ OwnO w S q p.2
  | [], _, _, _, p, hp => by simp at hp
  | p0 :: r, _, _, ⟨q, qs', F2, h1, h2, h3, h4⟩, p, hp => by
    subst h1; subst h2
    rcases List.mem_cons.1 hp with rfl | hp
    · exact ⟨q, by simp, fun b hb => List.mem_append_left _ hb, h3⟩
    · obtain ⟨q', hq, hb, hr⟩ := h4.mem p hp
      exact ⟨q', by simp [hq], fun b hb' => List.mem_append_right _ (hb b hb'), hr⟩

theorem Grs.names : ∀ {A : List (Nat × Ob)} {qs F}, Grs w S A qs F → qs.map (·.1) = A.map (·.1)
  | [], _, _, ⟨h1, _⟩ => by subst h1; rfl
  | p0 :: r, _, _, ⟨q, qs', F2, h1, h2, h3, h4⟩ => by subst h1; simp [h4.names]

theorem Grs.inF : ∀ {A : List (Nat × Ob)} {qs F}, Grs w S A qs F → ∀ p ∈ qs, ∀ b ∈ blkq p.2, b ∈ F
  | [], _, _, ⟨h1, _⟩, p, hp, _, _ => by subst h1; simp at hp
  | p0 :: r, _, _, ⟨q, qs', F2, h1, h2, h3, h4⟩, p, hp, b, hb => by
    subst h1; subst h2
    rcases List.mem_cons.1 hp with rfl | hp
    · exact List.mem_append_left _ hb
    · exact List.mem_append_right _ (h4.inF p hp b hb)

theorem Grs.inj : ∀ {A : List (Nat × Ob)} {qs F}, Grs w S A qs F → F.Nodup → ∀ p ∈ qs, ∀ p' ∈ qs, ∀ b, b ∈ blkq p.2 → b ∈ blkq p'.2 → p = p'
  | [], _, _, ⟨h1, _⟩, _, p, hp, _, _, _, _, _ => by subst h1; simp at hp
  | p0 :: r, _, _, ⟨q, qs', F2, h1, h2, h3, h4⟩, hn, p, hp, p', hp', b, hb, hb' => by
    subst h1; subst h2
    have hn' := List.nodup_append.1 hn
    have inF := h4.inF
    rcases List.mem_cons.1 hp with rfl | hp
    · rcases List.mem_cons.1 hp' with rfl | hp'
      · rfl
      · exact absurd rfl (hn'.2.2 b hb b (inF p' hp' b hb'))
    · rcases List.mem_cons.1 hp' with rfl | hp'
      · exact absurd rfl (hn'.2.2 b hb' b (inF p hp b hb))
      · exact h4.inj hn'.2.1 p hp p' hp' b hb hb'


theorem look_of_mem {α : Type} : ∀ {l : List (Nat × α)} {p : Nat × α}, (l.map (·.1)).Nodup → p ∈ l → look l p.1 = some p.2
  | (k, y) :: r, p, hn, hp => by
    simp only [List.map_cons, List.nodup_cons] at hn
    rw [look_cons]
    rcases List.mem_cons.1 hp with rfl | hp
    · rw [if_pos rfl]
    · rw [if_neg (fun e => hn.1 (by rw [e]; exact List.mem_map_of_mem hp))]
      exact look_of_mem hn.2 hp

theorem blkq_mem {q : Option (Nat × Nat)} {b : Nat} : b ∈ blkq q ↔ ∃ cap, q = some (b, cap) := by
  cases q with
  | none => simp [blkq]
  | some p =>
    simp only [blkq, List.mem_singleton, Option.some.injEq]
    exact ⟨fun h => ⟨p.2, by rw [h]⟩, fun ⟨cap, h⟩ => by rw [h]⟩

theorem mkB_names : ∀ (nm : Nat) (l : List (Nat × List CK)) (x : denB l), (mkB nm l x).1.map (·.1) = l.map (·.1)
  | _, [], _ => rfl
  | nm, (i, cs) :: r, x => by simp [mkB, mkB_names]

variable {Z : Nat → Prop} {M : Nat → Nat → Prop} {N : Nat → Option (Option (Nat × Nat))} {w0 : World}

theorem mkW_names : ∀ (l : List (Nat × TypeId × Ty)) (x : denW l), (mkW l x).map (·.1) = l.map (·.1)
  | [], _ => rfl
  | (o, e, t) :: r, x => by simp [mkW, mkW_names]

theorem mkW_sound : ∀ {l : List (Nat × TypeId × Ty)} {x : denW l} {F : List Nat}, RowsR w S B l x F → ∃ qs, Grs w S (mkW l x) qs F ∧
    ∀ p ∈ mkW l x, ∃ q e t xs, (p.1, q) ∈ qs ∧ p.2 = .row e t xs ∧ B p.1 = some (.row q xs.length)
  | [], _, _, h => ⟨[], ⟨rfl, h⟩, fun p hp => by simp [mkW] at hp⟩
  | (o, e, t) :: r, x, _, ⟨q, F2, h1, h2, h3, h4⟩ => by
    subst h1
    obtain ⟨qs, g, hk⟩ := mkW_sound h4
    refine ⟨(o, q) :: qs, ⟨q, qs, F2, rfl, rfl, h3, g⟩, fun p hp => ?_⟩
    simp only [mkW, List.mem_cons] at hp
    rcases hp with rfl | hp
    · exact ⟨q, e, t, x.1, by simp, rfl, h2⟩
    · obtain ⟨q', e', t', xs', h5, h6⟩ := hk p hp
      exact ⟨q', e', t', xs', by simp [h5], h6⟩

/-- A state made of data stands for the world that the data lie in. -/
theorem mk_sound {nt : Nat} {s : Shp} {x : s.den} {F1 F2 F3 : List Nat} (hfresh : ∀ b, w0.heap.size ≤ b → ∀ i, M b i) (hwhole : ∀ b, (∀ i, M b i) → Z b) (hd : a.defers = []) (hnt : a.tmps.size = nt) (hk : Kept M w0 w)
    (hnames : namesOk (mk nt s x) = true) (hs : SlotsR w S Q B a s.slots x.1 F1) (hb : BoxesR w S Q B s.boxes x.2.1 F2) (hr : RowsR w S B s.rows x.2.2 F3) (hF : ((F1 ++ F2) ++ F3).Nodup)
    (hM : ∀ b ∈ (F1 ++ F2) ++ F3, (∀ i, M b i) ∧ b < w.heap.size)
    (hB : ∀ o b base, B o = some (.box b base) → o ∈ s.boxes.map (·.1) ∧ b ∉ (F1 ++ F2) ++ F3 ∧ b < w.heap.size ∧ ∀ cs, (o, cs) ∈ s.boxes → ∀ i, i < cs.length → M b (base + i))
    (hBr : ∀ o q n, B o = some (.row q n) → o ∈ s.rows.map (·.1))
    (hBi : ∀ o o' b base base', B o = some (.box b base) → B o' = some (.box b base') → o = o')
    (hS : ∀ b, b < w.heap.size → S b → Z b ∧ b ∉ (F1 ++ F2) ++ F3 ∧ ∀ o base, B o ≠ some (.box b base))
    (hQ : ∀ b, Q b → b ∉ (F1 ++ F2) ++ F3 ∧ ∀ o base, B o ≠ some (.box b base))
    (hN : ∀ o q, N o = some q → 9000000 ≤ o ∧ ((∃ b base, q = some (b, base) ∧ B o = some (.box b base)) ∨ ∃ n, B o = some (.row q n))) : Rep Z M N w0 (mk nt s x) a w := by
  obtain ⟨q1, g1, k1⟩ := mkS_sound 500000 hs
  obtain ⟨q2, g2, i2, k2⟩ := mkB_sound 600000 hb
  obtain ⟨q3, g3, i3⟩ := mkW_sound hr
  have g := (g1.append g2).append g3
  have hn := nodupB_nodup hnames
  let rows := ((mkS 500000 s.slots x.1).2 ++ (mkB 600000 s.boxes x.2.1).2) ++ mkW s.rows x.2.2
  let bx := (mkB 600000 s.boxes x.2.1).1
  have hH : (mk nt s x).H = rows ++ bx := by simp [mk, rows, bx]
  rw [hH] at hn
  have hnr : (rows.map (·.1)).Nodup := by rw [List.map_append] at hn; exact (List.nodup_append.1 hn).1
  let β : Names := fun o => match look ((q1 ++ q2) ++ q3) o with | some q => q | none => match B o with | some (.box b base) => some (b, base) | _ => none
  have hqn : (((q1 ++ q2) ++ q3).map (·.1)).Nodup := by rw [g.names]; exact hnr
  have hβq : ∀ p ∈ (q1 ++ q2) ++ q3, β p.1 = p.2 := by
    intro p hp
    show (match look ((q1 ++ q2) ++ q3) p.1 with | some q => q | none => match B p.1 with | some (.box b base) => some (b, base) | _ => none) = p.2
    rw [look_of_mem hqn hp]
  have hlook : ∀ p ∈ rows ++ bx, look (mk nt s x).H p.1 = some p.2 := by
    intro p hp
    rw [hH]; exact look_of_mem hn hp
  have hlive : ∀ o ob, look (mk nt s x).H o = some ob → (o, ob) ∈ rows ++ bx := by
    intro o ob ho
    rw [hH] at ho
    exact look_mem ho
  have hβB : ∀ o b base, o ∈ s.boxes.map (·.1) → B o = some (.box b base) → β o = some (b, base) := by
    intro o b base ho hBo
    show (match look ((q1 ++ q2) ++ q3) o with | some q => q | none => match B o with | some (.box b base) => some (b, base) | _ => none) = some (b, base)
    cases hl : look ((q1 ++ q2) ++ q3) o with
    | none => simp [hBo]
    | some q =>
      exfalso
      have hm := look_mem hl
      have h1 : o ∈ rows.map (·.1) := by
        rw [← g.names]; exact List.mem_map_of_mem (f := (·.1)) hm
      have h2 : o ∈ bx.map (·.1) := by simp only [bx, mkB_names]; exact ho
      rw [List.map_append] at hn
      exact (List.nodup_append.1 hn).2.2 o h1 o h2 rfl
  have hrow : ∀ p ∈ rows, ∃ q, β p.1 = q ∧ (p.1, q) ∈ (q1 ++ q2) ++ q3 ∧ (∀ b ∈ blkq q, b ∈ (F1 ++ F2) ++ F3) ∧ OwnO w S q p.2 := by
    intro p hp
    obtain ⟨q, h1, h2, h3⟩ := g.mem p hp
    exact ⟨q, hβq _ h1, h1, h2, h3⟩
  have hbox : ∀ p ∈ bx, ∃ cs, p.2 = .box cs ∧ ∃ ks b base, (p.1, ks) ∈ s.boxes ∧ ks.length = cs.length ∧ β p.1 = some (b, base) ∧ B p.1 = some (.box b base) := by
    intro p hp
    obtain ⟨cs, e1, ks, b, base, c, e, h1, h2, h3, _⟩ := i2 p hp
    exact ⟨cs, e1, ks, b, base, h1, h2, hβB p.1 b base (List.mem_map_of_mem (f := (·.1)) h1) h3, h3⟩
  have hOwn : ∀ b, Own β (mk nt s x).H b → b ∈ (F1 ++ F2) ++ F3 ∨ ∃ o base, B o = some (.box b base) := by
    rintro b ⟨o, ob, cap, ho, _, hb⟩
    rcases List.mem_append.1 (hlive o ob ho) with hm | hm
    · obtain ⟨q, h1, h2, h3, _⟩ := hrow _ hm
      refine .inl (h3 b (blkq_mem.2 ⟨cap, ?_⟩))
      rw [← h1]; exact hb
    · obtain ⟨cs, _, ks, b', base, _, _, h1, h2⟩ := hbox _ hm
      simp only at h1 h2
      rw [hb] at h1
      cases h1
      exact .inr ⟨o, cap, h2⟩
  have hBbox : ∀ o b base, B o = some (.box b base) → β o = some (b, base) ∧ ∃ cs, look (mk nt s x).H o = some (.box cs) := by
    intro o b base ho
    have hm := (hB o b base ho).1
    refine ⟨hβB o b base hm ho, ?_⟩
    have : o ∈ bx.map (·.1) := by simp only [bx, mkB_names]; exact hm
    obtain ⟨p, hp, rfl⟩ := List.mem_map.1 this
    obtain ⟨cs, e1, _⟩ := hbox p hp
    exact ⟨cs, by rw [hlook p (List.mem_append_right _ hp), e1]⟩
  have hBrow : ∀ o q n, B o = some (.row q n) → β o = q ∧ ∃ e t xs, look (mk nt s x).H o = some (.row e t xs) ∧ xs.length = n := by
    intro o q n ho
    have : o ∈ (mkW s.rows x.2.2).map (·.1) := by rw [mkW_names]; exact hBr o q n ho
    obtain ⟨p, hp, rfl⟩ := List.mem_map.1 this
    obtain ⟨q', e, t, xs, h1, h2, h3⟩ := i3 p hp
    rw [ho] at h3
    simp only [Option.some.injEq, Pl.row.injEq] at h3
    obtain ⟨rfl, rfl⟩ := h3
    exact ⟨hβq (p.1, q) (List.mem_append_right _ h1), e, t, xs, by rw [hlook p (by simp [rows, hp]), h2], rfl⟩
  have hag : Agree S Q B w (RO Z β (mk nt s x).H) β (mk nt s x).H := by
    refine ⟨hBbox, hBrow, ?_, ?_⟩
    · intro b hb ho
      have := hQ b hb
      rcases hOwn b ho with h | ⟨o, base, h⟩
      · exact this.1 h
      · exact this.2 o base h
    · intro t y cs
      refine Rp_keep fun b hb hs => ⟨?_, rfl⟩
      have := hS b hb hs
      refine ⟨this.1, fun ho => ?_⟩
      rcases hOwn b ho with h | ⟨o, base, h⟩
      · exact this.2.1 h
      · exact this.2.2 o base h
  have hrowH : ∀ p ∈ (mkS 500000 s.slots x.1).2, look (mk nt s x).H p.1 = some p.2 := fun p hp => hlook p (by simp [rows, hp])
  have hrowH2 : ∀ p ∈ (mkB 600000 s.boxes x.2.1).2, look (mk nt s x).H p.1 = some p.2 := fun p hp => hlook p (by simp [rows, hp])
  refine ⟨β, hfresh, hwhole, ?_, hd, hnt, hk, ?_, ?_, ?_, ?_⟩
  · intro o q ho
    obtain ⟨h9, h⟩ := hN o q ho
    rcases h with ⟨b, base, rfl, h⟩ | ⟨n, h⟩
    · obtain ⟨e1, cs, e2⟩ := hBbox o b base h
      exact ⟨e1, by rw [e2]; rfl, h9⟩
    · obtain ⟨e1, e, t, xs, e2, _⟩ := hBrow o q n h
      exact ⟨e1, by rw [e2]; rfl, h9⟩
  · intro o ob b cap ho _ hb
    rcases List.mem_append.1 (hlive o ob ho) with hm | hm
    · obtain ⟨q, h1, h2, h3, h4⟩ := hrow _ hm
      simp only at h1
      have := hM b (h3 b (blkq_mem.2 ⟨cap, by rw [← h1]; exact hb⟩))
      exact ⟨mayW_all this.1, this.2⟩
    · obtain ⟨cs, e1, ks, b', base, h0, hl, h1, h2⟩ := hbox _ hm
      simp only at h1 h2 e1
      subst e1
      rw [hb] at h1
      cases h1
      have := hB o b cap h2
      exact ⟨fun i hi => this.2.2.2 ks h0 i (by omega), this.2.2.1⟩
  · intro o o' ob ob' b cap cap' ho _ ho' _ hb hb'
    rcases List.mem_append.1 (hlive o ob ho) with hm | hm
    · obtain ⟨q, h1, h2, h3, _⟩ := hrow _ hm
      simp only at h1 h2
      have hbF := h3 b (blkq_mem.2 ⟨cap, by rw [← h1]; exact hb⟩)
      rcases List.mem_append.1 (hlive o' ob' ho') with hm' | hm'
      · obtain ⟨q', h1', h2', h3', _⟩ := hrow _ hm'
        simp only at h1' h2'
        have := g.inj hF _ h2 _ h2' b (blkq_mem.2 ⟨cap, by rw [← h1]; exact hb⟩) (blkq_mem.2 ⟨cap', by rw [← h1']; exact hb'⟩)
        exact (Prod.mk.inj this).1
      · obtain ⟨cs, _, ks, b2, base, _, _, e1, e2⟩ := hbox _ hm'
        simp only at e1 e2
        rw [hb'] at e1
        cases e1
        exact absurd hbF (hB o' b cap' e2).2.1
    · obtain ⟨cs, _, ks, b2, base, _, _, e1, e2⟩ := hbox _ hm
      simp only at e1 e2
      rw [hb] at e1
      cases e1
      rcases List.mem_append.1 (hlive o' ob' ho') with hm' | hm'
      · obtain ⟨q', h1', h2', h3', _⟩ := hrow _ hm'
        simp only at h1' h2'
        exact absurd (h3' b (blkq_mem.2 ⟨cap', by rw [← h1']; exact hb'⟩)) (hB o b cap e2).2.1
      · obtain ⟨cs', _, ks', b3, base', _, _, e3, e4⟩ := hbox _ hm'
        simp only at e3 e4
        rw [hb'] at e3
        cases e3
        exact hBi o o' b cap cap' e2 e4
  · intro o ob ho
    rcases List.mem_append.1 (hlive o ob ho) with hm | hm
    · obtain ⟨q, h1, h2, h3, h4⟩ := hrow _ hm
      simp only at h1 h4
      rw [h1]
      exact h4.or hag.data
    · exact k2 hag hrowH2 (fun p hp => hβq p (by simp [hp])) (o, ob) hm
  · intro i sl hi
    exact k1 hag hrowH (fun p hp => hβq p (by simp [hp])) (i, sl) (look_mem hi)

end Go.Proofs.Yteddlkdbefloaaa.S
