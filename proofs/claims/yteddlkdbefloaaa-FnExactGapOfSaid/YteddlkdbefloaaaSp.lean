/- The machinery S: what is promised of a function, in the world; and from a caller's state to its arguments. -/
import Derived.Test.YteddlkdbefloaaaSo
namespace Go.Proofs.Yteddlkdbefloaaa.S
open Go Go.RowKit
set_option linter.unusedVariables false
set_option linter.unusedSimpArgs false

def noB : Nat → Option Pl := fun _ => none

/-- A struct that is handed over with its rows; the rows have names. -/
def AggR (w : World) (S Q : Nat → Prop) (B : Nat → Option Pl) (nm : Nat) : (cs : List CK) → denC cs → List Value → List Nat → Prop
  | [], _, vs, F => vs = [] ∧ F = []
  | .own e t :: r, x, vs, F => ∃ v vs' q F2, vs = v :: vs' ∧ F = blkq q ++ F2 ∧ B nm = some (.row q x.1.length) ∧ RowO w S e t x.1 q ∧ RowV q x.1.length v ∧ AggR w S Q B (nm + 1) r x.2 vs' F2
  | .dat t :: r, x, vs, F => ∃ v vs', vs = v :: vs' ∧ CellR w S Q noB (.dat t) x.1 v [] ∧ AggR w S Q B (nm + 1) r x.2 vs' F
  | .ptr o f :: r, x, vs, F => False
  | .ref o :: r, x, vs, F => False
  | .pd t :: r, x, vs, F => ∃ v vs', vs = v :: vs' ∧ CellR w S Q noB (.pd t) x.1 v [] ∧ AggR w S Q B (nm + 1) r x.2 vs' F
  | .fn f ts :: r, x, vs, F => ∃ v vs', vs = v :: vs' ∧ CellR w S Q noB (.fn f ts) x.1 v [] ∧ AggR w S Q B (nm + 1) r x.2 vs' F
  | .mp :: r, x, vs, F => False
  | .bx _ :: r, x, vs, F => False
  | .any :: r, x, vs, F => ∃ v vs', vs = v :: vs' ∧ AggR w S Q B (nm + 1) r x.2 vs' F

/-- Its rows behind the call. -/
def CwR (w : World) (S : Nat → Prop) : (cs : List CK) → denCw cs → List Value → List Nat → Prop
  | [], _, vs, F => vs = [] ∧ F = []
  | .own e t :: r, y, vs, F => ∃ v vs' q F2, vs = v :: vs' ∧ F = blkq q ++ F2 ∧ RowO w S e t y.1 q ∧ RowV q y.1.length v ∧ CwR w S r y.2 vs' F2
  | .dat _ :: r, y, vs, F => ∃ v vs', vs = v :: vs' ∧ CwR w S r y vs' F
  | .ptr _ _ :: r, y, vs, F => ∃ v vs', vs = v :: vs' ∧ CwR w S r y vs' F
  | .ref _ :: r, y, vs, F => ∃ v vs', vs = v :: vs' ∧ CwR w S r y vs' F
  | .pd _ :: r, y, vs, F => ∃ v vs', vs = v :: vs' ∧ CwR w S r y vs' F
  | .fn _ _ :: r, y, vs, F => ∃ v vs', vs = v :: vs' ∧ CwR w S r y vs' F
  | .mp :: r, y, vs, F => ∃ v vs', vs = v :: vs' ∧ CwR w S r y vs' F
  | .bx _ :: r, y, vs, F => ∃ v vs', vs = v :: vs' ∧ CwR w S r y vs' F
  | .any :: r, y, vs, F => ∃ v vs', vs = v :: vs' ∧ CwR w S r y vs' F

/-- Arguments. -/
def ArgsR (w : World) (S Q : Nat → Prop) (B : Nat → Option Pl) (i : Nat) : (ps : List PK) → denP ps → List Value → List Nat → Prop
  | [], _, vs, F => vs = [] ∧ F = []
  | .val t :: r, x, vs, F => ∃ v vs', vs = v :: vs' ∧ (∃ cs, Val t v cs ∧ Rp w S t x.1 cs) ∧ ArgsR w S Q B (i + 1) r x.2 vs' F
  | .ptr t :: r, x, vs, F => ∃ v vs', vs = v :: vs' ∧ (∃ b off cs, v = .pointer (some ⟨b, off, none⟩) ∧ Q b ∧ Rp w S t x.1 cs ∧ At w b off cs) ∧ ArgsR w S Q B (i + 1) r x.2 vs' F
  | .fn f ts :: r, x, vs, F => ∃ v vs', vs = v :: vs' ∧ (∃ us, v = .func (.func f) #[] us.toArray ∧ CapsR w S Q ts x.1 us) ∧ ArgsR w S Q B (i + 1) r x.2 vs' F
  | .box ci _ :: r, x, vs, F => ∃ v vs' F1 F2 b base c e, vs = v :: vs' ∧ F = F1 ++ F2 ∧ B (9000000 + i) = some (.box b base) ∧ v = .pointer (some ⟨b, base, none⟩) ∧ w.heap[b]? = some (.cells c e (0, 0)) ∧
      base + ci.length ≤ c.size ∧ CellsR w S Q noB ci x.1 ((c.toList.drop base).take ci.length) F1 ∧ (∀ u ∈ (c.toList.drop base).take ci.length, u.oneCell' = true) ∧ ArgsR w S Q B (i + 1) r x.2 vs' F2
  | .row e t :: r, x, vs, F => ∃ v vs' q F2, vs = v :: vs' ∧ F = blkq q ++ F2 ∧ B (9000100 + 100 * i) = some (.row q x.1.length) ∧ RowO w S e t x.1 q ∧ RowV q x.1.length v ∧ ArgsR w S Q B (i + 1) r x.2 vs' F2
  | .agg cs :: r, x, vs, F => ∃ v vs' us F1 F2, vs = v :: vs' ∧ F = F1 ++ F2 ∧ v = .agg us.toArray ∧ AggR w S Q B (9000100 + 100 * i) cs x.1 us F1 ∧ ArgsR w S Q B (i + 1) r x.2 vs' F2

/-- What has become of them. -/
def OutsR (w : World) (S : Nat → Prop) : (ps : List PK) → denQ ps → List Value → List Nat → Prop
  | [], _, vs, F => vs = [] ∧ F = []
  | .val _ :: r, y, vs, F => ∃ v vs', vs = v :: vs' ∧ OutsR w S r y vs' F
  | .ptr _ :: r, y, vs, F => ∃ v vs', vs = v :: vs' ∧ OutsR w S r y vs' F
  | .fn _ _ :: r, y, vs, F => ∃ v vs', vs = v :: vs' ∧ OutsR w S r y vs' F
  | .box ci co :: r, y, vs, F => ∃ v vs' F1 F2 b base c e, vs = v :: vs' ∧ F = F1 ++ F2 ∧ v = .pointer (some ⟨b, base, none⟩) ∧ co.length = ci.length ∧ w.heap[b]? = some (.cells c e (0, 0)) ∧
      base + co.length ≤ c.size ∧ CellsR w S (fun _ => False) noB co y.1 ((c.toList.drop base).take co.length) F1 ∧ (∀ u ∈ (c.toList.drop base).take co.length, u.oneCell' = true) ∧ OutsR w S r y.2 vs' F2
  | .row e t :: r, y, vs, F => ∃ v vs' q F2, vs = v :: vs' ∧ F = blkq q ++ F2 ∧ RowO w S e t y.1 q ∧ RowV q y.1.length v ∧ OutsR w S r y.2 vs' F2
  | .agg cs :: r, y, vs, F => ∃ v vs' us F1 F2, vs = v :: vs' ∧ F = F1 ++ F2 ∧ v = .agg us.toArray ∧ CwR w S cs y.1 us F1 ∧ OutsR w S r y.2 vs' F2

structure Pre (M : Nat → Nat → Prop) (w : World) (ps : List PK) (S Q : Nat → Prop) (B : Nat → Option Pl) (F : List Nat) : Prop where
  fresh : ∀ b, w.heap.size ≤ b → ∀ i, M b i
  nodup : F.Nodup
  mine : ∀ b ∈ F, (∀ i, M b i) ∧ b < w.heap.size
  box : ∀ o b base, B o = some (.box b base) → o ∈ (parBx 0 ps).map (·.1) ∧ b ∉ F ∧ b < w.heap.size ∧ ∀ ci, (o, ci) ∈ parBx 0 ps → ∀ i, i < ci.length → M b (base + i)
  row : ∀ o q n, B o = some (.row q n) → o ∈ (parRw 0 ps).map (·.1)
  inj : ∀ o o' b base base', B o = some (.box b base) → B o' = some (.box b base') → o = o'
  data : ∀ b, b < w.heap.size → S b → b ∉ F ∧ ∀ o base, B o ≠ some (.box b base)
  ptr : ∀ b, Q b → b ∉ F ∧ ∀ o base, B o ≠ some (.box b base)

/-- Where what a call answers may lie. -/
def after (S : Nat → Prop) (M : Nat → Nat → Prop) (B : Nat → Option Pl) (F : List Nat) (b : Nat) : Prop := (S b ∨ ∀ i, M b i) ∧ b ∉ F ∧ ∀ o base, B o ≠ some (.box b base)

def tupV (vs : List Value) : Value := match vs with | [v] => v | _ => .tuple vs.toArray

def Post (M : Nat → Nat → Prop) (w : World) (S : Nat → Prop) (B : Nat → Option Pl) (cn : Con) (args : List Value) (y : denV cn.rs × denQ cn.ps) (v : Value) (w' : World) : Prop :=
  Kept M w w' ∧ ∃ vs F1 F2, v = tupV vs ∧ VKsR w' (after S M B (F1 ++ F2)) (fun _ => False) noB cn.rs y.1 vs F1 ∧ OutsR w' (after S M B (F1 ++ F2)) cn.ps y.2 args F2 ∧ (F1 ++ F2).Nodup ∧
    ∀ b ∈ F1 ++ F2, (∀ i, M b i) ∧ b < w'.heap.size ∧ ∀ o base, B o ≠ some (.box b base)

/-- The first argument is the nil slice, where the promise asks that. -/
def nlV : Bool → List Value → Prop
  | false, _ => True
  | true, args => ∃ r, args = .slice none 0 0 :: r

/-- What is promised of a function holds. -/
def Sound (P : Program) (f : FuncId) (cn : Con) : Prop :=
  ∀ (x : denP cn.ps) (y : denV cn.rs × denQ cn.ps), cn.F x = some y → ∀ (w : World) (args : List Value) (S Q : Nat → Prop) (B : Nat → Option Pl) (M : Nat → Nat → Prop) (F : List Nat),
    Pre M w cn.ps S Q B F → ArgsR w S Q B 0 cn.ps x args F → nlV cn.nl args → Calls P f args.toArray w fun e w' => ∃ v, e = .returned v ∧ Post M w S B cn args y v w'

/-- A call of it comes back as promised, whatever it is that is called. -/
def CallsOk (P : Program) (f : FuncId) (cn : Con) : Prop :=
  ∀ (x : denP cn.ps) (y : denV cn.rs × denQ cn.ps), cn.F x = some y → ∀ (w : World) (args : List Value) (S Q : Nat → Prop) (B : Nat → Option Pl) (M : Nat → Nat → Prop) (F : List Nat),
    Pre M w cn.ps S Q B F → ArgsR w S Q B 0 cn.ps x args F → nlV cn.nl args → ∀ (o : Oper) (a : Act) (next : Act → World → Prop) (Q' : Exit → Act → World → Prop), (∀ v w', Post M w S B cn args y v w' → next (a.put o.dst v) w') →
      o.upon P a next Q' ((callFunc f args.toArray).run P w)

theorem Sound.ok {P : Program} {f : FuncId} {cn : Con} (h : Sound P f cn) (he : ∀ args w, (callFunc f args).run P w = .ok (.enter f args) w) : CallsOk P f cn := by
  intro x y hx w args S Q B M F hp ha hnl o a next Q' hn
  rw [he, Oper.upon_enter]
  refine (h x y hx w args S Q B M F hp ha hnl).mono fun e w' hv => ?_
  obtain ⟨v, rfl, hv⟩ := hv
  exact hn v w' hv

theorem enter_ok {P : Program} {f : FuncId} {fn : Func} (hf : P.funcs[f]? = some fn) (hn : (fn.name == "runtime.NumGoroutine") = false) (hb : fn.body.isSome = true) (args : Array Value) (w : World) : (callFunc f args).run P w = .ok (.enter f args) w := by
  have h1 : fn.name ≠ "runtime.NumGoroutine" := by simpa using hn
  obtain ⟨c, hc⟩ := Option.isSome_iff_exists.1 hb
  simp [callFunc, hf, h1, hc]

def EnvOk (P : Program) (G : Env) : Prop := ∀ p ∈ G, CallsOk P p.1 p.2

theorem lookC_mem : ∀ {G : Env} {g : FuncId} {xs : List SV} {cn : Con}, lookC G g xs = some cn → (g, cn) ∈ G
  | [], _, _, _, h => by simp [lookC] at h
  | (k, c) :: r, g, xs, cn, h => by
    simp only [lookC] at h
    split at h
    · rename_i e
      obtain ⟨rfl, _⟩ := e
      obtain rfl := Option.some.inj h
      simp
    · exact List.mem_cons_of_mem _ (lookC_mem h)

/-! ### from a caller's state to the arguments -/
/-- The boxes that are handed over: the parameter's name, the caller's, from where, how many cells. -/
def bxl (i : Nat) : List PK → List SV → List (Nat × Nat × Nat × Nat)
  | .box ci _ :: r, .s (.p o off) :: xs => (9000000 + i, o, off, ci.length) :: bxl (i + 1) r xs
  | .box _ _ :: r, _ :: xs => bxl (i + 1) r xs
  | .val _ :: r, _ :: xs => bxl (i + 1) r xs
  | .ptr _ :: r, _ :: xs => bxl (i + 1) r xs
  | .fn _ _ :: r, _ :: xs => bxl (i + 1) r xs
  | .row _ _ :: r, _ :: xs => bxl (i + 1) r xs
  | .agg _ :: r, _ :: xs => bxl (i + 1) r xs
  | _, _ => []

def plR (β : Names) (H : Heap) : S1 → Pl
  | .sl o => .row (β o) (match look H o with | some (.row _ _ xs) => xs.length | _ => 0)
  | _ => .row none 0

def rwC (β : Names) (H : Heap) (nm : Nat) : List CK → List S1 → List (Nat × Pl)
  | .own _ _ :: r, s :: ss => (nm, plR β H s) :: rwC β H (nm + 1) r ss
  | .dat _ :: r, _ :: ss => rwC β H (nm + 1) r ss
  | .ptr _ _ :: r, _ :: ss => rwC β H (nm + 1) r ss
  | .ref _ :: r, _ :: ss => rwC β H (nm + 1) r ss
  | .pd _ :: r, _ :: ss => rwC β H (nm + 1) r ss
  | .fn _ _ :: r, _ :: ss => rwC β H (nm + 1) r ss
  | .mp :: r, _ :: ss => rwC β H (nm + 1) r ss
  | .bx _ :: r, _ :: ss => rwC β H (nm + 1) r ss
  | .any :: r, _ :: ss => rwC β H (nm + 1) r ss
  | _, _ => []

/-- The rows that are handed over. -/
def rwl (β : Names) (H : Heap) (i : Nat) : List PK → List SV → List (Nat × Pl)
  | .row _ _ :: r, .s s :: xs => (9000100 + 100 * i, plR β H s) :: rwl β H (i + 1) r xs
  | .row _ _ :: r, _ :: xs => rwl β H (i + 1) r xs
  | .agg cs :: r, .g ss :: xs => rwC β H (9000100 + 100 * i) cs ss ++ rwl β H (i + 1) r xs
  | .agg _ :: r, _ :: xs => rwl β H (i + 1) r xs
  | .val _ :: r, _ :: xs => rwl β H (i + 1) r xs
  | .ptr _ :: r, _ :: xs => rwl β H (i + 1) r xs
  | .fn _ _ :: r, _ :: xs => rwl β H (i + 1) r xs
  | .box _ _ :: r, _ :: xs => rwl β H (i + 1) r xs
  | _, _ => []

variable {w w0 : World} {S S' Q Z : Nat → Prop} {M : Nat → Nat → Prop} {N : Nat → Option (Option (Nat × Nat))} {B : Nat → Option Pl} {a : Act} {σ : St} {β : Names} {H : Heap} {fr l : List Nat}

theorem Cuts.sub {sh sh' : List Nat} (h : Cuts H fr l sh) (hs : ∀ o ∈ sh', o ∈ sh) : Cuts H fr l sh' := ⟨h.out, fun o ho => h.shown o (hs o ho)⟩

/-- An own row that is handed over. -/
theorem own_sound (hO : Owns w S β (frz H fr)) (hc : ∀ o, o ∈ l → o ∉ fr) {e : TypeId} {t : Ty} {s : S1} {v : Value} {x : List (den t)} {l1 : List Nat} (hv : VS w S β (frz H fr) s v) (h : unC H (.own e t) s = some (x, l1)) (hl1 : ∀ o ∈ l1, o ∈ l) :
    ∃ q, blks β l1 = blkq q ∧ plR β H s = .row q x.length ∧ RowO w S e t x q ∧ RowV q x.length v := by
  simp only [unC] at h
  split at h
  · simp only [Option.some.injEq, Prod.mk.injEq] at h
    obtain ⟨rfl, rfl⟩ := h
    simp only [VS] at hv
    exact ⟨none, rfl, rfl, .inl ⟨rfl, rfl⟩, hv, rfl⟩
  · rename_i o
    split at h
    · rename_i e' t' xs ho
      split at h
      · rename_i he
        subst he
        split at h
        · rename_i ys hys
          simp only [Option.some.injEq, Prod.mk.injEq] at h
          obtain ⟨rfl, rfl⟩ := h
          obtain ⟨e1, e2⟩ := cst_some hys
          simp only [Ty.slice.injEq] at e1
          subst e1
          simp only at e2
          subst e2
          have hof := hc o (hl1 o (by simp))
          have hk := frz_row (l := fr) ho
          rw [if_neg hof] at hk
          simp only [VS, hk] at hv
          exact ⟨β o, by simp [blks], by simp [plR, ho], hO o _ hk, hv⟩
        · cases h
      · cases h
    · cases h
  · cases h

theorem aggC_ptr {c : CK} (h : aggC c = true) : ptrC [] c = true := by cases c <;> first | rfl | cases h

theorem aggCs_ptr {cs : List CK} (h : cs.all aggC = true) : cs.all (ptrC []) = true := by
  rw [List.all_eq_true] at h ⊢
  exact fun c hc => aggC_ptr (h c hc)

theorem agg_sound (hO : Owns w S β (frz H fr)) (hQ : ∀ b, ¬ Own β (frz H fr) b → Q b) : ∀ {cs : List CK} {ss : List S1} {vs : List Value} {x : denC cs} {l1 : List Nat} {nm : Nat}, All2 (VS w S β (frz H fr)) ss vs → unCs H cs ss = some (x, l1) →
    (∀ o ∈ l1, o ∈ l) → freeCs H l cs ss = true → cs.all aggC = true → Cuts H fr l (slNames ss) → (∀ p ∈ rwC β H nm cs ss, B p.1 = some p.2) → AggR w S Q B nm cs x vs (blks β l1)
  | [], [], _, _, _, _, hv, h, _, _, _, _, _ => by
    cases hv
    simp only [unCs, Option.some.injEq, Prod.mk.injEq] at h
    obtain ⟨_, rfl⟩ := h
    exact ⟨rfl, rfl⟩
  | c :: r, s :: ss, _, x, l1, nm, hv, h, hl, hf, hp, hc, hB => by
    simp only [List.all_cons, Bool.and_eq_true] at hp
    cases hv with
    | cons h1 h2 =>
      simp only [unCs] at h
      split at h
      · rename_i y l2 hy
        split at h
        · rename_i z l3 hz
          simp only [Option.some.injEq, Prod.mk.injEq] at h
          obtain ⟨rfl, rfl⟩ := h
          simp only [freeCs, Bool.and_eq_true] at hf
          rw [slNames_cons] at hc
          have rest : (∀ p ∈ rwC β H (nm + 1) r ss, B p.1 = some p.2) → AggR w S Q B (nm + 1) r z _ (blks β l3) := fun hB' =>
            agg_sound hO hQ h2 hz (fun o ho => hl o (List.mem_append_right _ ho)) hf.2 hp.2 (hc.sub fun o ho => List.mem_append_right _ ho) hB'
          have one := unC_sound hO hQ h1 hy (fun o ho => hl o (List.mem_append_left _ ho)) hf.1 (bs := []) (aggC_ptr hp.1) (fun o ho => by simp at ho) (hc.sub fun o ho => List.mem_append_left _ ho)
          cases c with
          | own e t =>
            obtain ⟨q, g1, g2, g3, g4⟩ := own_sound hO hc.out h1 hy (fun o ho => hl o (List.mem_append_left _ ho))
            refine ⟨_, _, q, blks β l3, rfl, by rw [blks_append, g1], ?_, g3, g4, rest fun p hp => hB p (by simp [rwC, hp])⟩
            rw [← g2]; exact hB (nm, plR β H s) (by simp [rwC])
          | dat t =>
            obtain ⟨g1, g2⟩ := one
            exact ⟨_, _, rfl, ⟨g1, rfl⟩, by rw [blks_append, g2, List.nil_append]; exact rest fun p hp => hB p hp⟩
          | ptr o f => simp [aggC] at hp
          | ref o => simp [aggC] at hp
          | mp => simp [aggC] at hp
          | bx t => simp [aggC] at hp
          | pd t =>
            obtain ⟨g1, g2⟩ := one
            exact ⟨_, _, rfl, ⟨g1, rfl⟩, by rw [blks_append, g2, List.nil_append]; exact rest fun p hp => hB p hp⟩
          | fn f =>
            obtain ⟨g1, g2⟩ := one
            exact ⟨_, _, rfl, ⟨g1, rfl⟩, by rw [blks_append, g2, List.nil_append]; exact rest fun p hp => hB p hp⟩
          | any =>
            have g2 : blks β l2 = [] := one
            exact ⟨_, _, rfl, by rw [blks_append, g2, List.nil_append]; exact rest fun p hp => hB p hp⟩
        · cases h
      · cases h
  | [], _ :: _, _, _, _, _, _, h, _, _, _, _, _ => by simp [unCs] at h
  | _ :: _, [], _, _, _, _, _, h, _, _, _, _, _ => by simp [unCs] at h

theorem CellR_none {c : CK} {x : c.den} {v : Value} {F : List Nat} (h : CellR w S Q B c x v F) (hp : ptrC [] c = true) : CellR w S Q noB c x v F := CellR_B (bs := []) (fun o ho => by simp at ho) h hp

theorem capD_sound {fr bs : List Nat} (hO : Owns w S β (frz H fr)) (hQ : ∀ b, ¬ Own β (frz H fr) b → Q b) (hQ1 : ∀ o cs b base, look H o = some (.box cs) → o ∉ bs → β o = some (b, base) → Q b) (f : FuncId) :
    ∀ {ts : List Ty} {q : List Cap} {us : List Value} {x : denT ts}, All2 (PR w S β (frz H fr)) q us → capD H ts q = some x → q.all (capFree bs) = true →
    (∀ o ∈ rowsOf H (.s (.fn f q)), ∀ e t xs, look H o = some (.row e t xs) → o ∈ fr) → CapsR w S Q ts x us
  | [], [], _, _, .nil, _, _, _ => rfl
  | t :: r, c :: q, _, x, .cons h hr, hx, hf, hs => by
    simp only [capD] at hx
    split at hx
    · rename_i y hy
      split at hx
      · rename_i z hz
        obtain rfl := Option.some.inj hx
        simp only [List.all_cons, Bool.and_eq_true] at hf
        have rest := capD_sound hO hQ hQ1 f hr hz hf.2 fun o ho => hs o (by
          simp only [rowsOf, List.flatMap_cons, List.mem_append] at ho ⊢; exact .inr ho)
        cases c with
        | pd s' d =>
          simp only [capV] at hy
          obtain ⟨b, off, cs, e1, e2, e3, e4⟩ := h
          obtain ⟨rfl, e5⟩ := cst_Rp hy e3
          exact ⟨b, off, cs, _, by rw [e1], hQ b e2, e5, e4, rest⟩
        | p o off =>
          simp only [capV] at hy
          split at hy
          · rename_i cs ho
            split at hy
            · rename_i qq hg
              obtain rfl := Option.some.inj hy
              have hk : look (frz H fr) o = some (.box cs) := by rw [frz_same (by intro e t xs e'; rw [ho] at e'; cases e'), ho]
              simp only [PR, hk] at h
              obtain ⟨b, base, e1, e2⟩ := h
              obtain ⟨b', base', c, e, e3, hh, hbd, hall⟩ := hO o _ hk
              rw [e1] at e3
              simp only [Option.some.injEq, Prod.mk.injEq] at e3
              obtain ⟨rfl, rfl⟩ := e3
              have hsl : ∀ o' ∈ slNames (cs.drop off), o' ∈ rowsOf H (.s (.fn f (.p o off :: q))) := by
                intro o' ho'
                simp only [rowsOf, List.flatMap_cons, ho, List.mem_append]
                left
                simp only [slNames, List.mem_filterMap] at ho' ⊢
                obtain ⟨s1, hs1, hs2⟩ := ho'
                exact ⟨s1, List.mem_of_mem_drop hs1, hs2⟩
              obtain ⟨v1, v2, ev, hr1, _⟩ := gat_sound (own := false) hO (fun _ _ _ h => h) (by simp) ((hall.mono fun _ _ h => h.1).drop off) (gat_frz (l := fr) hg fun o' ho' => hs o' (hsl o' ho'))
              refine ⟨b, base + off, v1, _, by rw [e2], ?_, hr1, ⟨c, e, _, hh, fun j hj => ?_⟩, rest⟩
              · refine hQ1 o cs b base ho ?_ e1
                simpa [capFree] using hf.1
              · have : (v1 ++ v2)[j]? = v1[j]? := List.getElem?_append_left hj
                rw [← this, ← ev, List.getElem?_drop, List.getElem?_take, if_pos, List.getElem?_drop, Array.getElem?_toList]
                · congr 1; omega
                · have hlen : (v1 ++ v2).length = cs.length - off := by
                    have hcl : c.toList.length = c.size := Array.length_toList
                    rw [← ev, List.length_drop, List.length_take, List.length_drop]; omega
                  rw [List.length_append] at hlen
                  omega
            · cases hy
          · cases hy
      · cases hx
    · cases hx
  | [], _ :: _, _, _, _, h, _, _ => by simp [capD] at h
  | _ :: _, [], _, _, _, h, _, _ => by simp [capD] at h

theorem args_sound {S0 : Nat → Prop} (hO : Owns w S β (frz σ.H fr)) (hO0 : Owns w S0 β σ.H) (hS0 : ∀ t (x : den t) cs, Rp w S0 t x cs → Rp w S t x cs) (hQ : ∀ b, ¬ Own β (frz σ.H fr) b → Q b) {l bs : List Nat} (hfr : ∀ o, o ∈ l → o ∉ fr)
    (hQ1 : ∀ o cs b base, look σ.H o = some (.box cs) → o ∉ bs → β o = some (b, base) → Q b) (hQ2 : ∀ o e t xs b cap, look σ.H o = some (.row e t xs) → o ∉ l → β o = some (b, cap) → Q b) :
    ∀ {ps : List PK} {xs : List SV} {vs : List Value} {x : denP ps} {l1 b1 : List Nat} {i : Nat}, All2 (VV w S β (frz σ.H fr)) xs vs → All2 (VV w S0 β σ.H) xs vs → argsD σ ps xs = some (x, l1, b1) → (∀ o ∈ l1, o ∈ l) → (∀ o ∈ b1, o ∈ bs) →
    freeAs σ.H l bs ps xs = true → ps.all noPtr = true → (∀ s ∈ xs, Cuts σ.H fr l (rowsOf σ.H s)) → (∀ p ∈ bxl i ps xs, ∃ b base, β p.2.1 = some (b, base) ∧ B p.1 = some (.box b (base + p.2.2.1))) → (∀ p ∈ rwl β σ.H i ps xs, B p.1 = some p.2) →
    ArgsR w S Q B i ps x vs (blks β l1)
  | [], [], _, _, _, _, _, hv, _, h, _, _, _, _, _, _, _ => by
    cases hv
    simp only [argsD, Option.some.injEq, Prod.mk.injEq] at h
    obtain ⟨_, rfl, _⟩ := h
    exact ⟨rfl, rfl⟩
  | k :: r, s :: ss, _, x, l1, b1, i, hv, hv0, h, hl, hb, hf, hp, hc, hB, hR => by
    simp only [List.all_cons, Bool.and_eq_true] at hp
    cases hv with
    | @cons _ v _ vs' h1 h2 =>
    cases hv0 with
    | cons h01 h02 =>
      simp only [argsD] at h
      split at h
      · rename_i y hy
        split at h
        · rename_i z hz
          simp only [Option.some.injEq, Prod.mk.injEq] at h
          obtain ⟨rfl, rfl, rfl⟩ := h
          simp only [freeAs, Bool.and_eq_true] at hf
          have hcs := hc s (by simp)
          have rest : (∀ p ∈ bxl (i + 1) r ss, ∃ b base, β p.2.1 = some (b, base) ∧ B p.1 = some (.box b (base + p.2.2.1))) → (∀ p ∈ rwl β σ.H (i + 1) r ss, B p.1 = some p.2) → ArgsR w S Q B (i + 1) r z.1 vs' (blks β z.2.1) := fun hB' hR' =>
            args_sound hO hO0 hS0 hQ hfr hQ1 hQ2 h2 h02 (b1 := z.2.2) hz (fun o ho => hl o (List.mem_append_right _ ho)) (fun o ho => hb o (List.mem_append_right _ ho)) hf.2 hp.2 (fun s hs => hc s (by simp [hs])) hB' hR'
          have hl' : ∀ o ∈ y.2.1, o ∈ l := fun o ho => hl o (List.mem_append_left _ ho)
          have shown : (rowsOf σ.H s).all (fun o => !(l.contains o)) = true → ∀ o ∈ rowsOf σ.H s, ∀ e t xs, look σ.H o = some (.row e t xs) → o ∈ fr := by
            intro hall o ho e t xs hk
            refine hcs.shown o ho e t xs hk fun hol => ?_
            have := List.all_eq_true.1 hall o ho
            simp [hol] at this
          cases k with
          | val t =>
            simp only [argD] at hy
            split at hy
            · rename_i d hd
              obtain rfl := Option.some.inj hy
              exact ⟨v, vs', rfl, toD_sound (own := false) hO (fun _ _ _ h => h) (by simp) h1 (toD_frzL hd (shown hf.1)), rest (fun p hp => hB p hp) (fun p hp => hR p hp)⟩
            · cases hy
          | ptr t =>
            simp only [freeA, Bool.and_eq_true] at hf
            simp only [argD] at hy
            have go : y.2.1 = [] → (∃ b off cs, v = .pointer (some ⟨b, off, none⟩) ∧ Q b ∧ Rp w S t y.1 cs ∧ At w b off cs) → ArgsR w S Q B i (.ptr t :: r) (y.1, z.1) (v :: vs') (blks β (y.2.1 ++ z.2.1)) := by
              intro e1 hh
              rw [e1, List.nil_append]
              exact ⟨v, vs', rfl, hh, rest (fun p hp => hB p hp) (fun p hp => hR p hp)⟩
            split at hy
            · rename_i t' d
              split at hy
              · rename_i d' hd
                obtain rfl := Option.some.inj hy
                obtain ⟨b, off, cs, e1, e2, e3, e4⟩ := VV_pd h1
                obtain ⟨rfl, e5⟩ := cst_Rp hd e3
                exact go rfl ⟨b, off, cs, e1, hQ b e2, e5, e4⟩
              · cases hy
            · rename_i o off
              split at hy
              · rename_i cs ho
                split at hy
                · rename_i d rr hg
                  obtain rfl := Option.some.inj hy
                  have hk : look (frz σ.H fr) o = some (.box cs) := by rw [frz_same (by intro e t xs e'; rw [ho] at e'; cases e'), ho]
                  obtain ⟨b, base, e1, e2⟩ := VV_p h1 hk
                  obtain ⟨b', base', c, e, e3, hh, hbd, hall⟩ := hO o _ hk
                  rw [e1] at e3
                  simp only [Option.some.injEq, Prod.mk.injEq] at e3
                  obtain ⟨rfl, rfl⟩ := e3
                  have hsl : ∀ o' ∈ slNames (cs.drop off), o' ∈ rowsOf σ.H (.s (.p o off)) := by
                    intro o' ho'
                    simp only [rowsOf, ho]
                    simp only [slNames, List.mem_filterMap] at ho' ⊢
                    obtain ⟨s1, hs1, hs2⟩ := ho'
                    exact ⟨s1, List.mem_of_mem_drop hs1, hs2⟩
                  obtain ⟨v1, v2, ev, hr, _⟩ := gat_sound (own := false) hO (fun _ _ _ h => h) (by simp) ((hall.mono fun _ _ h => h.1).drop off) (gat_frz (l := fr) hg fun o' ho' => shown hf.1.1 o' (hsl o' ho'))
                  refine go rfl ⟨b, base + off, v1, e2, ?_, hr, c, e, _, hh, fun j hj => ?_⟩
                  · refine hQ1 o cs b base ho ?_ e1
                    simpa using hf.1.2
                  · have : (v1 ++ v2)[j]? = v1[j]? := List.getElem?_append_left hj
                    rw [← this, ← ev, List.getElem?_drop, List.getElem?_take, if_pos, List.getElem?_drop, Array.getElem?_toList]
                    · congr 1; omega
                    · have hlen : (v1 ++ v2).length = cs.length - off := by
                        have hcl : c.toList.length = c.size := Array.length_toList
                        rw [← ev, List.length_drop, List.length_take, List.length_drop]; omega
                      rw [List.length_append] at hlen
                      omega
                · cases hy
              · cases hy
            · rename_i o k off
              split at hy
              · rename_i e t' xs ho
                obtain ⟨d, hd, hy⟩ := Option.bind_eq_some_iff.1 hy
                obtain ⟨d', hd', hy⟩ := Option.bind_eq_some_iff.1 hy
                obtain rfl := Option.some.inj hy
                obtain ⟨hk, g, cap, hg1, hvp⟩ := VV_pe h01 ho
                rcases hO0 o _ ho with ⟨hq, _⟩ | ⟨g', cap', c, rows, hq, hh, hs, hl1, hmx, hrows, hi⟩
                · rw [hg1] at hq; cases hq
                rw [hg1] at hq
                simp only [Option.some.injEq, Prod.mk.injEq] at hq
                obtain ⟨rfl, rfl⟩ := hq
                obtain ⟨row, hr1, hr2⟩ := RpL_get (fun _ _ => Rp_len) hrows hd
                obtain ⟨p, m, q, rfl, hp1, hm⟩ := sub_sound hd' hr1
                have hml := Rp_len hm
                have hrl := Rp_len hr1
                simp only [List.length_append] at hrl
                have hrowsl := RpL_len (fun _ _ => Rp_len) hrows
                have hle : k * sz t' + sz t' ≤ rows.length := by
                  rw [hrowsl]
                  have : (k + 1) * sz t' ≤ xs.length * sz t' := Nat.mul_le_mul_right _ hk
                  rw [Nat.add_mul] at this; omega
                refine go rfl ⟨g, k * sz t' + off, m, hvp, hQ2 o e t' xs g cap ho ?_ hg1, hS0 _ _ _ hm, c, e, _, hh, fun j hj => ?_⟩
                · have := hf.1.1
                  simpa [rowsOf] using this
                · rw [Nat.add_assoc, hi _ (by omega), hr2 (off + j) (by omega), List.append_assoc, List.getElem?_append_right (by omega), hp1, Nat.add_sub_cancel_left, List.getElem?_append_left hj]
              · cases hy
            · cases hy
          | fn f ts =>
            simp only [freeA, Bool.and_eq_true] at hf
            simp only [argD] at hy
            split at hy
            · rename_i g q
              split at hy
              · rename_i he
                subst he
                split at hy
                · rename_i d hd
                  obtain rfl := Option.some.inj hy
                  obtain ⟨us, e, hus⟩ := h1
                  exact ⟨v, vs', rfl, ⟨us, e, capD_sound hO hQ hQ1 g hus hd (by simpa using hf.1.2) (shown hf.1.1)⟩, rest (fun p hp => hB p hp) (fun p hp => hR p hp)⟩
                · cases hy
              · cases hy
            · cases hy
          | box ci co =>
            simp only [noPtr, Bool.and_eq_true] at hp
            simp only [argD] at hy
            split at hy
            · rename_i o off
              split at hy
              · rename_i cs ho
                split at hy
                · rename_i hle
                  split at hy
                  · rename_i q hq
                    obtain rfl := Option.some.inj hy
                    have hk : look (frz σ.H fr) o = some (.box cs) := by rw [frz_same (by intro e t xs e'; rw [ho] at e'; cases e'), ho]
                    obtain ⟨b, base, e1, e2⟩ := VV_p h1 hk
                    obtain ⟨b', base', c, e, e3, hh, hbd, hall⟩ := hO o _ hk
                    rw [e1] at e3
                    simp only [Option.some.injEq, Prod.mk.injEq] at e3
                    obtain ⟨rfl, rfl⟩ := e3
                    obtain ⟨b2, base2, e4, e5⟩ := hB (9000000 + i, o, off, ci.length) (by simp [bxl])
                    simp only at e4 e5
                    rw [e1] at e4
                    simp only [Option.some.injEq, Prod.mk.injEq] at e4
                    obtain ⟨rfl, rfl⟩ := e4
                    obtain ⟨_, _, hall2⟩ := load_box hbd hall hle
                    have hone : ∀ u ∈ (c.toList.drop (base + off)).take ci.length, u.oneCell' = true := by
                      have := (hall.drop off).take ci.length
                      rw [List.drop_take, List.drop_drop, List.take_take, Nat.min_eq_left (by omega)] at this
                      exact this.right fun _ _ h => h.2
                    simp only [freeA, ho] at hf
                    have hsl : ∀ o' ∈ slNames ((cs.drop off).take ci.length), o' ∈ rowsOf σ.H (.s (.p o off)) := by
                      intro o' ho'
                      simp only [rowsOf, ho]
                      simp only [slNames, List.mem_filterMap] at ho' ⊢
                      obtain ⟨s1, hs1, hs2⟩ := ho'
                      exact ⟨s1, List.mem_of_mem_drop (List.mem_of_mem_take hs1), hs2⟩
                    have hcr := unCs_sound hO hQ hall2 hq hl' hf.1 (bs := []) (aggCs_ptr hp.1.1) (fun o ho => by simp at ho) (hcs.sub hsl)
                    exact ⟨v, vs', _, _, b, base + off, c, e, rfl, blks_append, e5, e2, hh, by omega, CellsR_B (bs := []) (fun o ho => by simp at ho) hcr (aggCs_ptr hp.1.1), hone,
                      rest (fun p hp => hB p (by simp [bxl, hp])) (fun p hp => hR p hp)⟩
                  · cases hy
                · cases hy
              · cases hy
            · cases hy
          | row e t =>
            simp only [argD] at hy
            split at hy
            · rename_i s1
              split at hy
              · rename_i q hq
                obtain rfl := Option.some.inj hy
                by_cases hd : ∃ t' z, s1 = .d t' z
                · obtain ⟨t', z', rfl⟩ := hd
                  simp [unC] at hq
                · obtain ⟨q', g1, g2, g3, g4⟩ := own_sound hO hfr ((VV_s fun t z e => hd ⟨t, z, e⟩).1 h1) hq hl'
                  refine ⟨v, vs', q', blks β z.2.1, rfl, by rw [blks_append, g1], ?_, g3, g4, rest (fun p hp => hB p hp) (fun p hp => hR p (by simp [rwl, hp]))⟩
                  rw [← g2]; exact hR (9000100 + 100 * i, plR β σ.H s1) (by simp [rwl])
              · cases hy
            · cases hy
          | agg cs =>
            simp only [noPtr] at hp
            simp only [argD] at hy
            split at hy
            · rename_i s1
              split at hy
              · rename_i q hq
                obtain rfl := Option.some.inj hy
                obtain ⟨us, e1, hall⟩ := h1
                simp only [freeA] at hf
                exact ⟨v, vs', us, _, _, rfl, blks_append, e1, agg_sound hO hQ hall hq hl' hf.1 hp.1 hcs (fun p hp => hR p (by simp [rwl, hp])), rest (fun p hp => hB p hp) (fun p hp => hR p (by simp [rwl, hp]))⟩
              · cases hy
            · cases hy
        · cases h
      · cases h
  | [], _ :: _, _, _, _, _, _, _, _, h, _, _, _, _, _, _, _ => by simp [argsD] at h
  | _ :: _, [], _, _, _, _, _, _, _, h, _, _, _, _, _, _, _ => by simp [argsD] at h

end Go.Proofs.Yteddlkdbefloaaa.S
