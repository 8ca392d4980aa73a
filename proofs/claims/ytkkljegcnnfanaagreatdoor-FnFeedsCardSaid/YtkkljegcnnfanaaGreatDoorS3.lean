/- The machinery S, part 3: a run of a program's code over typed symbolic data, and that it is what the code does. -/
import Derived.Test.YtkkljegcnnfanaaGreatDoorS2
set_option linter.unusedVariables false
set_option linter.unusedSimpArgs false
namespace Go.Proofs.YtkkljegcnnfanaaGreatDoor.S
section
open Go Go.RowKit
inductive Pl
 | box (b base:Nat)
 | row (q:Option (Nat×Nat)) (n:Nat)
def blkq (q:Option (Nat×Nat)):List Nat:=match q with | some p=>p.1::bits p.2 | none=>[]
def QkV (w:World) (S Q:Nat→Prop):(ts:List Ty)→denT ts→List Value→Prop
 | [],_,vs=>vs=[]
 | t::r,x,vs=> ∃v vs',vs=v::vs'∧PtrR w S Q t x.1 v∧QkV w S Q r x.2 vs'
def QcW (w:World) (S Q:Nat→Prop) (B:Nat→Option Pl):(c:CK)→c.den→Value→List Nat→Prop
 | .dat t,x,v,F=>(isAg t=false∧Rp w S t x [v])∧F=[]
 | .own e t,xs,v,F=> ∃q,RowO w S e t xs q∧RowV q xs.length v∧F=blkq q
 | .vw e t,x,v,F=> ∃q,RowO w S e t x.1 q∧(deep e=false∧x.2.1+x.2.2≤x.1.length)∧(∃v0,RowV q x.1.length v0)∧VW q (sz t) x.2.1 x.2.2 v∧F=blkq q
 | .ptr o off,_,v,F=>(∃b base,B o=some (.box b base)∧v= .pointer (some ⟨b,base+off,none⟩))∧F=[]
 | .ref o,_,v,F=>(∃q n,B o=some (.row q n)∧RowV q n v)∧F=[]
 | .pd t,x,v,F=>PtrR w S Q t x v∧F=[]
 | .fn f ts,x,v,F=>(∃us,v= .func (.func f) #[] us.toArray∧QkV w S Q ts x us)∧F=[]
 | .mp,x,v,F=> ∃b base,MapO w x (some (b,base))∧v= .map (some b)∧F=[b]
 | .bx t,x,v,F=> ∃b c e cs,v= .pointer (some ⟨b,0,none⟩)∧w.heap[b]?=some (.cells c e (0,0))∧c.toList=cs∧Rp w S t x cs∧F=[b]
 | .any,_,_,F=>F=[]
def Qbz (w:World) (S Q:Nat→Prop) (B:Nat→Option Pl):(cs:List CK)→denC cs→List Value→List Nat→Prop
 | [],_,vs,F=>vs=[]∧F=[]
 | c::r,x,vs,F=> ∃v vs' F1 F2,vs=v::vs'∧F=F1++F2∧QcW w S Q B c x.1 v F1∧Qbz w S Q B r x.2 vs' F2
def VKR (w:World) (S Q:Nat→Prop) (B:Nat→Option Pl):(k:VK)→k.den→Value→List Nat→Prop
 | .s (.dat t),x,v,F=>(∃cs,Val t v cs∧Rp w S t x cs)∧F=[]
 | .s c,x,v,F=>QcW w S Q B c x v F
 | .g cs,x,v,F=> ∃vs,v= .agg vs.toArray∧Qbz w S Q B cs x vs F
 | .b cs,x,v,F=> ∃g c e F',v= .pointer (some ⟨g,0,none⟩)∧w.heap[g]?=some (.cells c e (0,0))∧cs.length≤c.size∧Qbz w S Q B cs x (c.toList.take cs.length) F'∧(∀u∈c.toList.take cs.length,u.oneCell'=true)∧F=g::F'
def VKsR (w:World) (S Q:Nat→Prop) (B:Nat→Option Pl):(ks:List VK)→denV ks→List Value→List Nat→Prop
 | [],_,vs,F=>vs=[]∧F=[]
 | k::r,x,vs,F=> ∃v vs' F1 F2,vs=v::vs'∧F=F1++F2∧VKR w S Q B k x.1 v F1∧VKsR w S Q B r x.2 vs' F2
theorem Qqs {w:World} {S:Nat→Prop} {β:Qr} {H:Heap}: ∀{t:Ty} {x:den t} {cs:List Value},Rp w S t x cs→All2 (fun y v=>VS w S β H y v∧v.oneCell'=true) (split t x) cs:=by
 intro t
 induction t with
 | unit=>intro x cs h; simp only [Rp] at h; subst h; exact .nil
 | pair a b iha ihb=>
  intro x cs h;obtain ⟨c1,c2,rfl,h1,h2⟩:=h;exact (iha h1).append (ihb h2)
 | int k=>intro x cs h; have hl:=Qas h; have h':=h; simp only [Rp] at h'; subst h'; exact .cons ⟨⟨rfl,h⟩,hl _ (by simp)⟩ .nil
 | bool=>intro x cs h; have hl:=Qas h; have h':=h; simp only [Rp] at h'; subst h'; exact .cons ⟨⟨rfl,h⟩,hl _ (by simp)⟩ .nil
 | opq=>intro x cs h; obtain ⟨A,rfl⟩:=h; exact .cons ⟨trivial,rfl⟩ .nil
 | str=>intro x cs h; have hl:=Qas h; have h':=h; simp only [Rp] at h'; subst h'; exact .cons ⟨⟨rfl,h⟩,hl _ (by simp)⟩ .nil
 | slice t ih=>intro x cs h; have hl:=Qas h; have h':=h; obtain ⟨A,cap,rfl,_⟩:=h'; exact .cons ⟨⟨rfl,h⟩,hl _ (by simp)⟩ .nil
def OwnO (w:World) (S:Nat→Prop) (q:Option (Nat×Nat)):Ob→Prop
 | .row e t xs=>RowO w S e t xs q
 | .map es=>MapO w es q
 | .box cs=> ∃b c e,q=some (b,0)∧w.heap[b]?=some (.cells c e (0,0))∧cs.length≤c.size
 | _=>False
theorem OwnO.or {w:World} {S S':Nat→Prop} {β:Qr} {H:Heap} {q:Option (Nat×Nat)} {ob:Ob} (h:OwnO w S q ob) (hd:Mon w S S') (hb: ∀cs,ob= .box cs→OR w S' β H q (.box cs)):OR w S' β H q ob:=by
 cases ob with
 | dead=>exact h.elim
 | fro _ _=>exact h.elim
 | map es=>exact h
 | row e t xs=>exact RowO.mon hd h
 | box cs=>exact hb cs rfl
def BoxM (w:World) (S':Nat→Prop) (β:Qr) (H:Heap) (A:List (Nat×Ob)):Prop:= ∀p∈A, ∀cs,p.2= .box cs→OR w S' β H (β p.1) (.box cs)
theorem BoxM.append {w:World} {S':Nat→Prop} {β:Qr} {H:Heap} {A C:List (Nat×Ob)} (h:BoxM w S' β H A) (h':BoxM w S' β H C):BoxM w S' β H (A++C):=by
 intro p hp;rcases List.mem_append.1 hp with hp | hp
 ·exact h p hp
 ·exact h' p hp
theorem BoxM.nil {w:World} {S':Nat→Prop} {β:Qr} {H:Heap}:BoxM w S' β H []:=fun p hp=>by cases hp
theorem OwnO.S {w:World} {S S':Nat→Prop} {q:Option (Nat×Nat)} {ob:Ob} (h:OwnO w S q ob) (hd:Mon w S S'):OwnO w S' q ob:=by
 cases ob with
 | dead=>exact h
 | fro _ _=>exact h
 | map es=>exact h
 | row e t xs=>exact RowO.mon hd h
 | box cs=>exact h
theorem OwnO.live {w:World} {S1:Nat→Prop} {q:Option (Nat×Nat)} {ob:Ob} (h:OwnO w S1 q ob):S.live ob=true:=by
 cases ob <;> first | rfl | exact h.elim
theorem Qon {M:Nat→Nat→Prop} {b base:Nat} {ob:Ob} (h: ∀i,M b i):mayW M b base ob:=by
 cases ob <;> first | exact fun i _=>h _ | exact h
def Grs (w:World) (S:Nat→Prop):List (Nat×Ob)→List (Nat×Option (Nat×Nat))→List Nat→Prop
 | [],qs,F=>qs=[]∧F=[]
 | p::r,qs,F=> ∃q qs' F2,qs=(p.1,q)::qs'∧F=blkq q++F2∧OwnO w S q p.2∧Grs w S r qs' F2
variable {w:World} {S S' Q:Nat→Prop} {B:Nat→Option Pl}
theorem Grs.append: ∀{A C:List (Nat×Ob)} {qa qc F F'},Grs w S A qa F→Grs w S C qc F'→Grs w S (A++C) (qa++qc) (F++F')
 | [],_,_,_,_,_,⟨h1,h2⟩,h'=>by subst h1; subst h2; simpa using h'
 | p::r,_,_,_,_,_,⟨q,qs',F2,h1,h2,h3,h4⟩,h'=>by
  subst h1; subst h2;exact ⟨q,_,_,rfl,by rw [List.append_assoc],h3,h4.append h'⟩
structure Agree (S Q:Nat→Prop) (B:Nat→Option Pl) (w:World) (S':Nat→Prop) (β:Qr) (H:Heap):Prop where
 box: ∀o b base,B o=some (.box b base)→β o=some (b,base)∧ ∃cs,look H o=some (.box cs)
 row: ∀o q n,B o=some (.row q n)→β o=q∧ ∃e t xs,look H o=some (.row e t xs)∧xs.length=n
 not: ∀b,Q b→ ¬Own β H b
 data:Mon w S S'
theorem QqL {β:Qr} {H:Heap} (ha:Agree S Q B w S' β H): ∀{ts:List Ty} {x:denT ts} {us:List Value},QkV w S Q ts x us→All2 (PR w S' β H) (Quk ts x) us
 | [],_,_,h=>by obtain rfl:=h; exact .nil
 | t::r,x,_,⟨v,vs',e,h1,h⟩=>by
  subst e;exact .cons (h1.mono ha.data.rp ha.not) (QqL ha h)
theorem All2.andR {α β:Type} {R:α→β→Prop} {p:β→Prop}: ∀{as:List α} {bs:List β},All2 R as bs→(∀b∈bs,p b)→All2 (fun x y=>R x y∧p y) as bs
 | _,_,.nil,_=> .nil
 | _,_,.cons h hr,hp=> .cons ⟨h,hp _ (by simp)⟩ (All2.andR hr fun b hb=>hp b (by simp [hb]))
theorem QlI {c:CK} {x:c.den} {v:Value} {F:List Nat} (nm:Nat) (h:QcW w S Q B c x v F): ∃qs,Grs w S (mkC nm c x).2 qs F∧
  ∀{S':Nat→Prop} {β:Qr} {H:Heap},Agree S Q B w S' β H→(∀p∈(mkC nm c x).2,look H p.1=some p.2)→(∀p∈qs,β p.1=p.2)→VS w S' β H (mkC nm c x).1 v∧BoxM w S' β H (mkC nm c x).2:=by
 cases c with
 | dat t=>obtain ⟨h,rfl⟩:=h; exact ⟨[],⟨rfl,rfl⟩,fun ha _ _=>⟨⟨h.1,ha.data.rp h.2⟩,BoxM.nil⟩⟩
 | own e t=>
  obtain ⟨q,h1,h2,rfl⟩:=h;refine ⟨[(nm,q)],⟨q,[],[],rfl,by simp,h1,rfl,rfl⟩,fun ha hH hb=>?_⟩
  have e1:=hH (nm,.row e t x) (by simp [mkC])
  have e2:=hb (nm,q) (by simp)
  refine ⟨?_,fun p hp cs hc=>by simp only [mkC,List.mem_singleton] at hp; subst hp; cases hc⟩
  simp only [mkC,VS] at e1 e2⊢;rw [e1,e2];exact h2
 | vw e t=>
  obtain ⟨q,h1,h3,h4,h2,rfl⟩:=h;refine ⟨[(nm,q)],⟨q,[],[],rfl,by simp,h1,rfl,rfl⟩,fun ha hH hb=>?_⟩
  have e1:=hH (nm,.row e t x.1) (by simp [mkC])
  have e2:=hb (nm,q) (by simp)
  refine ⟨?_,fun p hp cs hc=>by simp only [mkC,List.mem_singleton] at hp; subst hp; cases hc⟩
  simp only [mkC,VS] at e1 e2⊢;rw [e1,e2];exact ⟨h3,h4,h2⟩
 | ptr o off=>
  obtain ⟨⟨b,base,h1,h2⟩,rfl⟩:=h;refine ⟨[],⟨rfl,rfl⟩,fun ha _ _=>?_⟩
  obtain ⟨e1,cs,e2⟩:=ha.box o b base h1;refine ⟨?_,BoxM.nil⟩;simp only [mkC,VS,e2];exact ⟨b,base,e1,h2⟩
 | ref o=>
  obtain ⟨⟨q,n,h1,h2⟩,rfl⟩:=h;refine ⟨[],⟨rfl,rfl⟩,fun ha _ _=>?_⟩
  obtain ⟨e1,e,t,xs,e2,e3⟩:=ha.row o q n h1;refine ⟨?_,BoxM.nil⟩;simp only [mkC,VS,e2];rw [e1,e3]; exact h2
 | pd t=>
  obtain ⟨h1,rfl⟩:=h;exact ⟨[],⟨rfl,rfl⟩,fun ha _ _=>⟨h1.mono ha.data.rp ha.not,BoxM.nil⟩⟩
 | fn f ts=>obtain ⟨⟨us,e,h⟩,rfl⟩:=h; exact ⟨[],⟨rfl,rfl⟩,fun ha _ _=>⟨⟨us,e,QqL ha h⟩,BoxM.nil⟩⟩
 | mp=>
  obtain ⟨b,base,h1,h2,rfl⟩:=h;refine ⟨[(nm,some (b,base))],⟨some (b,base),[],[],rfl,by obtain ⟨_,_,_,_,hq,_,_,hc⟩:=h1; simp only [Oie,Pmi] at hq; obtain ⟨rfl,rfl⟩:=hq; simp [blkq,QaR hc],h1,rfl,rfl⟩,fun ha hH hb=>?_⟩
  have e1:=hH (nm,.map x) (by simp [mkC])
  have e2:=hb (nm,some (b,base)) (by simp)
  refine ⟨?_,fun p hp cs hc=>by simp only [mkC,List.mem_singleton] at hp; subst hp; cases hc⟩
  simp only [mkC,VS] at e1 e2⊢;rw [e1];exact ⟨b,base,e2,h2⟩
 | bx t=>
  obtain ⟨b,c,e,cs,h1,h2,h3,h4,rfl⟩:=h;have hl:=Qu h4;refine ⟨[(nm,some (b,0))],⟨some (b,0),[],[],rfl,by simp [blkq,QaR (Nat.zero_le _)],⟨b,c,e,rfl,h2,by rw [Qex, ←hl, ←h3]; simp⟩,rfl,rfl⟩,fun ha hH hb=>?_⟩
  have e1:=hH (nm,.box (split t x)) (by simp [mkC])
  have e2:=hb (nm,some (b,0)) (by simp)
  refine ⟨?_,fun p hp cs' hc=>?_⟩
  ·simp only [mkC,VS] at e1 e2⊢;rw [e1];exact ⟨b,0,e2,by rw [h1]⟩
  ·simp only [mkC,List.mem_singleton] at hp;subst hp;simp only at hc e2;obtain rfl:=Ob.box.inj hc;rw [e2];refine ⟨b,0,c,e,rfl,h2,?_,?_⟩
   ·rw [Qex, ←hl, ←h3]; simp
   ·rw [Qex, ←hl,h3];simp only [List.drop_zero,List.take_length];exact Qqs (ha.data.rp h4)
 | any=>obtain rfl:=h; exact ⟨[],⟨rfl,rfl⟩,fun _ _ _=>⟨trivial,BoxM.nil⟩⟩
theorem Qdy: ∀{cs:List CK} {x:denC cs} {vs:List Value} {F:List Nat} (nm:Nat),Qbz w S Q B cs x vs F→ ∃qs,Grs w S (mkCs nm cs x).2 qs F∧
  ∀{S':Nat→Prop} {β:Qr} {H:Heap},Agree S Q B w S' β H→(∀p∈(mkCs nm cs x).2,look H p.1=some p.2)→(∀p∈qs,β p.1=p.2)→All2 (VS w S' β H) (mkCs nm cs x).1 vs∧BoxM w S' β H (mkCs nm cs x).2
 | [],_,_,_,_,⟨h1,h2⟩=>by subst h1; subst h2; exact ⟨[],⟨rfl,rfl⟩,fun _ _ _=>⟨.nil,BoxM.nil⟩⟩
 | c::r,x,_,_,nm,⟨v,vs',F1,F2,h1,h2,h3,h4⟩=>by
  subst h1; subst h2;obtain ⟨q1,g1,k1⟩:=QlI nm h3;obtain ⟨q2,g2,k2⟩:=Qdy (nm+1) h4;refine ⟨q1++q2,g1.append g2,fun ha hH hb=>?_⟩
  have a1:=k1 ha (fun p hp=>hH p (List.mem_append_left _ hp)) (fun p hp=>hb p (List.mem_append_left _ hp))
  have a2:=k2 ha (fun p hp=>hH p (List.mem_append_right _ hp)) (fun p hp=>hb p (List.mem_append_right _ hp))
  exact ⟨.cons a1.1 a2.1,a1.2.append a2.2⟩
theorem QlJ: ∀(nm:Nat) (cs:List CK) (x:denC cs),(mkCs nm cs x).1.length=cs.length
 | _,[],_=>rfl
 | nm,c::r,x=>by simp [mkCs,QlJ]
theorem Qit {c:CK} (hc: ∀t,c≠ .dat t) {x:c.den} {v:Value} {F:List Nat}:VKR w S Q B (.s c) x v F↔QcW w S Q B c x v F:=by
 cases c <;> first | exact absurd rfl (hc _) | exact Iff.rfl
theorem QlL {k:VK} {x:k.den} {v:Value} {F:List Nat} (nm:Nat) (h:VKR w S Q B k x v F): ∃qs,Grs w S (mkV nm k x).2 qs F∧
  ∀{S':Nat→Prop} {β:Qr} {H:Heap},Agree S Q B w S' β H→(∀p∈(mkV nm k x).2,look H p.1=some p.2)→(∀p∈qs,β p.1=p.2)→VV w S' β H (mkV nm k x).1 v∧BoxM w S' β H (mkV nm k x).2:=by
 cases k with
 | g cs=>
  obtain ⟨vs,e,h⟩:=h;obtain ⟨qs,g,hk⟩:=Qdy nm h;exact ⟨qs,g,fun ha hH hb=>⟨⟨vs,e,(hk ha hH hb).1⟩,(hk ha hH hb).2⟩⟩
 | b cs=>
  obtain ⟨g0,c,e,F',h1,h2,h5,h3,h4,rfl⟩:=h;obtain ⟨qs,g,hk⟩:=Qdy (nm+1) h3;have hl:(mkCs (nm+1) cs x).1.length=cs.length:=QlJ ..;refine ⟨(nm,some (g0,0))::qs,⟨some (g0,0),qs,F',rfl,by simp [blkq,QaR (Nat.zero_le _)],⟨g0,c,e,rfl,h2,by rw [hl]; exact h5⟩,g⟩,fun ha hH hb=>?_⟩
  have e1:=hH (nm,.box (mkCs (nm+1) cs x).1) (by simp [mkV])
  have e2:=hb (nm,some (g0,0)) (by simp)
  have a1:=hk ha (fun p hp=>hH p (List.mem_cons_of_mem _ hp)) (fun p hp=>hb p (List.mem_cons_of_mem _ hp))
  refine ⟨?_,fun p hp cs' hc=>?_⟩
  ·refine (VV_s (by intros; simp [mkV])).2 ?_
   simp only [mkV,VS] at e1 e2⊢;rw [e1];exact ⟨g0,0,e2,by rw [h1]⟩
  ·simp only [mkV,List.mem_cons] at hp;rcases hp with rfl | hp
   ·simp only at hc e2;obtain rfl:=Ob.box.inj hc;rw [e2];refine ⟨g0,0,c,e,rfl,h2,by rw [hl]; omega,?_⟩
    rw [hl,List.drop_zero];exact All2.andR a1.1 h4
   ·exact a1.2 p hp cs' hc
 | s c=>
  by_cases hd: ∃t,c= .dat t
  ·obtain ⟨t,rfl⟩:=hd;obtain ⟨⟨cs,h1,h2⟩,rfl⟩:=h;exact ⟨[],⟨rfl,rfl⟩,fun ha _ _=>⟨⟨cs,h1,ha.data.rp h2⟩,BoxM.nil⟩⟩
  ·have hc: ∀t,c≠ .dat t:=fun t e=>hd ⟨t,e⟩
   obtain ⟨qs,g,hk⟩:=QlI nm ((Qit hc).1 h);refine ⟨qs,g,fun ha hH hb=>?_⟩
   have:=hk ha hH hb
   have hn: ∀t z,(mkC nm c x).1≠ .d t z:=by
    cases c <;> first | exact absurd rfl (hc _) | (intro t z; simp [mkC])
   exact ⟨(VV_s hn).2 this.1,this.2⟩
theorem QjS: ∀{ks:List VK} {x:denV ks} {vs:List Value} {F:List Nat} (nm:Nat),VKsR w S Q B ks x vs F→ ∃qs,Grs w S (mkVs nm ks x).2 qs F∧
  ∀{S':Nat→Prop} {β:Qr} {H:Heap},Agree S Q B w S' β H→(∀p∈(mkVs nm ks x).2,look H p.1=some p.2)→(∀p∈qs,β p.1=p.2)→All2 (VV w S' β H) (mkVs nm ks x).1 vs∧BoxM w S' β H (mkVs nm ks x).2
 | [],_,_,_,_,⟨h1,h2⟩=>by subst h1; subst h2; exact ⟨[],⟨rfl,rfl⟩,fun _ _ _=>⟨.nil,BoxM.nil⟩⟩
 | k::r,x,_,_,nm,⟨v,vs',F1,F2,h1,h2,h3,h4⟩=>by
  subst h1; subst h2;obtain ⟨q1,g1,k1⟩:=QlL nm h3;obtain ⟨q2,g2,k2⟩:=QjS (nm+30) h4;refine ⟨q1++q2,g1.append g2,fun ha hH hb=>?_⟩
  have a1:=k1 ha (fun p hp=>hH p (List.mem_append_left _ hp)) (fun p hp=>hb p (List.mem_append_left _ hp))
  have a2:=k2 ha (fun p hp=>hH p (List.mem_append_right _ hp)) (fun p hp=>hb p (List.mem_append_right _ hp))
  exact ⟨.cons a1.1 a2.1,a1.2.append a2.2⟩
def blks (β:Qr) (l:List Nat):List Nat:=l.flatMap fun o=>blkq (β o)
def Qch (β:Qr) (H:Heap) (o:Nat):Option Pl:=match look H o with
 | some (.box _)=>(β o).map fun p=> .box p.1 p.2
 | some (.row _ _ xs)=>some (.row (β o) xs.length)
 | _=>none
theorem QJ {β:Qr} {l m:List Nat}:blks β (l++m)=blks β l++blks β m:=by simp [blks]
variable {Z:Nat→Prop} {M:Nat→Nat→Prop} {w0:World} {β:Qr} {σ:St} {a:Act} {fr l:List Nat} {H:Heap}
structure Cuts (H:Heap) (fr l:List Nat) (sh:List Nat):Prop where
 out: ∀o,o∈l→o∉fr
 shown: ∀o∈sh, ∀e t xs,look H o=some (.row e t xs)→o∉l→o∈fr
def QeD (H:Heap) (fr bs:List Nat):Prop:= ∀o∈bs, ∀e t xs,look H o=some (.row e t xs)→o∉fr
theorem QqM {S':Nat→Prop} {H':Heap} (hQ: ∀b, ¬Own β H' b→Q b): ∀{ts:List Ty} {l:List Cap} {x:denT ts} {us:List Value},All2 (PR w S β H') l us→QkA ts l=some x→QkV w S Q ts x us
 | [],[],_,_,.nil,_=>rfl
 | t::r,.pd s y::l,x,_,.cons h hr,hx=>by
  simp only [QkA] at hx;split at hx
  ·rename_i z q hz hq;obtain rfl:=Osj hx;obtain ⟨rfl,h5⟩:=Qfm hz h;exact ⟨_,_,rfl,h5.mono id hQ,QqM (S':=S') hQ hr hq⟩
  ·cases hx
 | [],_::_,_,_,_,h=>by simp [QkA] at h
 | _::_,[],_,_,_,h=>by simp [QkA] at h
 | _::_,.p _ _::_,_,_,_,h=>by simp [QkA] at h
theorem Qip (hO:Owns w S β (frz H fr)) (hQ: ∀b, ¬Own β (frz H fr) b→Q b) {c:CK} {s:S1} {v:Value} {x:c.den} {l1:List Nat} (hv:VS w S β (frz H fr) s v) (h:unC H c s=some (x,l1))
  (hl1: ∀o∈l1,o∈l) (hfree:QdS H l c s=true) {bs:List Nat} (hp:ptrC bs c=true) (hbs:QeD H fr bs) (hc:Cuts H fr l (QO [s])):QcW w S Q (Qch β (frz H fr)) c x v (blks β l1):=by
 cases c with
 | dat t=>
  simp only [unC] at h;split at h
  ·rename_i y hy;simp only [Oie,Pmi] at h;obtain ⟨rfl,rfl⟩:=h;refine ⟨?_,rfl⟩;refine QbC (own:=false) hO (fun _ _ _ h=>h) (by simp) hv (QhR hy fun o e s' xs hs hk=>?_)
   refine hc.shown o hs e s' xs hk fun hol=>?_
   cases s <;> simp only [QO,List.filterMap_cons,List.filterMap_nil,List.mem_singleton,List.not_mem_nil] at hs
   all_goals (subst hs; simp [QdS,hk,hol] at hfree)
  ·cases h
 | own e t=>
  simp only [unC] at h;split at h
  ·simp only [Oie,Pmi] at h;obtain ⟨rfl,rfl⟩:=h;simp only [VS] at hv;exact ⟨none,.inl ⟨rfl,rfl⟩,⟨hv,rfl⟩,rfl⟩
  ·rename_i o;split at h
   ·rename_i e' t' xs ho;split at h
    ·rename_i he;split at h
     ·rename_i ys hys;simp only [Oie,Pmi] at h;obtain ⟨rfl,rfl⟩:=h;obtain ⟨e1,e2⟩:=QX hys;simp only [Ty.slice.injEq] at e1;subst e1;simp only at e2;subst e2;have hof:=hc.out o (hl1 o (by simp))
      have:=Qaz (l:=fr) ho;rw [if_neg hof] at this;simp only [VS,this] at hv;exact ⟨β o,QbK he (hO o _ this),hv,by simp [blks]⟩
     ·cases h
    ·cases h
   ·cases h
  ·cases h
 | vw e t=>
  simp only [unC] at h;split at h
  ·cases h
  rename_i hde;have hde:deep e=false:=by simpa using hde
  split at h
  ·simp only [Oie,Pmi] at h;obtain ⟨rfl,rfl⟩:=h;simp only [VS] at hv;exact ⟨none,.inl ⟨rfl,rfl⟩,⟨hde,by simp⟩,⟨_,rfl,rfl⟩,⟨hv,rfl,rfl⟩,rfl⟩
  ·rename_i o;split at h
   ·rename_i e' t' xs ho;split at h
    ·rename_i he;split at h
     ·rename_i ys hys;simp only [Oie,Pmi] at h;obtain ⟨rfl,rfl⟩:=h;obtain ⟨e1,e2⟩:=QX hys;simp only [Ty.slice.injEq] at e1;subst e1;simp only at e2;subst e2;have hof:=hc.out o (hl1 o (by simp))
      have:=Qaz (l:=fr) ho;rw [if_neg hof] at this;simp only [VS,this] at hv;exact ⟨β o,QbK he (hO o _ this),⟨hde,by simp⟩,⟨v,hv⟩,Qvb hv,by simp [blks]⟩
     ·cases h
    ·cases h
   ·cases h
  ·rename_i o lo n;split at h
   ·rename_i e' t' xs ho;split at h
    ·rename_i he;split at h
     ·rename_i ys hys;simp only [Oie,Pmi] at h;obtain ⟨rfl,rfl⟩:=h;obtain ⟨e1,e2⟩:=QX hys;simp only [Ty.slice.injEq] at e1;subst e1;simp only at e2;subst e2;have hof:=hc.out o (hl1 o (by simp))
      have:=Qaz (l:=fr) ho;rw [if_neg hof] at this;simp only [VS,this] at hv;exact ⟨β o,QbK he (hO o _ this),⟨hde,hv.1.2⟩,hv.2.1,hv.2.2,by simp [blks]⟩
     ·cases h
    ·cases h
   ·cases h
  ·cases h
 | ptr o off=>
  simp only [unC] at h;split at h
  ·rename_i o' off';split at h
   ·rename_i he;obtain ⟨rfl,rfl⟩:=he;split at h
    ·rename_i cs ho;simp only [Oie,Pmi] at h;obtain ⟨_,rfl⟩:=h;have:look (frz H fr) o'=some (.box cs):=by rw [Qav (by intro e t xs e'; rw [ho] at e'; cases e'),ho]
     simp only [VS,this] at hv;refine ⟨?_,rfl⟩;obtain ⟨b,base,e1,e2⟩:=hv;exact ⟨b,base,by simp [Qch,this,e1],e2⟩
    ·cases h
   ·cases h
  ·cases h
 | ref o=>
  simp only [unC] at h;split at h
  ·rename_i o';split at h
   ·rename_i he;subst he;split at h
    ·rename_i e t xs ho;simp only [Oie,Pmi] at h;obtain ⟨_,rfl⟩:=h;simp only [ptrC,List.contains_eq_mem,decide_eq_true_eq] at hp;have:=Qaz (l:=fr) ho;rw [if_neg (hbs o' hp e t xs ho)] at this;simp only [VS,this] at hv;exact ⟨⟨β o',xs.length,by simp [Qch,this],hv⟩,rfl⟩
    ·cases h
   ·cases h
  ·cases h
 | pd t=>
  simp only [unC] at h;split at h
  ·rename_i s' y;split at h
   ·rename_i z hz;simp only [Oie,Pmi] at h;obtain ⟨rfl,rfl⟩:=h;obtain ⟨rfl,h5⟩:=Qfm hz hv;exact ⟨h5.mono id hQ,rfl⟩
   ·cases h
  ·cases h
 | fn f ts=>
  simp only [unC] at h;split at h
  ·rename_i g l2;split at h
   ·rename_i he;subst he;split at h
    ·rename_i y hy;simp only [Oie,Pmi] at h;obtain ⟨rfl,rfl⟩:=h;obtain ⟨us,e,hus⟩:=hv;exact ⟨⟨us,e,QqM (S':=S) hQ hus hy⟩,rfl⟩
    ·cases h
   ·cases h
  ·cases h
 | mp=>
  simp only [unC] at h;split at h
  ·rename_i o;split at h
   ·rename_i es ho;simp only [Oie,Pmi] at h;obtain ⟨rfl,rfl⟩:=h;have:look (frz H fr) o=some (.map es):=by rw [Qav (by intro e t xs e'; rw [ho] at e'; cases e'),ho]
    simp only [VS,this] at hv;obtain ⟨b,base,e1,e2⟩:=hv;have hO:=hO o _ this;rw [e1] at hO
    have hc:base≤maxLen:=by
     obtain ⟨_,_,_,_,hq,_,_,hc⟩:=hO;simp only [Oie,Pmi] at hq;obtain ⟨rfl,rfl⟩:=hq;exact hc
    exact ⟨b,base,hO,e2,by simp [blks,e1,blkq,QaR hc]⟩
   ·cases h
  ·cases h
 | bx t=>simp [unC] at h
 | any=>
  simp only [unC,Oie,Pmi] at h;obtain ⟨_,rfl⟩:=h;rfl
theorem QhH {s:S1} {ss:List S1}:QO (s::ss)=QO [s]++QO ss:=by
 cases s <;> simp [QO]
theorem QbX (hO:Owns w S β (frz H fr)) (hQ: ∀b, ¬Own β (frz H fr) b→Q b): ∀{cs:List CK} {ss:List S1} {vs:List Value} {x:denC cs} {l1:List Nat},All2 (VS w S β (frz H fr)) ss vs→unCs H cs ss=some (x,l1)→
  (∀o∈l1,o∈l)→Qcj H l cs ss=true→ ∀{bs:List Nat},cs.all (ptrC bs)=true→QeD H fr bs→Cuts H fr l (QO ss)→Qbz w S Q (Qch β (frz H fr)) cs x vs (blks β l1)
 | [],[],_,_,_,hv,h,_,_,_,_,_,_=>by
  cases hv;simp only [unCs,Oie,Pmi] at h;obtain ⟨_,rfl⟩:=h;exact ⟨rfl,rfl⟩
 | c::r,s::ss,_,x,l1,hv,h,hl,hf,bs,hp,hbs,hc=>by
  simp only [List.all_cons,Bool.and_eq_true] at hp;cases hv with
  | cons h1 h2=>
   simp only [unCs] at h;split at h
   ·rename_i y l2 hy;split at h
    ·rename_i z l3 hz;simp only [Oie,Pmi] at h;obtain ⟨rfl,rfl⟩:=h;simp only [Qcj,Bool.and_eq_true] at hf;rw [QhH] at hc
     exact ⟨_,_,_,_,rfl,QJ,Qip hO hQ h1 hy (fun o ho=>hl o (List.mem_append_left _ ho)) hf.1 hp.1 hbs ⟨hc.out,fun o ho=>hc.shown o (List.mem_append_left _ ho)⟩,
      QbX hO hQ h2 hz (fun o ho=>hl o (List.mem_append_right _ ho)) hf.2 hp.2 hbs ⟨hc.out,fun o ho=>hc.shown o (List.mem_append_right _ ho)⟩⟩
    ·cases h
   ·cases h
 | [],_::_,_,_,_,_,h,_,_,_,_,_,_=>by simp [unCs] at h
 | _::_,[],_,_,_,_,h,_,_,_,_,_,_=>by simp [unCs] at h
theorem Qec: ∀{t:Ty} (x:den t),QO (split t x)=[]
 | .int _,_=>rfl
 | .bool,_=>rfl
 | .str,_=>rfl
 | .unit,_=>rfl
 | .opq,_=>rfl
 | .slice _,_=>rfl
 | .pair a b,x=>by
  have h1:=Qec x.1;have h2:=Qec x.2;unfold QO at h1 h2⊢;simp only [split,List.filterMap_append,h1,h2,List.append_nil]
theorem QkS {H:Heap} {v:SV}: ∀o∈QO (cellsOf v),o∈Qv H v:=by
 intro o ho;cases v with
 | g cs=>exact ho
 | s x=>
  cases x with
  | d t z=>simp only [cellsOf,Qec] at ho; simp at ho
  | sl b=>simpa [cellsOf,QO,Qv] using ho
  | vw b=>simpa [cellsOf,QO,Qv] using ho
  | _=>simp [cellsOf,QO] at ho
theorem Qjy {t:Ty} {o lo n:Nat} (h:QdS H l (.dat t) (.vw o lo n)=true) {e:TypeId} {t':Ty} {xs:List (den t')} (ho:look H o=some (.row e t' xs)):o∉l:=by
 intro hol;simp [QdS,ho,hol] at h
theorem Qlw {t:Ty} {o:Nat} (h:QdS H l (.dat t) (.sl o)=true) {e:TypeId} {t':Ty} {xs:List (den t')} (ho:look H o=some (.row e t' xs)):o∉l:=by
 intro hol;simp [QdS,ho,hol] at h
theorem Qmt (hO:Owns w S β (frz H fr)) (hQ: ∀b, ¬Own β (frz H fr) b→Q b) {k:VK} {s:SV} {v:Value} {x:k.den} {l1:List Nat} (hv:VV w S β (frz H fr) s v) (h:unV H k s=some (x,l1))
  (hl1: ∀o∈l1,o∈l) (hfree:Qlx H l k s=true) {bs:List Nat} (hp:ptrV bs k=true) (hbs:QeD H fr bs) (hc:Cuts H fr l (Qv H s)):VKR w S Q (Qch β (frz H fr)) k x v (blks β l1):=by
 have hc':Cuts H fr l (QO (cellsOf s)):=⟨hc.out,fun o ho=>hc.shown o (QkS o ho)⟩
 cases k with
 | b cs=>simp [unV] at h
 | g cs=>
  simp only [Qlx] at hfree;cases s with
  | g ss=>
   simp only [unV] at h;obtain ⟨vs,e,hall⟩:=hv;exact ⟨vs,e,QbX hO hQ hall h hl1 hfree hp hbs hc'⟩
  | s y=>
   cases y <;> simp only [unV] at h <;> first | (cases h; done) | skip
   rename_i t z;split at h
   ·rename_i ht;obtain ⟨vs,e,hr⟩:=hv;refine ⟨vs,by simpa [Val,ht] using e,QbX hO hQ (Qgn hr) h hl1 hfree hp hbs hc'⟩
   ·cases h
 | s c=>
  by_cases hd: ∃t,c= .dat t
  ·obtain ⟨t,rfl⟩:=hd;simp only [unV] at h;split at h
   ·rename_i y hy;simp only [Oie,Pmi] at h;obtain ⟨rfl,rfl⟩:=h;refine ⟨?_,rfl⟩;refine Qbp (own:=false) hO (fun _ _ _ h=>h) (by simp) hv (Qkx hy ?_)
    intro o ho e t' xs hk;refine hc.shown o ho e t' xs hk ?_;simp only [Qlx,List.all_eq_true] at hfree;cases s with
    | g ss=>
     simp only [Qv,QO,List.mem_filterMap] at ho;obtain ⟨s1,hs1,hs2⟩:=ho;cases s1 <;> simp at hs2
     all_goals (subst hs2; first | exact Qlw (hfree _ hs1) hk | exact Qjy (hfree _ hs1) hk)
    | s y1=>
     cases y1 <;> simp only [toD,Qad] at hy <;> first | (cases hy; done) | skip
     all_goals simp [Qv] at ho
     ·subst ho;exact Qlw (hfree _ (by simp [cellsOf])) hk
     ·subst ho;exact Qjy (hfree _ (List.mem_singleton.2 rfl)) hk
   ·cases h
  ·have hn: ∀t,c≠ .dat t:=fun t e=>hd ⟨t,e⟩
   have e1:unV H (.s c) s=(match s with | .s y=>unC H c y | .g _=>none):=by
    cases c <;> first | exact absurd rfl (hn _) | (cases s <;> rfl)
   have e2:Qlx H l (.s c) s=(match s with | .s y=>QdS H l c y | .g _=>true):=by
    cases c <;> first | exact absurd rfl (hn _) | (cases s <;> rfl)
   rw [e1] at h;rw [e2] at hfree;cases s with
   | g ss=>cases h
   | s y=>
    refine (Qit hn).2 ?_;by_cases hy: ∃t z,y= .d t z
    ·obtain ⟨t,z,rfl⟩:=hy;cases c <;> first | exact absurd rfl (hn _) | skip
     all_goals simp only [unC] at h
     all_goals first | (cases h; done) | (split at h <;> cases h; done) | skip
     simp only [Oie,Pmi] at h;obtain ⟨_,rfl⟩:=h;rfl
    ·exact Qip hO hQ ((VV_s fun t z e=>hy ⟨t,z,e⟩).1 hv) h hl1 hfree hp hbs ⟨hc.out,fun o ho=>hc.shown o (by
      cases y <;> simp [QO] at ho
      all_goals (subst ho; simp [Qv]))⟩
theorem QkC (hO:Owns w S β (frz H fr)) (hQ: ∀b, ¬Own β (frz H fr) b→Q b): ∀{ks:List VK} {ss:List SV} {vs:List Value} {x:denV ks} {l1:List Nat},All2 (VV w S β (frz H fr)) ss vs→unVs H ks ss=some (x,l1)→
  (∀o∈l1,o∈l)→QmN H l ks ss=true→ ∀{bs:List Nat},ks.all (ptrV bs)=true→QeD H fr bs→(∀s∈ss,Cuts H fr l (Qv H s))→VKsR w S Q (Qch β (frz H fr)) ks x vs (blks β l1)
 | [],[],_,_,_,hv,h,_,_,_,_,_,_=>by
  cases hv;simp only [unVs,Oie,Pmi] at h;obtain ⟨_,rfl⟩:=h;exact ⟨rfl,rfl⟩
 | c::r,s::ss,_,x,l1,hv,h,hl,hf,bs,hp,hbs,hc=>by
  simp only [List.all_cons,Bool.and_eq_true] at hp;cases hv with
  | cons h1 h2=>
   simp only [unVs] at h;split at h
   ·rename_i q hq;split at h
    ·rename_i q' hq';simp only [Oie,Pmi] at h;obtain ⟨rfl,rfl⟩:=h;simp only [QmN,Bool.and_eq_true] at hf
     exact ⟨_,_,_,_,rfl,QJ,Qmt hO hQ h1 hq (fun o ho=>hl o (List.mem_append_left _ ho)) hf.1 hp.1 hbs (hc s (by simp)),
      QkC hO hQ h2 hq' (fun o ho=>hl o (List.mem_append_right _ ho)) hf.2 hp.2 hbs (fun s hs=>hc s (by simp [hs]))⟩
    ·cases h
   ·cases h
 | [],_::_,_,_,_,_,h,_,_,_,_,_,_=>by simp [unVs] at h
 | _::_,[],_,_,_,_,h,_,_,_,_,_,_=>by simp [unVs] at h
theorem Qdr (hinj: ∀o o' b,o∈l→o'∈l→b∈blkq (β o)→b∈blkq (β o')→o=o') (hnd: ∀o∈l,(blkq (β o)).Nodup): ∀{l':List Nat},(∀o∈l',o∈l)→l'.Nodup→(blks β l').Nodup
 | [],_,_=>by simp [blks]
 | o::r,hl,hd=>by
  have hd':=List.nodup_cons.1 hd;have ih:=Qdr hinj hnd (l':=r) (fun o ho=>hl o (by simp [ho])) hd'.2
  rw [show o::r=[o]++r from rfl,QJ,List.nodup_append]
  refine ⟨?_,ih,?_⟩
  ·simp only [blks,List.flatMap_cons,List.flatMap_nil,List.append_nil];exact hnd o (hl o (by simp))
  ·intro b hb b' hb' e;subst e;simp only [blks,List.flatMap_cons,List.flatMap_nil,List.append_nil,List.mem_flatMap] at hb hb';obtain ⟨o',ho',hb'⟩:=hb';have:=hinj o o' b (hl o (by simp)) (hl o' (by simp [ho'])) hb hb'
   subst this;exact hd'.1 ho'
theorem Qbk {l:List Nat} {b:Nat}:b∈blks β l↔ ∃o∈l,b∈blkq (β o):=by
 simp only [blks,List.mem_flatMap]
theorem Qjk {q:Option (Nat×Nat)} {b:Nat}:b∈blkq q↔ ∃p,q=some p∧(b=p.1∨b∈bits p.2):=by
 cases q with
 | none=>simp [blkq]
 | some p=>simp [blkq]
theorem Qbn {ob:Ob} {p:Nat×Nat} {b:Nat} (h:foot ob p b):b∈blkq (some p):=Qjk.2 ⟨p,rfl,h.elim .inl fun h=> .inr h.2⟩
theorem QcS {q:Option (Nat×Nat)} {b:Nat} {e:TypeId} {t:Ty} {ys:List (den t)} (h:b∈blkq q): ∃p,q=some p∧foot (.row e t ys) p b:=by
 obtain ⟨p,h1,h2⟩:=Qjk.1 h;exact ⟨p,h1,h2.elim .inl fun h=> .inr ⟨rfl,h⟩⟩
theorem OwnO.foot {w:World} {S1:Nat→Prop} {p:Nat×Nat} {ob:Ob} (h:OwnO w S1 (some p) ob) {b:Nat}:Go.Proofs.YtkkljegcnnfanaaGreatDoor.S.foot ob p b↔b∈blkq (some p):=by
 refine ⟨Qbn,fun hb=>?_⟩
 obtain ⟨p',hp,hb⟩:=Qjk.1 hb;obtain rfl:=Osj hp;cases ob with
 | dead=>exact h.elim
 | fro _ _=>exact h.elim
 | map es=>
  obtain ⟨_,_,_,_,hq,_,_,hc⟩:=h;simp only [Oie] at hq;subst hq;rw [QaR hc] at hb;exact hb.elim .inl fun h=>by cases h
 | row e t xs=>exact hb.elim .inl fun h=> .inr ⟨rfl,h⟩
 | box cs=>
  obtain ⟨_,_,_,hq,_⟩:=h;simp only [Oie] at hq;subst hq;rw [QaR (Nat.zero_le _)] at hb;exact hb.elim .inl fun h=>by cases h
theorem Qpm (c:Nat):(bits c).Nodup:=(List.nodup_range).filter _
theorem OwnO.nodup {w:World} {S1:Nat→Prop} {q:Option (Nat×Nat)} {ob:Ob} (h:OwnO w S1 q ob):(blkq q).Nodup:=by
 cases q with
 | none=>simp [blkq]
 | some p=>
  refine List.nodup_cons.2 ⟨?_,Qpm _⟩;cases ob with
  | dead=>exact h.elim
  | fro _ _=>exact h.elim
  | map es=>
   obtain ⟨_,_,_,_,hq,_,_,hc⟩:=h;simp only [Oie] at hq;subst hq;rw [QaR hc]; simp
  | row e t xs=>
   rcases h with ⟨h,_⟩ | ⟨_,_,_,_,hq,_,_,_,_,_,_,_,h⟩
   ·cases h
   ·simp only [Oie] at hq;subst hq;exact h.1
  | box cs=>
   obtain ⟨_,_,_,hq,_⟩:=h;simp only [Oie] at hq;subst hq;rw [QaR (Nat.zero_le _)]; simp
end
section
open Go Go.RowKit
def QgI (w:World) (S Q:Nat→Prop) (B:Nat→Option Pl) (a:Act):(l:List (Nat×VK))→denS l→List Nat→Prop
 | [],_,F=>F=[]
 | (i,k)::r,x,F=> ∃F1 F2,F=F1++F2∧i< a.tmps.size∧VKR w S Q B k x.1 (a.tmps.getD i undef) F1∧QgI w S Q B a r x.2 F2
def QgG (w:World) (S Q:Nat→Prop) (B:Nat→Option Pl):(l:List (Nat×List CK))→denB l→List Nat→Prop
 | [],_,F=>F=[]
 | (o,cs)::r,x,F=> ∃F1 F2 b base c e,F=F1++F2∧B o=some (.box b base)∧w.heap[b]?=some (.cells c e (0,0))∧base+cs.length≤c.size∧
   Qbz w S Q B cs x.1 ((c.toList.drop base).take cs.length) F1∧(∀u∈(c.toList.drop base).take cs.length,u.oneCell'=true)∧QgG w S Q B r x.2 F2
def Qhd (w:World) (S:Nat→Prop) (B:Nat→Option Pl):(l:List (Nat×TypeId×Ty))→denW l→List Nat→Prop
 | [],_,F=>F=[]
 | (o,e,t)::r,x,F=> ∃q F2,F=blkq q++F2∧B o=some (.row q x.1.length)∧RowO w S e t x.1 q∧Qhd w S B r x.2 F2
variable {w:World} {S S' Q:Nat→Prop} {B:Nat→Option Pl} {a:Act}
theorem QlK: ∀{l:List (Nat×VK)} {x:denS l} {F:List Nat} (nm:Nat),QgI w S Q B a l x F→ ∃qs,Grs w S (mkS nm l x).2 qs F∧
  ∀{S':Nat→Prop} {β:Qr} {H:Heap},Agree S Q B w S' β H→(∀p∈(mkS nm l x).2,look H p.1=some p.2)→(∀p∈qs,β p.1=p.2)→
   (∀p∈(mkS nm l x).1,p.1< a.tmps.size∧VL w S' β H p.2 (a.tmps.getD p.1 undef))∧BoxM w S' β H (mkS nm l x).2
 | [],_,_,_,h=>⟨[],⟨rfl,h⟩,fun _ _ _=>⟨fun p hp=>by simp [mkS] at hp,BoxM.nil⟩⟩
 | (i,k)::r,x,_,nm,⟨F1,F2,h1,h2,h3,h4⟩=>by
  subst h1;obtain ⟨q1,g1,k1⟩:=QlL nm h3;obtain ⟨q2,g2,k2⟩:=QlK (nm+30) h4;refine ⟨q1++q2,g1.append g2,fun ha hH hb=>?_⟩
  have a1:=k1 ha (fun p hp=>hH p (List.mem_append_left _ hp)) (fun p hp=>hb p (List.mem_append_left _ hp))
  have a2:=k2 ha (fun p hp=>hH p (List.mem_append_right _ hp)) (fun p hp=>hb p (List.mem_append_right _ hp))
  refine ⟨fun p hp=>?_,a1.2.append a2.2⟩
  simp only [mkS,List.mem_cons] at hp;rcases hp with rfl | hp
  ·exact ⟨h2,a1.1⟩
  ·exact a2.1 p hp
theorem All2.and {α β:Type} {R:α→β→Prop} {p:β→Prop}: ∀{as:List α} {bs:List β},All2 R as bs→(∀b∈bs,p b)→All2 (fun x y=>R x y∧p y) as bs
 | _,_,.nil,_=> .nil
 | _,_,.cons h hr,hp=> .cons ⟨h,hp _ (by simp)⟩ (hr.and fun b hb=>hp b (by simp [hb]))
theorem Qeo: ∀(nm:Nat) (cs:List CK) (x:denC cs),(mkCs nm cs x).1.length=cs.length
 | _,[],_=>rfl
 | nm,c::r,x=>by simp [mkCs,Qeo]
theorem QlH: ∀{l:List (Nat×List CK)} {x:denB l} {F:List Nat} (nm:Nat),QgG w S Q B l x F→ ∃qs,Grs w S (mkB nm l x).2 qs F∧
  (∀p∈(mkB nm l x).1, ∃cs,p.2= .box cs∧ ∃ks b base c e,(p.1,ks)∈l∧ks.length=cs.length∧B p.1=some (.box b base)∧w.heap[b]?=some (.cells c e (0,0))∧base+cs.length≤c.size)∧
  ∀{S':Nat→Prop} {β:Qr} {H:Heap},Agree S Q B w S' β H→(∀p∈(mkB nm l x).2,look H p.1=some p.2)→(∀p∈qs,β p.1=p.2)→
   (∀p∈(mkB nm l x).1,OR w S' β H (β p.1) p.2)∧BoxM w S' β H (mkB nm l x).2
 | [],_,_,_,h=>⟨[],⟨rfl,h⟩,fun p hp=>by simp [mkB] at hp,fun _ _ _=>⟨fun p hp=>by simp [mkB] at hp,BoxM.nil⟩⟩
 | (o,cs)::r,x,_,nm,⟨F1,F2,b,base,c,e,h1,h2,h3,h4,h5,h6,h7⟩=>by
  subst h1;obtain ⟨q1,g1,k1⟩:=Qdy nm h5;obtain ⟨q2,g2,i2,k2⟩:=QlH (nm+30) h7;refine ⟨q1++q2,g1.append g2,fun p hp=>?_,fun ha hH hb=>?_⟩
  ·simp only [mkB,List.mem_cons] at hp;rcases hp with rfl | hp
   ·exact ⟨_,rfl,cs,b,base,c,e,by simp,(Qeo ..).symm,h2,h3,by rw [Qeo]; exact h4⟩
   ·obtain ⟨cs',e1,ks,b',base',c',e',hm,hrest⟩:=i2 p hp;exact ⟨cs',e1,ks,b',base',c',e',by simp [hm],hrest⟩
  ·have a1:=k1 ha (fun p hp=>hH p (List.mem_append_left _ hp)) (fun p hp=>hb p (List.mem_append_left _ hp))
   have a2:=k2 ha (fun p hp=>hH p (List.mem_append_right _ hp)) (fun p hp=>hb p (List.mem_append_right _ hp))
   refine ⟨fun p hp=>?_,a1.2.append a2.2⟩
   simp only [mkB,List.mem_cons] at hp;rcases hp with rfl | hp
   ·refine ⟨b,base,c,e,(ha.box o b base h2).1,h3,by rw [Qeo]; exact h4,?_⟩
    rw [Qeo];exact a1.1.and h6
   ·exact a2.1 p hp
theorem Grs.mem: ∀{A:List (Nat×Ob)} {qs F},Grs w S A qs F→ ∀p∈A, ∃q,(p.1,q)∈qs∧(∀b∈blkq q,b∈F)∧OwnO w S q p.2
 | [],_,_,_,p,hp=>by simp at hp
 | p0::r,_,_,⟨q,qs',F2,h1,h2,h3,h4⟩,p,hp=>by
  subst h1; subst h2;rcases List.mem_cons.1 hp with rfl | hp
  ·exact ⟨q,by simp,fun b hb=>List.mem_append_left _ hb,h3⟩
  ·obtain ⟨q',hq,hb,hr⟩:=h4.mem p hp;exact ⟨q',by simp [hq],fun b hb'=>List.mem_append_right _ (hb b hb'),hr⟩
theorem Grs.names: ∀{A:List (Nat×Ob)} {qs F},Grs w S A qs F→qs.map (·.1)=A.map (·.1)
 | [],_,_,⟨h1,_⟩=>by subst h1; rfl
 | p0::r,_,_,⟨q,qs',F2,h1,h2,h3,h4⟩=>by subst h1; simp [h4.names]
theorem Grs.inF: ∀{A:List (Nat×Ob)} {qs F},Grs w S A qs F→ ∀p∈qs, ∀b∈blkq p.2,b∈F
 | [],_,_,⟨h1,_⟩,p,hp,_,_=>by subst h1; simp at hp
 | p0::r,_,_,⟨q,qs',F2,h1,h2,h3,h4⟩,p,hp,b,hb=>by
  subst h1; subst h2;rcases List.mem_cons.1 hp with rfl | hp
  ·exact List.mem_append_left _ hb
  ·exact List.mem_append_right _ (h4.inF p hp b hb)
theorem Grs.inj: ∀{A:List (Nat×Ob)} {qs F},Grs w S A qs F→F.Nodup→ ∀p∈qs, ∀p'∈qs, ∀b,b∈blkq p.2→b∈blkq p'.2→p=p'
 | [],_,_,⟨h1,_⟩,_,p,hp,_,_,_,_,_=>by subst h1; simp at hp
 | p0::r,_,_,⟨q,qs',F2,h1,h2,h3,h4⟩,hn,p,hp,p',hp',b,hb,hb'=>by
  subst h1; subst h2;have hn':=List.nodup_append.1 hn;have inF:=h4.inF;rcases List.mem_cons.1 hp with rfl | hp
  ·rcases List.mem_cons.1 hp' with rfl | hp'
   ·rfl
   ·exact absurd rfl (hn'.2.2 b hb b (inF p' hp' b hb'))
  ·rcases List.mem_cons.1 hp' with rfl | hp'
   ·exact absurd rfl (hn'.2.2 b hb' b (inF p hp b hb))
   ·exact h4.inj hn'.2.1 p hp p' hp' b hb hb'
theorem Qap {α:Type}: ∀{l:List (Nat×α)} {p:Nat×α},(l.map (·.1)).Nodup→p∈l→look l p.1=some p.2
 | (k,y)::r,p,hn,hp=>by
  simp only [List.map_cons,List.nodup_cons] at hn;rw [Qe];rcases List.mem_cons.1 hp with rfl | hp
  ·rw [if_pos rfl]
  ·rw [if_neg (fun e=>hn.1 (by rw [e]; exact List.mem_map_of_mem hp))]
   exact Qap hn.2 hp
theorem Qii: ∀(nm:Nat) (l:List (Nat×List CK)) (x:denB l),(mkB nm l x).1.map (·.1)=l.map (·.1)
 | _,[],_=>rfl
 | nm,(i,cs)::r,x=>by simp [mkB,Qii]
variable {Z:Nat→Prop} {M:Nat→Nat→Prop} {N:Nat→Option (Option (Nat×Nat))} {w0:World}
theorem QlM: ∀(l:List (Nat×TypeId×Ty)) (x:denW l),(mkW l x).map (·.1)=l.map (·.1)
 | [],_=>rfl
 | (o,e,t)::r,x=>by simp [mkW,QlM]
theorem QlN: ∀{l:List (Nat×TypeId×Ty)} {x:denW l} {F:List Nat},Qhd w S B l x F→ ∃qs,Grs w S (mkW l x) qs F∧
  ∀p∈mkW l x, ∃q e t xs,(p.1,q)∈qs∧p.2= .row e t xs∧B p.1=some (.row q xs.length)
 | [],_,_,h=>⟨[],⟨rfl,h⟩,fun p hp=>by simp [mkW] at hp⟩
 | (o,e,t)::r,x,_,⟨q,F2,h1,h2,h3,h4⟩=>by
  subst h1;obtain ⟨qs,g,hk⟩:=QlN h4;refine ⟨(o,q)::qs,⟨q,qs,F2,rfl,rfl,h3,g⟩,fun p hp=>?_⟩
  simp only [mkW,List.mem_cons] at hp;rcases hp with rfl | hp
  ·exact ⟨q,e,t,x.1,by simp,rfl,h2⟩
  ·obtain ⟨q',e',t',xs',h5,h6⟩:=hk p hp;exact ⟨q',e',t',xs',by simp [h5],h6⟩
theorem QjT {nt:Nat} {s:Shp} {x:s.den} {F1 F2 F3:List Nat} (hlaid:Laid M w0) (hfresh: ∀b,w0.heap.size≤b→ ∀i,M b i) (hwhole: ∀b,(∀i,M b i)→Z b) (hd:a.defers=[]) (hnt:a.tmps.size=nt) (hk:Kept M w0 w)
  (hnames:QeO (mk nt s x)=true) (hs:QgI w S Q B a s.slots x.1 F1) (hb:QgG w S Q B s.boxes x.2.1 F2) (hr:Qhd w S B s.rows x.2.2 F3) (hF:((F1++F2)++F3).Nodup)
  (hM: ∀b∈(F1++F2)++F3,(∀i,M b i)∧b< w.heap.size)
  (hB: ∀o b base,B o=some (.box b base)→o∈s.boxes.map (·.1)∧b∉(F1++F2)++F3∧b< w.heap.size∧ ∀cs,(o,cs)∈s.boxes→ ∀i,i< cs.length→M b (base+i))
  (hBr: ∀o q n,B o=some (.row q n)→o∈s.rows.map (·.1))
  (hBi: ∀o o' b base base',B o=some (.box b base)→B o'=some (.box b base')→o=o')
  (hS: ∀b,b< w.heap.size→S b→Z b∧b∉(F1++F2)++F3∧ ∀o base,B o≠some (.box b base))
  (hQ: ∀b,Q b→b∉(F1++F2)++F3∧ ∀o base,B o≠some (.box b base))
  (hB0: ∀o b base,B o=some (.box b base)→o< 9000000→base=0)
  (hN: ∀o q,N o=some q→9000000≤o∧((∃b base,q=some (b,base)∧B o=some (.box b base))∨ ∃n,B o=some (.row q n))):Rep Z M N w0 (mk nt s x) a w:=by
 obtain ⟨q1,g1,k1⟩:=QlK 500000 hs;obtain ⟨q2,g2,i2,k2⟩:=QlH 600000 hb;obtain ⟨q3,g3,i3⟩:=QlN hr;have g:=(g1.append g2).append g3;have hn:=Qan hnames
 let rows:=((mkS 500000 s.slots x.1).2++(mkB 600000 s.boxes x.2.1).2)++mkW s.rows x.2.2
 let bx:=(mkB 600000 s.boxes x.2.1).1
 have hH:(mk nt s x).H=rows++bx:=by simp [mk,rows,bx]
 rw [hH] at hn;have hnr:(rows.map (·.1)).Nodup:=by rw [List.map_append] at hn; exact (List.nodup_append.1 hn).1
 let β:Qr:=fun o=>match look ((q1++q2)++q3) o with | some q=>q | none=>match B o with | some (.box b base)=>some (b,base) | _=>none
 have hqn:(((q1++q2)++q3).map (·.1)).Nodup:=by rw [g.names]; exact hnr
 have hβq: ∀p∈(q1++q2)++q3,β p.1=p.2:=by
  intro p hp;show (match look ((q1++q2)++q3) p.1 with | some q=>q | none=>match B p.1 with | some (.box b base)=>some (b,base) | _=>none)=p.2
  rw [Qap hqn hp]
 have hlook: ∀p∈rows++bx,look (mk nt s x).H p.1=some p.2:=by
  intro p hp;rw [hH]; exact Qap hn hp
 have hlive: ∀o ob,look (mk nt s x).H o=some ob→(o,ob)∈rows++bx:=by
  intro o ob ho;rw [hH] at ho;exact QaY ho
 have hβB: ∀o b base,o∈s.boxes.map (·.1)→B o=some (.box b base)→β o=some (b,base):=by
  intro o b base ho hBo;show (match look ((q1++q2)++q3) o with | some q=>q | none=>match B o with | some (.box b base)=>some (b,base) | _=>none)=some (b,base)
  cases hl:look ((q1++q2)++q3) o with
  | none=>simp [hBo]
  | some q=>
   exfalso;have hm:=QaY hl
   have h1:o∈rows.map (·.1):=by
    rw [←g.names]; exact List.mem_map_of_mem (f:=(·.1)) hm
   have h2:o∈bx.map (·.1):=by simp only [bx,Qii]; exact ho
   rw [List.map_append] at hn;exact (List.nodup_append.1 hn).2.2 o h1 o h2 rfl
 have hrow: ∀p∈rows, ∃q,β p.1=q∧(p.1,q)∈(q1++q2)++q3∧(∀b∈blkq q,b∈(F1++F2)++F3)∧OwnO w S q p.2:=by
  intro p hp;obtain ⟨q,h1,h2,h3⟩:=g.mem p hp;exact ⟨q,hβq _ h1,h1,h2,h3⟩
 have hbox: ∀p∈bx, ∃cs,p.2= .box cs∧ ∃ks b base,(p.1,ks)∈s.boxes∧ks.length=cs.length∧β p.1=some (b,base)∧B p.1=some (.box b base):=by
  intro p hp;obtain ⟨cs,e1,ks,b,base,c,e,h1,h2,h3,_⟩:=i2 p hp;exact ⟨cs,e1,ks,b,base,h1,h2,hβB p.1 b base (List.mem_map_of_mem (f:=(·.1)) h1) h3,h3⟩
 have hOwn: ∀b,Own β (mk nt s x).H b→b∈(F1++F2)++F3∨ ∃o base,B o=some (.box b base):=by
  rintro b ⟨o,ob,p,ho,_,hb,hf⟩;rcases List.mem_append.1 (hlive o ob ho) with hm | hm
  ·obtain ⟨q,h1,h2,h3,_⟩:=hrow _ hm;simp only at h1;refine .inl (h3 b ?_);rw [←h1,hb]; exact Qbn hf
  ·obtain ⟨cs,e1,ks,b',base,_,_,h1,h2⟩:=hbox _ hm;simp only at h1 h2 e1;subst e1;rw [hb] at h1;cases h1;rw [QcN hf];exact .inr ⟨o,base,h2⟩
 have hBbox: ∀o b base,B o=some (.box b base)→β o=some (b,base)∧ ∃cs,look (mk nt s x).H o=some (.box cs):=by
  intro o b base ho;have hm:=(hB o b base ho).1;refine ⟨hβB o b base hm ho,?_⟩;have:o∈bx.map (·.1):=by simp only [bx,Qii]; exact hm
  obtain ⟨p,hp,rfl⟩:=List.mem_map.1 this;obtain ⟨cs,e1,_⟩:=hbox p hp;exact ⟨cs,by rw [hlook p (List.mem_append_right _ hp),e1]⟩
 have hBrow: ∀o q n,B o=some (.row q n)→β o=q∧ ∃e t xs,look (mk nt s x).H o=some (.row e t xs)∧xs.length=n:=by
  intro o q n ho;have:o∈(mkW s.rows x.2.2).map (·.1):=by rw [QlM]; exact hBr o q n ho
  obtain ⟨p,hp,rfl⟩:=List.mem_map.1 this;obtain ⟨q',e,t,xs,h1,h2,h3⟩:=i3 p hp;rw [ho] at h3;simp only [Oie,Pl.row.injEq] at h3;obtain ⟨rfl,rfl⟩:=h3;exact ⟨hβq (p.1,q) (List.mem_append_right _ h1),e,t,xs,by rw [hlook p (by simp [rows,hp]),h2],rfl⟩
 have hag:Agree S Q B w (RO Z β (mk nt s x).H) β (mk nt s x).H:=by
  refine ⟨hBbox,hBrow,?_,?_⟩
  ·intro b hb ho;have:=hQ b hb;rcases hOwn b ho with h | ⟨o,base,h⟩
   ·exact this.1 h
   ·exact this.2 o base h
  ·refine Mon.sub fun b hb hs=>?_
   have:=hS b hb hs;refine ⟨this.1,fun ho=>?_⟩
   rcases hOwn b ho with h | ⟨o,base,h⟩
   ·exact this.2.1 h
   ·exact this.2.2 o base h
 have hrowH: ∀p∈(mkS 500000 s.slots x.1).2,look (mk nt s x).H p.1=some p.2:=fun p hp=>hlook p (by simp [rows,hp])
 have hrowH2: ∀p∈(mkB 600000 s.boxes x.2.1).2,look (mk nt s x).H p.1=some p.2:=fun p hp=>hlook p (by simp [rows,hp])
 refine ⟨β,hfresh,hwhole,?_,hlaid,?_,hd,hnt,hk,?_,?_,?_,?_⟩
 ·intro o q ho;obtain ⟨h9,h⟩:=hN o q ho;rcases h with ⟨b,base,rfl,h⟩ | ⟨n,h⟩
  ·obtain ⟨e1,cs,e2⟩:=hBbox o b base h;exact ⟨e1,by rw [e2]; rfl,h9⟩
  ·obtain ⟨e1,e,t,xs,e2,_⟩:=hBrow o q n h;exact ⟨e1,by rw [e2]; rfl,h9⟩
 ·intro o cs b base ho h9 hb;rcases List.mem_append.1 (hlive o _ ho) with hm | hm
  ·obtain ⟨q,h1,h2,h3,h4⟩:=hrow _ hm;simp only at h1;rw [hb] at h1;subst h1;obtain ⟨_,_,_,e1,_⟩:=h4;cases e1; rfl
  ·obtain ⟨cs',e1,ks,b',base',h0,hl,h1,h2⟩:=hbox _ hm;simp only at h1 h2;rw [hb] at h1;cases h1;exact hB0 o _ _ h2 h9
 ·intro o ob p b ho _ hb hf;rcases List.mem_append.1 (hlive o ob ho) with hm | hm
  ·obtain ⟨q,h1,h2,h3,h4⟩:=hrow _ hm;simp only at h1;have:=hM b (h3 b (by rw [←h1,hb]; exact Qbn hf))
   exact ⟨Qon this.1,this.2⟩
  ·obtain ⟨cs,e1,ks,b',base,h0,hl,h1,h2⟩:=hbox _ hm;simp only at h1 h2 e1;subst e1;rw [hb] at h1;cases h1;rw [QcN hf];have:=hB o b' base h2;exact ⟨fun i hi=>this.2.2.2 ks h0 i (by omega),this.2.2.1⟩
 ·intro o o' ob ob' p p' b ho _ ho' _ hb hb' hf hf';rcases List.mem_append.1 (hlive o ob ho) with hm | hm
  ·obtain ⟨q,h1,h2,h3,_⟩:=hrow _ hm;simp only at h1 h2;have hbq:b∈blkq q:=by rw [←h1,hb]; exact Qbn hf
   have hbF:=h3 b hbq;rcases List.mem_append.1 (hlive o' ob' ho') with hm' | hm'
   ·obtain ⟨q',h1',h2',h3',_⟩:=hrow _ hm';simp only at h1' h2';have:=g.inj hF _ h2 _ h2' b hbq (by simp only; rw [←h1',hb']; exact Qbn hf')
    exact (Prod.mk.inj this).1
   ·obtain ⟨cs,e0,ks,b2,base,_,_,e1,e2⟩:=hbox _ hm';simp only at e0 e1 e2;subst e0;rw [hb'] at e1;cases e1;obtain rfl:=QcN hf';exact absurd hbF (hB o' _ base e2).2.1
  ·obtain ⟨cs,e0,ks,b2,base,_,_,e1,e2⟩:=hbox _ hm;simp only at e0 e1 e2;subst e0;rw [hb] at e1;cases e1;obtain rfl:=QcN hf;rcases List.mem_append.1 (hlive o' ob' ho') with hm' | hm'
   ·obtain ⟨q',h1',h2',h3',_⟩:=hrow _ hm';simp only at h1' h2';exact absurd (h3' _ (by rw [←h1',hb']; exact Qbn hf')) (hB o _ base e2).2.1
   ·obtain ⟨cs',e0',ks',b3,base',_,_,e3,e4⟩:=hbox _ hm';simp only at e0' e3 e4;subst e0';rw [hb'] at e3;cases e3;obtain rfl:=QcN hf';exact hBi o o' _ base base' e2 e4
 ·intro o ob ho;rcases List.mem_append.1 (hlive o ob ho) with hm | hm
  ·obtain ⟨q,h1,h2,h3,h4⟩:=hrow _ hm;simp only at h1 h4;refine OwnO.or (by rw [h1]; exact h4) hag.data fun cs hc=>?_
   subst hc;rcases List.mem_append.1 hm with hm | hm
   ·rcases List.mem_append.1 hm with hm | hm
    ·exact (k1 hag hrowH (fun p hp=>hβq p (by simp [hp]))).2 _ hm cs rfl
    ·exact (k2 hag hrowH2 (fun p hp=>hβq p (by simp [hp]))).2 _ hm cs rfl
   ·obtain ⟨_,_,_,_,_,e1,_⟩:=i3 _ hm;cases e1
  ·exact (k2 hag hrowH2 (fun p hp=>hβq p (by simp [hp]))).1 (o,ob) hm
 ·intro i sl hi;exact (k1 hag hrowH (fun p hp=>hβq p (by simp [hp]))).1 (i,sl) (QaY hi)
end
section
open Go Go.RowKit
variable {w w0:World} {S S' Q Z:Nat→Prop} {M:Nat→Nat→Prop} {N:Nat→Option (Option (Nat×Nat))} {B B':Nat→Option Pl} {a:Act} {σ:St} {β:Qr} {H:Heap} {fr l:List Nat}
theorem QqA {bs:List Nat} (hB: ∀o∈bs,B o=B' o) {c:CK} {x:c.den} {v:Value} {F:List Nat} (h:QcW w S Q B c x v F) (hp:ptrC bs c=true):QcW w S Q B' c x v F:=by
 cases c with
 | ptr o off=>
  obtain ⟨⟨b,base,h1,h2⟩,h3⟩:=h;simp only [ptrC,List.contains_eq_mem,decide_eq_true_eq] at hp;exact ⟨⟨b,base,by rw [←hB o hp]; exact h1,h2⟩,h3⟩
 | ref o=>
  obtain ⟨⟨q,n,h1,h2⟩,h3⟩:=h;simp only [ptrC,List.contains_eq_mem,decide_eq_true_eq] at hp;exact ⟨⟨q,n,by rw [←hB o hp]; exact h1,h2⟩,h3⟩
 | _=>exact h
theorem Qhb {bs:List Nat} (hB: ∀o∈bs,B o=B' o): ∀{cs:List CK} {x:denC cs} {vs:List Value} {F:List Nat},Qbz w S Q B cs x vs F→cs.all (ptrC bs)=true→Qbz w S Q B' cs x vs F
 | [],_,_,_,h,_=>h
 | c::r,_,_,_,⟨v,vs',F1,F2,h1,h2,h3,h4⟩,hp=>by
  simp only [List.all_cons,Bool.and_eq_true] at hp;exact ⟨v,vs',F1,F2,h1,h2,QqA hB h3 hp.1,Qhb hB h4 hp.2⟩
theorem Qxc {bs:List Nat} (hB: ∀o∈bs,B o=B' o) {k:VK} {x:k.den} {v:Value} {F:List Nat} (h:VKR w S Q B k x v F) (hp:ptrV bs k=true):VKR w S Q B' k x v F:=by
 cases k with
 | b cs=>simp [ptrV] at hp
 | g cs=>obtain ⟨vs,e,h⟩:=h; exact ⟨vs,e,Qhb hB h hp⟩
 | s c=>
  by_cases hd: ∃t,c= .dat t
  ·obtain ⟨t,rfl⟩:=hd; exact h
  ·have hn: ∀t,c≠ .dat t:=fun t e=>hd ⟨t,e⟩
   exact (Qit hn).2 (QqA hB ((Qit hn).1 h) hp)
def Qcq:Ob→Bool
 | .row _ _ _=>true
 | .map _=>true
 | _=>false
def Rows (H:Heap) (l:List Nat):Prop:= ∀o∈l, ∃ob,look H o=some ob∧Qcq ob=true
theorem QP {ob:Ob} (h:Qcq ob=true):live ob=true:=by cases ob <;> first | rfl | cases h
theorem Qim {ob:Ob} {b cap:Nat} (h:Qcq ob=true) (hm:mayW M b cap ob): ∀i,M b i:=by
 cases ob <;> first | exact hm | cases h
theorem Qhn {o:Nat} {ob:Ob} (h:look H o=some ob) (hl:Qcq ob=true) (ho:o∉fr):look (frz H fr) o=some ob:=by
 cases ob with
 | row e t xs=>rw [Qaz (l:=fr) h,if_neg ho]
 | map es=>rw [Qav (by intro e t xs e'; rw [h] at e'; cases e'),h]
 | _=>cases hl
theorem Rows.append {l m:List Nat} (h:Rows H l) (h':Rows H m):Rows H (l++m):=fun o ho=>by
 rcases List.mem_append.1 ho with ho | ho
 ·exact h o ho
 ·exact h' o ho
theorem Qkz {c:CK} {s:S1} {x:c.den} {l:List Nat} (h:unC H c s=some (x,l)):Rows H l:=by
 intro o ho;cases c with
 | own e t=>
  simp only [unC] at h;split at h
  ·simp only [Oie,Pmi] at h; rw [←h.2] at ho; simp at ho
  ·rename_i o';split at h
   ·rename_i e' t' xs ho';split at h
    ·split at h
     ·simp only [Oie,Pmi] at h;rw [←h.2] at ho;simp only [List.mem_singleton] at ho;subst ho;exact ⟨_,ho',rfl⟩
     ·cases h
    ·cases h
   ·cases h
  ·cases h
 | vw e t=>
  simp only [unC] at h;split at h
  ·cases h
  split at h
  ·simp only [Oie,Pmi] at h; rw [←h.2] at ho; simp at ho
  all_goals first | (cases h; done) | skip
  all_goals
   split at h
   ·rename_i e' t' xs ho';split at h
    ·split at h
     ·simp only [Oie,Pmi] at h;rw [←h.2] at ho;simp only [List.mem_singleton] at ho;subst ho;exact ⟨_,ho',rfl⟩
     ·cases h
    ·cases h
   ·cases h
 | dat t=>
  simp only [unC] at h;split at h
  ·simp only [Oie,Pmi] at h; rw [←h.2] at ho; simp at ho
  ·cases h
 | ptr o' off=>
  simp only [unC] at h;split at h
  ·split at h
   ·split at h
    ·simp only [Oie,Pmi] at h; rw [←h.2] at ho; simp at ho
    ·cases h
   ·cases h
  ·cases h
 | ref o'=>
  simp only [unC] at h;split at h
  ·split at h
   ·split at h
    ·simp only [Oie,Pmi] at h; rw [←h.2] at ho; simp at ho
    ·cases h
   ·cases h
  ·cases h
 | pd t=>
  simp only [unC] at h;split at h
  ·split at h
   ·simp only [Oie,Pmi] at h; rw [←h.2] at ho; simp at ho
   ·cases h
  ·cases h
 | fn f ts=>
  simp only [unC] at h;split at h
  ·split at h
   ·split at h
    ·simp only [Oie,Pmi] at h; rw [←h.2] at ho; simp at ho
    ·cases h
   ·cases h
  ·cases h
 | mp=>
  simp only [unC] at h;split at h
  ·split at h
   ·rename_i es hk;simp only [Oie,Pmi] at h;rw [←h.2] at ho;simp only [List.mem_singleton] at ho;subst ho;exact ⟨_,hk,rfl⟩
   ·cases h
  ·cases h
 | bx t=>simp [unC] at h
 | any=>simp only [unC,Oie,Pmi] at h; rw [←h.2] at ho; simp at ho
theorem Qcf: ∀{cs:List CK} {ss:List S1} {x:denC cs} {l:List Nat},unCs H cs ss=some (x,l)→Rows H l∧ss.length=cs.length
 | [],[],_,_,h=>by
  simp only [unCs,Oie,Pmi] at h;rw [←h.2]; exact ⟨fun o ho=>by simp at ho,rfl⟩
 | c::r,s::ss,_,_,h=>by
  simp only [unCs] at h;split at h
  ·rename_i hy;split at h
   ·rename_i hz;simp only [Oie,Pmi] at h;rw [←h.2];have:=Qcf hz;exact ⟨(Qkz hy).append this.1,by simp [this.2]⟩
   ·cases h
  ·cases h
 | [],_::_,_,_,h=>by simp [unCs] at h
 | _::_,[],_,_,h=>by simp [unCs] at h
theorem Qpc {k:VK} {s:SV} {x:k.den} {l:List Nat} (h:unV H k s=some (x,l)):Rows H l:=by
 cases k with
 | b cs=>simp [unV] at h
 | g cs=>
  cases s with
  | g ss=>exact (Qcf h).1
  | s y=>
   cases y <;> simp only [unV] at h <;> first | (cases h; done) | skip
   split at h
   ·exact (Qcf h).1
   ·cases h
 | s c=>
  by_cases hd: ∃t,c= .dat t
  ·obtain ⟨t,rfl⟩:=hd;simp only [unV] at h;split at h
   ·simp only [Oie,Pmi] at h;rw [←h.2]; exact fun o ho=>by simp at ho
   ·cases h
  ·have hn: ∀t,c≠ .dat t:=fun t e=>hd ⟨t,e⟩
   have e1:unV H (.s c) s=(match s with | .s y=>unC H c y | .g _=>none):=by
    cases c <;> first | exact absurd rfl (hn _) | (cases s <;> rfl)
   rw [e1] at h;cases s with
   | g ss=>cases h
   | s y=>exact Qkz h
theorem Qpb {env:List (Nat×Sl)}: ∀{ls:List (Nat×VK)} {x:denS ls} {l:List Nat},unS H env ls=some (x,l)→Rows H l
 | [],_,_,h=>by
  simp only [unS,Oie,Pmi] at h;rw [←h.2]; exact fun o ho=>by simp at ho
 | (i,c)::r,_,_,h=>by
  simp only [unS] at h;split at h
  ·split at h
   ·rename_i hy;split at h
    ·rename_i hz;simp only [Oie,Pmi] at h;rw [←h.2];exact (Qpc hy).append (Qpb hz)
    ·cases h
   ·cases h
  ·cases h
theorem Qky: ∀{ls:List (Nat×List CK)} {x:denB ls} {l:List Nat},unB H ls=some (x,l)→Rows H l∧ ∀p∈ls, ∃ss,look H p.1=some (.box ss)∧ss.length=p.2.length
 | [],_,_,h=>by
  simp only [unB,Oie,Pmi] at h;rw [←h.2]; exact ⟨fun o ho=>by simp at ho,fun p hp=>by simp at hp⟩
 | (i,c)::r,_,_,h=>by
  simp only [unB] at h;split at h
  ·rename_i ss hs;split at h
   ·rename_i hy;split at h
    ·rename_i hz;simp only [Oie,Pmi] at h;rw [←h.2];have h1:=Qcf hy;have h2:=Qky hz;refine ⟨h1.1.append h2.1,fun p hp=>?_⟩
     rcases List.mem_cons.1 hp with rfl | hp
     ·exact ⟨ss,hs,h1.2⟩
     ·exact h2.2 p hp
    ·cases h
   ·cases h
  ·cases h
def others (H:Heap) (l:List Nat):List Nat:=(H.map (·.1)).filter fun o=>!(l.contains o)
theorem QbH {l:List Nat}: ∀o,o∈l→o∉others H l:=by
 intro o ho h;simp [others] at h;exact h.2 ho
theorem QsE {l:List Nat} {o:Nat} {ob:Ob} (h:look H o=some ob) (ho:o∉l):o∈others H l:=by
 simp only [others,List.mem_filter,List.mem_map,List.contains_eq_mem,Bool.not_eq_true',decide_eq_false_iff_not];exact ⟨⟨(o,ob),QaY h,rfl⟩,ho⟩
theorem QcR {l sh:List Nat}:Cuts H (others H l) l sh:=⟨QbH,fun o _ e t xs h ho=>QsE h ho⟩
theorem Qms (hO:Owns w S β (frz H fr)) (hQ: ∀b, ¬Own β (frz H fr) b→Q b) (hc: ∀sh,Cuts H fr l sh) {env:List (Nat×Sl)} (henv: ∀i x,look env i=some x→i< a.tmps.size∧VL w S β (frz H fr) x (a.tmps.getD i undef)):
  ∀{ls:List (Nat×VK)} {x:denS ls} {l1:List Nat},unS H env ls=some (x,l1)→(∀o∈l1,o∈l)→QqT H env l ls=true→ ∀{bs:List Nat},ls.all (fun p=>ptrV bs p.2)=true→QeD H fr bs→QgI w S Q (Qch β (frz H fr)) a ls x (blks β l1)
 | [],_,_,h,_,_,_,_,_=>by
  simp only [unS,Oie,Pmi] at h;rw [←h.2]; rfl
 | (i,c)::r,_,_,h,hl,hf,bs,hp,hbs=>by
  simp only [List.all_cons,Bool.and_eq_true] at hp;simp only [unS] at h;split at h
  ·rename_i v hv;split at h
   ·rename_i hy;split at h
    ·rename_i hz;simp only [Oie,Pmi] at h;obtain ⟨h1,h2⟩:=h;subst h1; subst h2;simp only [QqT,hv,Bool.and_eq_true] at hf;obtain ⟨hi,hvl⟩:=henv i _ hv;exact ⟨_,_,QJ,hi,Qmt hO hQ hvl hy (fun o ho=>hl o (List.mem_append_left _ ho)) hf.1 hp.1 hbs (hc _),Qms hO hQ hc henv hz (fun o ho=>hl o (List.mem_append_right _ ho)) hf.2 hp.2 hbs⟩
    ·cases h
   ·cases h
  ·cases h
theorem Qmq (hO:Owns w S β (frz H fr)) (hQ: ∀b, ¬Own β (frz H fr) b→Q b) (hc: ∀sh,Cuts H fr l sh):
  ∀{ls:List (Nat×List CK)} {x:denB ls} {l1:List Nat},unB H ls=some (x,l1)→(∀o∈l1,o∈l)→QqS H l ls=true→ ∀{bs:List Nat},ls.all (fun p=>p.2.all (ptrC bs))=true→QeD H fr bs→QgG w S Q (Qch β (frz H fr)) ls x (blks β l1)
 | [],_,_,h,_,_,_,_,_=>by
  simp only [unB,Oie,Pmi] at h;rw [←h.2]; rfl
 | (i,c)::r,_,_,h,hl,hf,bs,hp,hbs=>by
  simp only [List.all_cons,Bool.and_eq_true] at hp;simp only [unB] at h;split at h
  ·rename_i ss hs;split at h
   ·rename_i hy;split at h
    ·rename_i hz;simp only [Oie,Pmi] at h;obtain ⟨h1,h2⟩:=h;subst h1; subst h2;simp only [QqS,hs,Bool.and_eq_true] at hf;have hs':look (frz H fr) i=some (.box ss):=by rw [Qav (by intro e t xs e'; rw [hs] at e'; cases e'),hs]
     obtain ⟨b,base,cc,e,h1,h2,h3,h4⟩:=hO i _ hs';have hlen:=(Qcf hy).2;rw [hlen] at h3 h4
     refine ⟨_,_,b,base,cc,e,QJ,by simp [Qch,hs',h1],h2,h3,
      QbX hO hQ (h4.mono fun _ _ h=>h.1) hy (fun o ho=>hl o (List.mem_append_left _ ho)) hf.1 hp.1 hbs (hc _),h4.right fun _ _ h=>h.2,Qmq hO hQ hc hz (fun o ho=>hl o (List.mem_append_right _ ho)) hf.2 hp.2 hbs⟩
    ·cases h
   ·cases h
  ·cases h
theorem Qnt {bs:List Nat} (hB: ∀o∈bs,B o=B' o): ∀{ls:List (Nat×VK)} {x:denS ls} {F:List Nat},QgI w S Q B a ls x F→ls.all (fun p=>ptrV bs p.2)=true→QgI w S Q B' a ls x F
 | [],_,_,h,_=>h
 | (i,k)::r,_,_,⟨F1,F2,h1,h2,h3,h4⟩,hp=>by
  simp only [List.all_cons,Bool.and_eq_true] at hp;exact ⟨F1,F2,h1,h2,Qxc hB h3 hp.1,Qnt hB h4 hp.2⟩
theorem Qnr {bs:List Nat} (hB: ∀o∈bs,B o=B' o): ∀{ls:List (Nat×List CK)} {x:denB ls} {F:List Nat},QgG w S Q B ls x F→ls.all (fun p=>p.2.all (ptrC bs))=true→(∀p∈ls,p.1∈bs)→QgG w S Q B' ls x F
 | [],_,_,h,_,_=>h
 | (o,cs)::r,_,_,⟨F1,F2,b,base,c,e,h1,h2,h3,h4,h5,h6,h7⟩,hp,hm=>by
  simp only [List.all_cons,Bool.and_eq_true] at hp;exact ⟨F1,F2,b,base,c,e,h1,by rw [←hB o (hm (o,cs) (by simp))]; exact h2,h3,h4,Qhb hB h5 hp.1,h6,Qnr hB h7 hp.2 fun p hp=>hm p (by simp [hp])⟩
theorem Qcc {ob:Ob} {q:Option (Nat×Nat)} (hl:Qcq ob=true) (h:OR w S β H q ob):OwnO w S q ob:=by
 cases ob <;> first | exact h | cases hl
theorem Qmu (hO:Owns w S β (frz H fr)): ∀{ls:List (Nat×TypeId×Ty)} {x:denW ls},unW H ls=some x→(∀o∈ls.map (·.1),o∉fr)→
  Qhd w S (Qch β (frz H fr)) ls x (blks β (ls.map (·.1)))∧ ∀o∈ls.map (·.1), ∃e t xs,look H o=some (.row e t xs)
 | [],_,_,_=>⟨rfl,fun o ho=>by simp at ho⟩
 | (o,e,t)::r,_,h,hf=>by
  simp only [unW] at h;split at h
  ·rename_i e' t' xs ho;split at h
   ·rename_i he;split at h
    ·rename_i ys hys;split at h
     ·rename_i y hy;obtain rfl:=Osj h;obtain ⟨e1,e2⟩:=QX hys;simp only [Ty.slice.injEq] at e1;subst e1;simp only at e2;subst e2;have hk:=Qaz (l:=fr) ho;rw [if_neg (hf o (by simp))] at hk
      have ih:=Qmu hO hy (fun o ho=>hf o (by simp only [List.map_cons,List.mem_cons]; exact .inr ho))
      refine ⟨⟨β o,blks β (r.map (·.1)),?_,by simp [Qch,hk],QbK he (hO o _ hk),ih.1⟩,fun o' ho'=>?_⟩
      ·simp [blks]
      ·simp only [List.map_cons,List.mem_cons] at ho';rcases ho' with rfl | ho'
       ·exact ⟨_,_,_,ho⟩
       ·exact ih.2 o' ho'
     ·cases h
    ·cases h
   ·cases h
  ·cases h
theorem QqE {bs:List Nat} (hB: ∀o∈bs,B o=B' o): ∀{ls:List (Nat×TypeId×Ty)} {x:denW ls} {F:List Nat},Qhd w S B ls x F→(∀p∈ls,p.1∈bs)→Qhd w S B' ls x F
 | [],_,_,h,_=>h
 | (o,e,t)::r,_,_,⟨q,F2,h1,h2,h3,h4⟩,hm=>⟨q,F2,h1,by rw [←hB o (hm (o,e,t) (by simp))]; exact h2,h3,QqE hB h4 fun p hp=>hm p (by simp [hp])⟩
theorem QuS {s:Shp} {x:s.den} (hrep:Rep Z M N w0 σ a w) (h:un s σ=some x):Rep Z M N w0 (mk σ.nt s x) a w:=by
 obtain ⟨β,hrep⟩:=hrep;unfold un at h;split at h
 ·rename_i xs l hl;split at h
  ·rename_i xb m hm;split at h
   ·rename_i xw hw;simp only at h;split at h
    ·rename_i hc;obtain rfl:=Osj h;simp only [Bool.and_eq_true] at hc;obtain ⟨⟨⟨⟨⟨⟨h1,h2⟩,h3⟩,h4⟩,h5⟩,h6⟩,h7⟩:=hc
     let n:=s.rows.map (·.1)
     let fr:=others σ.H ((l++m)++n)
     have hr1:=hrep.frz fr;have hW:=Qmu hr1.owns hw (fun o ho=>QbH o (List.mem_append_right _ ho))
     have hrows:=((Qpb hl).append (Qky hm).1).append (m:=n) fun o ho=>by obtain ⟨e,t,ys,hk⟩:=hW.2 o ho; exact ⟨_,hk,rfl⟩
     have hlive: ∀o∈(l++m)++n, ∃ob,look (frz σ.H fr) o=some ob∧Qcq ob=true:=by
      intro o ho;obtain ⟨ob,hk,hl⟩:=hrows o ho;exact ⟨ob,Qhn hk hl (QbH o ho),hl⟩
     have hliveN: ∀o∈n, ∃e t xs,look (frz σ.H fr) o=some (.row e t xs):=by
      intro o ho;obtain ⟨e,t,ys,hk⟩:=hW.2 o ho;exact ⟨e,t,ys,Qhn hk rfl (QbH o (List.mem_append_right _ ho))⟩
     have hbx0:=(Qky hm).2
     have hbx: ∀p∈s.boxes, ∃ss,look (frz σ.H fr) p.1=some (.box ss)∧ss.length=p.2.length:=by
      intro p hp;obtain ⟨ss,e1,e2⟩:=hbx0 p hp;exact ⟨ss,by rw [Qav (by intro e t xs e'; rw [e1] at e'; cases e'),e1],e2⟩
     have hQ: ∀b, ¬Own β (frz σ.H fr) b→ ¬Own β (frz σ.H fr) b:=fun _ h=>h
     let bs:=s.boxes.map (·.1)++n
     have hrefs:QeD σ.H fr bs:=by
      intro o ho e t xs hk;rcases List.mem_append.1 ho with ho | ho
      ·obtain ⟨p,hp,rfl⟩:=List.mem_map.1 ho;obtain ⟨ss,e1,_⟩:=hbx0 p hp;rw [hk] at e1; cases e1
      ·exact QbH o (List.mem_append_right _ ho)
     simp only [QuF,Bool.and_eq_true] at h3;have hS:=Qms hr1.owns hQ (fun sh=>QcR) hr1.env hl (fun o ho=>List.mem_append_left _ (List.mem_append_left _ ho)) h4 h3.1 hrefs
     have hB:=Qmq hr1.owns hQ (fun sh=>QcR) hm (fun o ho=>List.mem_append_left _ (List.mem_append_right _ ho)) h5 h3.2 hrefs
     let B:Nat→Option Pl:=fun o=>if o∈bs then Qch β (frz σ.H fr) o else none
     have hBB: ∀o∈bs,Qch β (frz σ.H fr) o=B o:=by intro o ho; simp [B,ho]
     have hBo: ∀o b base,B o=some (.box b base)→o∈s.boxes.map (·.1)∧(∃ss,look (frz σ.H fr) o=some (.box ss))∧β o=some (b,base):=by
      intro o b base ho;simp only [B] at ho;split at ho
      ·rename_i hm';rcases List.mem_append.1 hm' with hm' | hm'
       ·obtain ⟨p,hp,rfl⟩:=List.mem_map.1 hm';obtain ⟨ss,e1,_⟩:=hbx p hp;refine ⟨List.mem_map_of_mem hp,⟨ss,e1⟩,?_⟩;simp only [Qch,e1] at ho;cases hq:β p.1 with
        | none=>rw [hq] at ho; cases ho
        | some q=>rw [hq] at ho; simp at ho; rw [←ho.1, ←ho.2]
       ·obtain ⟨e,t,ys,hk⟩:=hliveN o hm';simp only [Qch,hk] at ho;cases ho
      ·cases ho
     have hBr: ∀o q k,B o=some (.row q k)→o∈n:=by
      intro o q k ho;simp only [B] at ho;split at ho
      ·rename_i hm';rcases List.mem_append.1 hm' with hm' | hm'
       ·obtain ⟨p,hp,rfl⟩:=List.mem_map.1 hm';obtain ⟨ss,e1,_⟩:=hbx p hp;simp only [Qch,e1] at ho;cases hq:β p.1 with
        | none=>rw [hq] at ho; cases ho
        | some q=>rw [hq] at ho; cases ho
       ·exact hm'
      ·cases ho
     have hF: ∀b,b∈(blks β l++blks β m)++blks β n↔ ∃o∈(l++m)++n,b∈blkq (β o):=by
      intro b; rw [←QJ, ←QJ]; exact Qbk
     have hfoot: ∀o∈(l++m)++n, ∀b,b∈blkq (β o)→ ∃ob p,look (frz σ.H fr) o=some ob∧Qcq ob=true∧β o=some p∧foot ob p b:=by
      intro o ho b hb;obtain ⟨ob,hk,hl⟩:=hlive o ho;have hO:=Qcc hl (hr1.obj o ob hk);cases hq:β o with
      | none=>rw [hq] at hb; simp [blkq] at hb
      | some p=>
       rw [hq] at hb hO;exact ⟨ob,p,hk,hl,rfl,hO.foot.2 hb⟩
     refine QjT (B:=B) hr1.laid hr1.fresh hr1.whole hr1.defers hr1.size hr1.below ?_ (Qnt hBB hS h3.1) (Qnr hBB hB h3.2 (fun p hp=>List.mem_append_left _ (List.mem_map_of_mem hp)))
      (QqE hBB hW.1 (fun p hp=>List.mem_append_right _ (List.mem_map_of_mem hp))) ?_ ?_ ?_ hBr ?_ ?_ ?_ ?_ ?_
     ·exact h6
     ·rw [←QJ, ←QJ];refine Qdr (l:=(l++m)++n) ?_ ?_ (fun o ho=>ho) (Qan h1)
      ·intro o o' b ho ho' hb hb';obtain ⟨ob,p,hk,hl,hp,hf⟩:=hfoot o ho b hb;obtain ⟨ob',p',hk',hl',hp',hf'⟩:=hfoot o' ho' b hb';exact hr1.one o o' _ _ p p' b hk (QP hl) hk' (QP hl') hp hp' hf hf'
      ·intro o ho;obtain ⟨ob,hk,hl⟩:=hlive o ho;exact (Qcc hl (hr1.obj o ob hk)).nodup
     ·intro b hb;obtain ⟨o,ho,hbo⟩:=(hF b).1 hb;obtain ⟨ob,p,hk,hl,hp,hf⟩:=hfoot o ho b hbo;have hown:=hr1.hold o _ p b hk (QP hl) hp hf;exact ⟨Qim hl hown.1,hown.2⟩
     ·intro o b base ho;obtain ⟨hm',⟨ss,hk⟩,hb⟩:=hBo o b base ho;have hown:=hr1.own o _ b base hk rfl hb;refine ⟨hm',?_,hown.2,?_⟩
      ·intro hbF;obtain ⟨o',ho',hbo⟩:=(hF b).1 hbF;obtain ⟨ob,p,hk',hl',hp,hf⟩:=hfoot o' ho' b hbo;have:=hr1.one o o' _ _ _ p b hk rfl hk' (QP hl') hb hp Ql hf;subst this;rw [hk] at hk';cases hk';cases hl'
      ·intro cs hcs i hi;obtain ⟨ss',e1,e2⟩:=hbx _ hcs;simp only at hk e1 e2;rw [hk] at e1;cases e1;exact hown.1 i (by omega)
     ·intro o o' b base base' ho ho';obtain ⟨_,⟨ss,hk⟩,hb⟩:=hBo o b base ho;obtain ⟨_,⟨ss',hk'⟩,hb'⟩:=hBo o' b base' ho';exact hr1.inj o o' _ _ b base base' hk rfl hk' rfl hb hb'
     ·intro b _ hb;refine ⟨hb.1,fun hbF=>?_,fun o base ho=>?_⟩
      ·obtain ⟨o',ho',hbo⟩:=(hF b).1 hbF;obtain ⟨ob,p,hk',hl',hp,hf⟩:=hfoot o' ho' b hbo;exact hb.2 ⟨o',_,p,hk',QP hl',hp,hf⟩
      ·obtain ⟨_,⟨ss,hk⟩,hb'⟩:=hBo o b base ho;exact hb.2 ⟨o,_,_,hk,rfl,hb',Ql⟩
     ·intro b hb;refine ⟨fun hbF=>?_,fun o base ho=>?_⟩
      ·obtain ⟨o',ho',hbo⟩:=(hF b).1 hbF;obtain ⟨ob,p,hk',hl',hp,hf⟩:=hfoot o' ho' b hbo;exact hb ⟨o',_,p,hk',QP hl',hp,hf⟩
      ·obtain ⟨_,⟨ss,hk⟩,hb'⟩:=hBo o b base ho;exact hb ⟨o,_,_,hk,rfl,hb',Ql⟩
     ·intro o b base ho h9;obtain ⟨_,⟨ss,hk⟩,hb⟩:=hBo o b base ho;exact hr1.bz o ss b base hk h9 hb
     ·intro o q ho;obtain ⟨p1,p2,p3⟩:=hrep.pin o q ho;refine ⟨p3,?_⟩;obtain ⟨ob,hob⟩:=Option.isSome_iff_exists.1 p2
      have hin:o∈bs:=by
       have:=List.all_eq_true.1 h7 _ (QaY hob);simp only [Bool.or_eq_true,decide_eq_true_eq,List.contains_eq_mem] at this;rcases this with h | h
       ·omega
       ·exact h
      have hBo':B o=Qch β (frz σ.H fr) o:=(hBB o hin).symm;rcases List.mem_append.1 hin with hm' | hm'
      ·left;obtain ⟨p,hp,rfl⟩:=List.mem_map.1 hm';obtain ⟨ss,e1,_⟩:=hbx p hp;obtain ⟨b,base,c,e,e2,_⟩:=hr1.obj p.1 _ e1;refine ⟨b,base,by rw [←p1,e2],by rw [hBo']; simp [Qch,e1,e2]⟩
      ·right;obtain ⟨e,t,ys,hk⟩:=hliveN o hm';exact ⟨ys.length,by rw [hBo']; simp [Qch,hk,p1]⟩
    ·cases h
   ·cases h
  ·cases h
 ·cases h
end
section
open Go Go.RowKit
def noB:Nat→Option Pl:=fun _=>none
def AggR (w:World) (S Q:Nat→Prop) (B:Nat→Option Pl) (nm:Nat):(cs:List CK)→denC cs→List Value→List Nat→Prop
 | [],_,vs,F=>vs=[]∧F=[]
 | .own e t::r,x,vs,F=> ∃v vs' q F2,vs=v::vs'∧F=blkq q++F2∧B nm=some (.row q x.1.length)∧RowO w S e t x.1 q∧RowV q x.1.length v∧AggR w S Q B (nm+1) r x.2 vs' F2
 | .dat t::r,x,vs,F=> ∃v vs',vs=v::vs'∧QcW w S Q noB (.dat t) x.1 v []∧AggR w S Q B (nm+1) r x.2 vs' F
 | .ptr o f::r,x,vs,F=>False
 | .ref o::r,x,vs,F=>False
 | .pd t::r,x,vs,F=> ∃v vs',vs=v::vs'∧QcW w S Q noB (.pd t) x.1 v []∧AggR w S Q B (nm+1) r x.2 vs' F
 | .fn f ts::r,x,vs,F=> ∃v vs',vs=v::vs'∧QcW w S Q noB (.fn f ts) x.1 v []∧AggR w S Q B (nm+1) r x.2 vs' F
 | .mp::r,x,vs,F=>False
 | .bx _::r,x,vs,F=>False
 | .vw _ _::r,x,vs,F=>False
 | .any::r,x,vs,F=> ∃v vs',vs=v::vs'∧AggR w S Q B (nm+1) r x.2 vs' F
def CwR (w:World) (S:Nat→Prop) (B:Nat→Option Pl) (nm:Nat):(cs:List CK)→Qci cs→List Value→List Nat→Prop
 | [],_,vs,F=>vs=[]∧F=[]
 | .own e t::r,y,vs,F=> ∃v vs' q F2,vs=v::vs'∧F=blkq q++F2∧RowO w S e t y.1 q∧(∃n,B nm=some (.row q n))∧CwR w S B (nm+1) r y.2 vs' F2
 | .dat _::r,y,vs,F=> ∃v vs',vs=v::vs'∧CwR w S B (nm+1) r y vs' F
 | .ptr _ _::r,y,vs,F=> ∃v vs',vs=v::vs'∧CwR w S B (nm+1) r y vs' F
 | .ref _::r,y,vs,F=> ∃v vs',vs=v::vs'∧CwR w S B (nm+1) r y vs' F
 | .pd _::r,y,vs,F=> ∃v vs',vs=v::vs'∧CwR w S B (nm+1) r y vs' F
 | .fn _ _::r,y,vs,F=> ∃v vs',vs=v::vs'∧CwR w S B (nm+1) r y vs' F
 | .mp::r,y,vs,F=> ∃v vs',vs=v::vs'∧CwR w S B (nm+1) r y vs' F
 | .bx _::r,y,vs,F=> ∃v vs',vs=v::vs'∧CwR w S B (nm+1) r y vs' F
 | .vw _ _::r,y,vs,F=> ∃v vs',vs=v::vs'∧CwR w S B (nm+1) r y vs' F
 | .any::r,y,vs,F=> ∃v vs',vs=v::vs'∧CwR w S B (nm+1) r y vs' F
def QcH (w:World) (S Q:Nat→Prop) (B:Nat→Option Pl) (i:Nat):(ps:List PK)→denP ps→List Value→List Nat→Prop
 | [],_,vs,F=>vs=[]∧F=[]
 | .val t::r,x,vs,F=> ∃v vs',vs=v::vs'∧(∃cs,Val t v cs∧Rp w S t x.1 cs)∧QcH w S Q B (i+1) r x.2 vs' F
 | .ptr t::r,x,vs,F=> ∃v vs',vs=v::vs'∧PtrR w S Q t x.1 v∧QcH w S Q B (i+1) r x.2 vs' F
 | .fn f ts::r,x,vs,F=> ∃v vs',vs=v::vs'∧(∃us,v= .func (.func f) #[] us.toArray∧QkV w S Q ts x.1 us)∧QcH w S Q B (i+1) r x.2 vs' F
 | .box ci _::r,x,vs,F=> ∃v vs' F1 F2 b base c e,vs=v::vs'∧F=F1++F2∧B (9000000+i)=some (.box b base)∧v= .pointer (some ⟨b,base,none⟩)∧w.heap[b]?=some (.cells c e (0,0))∧
   base+ci.length≤c.size∧Qbz w S Q noB ci x.1 ((c.toList.drop base).take ci.length) F1∧(∀u∈(c.toList.drop base).take ci.length,u.oneCell'=true)∧QcH w S Q B (i+1) r x.2 vs' F2
 | .row e t::r,x,vs,F=> ∃v vs' q F2,vs=v::vs'∧F=blkq q++F2∧B (9000100+100*i)=some (.row q x.1.length)∧RowO w S e t x.1 q∧RowV q x.1.length v∧QcH w S Q B (i+1) r x.2 vs' F2
 | .agg cs::r,x,vs,F=> ∃v vs' us F1 F2,vs=v::vs'∧F=F1++F2∧v= .agg us.toArray∧AggR w S Q B (9000100+100*i) cs x.1 us F1∧QcH w S Q B (i+1) r x.2 vs' F2
def Qeg (w:World) (S:Nat→Prop) (B:Nat→Option Pl) (i:Nat):(ps:List PK)→denQ ps→List Value→List Nat→Prop
 | [],_,vs,F=>vs=[]∧F=[]
 | .val _::r,y,vs,F=> ∃v vs',vs=v::vs'∧Qeg w S B (i+1) r y vs' F
 | .ptr _::r,y,vs,F=> ∃v vs',vs=v::vs'∧Qeg w S B (i+1) r y vs' F
 | .fn _ _::r,y,vs,F=> ∃v vs',vs=v::vs'∧Qeg w S B (i+1) r y vs' F
 | .box ci co::r,y,vs,F=> ∃v vs' F1 F2 b base c e,vs=v::vs'∧F=F1++F2∧v= .pointer (some ⟨b,base,none⟩)∧co.length=ci.length∧w.heap[b]?=some (.cells c e (0,0))∧
   base+co.length≤c.size∧Qbz w S (fun _=>False) noB co y.1 ((c.toList.drop base).take co.length) F1∧(∀u∈(c.toList.drop base).take co.length,u.oneCell'=true)∧Qeg w S B (i+1) r y.2 vs' F2
 | .row e t::r,y,vs,F=> ∃v vs' q F2,vs=v::vs'∧F=blkq q++F2∧RowO w S e t y.1 q∧(∃n,B (9000100+100*i)=some (.row q n))∧Qeg w S B (i+1) r y.2 vs' F2
 | .agg cs::r,y,vs,F=> ∃v vs' us F1 F2,vs=v::vs'∧F=F1++F2∧v= .agg us.toArray∧CwR w S B (9000100+100*i) cs y.1 us F1∧Qeg w S B (i+1) r y.2 vs' F2
structure Pre (M:Nat→Nat→Prop) (w:World) (ps:List PK) (S Q:Nat→Prop) (B:Nat→Option Pl) (F:List Nat):Prop where
 laid:Laid M w
 fresh: ∀b,w.heap.size≤b→ ∀i,M b i
 nodup:F.Nodup
 mine: ∀b∈F,(∀i,M b i)∧b< w.heap.size
 box: ∀o b base,B o=some (.box b base)→o∈(QaN 0 ps).map (·.1)∧b∉F∧b< w.heap.size∧ ∀ci,(o,ci)∈QaN 0 ps→ ∀i,i< ci.length→M b (base+i)
 row: ∀o q n,B o=some (.row q n)→o∈(Qbx 0 ps).map (·.1)
 inj: ∀o o' b base base',B o=some (.box b base)→B o'=some (.box b base')→o=o'
 data: ∀b,b< w.heap.size→S b→b∉F∧ ∀o base,B o≠some (.box b base)
 ptr: ∀b,Q b→b∉F∧ ∀o base,B o≠some (.box b base)
def after (S:Nat→Prop) (M:Nat→Nat→Prop) (B:Nat→Option Pl) (F:List Nat) (b:Nat):Prop:=(S b∨ ∀i,M b i)∧b∉F∧ ∀o base,B o≠some (.box b base)
def tupV (vs:List Value):Value:=match vs with | [v]=>v | _=> .tuple vs.toArray
def Post (M:Nat→Nat→Prop) (w:World) (S:Nat→Prop) (B:Nat→Option Pl) (cn:Con) (args:List Value) (y:denV cn.rs×denQ cn.ps) (v:Value) (w':World):Prop:=
 Kept M w w'∧ ∃vs F1 F2,v=tupV vs∧VKsR w' (after S M B (F1++F2)) (fun _=>False) noB cn.rs y.1 vs F1∧Qeg w' (after S M B (F1++F2)) B 0 cn.ps y.2 args F2∧(F1++F2).Nodup∧
  ∀b∈F1++F2,(∀i,M b i)∧b< w'.heap.size∧ ∀o base,B o≠some (.box b base)
def nlV:Bool→List Value→Prop
 | false,_=>True
 | true,args=> ∃r,args= .slice none 0 0::r
def Qfg (P:Program) (f:FuncId) (cn:Con):Prop:=
 ∀(x:denP cn.ps) (y:denV cn.rs×denQ cn.ps),cn.F x=some y→ ∀(w:World) (args:List Value) (S Q:Nat→Prop) (B:Nat→Option Pl) (M:Nat→Nat→Prop) (F:List Nat),
  Pre M w cn.ps S Q B F→QcH w S Q B 0 cn.ps x args F→nlV cn.nl args→Calls P f args.toArray w fun e w'=> ∃v,e= .returned v∧Post M w S B cn args y v w'
def Qb (P:Program) (f:FuncId) (cn:Con):Prop:=
 ∀(x:denP cn.ps) (y:denV cn.rs×denQ cn.ps),cn.F x=some y→ ∀(w:World) (args:List Value) (S Q:Nat→Prop) (B:Nat→Option Pl) (M:Nat→Nat→Prop) (F:List Nat),
  Pre M w cn.ps S Q B F→QcH w S Q B 0 cn.ps x args F→nlV cn.nl args→ ∀(o:Oper) (a:Act) (next:Act→World→Prop) (Q':Exit→Act→World→Prop),(∀v w',Post M w S B cn args y v w'→next (a.put o.dst v) w')→
   o.upon P a next Q' ((callFunc f args.toArray).run P w)
theorem Qfg.ok {P:Program} {f:FuncId} {cn:Con} (h:Qfg P f cn) (he: ∀args w,(callFunc f args).run P w= .ok (.enter f args) w):Qb P f cn:=by
 intro x y hx w args S Q B M F hp ha hnl o a next Q' hn;rw [he,Oper.upon_enter];refine (h x y hx w args S Q B M F hp ha hnl).mono fun e w' hv=>?_
 obtain ⟨v,rfl,hv⟩:=hv;exact hn v w' hv
theorem Qfo {P : Program} {f : FuncId} {fn : Func} (hf : P.funcs[f]? = some fn) (hn : (fn.name == "runtime.NumGoroutine") = false) (hb : fn.body.isSome = true) (args : Array Value) (w : World) : (callFunc f args).run P w = .ok (.enter f args) w := by
 have h1 : fn.name ≠ "runtime.NumGoroutine" := by simpa using hn
 obtain ⟨c,hc⟩:=Option.isSome_iff_exists.1 hb;simp [callFunc,hf,h1,hc]
def Qf (P:Program) (G:Env):Prop:= ∀p∈G,Qb P p.1 p.2
theorem Qig: ∀{G:Env} {g:FuncId} {xs:List SV} {cn:Con},QlG G g xs=some cn→(g,cn)∈G
 | [],_,_,_,h=>by simp [QlG] at h
 | (k,c)::r,g,xs,cn,h=>by
  simp only [QlG] at h;split at h
  ·rename_i e;obtain ⟨rfl,_⟩:=e;obtain rfl:=Osj h;simp
  ·exact List.mem_cons_of_mem _ (Qig h)
def bxl (i:Nat):List PK→List SV→List (Nat×Nat×Nat×Nat)
 | .box ci _::r,.s (.p o off)::xs=>(9000000+i,o,off,ci.length)::bxl (i+1) r xs
 | .box _ _::r,_::xs=>bxl (i+1) r xs
 | .val _::r,_::xs=>bxl (i+1) r xs
 | .ptr _::r,_::xs=>bxl (i+1) r xs
 | .fn _ _::r,_::xs=>bxl (i+1) r xs
 | .row _ _::r,_::xs=>bxl (i+1) r xs
 | .agg _::r,_::xs=>bxl (i+1) r xs
 | _,_=>[]
def plR (β:Qr) (H:Heap):S1→Pl
 | .sl o=> .row (β o) (match look H o with | some (.row _ _ xs)=>xs.length | _=>0)
 | _=> .row none 0
def rwC (β:Qr) (H:Heap) (nm:Nat):List CK→List S1→List (Nat×Pl)
 | .own _ _::r,s::ss=>(nm,plR β H s)::rwC β H (nm+1) r ss
 | .dat _::r,_::ss=>rwC β H (nm+1) r ss
 | .ptr _ _::r,_::ss=>rwC β H (nm+1) r ss
 | .ref _::r,_::ss=>rwC β H (nm+1) r ss
 | .pd _::r,_::ss=>rwC β H (nm+1) r ss
 | .fn _ _::r,_::ss=>rwC β H (nm+1) r ss
 | .mp::r,_::ss=>rwC β H (nm+1) r ss
 | .bx _::r,_::ss=>rwC β H (nm+1) r ss
 | .vw _ _::r,_::ss=>rwC β H (nm+1) r ss
 | .any::r,_::ss=>rwC β H (nm+1) r ss
 | _,_=>[]
def rwl (β:Qr) (H:Heap) (i:Nat):List PK→List SV→List (Nat×Pl)
 | .row _ _::r,.s s::xs=>(9000100+100*i,plR β H s)::rwl β H (i+1) r xs
 | .row _ _::r,_::xs=>rwl β H (i+1) r xs
 | .agg cs::r,.g ss::xs=>rwC β H (9000100+100*i) cs ss++rwl β H (i+1) r xs
 | .agg _::r,_::xs=>rwl β H (i+1) r xs
 | .val _::r,_::xs=>rwl β H (i+1) r xs
 | .ptr _::r,_::xs=>rwl β H (i+1) r xs
 | .fn _ _::r,_::xs=>rwl β H (i+1) r xs
 | .box _ _::r,_::xs=>rwl β H (i+1) r xs
 | _,_=>[]
variable {w w0:World} {S S' Q Z:Nat→Prop} {M:Nat→Nat→Prop} {N:Nat→Option (Option (Nat×Nat))} {B:Nat→Option Pl} {a:Act} {σ:St} {β:Qr} {H:Heap} {fr l:List Nat}
theorem Cuts.sub {sh sh':List Nat} (h:Cuts H fr l sh) (hs: ∀o∈sh',o∈sh):Cuts H fr l sh':=⟨h.out,fun o ho=>h.shown o (hs o ho)⟩
theorem QlQ (hO:Owns w S β (frz H fr)) (hc: ∀o,o∈l→o∉fr) {e:TypeId} {t:Ty} {s:S1} {v:Value} {x:List (den t)} {l1:List Nat} (hv:VS w S β (frz H fr) s v) (h:unC H (.own e t) s=some (x,l1)) (hl1: ∀o∈l1,o∈l):
  ∃q,blks β l1=blkq q∧plR β H s= .row q x.length∧RowO w S e t x q∧RowV q x.length v:=by
 simp only [unC] at h;split at h
 ·simp only [Oie,Pmi] at h;obtain ⟨rfl,rfl⟩:=h;simp only [VS] at hv;exact ⟨none,rfl,rfl,.inl ⟨rfl,rfl⟩,hv,rfl⟩
 ·rename_i o;split at h
  ·rename_i e' t' xs ho;split at h
   ·rename_i he;split at h
    ·rename_i ys hys;simp only [Oie,Pmi] at h;obtain ⟨rfl,rfl⟩:=h;obtain ⟨e1,e2⟩:=QX hys;simp only [Ty.slice.injEq] at e1;subst e1;simp only at e2;subst e2;have hof:=hc o (hl1 o (by simp))
     have hk:=Qaz (l:=fr) ho;rw [if_neg hof] at hk;simp only [VS,hk] at hv;exact ⟨β o,by simp [blks],by simp [plR,ho],QbK he (hO o _ hk),hv⟩
    ·cases h
   ·cases h
  ·cases h
 ·cases h
theorem Qnw {c:CK} (h:aggC c=true):ptrC [] c=true:=by cases c <;> first | rfl | cases h
theorem Qlb {cs:List CK} (h:cs.all aggC=true):cs.all (ptrC [])=true:=by
 rw [List.all_eq_true] at h⊢;exact fun c hc=>Qnw (h c hc)
theorem Qlc (hO:Owns w S β (frz H fr)) (hQ: ∀b, ¬Own β (frz H fr) b→Q b): ∀{cs:List CK} {ss:List S1} {vs:List Value} {x:denC cs} {l1:List Nat} {nm:Nat},All2 (VS w S β (frz H fr)) ss vs→unCs H cs ss=some (x,l1)→
  (∀o∈l1,o∈l)→Qcj H l cs ss=true→cs.all aggC=true→Cuts H fr l (QO ss)→(∀p∈rwC β H nm cs ss,B p.1=some p.2)→AggR w S Q B nm cs x vs (blks β l1)
 | [],[],_,_,_,_,hv,h,_,_,_,_,_=>by
  cases hv;simp only [unCs,Oie,Pmi] at h;obtain ⟨_,rfl⟩:=h;exact ⟨rfl,rfl⟩
 | c::r,s::ss,_,x,l1,nm,hv,h,hl,hf,hp,hc,hB=>by
  simp only [List.all_cons,Bool.and_eq_true] at hp;cases hv with
  | cons h1 h2=>
   simp only [unCs] at h;split at h
   ·rename_i y l2 hy;split at h
    ·rename_i z l3 hz;simp only [Oie,Pmi] at h;obtain ⟨rfl,rfl⟩:=h;simp only [Qcj,Bool.and_eq_true] at hf;rw [QhH] at hc
     have rest:(∀p∈rwC β H (nm+1) r ss,B p.1=some p.2)→AggR w S Q B (nm+1) r z _ (blks β l3):=fun hB'=>
      Qlc hO hQ h2 hz (fun o ho=>hl o (List.mem_append_right _ ho)) hf.2 hp.2 (hc.sub fun o ho=>List.mem_append_right _ ho) hB'
     have one:=Qip hO hQ h1 hy (fun o ho=>hl o (List.mem_append_left _ ho)) hf.1 (bs:=[]) (Qnw hp.1) (fun o ho=>by simp at ho) (hc.sub fun o ho=>List.mem_append_left _ ho)
     cases c with
     | own e t=>
      obtain ⟨q,g1,g2,g3,g4⟩:=QlQ hO hc.out h1 hy (fun o ho=>hl o (List.mem_append_left _ ho))
      refine ⟨_,_,q,blks β l3,rfl,by rw [QJ,g1],?_,g3,g4,rest fun p hp=>hB p (by simp [rwC,hp])⟩
      rw [←g2]; exact hB (nm,plR β H s) (by simp [rwC])
     | dat t=>
      obtain ⟨g1,g2⟩:=one;exact ⟨_,_,rfl,⟨g1,rfl⟩,by rw [QJ,g2,List.nil_append]; exact rest fun p hp=>hB p hp⟩
     | ptr o f=>simp [aggC] at hp
     | ref o=>simp [aggC] at hp
     | mp=>simp [aggC] at hp
     | bx t=>simp [aggC] at hp
     | vw e t=>simp [aggC] at hp
     | pd t=>
      obtain ⟨g1,g2⟩:=one;exact ⟨_,_,rfl,⟨g1,rfl⟩,by rw [QJ,g2,List.nil_append]; exact rest fun p hp=>hB p hp⟩
     | fn f=>
      obtain ⟨g1,g2⟩:=one;exact ⟨_,_,rfl,⟨g1,rfl⟩,by rw [QJ,g2,List.nil_append]; exact rest fun p hp=>hB p hp⟩
     | any=>
      have g2:blks β l2=[]:=one;exact ⟨_,_,rfl,by rw [QJ,g2,List.nil_append]; exact rest fun p hp=>hB p hp⟩
    ·cases h
   ·cases h
 | [],_::_,_,_,_,_,_,h,_,_,_,_,_=>by simp [unCs] at h
 | _::_,[],_,_,_,_,_,h,_,_,_,_,_=>by simp [unCs] at h
theorem QnG {fr:List Nat} (hO:Owns w S β (frz H fr)) (hQ: ∀b, ¬Own β (frz H fr) b→Q b) {o b base off:Nat} {cs:List S1} {t:Ty} {y:den t} (ho:look H o=some (.box cs)) (e1:β o=some (b,base)) (hqb:Q b)
  (hsl: ∀o'∈QO (cs.drop off), ∀e t xs,look H o'=some (.row e t xs)→o'∈fr) (hy:boxV H (cs.drop off) t=some y):PtrR w S Q t y (.pointer (some ⟨b,base+off,none⟩)):=by
 have hk:look (frz H fr) o=some (.box cs):=by rw [Qav (by intro e t xs e'; rw [ho] at e'; cases e'),ho]
 obtain ⟨b',base',c,e,e3,hh,hbd,hall⟩:=hO o _ hk;rw [e1] at e3;simp only [Oie,Pmi] at e3;obtain ⟨rfl,rfl⟩:=e3;have hcl:c.toList.length=c.size:=Array.length_toList
 have hlen0:(((c.toList.drop base).take cs.length).drop off).length=cs.length-off:=by
  rw [List.length_drop,List.length_take,List.length_drop]; omega
 have get: ∀j,j< cs.length-off→(((c.toList.drop base).take cs.length).drop off)[j]?=c[base+off+j]? :=by
  intro j hj;rw [List.getElem?_drop,List.getElem?_take,if_pos (by omega),List.getElem?_drop,Array.getElem?_toList]
  congr 1; omega
 have all:=(hall.mono fun _ _ h=>h.1).drop off
 cases hmk:mark t with
 | none=>
  have hg: ∃r,gat true H t (cs.drop off)=some (y,r):=by
   have key:(match gat true H t (cs.drop off) with | some q=>some q.1 | none=>none)=some y→ ∃r,gat true H t (cs.drop off)=some (y,r):=by
    intro hy;split at hy
    ·rename_i q hg; obtain rfl:=Osj hy; exact ⟨q.2,hg⟩
    ·cases hy
   cases t with
   | pair p q=>cases p <;> first | exact key hy | cases hmk
   | _=>exact key hy
  obtain ⟨r,hg⟩:=hg;obtain ⟨v1,v2,ev,hr1,_⟩:=Qly (own:=false) hO (fun _ _ _ h=>h) (by simp) all (QqU (l:=fr) hg hsl)
  refine .mk hmk ⟨b,base+off,v1,rfl,hqb,hr1,c,e,_,hh,fun j hj=>?_⟩
  have h2:(v1++v2)[j]?=v1[j]? :=List.getElem?_append_left hj;rw [ev] at hlen0;rw [←h2, ←ev,get j (by rw [←hlen0,List.length_append]; omega)]
 | some u=>
  obtain rfl:=Qen hmk;simp only [boxV] at hy;split at hy
  ·rename_i s z r hcs;split at hy
   ·rename_i hmu;split at hy
    ·rename_i z' hz;obtain rfl:=Osj hy;have hl:(cs.drop off).length=cs.length-off:=List.length_drop;rw [hcs] at all hl;rw [List.length_cons] at hl;generalize hvs:((c.toList.drop base).take cs.length).drop off=vs at all get;cases all with
     | @cons _ v _ vs' h1 _=>
      obtain ⟨rfl,h2⟩:=Qfm hz h1;obtain ⟨b2,off2,cs2,rfl,h3,h4,h5⟩:=h2.un hmu;refine ⟨b,base+off,b2,off2,cs2,rfl,hqb,⟨c,e,_,hh,fun j hj=>?_⟩,hQ b2 h3,h4,h5⟩
      have hj0:j=0:=by simpa using hj
      subst hj0;rw [←get 0 (by omega)]; rfl
    ·cases hy
   ·cases hy
  ·cases hy
theorem Qjn {fr bs:List Nat} (hO:Owns w S β (frz H fr)) (hQ: ∀b, ¬Own β (frz H fr) b→Q b) (hQ1: ∀o cs b base,look H o=some (.box cs)→o∉bs→β o=some (b,base)→Q b) (f:FuncId):
  ∀{ts:List Ty} {q:List Cap} {us:List Value} {x:denT ts},All2 (PR w S β (frz H fr)) q us→capD H ts q=some x→q.all (QmI bs)=true→
  (∀o∈Qv H (.s (.fn f q)), ∀e t xs,look H o=some (.row e t xs)→o∈fr)→QkV w S Q ts x us
 | [],[],_,_,.nil,_,_,_=>rfl
 | t::r,c::q,_,x,.cons h hr,hx,hf,hs=>by
  simp only [capD] at hx;split at hx
  ·rename_i y hy;split at hx
   ·rename_i z hz;obtain rfl:=Osj hx;simp only [List.all_cons,Bool.and_eq_true] at hf
    have rest:=Qjn hO hQ hQ1 f hr hz hf.2 fun o ho=>hs o (by
     simp only [Qv,List.flatMap_cons,List.mem_append] at ho⊢; exact .inr ho)
    cases c with
    | pd s' d=>
     simp only [capV] at hy;obtain ⟨rfl,e5⟩:=Qfm hy h;exact ⟨_,_,rfl,e5.mono id hQ,rest⟩
    | p o off=>
     simp only [capV] at hy;split at hy
     ·rename_i cs ho;have hk:look (frz H fr) o=some (.box cs):=by rw [Qav (by intro e t xs e'; rw [ho] at e'; cases e'),ho]
      simp only [PR,hk] at h;obtain ⟨b,base,e1,rfl⟩:=h
      have hsl: ∀o'∈QO (cs.drop off),o'∈Qv H (.s (.fn f (.p o off::q))):=by
       intro o' ho';simp only [Qv,List.flatMap_cons,ho,List.mem_append];left;simp only [QO,List.mem_filterMap] at ho'⊢;obtain ⟨s1,hs1,hs2⟩:=ho';exact ⟨s1,List.mem_of_mem_drop hs1,hs2⟩
      exact ⟨_,_,rfl,QnG hO hQ ho e1 (hQ1 o cs b base ho (by simpa [QmI] using hf.1) e1) (fun o' ho'=>hs o' (hsl o' ho')) hy,rest⟩
     ·cases hy
   ·cases hx
  ·cases hx
 | [],_::_,_,_,_,h,_,_=>by simp [capD] at h
 | _::_,[],_,_,_,h,_,_=>by simp [capD] at h
theorem Qji {S0:Nat→Prop} (hO:Owns w S β (frz σ.H fr)) (hO0:Owns w S0 β σ.H) (hS0: ∀t (x:den t) cs,Rp w S0 t x cs→Rp w S t x cs) (hQ: ∀b, ¬Own β (frz σ.H fr) b→Q b) {l bs:List Nat} (hfr: ∀o,o∈l→o∉fr)
  (hQ1: ∀o cs b base,look σ.H o=some (.box cs)→o∉bs→β o=some (b,base)→Q b) (hQ2: ∀o e t xs b cap,look σ.H o=some (.row e t xs)→o∉l→β o=some (b,cap)→Q b):
  ∀{ps:List PK} {xs:List SV} {vs:List Value} {x:denP ps} {l1 b1:List Nat} {i:Nat},All2 (VV w S β (frz σ.H fr)) xs vs→All2 (VV w S0 β σ.H) xs vs→Qbb σ ps xs=some (x,l1,b1)→(∀o∈l1,o∈l)→(∀o∈b1,o∈bs)→
  Qft σ.H l bs ps xs=true→ps.all QdA=true→Cuts σ.H fr l (QbM σ.H ps xs)→(∀p∈bxl i ps xs, ∃b base,β p.2.1=some (b,base)∧B p.1=some (.box b (base+p.2.2.1)))→(∀p∈rwl β σ.H i ps xs,B p.1=some p.2)→
  QcH w S Q B i ps x vs (blks β l1)
 | [],[],_,_,_,_,_,hv,_,h,_,_,_,_,_,_,_=>by
  cases hv;simp only [Qbb,Oie,Pmi] at h;obtain ⟨_,rfl,_⟩:=h;exact ⟨rfl,rfl⟩
 | k::r,s::ss,_,x,l1,b1,i,hv,hv0,h,hl,hb,hf,hp,hc,hB,hR=>by
  simp only [List.all_cons,Bool.and_eq_true] at hp;cases hv with
  | @cons _ v _ vs' h1 h2=>
  cases hv0 with
  | cons h01 h02=>
   simp only [Qbb] at h;split at h
   ·rename_i y hy;split at h
    ·rename_i z hz;simp only [Oie,Pmi] at h;obtain ⟨rfl,rfl,rfl⟩:=h;simp only [Qft,Bool.and_eq_true] at hf;have hcA:Cuts σ.H fr l (QgD σ.H k s):=hc.sub fun o ho=>by simp only [QbM]; exact List.mem_append_left _ ho
     have rest:(∀p∈bxl (i+1) r ss, ∃b base,β p.2.1=some (b,base)∧B p.1=some (.box b (base+p.2.2.1)))→(∀p∈rwl β σ.H (i+1) r ss,B p.1=some p.2)→QcH w S Q B (i+1) r z.1 vs' (blks β z.2.1):=fun hB' hR'=>
      Qji hO hO0 hS0 hQ hfr hQ1 hQ2 h2 h02 (b1:=z.2.2) hz (fun o ho=>hl o (List.mem_append_right _ ho)) (fun o ho=>hb o (List.mem_append_right _ ho)) hf.2 hp.2 (hc.sub fun o ho=>by simp only [QbM]; exact List.mem_append_right _ ho) hB' hR'
     have hl': ∀o∈y.2.1,o∈l:=fun o ho=>hl o (List.mem_append_left _ ho)
     have shown:QgD σ.H k s=Qv σ.H s→(Qv σ.H s).all (fun o=>!(l.contains o))=true→ ∀o∈Qv σ.H s, ∀e t xs,look σ.H o=some (.row e t xs)→o∈fr:=by
      intro hrA hall o ho e t xs hk;refine hcA.shown o (by rw [hrA]; exact ho) e t xs hk fun hol=>?_
      have:=List.all_eq_true.1 hall o ho;simp [hol] at this
     cases k with
     | val t=>
      simp only [argD] at hy;split at hy
      ·rename_i d hd;obtain rfl:=Osj hy;exact ⟨v,vs',rfl,Qbp (own:=false) hO (fun _ _ _ h=>h) (by simp) h1 (Qkx hd (shown rfl hf.1)),rest (fun p hp=>hB p hp) (fun p hp=>hR p hp)⟩
      ·cases hy
     | ptr t=>
      simp only [Qfs,Bool.and_eq_true] at hf;simp only [argD] at hy
      have go:y.2.1=[]→PtrR w S Q t y.1 v→QcH w S Q B i (.ptr t::r) (y.1,z.1) (v::vs') (blks β (y.2.1++z.2.1)):=by
       intro e1 hh;rw [e1,List.nil_append];exact ⟨v,vs',rfl,hh,rest (fun p hp=>hB p hp) (fun p hp=>hR p hp)⟩
      split at hy
      ·rename_i t' d;split at hy
       ·rename_i d' hd;obtain rfl:=Osj hy;obtain ⟨rfl,e5⟩:=Qfm hd (QqF h1);exact go rfl (e5.mono id hQ)
       ·cases hy
      ·rename_i o off;split at hy
       ·rename_i cs ho;split at hy
        ·rename_i d hg;obtain rfl:=Osj hy;have hk:look (frz σ.H fr) o=some (.box cs):=by rw [Qav (by intro e t xs e'; rw [ho] at e'; cases e'),ho]
         obtain ⟨b,base,e1,e2⟩:=VV_p h1 hk
         have hsl: ∀o'∈QO (cs.drop off),o'∈Qv σ.H (.s (.p o off)):=by
          intro o' ho';simp only [Qv,ho];simp only [QO,List.mem_filterMap] at ho'⊢;obtain ⟨s1,hs1,hs2⟩:=ho';exact ⟨s1,List.mem_of_mem_drop hs1,hs2⟩
         refine go rfl ?_;rw [e2];exact QnG hO hQ ho e1 (hQ1 o cs b base ho (by simpa using hf.1.2) e1) (fun o' ho'=>shown rfl hf.1.1 o' (hsl o' ho')) hg
        ·cases hy
       ·cases hy
      ·rename_i o k off;split at hy
       ·rename_i e t' xs ho;obtain ⟨hmk,hy⟩:=Qcl hy;obtain ⟨d,hd,hy⟩:=Obs hy;obtain ⟨d',hd',hy⟩:=Obs hy;obtain rfl:=Osj hy;obtain ⟨⟨hk,hdp⟩,g,cap,hg1,hvp⟩:=Qtq h01 ho;rcases (Qae hdp).1 (hO0 o _ ho) with ⟨hq,_⟩ | ⟨g',cap',c,rows,hq,hh,hs,hl1,hmx,hrows,hi⟩
        ·rw [hg1] at hq; cases hq
        rw [hg1] at hq;simp only [Oie,Pmi] at hq;obtain ⟨rfl,rfl⟩:=hq;obtain ⟨row,hr1,hr2⟩:=QeF (fun _ _=>Qu) hrows hd
        obtain ⟨p,m,q,rfl,hp1,hm⟩:=Qce hd' hr1;have hml:=Qu hm;have hrl:=Qu hr1;simp only [List.length_append] at hrl;have hrowsl:=QaC (fun _ _=>Qu) hrows
        have hle:k*sz t'+sz t'≤rows.length:=by
         rw [hrowsl];have:(k+1)*sz t'≤xs.length*sz t':=Nat.mul_le_mul_right _ hk;rw [Nat.add_mul] at this; omega
        refine go rfl <| .mk hmk ⟨g,k*sz t'+off,m,hvp,hQ2 o e t' xs g cap ho ?_ hg1,hS0 _ _ _ hm,c,e,_,hh,fun j hj=>?_⟩
        ·have:=hf.1.1;simpa [Qv] using this
        ·rw [Nat.add_assoc,hi _ (by omega),hr2 (off+j) (by omega),List.append_assoc,List.getElem?_append_right (by omega),hp1,Nat.add_sub_cancel_left,List.getElem?_append_left hj]
       ·cases hy
      ·cases hy
     | fn f ts=>
      simp only [Qfs,Bool.and_eq_true] at hf;simp only [argD] at hy;split at hy
      ·rename_i g q;split at hy
       ·rename_i he;subst he;split at hy
        ·rename_i d hd;obtain rfl:=Osj hy;obtain ⟨us,e,hus⟩:=h1;exact ⟨v,vs',rfl,⟨us,e,Qjn hO hQ hQ1 g hus hd (by simpa using hf.1.2) (shown rfl hf.1.1)⟩,rest (fun p hp=>hB p hp) (fun p hp=>hR p hp)⟩
        ·cases hy
       ·cases hy
      ·cases hy
     | box ci co=>
      simp only [QdA,Bool.and_eq_true] at hp;simp only [argD] at hy;split at hy
      ·rename_i o off;split at hy
       ·rename_i cs ho;split at hy
        ·rename_i hle;split at hy
         ·rename_i q hq;obtain rfl:=Osj hy;have hk:look (frz σ.H fr) o=some (.box cs):=by rw [Qav (by intro e t xs e'; rw [ho] at e'; cases e'),ho]
          obtain ⟨b,base,e1,e2⟩:=VV_p h1 hk;obtain ⟨b',base',c,e,e3,hh,hbd,hall⟩:=hO o _ hk;rw [e1] at e3;simp only [Oie,Pmi] at e3;obtain ⟨rfl,rfl⟩:=e3;obtain ⟨b2,base2,e4,e5⟩:=hB (9000000+i,o,off,ci.length) (by simp [bxl])
          simp only at e4 e5;rw [e1] at e4;simp only [Oie,Pmi] at e4;obtain ⟨rfl,rfl⟩:=e4;obtain ⟨_,_,hall2⟩:=QjO hbd hall hle
          have hone: ∀u∈(c.toList.drop (base+off)).take ci.length,u.oneCell'=true:=by
           have:=(hall.drop off).take ci.length;rw [List.drop_take,List.drop_drop,List.take_take,Nat.min_eq_left (by omega)] at this
           exact this.right fun _ _ h=>h.2
          simp only [Qfs,ho] at hf
          have hsl: ∀o'∈QO ((cs.drop off).take ci.length),o'∈QgD σ.H (.box ci co) (.s (.p o off)):=by
           intro o' ho';simp only [QgD,ho];exact ho'
          have hcr:=QbX hO hQ hall2 hq hl' hf.1 (bs:=[]) (Qlb hp.1.1) (fun o ho=>by simp at ho) (hcA.sub hsl)
          exact ⟨v,vs',_,_,b,base+off,c,e,rfl,QJ,e5,e2,hh,by omega,Qhb (bs:=[]) (fun o ho=>by simp at ho) hcr (Qlb hp.1.1),hone,
           rest (fun p hp=>hB p (by simp [bxl,hp])) (fun p hp=>hR p hp)⟩
         ·cases hy
        ·cases hy
       ·cases hy
      ·cases hy
     | row e t=>
      simp only [argD] at hy;split at hy
      ·rename_i s1;split at hy
       ·rename_i q hq;obtain rfl:=Osj hy;by_cases hd: ∃t' z,s1= .d t' z
        ·obtain ⟨t',z',rfl⟩:=hd;simp [unC] at hq
        ·obtain ⟨q',g1,g2,g3,g4⟩:=QlQ hO hfr ((VV_s fun t z e=>hd ⟨t,z,e⟩).1 h1) hq hl'
         refine ⟨v,vs',q',blks β z.2.1,rfl,by rw [QJ,g1],?_,g3,g4,rest (fun p hp=>hB p hp) (fun p hp=>hR p (by simp [rwl,hp]))⟩
         rw [←g2]; exact hR (9000100+100*i,plR β σ.H s1) (by simp [rwl])
       ·cases hy
      ·cases hy
     | agg cs=>
      simp only [QdA] at hp;simp only [argD] at hy;split at hy
      ·rename_i s1;split at hy
       ·rename_i q hq;obtain rfl:=Osj hy;obtain ⟨us,e1,hall⟩:=h1;simp only [Qfs] at hf;exact ⟨v,vs',us,_,_,rfl,QJ,e1,Qlc hO hQ hall hq hl' hf.1 hp.1 hcA (fun p hp=>hR p (by simp [rwl,hp])),rest (fun p hp=>hB p hp) (fun p hp=>hR p (by simp [rwl,hp]))⟩
       ·cases hy
      ·cases hy
    ·cases h
   ·cases h
 | [],_::_,_,_,_,_,_,_,_,h,_,_,_,_,_,_,_=>by simp [Qbb] at h
 | _::_,[],_,_,_,_,_,_,_,h,_,_,_,_,_,_,_=>by simp [Qbb] at h
end
section
open Go Go.RowKit
variable {w w' w0:World} {S S' S3 Q Z:Nat→Prop} {M:Nat→Nat→Prop} {N:Nat→Option (Option (Nat×Nat))} {B:Nat→Option Pl} {a:Act} {σ:St} {β:Qr} {H:Heap} {fr l:List Nat}
def Qis (w':World) (S3:Nat→Prop) (β:Qr) (H:Heap) (l1 Fb:List Nat) (p:Nat×Ob):Prop:=
 ∃e e0 t ys xs0,p.2= .row e t ys∧p.1∈l1∧look H p.1=some (.row e0 t xs0)∧xs0.length=ys.length∧RowO w' S3 e t ys (β p.1)∧(∀b∈blkq (β p.1),b∈Fb)∧QbJ e0 e=true∧(lent e0=false→lent e=false)
def QkY (w':World) (S':Nat→Prop) (β β':Qr) (H H':Heap) (bl:List (Nat×Nat×Nat×Nat)) (b1:List Nat) (p:Nat×Ob):Prop:=
 ∃cs newc off b base c' e' pn,look H p.1=some (.box cs)∧p.1∈b1∧(pn,p.1,off,newc.length)∈bl∧p.2= .box (QfM cs off newc)∧off+newc.length≤cs.length∧β p.1=some (b,base)∧
  w'.heap[b]?=some (.cells c' e' (0,0))∧All2 (fun x v=>VS w' S' β' H' x v∧v.oneCell'=true) newc ((c'.toList.drop (base+off)).take newc.length)
theorem Qis.mono {l1 l2 Fb Fb':List Nat} {p:Nat×Ob} (h:Qis w' S3 β H l1 Fb p) (hl: ∀o∈l1,o∈l2) (hF: ∀b∈Fb,b∈Fb'):Qis w' S3 β H l2 Fb' p:=by
 obtain ⟨e,e0,t,ys,xs0,h1,h2,h3,h4,h5,h6,h7⟩:=h;exact ⟨e,e0,t,ys,xs0,h1,hl _ h2,h3,h4,h5,fun b hb=>hF b (h6 b hb),h7⟩
theorem QkY.mono {β':Qr} {H':Heap} {bl bl':List (Nat×Nat×Nat×Nat)} {b1 b2:List Nat} {p:Nat×Ob} (h:QkY w' S' β β' H H' bl b1 p) (hl: ∀o∈bl,o∈bl') (hb: ∀b∈b1,b∈b2):QkY w' S' β β' H H' bl' b2 p:=by
 obtain ⟨cs,newc,off,b,base,c',e',pn,h1,h2,h3,h4⟩:=h;exact ⟨cs,newc,off,b,base,c',e',pn,h1,hb _ h2,hl _ h3,h4⟩
theorem QlT (hfr: ∀o,o∈l→o∉fr) {e:TypeId} {t:Ty} {s:S1} {v:Value} {x ys:List (den t)} {l1:List Nat} (hv:VS w S β (frz H fr) s v) (h:unC H (.own e t) s=some (x,l1)) (hl1: ∀o∈l1,o∈l)
  (hlen:x.length=ys.length) {q:Option (Nat×Nat)} {n:Nat} (hr:RowO w' S3 e t ys q) (hq:plR β H s= .row q n):blks β l1=blkq q∧ ∀p∈reR e t ys s,Qis w' S3 β H l1 (blkq q) p:=by
 simp only [unC] at h;split at h
 ·simp only [Oie,Pmi] at h;obtain ⟨rfl,rfl⟩:=h;simp only [VS] at hv;have:q=none:=by simp only [plR,Pl.row.injEq] at hq; exact hq.1.symm
  subst this;exact ⟨rfl,fun p hp=>by simp [reR] at hp⟩
 ·rename_i o;split at h
  ·rename_i e' t' xs ho;split at h
   ·rename_i he;split at h
    ·rename_i zs hys;simp only [Oie,Pmi] at h;obtain ⟨rfl,rfl⟩:=h;obtain ⟨e1,e2⟩:=QX hys;simp only [Ty.slice.injEq] at e1;subst e1;simp only at e2;subst e2;have hof:=hfr o (hl1 o (by simp))
     have hk:=Qaz (l:=fr) ho;rw [if_neg hof] at hk;simp only [VS,hk] at hv;rw [hlen] at hv;have:β o=q:=by simp only [plR,Pl.row.injEq] at hq; exact hq.1
     refine ⟨by simp [blks,this],fun p hp=>?_⟩
     simp only [reR,List.mem_singleton] at hp;subst hp;exact ⟨_,_,_,ys,xs,rfl,by simp,ho,hlen,by simp only; rw [this]; exact QbK (Qma (by simp [QbJ])) hr,fun b hb=>by simp only at hb; rw [this] at hb; exact hb,Qma he,fun h0=>Qui h0 he⟩
    ·cases h
   ·cases h
  ·cases h
 ·cases h
theorem QgU (hfr: ∀o,o∈l→o∉fr): ∀{cs:List CK} {ss:List S1} {vs:List Value} {x:denC cs} {y:Qci cs} {l1 F:List Nat} {nm:Nat},All2 (VS w S β (frz H fr)) ss vs→unCs H cs ss=some (x,l1)→(∀o∈l1,o∈l)→Qdw cs x y=true→
  (∀p∈rwC β H nm cs ss,B p.1=some p.2)→CwR w' S3 B nm cs y vs F→ ∃Fb,F=Fb∧ ∀p∈reCs cs y ss,Qis w' S3 β H l1 Fb p
 | [],[],_,_,_,_,F,_,_,_,_,_,_,h=>⟨F,rfl,fun p hp=>by simp [reCs] at hp⟩
 | c::r,s::ss,_,x,y,l1,F,nm,hv,h,hl,hlen,hB,hc=>by
  cases hv with
  | @cons _ v _ vs' h1 h2=>
   simp only [unCs] at h;split at h
   ·rename_i x1 l2 hy;split at h
    ·rename_i x2 l3 hz;simp only [Oie,Pmi] at h;obtain ⟨rfl,rfl⟩:=h;have hl2: ∀o∈l2,o∈l:=fun o ho=>hl o (List.mem_append_left _ ho)
     have hl3: ∀o∈l3,o∈l:=fun o ho=>hl o (List.mem_append_right _ ho)
     cases c with
     | own e t=>
      obtain ⟨v1,vs1,q,F2,e1,e2,e3,e4,e5⟩:=hc;simp only [List.cons.injEq] at e1;obtain ⟨rfl,rfl⟩:=e1;subst e2;simp only [Qdw,Bool.and_eq_true,beq_iff_eq] at hlen;obtain ⟨n,e4⟩:=e4;have e6:=hB (nm,plR β H s) (by simp [rwC])
      simp only at e6;rw [e4] at e6;have g1:=QlT hfr h1 hy hl2 hlen.1 e3 (Osj e6).symm;obtain ⟨Fb,rfl,g2⟩:=QgU hfr h2 hz hl3 hlen.2 (fun p hp=>hB p (by simp [rwC,hp])) e5
      refine ⟨_,rfl,fun p hp=>?_⟩
      simp only [reCs,List.mem_append] at hp;rcases hp with hp | hp
      ·exact (g1.2 p hp).mono (fun o ho=>List.mem_append_left _ ho) (fun b hb=>List.mem_append_left _ hb)
      ·exact (g2 p hp).mono (fun o ho=>List.mem_append_right _ ho) (fun b hb=>List.mem_append_right _ hb)
     | _=>
      obtain ⟨v1,vs1,e1,e2⟩:=hc;simp only [List.cons.injEq] at e1;obtain ⟨rfl,rfl⟩:=e1;obtain ⟨Fb,rfl,g2⟩:=QgU hfr h2 hz hl3 hlen (fun p hp=>hB p (by simpa [rwC] using hp)) e2
      exact ⟨_,rfl,fun p hp=>(g2 p hp).mono (fun o ho=>List.mem_append_right _ ho) (fun b hb=>hb)⟩
    ·cases h
   ·cases h
 | [],_::_,_,_,_,_,_,_,_,h,_,_,_,_=>by simp [unCs] at h
 | _::_,[],_,_,_,_,_,_,_,h,_,_,_,_=>by simp [unCs] at h
theorem QdD (hO:Owns w S β (frz σ.H fr)) (hfr: ∀o,o∈l→o∉fr): ∀{ps:List PK} {xs:List SV} {vs:List Value} {x:denP ps} {y:denQ ps} {l1 b1 F2:List Nat} {i nm:Nat},
  All2 (VV w S β (frz σ.H fr)) xs vs→Qbb σ ps xs=some (x,l1,b1)→(∀o∈l1,o∈l)→lenQ ps x y=true→(∀p∈rwl β σ.H i ps xs,B p.1=some p.2)→Qeg w' S3 B i ps y vs F2→
  ∃qs Fa Fb,Grs w' S3 (outA nm σ.H ps y xs).1 qs Fa∧F2.Perm (Fa++Fb)∧(∀o∈b1, ∃p∈(outA nm σ.H ps y xs).2,p.1=o)∧
   ∀{S':Nat→Prop} {β':Qr} {H':Heap},Agree S3 (fun _=>False) noB w' S' β' H'→(∀p∈(outA nm σ.H ps y xs).1,look H' p.1=some p.2)→(∀p∈qs,β' p.1=p.2)→
    ∀p∈(outA nm σ.H ps y xs).2,Qis w' S3 β σ.H l1 Fb p∨QkY w' S' β β' σ.H H' (bxl i ps xs) b1 p
 | [],[],_,_,_,_,_,_,_,_,hv,h,_,_,_,ho=>by
  simp only [Qbb,Oie,Pmi] at h;obtain ⟨_,rfl,rfl⟩:=h;obtain ⟨_,rfl⟩:=ho;exact ⟨[],[],[],⟨rfl,rfl⟩,by simp,fun o ho=>by simp at ho,fun _ _ _ p hp=>by simp [outA] at hp⟩
 | k::r,s::ss,_,x,y,l1,b1,F2,i,nm,hv,h,hl,hlen,hR,ho=>by
  cases hv with
  | @cons _ v _ vs' h1 h2=>
   simp only [Qbb] at h;split at h
   ·rename_i x1 hy;split at h
    ·rename_i z hz;simp only [Oie,Pmi] at h;obtain ⟨rfl,rfl,rfl⟩:=h;have hl2: ∀o∈x1.2.1,o∈l:=fun o ho=>hl o (List.mem_append_left _ ho)
     have hl3: ∀o∈z.2.1,o∈l:=fun o ho=>hl o (List.mem_append_right _ ho)
     have same: ∀{yr:denQ r},x1.2.1=[]→x1.2.2=[]→lenQ r z.1 yr=true→(∀p∈rwl β σ.H (i+1) r ss,B p.1=some p.2)→(∃v1 vs1,v::vs'=v1::vs1∧Qeg w' S3 B (i+1) r yr vs1 F2)→ ∃qs Fa Fb,Grs w' S3 (outA nm σ.H r yr ss).1 qs Fa∧F2.Perm (Fa++Fb)∧(∀o∈x1.2.2++z.2.2, ∃p∈(outA nm σ.H r yr ss).2,p.1=o)∧
       ∀{S':Nat→Prop} {β':Qr} {H':Heap},Agree S3 (fun _=>False) noB w' S' β' H'→(∀p∈(outA nm σ.H r yr ss).1,look H' p.1=some p.2)→(∀p∈qs,β' p.1=p.2)→
        ∀p∈(outA nm σ.H r yr ss).2,Qis w' S3 β σ.H (x1.2.1++z.2.1) Fb p∨QkY w' S' β β' σ.H H' (bxl (i+1) r ss) (x1.2.2++z.2.2) p:=by
      intro yr e1 e2 hlen' hR' hh;obtain ⟨v1,vs1,e3,hh⟩:=hh;simp only [List.cons.injEq] at e3;obtain ⟨rfl,rfl⟩:=e3;rw [e1,e2,List.nil_append,List.nil_append];exact QdD hO hfr h2 (l1:=z.2.1) (b1:=z.2.2) hz hl3 hlen' hR' hh
     cases k with
     | val t=>
      have hn:x1.2.1=[]∧x1.2.2=[]:=by
       simp only [argD] at hy;split at hy
       ·obtain rfl:=Osj hy; exact ⟨rfl,rfl⟩
       ·cases hy
      exact same hn.1 hn.2 hlen (fun p hp=>hR p (by simpa [rwl] using hp)) ho
     | fn f ts=>
      have hn:x1.2.1=[]∧x1.2.2=[]:=by
       simp only [argD] at hy;split at hy
       ·split at hy
        ·split at hy
         ·obtain rfl:=Osj hy; exact ⟨rfl,rfl⟩
         ·cases hy
        ·cases hy
       ·cases hy
      exact same hn.1 hn.2 hlen (fun p hp=>hR p (by simpa [rwl] using hp)) ho
     | ptr t=>
      have hn:x1.2.1=[]∧x1.2.2=[]:=by
       simp only [argD] at hy;split at hy
       ·split at hy
        ·obtain rfl:=Osj hy; exact ⟨rfl,rfl⟩
        ·cases hy
       ·split at hy
        ·split at hy
         ·obtain rfl:=Osj hy; exact ⟨rfl,rfl⟩
         ·cases hy
        ·cases hy
       ·split at hy
        ·obtain ⟨_,hy⟩:=Qcl hy;obtain ⟨d,hd,hy⟩:=Obs hy;obtain ⟨d',hd',hy⟩:=Obs hy;obtain rfl:=Osj hy; exact ⟨rfl,rfl⟩
        ·cases hy
       ·cases hy
      exact same hn.1 hn.2 hlen (fun p hp=>hR p (by simpa [rwl] using hp)) ho
     | box ci co=>
      obtain ⟨v1,vs1,F3,F4,b,base,c',e',e1,e2,e3,e4,e5,e6,e7,e8,e9⟩:=ho;simp only [List.cons.injEq] at e1;obtain ⟨rfl,rfl⟩:=e1;subst e2;simp only [argD] at hy;split at hy
      ·rename_i o off;split at hy
       ·rename_i cs hk;split at hy
        ·rename_i hle;split at hy
         ·rename_i q hq;obtain rfl:=Osj hy;obtain ⟨qs,Fa,Fb,g1,g2,g3,g4⟩:=QdD hO hfr (i:=i+1) (nm:=nm+30) h2 (l1:=z.2.1) (b1:=z.2.2) hz hl3 hlen (fun p hp=>hR p (by simpa [rwl] using hp)) e9
          obtain ⟨qs0,g5,g6⟩:=Qdy nm e7;have hk':look (frz σ.H fr) o=some (.box cs):=by rw [Qav (by intro e t xs e'; rw [hk] at e'; cases e'),hk]
          obtain ⟨b',base',e10,e11⟩:=VV_p h1 hk';rw [e3] at e11;simp only [Value.pointer.injEq,Oie,Addr.mk.injEq,and_true] at e11;obtain ⟨rfl,rfl⟩:=e11;refine ⟨qs0++qs,F3++Fa,Fb,?_,by rw [List.append_assoc]; exact g2.append_left F3,?_,?_⟩
          ·simp only [outA,hk]; exact g5.append g1
          ·intro o' ho';simp only [outA,hk];simp only [List.cons_append,List.nil_append,List.mem_cons] at ho';rcases ho' with rfl | ho'
           ·exact ⟨(o',_),List.mem_cons_self ..,rfl⟩
           ·obtain ⟨p,hp,e⟩:=g3 o' ho';exact ⟨p,by simp [hp],e⟩
          ·intro S' β' H' ha hH hb p hp;simp only [outA,hk] at hH hp;simp only [List.mem_cons] at hp;rcases hp with rfl | hp
           ·right;have hlen2:=Qeo nm co y.1;refine ⟨cs,(mkCs nm co y.1).1,off,b,base',c',e',9000000+i,hk,by simp,by simp [bxl,hlen2,e4],rfl,by rw [hlen2]; omega,e10,e5,?_⟩
            rw [hlen2];exact (g6 ha (fun p hp=>hH p (List.mem_append_left _ hp)) (fun p hp=>hb p (List.mem_append_left _ hp))).1.and e8
           ·rcases g4 ha (fun p hp=>hH p (List.mem_append_right _ hp)) (fun p hp=>hb p (List.mem_append_right _ hp)) p hp with h | h
            ·exact .inl (h.mono (fun o ho=>List.mem_append_right _ ho) (fun b hb=>hb))
            ·exact .inr (h.mono (fun o ho=>by simp [bxl,ho]) (fun b hb=>by simp [hb]))
         ·cases hy
        ·cases hy
       ·cases hy
      ·cases hy
     | row e t=>
      obtain ⟨v1,vs1,q,F4,e1,e2,e3,e4,e5⟩:=ho;simp only [List.cons.injEq] at e1;obtain ⟨rfl,rfl⟩:=e1;subst e2;simp only [lenQ,Bool.and_eq_true,beq_iff_eq] at hlen;simp only [argD] at hy;split at hy
      ·rename_i s1;split at hy
       ·rename_i q' hq;obtain rfl:=Osj hy
        have h1':VS w S β (frz σ.H fr) s1 v:=by
         by_cases hd: ∃t' z,s1= .d t' z
         ·obtain ⟨t',z',rfl⟩:=hd; simp [unC] at hq
         ·exact (VV_s fun t z e=>hd ⟨t,z,e⟩).1 h1
        obtain ⟨n,e4⟩:=e4;have e6:=hR (9000100+100*i,plR β σ.H s1) (by simp [rwl])
        simp only at e6;rw [e4] at e6;have g0:=QlT hfr h1' hq hl2 hlen.1 e3 (Osj e6).symm;obtain ⟨qs,Fa,Fb,g1,g2,g3,g4⟩:=QdD hO hfr (i:=i+1) (nm:=nm) h2 (l1:=z.2.1) (b1:=z.2.2) hz hl3 hlen.2 (fun p hp=>hR p (by simp [rwl,hp])) e5
        refine ⟨qs,Fa,blkq q++Fb,g1,?_,?_,?_⟩
        ·refine (g2.append_left (blkq q)).trans ?_;rw [←List.append_assoc, ←List.append_assoc];exact List.perm_append_comm.append_right Fb
        ·intro o' ho';obtain ⟨p,hp,e⟩:=g3 o' ho';exact ⟨p,by simp [outA,hp],e⟩
        ·intro S' β' H' ha hH hb p hp;simp only [outA,List.mem_append] at hp;rcases hp with hp | hp
         ·exact .inl ((g0.2 p hp).mono (fun o ho=>List.mem_append_left _ ho) (fun b hb=>List.mem_append_left _ hb))
         ·rcases g4 ha hH hb p hp with h | h
          ·exact .inl (h.mono (fun o ho=>List.mem_append_right _ ho) (fun b hb=>List.mem_append_right _ hb))
          ·exact .inr (h.mono (fun o ho=>by simp [bxl,ho]) (fun b hb=>by simp [hb]))
       ·cases hy
      ·cases hy
     | agg cs=>
      obtain ⟨v1,vs1,us,F3,F4,e1,e2,e3,e4,e5⟩:=ho;simp only [List.cons.injEq] at e1;obtain ⟨rfl,rfl⟩:=e1;subst e2;simp only [lenQ,Bool.and_eq_true] at hlen;simp only [argD] at hy;split at hy
      ·rename_i s1;split at hy
       ·rename_i q' hq;obtain rfl:=Osj hy;obtain ⟨us',e6,hall⟩:=h1;rw [e3] at e6;simp only [Value.agg.injEq] at e6;have e7:us=us':=by simpa using e6
        subst e7;obtain ⟨Fb0,rfl,g0⟩:=QgU hfr hall hq hl2 hlen.1 (fun p hp=>hR p (by simp [rwl,hp])) e4
        obtain ⟨qs,Fa,Fb,g1,g2,g3,g4⟩:=QdD hO hfr (i:=i+1) (nm:=nm) h2 (l1:=z.2.1) (b1:=z.2.2) hz hl3 hlen.2 (fun p hp=>hR p (by simp [rwl,hp])) e5
        refine ⟨qs,Fa,F3++Fb,g1,?_,?_,?_⟩
        ·refine (g2.append_left F3).trans ?_;rw [←List.append_assoc, ←List.append_assoc];exact List.perm_append_comm.append_right Fb
        ·intro o' ho';obtain ⟨p,hp,e⟩:=g3 o' ho';exact ⟨p,by simp [outA,hp],e⟩
        ·intro S' β' H' ha hH hb p hp;simp only [outA,List.mem_append] at hp;rcases hp with hp | hp
         ·exact .inl ((g0 p hp).mono (fun o ho=>List.mem_append_left _ ho) (fun b hb=>List.mem_append_left _ hb))
         ·rcases g4 ha hH hb p hp with h | h
          ·exact .inl (h.mono (fun o ho=>List.mem_append_right _ ho) (fun b hb=>List.mem_append_right _ hb))
          ·exact .inr (h.mono (fun o ho=>by simp [bxl,ho]) (fun b hb=>by simp [hb]))
       ·cases hy
      ·cases hy
    ·cases h
   ·cases h
 | [],_::_,_,_,_,_,_,_,_,_,_,h,_,_,_,_=>by simp [Qbb] at h
 | _::_,[],_,_,_,_,_,_,_,_,_,h,_,_,_,_=>by simp [Qbb] at h
end
end Go.Proofs.YtkkljegcnnfanaaGreatDoor.S
