/- The machinery S, part 3: a run of a program's code over typed symbolic data, and that it is what the code does. -/
import Derived.Test.YtkkljegcnnfanaaGreatDoorS2
set_option linter.unusedVariables false
set_option linter.unusedSimpArgs false
namespace Go.Proofs.YtkkljegcnnfanaaGreatDoor.S
section
open Go Go.RowKit
inductive Pl
 | box (b base:Nat)
 | row (q:Option (Nat×Nat)) (n:Nat)
def blkq (q:Option (Nat×Nat)):List Nat:=match q with | some p=>p.1::bits p.2 | none=>[]
def QlL (w:World) (S Q:Nat→Prop):(ts:List Ty)→denT ts→List Value→Prop
 | [],_,vs=>vs=[]
 | t::r,x,vs=> ∃v vs',vs=v::vs'∧PtrR w S Q t x.1 v∧QlL w S Q r x.2 vs'
def Qds (w:World) (S Q:Nat→Prop) (B:Nat→Option Pl):(c:CK)→c.den→Value→List Nat→Prop
 | .dat t,x,v,F=>(isAg t=false∧Rp w S t x [v])∧F=[]
 | .own e t,xs,v,F=> ∃q,RowO w S e t xs q∧RowV q xs.length v∧F=blkq q
 | .vw e t,x,v,F=> ∃q,RowO w S e t x.1 q∧(deep e=false∧x.2.1+x.2.2≤x.1.length)∧(∃v0,RowV q x.1.length v0)∧VW q (sz t) x.2.1 x.2.2 v∧F=blkq q
 | .ptr o off,_,v,F=>(∃b base,B o=some (.box b base)∧v= .pointer (some ⟨b,base+off,none⟩))∧F=[]
 | .ref o,_,v,F=>(∃q n,B o=some (.row q n)∧RowV q n v)∧F=[]
 | .pd t,x,v,F=>PtrR w S Q t x v∧F=[]
 | .fn f ts,x,v,F=>(∃us,v= .func (.func f) #[] us.toArray∧QlL w S Q ts x us)∧F=[]
 | .mp,x,v,F=> ∃b base,MapO w x (some (b,base))∧v= .map (some b)∧F=[b]
 | .bx t,x,v,F=> ∃b c e cs,v= .pointer (some ⟨b,0,none⟩)∧w.heap[b]?=some (.cells c e (0,0))∧c.toList=cs∧Rp w S t x cs∧F=[b]
 | .any,_,_,F=>F=[]
def QbC (w:World) (S Q:Nat→Prop) (B:Nat→Option Pl):(cs:List CK)→denC cs→List Value→List Nat→Prop
 | [],_,vs,F=>vs=[]∧F=[]
 | c::r,x,vs,F=> ∃v vs' F1 F2,vs=v::vs'∧F=F1++F2∧Qds w S Q B c x.1 v F1∧QbC w S Q B r x.2 vs' F2
def VKR (w:World) (S Q:Nat→Prop) (B:Nat→Option Pl):(k:VK)→k.den→Value→List Nat→Prop
 | .s (.dat t),x,v,F=>(∃cs,Val t v cs∧Rp w S t x cs)∧F=[]
 | .s c,x,v,F=>Qds w S Q B c x v F
 | .g cs,x,v,F=> ∃vs,v= .agg vs.toArray∧QbC w S Q B cs x vs F
 | .b cs,x,v,F=> ∃g c e F',v= .pointer (some ⟨g,0,none⟩)∧w.heap[g]?=some (.cells c e (0,0))∧cs.length≤c.size∧QbC w S Q B cs x (c.toList.take cs.length) F'∧(∀u∈c.toList.take cs.length,u.oneCell'=true)∧F=g::F'
def VKsR (w:World) (S Q:Nat→Prop) (B:Nat→Option Pl):(ks:List VK)→denV ks→List Value→List Nat→Prop
 | [],_,vs,F=>vs=[]∧F=[]
 | k::r,x,vs,F=> ∃v vs' F1 F2,vs=v::vs'∧F=F1++F2∧VKR w S Q B k x.1 v F1∧VKsR w S Q B r x.2 vs' F2
theorem Qrv {w:World} {S:Nat→Prop} {β:Qr} {H:Heap}: ∀{t:Ty} {x:den t} {cs:List Value},Rp w S t x cs→All2 (fun y v=>VS w S β H y v∧v.oneCell'=true) (split t x) cs:=by
 intro t
 induction t with
 | unit=>intro x cs h; simp only [Rp] at h; subst h; exact .nil
 | pair a b e f=>
  intro x cs h;obtain ⟨l,m,rfl,g,i⟩:=h;exact (e g).append (f i)
 | int k=>intro x cs h; have d:=Qaw h; have c:=h; simp only [Rp] at c; subst c; exact .cons ⟨⟨rfl,h⟩,d _ (by simp)⟩ .nil
 | bool=>intro x cs h; have d:=Qaw h; have c:=h; simp only [Rp] at c; subst c; exact .cons ⟨⟨rfl,h⟩,d _ (by simp)⟩ .nil
 | opq=>intro x cs h; obtain ⟨A,rfl⟩:=h; exact .cons ⟨trivial,rfl⟩ .nil
 | str=>intro x cs h; have d:=Qaw h; have c:=h; simp only [Rp] at c; subst c; exact .cons ⟨⟨rfl,h⟩,d _ (by simp)⟩ .nil
 | slice t n=>intro x cs h; have d:=Qaw h; have c:=h; obtain ⟨A,j,rfl,_⟩:=c; exact .cons ⟨⟨rfl,h⟩,d _ (by simp)⟩ .nil
def OwnO (w:World) (S:Nat→Prop) (q:Option (Nat×Nat)):Ob→Prop
 | .row e t xs=>RowO w S e t xs q
 | .map es=>MapO w es q
 | .box cs=> ∃b c e,q=some (b,0)∧w.heap[b]?=some (.cells c e (0,0))∧cs.length≤c.size
 | _=>False
theorem OwnO.or {w:World} {S S':Nat→Prop} {β:Qr} {H:Heap} {q:Option (Nat×Nat)} {ob:Ob} (h:OwnO w S q ob) (hd:Mon w S S') (hb: ∀cs,ob= .box cs→OR w S' β H q (.box cs)):OR w S' β H q ob:=by
 cases ob with
 | dead=>exact h.elim
 | fro _ _=>exact h.elim
 | map a=>exact h
 | row e t b=>exact RowO.mon hd h
 | box cs=>exact hb cs rfl
def BoxM (w:World) (S':Nat→Prop) (β:Qr) (H:Heap) (A:List (Nat×Ob)):Prop:= ∀p∈A, ∀cs,p.2= .box cs→OR w S' β H (β p.1) (.box cs)
theorem BoxM.append {w:World} {S':Nat→Prop} {β:Qr} {H:Heap} {A C:List (Nat×Ob)} (h:BoxM w S' β H A) (h':BoxM w S' β H C):BoxM w S' β H (A++C):=by
 intro p a;rcases List.mem_append.1 a with a | a
 ·exact h p a
 ·exact h' p a
theorem BoxM.nil {w:World} {S':Nat→Prop} {β:Qr} {H:Heap}:BoxM w S' β H []:=fun p a=>by cases a
theorem OwnO.S {w:World} {S S':Nat→Prop} {q:Option (Nat×Nat)} {ob:Ob} (h:OwnO w S q ob) (hd:Mon w S S'):OwnO w S' q ob:=by
 cases ob with
 | dead=>exact h
 | fro _ _=>exact h
 | map b=>exact h
 | row e t c=>exact RowO.mon hd h
 | box a=>exact h
theorem OwnO.live {w:World} {S1:Nat→Prop} {q:Option (Nat×Nat)} {ob:Ob} (h:OwnO w S1 q ob):S.live ob=true:=by
 cases ob <;> first | rfl | exact h.elim
theorem Qpi {M:Nat→Nat→Prop} {b base:Nat} {ob:Ob} (h: ∀i,M b i):mayW M b base ob:=by
 cases ob <;> first | exact fun i _=>h _ | exact h
def Grs (w:World) (S:Nat→Prop):List (Nat×Ob)→List (Nat×Option (Nat×Nat))→List Nat→Prop
 | [],qs,F=>qs=[]∧F=[]
 | p::r,qs,F=> ∃q qs' F2,qs=(p.1,q)::qs'∧F=blkq q++F2∧OwnO w S q p.2∧Grs w S r qs' F2
variable {w:World} {S S' Q:Nat→Prop} {B:Nat→Option Pl}
theorem Grs.append: ∀{A C:List (Nat×Ob)} {qa qc F F'},Grs w S A qa F→Grs w S C qc F'→Grs w S (A++C) (qa++qc) (F++F')
 | [],_,_,_,_,_,⟨h1,h2⟩,h'=>by subst h1; subst h2; simpa using h'
 | p::r,_,_,_,_,_,⟨q,qs',F2,h1,h2,h3,h4⟩,h'=>by
  subst h1; subst h2;exact ⟨q,_,_,rfl,by rw [List.append_assoc],h3,h4.append h'⟩
structure Agree (S Q:Nat→Prop) (B:Nat→Option Pl) (w:World) (S':Nat→Prop) (β:Qr) (H:Heap):Prop where
 box: ∀o b base,B o=some (.box b base)→β o=some (b,base)∧ ∃cs,look H o=some (.box cs)
 row: ∀o q n,B o=some (.row q n)→β o=q∧ ∃e t xs,look H o=some (.row e t xs)∧xs.length=n
 not: ∀b,Q b→ ¬Own β H b
 data:Mon w S S'
theorem QrM {β:Qr} {H:Heap} (ha:Agree S Q B w S' β H): ∀{ts:List Ty} {x:denT ts} {us:List Value},QlL w S Q ts x us→All2 (PR w S' β H) (Qve ts x) us
 | [],_,_,h=>by obtain rfl:=h; exact .nil
 | t::r,x,_,⟨v,vs',e,h1,h⟩=>by
  subst e;exact .cons (h1.mono ha.data.rp ha.not) (QrM ha h)
theorem All2.andR {α β:Type} {R:α→β→Prop} {p:β→Prop}: ∀{as:List α} {bs:List β},All2 R as bs→(∀b∈bs,p b)→All2 (fun x y=>R x y∧p y) as bs
 | _,_,.nil,_=> .nil
 | _,_,.cons h hr,hp=> .cons ⟨h,hp _ (by simp)⟩ (All2.andR hr fun b hb=>hp b (by simp [hb]))
theorem Qmy {c:CK} {x:c.den} {v:Value} {F:List Nat} (nm:Nat) (h:Qds w S Q B c x v F): ∃qs,Grs w S (mkC nm c x).2 qs F∧
  ∀{S':Nat→Prop} {β:Qr} {H:Heap},Agree S Q B w S' β H→(∀p∈(mkC nm c x).2,look H p.1=some p.2)→(∀p∈qs,β p.1=p.2)→VS w S' β H (mkC nm c x).1 v∧BoxM w S' β H (mkC nm c x).2:=by
 cases c with
 | dat t=>obtain ⟨h,rfl⟩:=h; exact ⟨[],⟨rfl,rfl⟩,fun i _ _=>⟨⟨h.1,i.data.rp h.2⟩,BoxM.nil⟩⟩
 | own e t=>
  obtain ⟨q,j,k,rfl⟩:=h;refine ⟨[(nm,q)],⟨q,[],[],rfl,by simp,j,rfl,rfl⟩,fun i r s=>?_⟩
  have g:=r (nm,.row e t x) (by simp [mkC])
  have a:=s (nm,q) (by simp)
  refine ⟨?_,fun p l y m=>by simp only [mkC,List.mem_singleton] at l; subst l; cases m⟩
  simp only [mkC,VS] at g a⊢;rw [g,a];exact k
 | vw e t=>
  obtain ⟨q,j,u,z,k,rfl⟩:=h;refine ⟨[(nm,q)],⟨q,[],[],rfl,by simp,j,rfl,rfl⟩,fun i r s=>?_⟩
  have g:=r (nm,.row e t x.1) (by simp [mkC])
  have a:=s (nm,q) (by simp)
  refine ⟨?_,fun p l y m=>by simp only [mkC,List.mem_singleton] at l; subst l; cases m⟩
  simp only [mkC,VS] at g a⊢;rw [g,a];exact ⟨u,z,k⟩
 | ptr o af=>
  obtain ⟨⟨b,d,j,k⟩,rfl⟩:=h;refine ⟨[],⟨rfl,rfl⟩,fun i _ _=>?_⟩
  obtain ⟨g,y,a⟩:=i.box o b d j;refine ⟨?_,BoxM.nil⟩;simp only [mkC,VS,a];exact ⟨b,d,g,k⟩
 | ref o=>
  obtain ⟨⟨q,n,j,k⟩,rfl⟩:=h;refine ⟨[],⟨rfl,rfl⟩,fun i _ _=>?_⟩
  obtain ⟨g,e,t,xs,a,e3⟩:=i.row o q n j;refine ⟨?_,BoxM.nil⟩;simp only [mkC,VS,a];rw [g,e3]; exact k
 | pd t=>
  obtain ⟨j,rfl⟩:=h;exact ⟨[],⟨rfl,rfl⟩,fun i _ _=>⟨j.mono i.data.rp i.not,BoxM.nil⟩⟩
 | fn f ts=>obtain ⟨⟨us,e,h⟩,rfl⟩:=h; exact ⟨[],⟨rfl,rfl⟩,fun i _ _=>⟨⟨us,e,QrM i h⟩,BoxM.nil⟩⟩
 | mp=>
  obtain ⟨b,d,j,k,rfl⟩:=h;refine ⟨[(nm,some (b,d))],⟨some (b,d),[],[],rfl,by obtain ⟨_,_,_,_,hq,_,_,m⟩:=j; simp only [Oie,Pmi] at hq; obtain ⟨rfl,rfl⟩:=hq; simp [blkq,QaU m],j,rfl,rfl⟩,fun i r s=>?_⟩
  have g:=r (nm,.map x) (by simp [mkC])
  have a:=s (nm,some (b,d)) (by simp)
  refine ⟨?_,fun p l y m=>by simp only [mkC,List.mem_singleton] at l; subst l; cases m⟩
  simp only [mkC,VS] at g a⊢;rw [g];exact ⟨b,d,a,k⟩
 | bx t=>
  obtain ⟨b,c,e,y,j,k,u,z,rfl⟩:=h;have hl:=Qt z;refine ⟨[(nm,some (b,0))],⟨some (b,0),[],[],rfl,by simp [blkq,QaU (Nat.zero_le _)],⟨b,c,e,rfl,k,by rw [QeO, ←hl, ←u]; simp⟩,rfl,rfl⟩,fun i r s=>?_⟩
  have g:=r (nm,.box (split t x)) (by simp [mkC])
  have a:=s (nm,some (b,0)) (by simp)
  refine ⟨?_,fun p l ae m=>?_⟩
  ·simp only [mkC,VS] at g a⊢;rw [g];exact ⟨b,0,a,by rw [j]⟩
  ·simp only [mkC,List.mem_singleton] at l;subst l;simp only at m a;obtain rfl:=Ob.box.inj m;rw [a];refine ⟨b,0,c,e,rfl,k,?_,?_⟩
   ·rw [QeO, ←hl, ←u]; simp
   ·rw [QeO, ←hl,u];simp only [List.drop_zero,List.take_length];exact Qrv (i.data.rp z)
 | any=>obtain rfl:=h; exact ⟨[],⟨rfl,rfl⟩,fun _ _ _=>⟨trivial,BoxM.nil⟩⟩
theorem QdN: ∀{cs:List CK} {x:denC cs} {vs:List Value} {F:List Nat} (nm:Nat),QbC w S Q B cs x vs F→ ∃qs,Grs w S (mkCs nm cs x).2 qs F∧
  ∀{S':Nat→Prop} {β:Qr} {H:Heap},Agree S Q B w S' β H→(∀p∈(mkCs nm cs x).2,look H p.1=some p.2)→(∀p∈qs,β p.1=p.2)→All2 (VS w S' β H) (mkCs nm cs x).1 vs∧BoxM w S' β H (mkCs nm cs x).2
 | [],_,_,_,_,⟨h1,h2⟩=>by subst h1; subst h2; exact ⟨[],⟨rfl,rfl⟩,fun _ _ _=>⟨.nil,BoxM.nil⟩⟩
 | c::r,x,_,_,nm,⟨v,vs',F1,F2,h1,h2,h3,h4⟩=>by
  subst h1; subst h2;obtain ⟨q1,g1,k1⟩:=Qmy nm h3;obtain ⟨j,h,i⟩:=QdN (nm+1) h4;refine ⟨q1++j,g1.append h,fun f e g=>?_⟩
  have b:=k1 f (fun p a=>e p (List.mem_append_left _ a)) (fun p a=>g p (List.mem_append_left _ a))
  have d:=i f (fun p a=>e p (List.mem_append_right _ a)) (fun p a=>g p (List.mem_append_right _ a))
  exact ⟨.cons b.1 d.1,b.2.append d.2⟩
theorem Qmz: ∀(nm:Nat) (cs:List CK) (x:denC cs),(mkCs nm cs x).1.length=cs.length
 | _,[],_=>rfl
 | nm,c::r,x=>by simp [mkCs,Qmz]
theorem QiU {c:CK} (hc: ∀t,c≠ .dat t) {x:c.den} {v:Value} {F:List Nat}:VKR w S Q B (.s c) x v F↔Qds w S Q B c x v F:=by
 cases c <;> first | exact absurd rfl (hc _) | exact Iff.rfl
theorem QmB {k:VK} {x:k.den} {v:Value} {F:List Nat} (nm:Nat) (h:VKR w S Q B k x v F): ∃qs,Grs w S (mkV nm k x).2 qs F∧
  ∀{S':Nat→Prop} {β:Qr} {H:Heap},Agree S Q B w S' β H→(∀p∈(mkV nm k x).2,look H p.1=some p.2)→(∀p∈qs,β p.1=p.2)→VV w S' β H (mkV nm k x).1 v∧BoxM w S' β H (mkV nm k x).2:=by
 cases k with
 | g j=>
  obtain ⟨vs,e,h⟩:=h;obtain ⟨qs,g,n⟩:=QdN nm h;exact ⟨qs,g,fun a f i=>⟨⟨vs,e,(n a f i).1⟩,(n a f i).2⟩⟩
 | b j=>
  obtain ⟨l,c,e,F',r,q,h5,h3,h4,rfl⟩:=h;obtain ⟨qs,g,n⟩:=QdN (nm+1) h3;have u:(mkCs (nm+1) j x).1.length=j.length:=Qmz ..;refine ⟨(nm,some (l,0))::qs,⟨some (l,0),qs,F',rfl,by simp [blkq,QaU (Nat.zero_le _)],⟨l,c,e,rfl,q,by rw [u]; exact h5⟩,g⟩,fun a f i=>?_⟩
  have e1:=f (nm,.box (mkCs (nm+1) j x).1) (by simp [mkV])
  have o:=i (nm,some (l,0)) (by simp)
  have y:=n a (fun p d=>f p (List.mem_cons_of_mem _ d)) (fun p d=>i p (List.mem_cons_of_mem _ d))
  refine ⟨?_,fun p d aa m=>?_⟩
  ·refine (VV_s (by intros; simp [mkV])).2 ?_
   simp only [mkV,VS] at e1 o⊢;rw [e1];exact ⟨l,0,o,by rw [r]⟩
  ·simp only [mkV,List.mem_cons] at d;rcases d with rfl | d
   ·simp only at m o;obtain rfl:=Ob.box.inj m;rw [o];refine ⟨l,0,c,e,rfl,q,by rw [u]; omega,?_⟩
    rw [u,List.drop_zero];exact All2.andR y.1 h4
   ·exact y.2 p d aa m
 | s c=>
  by_cases hd: ∃t,c= .dat t
  ·obtain ⟨t,rfl⟩:=hd;obtain ⟨⟨j,r,q⟩,rfl⟩:=h;exact ⟨[],⟨rfl,rfl⟩,fun a _ _=>⟨⟨j,r,a.data.rp q⟩,BoxM.nil⟩⟩
  ·have m: ∀t,c≠ .dat t:=fun t e=>hd ⟨t,e⟩
   obtain ⟨qs,g,n⟩:=Qmy nm ((QiU m).1 h);refine ⟨qs,g,fun a f i=>?_⟩
   have:=n a f i
   have hn: ∀t z,(mkC nm c x).1≠ .d t z:=by
    cases c <;> first | exact absurd rfl (m _) | (intro t z; simp [mkC])
   exact ⟨(VV_s hn).2 this.1,this.2⟩
theorem QkB: ∀{ks:List VK} {x:denV ks} {vs:List Value} {F:List Nat} (nm:Nat),VKsR w S Q B ks x vs F→ ∃qs,Grs w S (mkVs nm ks x).2 qs F∧
  ∀{S':Nat→Prop} {β:Qr} {H:Heap},Agree S Q B w S' β H→(∀p∈(mkVs nm ks x).2,look H p.1=some p.2)→(∀p∈qs,β p.1=p.2)→All2 (VV w S' β H) (mkVs nm ks x).1 vs∧BoxM w S' β H (mkVs nm ks x).2
 | [],_,_,_,_,⟨h1,h2⟩=>by subst h1; subst h2; exact ⟨[],⟨rfl,rfl⟩,fun _ _ _=>⟨.nil,BoxM.nil⟩⟩
 | k::r,x,_,_,nm,⟨v,vs',F1,F2,h1,h2,h3,h4⟩=>by
  subst h1; subst h2;obtain ⟨q1,g1,k1⟩:=QmB nm h3;obtain ⟨i,g,h⟩:=QkB (nm+30) h4;refine ⟨q1++i,g1.append g,fun e d f=>?_⟩
  have b:=k1 e (fun p a=>d p (List.mem_append_left _ a)) (fun p a=>f p (List.mem_append_left _ a))
  have c:=h e (fun p a=>d p (List.mem_append_right _ a)) (fun p a=>f p (List.mem_append_right _ a))
  exact ⟨.cons b.1 c.1,b.2.append c.2⟩
def blks (β:Qr) (l:List Nat):List Nat:=l.flatMap fun o=>blkq (β o)
def Qcu (β:Qr) (H:Heap) (o:Nat):Option Pl:=match look H o with
 | some (.box _)=>(β o).map fun p=> .box p.1 p.2
 | some (.row _ _ xs)=>some (.row (β o) xs.length)
 | _=>none
theorem QG {β:Qr} {l m:List Nat}:blks β (l++m)=blks β l++blks β m:=by simp [blks]
variable {Z:Nat→Prop} {M:Nat→Nat→Prop} {w0:World} {β:Qr} {σ:St} {a:Act} {fr l:List Nat} {H:Heap}
structure Cuts (H:Heap) (fr l:List Nat) (sh:List Nat):Prop where
 out: ∀o,o∈l→o∉fr
 shown: ∀o∈sh, ∀e t xs,look H o=some (.row e t xs)→o∉l→o∈fr
def QeU (H:Heap) (fr bs:List Nat):Prop:= ∀o∈bs, ∀e t xs,look H o=some (.row e t xs)→o∉fr
theorem QrN {S':Nat→Prop} {H':Heap} (hQ: ∀b, ¬Own β H' b→Q b): ∀{ts:List Ty} {l:List Cap} {x:denT ts} {us:List Value},All2 (PR w S β H') l us→Qlm ts l=some x→QlL w S Q ts x us
 | [],[],_,_,.nil,_=>rfl
 | t::r,.pd s y::l,x,_,.cons h hr,hx=>by
  simp only [Qlm] at hx;split at hx
  ·rename_i z q hz hq;obtain rfl:=Osj hx;obtain ⟨rfl,a⟩:=QfD hz h;exact ⟨_,_,rfl,a.mono id hQ,QrN (S':=S') hQ hr hq⟩
  ·cases hx
 | [],_::_,_,_,_,h=>by simp [Qlm] at h
 | _::_,[],_,_,_,h=>by simp [Qlm] at h
 | _::_,.p _ _::_,_,_,_,h=>by simp [Qlm] at h
theorem QiP (hO:Owns w S β (frz H fr)) (hQ: ∀b, ¬Own β (frz H fr) b→Q b) {c:CK} {s:S1} {v:Value} {x:c.den} {l1:List Nat} (hv:VS w S β (frz H fr) s v) (h:unC H c s=some (x,l1))
  (hl1: ∀o∈l1,o∈l) (hfree:Qeh H l c s=true) {bs:List Nat} (hp:ptrC bs c=true) (hbs:QeU H fr bs) (hc:Cuts H fr l (QL [s])):Qds w S Q (Qcu β (frz H fr)) c x v (blks β l1):=by
 cases c with
 | dat t=>
  simp only [unC] at h;split at h
  ·rename_i y hy;simp only [Oie,Pmi] at h;obtain ⟨rfl,rfl⟩:=h;refine ⟨?_,rfl⟩;refine QbF (own:=false) hO (fun _ _ _ h=>h) (by simp) hv (Qit hy fun o e s' m hs hk=>?_)
   refine hc.shown o hs e s' m hk fun ae=>?_
   cases s <;> simp only [QL,List.filterMap_cons,List.filterMap_nil,List.mem_singleton,List.not_mem_nil] at hs
   all_goals (subst hs; simp [Qeh,hk,ae] at hfree)
  ·cases h
 | own e t=>
  simp only [unC] at h;split at h
  ·simp only [Oie,Pmi] at h;obtain ⟨rfl,rfl⟩:=h;simp only [VS] at hv;exact ⟨none,.inl ⟨rfl,rfl⟩,⟨hv,rfl⟩,rfl⟩
  ·rename_i o;split at h
   ·rename_i p t' m a;split at h
    ·rename_i j;split at h
     ·rename_i ys u;simp only [Oie,Pmi] at h;obtain ⟨rfl,rfl⟩:=h;obtain ⟨d,i⟩:=QV u;simp only [Ty.slice.injEq] at d;subst d;simp only at i;subst i;have r:=hc.out o (hl1 o (by simp))
      have:=QaE (l:=fr) a;rw [if_neg r] at this;simp only [VS,this] at hv;exact ⟨β o,QbN j (hO o _ this),hv,by simp [blks]⟩
     ·cases h
    ·cases h
   ·cases h
  ·cases h
 | vw e t=>
  simp only [unC] at h;split at h
  ·cases h
  rename_i q;have q:deep e=false:=by simpa using q
  split at h
  ·simp only [Oie,Pmi] at h;obtain ⟨rfl,rfl⟩:=h;simp only [VS] at hv;exact ⟨none,.inl ⟨rfl,rfl⟩,⟨q,by simp⟩,⟨_,rfl,rfl⟩,⟨hv,rfl,rfl⟩,rfl⟩
  ·rename_i o;split at h
   ·rename_i p t' m a;split at h
    ·rename_i j;split at h
     ·rename_i ys u;simp only [Oie,Pmi] at h;obtain ⟨rfl,rfl⟩:=h;obtain ⟨d,i⟩:=QV u;simp only [Ty.slice.injEq] at d;subst d;simp only at i;subst i;have r:=hc.out o (hl1 o (by simp))
      have:=QaE (l:=fr) a;rw [if_neg r] at this;simp only [VS,this] at hv;exact ⟨β o,QbN j (hO o _ this),⟨q,by simp⟩,⟨v,hv⟩,QvY hv,by simp [blks]⟩
     ·cases h
    ·cases h
   ·cases h
  ·rename_i o lo n;split at h
   ·rename_i p t' m a;split at h
    ·rename_i j;split at h
     ·rename_i ys u;simp only [Oie,Pmi] at h;obtain ⟨rfl,rfl⟩:=h;obtain ⟨d,i⟩:=QV u;simp only [Ty.slice.injEq] at d;subst d;simp only at i;subst i;have r:=hc.out o (hl1 o (by simp))
      have:=QaE (l:=fr) a;rw [if_neg r] at this;simp only [VS,this] at hv;exact ⟨β o,QbN j (hO o _ this),⟨q,hv.1.2⟩,hv.2.1,hv.2.2,by simp [blks]⟩
     ·cases h
    ·cases h
   ·cases h
  ·cases h
 | ptr o ar=>
  simp only [unC] at h;split at h
  ·rename_i o' ap;split at h
   ·rename_i j;obtain ⟨rfl,rfl⟩:=j;split at h
    ·rename_i cs a;simp only [Oie,Pmi] at h;obtain ⟨_,rfl⟩:=h;have:look (frz H fr) o'=some (.box cs):=by rw [Qaz (by intro e t m p; rw [a] at p; cases p),a]
     simp only [VS,this] at hv;refine ⟨?_,rfl⟩;obtain ⟨b,k,d,i⟩:=hv;exact ⟨b,k,by simp [Qcu,this,d],i⟩
    ·cases h
   ·cases h
  ·cases h
 | ref o=>
  simp only [unC] at h;split at h
  ·rename_i o';split at h
   ·rename_i j;subst j;split at h
    ·rename_i e t m a;simp only [Oie,Pmi] at h;obtain ⟨_,rfl⟩:=h;simp only [ptrC,List.contains_eq_mem,decide_eq_true_eq] at hp;have:=QaE (l:=fr) a;rw [if_neg (hbs o' hp e t m a)] at this;simp only [VS,this] at hv;exact ⟨⟨β o',m.length,by simp [Qcu,this],hv⟩,rfl⟩
    ·cases h
   ·cases h
  ·cases h
 | pd t=>
  simp only [unC] at h;split at h
  ·rename_i s' y;split at h
   ·rename_i z hz;simp only [Oie,Pmi] at h;obtain ⟨rfl,rfl⟩:=h;obtain ⟨rfl,h5⟩:=QfD hz hv;exact ⟨h5.mono id hQ,rfl⟩
   ·cases h
  ·cases h
 | fn f ts=>
  simp only [unC] at h;split at h
  ·rename_i g l2;split at h
   ·rename_i j;subst j;split at h
    ·rename_i y hy;simp only [Oie,Pmi] at h;obtain ⟨rfl,rfl⟩:=h;obtain ⟨us,e,ag⟩:=hv;exact ⟨⟨us,e,QrN (S':=S) hQ ag hy⟩,rfl⟩
    ·cases h
   ·cases h
  ·cases h
 | mp=>
  simp only [unC] at h;split at h
  ·rename_i o;split at h
   ·rename_i es a;simp only [Oie,Pmi] at h;obtain ⟨rfl,rfl⟩:=h;have:look (frz H fr) o=some (.map es):=by rw [Qaz (by intro e t m p; rw [a] at p; cases p),a]
    simp only [VS,this] at hv;obtain ⟨b,k,d,i⟩:=hv;have hO:=hO o _ this;rw [d] at hO
    have hc:k≤maxLen:=by
     obtain ⟨_,_,_,_,hq,_,_,hc⟩:=hO;simp only [Oie,Pmi] at hq;obtain ⟨rfl,rfl⟩:=hq;exact hc
    exact ⟨b,k,hO,i,by simp [blks,d,blkq,QaU hc]⟩
   ·cases h
  ·cases h
 | bx t=>simp [unC] at h
 | any=>
  simp only [unC,Oie,Pmi] at h;obtain ⟨_,rfl⟩:=h;rfl
theorem Qig {s:S1} {ss:List S1}:QL (s::ss)=QL [s]++QL ss:=by
 cases s <;> simp [QL]
theorem Qch (hO:Owns w S β (frz H fr)) (hQ: ∀b, ¬Own β (frz H fr) b→Q b): ∀{cs:List CK} {ss:List S1} {vs:List Value} {x:denC cs} {l1:List Nat},All2 (VS w S β (frz H fr)) ss vs→unCs H cs ss=some (x,l1)→
  (∀o∈l1,o∈l)→Qcx H l cs ss=true→ ∀{bs:List Nat},cs.all (ptrC bs)=true→QeU H fr bs→Cuts H fr l (QL ss)→QbC w S Q (Qcu β (frz H fr)) cs x vs (blks β l1)
 | [],[],_,_,_,hv,h,_,_,_,_,_,_=>by
  cases hv;simp only [unCs,Oie,Pmi] at h;obtain ⟨_,rfl⟩:=h;exact ⟨rfl,rfl⟩
 | c::r,s::ss,_,x,l1,hv,h,hl,hf,bs,hp,hbs,hc=>by
  simp only [List.all_cons,Bool.and_eq_true] at hp;cases hv with
  | cons d e=>
   simp only [unCs] at h;split at h
   ·rename_i y i f;split at h
    ·rename_i z j g;simp only [Oie,Pmi] at h;obtain ⟨rfl,rfl⟩:=h;simp only [Qcx,Bool.and_eq_true] at hf;rw [Qig] at hc
     exact ⟨_,_,_,_,rfl,QG,QiP hO hQ d f (fun o a=>hl o (List.mem_append_left _ a)) hf.1 hp.1 hbs ⟨hc.out,fun o a=>hc.shown o (List.mem_append_left _ a)⟩,
      Qch hO hQ e g (fun o a=>hl o (List.mem_append_right _ a)) hf.2 hp.2 hbs ⟨hc.out,fun o a=>hc.shown o (List.mem_append_right _ a)⟩⟩
    ·cases h
   ·cases h
 | [],_::_,_,_,_,_,h,_,_,_,_,_,_=>by simp [unCs] at h
 | _::_,[],_,_,_,_,h,_,_,_,_,_,_=>by simp [unCs] at h
theorem Qet: ∀{t:Ty} (x:den t),QL (split t x)=[]
 | .int _,_=>rfl
 | .bool,_=>rfl
 | .str,_=>rfl
 | .unit,_=>rfl
 | .opq,_=>rfl
 | .slice _,_=>rfl
 | .pair a b,x=>by
  have h1:=Qet x.1;have c:=Qet x.2;unfold QL at h1 c⊢;simp only [split,List.filterMap_append,h1,c,List.append_nil]
theorem QlF {H:Heap} {v:SV}: ∀o∈QL (cellsOf v),o∈Qu H v:=by
 intro o a;cases v with
 | g c=>exact a
 | s x=>
  cases x with
  | d t z=>simp only [cellsOf,Qet] at a; simp at a
  | sl b=>simpa [cellsOf,QL,Qu] using a
  | vw b=>simpa [cellsOf,QL,Qu] using a
  | _=>simp [cellsOf,QL] at a
theorem Qki {t:Ty} {o lo n:Nat} (h:Qeh H l (.dat t) (.vw o lo n)=true) {e:TypeId} {t':Ty} {xs:List (den t')} (ho:look H o=some (.row e t' xs)):o∉l:=by
 intro a;simp [Qeh,ho,a] at h
theorem Qmn {t:Ty} {o:Nat} (h:Qeh H l (.dat t) (.sl o)=true) {e:TypeId} {t':Ty} {xs:List (den t')} (ho:look H o=some (.row e t' xs)):o∉l:=by
 intro a;simp [Qeh,ho,a] at h
theorem Qnn (hO:Owns w S β (frz H fr)) (hQ: ∀b, ¬Own β (frz H fr) b→Q b) {k:VK} {s:SV} {v:Value} {x:k.den} {l1:List Nat} (hv:VV w S β (frz H fr) s v) (h:unV H k s=some (x,l1))
  (hl1: ∀o∈l1,o∈l) (hfree:Qmo H l k s=true) {bs:List Nat} (hp:ptrV bs k=true) (hbs:QeU H fr bs) (hc:Cuts H fr l (Qu H s)):VKR w S Q (Qcu β (frz H fr)) k x v (blks β l1):=by
 have j:Cuts H fr l (QL (cellsOf s)):=⟨hc.out,fun o a=>hc.shown o (QlF o a)⟩
 cases k with
 | b cs=>simp [unV] at h
 | g cs=>
  simp only [Qmo] at hfree;cases s with
  | g u=>
   simp only [unV] at h;obtain ⟨q,e,p⟩:=hv;exact ⟨q,e,Qch hO hQ p h hl1 hfree hp hbs j⟩
  | s y=>
   cases y <;> simp only [unV] at h <;> first | (cases h; done) | skip
   rename_i t z;split at h
   ·rename_i ht;obtain ⟨q,e,hr⟩:=hv;refine ⟨q,by simpa [Val,ht] using e,Qch hO hQ (QgI hr) h hl1 hfree hp hbs j⟩
   ·cases h
 | s c=>
  by_cases r: ∃t,c= .dat t
  ·obtain ⟨t,rfl⟩:=r;simp only [unV] at h;split at h
   ·rename_i y d;simp only [Oie,Pmi] at h;obtain ⟨rfl,rfl⟩:=h;refine ⟨?_,rfl⟩;refine Qbv (own:=false) hO (fun _ _ _ h=>h) (by simp) hv (Qlj d ?_)
    intro o a e t' xs f;refine hc.shown o a e t' xs f ?_;simp only [Qmo,List.all_eq_true] at hfree;cases s with
    | g u=>
     simp only [Qu,QL,List.mem_filterMap] at a;obtain ⟨s1,m,n⟩:=a;cases s1 <;> simp at n
     all_goals (subst n; first | exact Qmn (hfree _ m) f | exact Qki (hfree _ m) f)
    | s y1=>
     cases y1 <;> simp only [toD,Qae] at d <;> first | (cases d; done) | skip
     all_goals simp [Qu] at a
     ·subst a;exact Qmn (hfree _ (by simp [cellsOf])) f
     ·subst a;exact Qki (hfree _ (List.mem_singleton.2 rfl)) f
   ·cases h
  ·have i: ∀t,c≠ .dat t:=fun t e=>r ⟨t,e⟩
   have e1:unV H (.s c) s=(match s with | .s y=>unC H c y | .g _=>none):=by
    cases c <;> first | exact absurd rfl (i _) | (cases s <;> rfl)
   have e2:Qmo H l (.s c) s=(match s with | .s y=>Qeh H l c y | .g _=>true):=by
    cases c <;> first | exact absurd rfl (i _) | (cases s <;> rfl)
   rw [e1] at h;rw [e2] at hfree;cases s with
   | g u=>cases h
   | s y=>
    refine (QiU i).2 ?_;by_cases d: ∃t z,y= .d t z
    ·obtain ⟨t,z,rfl⟩:=d;cases c <;> first | exact absurd rfl (i _) | skip
     all_goals simp only [unC] at h
     all_goals first | (cases h; done) | (split at h <;> cases h; done) | skip
     simp only [Oie,Pmi] at h;obtain ⟨_,rfl⟩:=h;rfl
    ·exact QiP hO hQ ((VV_s fun t z e=>d ⟨t,z,e⟩).1 hv) h hl1 hfree hp hbs ⟨hc.out,fun o a=>hc.shown o (by
      cases y <;> simp [QL] at a
      all_goals (subst a; simp [Qu]))⟩
theorem Qlo (hO:Owns w S β (frz H fr)) (hQ: ∀b, ¬Own β (frz H fr) b→Q b): ∀{ks:List VK} {ss:List SV} {vs:List Value} {x:denV ks} {l1:List Nat},All2 (VV w S β (frz H fr)) ss vs→unVs H ks ss=some (x,l1)→
  (∀o∈l1,o∈l)→QnG H l ks ss=true→ ∀{bs:List Nat},ks.all (ptrV bs)=true→QeU H fr bs→(∀s∈ss,Cuts H fr l (Qu H s))→VKsR w S Q (Qcu β (frz H fr)) ks x vs (blks β l1)
 | [],[],_,_,_,hv,h,_,_,_,_,_,_=>by
  cases hv;simp only [unVs,Oie,Pmi] at h;obtain ⟨_,rfl⟩:=h;exact ⟨rfl,rfl⟩
 | c::r,s::ss,_,x,l1,hv,h,hl,hf,bs,hp,hbs,hc=>by
  simp only [List.all_cons,Bool.and_eq_true] at hp;cases hv with
  | cons e f=>
   simp only [unVs] at h;split at h
   ·rename_i q g;split at h
    ·rename_i j d;simp only [Oie,Pmi] at h;obtain ⟨rfl,rfl⟩:=h;simp only [QnG,Bool.and_eq_true] at hf
     exact ⟨_,_,_,_,rfl,QG,Qnn hO hQ e g (fun o a=>hl o (List.mem_append_left _ a)) hf.1 hp.1 hbs (hc s (by simp)),
      Qlo hO hQ f d (fun o a=>hl o (List.mem_append_right _ a)) hf.2 hp.2 hbs (fun s i=>hc s (by simp [i]))⟩
    ·cases h
   ·cases h
 | [],_::_,_,_,_,_,h,_,_,_,_,_,_=>by simp [unVs] at h
 | _::_,[],_,_,_,_,h,_,_,_,_,_,_=>by simp [unVs] at h
theorem QdH (hinj: ∀o o' b,o∈l→o'∈l→b∈blkq (β o)→b∈blkq (β o')→o=o') (hnd: ∀o∈l,(blkq (β o)).Nodup): ∀{l':List Nat},(∀o∈l',o∈l)→l'.Nodup→(blks β l').Nodup
 | [],_,_=>by simp [blks]
 | o::r,hl,hd=>by
  have hd':=List.nodup_cons.1 hd;have g:=QdH hinj hnd (l':=r) (fun o f=>hl o (by simp [f])) hd'.2
  rw [show o::r=[o]++r from rfl,QG,List.nodup_append]
  refine ⟨?_,g,?_⟩
  ·simp only [blks,List.flatMap_cons,List.flatMap_nil,List.append_nil];exact hnd o (hl o (by simp))
  ·intro b d h a e;subst e;simp only [blks,List.flatMap_cons,List.flatMap_nil,List.append_nil,List.mem_flatMap] at d a;obtain ⟨o',c,a⟩:=a;have:=hinj o o' b (hl o (by simp)) (hl o' (by simp [c])) d a
   subst this;exact hd'.1 c
theorem Qbp {l:List Nat} {b:Nat}:b∈blks β l↔ ∃o∈l,b∈blkq (β o):=by
 simp only [blks,List.mem_flatMap]
theorem QjS {q:Option (Nat×Nat)} {b:Nat}:b∈blkq q↔ ∃p,q=some p∧(b=p.1∨b∈bits p.2):=by
 cases q with
 | none=>simp [blkq]
 | some p=>simp [blkq]
theorem Qbs {ob:Ob} {p:Nat×Nat} {b:Nat} (h:foot ob p b):b∈blkq (some p):=QjS.2 ⟨p,rfl,h.elim .inl fun h=> .inr h.2⟩
theorem Qdo {q:Option (Nat×Nat)} {b:Nat} {e:TypeId} {t:Ty} {ys:List (den t)} (h:b∈blkq q): ∃p,q=some p∧foot (.row e t ys) p b:=by
 obtain ⟨p,a,c⟩:=QjS.1 h;exact ⟨p,a,c.elim .inl fun h=> .inr ⟨rfl,h⟩⟩
theorem OwnO.foot {w:World} {S1:Nat→Prop} {p:Nat×Nat} {ob:Ob} (h:OwnO w S1 (some p) ob) {b:Nat}:Go.Proofs.YtkkljegcnnfanaaGreatDoor.S.foot ob p b↔b∈blkq (some p):=by
 refine ⟨Qbs,fun a=>?_⟩
 obtain ⟨j,f,a⟩:=QjS.1 a;obtain rfl:=Osj f;cases ob with
 | dead=>exact h.elim
 | fro _ _=>exact h.elim
 | map i=>
  obtain ⟨_,_,_,_,c,_,_,d⟩:=h;simp only [Oie] at c;subst c;rw [QaU d] at a;exact a.elim .inl fun h=>by cases h
 | row e t k=>exact a.elim .inl fun h=> .inr ⟨rfl,h⟩
 | box g=>
  obtain ⟨_,_,_,c,_⟩:=h;simp only [Oie] at c;subst c;rw [QaU (Nat.zero_le _)] at a;exact a.elim .inl fun h=>by cases h
theorem Qqm (c:Nat):(bits c).Nodup:=(List.nodup_range).filter _
theorem OwnO.nodup {w:World} {S1:Nat→Prop} {q:Option (Nat×Nat)} {ob:Ob} (h:OwnO w S1 q ob):(blkq q).Nodup:=by
 cases q with
 | none=>simp [blkq]
 | some p=>
  refine List.nodup_cons.2 ⟨?_,Qqm _⟩;cases ob with
  | dead=>exact h.elim
  | fro _ _=>exact h.elim
  | map d=>
   obtain ⟨_,_,_,_,a,_,_,b⟩:=h;simp only [Oie] at a;subst a;rw [QaU b]; simp
  | row e t f=>
   rcases h with ⟨h,_⟩ | ⟨_,_,_,_,a,_,_,_,_,_,_,_,h⟩
   ·cases h
   ·simp only [Oie] at a;subst a;exact h.1
  | box c=>
   obtain ⟨_,_,_,a,_⟩:=h;simp only [Oie] at a;subst a;rw [QaU (Nat.zero_le _)]; simp
end
section
open Go Go.RowKit
def Qhj (w:World) (S Q:Nat→Prop) (B:Nat→Option Pl) (a:Act):(l:List (Nat×VK))→denS l→List Nat→Prop
 | [],_,F=>F=[]
 | (i,k)::r,x,F=> ∃F1 F2,F=F1++F2∧i< a.tmps.size∧VKR w S Q B k x.1 (a.tmps.getD i undef) F1∧Qhj w S Q B a r x.2 F2
def Qhi (w:World) (S Q:Nat→Prop) (B:Nat→Option Pl):(l:List (Nat×List CK))→denB l→List Nat→Prop
 | [],_,F=>F=[]
 | (o,cs)::r,x,F=> ∃F1 F2 b base c e,F=F1++F2∧B o=some (.box b base)∧w.heap[b]?=some (.cells c e (0,0))∧base+cs.length≤c.size∧
   QbC w S Q B cs x.1 ((c.toList.drop base).take cs.length) F1∧(∀u∈(c.toList.drop base).take cs.length,u.oneCell'=true)∧Qhi w S Q B r x.2 F2
def QhF (w:World) (S:Nat→Prop) (B:Nat→Option Pl):(l:List (Nat×TypeId×Ty))→denW l→List Nat→Prop
 | [],_,F=>F=[]
 | (o,e,t)::r,x,F=> ∃q F2,F=blkq q++F2∧B o=some (.row q x.1.length)∧RowO w S e t x.1 q∧QhF w S B r x.2 F2
variable {w:World} {S S' Q:Nat→Prop} {B:Nat→Option Pl} {a:Act}
theorem QmA: ∀{l:List (Nat×VK)} {x:denS l} {F:List Nat} (nm:Nat),Qhj w S Q B a l x F→ ∃qs,Grs w S (mkS nm l x).2 qs F∧
  ∀{S':Nat→Prop} {β:Qr} {H:Heap},Agree S Q B w S' β H→(∀p∈(mkS nm l x).2,look H p.1=some p.2)→(∀p∈qs,β p.1=p.2)→
   (∀p∈(mkS nm l x).1,p.1< a.tmps.size∧VL w S' β H p.2 (a.tmps.getD p.1 undef))∧BoxM w S' β H (mkS nm l x).2
 | [],_,_,_,h=>⟨[],⟨rfl,h⟩,fun _ _ _=>⟨fun p hp=>by simp [mkS] at hp,BoxM.nil⟩⟩
 | (i,k)::r,x,_,nm,⟨F1,F2,h1,h2,h3,h4⟩=>by
  subst h1;obtain ⟨q1,g1,k1⟩:=QmB nm h3;obtain ⟨m,g,j⟩:=QmA (nm+30) h4;refine ⟨q1++m,g1.append g,fun e d f=>?_⟩
  have b:=k1 e (fun p hp=>d p (List.mem_append_left _ hp)) (fun p hp=>f p (List.mem_append_left _ hp))
  have c:=j e (fun p hp=>d p (List.mem_append_right _ hp)) (fun p hp=>f p (List.mem_append_right _ hp))
  refine ⟨fun p hp=>?_,b.2.append c.2⟩
  simp only [mkS,List.mem_cons] at hp;rcases hp with rfl | hp
  ·exact ⟨h2,b.1⟩
  ·exact c.1 p hp
theorem All2.and {α β:Type} {R:α→β→Prop} {p:β→Prop}: ∀{as:List α} {bs:List β},All2 R as bs→(∀b∈bs,p b)→All2 (fun x y=>R x y∧p y) as bs
 | _,_,.nil,_=> .nil
 | _,_,.cons h hr,hp=> .cons ⟨h,hp _ (by simp)⟩ (hr.and fun b hb=>hp b (by simp [hb]))
theorem QeH: ∀(nm:Nat) (cs:List CK) (x:denC cs),(mkCs nm cs x).1.length=cs.length
 | _,[],_=>rfl
 | nm,c::r,x=>by simp [mkCs,QeH]
theorem Qmx: ∀{l:List (Nat×List CK)} {x:denB l} {F:List Nat} (nm:Nat),Qhi w S Q B l x F→ ∃qs,Grs w S (mkB nm l x).2 qs F∧
  (∀p∈(mkB nm l x).1, ∃cs,p.2= .box cs∧ ∃ks b base c e,(p.1,ks)∈l∧ks.length=cs.length∧B p.1=some (.box b base)∧w.heap[b]?=some (.cells c e (0,0))∧base+cs.length≤c.size)∧
  ∀{S':Nat→Prop} {β:Qr} {H:Heap},Agree S Q B w S' β H→(∀p∈(mkB nm l x).2,look H p.1=some p.2)→(∀p∈qs,β p.1=p.2)→
   (∀p∈(mkB nm l x).1,OR w S' β H (β p.1) p.2)∧BoxM w S' β H (mkB nm l x).2
 | [],_,_,_,h=>⟨[],⟨rfl,h⟩,fun p hp=>by simp [mkB] at hp,fun _ _ _=>⟨fun p hp=>by simp [mkB] at hp,BoxM.nil⟩⟩
 | (o,cs)::r,x,_,nm,⟨F1,F2,b,base,c,e,h1,h2,h3,h4,h5,h6,h7⟩=>by
  subst h1;obtain ⟨q1,g1,k1⟩:=QdN nm h5;obtain ⟨q2,u,y,z⟩:=Qmx (nm+30) h7;refine ⟨q1++q2,g1.append u,fun p hp=>?_,fun f k m=>?_⟩
  ·simp only [mkB,List.mem_cons] at hp;rcases hp with rfl | hp
   ·exact ⟨_,rfl,cs,b,base,c,e,by simp,(QeH ..).symm,h2,h3,by rw [QeH]; exact h4⟩
   ·obtain ⟨j,t,ks,n,a,q,s,v,d⟩:=y p hp;exact ⟨j,t,ks,n,a,q,s,by simp [v],d⟩
  ·have g:=k1 f (fun p hp=>k p (List.mem_append_left _ hp)) (fun p hp=>m p (List.mem_append_left _ hp))
   have i:=z f (fun p hp=>k p (List.mem_append_right _ hp)) (fun p hp=>m p (List.mem_append_right _ hp))
   refine ⟨fun p hp=>?_,g.2.append i.2⟩
   simp only [mkB,List.mem_cons] at hp;rcases hp with rfl | hp
   ·refine ⟨b,base,c,e,(f.box o b base h2).1,h3,by rw [QeH]; exact h4,?_⟩
    rw [QeH];exact g.1.and h6
   ·exact i.1 p hp
theorem Grs.mem: ∀{A:List (Nat×Ob)} {qs F},Grs w S A qs F→ ∀p∈A, ∃q,(p.1,q)∈qs∧(∀b∈blkq q,b∈F)∧OwnO w S q p.2
 | [],_,_,_,p,hp=>by simp at hp
 | p0::r,_,_,⟨q,qs',F2,h1,h2,h3,h4⟩,p,hp=>by
  subst h1; subst h2;rcases List.mem_cons.1 hp with rfl | hp
  ·exact ⟨q,by simp,fun b hb=>List.mem_append_left _ hb,h3⟩
  ·obtain ⟨q',hq,hb,hr⟩:=h4.mem p hp;exact ⟨q',by simp [hq],fun b a=>List.mem_append_right _ (hb b a),hr⟩
theorem Grs.names: ∀{A:List (Nat×Ob)} {qs F},Grs w S A qs F→qs.map (·.1)=A.map (·.1)
 | [],_,_,⟨h1,_⟩=>by subst h1; rfl
 | p0::r,_,_,⟨q,qs',F2,h1,h2,h3,h4⟩=>by subst h1; simp [h4.names]
theorem Grs.inF: ∀{A:List (Nat×Ob)} {qs F},Grs w S A qs F→ ∀p∈qs, ∀b∈blkq p.2,b∈F
 | [],_,_,⟨h1,_⟩,p,hp,_,_=>by subst h1; simp at hp
 | p0::r,_,_,⟨q,qs',F2,h1,h2,h3,h4⟩,p,hp,b,hb=>by
  subst h1; subst h2;rcases List.mem_cons.1 hp with rfl | hp
  ·exact List.mem_append_left _ hb
  ·exact List.mem_append_right _ (h4.inF p hp b hb)
theorem Grs.inj: ∀{A:List (Nat×Ob)} {qs F},Grs w S A qs F→F.Nodup→ ∀p∈qs, ∀p'∈qs, ∀b,b∈blkq p.2→b∈blkq p'.2→p=p'
 | [],_,_,⟨h1,_⟩,_,p,hp,_,_,_,_,_=>by subst h1; simp at hp
 | p0::r,_,_,⟨q,qs',F2,h1,h2,h3,h4⟩,hn,p,hp,p',hp',b,hb,hb'=>by
  subst h1; subst h2;have hn':=List.nodup_append.1 hn;have a:=h4.inF;rcases List.mem_cons.1 hp with rfl | hp
  ·rcases List.mem_cons.1 hp' with rfl | hp'
   ·rfl
   ·exact absurd rfl (hn'.2.2 b hb b (a p' hp' b hb'))
  ·rcases List.mem_cons.1 hp' with rfl | hp'
   ·exact absurd rfl (hn'.2.2 b hb' b (a p hp b hb))
   ·exact h4.inj hn'.2.1 p hp p' hp' b hb hb'
theorem Qar {α:Type}: ∀{l:List (Nat×α)} {p:Nat×α},(l.map (·.1)).Nodup→p∈l→look l p.1=some p.2
 | (k,y)::r,p,hn,hp=>by
  simp only [List.map_cons,List.nodup_cons] at hn;rw [Qe];rcases List.mem_cons.1 hp with rfl | hp
  ·rw [if_pos rfl]
  ·rw [if_neg (fun e=>hn.1 (by rw [e]; exact List.mem_map_of_mem hp))]
   exact Qar hn.2 hp
theorem QiI: ∀(nm:Nat) (l:List (Nat×List CK)) (x:denB l),(mkB nm l x).1.map (·.1)=l.map (·.1)
 | _,[],_=>rfl
 | nm,(i,cs)::r,x=>by simp [mkB,QiI]
variable {Z:Nat→Prop} {M:Nat→Nat→Prop} {N:Nat→Option (Option (Nat×Nat))} {w0:World}
theorem QmC: ∀(l:List (Nat×TypeId×Ty)) (x:denW l),(mkW l x).map (·.1)=l.map (·.1)
 | [],_=>rfl
 | (o,e,t)::r,x=>by simp [mkW,QmC]
theorem QmD: ∀{l:List (Nat×TypeId×Ty)} {x:denW l} {F:List Nat},QhF w S B l x F→ ∃qs,Grs w S (mkW l x) qs F∧
  ∀p∈mkW l x, ∃q e t xs,(p.1,q)∈qs∧p.2= .row e t xs∧B p.1=some (.row q xs.length)
 | [],_,_,h=>⟨[],⟨rfl,h⟩,fun p hp=>by simp [mkW] at hp⟩
 | (o,e,t)::r,x,_,⟨q,F2,h1,h2,h3,h4⟩=>by
  subst h1;obtain ⟨qs,g,hk⟩:=QmD h4;refine ⟨(o,q)::qs,⟨q,qs,F2,rfl,rfl,h3,g⟩,fun p hp=>?_⟩
  simp only [mkW,List.mem_cons] at hp;rcases hp with rfl | hp
  ·exact ⟨q,e,t,x.1,by simp,rfl,h2⟩
  ·obtain ⟨f,b,i,a,c,d⟩:=hk p hp;exact ⟨f,b,i,a,by simp [c],d⟩
theorem QkC {nt:Nat} {s:Shp} {x:s.den} {F1 F2 F3:List Nat} (hlaid:Laid M w0) (hfresh: ∀b,w0.heap.size≤b→ ∀i,M b i) (hwhole: ∀b,(∀i,M b i)→Z b) (hd:a.defers=[]) (hnt:a.tmps.size=nt) (hk:Kept M w0 w)
  (hnames:Qfi (mk nt s x)=true) (hs:Qhj w S Q B a s.slots x.1 F1) (hb:Qhi w S Q B s.boxes x.2.1 F2) (hr:QhF w S B s.rows x.2.2 F3) (hF:((F1++F2)++F3).Nodup)
  (hM: ∀b∈(F1++F2)++F3,(∀i,M b i)∧b< w.heap.size)
  (hB: ∀o b base,B o=some (.box b base)→o∈s.boxes.map (·.1)∧b∉(F1++F2)++F3∧b< w.heap.size∧ ∀cs,(o,cs)∈s.boxes→ ∀i,i< cs.length→M b (base+i))
  (hBr: ∀o q n,B o=some (.row q n)→o∈s.rows.map (·.1))
  (hBi: ∀o o' b base base',B o=some (.box b base)→B o'=some (.box b base')→o=o')
  (hS: ∀b,b< w.heap.size→S b→Z b∧b∉(F1++F2)++F3∧ ∀o base,B o≠some (.box b base))
  (hQ: ∀b,Q b→b∉(F1++F2)++F3∧ ∀o base,B o≠some (.box b base))
  (hB0: ∀o b base,B o=some (.box b base)→o< 9000000→base=0)
  (hN: ∀o q,N o=some q→9000000≤o∧((∃b base,q=some (b,base)∧B o=some (.box b base))∨ ∃n,B o=some (.row q n))):Rep Z M N w0 (mk nt s x) a w:=by
 obtain ⟨q1,g1,k1⟩:=QmA 500000 hs;obtain ⟨q2,g2,i2,k2⟩:=Qmx 600000 hb;obtain ⟨q3,g3,i3⟩:=QmD hr;have g:=(g1.append g2).append g3;have hn:=Qap hnames
 let u:=((mkS 500000 s.slots x.1).2++(mkB 600000 s.boxes x.2.1).2)++mkW s.rows x.2.2
 let bx:=(mkB 600000 s.boxes x.2.1).1
 have hH:(mk nt s x).H=u++bx:=by simp [mk,u,bx]
 rw [hH] at hn;have bj:(u.map (·.1)).Nodup:=by rw [List.map_append] at hn; exact (List.nodup_append.1 hn).1
 let β:Qr:=fun o=>match look ((q1++q2)++q3) o with | some q=>q | none=>match B o with | some (.box b base)=>some (b,base) | _=>none
 have bk:(((q1++q2)++q3).map (·.1)).Nodup:=by rw [g.names]; exact bj
 have af: ∀p∈(q1++q2)++q3,β p.1=p.2:=by
  intro p m;show (match look ((q1++q2)++q3) p.1 with | some q=>q | none=>match B p.1 with | some (.box b base)=>some (b,base) | _=>none)=p.2
  rw [Qar bk m]
 have ac: ∀p∈u++bx,look (mk nt s x).H p.1=some p.2:=by
  intro p m;rw [hH]; exact Qar hn m
 have v: ∀o ob,look (mk nt s x).H o=some ob→(o,ob)∈u++bx:=by
  intro o ob l;rw [hH] at l;exact QaY l
 have a7: ∀o b base,o∈s.boxes.map (·.1)→B o=some (.box b base)→β o=some (b,base):=by
  intro o b base l bg;show (match look ((q1++q2)++q3) o with | some q=>q | none=>match B o with | some (.box b base)=>some (b,base) | _=>none)=some (b,base)
  cases hl:look ((q1++q2)++q3) o with
  | none=>simp [bg]
  | some q=>
   exfalso;have j:=QaY hl
   have d:o∈u.map (·.1):=by
    rw [←g.names]; exact List.mem_map_of_mem (f:=(·.1)) j
   have r:o∈bx.map (·.1):=by simp only [bx,QiI]; exact l
   rw [List.map_append] at hn;exact (List.nodup_append.1 hn).2.2 o d o r rfl
 have aa: ∀p∈u, ∃q,β p.1=q∧(p.1,q)∈(q1++q2)++q3∧(∀b∈blkq q,b∈(F1++F2)++F3)∧OwnO w S q p.2:=by
  intro p m;obtain ⟨q,d,r,y⟩:=g.mem p m;exact ⟨q,af _ d,d,r,y⟩
 have z: ∀p∈bx, ∃cs,p.2= .box cs∧ ∃ks b base,(p.1,ks)∈s.boxes∧ks.length=cs.length∧β p.1=some (b,base)∧B p.1=some (.box b base):=by
  intro p m;obtain ⟨cs,k,ks,b,base,c,e,d,r,y,_⟩:=i2 p m;exact ⟨cs,k,ks,b,base,d,r,a7 p.1 b base (List.mem_map_of_mem (f:=(·.1)) d) y,y⟩
 have a0: ∀b,Own β (mk nt s x).H b→b∈(F1++F2)++F3∨ ∃o base,B o=some (.box b base):=by
  rintro b ⟨o,ob,p,l,_,hb,hf⟩;rcases List.mem_append.1 (v o ob l) with j | j
  ·obtain ⟨q,d,r,y,_⟩:=aa _ j;simp only at d;refine .inl (y b ?_);rw [←d,hb]; exact Qbs hf
  ·obtain ⟨cs,k,ks,b',base,_,_,d,r⟩:=z _ j;simp only at d r k;subst k;rw [hb] at d;cases d;rw [Qdf hf];exact .inr ⟨o,base,r⟩
 have aq: ∀o b base,B o=some (.box b base)→β o=some (b,base)∧ ∃cs,look (mk nt s x).H o=some (.box cs):=by
  intro o b base l;have j:=(hB o b base l).1;refine ⟨a7 o b base j l,?_⟩;have:o∈bx.map (·.1):=by simp only [bx,QiI]; exact j
  obtain ⟨p,m,rfl⟩:=List.mem_map.1 this;obtain ⟨cs,k,_⟩:=z p m;exact ⟨cs,by rw [ac p (List.mem_append_right _ m),k]⟩
 have ar: ∀o q n,B o=some (.row q n)→β o=q∧ ∃e t xs,look (mk nt s x).H o=some (.row e t xs)∧xs.length=n:=by
  intro o q n l;have:o∈(mkW s.rows x.2.2).map (·.1):=by rw [QmC]; exact hBr o q n l
  obtain ⟨p,m,rfl⟩:=List.mem_map.1 this;obtain ⟨q',e,t,xs,d,r,y⟩:=i3 p m;rw [l] at y;simp only [Oie,Pl.row.injEq] at y;obtain ⟨rfl,rfl⟩:=y;exact ⟨af (p.1,q) (List.mem_append_right _ d),e,t,xs,by rw [ac p (by simp [u,m]),r],rfl⟩
 have ai:Agree S Q B w (RO Z β (mk nt s x).H) β (mk nt s x).H:=by
  refine ⟨aq,ar,?_,?_⟩
  ·intro b hb l;have:=hQ b hb;rcases a0 b l with h | ⟨o,base,h⟩
   ·exact this.1 h
   ·exact this.2 o base h
  ·refine Mon.sub fun b hb hs=>?_
   have:=hS b hb hs;refine ⟨this.1,fun l=>?_⟩
   rcases a0 b l with h | ⟨o,base,h⟩
   ·exact this.2.1 h
   ·exact this.2.2 o base h
 have aw: ∀p∈(mkS 500000 s.slots x.1).2,look (mk nt s x).H p.1=some p.2:=fun p m=>ac p (by simp [u,m])
 have ak: ∀p∈(mkB 600000 s.boxes x.2.1).2,look (mk nt s x).H p.1=some p.2:=fun p m=>ac p (by simp [u,m])
 refine ⟨β,hfresh,hwhole,?_,hlaid,?_,hd,hnt,hk,?_,?_,?_,?_⟩
 ·intro o q l;obtain ⟨h9,h⟩:=hN o q l;rcases h with ⟨b,base,rfl,h⟩ | ⟨n,h⟩
  ·obtain ⟨k,cs,e2⟩:=aq o b base h;exact ⟨k,by rw [e2]; rfl,h9⟩
  ·obtain ⟨k,e,t,xs,e2,_⟩:=ar o q n h;exact ⟨k,by rw [e2]; rfl,h9⟩
 ·intro o cs b base l h9 hb;rcases List.mem_append.1 (v o _ l) with j | j
  ·obtain ⟨q,d,r,y,h4⟩:=aa _ j;simp only at d;rw [hb] at d;subst d;obtain ⟨_,_,_,k,_⟩:=h4;cases k; rfl
  ·obtain ⟨bd,k,ks,b',base',h0,hl,d,r⟩:=z _ j;simp only at d r;rw [hb] at d;cases d;exact hB0 o _ _ r h9
 ·intro o ob p b l _ hb hf;rcases List.mem_append.1 (v o ob l) with j | j
  ·obtain ⟨q,d,r,y,h4⟩:=aa _ j;simp only at d;have:=hM b (y b (by rw [←d,hb]; exact Qbs hf))
   exact ⟨Qpi this.1,this.2⟩
  ·obtain ⟨cs,k,ks,b',base,h0,hl,d,r⟩:=z _ j;simp only at d r k;subst k;rw [hb] at d;cases d;rw [Qdf hf];have:=hB o b' base r;exact ⟨fun i hi=>this.2.2.2 ks h0 i (by omega),this.2.2.1⟩
 ·intro o o' ob a8 p p' b l _ a6 _ hb au hf av;rcases List.mem_append.1 (v o ob l) with j | j
  ·obtain ⟨q,d,r,y,_⟩:=aa _ j;simp only at d r;have a5:b∈blkq q:=by rw [←d,hb]; exact Qbs hf
   have bh:=y b a5;rcases List.mem_append.1 (v o' a8 a6) with hm' | hm'
   ·obtain ⟨q',ah,ap,a4,_⟩:=aa _ hm';simp only at ah ap;have:=g.inj hF _ r _ ap b a5 (by simp only; rw [←ah,au]; exact Qbs av)
    exact (Prod.mk.inj this).1
   ·obtain ⟨cs,e0,ks,b2,base,_,_,k,e2⟩:=z _ hm';simp only at e0 k e2;subst e0;rw [au] at k;cases k;obtain rfl:=Qdf av;exact absurd bh (hB o' _ base e2).2.1
  ·obtain ⟨cs,e0,ks,b2,base,_,_,k,e2⟩:=z _ j;simp only at e0 k e2;subst e0;rw [hb] at k;cases k;obtain rfl:=Qdf hf;rcases List.mem_append.1 (v o' a8 a6) with hm' | hm'
   ·obtain ⟨q',ah,ap,a4,_⟩:=aa _ hm';simp only at ah ap;exact absurd (a4 _ (by rw [←ah,au]; exact Qbs av)) (hB o _ base e2).2.1
   ·obtain ⟨bd,a3,bw,b3,base',_,_,e3,e4⟩:=z _ hm';simp only at a3 e3 e4;subst a3;rw [au] at e3;cases e3;obtain rfl:=Qdf av;exact hBi o o' _ base base' e2 e4
 ·intro o ob l;rcases List.mem_append.1 (v o ob l) with j | j
  ·obtain ⟨q,d,r,y,h4⟩:=aa _ j;simp only at d h4;refine OwnO.or (by rw [d]; exact h4) ai.data fun cs hc=>?_
   subst hc;rcases List.mem_append.1 j with j | j
   ·rcases List.mem_append.1 j with j | j
    ·exact (k1 ai aw (fun p m=>af p (by simp [m]))).2 _ j cs rfl
    ·exact (k2 ai ak (fun p m=>af p (by simp [m]))).2 _ j cs rfl
   ·obtain ⟨_,_,_,_,_,k,_⟩:=i3 _ j;cases k
  ·exact (k2 ai ak (fun p m=>af p (by simp [m]))).1 (o,ob) j
 ·intro i sl hi;exact (k1 ai aw (fun p m=>af p (by simp [m]))).1 (i,sl) (QaY hi)
end
section
open Go Go.RowKit
variable {w w0:World} {S S' Q Z:Nat→Prop} {M:Nat→Nat→Prop} {N:Nat→Option (Option (Nat×Nat))} {B B':Nat→Option Pl} {a:Act} {σ:St} {β:Qr} {H:Heap} {fr l:List Nat}
theorem QrA {bs:List Nat} (hB: ∀o∈bs,B o=B' o) {c:CK} {x:c.den} {v:Value} {F:List Nat} (h:Qds w S Q B c x v F) (hp:ptrC bs c=true):Qds w S Q B' c x v F:=by
 cases c with
 | ptr o g=>
  obtain ⟨⟨b,a,d,e⟩,f⟩:=h;simp only [ptrC,List.contains_eq_mem,decide_eq_true_eq] at hp;exact ⟨⟨b,a,by rw [←hB o hp]; exact d,e⟩,f⟩
 | ref o=>
  obtain ⟨⟨q,n,d,e⟩,f⟩:=h;simp only [ptrC,List.contains_eq_mem,decide_eq_true_eq] at hp;exact ⟨⟨q,n,by rw [←hB o hp]; exact d,e⟩,f⟩
 | _=>exact h
theorem QhD {bs:List Nat} (hB: ∀o∈bs,B o=B' o): ∀{cs:List CK} {x:denC cs} {vs:List Value} {F:List Nat},QbC w S Q B cs x vs F→cs.all (ptrC bs)=true→QbC w S Q B' cs x vs F
 | [],_,_,_,h,_=>h
 | c::r,_,_,_,⟨v,vs',F1,F2,h1,h2,h3,h4⟩,hp=>by
  simp only [List.all_cons,Bool.and_eq_true] at hp;exact ⟨v,vs',F1,F2,h1,h2,QrA hB h3 hp.1,QhD hB h4 hp.2⟩
theorem QxK {bs:List Nat} (hB: ∀o∈bs,B o=B' o) {k:VK} {x:k.den} {v:Value} {F:List Nat} (h:VKR w S Q B k x v F) (hp:ptrV bs k=true):VKR w S Q B' k x v F:=by
 cases k with
 | b f=>simp [ptrV] at hp
 | g f=>obtain ⟨i,e,h⟩:=h; exact ⟨i,e,QhD hB h hp⟩
 | s c=>
  by_cases a: ∃t,c= .dat t
  ·obtain ⟨t,rfl⟩:=a; exact h
  ·have d: ∀t,c≠ .dat t:=fun t e=>a ⟨t,e⟩
   exact (QiU d).2 (QrA hB ((QiU d).1 h) hp)
def QcD:Ob→Bool
 | .row _ _ _=>true
 | .map _=>true
 | _=>false
def Rows (H:Heap) (l:List Nat):Prop:= ∀o∈l, ∃ob,look H o=some ob∧QcD ob=true
theorem QN {ob:Ob} (h:QcD ob=true):live ob=true:=by cases ob <;> first | rfl | cases h
theorem QiM {ob:Ob} {b cap:Nat} (h:QcD ob=true) (hm:mayW M b cap ob): ∀i,M b i:=by
 cases ob <;> first | exact hm | cases h
theorem QhO {o:Nat} {ob:Ob} (h:look H o=some ob) (hl:QcD ob=true) (ho:o∉fr):look (frz H fr) o=some ob:=by
 cases ob with
 | row e t b=>rw [QaE (l:=fr) h,if_neg ho]
 | map c=>rw [Qaz (by intro e t b a; rw [h] at a; cases a),h]
 | _=>cases hl
theorem Rows.append {l m:List Nat} (h:Rows H l) (h':Rows H m):Rows H (l++m):=fun o a=>by
 rcases List.mem_append.1 a with a | a
 ·exact h o a
 ·exact h' o a
theorem Qll {c:CK} {s:S1} {x:c.den} {l:List Nat} (h:unC H c s=some (x,l)):Rows H l:=by
 intro o a;cases c with
 | own e t=>
  simp only [unC] at h;split at h
  ·simp only [Oie,Pmi] at h; rw [←h.2] at a; simp at a
  ·rename_i d;split at h
   ·rename_i g j k b;split at h
    ·split at h
     ·simp only [Oie,Pmi] at h;rw [←h.2] at a;simp only [List.mem_singleton] at a;subst a;exact ⟨_,b,rfl⟩
     ·cases h
    ·cases h
   ·cases h
  ·cases h
 | vw e t=>
  simp only [unC] at h;split at h
  ·cases h
  split at h
  ·simp only [Oie,Pmi] at h; rw [←h.2] at a; simp at a
  all_goals first | (cases h; done) | skip
  all_goals
   split at h
   ·rename_i g j k b;split at h
    ·split at h
     ·simp only [Oie,Pmi] at h;rw [←h.2] at a;simp only [List.mem_singleton] at a;subst a;exact ⟨_,b,rfl⟩
     ·cases h
    ·cases h
   ·cases h
 | dat t=>
  simp only [unC] at h;split at h
  ·simp only [Oie,Pmi] at h; rw [←h.2] at a; simp at a
  ·cases h
 | ptr d m=>
  simp only [unC] at h;split at h
  ·split at h
   ·split at h
    ·simp only [Oie,Pmi] at h; rw [←h.2] at a; simp at a
    ·cases h
   ·cases h
  ·cases h
 | ref d=>
  simp only [unC] at h;split at h
  ·split at h
   ·split at h
    ·simp only [Oie,Pmi] at h; rw [←h.2] at a; simp at a
    ·cases h
   ·cases h
  ·cases h
 | pd t=>
  simp only [unC] at h;split at h
  ·split at h
   ·simp only [Oie,Pmi] at h; rw [←h.2] at a; simp at a
   ·cases h
  ·cases h
 | fn f p=>
  simp only [unC] at h;split at h
  ·split at h
   ·split at h
    ·simp only [Oie,Pmi] at h; rw [←h.2] at a; simp at a
    ·cases h
   ·cases h
  ·cases h
 | mp=>
  simp only [unC] at h;split at h
  ·split at h
   ·rename_i n i;simp only [Oie,Pmi] at h;rw [←h.2] at a;simp only [List.mem_singleton] at a;subst a;exact ⟨_,i,rfl⟩
   ·cases h
  ·cases h
 | bx t=>simp [unC] at h
 | any=>simp only [unC,Oie,Pmi] at h; rw [←h.2] at a; simp at a
theorem Qcs: ∀{cs:List CK} {ss:List S1} {x:denC cs} {l:List Nat},unCs H cs ss=some (x,l)→Rows H l∧ss.length=cs.length
 | [],[],_,_,h=>by
  simp only [unCs,Oie,Pmi] at h;rw [←h.2]; exact ⟨fun o ho=>by simp at ho,rfl⟩
 | c::r,s::ss,_,_,h=>by
  simp only [unCs] at h;split at h
  ·rename_i hy;split at h
   ·rename_i hz;simp only [Oie,Pmi] at h;rw [←h.2];have:=Qcs hz;exact ⟨(Qll hy).append this.1,by simp [this.2]⟩
   ·cases h
  ·cases h
 | [],_::_,_,_,h=>by simp [unCs] at h
 | _::_,[],_,_,h=>by simp [unCs] at h
theorem Qqd {k:VK} {s:SV} {x:k.den} {l:List Nat} (h:unV H k s=some (x,l)):Rows H l:=by
 cases k with
 | b d=>simp [unV] at h
 | g d=>
  cases s with
  | g m=>exact (Qcs h).1
  | s y=>
   cases y <;> simp only [unV] at h <;> first | (cases h; done) | skip
   split at h
   ·exact (Qcs h).1
   ·cases h
 | s c=>
  by_cases a: ∃t,c= .dat t
  ·obtain ⟨t,rfl⟩:=a;simp only [unV] at h;split at h
   ·simp only [Oie,Pmi] at h;rw [←h.2]; exact fun o j=>by simp at j
   ·cases h
  ·have i: ∀t,c≠ .dat t:=fun t e=>a ⟨t,e⟩
   have f:unV H (.s c) s=(match s with | .s y=>unC H c y | .g _=>none):=by
    cases c <;> first | exact absurd rfl (i _) | (cases s <;> rfl)
   rw [f] at h;cases s with
   | g m=>cases h
   | s y=>exact Qll h
theorem Qqc {env:List (Nat×Sl)}: ∀{ls:List (Nat×VK)} {x:denS ls} {l:List Nat},unS H env ls=some (x,l)→Rows H l
 | [],_,_,h=>by
  simp only [unS,Oie,Pmi] at h;rw [←h.2]; exact fun o ho=>by simp at ho
 | (i,c)::r,_,_,h=>by
  simp only [unS] at h;split at h
  ·split at h
   ·rename_i hy;split at h
    ·rename_i hz;simp only [Oie,Pmi] at h;rw [←h.2];exact (Qqd hy).append (Qqc hz)
    ·cases h
   ·cases h
  ·cases h
theorem Qlk: ∀{ls:List (Nat×List CK)} {x:denB ls} {l:List Nat},unB H ls=some (x,l)→Rows H l∧ ∀p∈ls, ∃ss,look H p.1=some (.box ss)∧ss.length=p.2.length
 | [],_,_,h=>by
  simp only [unB,Oie,Pmi] at h;rw [←h.2]; exact ⟨fun o ho=>by simp at ho,fun p hp=>by simp at hp⟩
 | (i,c)::r,_,_,h=>by
  simp only [unB] at h;split at h
  ·rename_i ss hs;split at h
   ·rename_i hy;split at h
    ·rename_i hz;simp only [Oie,Pmi] at h;rw [←h.2];have h1:=Qcs hy;have a:=Qlk hz;refine ⟨h1.1.append a.1,fun p hp=>?_⟩
     rcases List.mem_cons.1 hp with rfl | hp
     ·exact ⟨ss,hs,h1.2⟩
     ·exact a.2 p hp
    ·cases h
   ·cases h
  ·cases h
def others (H:Heap) (l:List Nat):List Nat:=(H.map (·.1)).filter fun o=>!(l.contains o)
theorem QbJ {l:List Nat}: ∀o,o∈l→o∉others H l:=by
 intro o a h;simp [others] at h;exact h.2 a
theorem QtE {l:List Nat} {o:Nat} {ob:Ob} (h:look H o=some ob) (ho:o∉l):o∈others H l:=by
 simp only [others,List.mem_filter,List.mem_map,List.contains_eq_mem,Bool.not_eq_true',decide_eq_false_iff_not];exact ⟨⟨(o,ob),QaY h,rfl⟩,ho⟩
theorem Qdl {l sh:List Nat}:Cuts H (others H l) l sh:=⟨QbJ,fun o _ e t b h a=>QtE h a⟩
theorem Qnm (hO:Owns w S β (frz H fr)) (hQ: ∀b, ¬Own β (frz H fr) b→Q b) (hc: ∀sh,Cuts H fr l sh) {env:List (Nat×Sl)} (henv: ∀i x,look env i=some x→i< a.tmps.size∧VL w S β (frz H fr) x (a.tmps.getD i undef)):
  ∀{ls:List (Nat×VK)} {x:denS ls} {l1:List Nat},unS H env ls=some (x,l1)→(∀o∈l1,o∈l)→QrU H env l ls=true→ ∀{bs:List Nat},ls.all (fun p=>ptrV bs p.2)=true→QeU H fr bs→Qhj w S Q (Qcu β (frz H fr)) a ls x (blks β l1)
 | [],_,_,h,_,_,_,_,_=>by
  simp only [unS,Oie,Pmi] at h;rw [←h.2]; rfl
 | (i,c)::r,_,_,h,hl,hf,bs,hp,hbs=>by
  simp only [List.all_cons,Bool.and_eq_true] at hp;simp only [unS] at h;split at h
  ·rename_i v hv;split at h
   ·rename_i hy;split at h
    ·rename_i hz;simp only [Oie,Pmi] at h;obtain ⟨h1,h2⟩:=h;subst h1; subst h2;simp only [QrU,hv,Bool.and_eq_true] at hf;obtain ⟨f,e⟩:=henv i _ hv;exact ⟨_,_,QG,f,Qnn hO hQ e hy (fun o d=>hl o (List.mem_append_left _ d)) hf.1 hp.1 hbs (hc _),Qnm hO hQ hc henv hz (fun o d=>hl o (List.mem_append_right _ d)) hf.2 hp.2 hbs⟩
    ·cases h
   ·cases h
  ·cases h
theorem Qnk (hO:Owns w S β (frz H fr)) (hQ: ∀b, ¬Own β (frz H fr) b→Q b) (hc: ∀sh,Cuts H fr l sh):
  ∀{ls:List (Nat×List CK)} {x:denB ls} {l1:List Nat},unB H ls=some (x,l1)→(∀o∈l1,o∈l)→QrT H l ls=true→ ∀{bs:List Nat},ls.all (fun p=>p.2.all (ptrC bs))=true→QeU H fr bs→Qhi w S Q (Qcu β (frz H fr)) ls x (blks β l1)
 | [],_,_,h,_,_,_,_,_=>by
  simp only [unB,Oie,Pmi] at h;rw [←h.2]; rfl
 | (i,c)::r,_,_,h,hl,hf,bs,hp,hbs=>by
  simp only [List.all_cons,Bool.and_eq_true] at hp;simp only [unB] at h;split at h
  ·rename_i ss hs;split at h
   ·rename_i hy;split at h
    ·rename_i hz;simp only [Oie,Pmi] at h;obtain ⟨h1,h2⟩:=h;subst h1; subst h2;simp only [QrT,hs,Bool.and_eq_true] at hf;have a:look (frz H fr) i=some (.box ss):=by rw [Qaz (by intro e t q k; rw [hs] at k; cases k),hs]
     obtain ⟨b,d,n,e,h1,h2,m,f⟩:=hO i _ a;have g:=(Qcs hy).2;rw [g] at m f
     refine ⟨_,_,b,d,n,e,QG,by simp [Qcu,a,h1],h2,m,
      Qch hO hQ (f.mono fun _ _ h=>h.1) hy (fun o j=>hl o (List.mem_append_left _ j)) hf.1 hp.1 hbs (hc _),f.right fun _ _ h=>h.2,Qnk hO hQ hc hz (fun o j=>hl o (List.mem_append_right _ j)) hf.2 hp.2 hbs⟩
    ·cases h
   ·cases h
  ·cases h
theorem Qon {bs:List Nat} (hB: ∀o∈bs,B o=B' o): ∀{ls:List (Nat×VK)} {x:denS ls} {F:List Nat},Qhj w S Q B a ls x F→ls.all (fun p=>ptrV bs p.2)=true→Qhj w S Q B' a ls x F
 | [],_,_,h,_=>h
 | (i,k)::r,_,_,⟨F1,F2,h1,h2,h3,h4⟩,hp=>by
  simp only [List.all_cons,Bool.and_eq_true] at hp;exact ⟨F1,F2,h1,h2,QxK hB h3 hp.1,Qon hB h4 hp.2⟩
theorem Qol {bs:List Nat} (hB: ∀o∈bs,B o=B' o): ∀{ls:List (Nat×List CK)} {x:denB ls} {F:List Nat},Qhi w S Q B ls x F→ls.all (fun p=>p.2.all (ptrC bs))=true→(∀p∈ls,p.1∈bs)→Qhi w S Q B' ls x F
 | [],_,_,h,_,_=>h
 | (o,cs)::r,_,_,⟨F1,F2,b,base,c,e,h1,h2,h3,h4,h5,h6,h7⟩,hp,hm=>by
  simp only [List.all_cons,Bool.and_eq_true] at hp;exact ⟨F1,F2,b,base,c,e,h1,by rw [←hB o (hm (o,cs) (by simp))]; exact h2,h3,h4,QhD hB h5 hp.1,h6,Qol hB h7 hp.2 fun p hp=>hm p (by simp [hp])⟩
theorem Qcp {ob:Ob} {q:Option (Nat×Nat)} (hl:QcD ob=true) (h:OR w S β H q ob):OwnO w S q ob:=by
 cases ob <;> first | exact h | cases hl
theorem Qno (hO:Owns w S β (frz H fr)): ∀{ls:List (Nat×TypeId×Ty)} {x:denW ls},unW H ls=some x→(∀o∈ls.map (·.1),o∉fr)→
  QhF w S (Qcu β (frz H fr)) ls x (blks β (ls.map (·.1)))∧ ∀o∈ls.map (·.1), ∃e t xs,look H o=some (.row e t xs)
 | [],_,_,_=>⟨rfl,fun o ho=>by simp at ho⟩
 | (o,e,t)::r,_,h,hf=>by
  simp only [unW] at h;split at h
  ·rename_i e' t' xs ho;split at h
   ·rename_i he;split at h
    ·rename_i ys hys;split at h
     ·rename_i y hy;obtain rfl:=Osj h;obtain ⟨c,d⟩:=QV hys;simp only [Ty.slice.injEq] at c;subst c;simp only at d;subst d;have b:=QaE (l:=fr) ho;rw [if_neg (hf o (by simp))] at b
      have f:=Qno hO hy (fun o ho=>hf o (by simp only [List.map_cons,List.mem_cons]; exact .inr ho))
      refine ⟨⟨β o,blks β (r.map (·.1)),?_,by simp [Qcu,b],QbN he (hO o _ b),f.1⟩,fun g a=>?_⟩
      ·simp [blks]
      ·simp only [List.map_cons,List.mem_cons] at a;rcases a with rfl | a
       ·exact ⟨_,_,_,ho⟩
       ·exact f.2 g a
     ·cases h
    ·cases h
   ·cases h
  ·cases h
theorem QrE {bs:List Nat} (hB: ∀o∈bs,B o=B' o): ∀{ls:List (Nat×TypeId×Ty)} {x:denW ls} {F:List Nat},QhF w S B ls x F→(∀p∈ls,p.1∈bs)→QhF w S B' ls x F
 | [],_,_,h,_=>h
 | (o,e,t)::r,_,_,⟨q,F2,h1,h2,h3,h4⟩,hm=>⟨q,F2,h1,by rw [←hB o (hm (o,e,t) (by simp))]; exact h2,h3,QrE hB h4 fun p hp=>hm p (by simp [hp])⟩
theorem QvO {s:Shp} {x:s.den} (hrep:Rep Z M N w0 σ a w) (h:un s σ=some x):Rep Z M N w0 (mk σ.nt s x) a w:=by
 obtain ⟨β,hrep⟩:=hrep;unfold un at h;split at h
 ·rename_i xs l hl;split at h
  ·rename_i xb m hm;split at h
   ·rename_i xw hw;simp only at h;split at h
    ·rename_i hc;obtain rfl:=Osj h;simp only [Bool.and_eq_true] at hc;obtain ⟨⟨⟨⟨⟨⟨h1,h2⟩,h3⟩,h4⟩,h5⟩,h6⟩,h7⟩:=hc
     let n:=s.rows.map (·.1)
     let fr:=others σ.H ((l++m)++n)
     have j:=hrep.frz fr;have hW:=Qno j.owns hw (fun o d=>QbJ o (List.mem_append_right _ d))
     have a5:=((Qqc hl).append (Qlk hm).1).append (m:=n) fun o d=>by obtain ⟨e,t,ys,g⟩:=hW.2 o d; exact ⟨_,g,rfl⟩
     have aw: ∀o∈(l++m)++n, ∃y,look (frz σ.H fr) o=some y∧QcD y=true:=by
      intro o d;obtain ⟨y,g,hl⟩:=a5 o d;exact ⟨y,QhO g hl (QbJ o d),hl⟩
     have ap: ∀o∈n, ∃e t xs,look (frz σ.H fr) o=some (.row e t xs):=by
      intro o d;obtain ⟨e,t,ys,g⟩:=hW.2 o d;exact ⟨e,t,ys,QhO g rfl (QbJ o (List.mem_append_right _ d))⟩
     have a1:=(Qlk hm).2
     have av: ∀p∈s.boxes, ∃ss,look (frz σ.H fr) p.1=some (.box ss)∧ss.length=p.2.length:=by
      intro p u;obtain ⟨ss,z,e2⟩:=a1 p u;exact ⟨ss,by rw [Qaz (by intro e t xs e'; rw [z] at e'; cases e'),z],e2⟩
     have hQ: ∀b, ¬Own β (frz σ.H fr) b→ ¬Own β (frz σ.H fr) b:=fun _ h=>h
     let bs:=s.boxes.map (·.1)++n
     have ax:QeU σ.H fr bs:=by
      intro o d e t xs g;rcases List.mem_append.1 d with d | d
      ·obtain ⟨p,u,rfl⟩:=List.mem_map.1 d;obtain ⟨ss,z,_⟩:=a1 p u;rw [g] at z; cases z
      ·exact QbJ o (List.mem_append_right _ d)
     simp only [Qvy,Bool.and_eq_true] at h3;have hS:=Qnm j.owns hQ (fun sh=>Qdl) j.env hl (fun o d=>List.mem_append_left _ (List.mem_append_left _ d)) h4 h3.1 ax
     have hB:=Qnk j.owns hQ (fun sh=>Qdl) hm (fun o d=>List.mem_append_left _ (List.mem_append_right _ d)) h5 h3.2 ax
     let B:Nat→Option Pl:=fun o=>if o∈bs then Qcu β (frz σ.H fr) o else none
     have au: ∀o∈bs,Qcu β (frz σ.H fr) o=B o:=by intro o d; simp [B,d]
     have al: ∀o b f,B o=some (.box b f)→o∈s.boxes.map (·.1)∧(∃ss,look (frz σ.H fr) o=some (.box ss))∧β o=some (b,f):=by
      intro o b f d;simp only [B] at d;split at d
      ·rename_i r;rcases List.mem_append.1 r with r | r
       ·obtain ⟨p,u,rfl⟩:=List.mem_map.1 r;obtain ⟨ss,z,_⟩:=av p u;refine ⟨List.mem_map_of_mem u,⟨ss,z⟩,?_⟩;simp only [Qcu,z] at d;cases hq:β p.1 with
        | none=>rw [hq] at d; cases d
        | some q=>rw [hq] at d; simp at d; rw [←d.1, ←d.2]
       ·obtain ⟨e,t,ys,g⟩:=ap o r;simp only [Qcu,g] at d;cases d
      ·cases d
     have bb: ∀o q k,B o=some (.row q k)→o∈n:=by
      intro o q k d;simp only [B] at d;split at d
      ·rename_i r;rcases List.mem_append.1 r with r | r
       ·obtain ⟨p,u,rfl⟩:=List.mem_map.1 r;obtain ⟨ss,z,_⟩:=av p u;simp only [Qcu,z] at d;cases hq:β p.1 with
        | none=>rw [hq] at d; cases d
        | some q=>rw [hq] at d; cases d
       ·exact r
      ·cases d
     have hF: ∀b,b∈(blks β l++blks β m)++blks β n↔ ∃o∈(l++m)++n,b∈blkq (β o):=by
      intro b; rw [←QG, ←QG]; exact Qbp
     have ac: ∀o∈(l++m)++n, ∀b,b∈blkq (β o)→ ∃y p,look (frz σ.H fr) o=some y∧QcD y=true∧β o=some p∧foot y p b:=by
      intro o d b v;obtain ⟨y,g,hl⟩:=aw o d;have hO:=Qcp hl (j.obj o y g);cases hq:β o with
      | none=>rw [hq] at v; simp [blkq] at v
      | some p=>
       rw [hq] at v hO;exact ⟨y,p,g,hl,rfl,hO.foot.2 v⟩
     refine QkC (B:=B) j.laid j.fresh j.whole j.defers j.size j.below ?_ (Qon au hS h3.1) (Qol au hB h3.2 (fun p u=>List.mem_append_left _ (List.mem_map_of_mem u)))
      (QrE au hW.1 (fun p u=>List.mem_append_right _ (List.mem_map_of_mem u))) ?_ ?_ ?_ bb ?_ ?_ ?_ ?_ ?_
     ·exact h6
     ·rw [←QG, ←QG];refine QdH (l:=(l++m)++n) ?_ ?_ (fun o d=>d) (Qap h1)
      ·intro o o' b d ae v ai;obtain ⟨y,p,g,hl,u,hf⟩:=ac o d b v;obtain ⟨b0,p',aa,ag,bi,bg⟩:=ac o' ae b ai;exact j.one o o' _ _ p p' b g (QN hl) aa (QN ag) u bi hf bg
      ·intro o d;obtain ⟨y,g,hl⟩:=aw o d;exact (Qcp hl (j.obj o y g)).nodup
     ·intro b v;obtain ⟨o,d,aj⟩:=(hF b).1 v;obtain ⟨y,p,g,hl,u,hf⟩:=ac o d b aj;have ak:=j.hold o _ p b g (QN hl) u hf;exact ⟨QiM hl ak.1,ak.2⟩
     ·intro o b f d;obtain ⟨r,⟨ss,g⟩,v⟩:=al o b f d;have ak:=j.own o _ b f g rfl v;refine ⟨r,?_,ak.2,?_⟩
      ·intro ao;obtain ⟨o',ae,aj⟩:=(hF b).1 ao;obtain ⟨y,p,aa,ag,u,hf⟩:=ac o' ae b aj;have:=j.one o o' _ _ _ p b g rfl aa (QN ag) v u Qm hf;subst this;rw [g] at aa;cases aa;cases ag
      ·intro cs bf i hi;obtain ⟨bk,z,e2⟩:=av _ bf;simp only at g z e2;rw [g] at z;cases z;exact ak.1 i (by omega)
     ·intro o o' b f ar d ae;obtain ⟨_,⟨ss,g⟩,v⟩:=al o b f d;obtain ⟨_,⟨bk,aa⟩,ai⟩:=al o' b ar ae;exact j.inj o o' _ _ b f ar g rfl aa rfl v ai
     ·intro b _ v;refine ⟨v.1,fun ao=>?_,fun o f d=>?_⟩
      ·obtain ⟨o',ae,aj⟩:=(hF b).1 ao;obtain ⟨y,p,aa,ag,u,hf⟩:=ac o' ae b aj;exact v.2 ⟨o',_,p,aa,QN ag,u,hf⟩
      ·obtain ⟨_,⟨ss,g⟩,ai⟩:=al o b f d;exact v.2 ⟨o,_,_,g,rfl,ai,Qm⟩
     ·intro b v;refine ⟨fun ao=>?_,fun o f d=>?_⟩
      ·obtain ⟨o',ae,aj⟩:=(hF b).1 ao;obtain ⟨y,p,aa,ag,u,hf⟩:=ac o' ae b aj;exact v ⟨o',_,p,aa,QN ag,u,hf⟩
      ·obtain ⟨_,⟨ss,g⟩,ai⟩:=al o b f d;exact v ⟨o,_,_,g,rfl,ai,Qm⟩
     ·intro o b f d h9;obtain ⟨_,⟨ss,g⟩,v⟩:=al o b f d;exact j.bz o ss b f g h9 v
     ·intro o q d;obtain ⟨p1,p2,p3⟩:=hrep.pin o q d;refine ⟨p3,?_⟩;obtain ⟨y,bh⟩:=Option.isSome_iff_exists.1 p2
      have a7:o∈bs:=by
       have:=List.all_eq_true.1 h7 _ (QaY bh);simp only [Bool.or_eq_true,decide_eq_true_eq,List.contains_eq_mem] at this;rcases this with h | h
       ·omega
       ·exact h
      have a0:B o=Qcu β (frz σ.H fr) o:=(au o a7).symm;rcases List.mem_append.1 a7 with r | r
      ·left;obtain ⟨p,u,rfl⟩:=List.mem_map.1 r;obtain ⟨ss,z,_⟩:=av p u;obtain ⟨b,f,c,e,e2,_⟩:=j.obj p.1 _ z;refine ⟨b,f,by rw [←p1,e2],by rw [a0]; simp [Qcu,z,e2]⟩
      ·right;obtain ⟨e,t,ys,g⟩:=ap o r;exact ⟨ys.length,by rw [a0]; simp [Qcu,g,p1]⟩
    ·cases h
   ·cases h
  ·cases h
 ·cases h
end
section
open Go Go.RowKit
def noB:Nat→Option Pl:=fun _=>none
def AggR (w:World) (S Q:Nat→Prop) (B:Nat→Option Pl) (nm:Nat):(cs:List CK)→denC cs→List Value→List Nat→Prop
 | [],_,vs,F=>vs=[]∧F=[]
 | .own e t::r,x,vs,F=> ∃v vs' q F2,vs=v::vs'∧F=blkq q++F2∧B nm=some (.row q x.1.length)∧RowO w S e t x.1 q∧RowV q x.1.length v∧AggR w S Q B (nm+1) r x.2 vs' F2
 | .dat t::r,x,vs,F=> ∃v vs',vs=v::vs'∧Qds w S Q noB (.dat t) x.1 v []∧AggR w S Q B (nm+1) r x.2 vs' F
 | .ptr o f::r,x,vs,F=>False
 | .ref o::r,x,vs,F=>False
 | .pd t::r,x,vs,F=> ∃v vs',vs=v::vs'∧Qds w S Q noB (.pd t) x.1 v []∧AggR w S Q B (nm+1) r x.2 vs' F
 | .fn f ts::r,x,vs,F=> ∃v vs',vs=v::vs'∧Qds w S Q noB (.fn f ts) x.1 v []∧AggR w S Q B (nm+1) r x.2 vs' F
 | .mp::r,x,vs,F=>False
 | .bx _::r,x,vs,F=>False
 | .vw _ _::r,x,vs,F=>False
 | .any::r,x,vs,F=> ∃v vs',vs=v::vs'∧AggR w S Q B (nm+1) r x.2 vs' F
def CwR (w:World) (S:Nat→Prop) (B:Nat→Option Pl) (nm:Nat):(cs:List CK)→Qcv cs→List Value→List Nat→Prop
 | [],_,vs,F=>vs=[]∧F=[]
 | .own e t::r,y,vs,F=> ∃v vs' q F2,vs=v::vs'∧F=blkq q++F2∧RowO w S e t y.1 q∧(∃n,B nm=some (.row q n))∧CwR w S B (nm+1) r y.2 vs' F2
 | .dat _::r,y,vs,F=> ∃v vs',vs=v::vs'∧CwR w S B (nm+1) r y vs' F
 | .ptr _ _::r,y,vs,F=> ∃v vs',vs=v::vs'∧CwR w S B (nm+1) r y vs' F
 | .ref _::r,y,vs,F=> ∃v vs',vs=v::vs'∧CwR w S B (nm+1) r y vs' F
 | .pd _::r,y,vs,F=> ∃v vs',vs=v::vs'∧CwR w S B (nm+1) r y vs' F
 | .fn _ _::r,y,vs,F=> ∃v vs',vs=v::vs'∧CwR w S B (nm+1) r y vs' F
 | .mp::r,y,vs,F=> ∃v vs',vs=v::vs'∧CwR w S B (nm+1) r y vs' F
 | .bx _::r,y,vs,F=> ∃v vs',vs=v::vs'∧CwR w S B (nm+1) r y vs' F
 | .vw _ _::r,y,vs,F=> ∃v vs',vs=v::vs'∧CwR w S B (nm+1) r y vs' F
 | .any::r,y,vs,F=> ∃v vs',vs=v::vs'∧CwR w S B (nm+1) r y vs' F
def Qda (w:World) (S Q:Nat→Prop) (B:Nat→Option Pl) (i:Nat):(ps:List PK)→denP ps→List Value→List Nat→Prop
 | [],_,vs,F=>vs=[]∧F=[]
 | .val t::r,x,vs,F=> ∃v vs',vs=v::vs'∧(∃cs,Val t v cs∧Rp w S t x.1 cs)∧Qda w S Q B (i+1) r x.2 vs' F
 | .ptr t::r,x,vs,F=> ∃v vs',vs=v::vs'∧PtrR w S Q t x.1 v∧Qda w S Q B (i+1) r x.2 vs' F
 | .fn f ts::r,x,vs,F=> ∃v vs',vs=v::vs'∧(∃us,v= .func (.func f) #[] us.toArray∧QlL w S Q ts x.1 us)∧Qda w S Q B (i+1) r x.2 vs' F
 | .box ci _::r,x,vs,F=> ∃v vs' F1 F2 b base c e,vs=v::vs'∧F=F1++F2∧B (9000000+i)=some (.box b base)∧v= .pointer (some ⟨b,base,none⟩)∧w.heap[b]?=some (.cells c e (0,0))∧
   base+ci.length≤c.size∧QbC w S Q noB ci x.1 ((c.toList.drop base).take ci.length) F1∧(∀u∈(c.toList.drop base).take ci.length,u.oneCell'=true)∧Qda w S Q B (i+1) r x.2 vs' F2
 | .row e t::r,x,vs,F=> ∃v vs' q F2,vs=v::vs'∧F=blkq q++F2∧B (9000100+100*i)=some (.row q x.1.length)∧RowO w S e t x.1 q∧RowV q x.1.length v∧Qda w S Q B (i+1) r x.2 vs' F2
 | .agg cs::r,x,vs,F=> ∃v vs' us F1 F2,vs=v::vs'∧F=F1++F2∧v= .agg us.toArray∧AggR w S Q B (9000100+100*i) cs x.1 us F1∧Qda w S Q B (i+1) r x.2 vs' F2
def Qex (w:World) (S:Nat→Prop) (B:Nat→Option Pl) (i:Nat):(ps:List PK)→denQ ps→List Value→List Nat→Prop
 | [],_,vs,F=>vs=[]∧F=[]
 | .val _::r,y,vs,F=> ∃v vs',vs=v::vs'∧Qex w S B (i+1) r y vs' F
 | .ptr _::r,y,vs,F=> ∃v vs',vs=v::vs'∧Qex w S B (i+1) r y vs' F
 | .fn _ _::r,y,vs,F=> ∃v vs',vs=v::vs'∧Qex w S B (i+1) r y vs' F
 | .box ci co::r,y,vs,F=> ∃v vs' F1 F2 b base c e,vs=v::vs'∧F=F1++F2∧v= .pointer (some ⟨b,base,none⟩)∧co.length=ci.length∧w.heap[b]?=some (.cells c e (0,0))∧
   base+co.length≤c.size∧QbC w S (fun _=>False) noB co y.1 ((c.toList.drop base).take co.length) F1∧(∀u∈(c.toList.drop base).take co.length,u.oneCell'=true)∧Qex w S B (i+1) r y.2 vs' F2
 | .row e t::r,y,vs,F=> ∃v vs' q F2,vs=v::vs'∧F=blkq q++F2∧RowO w S e t y.1 q∧(∃n,B (9000100+100*i)=some (.row q n))∧Qex w S B (i+1) r y.2 vs' F2
 | .agg cs::r,y,vs,F=> ∃v vs' us F1 F2,vs=v::vs'∧F=F1++F2∧v= .agg us.toArray∧CwR w S B (9000100+100*i) cs y.1 us F1∧Qex w S B (i+1) r y.2 vs' F2
structure Pre (M:Nat→Nat→Prop) (w:World) (ps:List PK) (S Q:Nat→Prop) (B:Nat→Option Pl) (F:List Nat):Prop where
 laid:Laid M w
 fresh: ∀b,w.heap.size≤b→ ∀i,M b i
 nodup:F.Nodup
 mine: ∀b∈F,(∀i,M b i)∧b< w.heap.size
 box: ∀o b base,B o=some (.box b base)→o∈(QaS 0 ps).map (·.1)∧b∉F∧b< w.heap.size∧ ∀ci,(o,ci)∈QaS 0 ps→ ∀i,i< ci.length→M b (base+i)
 row: ∀o q n,B o=some (.row q n)→o∈(QbB 0 ps).map (·.1)
 inj: ∀o o' b base base',B o=some (.box b base)→B o'=some (.box b base')→o=o'
 data: ∀b,b< w.heap.size→S b→b∉F∧ ∀o base,B o≠some (.box b base)
 ptr: ∀b,Q b→b∉F∧ ∀o base,B o≠some (.box b base)
def after (S:Nat→Prop) (M:Nat→Nat→Prop) (B:Nat→Option Pl) (F:List Nat) (b:Nat):Prop:=(S b∨ ∀i,M b i)∧b∉F∧ ∀o base,B o≠some (.box b base)
def tupV (vs:List Value):Value:=match vs with | [v]=>v | _=> .tuple vs.toArray
def Post (M:Nat→Nat→Prop) (w:World) (S:Nat→Prop) (B:Nat→Option Pl) (cn:Con) (args:List Value) (y:denV cn.rs×denQ cn.ps) (v:Value) (w':World):Prop:=
 Kept M w w'∧ ∃vs F1 F2,v=tupV vs∧VKsR w' (after S M B (F1++F2)) (fun _=>False) noB cn.rs y.1 vs F1∧Qex w' (after S M B (F1++F2)) B 0 cn.ps y.2 args F2∧(F1++F2).Nodup∧
  ∀b∈F1++F2,(∀i,M b i)∧b< w'.heap.size∧ ∀o base,B o≠some (.box b base)
def nlV:Bool→List Value→Prop
 | false,_=>True
 | true,args=> ∃r,args= .slice none 0 0::r
def Qfx (P:Program) (f:FuncId) (cn:Con):Prop:=
 ∀(x:denP cn.ps) (y:denV cn.rs×denQ cn.ps),cn.F x=some y→ ∀(w:World) (args:List Value) (S Q:Nat→Prop) (B:Nat→Option Pl) (M:Nat→Nat→Prop) (F:List Nat),
  Pre M w cn.ps S Q B F→Qda w S Q B 0 cn.ps x args F→nlV cn.nl args→Calls P f args.toArray w fun e w'=> ∃v,e= .returned v∧Post M w S B cn args y v w'
def Qdu (P:Program) (f:FuncId) (cn:Con):Prop:=
 ∀(x:denP cn.ps) (y:denV cn.rs×denQ cn.ps),cn.F x=some y→ ∀(w:World) (args:List Value) (S Q:Nat→Prop) (B:Nat→Option Pl) (M:Nat→Nat→Prop) (F:List Nat),
  Pre M w cn.ps S Q B F→Qda w S Q B 0 cn.ps x args F→nlV cn.nl args→ ∀(o:Oper) (a:Act) (next:Act→World→Prop) (Q':Exit→Act→World→Prop),(∀v w',Post M w S B cn args y v w'→next (a.put o.dst v) w')→
   o.upon P a next Q' ((callFunc f args.toArray).run P w)
theorem Qfx.ok {P:Program} {f:FuncId} {cn:Con} (h:Qfx P f cn) (he: ∀args w,(callFunc f args).run P w= .ok (.enter f args) w):Qdu P f cn:=by
 intro x y j w args S Q B M F i d c o a next l g;rw [he,Oper.upon_enter];refine (h x y j w args S Q B M F i d c).mono fun e k b=>?_
 obtain ⟨v,rfl,b⟩:=b;exact g v k b
theorem QfF {P : Program} {f : FuncId} {fn : Func} (hf : P.funcs[f]? = some fn) (hn : (fn.name == "runtime.NumGoroutine") = false) (hb : fn.body.isSome = true) (args : Array Value) (w : World) : (callFunc f args).run P w = .ok (.enter f args) w := by
 have a : fn.name ≠ "runtime.NumGoroutine" := by simpa using hn
 obtain ⟨c,b⟩:=Option.isSome_iff_exists.1 hb;simp [callFunc,hf,a,b]
def Qci (P:Program) (G:Env):Prop:= ∀p∈G,Qdu P p.1 p.2
theorem QiG: ∀{G:Env} {g:FuncId} {xs:List SV} {cn:Con},Qmw G g xs=some cn→(g,cn)∈G
 | [],_,_,_,h=>by simp [Qmw] at h
 | (k,c)::r,g,xs,cn,h=>by
  simp only [Qmw] at h;split at h
  ·rename_i e;obtain ⟨rfl,_⟩:=e;obtain rfl:=Osj h;simp
  ·exact List.mem_cons_of_mem _ (QiG h)
def bxl (i:Nat):List PK→List SV→List (Nat×Nat×Nat×Nat)
 | .box ci _::r,.s (.p o off)::xs=>(9000000+i,o,off,ci.length)::bxl (i+1) r xs
 | .box _ _::r,_::xs=>bxl (i+1) r xs
 | .val _::r,_::xs=>bxl (i+1) r xs
 | .ptr _::r,_::xs=>bxl (i+1) r xs
 | .fn _ _::r,_::xs=>bxl (i+1) r xs
 | .row _ _::r,_::xs=>bxl (i+1) r xs
 | .agg _::r,_::xs=>bxl (i+1) r xs
 | _,_=>[]
def plR (β:Qr) (H:Heap):S1→Pl
 | .sl o=> .row (β o) (match look H o with | some (.row _ _ xs)=>xs.length | _=>0)
 | _=> .row none 0
def rwC (β:Qr) (H:Heap) (nm:Nat):List CK→List S1→List (Nat×Pl)
 | .own _ _::r,s::ss=>(nm,plR β H s)::rwC β H (nm+1) r ss
 | .dat _::r,_::ss=>rwC β H (nm+1) r ss
 | .ptr _ _::r,_::ss=>rwC β H (nm+1) r ss
 | .ref _::r,_::ss=>rwC β H (nm+1) r ss
 | .pd _::r,_::ss=>rwC β H (nm+1) r ss
 | .fn _ _::r,_::ss=>rwC β H (nm+1) r ss
 | .mp::r,_::ss=>rwC β H (nm+1) r ss
 | .bx _::r,_::ss=>rwC β H (nm+1) r ss
 | .vw _ _::r,_::ss=>rwC β H (nm+1) r ss
 | .any::r,_::ss=>rwC β H (nm+1) r ss
 | _,_=>[]
def rwl (β:Qr) (H:Heap) (i:Nat):List PK→List SV→List (Nat×Pl)
 | .row _ _::r,.s s::xs=>(9000100+100*i,plR β H s)::rwl β H (i+1) r xs
 | .row _ _::r,_::xs=>rwl β H (i+1) r xs
 | .agg cs::r,.g ss::xs=>rwC β H (9000100+100*i) cs ss++rwl β H (i+1) r xs
 | .agg _::r,_::xs=>rwl β H (i+1) r xs
 | .val _::r,_::xs=>rwl β H (i+1) r xs
 | .ptr _::r,_::xs=>rwl β H (i+1) r xs
 | .fn _ _::r,_::xs=>rwl β H (i+1) r xs
 | .box _ _::r,_::xs=>rwl β H (i+1) r xs
 | _,_=>[]
variable {w w0:World} {S S' Q Z:Nat→Prop} {M:Nat→Nat→Prop} {N:Nat→Option (Option (Nat×Nat))} {B:Nat→Option Pl} {a:Act} {σ:St} {β:Qr} {H:Heap} {fr l:List Nat}
theorem Cuts.sub {sh sh':List Nat} (h:Cuts H fr l sh) (hs: ∀o∈sh',o∈sh):Cuts H fr l sh':=⟨h.out,fun o a=>h.shown o (hs o a)⟩
theorem QmG (hO:Owns w S β (frz H fr)) (hc: ∀o,o∈l→o∉fr) {e:TypeId} {t:Ty} {s:S1} {v:Value} {x:List (den t)} {l1:List Nat} (hv:VS w S β (frz H fr) s v) (h:unC H (.own e t) s=some (x,l1)) (hl1: ∀o∈l1,o∈l):
  ∃q,blks β l1=blkq q∧plR β H s= .row q x.length∧RowO w S e t x q∧RowV q x.length v:=by
 simp only [unC] at h;split at h
 ·simp only [Oie,Pmi] at h;obtain ⟨rfl,rfl⟩:=h;simp only [VS] at hv;exact ⟨none,rfl,rfl,.inl ⟨rfl,rfl⟩,hv,rfl⟩
 ·rename_i o;split at h
  ·rename_i j k m d;split at h
   ·rename_i i;split at h
    ·rename_i n g;simp only [Oie,Pmi] at h;obtain ⟨rfl,rfl⟩:=h;obtain ⟨b,c⟩:=QV g;simp only [Ty.slice.injEq] at b;subst b;simp only at c;subst c;have f:=hc o (hl1 o (by simp))
     have a:=QaE (l:=fr) d;rw [if_neg f] at a;simp only [VS,a] at hv;exact ⟨β o,by simp [blks],by simp [plR,d],QbN i (hO o _ a),hv⟩
    ·cases h
   ·cases h
  ·cases h
 ·cases h
theorem Qor {c:CK} (h:aggC c=true):ptrC [] c=true:=by cases c <;> first | rfl | cases h
theorem QlR {cs:List CK} (h:cs.all aggC=true):cs.all (ptrC [])=true:=by
 rw [List.all_eq_true] at h⊢;exact fun c a=>Qor (h c a)
theorem QlS (hO:Owns w S β (frz H fr)) (hQ: ∀b, ¬Own β (frz H fr) b→Q b): ∀{cs:List CK} {ss:List S1} {vs:List Value} {x:denC cs} {l1:List Nat} {nm:Nat},All2 (VS w S β (frz H fr)) ss vs→unCs H cs ss=some (x,l1)→
  (∀o∈l1,o∈l)→Qcx H l cs ss=true→cs.all aggC=true→Cuts H fr l (QL ss)→(∀p∈rwC β H nm cs ss,B p.1=some p.2)→AggR w S Q B nm cs x vs (blks β l1)
 | [],[],_,_,_,_,hv,h,_,_,_,_,_=>by
  cases hv;simp only [unCs,Oie,Pmi] at h;obtain ⟨_,rfl⟩:=h;exact ⟨rfl,rfl⟩
 | c::r,s::ss,_,x,l1,nm,hv,h,hl,hf,a,hc,hB=>by
  simp only [List.all_cons,Bool.and_eq_true] at a;cases hv with
  | cons m h2=>
   simp only [unCs] at h;split at h
   ·rename_i y l2 u;split at h
    ·rename_i z v hz;simp only [Oie,Pmi] at h;obtain ⟨rfl,rfl⟩:=h;simp only [Qcx,Bool.and_eq_true] at hf;rw [Qig] at hc
     have g:(∀p∈rwC β H (nm+1) r ss,B p.1=some p.2)→AggR w S Q B (nm+1) r z _ (blks β v):=fun n=>
      QlS hO hQ h2 hz (fun o d=>hl o (List.mem_append_right _ d)) hf.2 a.2 (hc.sub fun o d=>List.mem_append_right _ d) n
     have k:=QiP hO hQ m u (fun o d=>hl o (List.mem_append_left _ d)) hf.1 (bs:=[]) (Qor a.1) (fun o d=>by simp at d) (hc.sub fun o d=>List.mem_append_left _ d)
     cases c with
     | own e t=>
      obtain ⟨q,j,i,g3,g4⟩:=QmG hO hc.out m u (fun o d=>hl o (List.mem_append_left _ d))
      refine ⟨_,_,q,blks β v,rfl,by rw [QG,j],?_,g3,g4,g fun p a=>hB p (by simp [rwC,a])⟩
      rw [←i]; exact hB (nm,plR β H s) (by simp [rwC])
     | dat t=>
      obtain ⟨j,i⟩:=k;exact ⟨_,_,rfl,⟨j,rfl⟩,by rw [QG,i,List.nil_append]; exact g fun p a=>hB p a⟩
     | ptr o f=>simp [aggC] at a
     | ref o=>simp [aggC] at a
     | mp=>simp [aggC] at a
     | bx t=>simp [aggC] at a
     | vw e t=>simp [aggC] at a
     | pd t=>
      obtain ⟨j,i⟩:=k;exact ⟨_,_,rfl,⟨j,rfl⟩,by rw [QG,i,List.nil_append]; exact g fun p a=>hB p a⟩
     | fn f=>
      obtain ⟨j,i⟩:=k;exact ⟨_,_,rfl,⟨j,rfl⟩,by rw [QG,i,List.nil_append]; exact g fun p a=>hB p a⟩
     | any=>
      have i:blks β l2=[]:=k;exact ⟨_,_,rfl,by rw [QG,i,List.nil_append]; exact g fun p a=>hB p a⟩
    ·cases h
   ·cases h
 | [],_::_,_,_,_,_,_,h,_,_,_,_,_=>by simp [unCs] at h
 | _::_,[],_,_,_,_,_,h,_,_,_,_,_=>by simp [unCs] at h
theorem QoD {fr:List Nat} (hO:Owns w S β (frz H fr)) (hQ: ∀b, ¬Own β (frz H fr) b→Q b) {o b base off:Nat} {cs:List S1} {t:Ty} {y:den t} (ho:look H o=some (.box cs)) (e1:β o=some (b,base)) (hqb:Q b)
  (hsl: ∀o'∈QL (cs.drop off), ∀e t xs,look H o'=some (.row e t xs)→o'∈fr) (hy:boxV H (cs.drop off) t=some y):PtrR w S Q t y (.pointer (some ⟨b,base+off,none⟩)):=by
 have hk:look (frz H fr) o=some (.box cs):=by rw [Qaz (by intro e t xs e'; rw [ho] at e'; cases e'),ho]
 obtain ⟨b',ao,c,e,n,hh,ax,aa⟩:=hO o _ hk;rw [e1] at n;simp only [Oie,Pmi] at n;obtain ⟨rfl,rfl⟩:=n;have ay:c.toList.length=c.size:=Array.length_toList
 have d:(((c.toList.drop base).take cs.length).drop off).length=cs.length-off:=by
  rw [List.length_drop,List.length_take,List.length_drop]; omega
 have f: ∀j,j< cs.length-off→(((c.toList.drop base).take cs.length).drop off)[j]?=c[base+off+j]? :=by
  intro j k;rw [List.getElem?_drop,List.getElem?_take,if_pos (by omega),List.getElem?_drop,Array.getElem?_toList]
  congr 1; omega
 have a:=(aa.mono fun _ _ h=>h.1).drop off
 cases i:mark t with
 | none=>
  have g: ∃r,gat true H t (cs.drop off)=some (y,r):=by
   have m:(match gat true H t (cs.drop off) with | some q=>some q.1 | none=>none)=some y→ ∃r,gat true H t (cs.drop off)=some (y,r):=by
    intro hy;split at hy
    ·rename_i q g; obtain rfl:=Osj hy; exact ⟨q.2,g⟩
    ·cases hy
   cases t with
   | pair p q=>cases p <;> first | exact m hy | cases i
   | _=>exact m hy
  obtain ⟨r,g⟩:=g;obtain ⟨v1,v2,ev,am,_⟩:=Qmp (own:=false) hO (fun _ _ _ h=>h) (by simp) a (QrV (l:=fr) g hsl)
  refine .mk i ⟨b,base+off,v1,rfl,hqb,am,c,e,_,hh,fun j k=>?_⟩
  have x:(v1++v2)[j]?=v1[j]? :=List.getElem?_append_left k;rw [ev] at d;rw [←x, ←ev,f j (by rw [←d,List.length_append]; omega)]
 | some u=>
  obtain rfl:=QeG i;simp only [boxV] at hy;split at hy
  ·rename_i s z r ah;split at hy
   ·rename_i al;split at hy
    ·rename_i z' hz;obtain rfl:=Osj hy;have hl:(cs.drop off).length=cs.length-off:=List.length_drop;rw [ah] at a hl;rw [List.length_cons] at hl;generalize az:((c.toList.drop base).take cs.length).drop off=vs at a f;cases a with
     | @cons _ v _ vs' h1 _=>
      obtain ⟨rfl,x⟩:=QfD hz h1;obtain ⟨b2,ab,ae,rfl,h3,h4,h5⟩:=x.un al;refine ⟨b,base+off,b2,ab,ae,rfl,hqb,⟨c,e,_,hh,fun j k=>?_⟩,hQ b2 h3,h4,h5⟩
      have aj:j=0:=by simpa using k
      subst aj;rw [←f 0 (by omega)]; rfl
    ·cases hy
   ·cases hy
  ·cases hy
theorem QjV {fr bs:List Nat} (hO:Owns w S β (frz H fr)) (hQ: ∀b, ¬Own β (frz H fr) b→Q b) (hQ1: ∀o cs b base,look H o=some (.box cs)→o∉bs→β o=some (b,base)→Q b) (f:FuncId):
  ∀{ts:List Ty} {q:List Cap} {us:List Value} {x:denT ts},All2 (PR w S β (frz H fr)) q us→capD H ts q=some x→q.all (QnC bs)=true→
  (∀o∈Qu H (.s (.fn f q)), ∀e t xs,look H o=some (.row e t xs)→o∈fr)→QlL w S Q ts x us
 | [],[],_,_,.nil,_,_,_=>rfl
 | t::r,c::q,_,x,.cons h hr,hx,hf,hs=>by
  simp only [capD] at hx;split at hx
  ·rename_i y hy;split at hx
   ·rename_i z hz;obtain rfl:=Osj hx;simp only [List.all_cons,Bool.and_eq_true] at hf
    have j:=QjV hO hQ hQ1 f hr hz hf.2 fun o a=>hs o (by
     simp only [Qu,List.flatMap_cons,List.mem_append] at a⊢; exact .inr a)
    cases c with
    | pd s' d=>
     simp only [capV] at hy;obtain ⟨rfl,v⟩:=QfD hy h;exact ⟨_,_,rfl,v.mono id hQ,j⟩
    | p o k=>
     simp only [capV] at hy;split at hy
     ·rename_i cs a;have hk:look (frz H fr) o=some (.box cs):=by rw [Qaz (by intro e t xs l; rw [a] at l; cases l),a]
      simp only [PR,hk] at h;obtain ⟨b,base,m,rfl⟩:=h
      have u: ∀i∈QL (cs.drop k),i∈Qu H (.s (.fn f (.p o k::q))):=by
       intro i g;simp only [Qu,List.flatMap_cons,a,List.mem_append];left;simp only [QL,List.mem_filterMap] at g⊢;obtain ⟨s1,n,s⟩:=g;exact ⟨s1,List.mem_of_mem_drop n,s⟩
      exact ⟨_,_,rfl,QoD hO hQ a m (hQ1 o cs b base a (by simpa [QnC] using hf.1) m) (fun i g=>hs i (u i g)) hy,j⟩
     ·cases hy
   ·cases hx
  ·cases hx
 | [],_::_,_,_,_,h,_,_=>by simp [capD] at h
 | _::_,[],_,_,_,h,_,_=>by simp [capD] at h
theorem QjQ {S0:Nat→Prop} (hO:Owns w S β (frz σ.H fr)) (hO0:Owns w S0 β σ.H) (hS0: ∀t (x:den t) cs,Rp w S0 t x cs→Rp w S t x cs) (hQ: ∀b, ¬Own β (frz σ.H fr) b→Q b) {l bs:List Nat} (hfr: ∀o,o∈l→o∉fr)
  (hQ1: ∀o cs b base,look σ.H o=some (.box cs)→o∉bs→β o=some (b,base)→Q b) (hQ2: ∀o e t xs b cap,look σ.H o=some (.row e t xs)→o∉l→β o=some (b,cap)→Q b):
  ∀{ps:List PK} {xs:List SV} {vs:List Value} {x:denP ps} {l1 b1:List Nat} {i:Nat},All2 (VV w S β (frz σ.H fr)) xs vs→All2 (VV w S0 β σ.H) xs vs→Qbb σ ps xs=some (x,l1,b1)→(∀o∈l1,o∈l)→(∀o∈b1,o∈bs)→
  QfJ σ.H l bs ps xs=true→ps.all QdP=true→Cuts σ.H fr l (QbU σ.H ps xs)→(∀p∈bxl i ps xs, ∃b base,β p.2.1=some (b,base)∧B p.1=some (.box b (base+p.2.2.1)))→(∀p∈rwl β σ.H i ps xs,B p.1=some p.2)→
  Qda w S Q B i ps x vs (blks β l1)
 | [],[],_,_,_,_,_,hv,_,h,_,_,_,_,_,_,_=>by
  cases hv;simp only [Qbb,Oie,Pmi] at h;obtain ⟨_,rfl,_⟩:=h;exact ⟨rfl,rfl⟩
 | k::r,s::ss,_,x,l1,b1,i,hv,hv0,h,hl,hb,hf,n,hc,hB,hR=>by
  simp only [List.all_cons,Bool.and_eq_true] at n;cases hv with
  | @cons _ v _ vs' h1 h2=>
  cases hv0 with
  | cons ba bb=>
   simp only [Qbb] at h;split at h
   ·rename_i y a;split at h
    ·rename_i z hz;simp only [Oie,Pmi] at h;obtain ⟨rfl,rfl,rfl⟩:=h;simp only [QfJ,Bool.and_eq_true] at hf;have aq:Cuts σ.H fr l (Qhb σ.H k s):=hc.sub fun o ho=>by simp only [QbU]; exact List.mem_append_left _ ho
     have ae:(∀p∈bxl (i+1) r ss, ∃b base,β p.2.1=some (b,base)∧B p.1=some (.box b (base+p.2.2.1)))→(∀p∈rwl β σ.H (i+1) r ss,B p.1=some p.2)→Qda w S Q B (i+1) r z.1 vs' (blks β z.2.1):=fun bc bd=>
      QjQ hO hO0 hS0 hQ hfr hQ1 hQ2 h2 bb (b1:=z.2.2) hz (fun o ho=>hl o (List.mem_append_right _ ho)) (fun o ho=>hb o (List.mem_append_right _ ho)) hf.2 n.2 (hc.sub fun o ho=>by simp only [QbU]; exact List.mem_append_right _ ho) bc bd
     have av: ∀o∈y.2.1,o∈l:=fun o ho=>hl o (List.mem_append_left _ ho)
     have aj:Qhb σ.H k s=Qu σ.H s→(Qu σ.H s).all (fun o=>!(l.contains o))=true→ ∀o∈Qu σ.H s, ∀e t xs,look σ.H o=some (.row e t xs)→o∈fr:=by
      intro bn ac o ho e t xs hk;refine aq.shown o (by rw [bn]; exact ho) e t xs hk fun bk=>?_
      have:=List.all_eq_true.1 ac o ho;simp [bk] at this
     cases k with
     | val t=>
      simp only [argD] at a;split at a
      ·rename_i d hd;obtain rfl:=Osj a;exact ⟨v,vs',rfl,Qbv (own:=false) hO (fun _ _ _ h=>h) (by simp) h1 (Qlj hd (aj rfl hf.1)),ae (fun p n=>hB p n) (fun p n=>hR p n)⟩
      ·cases a
     | ptr t=>
      simp only [QfI,Bool.and_eq_true] at hf;simp only [argD] at a
      have go:y.2.1=[]→PtrR w S Q t y.1 v→Qda w S Q B i (.ptr t::r) (y.1,z.1) (v::vs') (blks β (y.2.1++z.2.1)):=by
       intro e1 hh;rw [e1,List.nil_append];exact ⟨v,vs',rfl,hh,ae (fun p n=>hB p n) (fun p n=>hR p n)⟩
      split at a
      ·rename_i t' d;split at a
       ·rename_i d' hd;obtain rfl:=Osj a;obtain ⟨rfl,e5⟩:=QfD hd (QrF h1);exact go rfl (e5.mono id hQ)
       ·cases a
      ·rename_i o ab;split at a
       ·rename_i cs ho;split at a
        ·rename_i d hg;obtain rfl:=Osj a;have hk:look (frz σ.H fr) o=some (.box cs):=by rw [Qaz (by intro e t xs e'; rw [ho] at e'; cases e'),ho]
         obtain ⟨b,base,e1,e2⟩:=VV_p h1 hk
         have ax: ∀o'∈QL (cs.drop ab),o'∈Qu σ.H (.s (.p o ab)):=by
          intro o' ah;simp only [Qu,ho];simp only [QL,List.mem_filterMap] at ah⊢;obtain ⟨s1,bp,bq⟩:=ah;exact ⟨s1,List.mem_of_mem_drop bp,bq⟩
         refine go rfl ?_;rw [e2];exact QoD hO hQ ho e1 (hQ1 o cs b base ho (by simpa using hf.1.2) e1) (fun o' ah=>aj rfl hf.1.1 o' (ax o' ah)) hg
        ·cases a
       ·cases a
      ·rename_i o k ab;split at a
       ·rename_i e t' xs ho;obtain ⟨bj,a⟩:=Qcz a;obtain ⟨d,hd,a⟩:=Obs a;obtain ⟨d',bg,a⟩:=Obs a;obtain rfl:=Osj a;obtain ⟨⟨hk,bh⟩,g,cap,ar,bt⟩:=Qun ba ho;rcases (Qaf bh).1 (hO0 o _ ho) with ⟨hq,_⟩ | ⟨g',bw,c,a8,hq,hh,hs,cc,ce,am,hi⟩
        ·rw [ar] at hq; cases hq
        rw [ar] at hq;simp only [Oie,Pmi] at hq;obtain ⟨rfl,rfl⟩:=hq;obtain ⟨row,a3,bm⟩:=QeW (fun _ _=>Qt) am hd
        obtain ⟨p,m,q,rfl,bl,hm⟩:=Qcr bg a3;have cd:=Qt hm;have bo:=Qt a3;simp only [List.length_append] at bo;have aw:=QaJ (fun _ _=>Qt) am
        have a2:k*sz t'+sz t'≤a8.length:=by
         rw [aw];have:(k+1)*sz t'≤xs.length*sz t':=Nat.mul_le_mul_right _ hk;rw [Nat.add_mul] at this; omega
        refine go rfl <| .mk bj ⟨g,k*sz t'+ab,m,bt,hQ2 o e t' xs g cap ho ?_ ar,hS0 _ _ _ hm,c,e,_,hh,fun j hj=>?_⟩
        ·have:=hf.1.1;simpa [Qu] using this
        ·rw [Nat.add_assoc,hi _ (by omega),bm (ab+j) (by omega),List.append_assoc,List.getElem?_append_right (by omega),bl,Nat.add_sub_cancel_left,List.getElem?_append_left hj]
       ·cases a
      ·cases a
     | fn f ts=>
      simp only [QfI,Bool.and_eq_true] at hf;simp only [argD] at a;split at a
      ·rename_i g q;split at a
       ·rename_i he;subst he;split at a
        ·rename_i d hd;obtain rfl:=Osj a;obtain ⟨us,e,br⟩:=h1;exact ⟨v,vs',rfl,⟨us,e,QjV hO hQ hQ1 g br hd (by simpa using hf.1.2) (aj rfl hf.1.1)⟩,ae (fun p n=>hB p n) (fun p n=>hR p n)⟩
        ·cases a
       ·cases a
      ·cases a
     | box ci co=>
      simp only [QdP,Bool.and_eq_true] at n;simp only [argD] at a;split at a
      ·rename_i o ab;split at a
       ·rename_i cs ho;split at a
        ·rename_i a2;split at a
         ·rename_i q hq;obtain rfl:=Osj a;have hk:look (frz σ.H fr) o=some (.box cs):=by rw [Qaz (by intro e t xs e'; rw [ho] at e'; cases e'),ho]
          obtain ⟨b,base,e1,e2⟩:=VV_p h1 hk;obtain ⟨b',bu,c,e,e3,hh,be,ac⟩:=hO o _ hk;rw [e1] at e3;simp only [Oie,Pmi] at e3;obtain ⟨rfl,rfl⟩:=e3;obtain ⟨b2,bv,e4,e5⟩:=hB (9000000+i,o,ab,ci.length) (by simp [bxl])
          simp only at e4 e5;rw [e1] at e4;simp only [Oie,Pmi] at e4;obtain ⟨rfl,rfl⟩:=e4;obtain ⟨_,_,a1⟩:=Qkx be ac a2
          have a7: ∀u∈(c.toList.drop (base+ab)).take ci.length,u.oneCell'=true:=by
           have:=(ac.drop ab).take ci.length;rw [List.drop_take,List.drop_drop,List.take_take,Nat.min_eq_left (by omega)] at this
           exact this.right fun _ _ h=>h.2
          simp only [QfI,ho] at hf
          have ax: ∀o'∈QL ((cs.drop ab).take ci.length),o'∈Qhb σ.H (.box ci co) (.s (.p o ab)):=by
           intro o' ah;simp only [Qhb,ho];exact ah
          have bf:=Qch hO hQ a1 hq av hf.1 (bs:=[]) (QlR n.1.1) (fun o ho=>by simp at ho) (aq.sub ax)
          exact ⟨v,vs',_,_,b,base+ab,c,e,rfl,QG,e5,e2,hh,by omega,QhD (bs:=[]) (fun o ho=>by simp at ho) bf (QlR n.1.1),a7,
           ae (fun p n=>hB p (by simp [bxl,n])) (fun p n=>hR p n)⟩
         ·cases a
        ·cases a
       ·cases a
      ·cases a
     | row e t=>
      simp only [argD] at a;split at a
      ·rename_i s1;split at a
       ·rename_i q hq;obtain rfl:=Osj a;by_cases hd: ∃t' z,s1= .d t' z
        ·obtain ⟨t',z',rfl⟩:=hd;simp [unC] at hq
        ·obtain ⟨q',g1,g2,g3,g4⟩:=QmG hO hfr ((VV_s fun t z e=>hd ⟨t,z,e⟩).1 h1) hq av
         refine ⟨v,vs',q',blks β z.2.1,rfl,by rw [QG,g1],?_,g3,g4,ae (fun p n=>hB p n) (fun p n=>hR p (by simp [rwl,n]))⟩
         rw [←g2]; exact hR (9000100+100*i,plR β σ.H s1) (by simp [rwl])
       ·cases a
      ·cases a
     | agg cs=>
      simp only [QdP] at n;simp only [argD] at a;split at a
      ·rename_i s1;split at a
       ·rename_i q hq;obtain rfl:=Osj a;obtain ⟨us,e1,ac⟩:=h1;simp only [QfI] at hf;exact ⟨v,vs',us,_,_,rfl,QG,e1,QlS hO hQ ac hq av hf.1 n.1 aq (fun p n=>hR p (by simp [rwl,n])),ae (fun p n=>hB p n) (fun p n=>hR p (by simp [rwl,n]))⟩
       ·cases a
      ·cases a
    ·cases h
   ·cases h
 | [],_::_,_,_,_,_,_,_,_,h,_,_,_,_,_,_,_=>by simp [Qbb] at h
 | _::_,[],_,_,_,_,_,_,_,h,_,_,_,_,_,_,_=>by simp [Qbb] at h
end
section
open Go Go.RowKit
variable {w w' w0:World} {S S' S3 Q Z:Nat→Prop} {M:Nat→Nat→Prop} {N:Nat→Option (Option (Nat×Nat))} {B:Nat→Option Pl} {a:Act} {σ:St} {β:Qr} {H:Heap} {fr l:List Nat}
def QiS (w':World) (S3:Nat→Prop) (β:Qr) (H:Heap) (l1 Fb:List Nat) (p:Nat×Ob):Prop:=
 ∃e e0 t ys xs0,p.2= .row e t ys∧p.1∈l1∧look H p.1=some (.row e0 t xs0)∧xs0.length=ys.length∧RowO w' S3 e t ys (β p.1)∧(∀b∈blkq (β p.1),b∈Fb)∧QbM e0 e=true∧(lent e0=false→lent e=false)
def QlO (w':World) (S':Nat→Prop) (β β':Qr) (H H':Heap) (bl:List (Nat×Nat×Nat×Nat)) (b1:List Nat) (p:Nat×Ob):Prop:=
 ∃cs newc off b base c' e' pn,look H p.1=some (.box cs)∧p.1∈b1∧(pn,p.1,off,newc.length)∈bl∧p.2= .box (Qgb cs off newc)∧off+newc.length≤cs.length∧β p.1=some (b,base)∧
  w'.heap[b]?=some (.cells c' e' (0,0))∧All2 (fun x v=>VS w' S' β' H' x v∧v.oneCell'=true) newc ((c'.toList.drop (base+off)).take newc.length)
theorem QiS.mono {l1 l2 Fb Fb':List Nat} {p:Nat×Ob} (h:QiS w' S3 β H l1 Fb p) (hl: ∀o∈l1,o∈l2) (hF: ∀b∈Fb,b∈Fb'):QiS w' S3 β H l2 Fb' p:=by
 obtain ⟨e,c,t,n,a,d,f,g,i,j,k,l⟩:=h;exact ⟨e,c,t,n,a,d,hl _ f,g,i,j,fun b m=>hF b (k b m),l⟩
theorem QlO.mono {β':Qr} {H':Heap} {bl bl':List (Nat×Nat×Nat×Nat)} {b1 b2:List Nat} {p:Nat×Ob} (h:QlO w' S' β β' H H' bl b1 p) (hl: ∀o∈bl,o∈bl') (hb: ∀b∈b1,b∈b2):QlO w' S' β β' H H' bl' b2 p:=by
 obtain ⟨f,c,d,b,a,e,g,m,i,j,k,l⟩:=h;exact ⟨f,c,d,b,a,e,g,m,i,hb _ j,hl _ k,l⟩
theorem QmK (hfr: ∀o,o∈l→o∉fr) {e:TypeId} {t:Ty} {s:S1} {v:Value} {x ys:List (den t)} {l1:List Nat} (hv:VS w S β (frz H fr) s v) (h:unC H (.own e t) s=some (x,l1)) (hl1: ∀o∈l1,o∈l)
  (hlen:x.length=ys.length) {q:Option (Nat×Nat)} {n:Nat} (hr:RowO w' S3 e t ys q) (hq:plR β H s= .row q n):blks β l1=blkq q∧ ∀p∈reR e t ys s,QiS w' S3 β H l1 (blkq q) p:=by
 simp only [unC] at h;split at h
 ·simp only [Oie,Pmi] at h;obtain ⟨rfl,rfl⟩:=h;simp only [VS] at hv;have:q=none:=by simp only [plR,Pl.row.injEq] at hq; exact hq.1.symm
  subst this;exact ⟨rfl,fun p a=>by simp [reR] at a⟩
 ·rename_i o;split at h
  ·rename_i y z u j;split at h
   ·rename_i g;split at h
    ·rename_i zs m;simp only [Oie,Pmi] at h;obtain ⟨rfl,rfl⟩:=h;obtain ⟨d,f⟩:=QV m;simp only [Ty.slice.injEq] at d;subst d;simp only at f;subst f;have k:=hfr o (hl1 o (by simp))
     have i:=QaE (l:=fr) j;rw [if_neg k] at i;simp only [VS,i] at hv;rw [hlen] at hv;have:β o=q:=by simp only [plR,Pl.row.injEq] at hq; exact hq.1
     refine ⟨by simp [blks,this],fun p a=>?_⟩
     simp only [reR,List.mem_singleton] at a;subst a;exact ⟨_,_,_,ys,u,rfl,by simp,j,hlen,by simp only; rw [this]; exact QbN (QmR (by simp [QbM])) hr,fun b c=>by simp only at c; rw [this] at c; exact c,QmR g,fun r=>Qvc r g⟩
    ·cases h
   ·cases h
  ·cases h
 ·cases h
theorem Qhv (hfr: ∀o,o∈l→o∉fr): ∀{cs:List CK} {ss:List S1} {vs:List Value} {x:denC cs} {y:Qcv cs} {l1 F:List Nat} {nm:Nat},All2 (VS w S β (frz H fr)) ss vs→unCs H cs ss=some (x,l1)→(∀o∈l1,o∈l)→QdM cs x y=true→
  (∀p∈rwC β H nm cs ss,B p.1=some p.2)→CwR w' S3 B nm cs y vs F→ ∃Fb,F=Fb∧ ∀p∈reCs cs y ss,QiS w' S3 β H l1 Fb p
 | [],[],_,_,_,_,F,_,_,_,_,_,_,h=>⟨F,rfl,fun p hp=>by simp [reCs] at hp⟩
 | c::r,s::ss,_,x,y,l1,F,nm,hv,h,hl,hlen,hB,hc=>by
  cases hv with
  | @cons _ v _ vs' h1 h2=>
   simp only [unCs] at h;split at h
   ·rename_i x1 l2 hy;split at h
    ·rename_i x2 l3 hz;simp only [Oie,Pmi] at h;obtain ⟨rfl,rfl⟩:=h;have u: ∀o∈l2,o∈l:=fun o a=>hl o (List.mem_append_left _ a)
     have g: ∀o∈l3,o∈l:=fun o a=>hl o (List.mem_append_right _ a)
     cases c with
     | own e t=>
      obtain ⟨v1,z,q,F2,d,i,e3,j,e5⟩:=hc;simp only [List.cons.injEq] at d;obtain ⟨rfl,rfl⟩:=d;subst i;simp only [QdM,Bool.and_eq_true,beq_iff_eq] at hlen;obtain ⟨n,j⟩:=j;have k:=hB (nm,plR β H s) (by simp [rwC])
      simp only at k;rw [j] at k;have g1:=QmK hfr h1 hy u hlen.1 e3 (Osj k).symm;obtain ⟨Fb,rfl,m⟩:=Qhv hfr h2 hz g hlen.2 (fun p hp=>hB p (by simp [rwC,hp])) e5
      refine ⟨_,rfl,fun p hp=>?_⟩
      simp only [reCs,List.mem_append] at hp;rcases hp with hp | hp
      ·exact (g1.2 p hp).mono (fun o a=>List.mem_append_left _ a) (fun b f=>List.mem_append_left _ f)
      ·exact (m p hp).mono (fun o a=>List.mem_append_right _ a) (fun b f=>List.mem_append_right _ f)
     | _=>
      obtain ⟨v1,z,d,i⟩:=hc;simp only [List.cons.injEq] at d;obtain ⟨rfl,rfl⟩:=d;obtain ⟨Fb,rfl,m⟩:=Qhv hfr h2 hz g hlen (fun p hp=>hB p (by simpa [rwC] using hp)) i
      exact ⟨_,rfl,fun p hp=>(m p hp).mono (fun o a=>List.mem_append_right _ a) (fun b f=>f)⟩
    ·cases h
   ·cases h
 | [],_::_,_,_,_,_,_,_,_,h,_,_,_,_=>by simp [unCs] at h
 | _::_,[],_,_,_,_,_,_,_,h,_,_,_,_=>by simp [unCs] at h
theorem QdT (hO:Owns w S β (frz σ.H fr)) (hfr: ∀o,o∈l→o∉fr): ∀{ps:List PK} {xs:List SV} {vs:List Value} {x:denP ps} {y:denQ ps} {l1 b1 F2:List Nat} {i nm:Nat},
  All2 (VV w S β (frz σ.H fr)) xs vs→Qbb σ ps xs=some (x,l1,b1)→(∀o∈l1,o∈l)→lenQ ps x y=true→(∀p∈rwl β σ.H i ps xs,B p.1=some p.2)→Qex w' S3 B i ps y vs F2→
  ∃qs Fa Fb,Grs w' S3 (outA nm σ.H ps y xs).1 qs Fa∧F2.Perm (Fa++Fb)∧(∀o∈b1, ∃p∈(outA nm σ.H ps y xs).2,p.1=o)∧
   ∀{S':Nat→Prop} {β':Qr} {H':Heap},Agree S3 (fun _=>False) noB w' S' β' H'→(∀p∈(outA nm σ.H ps y xs).1,look H' p.1=some p.2)→(∀p∈qs,β' p.1=p.2)→
    ∀p∈(outA nm σ.H ps y xs).2,QiS w' S3 β σ.H l1 Fb p∨QlO w' S' β β' σ.H H' (bxl i ps xs) b1 p
 | [],[],_,_,_,_,_,_,_,_,hv,h,_,_,_,ho=>by
  simp only [Qbb,Oie,Pmi] at h;obtain ⟨_,rfl,rfl⟩:=h;obtain ⟨_,rfl⟩:=ho;exact ⟨[],[],[],⟨rfl,rfl⟩,by simp,fun o ho=>by simp at ho,fun _ _ _ p c=>by simp [outA] at c⟩
 | k::r,s::ss,_,x,y,l1,b1,F2,i,nm,hv,h,hl,hlen,hR,ho=>by
  cases hv with
  | @cons _ v _ vs' h1 h2=>
   simp only [Qbb] at h;split at h
   ·rename_i m a;split at h
    ·rename_i z hz;simp only [Oie,Pmi] at h;obtain ⟨rfl,rfl,rfl⟩:=h;have a5: ∀o∈m.2.1,o∈l:=fun o ho=>hl o (List.mem_append_left _ ho)
     have ak: ∀o∈z.2.1,o∈l:=fun o ho=>hl o (List.mem_append_right _ ho)
     have ai: ∀{yr:denQ r},m.2.1=[]→m.2.2=[]→lenQ r z.1 yr=true→(∀p∈rwl β σ.H (i+1) r ss,B p.1=some p.2)→(∃v1 aa,v::vs'=v1::aa∧Qex w' S3 B (i+1) r yr aa F2)→ ∃qs Fa Fb,Grs w' S3 (outA nm σ.H r yr ss).1 qs Fa∧F2.Perm (Fa++Fb)∧(∀o∈m.2.2++z.2.2, ∃p∈(outA nm σ.H r yr ss).2,p.1=o)∧
       ∀{S':Nat→Prop} {β':Qr} {H':Heap},Agree S3 (fun _=>False) noB w' S' β' H'→(∀p∈(outA nm σ.H r yr ss).1,look H' p.1=some p.2)→(∀p∈qs,β' p.1=p.2)→
        ∀p∈(outA nm σ.H r yr ss).2,QiS w' S3 β σ.H (m.2.1++z.2.1) Fb p∨QlO w' S' β β' σ.H H' (bxl (i+1) r ss) (m.2.2++z.2.2) p:=by
      intro yr u e2 a2 bg hh;obtain ⟨v1,aa,e3,hh⟩:=hh;simp only [List.cons.injEq] at e3;obtain ⟨rfl,rfl⟩:=e3;rw [u,e2,List.nil_append,List.nil_append];exact QdT hO hfr h2 (l1:=z.2.1) (b1:=z.2.2) hz ak a2 bg hh
     cases k with
     | val t=>
      have hn:m.2.1=[]∧m.2.2=[]:=by
       simp only [argD] at a;split at a
       ·obtain rfl:=Osj a; exact ⟨rfl,rfl⟩
       ·cases a
      exact ai hn.1 hn.2 hlen (fun p c=>hR p (by simpa [rwl] using c)) ho
     | fn f ts=>
      have hn:m.2.1=[]∧m.2.2=[]:=by
       simp only [argD] at a;split at a
       ·split at a
        ·split at a
         ·obtain rfl:=Osj a; exact ⟨rfl,rfl⟩
         ·cases a
        ·cases a
       ·cases a
      exact ai hn.1 hn.2 hlen (fun p c=>hR p (by simpa [rwl] using c)) ho
     | ptr t=>
      have hn:m.2.1=[]∧m.2.2=[]:=by
       simp only [argD] at a;split at a
       ·split at a
        ·obtain rfl:=Osj a; exact ⟨rfl,rfl⟩
        ·cases a
       ·split at a
        ·split at a
         ·obtain rfl:=Osj a; exact ⟨rfl,rfl⟩
         ·cases a
        ·cases a
       ·split at a
        ·obtain ⟨_,a⟩:=Qcz a;obtain ⟨d,hd,a⟩:=Obs a;obtain ⟨d',bv,a⟩:=Obs a;obtain rfl:=Osj a; exact ⟨rfl,rfl⟩
        ·cases a
       ·cases a
      exact ai hn.1 hn.2 hlen (fun p c=>hR p (by simpa [rwl] using c)) ho
     | box ci co=>
      obtain ⟨v1,aa,F3,F4,b,bm,c',e',u,e2,e3,e4,e5,e6,e7,e8,e9⟩:=ho;simp only [List.cons.injEq] at u;obtain ⟨rfl,rfl⟩:=u;subst e2;simp only [argD] at a;split at a
      ·rename_i o bi;split at a
       ·rename_i cs hk;split at a
        ·rename_i bw;split at a
         ·rename_i q hq;obtain rfl:=Osj a;obtain ⟨qs,Fa,Fb,g1,g2,g3,g4⟩:=QdT hO hfr (i:=i+1) (nm:=nm+30) h2 (l1:=z.2.1) (b1:=z.2.2) hz ak hlen (fun p c=>hR p (by simpa [rwl] using c)) e9
          obtain ⟨bj,g5,g6⟩:=QdN nm e7;have bh:look (frz σ.H fr) o=some (.box cs):=by rw [Qaz (by intro e t xs e'; rw [hk] at e'; cases e'),hk]
          obtain ⟨b',a0,be,aq⟩:=VV_p h1 bh;rw [e3] at aq;simp only [Value.pointer.injEq,Oie,Addr.mk.injEq,and_true] at aq;obtain ⟨rfl,rfl⟩:=aq;refine ⟨bj++qs,F3++Fa,Fb,?_,by rw [List.append_assoc]; exact g2.append_left F3,?_,?_⟩
          ·simp only [outA,hk]; exact g5.append g1
          ·intro o' j;simp only [outA,hk];simp only [List.cons_append,List.nil_append,List.mem_cons] at j;rcases j with rfl | j
           ·exact ⟨(o',_),List.mem_cons_self ..,rfl⟩
           ·obtain ⟨p,c,e⟩:=g3 o' j;exact ⟨p,by simp [c],e⟩
          ·intro S' β' H' ha hH g p c;simp only [outA,hk] at hH c;simp only [List.mem_cons] at c;rcases c with rfl | c
           ·right;have ab:=QeH nm co y.1;refine ⟨cs,(mkCs nm co y.1).1,bi,b,a0,c',e',9000000+i,hk,by simp,by simp [bxl,ab,e4],rfl,by rw [ab]; omega,be,e5,?_⟩
            rw [ab];exact (g6 ha (fun p c=>hH p (List.mem_append_left _ c)) (fun p c=>g p (List.mem_append_left _ c))).1.and e8
           ·rcases g4 ha (fun p c=>hH p (List.mem_append_right _ c)) (fun p c=>g p (List.mem_append_right _ c)) p c with h | h
            ·exact .inl (h.mono (fun o ho=>List.mem_append_right _ ho) (fun b g=>g))
            ·exact .inr (h.mono (fun o ho=>by simp [bxl,ho]) (fun b g=>by simp [g]))
         ·cases a
        ·cases a
       ·cases a
      ·cases a
     | row e t=>
      obtain ⟨v1,aa,q,F4,u,e2,e3,e4,e5⟩:=ho;simp only [List.cons.injEq] at u;obtain ⟨rfl,rfl⟩:=u;subst e2;simp only [lenQ,Bool.and_eq_true,beq_iff_eq] at hlen;simp only [argD] at a;split at a
      ·rename_i s1;split at a
       ·rename_i q' hq;obtain rfl:=Osj a
        have bf:VS w S β (frz σ.H fr) s1 v:=by
         by_cases hd: ∃t' z,s1= .d t' z
         ·obtain ⟨t',z',rfl⟩:=hd; simp [unC] at hq
         ·exact (VV_s fun t z e=>hd ⟨t,z,e⟩).1 h1
        obtain ⟨n,e4⟩:=e4;have e6:=hR (9000100+100*i,plR β σ.H s1) (by simp [rwl])
        simp only at e6;rw [e4] at e6;have g0:=QmK hfr bf hq a5 hlen.1 e3 (Osj e6).symm;obtain ⟨qs,Fa,Fb,g1,g2,g3,g4⟩:=QdT hO hfr (i:=i+1) (nm:=nm) h2 (l1:=z.2.1) (b1:=z.2.2) hz ak hlen.2 (fun p c=>hR p (by simp [rwl,c])) e5
        refine ⟨qs,Fa,blkq q++Fb,g1,?_,?_,?_⟩
        ·refine (g2.append_left (blkq q)).trans ?_;rw [←List.append_assoc, ←List.append_assoc];exact List.perm_append_comm.append_right Fb
        ·intro o' j;obtain ⟨p,c,e⟩:=g3 o' j;exact ⟨p,by simp [outA,c],e⟩
        ·intro S' β' H' ha hH g p c;simp only [outA,List.mem_append] at c;rcases c with c | c
         ·exact .inl ((g0.2 p c).mono (fun o ho=>List.mem_append_left _ ho) (fun b g=>List.mem_append_left _ g))
         ·rcases g4 ha hH g p c with h | h
          ·exact .inl (h.mono (fun o ho=>List.mem_append_right _ ho) (fun b g=>List.mem_append_right _ g))
          ·exact .inr (h.mono (fun o ho=>by simp [bxl,ho]) (fun b g=>by simp [g]))
       ·cases a
      ·cases a
     | agg cs=>
      obtain ⟨v1,aa,us,F3,F4,u,e2,e3,e4,e5⟩:=ho;simp only [List.cons.injEq] at u;obtain ⟨rfl,rfl⟩:=u;subst e2;simp only [lenQ,Bool.and_eq_true] at hlen;simp only [argD] at a;split at a
      ·rename_i s1;split at a
       ·rename_i q' hq;obtain rfl:=Osj a;obtain ⟨bl,e6,a9⟩:=h1;rw [e3] at e6;simp only [Value.agg.injEq] at e6;have e7:us=bl:=by simpa using e6
        subst e7;obtain ⟨bu,rfl,g0⟩:=Qhv hfr a9 hq a5 hlen.1 (fun p c=>hR p (by simp [rwl,c])) e4
        obtain ⟨qs,Fa,Fb,g1,g2,g3,g4⟩:=QdT hO hfr (i:=i+1) (nm:=nm) h2 (l1:=z.2.1) (b1:=z.2.2) hz ak hlen.2 (fun p c=>hR p (by simp [rwl,c])) e5
        refine ⟨qs,Fa,F3++Fb,g1,?_,?_,?_⟩
        ·refine (g2.append_left F3).trans ?_;rw [←List.append_assoc, ←List.append_assoc];exact List.perm_append_comm.append_right Fb
        ·intro o' j;obtain ⟨p,c,e⟩:=g3 o' j;exact ⟨p,by simp [outA,c],e⟩
        ·intro S' β' H' ha hH g p c;simp only [outA,List.mem_append] at c;rcases c with c | c
         ·exact .inl ((g0 p c).mono (fun o ho=>List.mem_append_left _ ho) (fun b g=>List.mem_append_left _ g))
         ·rcases g4 ha hH g p c with h | h
          ·exact .inl (h.mono (fun o ho=>List.mem_append_right _ ho) (fun b g=>List.mem_append_right _ g))
          ·exact .inr (h.mono (fun o ho=>by simp [bxl,ho]) (fun b g=>by simp [g]))
       ·cases a
      ·cases a
    ·cases h
   ·cases h
 | [],_::_,_,_,_,_,_,_,_,_,_,h,_,_,_,_=>by simp [Qbb] at h
 | _::_,[],_,_,_,_,_,_,_,_,_,h,_,_,_,_=>by simp [Qbb] at h
end
end Go.Proofs.YtkkljegcnnfanaaGreatDoor.S
