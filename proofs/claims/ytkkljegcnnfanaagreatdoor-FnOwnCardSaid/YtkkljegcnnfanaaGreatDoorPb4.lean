/- Plain laws: what the functions compute, and that both programs compute the same. -/
import Derived.Test.YtkkljegcnnfanaaGreatDoorPb3
set_option linter.unusedVariables false
set_option linter.unusedSimpArgs false
namespace Go.Proofs.YtkkljegcnnfanaaGreatDoor
open Go Go.RowKit S Go.Proofs
set_option maxRecDepth 100000
theorem Qel {p:PolD} {g:Int} (hok:OkPol p) (hg:isG p g=true):1≤(ownL p g).length∧(ownL p g).length≤5:=by
 have:=hok.own1 _ (Qcl hok hg);exact ⟨this.1,this.2.1⟩
theorem own8 (p:PolD) (g:Int):(QbA 0 (ownL p g) QaP).length=8:=by rw [Qem]; rfl
theorem Qmy {p:PolD} {g:Int} (hok:OkPol p) (hg:isG p g=true) {k:Nat} (hk:k< (ownL p g).length):pgAt (pgM p g) k=((ownL p g).getD k 0,7,()):=by
 have h5:=(Qel hok hg).2;unfold pgM;rw [QdN _ _ (own8 p g) (QbJ hok) (fun x hx=>?_),Qhh _ _ _ _ (by show 0+(ownL p g).length≤8; omega),if_pos (by omega),Nat.sub_zero]
 have hx:=QbJ hok x hx;rw [←Bool.not_eq_true,Qdr];have:=hx.2;omega
theorem Qhl {p:PolD} {g:Int} (hok:OkPol p) (hg:isG p g=true) {x:QN} (hx:x∈p.2.1) (h:x.1=g):pgAt (pgM p g) x.2.2.2.1.toNat=(x.2.2.1,3,()):=Qio _ _ (own8 p g) (QbJ hok) (Qhd hok) hx h
theorem QwF {p:PolD} {g:Int} (hok:OkPol p) (hg:isG p g=true) {x:QN} (hx:x∈p.2.1) (h:x.2.1=g):pgAt (pgM p g) x.2.2.2.2.1.toNat=(x.2.2.1,1,()):=Qld _ _ (own8 p g) (QbJ hok) (Qhd hok) hx h
theorem Qfx {p:PolD} {g:Int} (hok:OkPol p) (hg:isG p g=true) {k:Nat} (h0:0≤(pgAt (pgM p g) k).1):(k< (ownL p g).length∧pgAt (pgM p g) k=((ownL p g).getD k 0,7,()))∨
  (∃x∈p.2.1,x.1=g∧x.2.2.2.1=(k:Int)∧pgAt (pgM p g) k=(x.2.2.1,3,()))∨(∃x∈p.2.1,x.2.1=g∧x.2.2.2.2.1=(k:Int)∧pgAt (pgM p g) k=(x.2.2.1,1,())):=by
 have h5:=(Qel hok hg).2;rcases QeH (g:=g) (k:=k) p.2.1 (QbA 0 (ownL p g) QaP) (own8 p g) (QbJ hok) with e | e | e
 ·refine .inl ?_;have e:pgAt (pgM p g) k=pgAt (QbA 0 (ownL p g) QaP) k:=e;rw [e,Qhh _ _ _ _ (by show 0+(ownL p g).length≤8; omega)] at h0⊢
  by_cases c:0≤k∧k< 0+(ownL p g).length
  ·rw [if_pos c] at h0⊢;exact ⟨by omega,by rw [Nat.sub_zero]⟩
  ·rw [if_neg c,Qql] at h0;exact absurd h0 (by decide)
 ·exact .inr (.inl e)
 ·exact .inr (.inr e)
theorem Qfu {p:PolD} {g:Int} {k:Nat} (hk:k< (ownL p g).length):(ownL p g).getD k 0∈ownL p g:=Qaz hk
theorem Qmw {p:PolD} {g:Int} (hok:OkPol p) (hg:isG p g=true) (i j:Nat) (h0:0≤(pgAt (pgM p g) i).1) (he:(pgAt (pgM p g) i).1=(pgAt (pgM p g) j).1):i=j:=by
 have hm:=Qcl hok hg;have nd:=List.pairwise_iff_getElem.1 ((Qlo hok).1 _ hm);have lf:=fun {x:QN} (hx:x∈p.2.1)=>QhM hok hx hm
 have sep:=fun {x:QN} (hx:x∈p.2.1)=>(QbJ hok x hx).1
 rcases Qfx hok hg h0 with ⟨a1,a2⟩ | ⟨x,hx,a1,a2,a3⟩ | ⟨x,hx,a1,a2,a3⟩ <;> rcases Qfx hok hg (k:=j) (by omega) with ⟨b1,b2⟩ | ⟨y,hy,b1,b2,b3⟩ | ⟨y,hy,b1,b2,b3⟩
 ·rw [a2,b2] at he;dsimp only at he;rw [gget a1,gget b1] at he;rcases Nat.lt_trichotomy i j with c | c | c
  ·exact (nd i j a1 b1 c he).elim
  ·exact c
  ·exact (nd j i b1 a1 c he.symm).elim
 ·rw [a2,b3] at he; exact (lf hy (he▸Qfu a1)).elim
 ·rw [a2,b3] at he; exact (lf hy (he▸Qfu a1)).elim
 ·rw [a3,b2] at he; exact (lf hx (he.symm▸Qfu b1)).elim
 ·rw [a3,b3] at he;obtain rfl:=Qeh hok hx hy he;omega
 ·rw [a3,b3] at he;obtain rfl:=Qeh hok hx hy he;exact (sep hx (a1.trans b1.symm)).elim
 ·rw [a3,b2] at he; exact (lf hx (he.symm▸Qfu b1)).elim
 ·rw [a3,b3] at he;obtain rfl:=Qeh hok hx hy he;exact (sep hx (b1.trans a1.symm)).elim
 ·rw [a3,b3] at he;obtain rfl:=Qeh hok hx hy he;omega
theorem Qwn (p:PolD) (g:Int) {k:Nat} (hk:k< 8):pgAt (pgM p g) k∈pgM p g:=Qaz (by rw [Qda]; exact hk)
theorem Qmz {p:PolD} {g:Int} (hok:OkPol p) (hg:isG p g=true) {k:Nat} (hk:k< 8): -1≤(pgAt (pgM p g) k).1∧(pgAt (pgM p g) k).1≤23:=(Qpu hok hg _ (Qwn p g hk)).1
theorem QtI {p:PolD} {g t:Int} (hok:OkPol p) (hg:isG p g=true) (ht:isG p t=true) (hne:t≠g) {P:Int} (h0:0≤P) (hP:P∈ownL p g∨ ∃y∈p.2.1,y.1=g∧y.2.2.1=P): ∀q∈pgM p t,q.1=P→iand .i64 q.2.1 2=0:=by
 intro q hq e;obtain ⟨k,hk,rfl⟩:=List.mem_iff_getElem.1 hq;have ek:(pgM p t)[k]=pgAt (pgM p t) k:=(gget hk).symm;rw [ek] at e⊢;rcases Qfx hok ht (k:=k) (by omega) with ⟨a1,a2⟩ | ⟨x,hx,a1,a2,a3⟩ | ⟨x,hx,a1,a2,a3⟩
 ·rw [a2] at e;have hm:P∈ownL p t:=e▸Qfu a1;rcases hP with hP | ⟨y,hy,c1,c2⟩
  ·exact (Qsb hok hg ht hne hP hm).elim
  ·exact (QhM hok hy (Qcl hok ht) (c2▸hm)).elim
 ·rw [a3] at e;dsimp only at e;rcases hP with hP | ⟨y,hy,c1,c2⟩
  ·exact (QhM hok hx (Qcl hok hg) (e▸hP)).elim
  ·obtain rfl:=Qeh hok hx hy (e.trans c2.symm);exact (hne (a1.symm.trans c1)).elim
 ·rw [a3]; show iand .i64 1 2=0; decide
theorem QuU {l:List TwoD} {m m':List Int} (h:MemW l m m') {P:Int} (h0:0≤P) (hq: ∀q∈l,q.1=P→iand .i64 q.2.1 2=0):pg m' P=pg m P:=by
 unfold pg;apply List.ext_getElem?;intro i;by_cases hi:i< 8
 ·simp only [List.getElem?_take,if_pos hi,List.getElem?_drop];apply Decidable.byContradiction;intro hne;obtain ⟨q,hm,e1,e2⟩:=h _ hne;exact e2 (hq q hm (by rw [e1]; omega))
 ·rw [List.getElem?_eq_none (by simp; omega),List.getElem?_eq_none (by simp; omega)]
theorem QiQ {l:List TwoD} (hl:l.length=8) {k:Nat} (hk:k< 8):pgAt (Qdk l) k=if 0≤(pgAt l k).1 then ((k:Int),(pgAt l k).2) else pgAt l k:=by
 have h1:k< l.length:=by omega
 rw [pgAt,gget (by rw [Qgv]; exact h1),Qre h1,pgAt,gget h1]
theorem Qsm {p:PolD} {g:Int} (hok:OkPol p) (hg:isG p g=true) {m m':List Int} (h: ∀k,k< 8→0≤(pgAt (pgM p g) k).1→pg m (pgAt (pgM p g) k).1=pg m' (k:Nat)):Sim (pgM p g) (Qdk (pgM p g)) m m':=by
 have hl:=Qda p g;have ha:=fun {k:Nat} (hk:k< 8)=>QiQ hl hk
 refine ⟨⟨hl,by rw [Qgv]; exact hl⟩,fun k hk=>?_,fun k hk=>?_,fun k hk=>⟨(Qmz hok hg hk).2,?_⟩,fun i j _ _=>Qmw hok hg i j,fun i j hi hj h0 he=>?_,fun k hk h0=>?_⟩
 ·rw [ha hk]; split <;> rfl
 ·rw [ha hk]; split
  ·rename_i c; exact ⟨fun _=>by dsimp only; omega,fun _=>c⟩
  ·exact Iff.rfl
 ·have:=(Qmz hok hg hk).2;rw [ha hk]; split
  ·dsimp only; omega
  ·exact this
 ·rw [ha hi] at h0 he;rw [ha hj] at he;split at h0
  ·rename_i c;rw [if_pos c] at he;split at he
   ·dsimp only at he; omega
   ·dsimp only at he; omega
  ·rename_i c; exact absurd h0 c
 ·rw [ha hk,if_pos h0]; exact h k hk h0
theorem QtU {s ws:List Int} {k:Nat} {j:Int} (hs:s.length=64) (hk:k< 8) (hw:ws.length=8) (hj:0≤j∧j< 8):pg (Qiv s k ws) j=if j=(k:Int) then ws else pg s j:=by
 obtain ⟨J,rfl⟩: ∃J:Nat,j=(J:Int):=⟨j.toNat,by omega⟩
 unfold pg Qiv;rw [Int.toNat_natCast];apply List.ext_getElem?;intro i;by_cases hi:i< 8
 ·rw [List.getElem?_take,if_pos hi,List.getElem?_drop];by_cases c:J=k
  ·subst c;rw [if_pos rfl,List.getElem?_append_right (by simp; omega),List.length_take,Nat.min_eq_left (by omega),Nat.add_sub_cancel_left,List.getElem?_append_left (by omega)]
  ·rw [if_neg (by omega),List.getElem?_take,if_pos hi,List.getElem?_drop]
   by_cases d:J< k
   ·rw [List.getElem?_append_left (by simp; omega),List.getElem?_take,if_pos (by omega)]
   ·rw [List.getElem?_append_right (by simp; omega),List.length_take,Nat.min_eq_left (by omega),List.getElem?_append_right (by omega),List.getElem?_drop,hw]
    congr 1;omega
 ·rw [List.getElem?_eq_none (by simp; omega)]
  split
  ·rw [List.getElem?_eq_none (by omega)]
  ·rw [List.getElem?_eq_none (by simp; omega)]
def calm (h:QQ):QQ:=(h.1,h.2.1,h.2.2.1,h.2.2.2.1,h.2.2.2.2.1,false,h.2.2.2.2.2.2)
theorem QuB {h k:QQ} (e:calm h=calm k) (er:h.2.2.2.2.2.1=k.2.2.2.2.2.1):h=k:=by
 obtain ⟨a1,a2,a3,a4,a5,a6,a7⟩:=h;obtain ⟨b1,b2,b3,b4,b5,b6,b7⟩:=k;unfold calm at e;simp only [Pmi] at e er;obtain ⟨rfl,rfl,rfl,rfl,rfl,_,rfl⟩:=e;rw [er]
structure Rl (x:QF) (s:QbG) (g:Int):Prop where
 hk:HK x
 hs:QcR s=0
 hg:isG x.1 g=true
 pages:s.2.1=Qdk (pgM x.1 g)
 hart:calm s.1=calm (x.2.2.1.getD g.toNat QY)
 own: ∀k,k< (ownL x.1 g).length→pg x.2.1 ((ownL x.1 g).getD k 0)=pg s.2.2.1 (k:Nat)
 gives: ∀y∈x.1.2.1,y.1=g→pg x.2.1 y.2.2.1=pg s.2.2.1 y.2.2.2.1
theorem QfJ {m:List Int} {g:Int} {j:Int}: ∀{r:List QN} {q:List Int},q.length=64→(∀y∈r,Qev y∧(pg m y.2.2.1).length=8)→0≤j∧j< 8→(∀y∈r,y.2.1=g→y.2.2.2.2.1≠j)→pg (Qfh m g r q) j=pg q j
 | [],_,_,_,_,_=>rfl
 | y::r,q,hq,h1,hj,h2=>by
  have b:=h1 y (by simp)
  rw [Qfh];by_cases c:y.2.1=g
  ·rw [if_pos c,QfJ (QhU hq (by have:=b.1.2.2; omega) b.2) (fun z hz=>h1 z (List.mem_cons_of_mem _ hz)) hj (fun z hz=>h2 z (List.mem_cons_of_mem _ hz)),QtU hq (by have:=b.1.2.2; omega) b.2 hj,if_neg (by have:=h2 y (by simp) c; have:=b.1.2.2; omega)]
  ·rw [if_neg c];exact QfJ hq (fun z hz=>h1 z (List.mem_cons_of_mem _ hz)) hj (fun z hz=>h2 z (List.mem_cons_of_mem _ hz))
theorem Qqr {m:List Int} {g:Int} {x:QN}: ∀{r:List QN} {q:List Int},q.length=64→(∀y∈r,Qev y∧(pg m y.2.2.1).length=8)→r.Pairwise (fun o l=>clash l o=false)→x∈r→x.2.1=g→pg (Qfh m g r q) x.2.2.2.2.1=pg m x.2.2.1
 | y::r,q,hq,h1,h2,hx,hg=>by
  have b:=h1 y (by simp)
  rw [List.pairwise_cons] at h2;have hp:(Qiv q y.2.2.2.2.1.toNat (pg m y.2.2.1)).length=64:=QhU hq (by have:=b.1.2.2; omega) b.2
  rw [Qfh];rcases List.mem_cons.1 hx with rfl | hx
  ·have:=b.1.2.2;rw [if_pos hg,QfJ hp (fun z hz=>h1 z (List.mem_cons_of_mem _ hz)) (by omega) (fun z hz zg ze=>?_),QtU hq (by omega) b.2 (by omega),if_pos (by omega)]
   have:=QhC (h2.1 z hz) (Qdr (x:=x) (g:=g) (k:=x.2.2.2.2.1).2 (.inr ⟨hg,rfl⟩));rw [Qdr.2 (.inr ⟨zg,ze⟩)] at this;cases this
  ·exact Qqr (by split; exact hp; exact hq) (fun z hz=>h1 z (List.mem_cons_of_mem _ hz)) h2.2 hx hg
section
variable {x:QF} {s:QbG} {g:Int}
theorem Rl.lanes (h:Rl x s g): ∀y∈x.1.2.1,Qev y∧(pg x.2.1 y.2.2.1).length=8:=fun y hy=>⟨QbJ h.hk.ok y hy,(Qqx h.hk hy).2.2.1⟩
theorem Rl.sim (h:Rl x s g):Sim (pgM x.1 g) (Qdk (pgM x.1 g)) x.2.1 (Qfh x.2.1 g x.1.2.1 s.2.2.1):=by
 have hok:=h.hk.ok;have hm:s.2.2.1.length=64:=(Qga h.hs).2.2.2;refine Qsm hok h.hg fun k hk h0=>?_
 have keep:(∀y∈x.1.2.1,y.2.1=g→y.2.2.2.2.1≠(k:Int))→pg (Qfh x.2.1 g x.1.2.1 s.2.2.1) ((k:Nat):Int)=pg s.2.2.1 (k:Nat):=fun c=>QfJ hm h.lanes (by omega) c
 rcases Qfx hok h.hg h0 with ⟨a1,a2⟩ | ⟨y,hy,a1,a2,a3⟩ | ⟨y,hy,a1,a2,a3⟩
 ·have h5:=(Qel hok h.hg).2;rw [a2,keep fun y hy _=>by have:=(QbJ hok y hy).2.2; omega]
  exact h.own k a1
 ·rw [a3,keep fun z hz zg ze=>?_]
  ·rw [←a2]; exact h.gives y hy a1
  ·have q1:=Qhl hok h.hg hy a1;have q2:=QwF hok h.hg hz zg;rw [a2] at q1;rw [ze,q1] at q2;exact absurd (congrArg (fun w:TwoD=>w.2.1) q2) (by dsimp only; decide)
 ·rw [a3, ←a2];exact (Qqr hm h.lanes (Qhd hok) hy a1).symm
theorem QgC (x:QF) (g:Int):calm ((QP x).2.2.1.getD g.toNat QY)=calm ((QU x).getD g.toNat QY):=by
 unfold QP;dsimp only;split
 ·unfold Qbc;by_cases e:(QS x).ring.toNat=g.toNat
  ·rw [e];by_cases hl:g.toNat< (QU x).length
   ·rw [QcW hl]; rfl
   ·rw [List.set_eq_of_length_le (by omega)]
  ·rw [QcX e]
 ·rfl
theorem HK.stepP (h:HK x):StepP (pgM x.1 (turnG x)) { (Mc.of (x.2.2.1.getD (turnG x).toNat QY) x.2.1) with ring:= -1,fall:= -1 } (QS x):=by
 have:=(Qvt (Qda x.1 (turnG x)) (Mc.of (x.2.2.1.getD (turnG x).toNat QY) x.2.1) (h.okS.d.2)).1;exact this
theorem HK.stays (h:HK x) (hg:isG x.1 g=true) (hne:turnG x≠g) {P:Int} (h0:0≤P) (hP:P∈ownL x.1 g∨ ∃y∈x.1.2.1,y.1=g∧y.2.2.1=P):pg (QP x).2.1 P=pg x.2.1 P:=
 QuU (l:=pgM x.1 (turnG x)) (m:=x.2.1) (m':=(QS x).m) h.stepP.mem h0 (QtI h.ok hg h.turn.2.2.1 hne h0 hP)
theorem HK.ownP (h:HK x) (hg:isG x.1 g=true) {k:Nat} (hk:k< (ownL x.1 g).length):0≤(ownL x.1 g).getD k 0:=((h.ok.own1 _ (Qcl h.ok hg)).2.2 _ (Qfu hk)).1
theorem Rl.next (h:Rl x s g) (hc:x.2.2.2.2.2.1< 1000000):Rl (QP x) (if turnG x=g then QvL x s g else s) g:=by
 have hok:=h.hk.ok;by_cases ht:turnG x=g
 ·rw [if_pos ht];have e1:(Qiy x s g).1=x.2.2.1.getD g.toNat QY:=QuB h.hart rfl;have e2:(Qiy x s g).2.1=Qdk (pgM x.1 g):=h.pages;have hsim:Sim (pgM x.1 g) (Qdk (pgM x.1 g)) x.2.1 (Qiy x s g).2.2.1:=h.sim
  have key:Like (pgM x.1 g) (Qdk (pgM x.1 g)) (QS x) (Qht x s g):=by
   unfold QS Qht;rw [e1,e2,ht];exact QjW (s:=Mc.of (x.2.2.1.getD g.toNat QY) x.2.1) hsim
  obtain ⟨k1,k2⟩:=key;have eh:(Qht x s g).hart=(QS x).hart:=by rw [k1]; rfl
  refine ⟨h.hk.next hc,Que g h.hk h.hs,h.hg,h.pages,?_,fun k hk=>?_,fun y hy hyg=>?_⟩
  ·rw [QgC];have:=(h.hk.guest h.hg).1;show calm (Qht x s g).hart=_;rw [eh];unfold QU;rw [ht,QcW (by omega)]
  ·have h5:=(Qel hok h.hg).2;have hk:k< (ownL x.1 g).length:=hk;have q:=k2.same k (by omega) (by rw [Qmy hok h.hg hk]; exact h.hk.ownP h.hg hk)
   rw [QiQ (Qda x.1 g) (by omega),Qmy hok h.hg hk,if_pos (by exact h.hk.ownP h.hg hk)] at q
   exact q
  ·have hy:y∈x.1.2.1:=hy;have b:=QbJ hok y hy;have e5:((y.2.2.2.1.toNat:Nat):Int)=y.2.2.2.1:=by have:=b.2.1; omega
   have p0:=(QbO hok y hy).2.1.1;have q:=k2.same y.2.2.2.1.toNat (by have:=b.2.1; omega) (by rw [Qhl hok h.hg hy hyg]; exact p0)
   rw [QiQ (Qda x.1 g) (by have:=b.2.1; omega),Qhl hok h.hg hy hyg,if_pos (by exact p0)] at q
   rw [e5] at q;exact q
 ·rw [if_neg ht];refine ⟨h.hk.next hc,h.hs,h.hg,h.pages,?_,fun k hk=>?_,fun y hy hyg=>?_⟩
  ·rw [QgC];unfold QU;have a:=Qbi.1 h.hg;have b:=Qbi.1 h.hk.turn.2.2.1;rw [QcX (by omega)]
   exact h.hart
  ·have hk:k< (ownL x.1 g).length:=hk;rw [←h.own k hk];exact h.hk.stays h.hg ht (h.hk.ownP h.hg hk) (.inl (Qfu hk))
  ·rw [←h.gives y hy hyg];exact h.hk.stays h.hg ht (QbO hok y hy).2.1.1 (.inr ⟨y,hy,hyg,rfl⟩)
end
structure Shut (p:PolD) (A:Int→Prop):Prop where
 lane: ∀y∈p.2.1,A y.2.1→A y.1
 bell: ∀b∈p.2.2.1,A b.2.1→A b.1
structure Tw (x y:QF) (A:Int→Prop):Prop where
 hx:HK x
 hy:HK y
 pol:x.1=y.1
 slot:x.2.2.2.1=y.2.2.2.1
 left:x.2.2.2.2.1=y.2.2.2.2.1
 clock:x.2.2.2.2.2.1=y.2.2.2.2.2.1
 shut:Shut x.1 A
 hart: ∀g,isG x.1 g=true→A g→x.2.2.1.getD g.toNat QY=y.2.2.1.getD g.toNat QY
 own: ∀g,isG x.1 g=true→A g→ ∀P∈ownL x.1 g,pg x.2.1 P=pg y.2.1 P
 gives: ∀l∈x.1.2.1,A l.1→pg x.2.1 l.2.2.1=pg y.2.1 l.2.2.1
section
variable {x y:QF} {A:Int→Prop} {g:Int}
theorem QfG {m m':List Int}: ∀{l:List Int},(∀P∈l,pg m P=pg m' P)→Qaq m l=Qaq m' l
 | [],_=>rfl
 | a::r,h=>by
  have ih:=QfG (l:=r) fun P hP=>h P (List.mem_cons_of_mem _ hP)
  unfold Qaq at ih⊢;rw [List.flatMap_cons,List.flatMap_cons,h a (by simp),ih]
theorem Qjl {g:Int}: ∀{r:List QN} {P:Int},P∈QaM g true r→ ∃l∈r,l.1=g∧l.2.2.1=P
 | [],_,h=>by simp [QaM] at h
 | l::r,P,h=>by
  simp only [QaM] at h;by_cases c:l.1=g
  ·rw [if_pos c] at h;rcases List.mem_cons.1 h with h | h
   ·exact ⟨l,by simp,c,by rw [h,if_pos trivial]⟩
   ·obtain ⟨z,hz,e⟩:=Qjl h;exact ⟨z,List.mem_cons_of_mem _ hz,e⟩
  ·rw [if_neg c] at h;obtain ⟨z,hz,e⟩:=Qjl h;exact ⟨z,List.mem_cons_of_mem _ hz,e⟩
theorem Tw.turnEq (h:Tw x y A):turnG y=turnG x:=by
 unfold turnG;rw [←h.pol, ←h.slot]
theorem QfK (x:QF) (g:Int) (hne:QbB x=true→(QS x).ring.toNat≠g.toNat):(QP x).2.2.1.getD g.toNat QY=(QU x).getD g.toNat QY:=by
 unfold QP;dsimp only;split
 ·rename_i hr;unfold Qbc;rw [QcX (hne hr)]
 ·rfl
theorem Qdp {g:Int} (h:HK x) (hg:isG x.1 g=true) (hne:turnG x≠g):(QU x).getD g.toNat QY=x.2.2.1.getD g.toNat QY:=by
 have a:=Qbi.1 hg;have b:=Qbi.1 h.turn.2.2.1;unfold QU;rw [QcX (by omega)]
theorem Qnu (h:HK x):(QU x).getD (turnG x).toNat QY=(QS x).hart:=by
 have:=(h.guest h.turn.2.2.1).1;unfold QU;rw [QcW (by omega)]
theorem Tw.sim (h:Tw x y A) (ha:A (turnG x)):Sim (pgM x.1 (turnG x)) (pgM x.1 (turnG x)) x.2.1 y.2.1:=by
 have hok:=h.hx.ok;have ht:=h.hx.turn.2.2.1;have hl:=Qda x.1 (turnG x);refine ⟨⟨hl,hl⟩,fun _ _=>rfl,fun _ _=>Iff.rfl,fun k hk=>⟨(Qmz hok ht hk).2,(Qmz hok ht hk).2⟩,fun i j _ _=>Qmw hok ht i j,fun i j _ _=>Qmw hok ht i j,fun k hk h0=>?_⟩
 rcases Qfx hok ht h0 with ⟨a1,a2⟩ | ⟨l,hl,a1,a2,a3⟩ | ⟨l,hl,a1,a2,a3⟩
 ·rw [a2]; exact h.own _ ht ha _ (Qfu a1)
 ·rw [a3]; exact h.gives l hl (a1▸ha)
 ·rw [a3]; exact h.gives l hl (h.shut.lane l hl (a1▸ha))
theorem Tw.next (h:Tw x y A) (hc:x.2.2.2.2.2.1< 1000000):Tw (QP x) (QP y) A:=by
 have hok:=h.hx.ok;have te:=h.turnEq;have hc':y.2.2.2.2.2.1< 1000000:=by rw [←h.clock]; exact hc
 have slots:QeS x.1.2.2.2.1 x.2.2.2.1 x.2.2.2.2.1=QeS y.1.2.2.2.1 y.2.2.2.1 y.2.2.2.2.1:=by rw [h.pol,h.slot,h.left]
 have ok':=h.hy.ok
 have stay: ∀g,isG x.1 g=true→turnG x≠g→ ∀P,0≤P→(P∈ownL x.1 g∨ ∃l∈x.1.2.1,l.1=g∧l.2.2.1=P)→pg x.2.1 P=pg y.2.1 P→pg (QP x).2.1 P=pg (QP y).2.1 P:=fun g hg hne P h0 hP e=>by
  rw [h.hx.stays hg hne h0 hP,h.hy.stays (by rw [←h.pol]; exact hg) (by rw [te]; exact hne) h0 (by rw [←h.pol]; exact hP)]
  exact e
 have own0: ∀g,isG x.1 g=true→ ∀P∈ownL x.1 g,0≤P:=fun g hg P hP=>((hok.own1 _ (Qcl hok hg)).2.2 P hP).1
 by_cases ha:A (turnG x)
 ·have ht:=h.hx.turn.2.2.1
  have key:Like (pgM x.1 (turnG x)) (pgM x.1 (turnG x)) (QS x) (QS y):=by
   unfold QS;rw [te, ←h.pol, ←h.hart _ ht ha];exact QjW (s:=Mc.of (x.2.2.1.getD (turnG x).toNat QY) x.2.1) (h.sim ha)
  obtain ⟨k1,k2⟩:=key;have eh:(QS y).hart=(QS x).hart:=by rw [k1]; rfl
  have er:(QS y).ring=(QS x).ring:=by rw [k1]
  have eb:QbB y=QbB x:=by unfold QbB; rw [te,er,h.pol]
  have hh: ∀g,isG x.1 g=true→A g→(QU x).getD g.toNat QY=(QU y).getD g.toNat QY:=fun g hg ag=>by
   by_cases e:turnG x=g
   ·subst e;rw [Qnu h.hx, ←te,Qnu h.hy,eh]
   ·rw [Qdp h.hx hg e,Qdp h.hy (by rw [←h.pol]; exact hg) (by rw [te]; exact e)]
    exact h.hart g hg ag
  refine ⟨h.hx.next hc,h.hy.next hc',h.pol,congrArg (·.1) slots,congrArg (·.2) slots,congrArg (· +1) h.clock,h.shut,fun g hg ag=>?_,fun g hg ag P hP=>?_,fun l hl al=>?_⟩
  ·have hg:isG x.1 g=true:=hg;show (if QbB x=true then Qbc (QS x).ring (QU x) else QU x).getD g.toNat QY=(if QbB y=true then Qbc (QS y).ring (QU y) else QU y).getD g.toNat QY
   rw [eb,er];by_cases c:QbB x=true
   ·rw [if_pos c,if_pos c];unfold Qbc;by_cases e:(QS x).ring.toNat=g.toNat
    ·have hlt:=(h.hx.guest hg).1;have hlt':=(h.hy.guest (g:=g) (by rw [←h.pol]; exact hg)).1
     rw [e,QcW (by rw [Qbv]; omega),QcW (by rw [Qbv]; omega),hh g hg ag]
    ·rw [QcX e,QcX e,hh g hg ag]
   ·rw [if_neg c,if_neg c,hh g hg ag]
  ·have hg:isG x.1 g=true:=hg;have hP:P∈ownL x.1 g:=hP;by_cases e:turnG x=g
   ·subst e;obtain ⟨k,hk,ek⟩:=List.mem_iff_getElem.1 hP;have p0:=h.hx.ownP hg hk;have h5:=(Qel hok hg).2;have q:=k2.same k (by omega) (by rw [Qmy hok hg hk]; exact p0)
    rw [Qmy hok hg hk] at q;dsimp only at q;rw [gget hk,ek] at q;exact q
   ·exact stay g hg e P (own0 g hg P hP) (.inl hP) (h.own g hg ag P hP)
  ·have hl:l∈x.1.2.1:=hl;have b:=QbO hok l hl;by_cases e:turnG x=l.1
   ·have q:=k2.same l.2.2.2.1.toNat (by have:=b.2.2.1; omega) (by rw [Qhl hok ht hl e.symm]; exact b.2.1.1)
    rw [Qhl hok ht hl e.symm] at q;exact q
   ·exact stay l.1 b.1.1 e _ b.2.1.1 (.inr ⟨l,hl,rfl,rfl⟩) (h.gives l hl al)
 ·have ring: ∀z:QF,HK z→z.1=x.1→turnG z=turnG x→ ∀g,A g→isG x.1 g=true→QbB z=true→(QS z).ring.toNat≠g.toNat:=fun z hz ez et g ag hg hr e=>by
   have hk:=Qbi.1 (Qho hz hr);have hg':=Qbi.1 hg;have e:(QS z).ring=g:=by omega
   unfold QbB at hr;obtain ⟨b,hb,eb⟩:=List.any_eq_true.1 hr;unfold Qao at eb;simp only [Bool.and_true,Bool.and_eq_true,beq_iff_eq] at eb;rw [ez] at hb;have:=h.shut.bell b hb (by rw [←eb.2,e]; exact ag)
   rw [←eb.1,et] at this;exact ha this
  refine ⟨h.hx.next hc,h.hy.next hc',h.pol,congrArg (·.1) slots,congrArg (·.2) slots,congrArg (· +1) h.clock,h.shut,fun g hg ag=>?_,fun g hg ag P hP=>?_,fun l hl al=>?_⟩
  ·have hg:isG x.1 g=true:=hg;have hne:turnG x≠g:=fun e=>ha (e▸ag)
   have hg':isG y.1 g=true:=by rw [←h.pol]; exact hg
   rw [QfK x g (ring x h.hx rfl rfl g ag hg),QfK y g (ring y h.hy h.pol.symm te g ag hg),Qdp h.hx hg hne,Qdp h.hy hg' (by rw [te]; exact hne)]
   exact h.hart g hg ag
  ·have hg:isG x.1 g=true:=hg;have hP:P∈ownL x.1 g:=hP;exact stay g hg (fun e=>ha (e▸ag)) P (own0 g hg P hP) (.inl hP) (h.own g hg ag P hP)
  ·have hl:l∈x.1.2.1:=hl;have b:=QbO hok l hl;exact stay l.1 b.1.1 (fun e=>ha (e▸al)) _ b.2.1.1 (.inr ⟨l,hl,rfl,rfl⟩) (h.gives l hl al)
end
theorem QfW {α β:Type} {f:Nat→α→Option β}: ∀{m:List α} {i:Nat},(∀j x,x∈m→f j x=none)→scan f i m=none
 | [],_,_=>rfl
 | x::r,i,h=>by
  simp only [scan];rw [h i x (by simp)]
  exact QfW fun j y hy=>h j y (List.mem_cons_of_mem _ hy)
def imgH (own:List Int):Nat→List Int→List Int→List Int
 | _,[],m=>m
 | i,w::r,m=>imgH own (i+1) r (m.set (8*(own.getD (i / 8) 0).toNat+i % 8) (wd w))
def QcJ:List (List Int)→List (List Int)→List Int→List Int
 | own::ro,im::ri,m=>QcJ ro ri (imgH own 0 im m)
 | _,_,m=>m
theorem Qjo (own:List Int): ∀(im:List Int) (i:Nat) (m:List Int),(imgH own i im m).length=m.length
 | [],_,_=>rfl
 | w::r,i,m=>by rw [imgH,Qjo own r]; simp
theorem QhO: ∀(L I:List (List Int)) (m:List Int),(QcJ L I m).length=m.length
 | [],_,_=>by simp [QcJ]
 | _::_,[],_=>by simp [QcJ]
 | own::ro,im::ri,m=>by rw [QcJ,QhO ro ri,Qjo]
theorem Qsk {m:List Int} {i:Nat} {w:Int} (h: ∀x∈m,WW x) (hw:WW w): ∀x∈m.set i w,WW x:=fun x hx=>by
 rcases List.mem_or_eq_of_mem_set hx with hx | rfl
 ·exact h x hx
 ·exact hw
theorem Qjp (own:List Int): ∀(im:List Int) (i:Nat) (m:List Int),(∀x∈m,WW x)→ ∀x∈imgH own i im m,WW x
 | [],_,_,h=>h
 | w::r,i,m,h=>Qjp own r (i+1) _ (Qsk h (Qah w))
theorem Qis: ∀(L I:List (List Int)) (m:List Int),(∀x∈m,WW x)→ ∀x∈QcJ L I m,WW x
 | [],_,_,h=>by simpa [QcJ] using h
 | _::_,[],_,h=>by simpa [QcJ] using h
 | own::ro,im::ri,m,h=>Qis ro ri _ (Qjp own im 0 m h)
def Qij (q:List Int):QQ:=(List.replicate 16 0,0,List.replicate 11 0,false,false,false,0,q,[],())
def QsY (p:PolD) (I J:List (List Int)):QF:=(p,QcJ p.1 I (List.replicate 192 0),J.map Qij,0,(p.2.2.2.1.getD 0 (0,0,())).2.1,0,())
theorem Qtk {q:List Int} (h:OkQ q):hartM (Qij q)=0:=by
 unfold hartM Qij;dsimp only;rw [if_pos ⟨by simp,by simp,by simp⟩,if_pos ⟨by decide,by decide,by decide,Qar.2 h.words,by decide⟩,if_pos ⟨h.len,by simp⟩,if_pos (by decide),if_pos (by decide)]
theorem QlL {p:PolD} (hok:OkPol p):QaV p 0=(0,(p.2.2.2.1.getD 0 (0,0,())).2.1):=by
 unfold QaV;dsimp only;rw [Int.zero_emod,Qoz (Qep hok) hok.plan.1];rfl
theorem Qse (n:Nat): ∀x∈List.replicate n (0:Int),WW x:=fun x hx=>by
 rw [(List.mem_replicate.1 hx).2]; unfold WW; omega
theorem QsZ {p:PolD} {I J:List (List Int)} (hp:polM p=0) (hj:J.length=p.1.length) (hq: ∀q∈J,OkQ q):HK (QsY p I J):=by
 have hok:=QeT hp;refine ⟨hp,⟨?_,?_⟩,?_,fun h hh=>?_,by show (0:Int)≤0∧(0:Int)≤1000000; omega,?_,?_⟩
 ·show QA (QcJ p.1 I (List.replicate 192 0))=0;unfold QA;rw [QhO,if_pos (by simp),if_pos (Qar.2 (Qis _ _ _ (Qse _)))]
 ·show (QcJ p.1 I (List.replicate 192 0)).length=192;rw [QhO]; simp
 ·show (J.map Qij).length=p.1.length;rw [List.length_map]; exact hj
 ·obtain ⟨q,hm,rfl⟩:=List.mem_map.1 (show h∈J.map Qij from hh)
  exact Qtk (hq q hm)
 ·show (0:Int)=(QaV p 0).1;rw [QlL hok]
 ·show (p.2.2.2.1.getD 0 (0,0,())).2.1=(QaV p 0).2;rw [QlL hok]
theorem bdLt {n x:Int} (h:Bd n x) (hn:1≤n):0≤x∧x< n:=by unfold Bd at h; omega
structure OwnI (L:List (List Int)) (page:Int):Prop where
 one: ∀l∈L,1≤l.length∧l.length≤3
 up:L.flatten.Pairwise (· < ·)
 bd: ∀x∈L.flatten,0≤x∧x< page
 top:0≤page∧page≤2+3*(L.length:Int)
theorem OwnI.snoc {L:List (List Int)} {page:Int} (h:OwnI L page) {own:List Int} {K:Nat} (hK:1≤K∧K≤3) (hl:own.length=K) (hu:own.Pairwise (· < ·)) (hb: ∀x∈own,page≤x∧x< page+(K:Int)):OwnI (L++[own]) (page+(K:Int)):=by
 have hp:=h.top;have ef:(L++[own]).flatten=L.flatten++own:=by simp
 refine ⟨fun l hm=>?_,?_,fun x hx=>?_,?_⟩
 ·rcases List.mem_append.1 hm with hm | hm
  ·exact h.one l hm
  ·rw [List.mem_singleton.1 hm]; omega
 ·rw [ef,List.pairwise_append];exact ⟨h.up,hu,fun a ha b hb'=>by have:=(h.bd a ha).2; have:=(hb b hb').1; omega⟩
 ·rw [ef] at hx;rcases List.mem_append.1 hx with hx | hx
  ·have:=h.bd x hx; omega
  ·have:=hb x hx; omega
 ·rw [List.length_append,List.length_singleton]; omega
theorem QkQ: ∀{l seen:List Int},l.Nodup→(∀x∈l,x∉seen)→dupM seen l=false
 | [],_,_,_=>rfl
 | x::r,seen,h,hs=>by
  rw [List.nodup_cons] at h;simp only [dupM,Bool.or_eq_false_iff];refine ⟨by simpa using hs x (by simp),QkQ h.2 fun y hy hm=>?_⟩
  rcases List.mem_append.1 hm with hm | hm
  ·exact hs y (List.mem_cons_of_mem _ hy) hm
  ·rw [List.mem_singleton.1 hm] at hy; exact h.1 hy
theorem OwnI.owns {L:List (List Int)} {page:Int} (h:OwnI L page) (hl:1≤L.length∧L.length≤3):QdQ L=0:=by
 have hp:=h.top
 have e:scan (fun (_:Nat) l=>Go.Proofs.YtkkljegcnnfanaaGreatDoor.own1 l) 0 L=none:=QfW fun _ l hm=>by
  have:=h.one l hm;unfold Go.Proofs.YtkkljegcnnfanaaGreatDoor.own1;rw [if_pos (by omega)]
  refine QfW fun _ x hx=>?_
  have:=h.bd x (List.mem_flatten.2 ⟨l,hm,hx⟩);rw [if_pos (Qee.2 (by omega))]
 unfold QdQ;rw [if_pos hl,e,QkQ (h.up.imp fun h=>Int.ne_of_lt h) (by simp)]
 rfl
theorem Qwq {X p:PolD} {s:SrcD} {page g:Int} (K:Nat) (hp:0≤page∧page≤1000) (hK:K≤10):
  Dr (L_m_8 (((),((),((),(page,(g,(([]:List Int),((K:Int),()))))))),((X,(p,(s,()))),()))) fun o=> ∃own:List Int,o= .inl (((),((),((),(page+(K:Int),(g,(own,())))))),((X,(p,(s,()))),()))∧own.length=K∧own.Pairwise (· < ·)∧ ∀x∈own,page≤x∧x< page+(K:Int):=by
 refine Qaj (fun m u=> ∃own:List Int,u=(((),((),((),(page+(own.length:Int),(g,(own,((m:Int),()))))))),((X,(p,(s,()))),()))∧own.length+m=K∧own.Pairwise (· < ·)∧ ∀x∈own,page≤x∧x< page+(own.length:Int)) ?_ K _ ⟨[],by simp,by simp,by simp,by simp⟩ (by rw [QI]; omega)
 rintro rec m _ ⟨own,rfl,hm,hu,hb⟩ ih;unfold l_m_8;dsimp only;by_cases c:0< m
 ·rw [if_pos (by rw [QC]; omega)]
  refine Dr.guard (by simp; omega) ?_
  rw [Qw (by omega) (by omega),Qw (by omega) (by omega)]
  refine ih (m-1) _ (by omega) ⟨own++[page+(own.length:Int)],?_,by simp; omega,?_,fun x hx=>?_⟩
  ·rw [List.length_append,List.length_singleton,show page+(own.length:Int)+1=page+((own.length+1:Nat):Int) by omega,show ((m:Int)-1)=((m-1:Nat):Int) by omega]
  ·rw [List.pairwise_append];exact ⟨hu,by simp,fun a ha b hb'=>by rw [List.mem_singleton.1 hb']; exact (hb a ha).2⟩
  ·rw [List.length_append,List.length_singleton];rcases List.mem_append.1 hx with hx | hx
   ·have:=hb x hx; omega
   ·rw [List.mem_singleton.1 hx]; omega
 ·obtain rfl:m=0:=by omega
  rw [if_neg (by rw [QC]; omega)]
  have:own.length=K:=by omega
  subst this;exact Dr.ret ⟨own,rfl,rfl,hu,hb⟩
theorem Qwp {X:PolD} {s:SrcD} {k page:Int} (G:Nat) (hG:1≤G∧G≤3) (hp:0≤page∧page≤2) (hs:Sr s k) (hk:k≤1000000):
  Dr (L_m_4 (((),((),((),(page,((G:Int),()))))),((X,((([]:List (List Int)),(([]:List QN),(([]:List TwoD),(([]:List TwoD),())))),(s,()))),()))) fun o=> ∃(L:List (List Int)) (page':Int) (s':SrcD),
   o= .inl (((),((),((),(page',())))),((X,((L,(([]:List QN),(([]:List TwoD),(([]:List TwoD),())))),(s',()))),()))∧Sr s' (k+3)∧L.length=G∧OwnI L page':=by
 have hk0:=hs.pos
 refine Qaj (fun m u=> ∃(L:List (List Int)) (page':Int) (s':SrcD),u=(((),((),((),(page',((m:Int),()))))),((X,((L,(([]:List QN),(([]:List TwoD),(([]:List TwoD),())))),(s',()))),()))∧Sr s' (k+(G:Int)-(m:Int))∧L.length+m=G∧OwnI L page') ?_ G _
  ⟨[],page,s,rfl,hs.le (by omega),by simp,⟨by simp,by simp,by simp,by simp; omega⟩⟩ (by rw [QI]; omega)
 rintro rec m _ ⟨L,pa,s',rfl,hs',hl,hI⟩ ih;unfold l_m_4;dsimp only;have hpa:=hI.top;by_cases c:0< m
 ·rw [if_pos (by rw [QC]; omega)]
  refine (QX hs' (by omega) _).bind fun r6 h6=>?_
  have hb:=bdLt h6.2 (by omega)
  have e:IntKind.i64.wrap (1+(r6.1.1:Int))=((r6.1.1.toNat+1:Nat):Int):=by rw [Qw (by omega) (by omega)]; omega
  rw [e];refine (Qwq (r6.1.1.toNat+1) (by omega) (by omega)).bind fun z hz=>?_
  obtain ⟨own,rfl,ho,hu,hbd⟩:=hz;dsimp only;refine Dr.guard (by simp; omega) ?_
  rw [Qw (by omega) (by omega)]
  refine ih (m-1) _ (by omega) ⟨L++[own],pa+((r6.1.1.toNat+1:Nat):Int),r6.2.1,?_,h6.1.le (by omega),by simp; omega,hI.snoc (by omega) ho hu hbd⟩
  rw [show ((m:Int)-1)=((m-1:Nat):Int) by omega]
 ·obtain rfl:m=0:=by omega
  rw [if_neg (by rw [QC]; omega)]
  exact Dr.ret ⟨L,pa,s',rfl,hs'.le (by omega),by omega,hI⟩
theorem Qvk {X:PolD} {L:List (List Int)} {s:SrcD} {k page:Int} (hL:QdQ L=0) (hl:1≤L.length∧L.length≤3) (hl2: ∀l∈L,l.length≤1048576) (hp:0≤page∧page≤100) (K:Nat) (hK:K≤3) (hs:Sr s k) (hk:k≤1000000):
  Dr (L_m_15 (((),((),((),(page,(((L.length:Nat):Int),((K:Int),())))))),((X,((L,(([]:List QN),(([]:List TwoD),(([]:List TwoD),())))),(s,()))),()))) fun o=> ∃(ls:List QN) (s':SrcD),
   o= .inl (((),((),((),(((L.length:Nat):Int),())))),((X,((L,(ls,(([]:List TwoD),(([]:List TwoD),())))),(s',()))),()))∧Sr s' (k+12)∧ls.length≤3∧QbL (L,ls,[],[],())=none:=by
 have hk0:=hs.pos
 refine Qaj (fun m u=> ∃(ls:List QN) (pa:Int) (s':SrcD),u=(((),((),((),(pa,(((L.length:Nat):Int),((m:Int),())))))),((X,((L,(ls,(([]:List TwoD),(([]:List TwoD),())))),(s',()))),()))∧Sr s' (k+4*(3-(m:Int)))∧ls.length+m≤3∧(0≤pa∧pa+(m:Int)≤103)∧QbL (L,ls,[],[],())=none) ?_ K _
  ⟨[],page,s,rfl,hs.le (by omega),by simp; omega,by omega,rfl⟩ (by rw [QI]; omega)
 rintro rec m _ ⟨ls,pa,s',rfl,hs',hm,hpa,hI⟩ ih;unfold l_m_15;dsimp only;by_cases c:0< m
 ·rw [if_pos (by rw [QC]; omega)]
  refine Dr.guard (by simp; omega) ?_
  refine (QX hs' (by omega) _).bind fun r26 h26=>(QX h26.1 (by omega) _).bind fun r27 h27=>(QX h27.1 (by omega) _).bind fun r28 h28=>(QX h28.1 (by omega) _).bind fun r30 h30=>?_
  have em:((m:Int)-1)=((m-1:Nat):Int):=by omega
  dsimp only [List.nil_append];refine Dr.guard (by simp; omega) ?_
  rw [Qw (n:=pa+1) (by omega) (by omega),Qw (n:=(m:Int)-1) (by omega) (by omega)]
  generalize hx:((r26.1.1,(r27.1.1,(pa,(IntKind.i64.wrap (5+r28.1.1),(IntKind.i64.wrap (5+r30.1.1),()))))):QN)=x;have hlen:(ls++[x]).length=ls.length+1:=by simp
  have skip:Dr (rec (((),((),((),(pa,(((L.length:Nat):Int),((m:Int)-1,())))))),((X,((L,(ls,(([]:List TwoD),(([]:List TwoD),())))),(r30.2.1,()))),()))) fun o=> ∃(ls:List QN) (s':SrcD),
    o= .inl (((),((),((),(((L.length:Nat):Int),())))),((X,((L,(ls,(([]:List TwoD),(([]:List TwoD),())))),(s',()))),()))∧Sr s' (k+12)∧ls.length≤3∧QbL (L,ls,[],[],())=none:=
   ih (m-1) _ (by omega) ⟨ls,pa,r30.2.1,by rw [em],h30.1.le (by omega),by omega,by omega,hI⟩
  refine Dr.step (QiB (L,ls++[x],[],[],()) (by dsimp only; omega) hl2) (Dr.ite (fun _=>?_) fun _=>skip)
  refine Dr.step (Qhu (L,ls++[x],[],[],()) (by dsimp only; omega) hl2 (by dsimp only; omega)) (Dr.ite (fun h0=>?_) fun _=>skip)
  refine ih (m-1) _ (by omega) ⟨ls++[x],pa+1,r30.2.1,by rw [em],h30.1.le (by omega),by omega,by omega,?_⟩
  dsimp only at h0;rw [if_pos (by simp; omega)] at h0
  cases hM:QbL (L,ls++[x],[],[],()) with
  | none=>rfl
  | some c'=>
   rw [hM] at h0;exact absurd (by simpa using h0) (QhN hM)
 ·obtain rfl:m=0:=by omega
  rw [if_neg (by rw [QC]; omega)]
  exact Dr.ret ⟨ls,s',rfl,hs'.le (by omega),by omega,hI⟩
theorem Qvl {X:PolD} {L:List (List Int)} {ls:List QN} {s:SrcD} {k:Int} (hl:1≤L.length∧L.length≤3) (K:Nat) (hK:K≤3) (hs:Sr s k) (hk:k≤1000000):
  Dr (L_m_23 (((),((),((),(((L.length:Nat):Int),((K:Int),()))))),((X,((L,(ls,(([]:List TwoD),(([]:List TwoD),())))),(s,()))),()))) fun o=> ∃(bs:List TwoD) (s':SrcD),
   o= .inl (((),((),((),(((L.length:Nat):Int),())))),((X,((L,(ls,(bs,(([]:List TwoD),())))),(s',()))),()))∧Sr s' (k+6)∧bs.length≤1∧ ∀b∈bs,(0≤b.1∧b.1< (L.length:Int))∧(0≤b.2.1∧b.2.1< (L.length:Int))∧b.1≠b.2.1:=by
 have hk0:=hs.pos
 refine Qaj (fun m u=> ∃(bs:List TwoD) (s':SrcD),u=(((),((),((),(((L.length:Nat):Int),((m:Int),()))))),((X,((L,(ls,(bs,(([]:List TwoD),())))),(s',()))),()))∧Sr s' (k+2*(3-(m:Int)))∧m≤3∧bs.length≤1∧ ∀b∈bs,(0≤b.1∧b.1< (L.length:Int))∧(0≤b.2.1∧b.2.1< (L.length:Int))∧b.1≠b.2.1) ?_ K _
  ⟨[],s,rfl,hs.le (by omega),hK,by simp,by simp⟩ (by rw [QI]; omega)
 rintro rec m _ ⟨bs,s',rfl,hs',hm,hb1,hI⟩ ih;unfold l_m_23;dsimp only;by_cases c:0< m
 ·rw [if_pos (by rw [QC]; omega)]
  refine (QX hs' (by omega) _).bind fun r44 h44=>(QX h44.1 (by omega) _).bind fun r45 h45=>?_
  have em:((m:Int)-1)=((m-1:Nat):Int):=by omega
  have b1:=bdLt h44.2 (by omega)
  have b2:=bdLt h45.2 (by omega)
  rw [Qw (n:=(m:Int)-1) (by omega) (by omega)]
  have skip: ∀{Q},(∀x,(∃(bs:List TwoD) (s':SrcD),x=(((),((),((),(((L.length:Nat):Int),(((m-1:Nat):Int),()))))),((X,((L,(ls,(bs,(([]:List TwoD),())))),(s',()))),()))∧Sr s' (k+2*(3-((m-1:Nat):Int)))∧m-1≤3∧bs.length≤1∧ ∀b∈bs,(0≤b.1∧b.1< (L.length:Int))∧(0≤b.2.1∧b.2.1< (L.length:Int))∧b.1≠b.2.1)→Dr (rec x) Q)→Dr (rec (((),((),((),(((L.length:Nat):Int),((m:Int)-1,()))))),((X,((L,(ls,(bs,(([]:List TwoD),())))),(r45.2.1,()))),()))) Q:=fun h=>
   h _ ⟨bs,r45.2.1,by rw [em],h45.1.le (by omega),by omega,hb1,hI⟩
  refine Dr.ite (fun hne=>Dr.ite (fun h0=>Dr.guard (by simp; omega) ?_) fun _=>skip fun x hx=>ih (m-1) x (by omega) hx) fun _=>skip fun x hx=>ih (m-1) x (by omega) hx
  rw [QC] at h0;have e0:bs=[]:=List.eq_nil_of_length_eq_zero (by omega)
  subst e0;refine ih (m-1) _ (by omega) ⟨[(r44.1.1,(r45.1.1,()))],r45.2.1,by rw [em]; rfl,h45.1.le (by omega),by omega,by simp,fun b hb=>?_⟩
  rw [List.mem_singleton.1 hb];exact ⟨b1,b2,by simpa using hne⟩
 ·obtain rfl:m=0:=by omega
  rw [if_neg (by rw [QC]; omega)]
  exact Dr.ret ⟨bs,s',rfl,hs'.le (by omega),hb1,hI⟩
theorem Qvm {X:PolD} {L:List (List Int)} {ls:List QN} {bs:List TwoD} {s:SrcD} {k:Int} (hl:1≤L.length∧L.length≤3) (K:Nat) (hK:K≤4) (hs:Sr s k) (hk:k≤1000000):
  Dr (L_m_29 (((),((),((),(((L.length:Nat):Int),((K:Int),()))))),((X,((L,(ls,(bs,(([]:List TwoD),())))),(s,()))),()))) fun o=> ∃(pl:List TwoD) (s':SrcD),
   o= .inl (((),((),())),((X,((L,(ls,(bs,(pl,())))),(s',()))),()))∧Sr s' (k+8)∧pl.length=K∧ ∀b∈pl,(0≤b.1∧b.1< (L.length:Int))∧1≤b.2.1∧b.2.1≤9:=by
 have hk0:=hs.pos
 refine Qaj (fun m u=> ∃(pl:List TwoD) (s':SrcD),u=(((),((),((),(((L.length:Nat):Int),((m:Int),()))))),((X,((L,(ls,(bs,(pl,())))),(s',()))),()))∧Sr s' (k+2*(4-(m:Int)))∧pl.length+m=K∧ ∀b∈pl,(0≤b.1∧b.1< (L.length:Int))∧1≤b.2.1∧b.2.1≤9) ?_ K _
  ⟨[],s,rfl,hs.le (by omega),by simp,by simp⟩ (by rw [QI]; omega)
 rintro rec m _ ⟨pl,s',rfl,hs',hm,hI⟩ ih;unfold l_m_29;dsimp only;by_cases c:0< m
 ·rw [if_pos (by rw [QC]; omega)]
  refine (QX hs' (by omega) _).bind fun r57 h57=>(QX h57.1 (by omega) _).bind fun r58 h58=>?_
  have em:((m:Int)-1)=((m-1:Nat):Int):=by omega
  have b1:=bdLt h57.2 (by omega)
  have b2:=bdLt h58.2 (by omega)
  rw [Qw (n:=(m:Int)-1) (by omega) (by omega),Qw (n:=1+(r58.1.1:Int)) (by omega) (by omega)]
  refine Dr.guard (by simp; omega) ?_
  refine ih (m-1) _ (by omega) ⟨pl++[(r57.1.1,(1+(r58.1.1:Int),()))],r58.2.1,by rw [em],h58.1.le (by omega),by simp; omega,fun b hb=>?_⟩
  rcases List.mem_append.1 hb with hb | hb
  ·exact hI b hb
  ·rw [List.mem_singleton.1 hb]; exact ⟨b1,by dsimp only; omega,by dsimp only; omega⟩
 ·obtain rfl:m=0:=by omega
  rw [if_neg (by rw [QC]; omega)]
  exact Dr.ret ⟨pl,s',rfl,hs'.le (by omega),by omega,hI⟩
theorem Qsg {L:List (List Int)} {ls:List QN} {bs pl:List TwoD} (h1:QdQ L=0) (h2:ls.length≤3) (h3:QbL (L,ls,[],[],())=none) (h4:bs.length≤1)
  (h5: ∀b∈bs,(0≤b.1∧b.1< (L.length:Int))∧(0≤b.2.1∧b.2.1< (L.length:Int))∧b.1≠b.2.1) (h6:1≤pl.length∧pl.length≤4) (h7: ∀b∈pl,(0≤b.1∧b.1< (L.length:Int))∧1≤b.2.1∧b.2.1≤9):polM (L,ls,bs,pl,())=0:=by
 have e1:QbL (L,ls,bs,pl,())=none:=h3
 have e2:QdR (L,ls,bs,pl,())=none:=by
  unfold QdR
  match bs,h4,h5 with
  | [],_,_=>rfl
  | [b],_,h5=>
   have:=h5 b (by simp)
   simp only [scan];unfold Qfa QcF;rw [if_pos (Qbi.2 this.1),if_pos (Qbi.2 this.2.1),if_neg this.2.2];rfl
 have e3:Qiu (L,ls,bs,pl,())=0:=by
  unfold Qiu;rw [if_pos (by dsimp only; omega),QfW]
  intro _ b hb;have:=h7 b hb;rw [if_pos (Qbi.2 this.1),if_pos (Qee.2 (by omega))]
 unfold polM;rw [if_neg (by simpa using h1),if_pos (by dsimp only; omega),e1]
 dsimp only;rw [e2];exact e3
theorem QsU {n x:Int} (h:Bd n x): ∃K:Nat,x=(K:Int)∧((K:Int)< n∨K=0):=⟨x.toNat,by unfold Bd at h; omega,by unfold Bd at h; omega⟩
theorem Qjv {s:SrcD} {k:Int} (hs:Sr s k) (hk:k≤900000):Dr (F_m (s,())) fun r=>Sr r.2.1 (k+100)∧polM r.1.1=0:=by
 have hk0:=hs.pos;unfold F_m;refine (QX hs (by omega) _).bind fun r1 h1=>(QbP h1.1 (by omega) _ _).bind fun r2 h2=>?_
 have b1:=bdLt h1.2 (by omega)
 obtain ⟨G,eG,hG⟩: ∃G:Nat,(r2.1.1:Int)=(G:Int)∧1≤G∧G≤3:=by
  have key: ∀v:Int,v∈[(2:Int),3,3,1]→ ∃G:Nat,v=(G:Int)∧1≤G∧G≤3:=fun v hv=>by
   simp only [List.mem_cons,List.not_mem_nil,or_false] at hv;exact ⟨v.toNat,by omega,by omega⟩
  exact key _ h2.2
 rw [eG];refine (Qwp G hG (by omega) h2.1 (by omega)).bind fun z hz=>?_
 obtain ⟨L,page,s1,rfl,hs1,hl,hI⟩:=hz;dsimp only;have hl3:1≤L.length∧L.length≤3:=by omega
 have hO:=hI.owns hl3;have hp:=hI.top;have hl2: ∀l∈L,l.length≤1048576:=fun l hm=>by have:=hI.one l hm; omega
 refine (QX hs1 (by omega) _).bind fun r18 h18=>?_
 obtain ⟨K1,e1,c1⟩:=QsU h18.2;rw [e1];refine (Qvk hO hl3 hl2 (by omega) K1 (by omega) h18.1 (by omega)).bind fun z hz=>?_
 obtain ⟨ls,s2,rfl,hs2,hls,hlm⟩:=hz;dsimp only;refine (QX hs2 (by omega) _).bind fun r41 h41=>?_
 obtain ⟨K2,e2,c2⟩:=QsU h41.2;rw [e2];refine (Qvl hl3 K2 (by omega) h41.1 (by omega)).bind fun z hz=>?_
 obtain ⟨bs,s3,rfl,hs3,hbs,hbm⟩:=hz;dsimp only;refine (QX hs3 (by omega) _).bind fun r53 h53=>?_
 obtain ⟨K3,e3,c3⟩:=QsU h53.2;rw [e3,Qw (by omega) (by omega),show (1:Int)+(K3:Int)=((K3+1:Nat):Int) by omega]
 refine (Qvm hl3 (K3+1) (by omega) h53.1 (by omega)).bind fun z hz=>?_
 obtain ⟨pl,s4,rfl,hs4,hpl,hpm⟩:=hz;exact Dr.ret ⟨hs4.le (by omega),Qsg hO hls hlm hbs hbm (by omega) hpm⟩
def Fit (p:PolD) (I:List (List Int)):Prop:=I.length=p.1.length∧ ∀j (h1:j< p.1.length) (h2:j< I.length),I[j].length≤8*p.1[j].length
theorem QrB {p:PolD} {s:SrcD} {k:Int} (hok:OkPol p) (hs:Sr s k) (hk:k≤1000000):Dr (F_v (s,p,())) fun r=>Sr r.2.1 (k+4000)∧Fit p r.1.1:=by
 have hk0:=hs.pos;have h3:=hok.own;unfold F_v
 have key:Dr (L_v_3 (((),((),(([]:List (List Int)),((0:Int),())))),(((p.1,(p.2.1,(p.2.2.1,(p.2.2.2.1,())))),(s,())),()))) fun o=> ∃(I:List (List Int)) (s':SrcD),o= .inl ((I,()),((s',()),()))∧Sr s' (k+4000)∧Fit p I:=by
  refine Qaj (fun m u=> ∃(I:List (List Int)) (s':SrcD),u=(((),((),(I,(((I.length:Nat):Int),())))),((p,(s',())),()))∧Sr s' (k+1100*(I.length:Int))∧I.length+m=p.1.length∧ ∀j (h1:j< p.1.length) (h2:j< I.length),I[j].length≤8*p.1[j].length) ?_ p.1.length _
   ⟨[],s,rfl,hs.le (by simp),by simp,fun j _ h2=>by simp at h2⟩ (by rw [QI]; omega)
  rintro rec m _ ⟨I,s',rfl,hs',hm,hI⟩ ih;unfold l_v_3;dsimp only;by_cases c:I.length< p.1.length
  ·have hm0:p.1[I.length]∈p.1:=List.getElem_mem c;have h5:=hok.own1 _ hm0;rw [if_pos (lt_t c),if_pos nat0,Qn c];rw [Qw (n:=(((p.1[I.length]).length:Nat):Int)*8) (by omega) (by omega),Qw (n:=(((p.1[I.length]).length:Nat):Int)*8+1) (by omega) (by omega)]
   refine (QX hs' (by omega) _).bind fun r9 h9=>?_
   have b9:=bdLt h9.2 (by omega)
   refine (QuL h9.1 (by omega) r9.1.1 b9.1 (by omega)).bind fun r10 h10=>?_
   refine Dr.guard (by simp; omega) ?_
   rw [QR (by omega)]
   refine ih (m-1) _ (by omega) ⟨I++[r10.1.1],r10.2.1,by simp,h10.1.le (by simp; omega),by simp; omega,fun j h1 h2=>?_⟩
   by_cases cj:j< I.length
   ·rw [List.getElem_append_left cj]; exact hI j h1 cj
   ·have:j=I.length:=by simp at h2; omega
    subst this;rw [List.getElem_concat_length (by rfl)]
    have:=h10.2;omega
  ·rw [if_neg (lt_f c)];exact Dr.ret ⟨I,s',rfl,hs'.le (by omega),by omega,hI⟩
 refine key.bind fun z hz=>?_
 obtain ⟨I,s',rfl,hs',hI⟩:=hz;exact Dr.ret ⟨hs',hI⟩
def FitQ (p:PolD) (J:List (List Int)):Prop:=J.length=p.1.length∧ ∀q∈J,OkQ q
theorem QgK {v:QeY} (h:QmN maxLen (vD v)):QqO v v=true:=by
 obtain ⟨v1,v2,v3,v4,v5,v6,v7,v8,v9,v10,v11,_⟩:=v;obtain ⟨⟨h1,h2,h3,h4⟩,h5,h6⟩:=h;unfold vD at h1 h2 h3 h4 h5 h6;dsimp only at h1 h2 h3 h4 h5 h6
 have e:F_gc (vD (v1,v2,v3,v4,v5,v6,v7,v8,v9,v10,v11,()),vD (v1,v2,v3,v4,v5,v6,v7,v8,v9,v10,v11,()),())=some ((true,()),()):=by
  unfold F_gc F_gb vD;dsimp only;rw [Qak (v1,v1,()) h1,Qak (v3,v3,()) h2,Qak (v8,v8,()) h3,Qak (v9,v9,()) h4,Qak (v10,v10,()) h5,Qak (v11,v11,()) h6];simp
 unfold QqO;rw [e]
theorem HK.pgs {x:QF} (h:HK x) {g:Int} (hg:isG x.1 g=true): ∀q∈pgM x.1 g,0≤q.1→8*q.1+8≤(x.2.1.length:Int):=fun q hq _=>by
 have:=Qpu h.ok hg q hq;rw [h.mem.2];omega
def sinM (v:Int):List Int→List Int
 | []=>[v]
 | x::r=>if x< v then x::sinM v r else if x=v then x::r else v::x::r
def srt (l:List Int):List Int:=l.foldl (fun acc v=>sinM v acc) []
theorem Qly {v:Int}: ∀{A B:List Int},(∀a∈A,a< v)→sinM v (A++B)=A++sinM v B
 | [],_,_=>rfl
 | a::A,B,h=>by
  rw [List.cons_append,sinM,if_pos (h a (by simp)),Qly fun x hx=>h x (List.mem_cons_of_mem _ hx)]
  rfl
theorem Qoi {v:Int} {B:List Int} (h: ∀b∈B,v< b):sinM v B=v::B:=by
 cases B with
 | nil=>rfl
 | cons b r=>
  have:=h b (by simp)
  rw [sinM,if_neg (by omega),if_neg (by omega)]
theorem Qhr {v x:Int}: ∀{L:List Int},x∈sinM v L↔x=v∨x∈L
 | []=>by simp [sinM]
 | y::r=>by
  rw [sinM];by_cases c:y< v
  ·rw [if_pos c,List.mem_cons,Qhr,List.mem_cons];constructor
   ·rintro (h | h | h) <;> simp [h]
   ·rintro (h | h | h) <;> simp [h]
  ·rw [if_neg c];by_cases d:y=v
   ·rw [if_pos d,List.mem_cons];subst d;simp
   ·rw [if_neg d]; simp
theorem QqP {v:Int}: ∀{L:List Int},L.Pairwise (· < ·)→(sinM v L).Pairwise (· < ·)
 | [],_=>by simp [sinM]
 | y::r,h=>by
  have h':=h;rw [List.pairwise_cons] at h';rw [sinM];by_cases c:y< v
  ·rw [if_pos c,List.pairwise_cons];refine ⟨fun x hx=>?_,QqP h'.2⟩
   rcases Qhr.1 hx with rfl | hx
   ·exact c
   ·exact h'.1 x hx
  ·rw [if_neg c];by_cases d:y=v
   ·rw [if_pos d]; exact h
   ·rw [if_neg d,List.pairwise_cons];refine ⟨fun x hx=>?_,h⟩
    rcases List.mem_cons.1 hx with rfl | hx
    ·omega
    ·have:=h'.1 x hx; omega
theorem Qoh {v:Int}: ∀{L:List Int},L.Pairwise (· < ·)→v∉L→(sinM v L).length=L.length+1
 | [],_,_=>rfl
 | y::r,h,hv=>by
  rw [List.pairwise_cons] at h;rw [sinM];by_cases c:y< v
  ·rw [if_pos c,List.length_cons,Qoh h.2 fun q=>hv (List.mem_cons_of_mem _ q),List.length_cons]
  ·rw [if_neg c,if_neg (fun e=>hv (by simp [e]))]; simp
theorem Quh (l:List Int) (v:Int):srt (l++[v])=sinM v (srt l):=by unfold srt; rw [List.foldl_append]; rfl
theorem QmJ: ∀{l:List Int},l.Nodup→(srt l).Pairwise (· < ·)∧(∀x,x∈srt l↔x∈l)∧(srt l).length=l.length:=by
 have key: ∀{l acc:List Int},l.Nodup→(∀x∈l,x∉acc)→acc.Pairwise (· < ·)→(l.foldl (fun acc v=>sinM v acc) acc).Pairwise (· < ·)∧(∀x,x∈l.foldl (fun acc v=>sinM v acc) acc↔x∈acc∨x∈l)∧(l.foldl (fun acc v=>sinM v acc) acc).length=acc.length+l.length:=by
  intro l
  induction l with
  | nil=>intro acc _ _ h; exact ⟨h,by simp,by simp⟩
  | cons v r ih=>
   intro acc hn ha hp;rw [List.nodup_cons] at hn
   obtain ⟨h1,h2,h3⟩:=ih (acc:=sinM v acc) hn.2 (fun x hx hm=>by
    rcases Qhr.1 hm with rfl | hm
    ·exact hn.1 hx
    ·exact ha x (List.mem_cons_of_mem _ hx) hm) (QqP hp)
   refine ⟨h1,fun x=>?_,?_⟩
   ·rw [List.foldl_cons,h2,Qhr,List.mem_cons];constructor
    ·rintro ((h | h) | h) <;> simp [h]
    ·rintro (h | h | h) <;> simp [h]
   ·rw [List.foldl_cons,h3,Qoh hp (ha v (by simp)),List.length_cons]; omega
 intro l h;obtain ⟨h1,h2,h3⟩:=key (acc:=[]) h (by simp) List.Pairwise.nil
 exact ⟨h1,fun x=>by rw [srt,h2]; simp,by rw [srt,h3]; simp⟩
theorem Qwe (a b:Int):F_cmp_Less_int64 (a,b,())=some ((ltI a b,()),()):=by
 unfold F_cmp_Less_int64 F_cmp_isNaN_int64;simp
theorem Qvq {pre rest:List Int} {v n i:Int} (hp:pre.Pairwise (· < ·)) (hv:v∉pre) (hl:(pre++v::rest).length≤1000):
  L_fq_4 (((),((0:Int),(n,(i,(((pre.length:Nat):Int),()))))),((),(pre++v::rest,())))=some (.inl (((),((0:Int),(n,(i,())))),((),(sinM v pre++rest,())))):=by
 refine Dr.eq ?_;refine Qaj (fun m u=> ∃A B:List Int,pre=A++B∧(∀b∈B,v< b)∧u=(((),((0:Int),(n,(i,(((A.length:Nat):Int),()))))),((),(A++v::(B++rest),())))∧m=A.length) ?_ pre.length _ ⟨pre,[],by simp,by simp,rfl,rfl⟩ (by simp at hl; rw [QI]; omega)
 rintro rec m _ ⟨A,B,rfl,hB,rfl,rfl⟩ ih;unfold l_fq_4;dsimp only;simp only [List.length_append,List.length_cons] at hl;rcases List.eq_nil_or_concat A with rfl | ⟨A',y,rfl⟩
 ·rw [if_neg (by rw [QC]; simp)]
  simp only [List.nil_append];rw [Qoi hB];exact Dr.ret rfl
 ·rw [List.concat_eq_append] at*;simp only [List.length_append,List.length_singleton] at hl;have hy:y∈(A'++[y])++B:=by simp
  have d0:(A'++[y])++v::(B++rest)=A'++y::v::(B++rest):=by simp
  have lt1:A'.length< (A'++y::v::(B++rest)).length:=by simp
  have lt2:A'.length+1< (A'++y::v::(B++rest)).length:=by simp
  have g1:(A'++y::v::(B++rest))[A'.length]'lt1=y:=by simp
  have g2:(A'++y::v::(B++rest))[A'.length+1]'lt2=v:=by
   rw [List.getElem_append_right (by omega)]
   simp
  have ej:((((A'++[y]).length:Nat)):Int)=((A'.length+1:Nat):Int):=by simp
  have ej1:IntKind.i64.wrap (((A'.length+1:Nat):Int)-1)=((A'.length:Nat):Int):=by rw [Qw (by omega) (by omega)]; omega
  rw [d0,ej,ej1,if_pos (by rw [QC]; omega)]
  have in1:0≤((A'.length:Nat):Int)∧((A'.length:Nat):Int)< (((A'++y::v::(B++rest)).length:Nat):Int):=by omega
  have in2:0≤((A'.length+1:Nat):Int)∧((A'.length+1:Nat):Int)< (((A'++y::v::(B++rest)).length:Nat):Int):=by omega
  rw [if_pos in2,Qn lt2,if_pos in1,Qn lt1,g1,g2,Qwe,Obn];dsimp only;by_cases c:v< y
  ·have s1:(A'++y::v::(B++rest)).set (((A'.length+1:Nat):Int)).toNat y=A'++y::y::(B++rest):=by
    rw [Int.toNat_natCast,List.set_append_right _ _ (by omega),show A'.length+1-A'.length=1 by omega]; rfl
   have lt3:A'.length< (A'++y::y::(B++rest)).length:=by simp
   have in3:0≤((A'.length:Nat):Int)∧((A'.length:Nat):Int)< (((A'++y::y::(B++rest)).length:Nat):Int):=by omega
   have s2:(A'++y::y::(B++rest)).set (((A'.length:Nat):Int)).toNat v=A'++v::(y::B++rest):=by
    rw [Int.toNat_natCast,List.set_append_right _ _ (by omega),Nat.sub_self]; rfl
   rw [if_pos (by rw [QC]; exact c),if_pos in1,Qn lt1,if_pos in2,Qn lt2,if_pos in2,Qn lt2,g1,g2,s1,if_pos in3,Qn lt3,s2]
   exact ih A'.length _ (by simp) ⟨A',y::B,by simp,fun b hb=>by
    rcases List.mem_cons.1 hb with rfl | hb
    ·exact c
    ·exact hB b hb,rfl,rfl⟩
  ·rw [if_neg (by rw [QC]; exact c)]
   have yv:y< v:=by
    have:v≠y:=fun e=>hv (e▸hy)
    omega
   rw [List.pairwise_append] at hp
   have hA: ∀a∈A'++[y],a< v:=fun a ha=>by
    rcases List.mem_append.1 ha with ha' | ha'
    ·have:=(List.pairwise_append.1 hp.1).2.2 a ha' y (by simp)
     omega
    ·rw [List.mem_singleton.1 ha']; exact yv
   rw [Qly hA,Qoi hB];refine Dr.ret ?_;simp
theorem Qvp {l:List Int} (h:l.Nodup) (hl:l.length≤1000):L_fq_1 (((),((0:Int),(((l.length:Nat):Int),((1:Int),())))),((),(l,())))=some (.inl ((),((),(srt l,())))):=by
 refine Dr.eq ?_;refine Qaj (fun m u=> ∃i:Nat,1≤i∧m=l.length-i∧u=(((),((0:Int),(((l.length:Nat):Int),((i:Int),())))),((),(srt (l.take i)++l.drop i,())))) ?_ (l.length-1) _ ⟨1,by omega,rfl,?_⟩ (by rw [QI]; omega)
 ·rintro rec m _ ⟨i,h1,hm,rfl⟩ ih;unfold l_fq_1;dsimp only;by_cases c:i< l.length
  ·rw [if_pos (lt_t c)];have nd:=h.sublist (List.take_sublist i l);obtain ⟨o1,o2,o3⟩:=QmJ nd;have lt:(srt (l.take i)).length=i:=by rw [o3,List.length_take]; omega
   have hv:l[i]∉srt (l.take i):=fun hm=>by
    rw [o2,List.mem_take_iff_getElem] at hm;obtain ⟨j,hj,e⟩:=hm;have:=List.pairwise_iff_getElem.1 h j i (by omega) c (by omega)
    exact this e
   rw [List.drop_eq_getElem_cons c];have key:=Qvq (n:=((l.length:Nat):Int)) (i:=(i:Int)) (rest:=l.drop (i+1)) o1 hv (by simp [lt]; omega)
   rw [lt] at key;refine Dr.step key ?_;dsimp only;rw [QR (by omega)]
   refine ih (m-1) _ (by omega) ⟨i+1,by omega,by omega,?_⟩
   rw [Qgc c,Quh]
  ·rw [if_neg (lt_f c),List.take_of_length_le (by omega),List.drop_of_length_le (by omega),List.append_nil]
   exact Dr.ret rfl
 ·cases l with
  | nil=>rfl
  | cons x r=>rfl
theorem QuO (n:Nat) (h:n≤12): ∃r:Int,F_fp (IntKind.u64.wrap ((n:Nat):Int),())=some ((r,()),()):=by
 have:n=0∨n=1∨n=2∨n=3∨n=4∨n=5∨n=6∨n=7∨n=8∨n=9∨n=10∨n=11∨n=12:=by omega
 rcases this with rfl | rfl | rfl | rfl | rfl | rfl | rfl | rfl | rfl | rfl | rfl | rfl | rfl
 ·exact ⟨0,by kernel_rfl⟩
 ·exact ⟨1,by kernel_rfl⟩
 ·exact ⟨2,by kernel_rfl⟩
 ·exact ⟨2,by kernel_rfl⟩
 ·exact ⟨3,by kernel_rfl⟩
 ·exact ⟨3,by kernel_rfl⟩
 ·exact ⟨3,by kernel_rfl⟩
 ·exact ⟨3,by kernel_rfl⟩
 ·exact ⟨4,by kernel_rfl⟩
 ·exact ⟨4,by kernel_rfl⟩
 ·exact ⟨4,by kernel_rfl⟩
 ·exact ⟨4,by kernel_rfl⟩
 ·exact ⟨4,by kernel_rfl⟩
theorem Qwt {l:List Int} (h:l.Nodup) (hl:l.length≤12):F_fs (l,())=some ((),(srt l,())):=by
 have o3:=(QmJ h).2.2;obtain ⟨r,er⟩:=QuO l.length hl
 have e1:F_fq (l,0,((l.length:Nat):Int),())=some ((),(srt l,())):=by
  refine Dr.eq ?_;unfold F_fq;exact Dr.step (Qvp h (by omega)) (Dr.guard (by simp [o3]) (Dr.ret rfl))
 have e2:F_fr (l,0,((l.length:Nat):Int),r,())=some ((),(srt l,())):=by
  refine Dr.eq ?_;unfold F_fr
  have k:L_fr_2 (((),((0:Int),(((l.length:Nat):Int),(r,(true,(true,())))))),((),(l,())))=some (.inl ((),((),(srt l,())))):=by
   refine Dr.eq ?_;refine Qaj (fun m u=>u=(((),((0:Int),(((l.length:Nat):Int),(r,(true,(true,())))))),((),(l,())))) ?_ 0 _ rfl (by rw [QI]; omega)
   rintro rec m _ rfl _;unfold l_fr_2;dsimp only;rw [Qw (by omega) (by omega)]
   exact Dr.pos (by rw [Qba]; omega) (Dr.step e1 (Dr.guard (by simp [o3]) (Dr.ret rfl)))
  exact Dr.step k (Dr.guard (by simp [o3]) (Dr.ret rfl))
 refine Dr.eq ?_;unfold F_fs;exact Dr.step er (Dr.step e2 (Dr.guard (by simp [o3]) (Dr.guard (by simp [o3]) (Dr.ret rfl))))
def wrP (q:TwoD):Bool:=iand .i64 q.2.1 2 !=0
theorem QvM {q:TwoD}:wrP q=true↔(iand .i64 q.2.1 2 !=0)=true:=Iff.rfl
def wpgs (l:List TwoD):List Int:=(l.filter wrP).map (·.1)
theorem Qko (l:List TwoD):(wpgs l).length≤l.length:=by unfold wpgs; rw [List.length_map]; exact List.length_filter_le _ _
theorem QlT (l:List TwoD) (q:TwoD):wpgs (l++[q])=if wrP q=true then wpgs l++[q.1] else wpgs l:=by
 unfold wpgs;rw [List.filter_append,List.map_append];by_cases c:wrP q=true
 ·rw [if_pos c,List.filter_cons_of_pos c]; rfl
 ·rw [if_neg c,List.filter_cons_of_neg c]; simp
theorem Qvi {p:PolD} {g:Int} (hok:OkPol p) (hg:isG p g=true) {k:Nat} (h0: ¬0≤(pgAt (pgM p g) k).1):pgAt (pgM p g) k=(-1,0,()):=by
 rcases QeH (g:=g) (k:=k) p.2.1 (QbA 0 (ownL p g) QaP) (own8 p g) (QbJ hok) with e | ⟨x,hx,_,_,e⟩ | ⟨x,hx,_,_,e⟩
 ·have e:pgAt (pgM p g) k=pgAt (QbA 0 (ownL p g) QaP) k:=e;have h5:=(Qel hok hg).2;rw [Qhh _ _ _ _ (by show 0+(ownL p g).length≤8; omega)] at e
  by_cases c:0≤k∧k< 0+(ownL p g).length
  ·rw [if_pos c] at e;rw [e] at h0;exact absurd ((hok.own1 _ (Qcl hok hg)).2.2 _ (Qaz (l:=ownL p g) (k:=k-0) (d:=0) (by omega))).1 h0
  ·rw [if_neg c,Qql] at e;exact e
 ·have e:pgAt (pgM p g) k=(x.2.2.1,3,()):=e;rw [e] at h0;exact absurd (QbO hok x hx).2.1.1 h0
 ·have e:pgAt (pgM p g) k=(x.2.2.1,1,()):=e;rw [e] at h0;exact absurd (QbO hok x hx).2.1.1 h0
theorem Qwx {p:PolD} {g:Int} (hok:OkPol p) (hg:isG p g=true) {k:Nat} (hw:wrP (pgAt (pgM p g) k)=true):0≤(pgAt (pgM p g) k).1:=by
 by_cases h0:0≤(pgAt (pgM p g) k).1
 ·exact h0
 ·rw [Qvi hok hg h0] at hw;exact absurd hw (by decide)
theorem Qrd {p:PolD} {g:Int} (hok:OkPol p) (hg:isG p g=true):(wpgs (pgM p g)).Nodup:=by
 unfold wpgs List.Nodup;rw [List.pairwise_map,List.pairwise_filter,List.pairwise_iff_getElem];intro i j hi hj hij a b e;have ei:(pgM p g)[i]=pgAt (pgM p g) i:=(gget hi).symm;have ej:(pgM p g)[j]=pgAt (pgM p g) j:=(gget hj).symm;rw [ei] at a e;rw [ej] at e;have:=Qmw hok hg i j (Qwx hok hg a) e;omega
abbrev Qvz:=Int×List Int×Unit
def mayM (p:PolD) (g:Int):Qvz:=if askM p g≠0 then (askM p g,[],()) else (0,srt (wpgs (pgM p g)),())
theorem QuA {p:PolD} {g:Int} (h:askM p g=0):polM p=0∧isG p g=true:=by
 unfold askM at h;split at h
 ·exact absurd h ‹_›
 ·rename_i h1;split at h
  ·exact ⟨by simpa using h1, ‹_›⟩
  ·cases h
theorem QrJ (p:PolD) (g:Int) (hp:Qfy 1048576 p):F_ft (p,g,())=some ((mayM p g,()),()):=by
 refine Dr.eq ?_;unfold F_ft mayM;refine Dr.step (QoV p g hp) ?_;by_cases h:askM p g=0
 case neg=>rw [if_pos (c:=askM p g≠0) h]; exact Dr.pos (by simpa using h) (Dr.ret rfl)
 rw [if_neg (c:=askM p g≠0) (by simpa using h)]
 refine Dr.neg (by simpa using h) ?_
 obtain ⟨h1,hg⟩:=QuA h;have hok:=QeT h1;refine Dr.step (Qim hok hg) ?_;have nd:=Qrd hok hg;have hl:=Qda p g;generalize pgM p g=l at nd hl⊢
 have key: ∀Z:Qvz,Dr (L_ft_6 (((),(([]:List Int),(l,(((l.length:Nat):Int),((0:Int),()))))),((Z,()),()))) fun o=>o= .inl (((),(wpgs l,())),((Z,()),())):=by
  intro Z;refine Qaj (fun m u=> ∃i:Nat,m+i=8∧u=(((),(wpgs (l.take i),(l,(((l.length:Nat):Int),((i:Int),()))))),((Z,()),()))) ?_ 8 _ ⟨0,rfl,rfl⟩ (by rw [QI]; omega)
  rintro rec m _ ⟨i,hm,rfl⟩ ih;unfold l_ft_6;dsimp only;by_cases c:i< l.length
  ·have hin:0≤(i:Int)∧(i:Int)< ((l.length:Nat):Int):=by omega
   have wl:=Qko (l.take i);rw [List.length_take] at wl;rw [if_pos (lt_t c),if_pos hin,Qn c,QR (by omega)]
   by_cases cw:wrP l[i]=true
   ·rw [if_pos (QvM.1 cw)];refine Dr.guard (by simp; omega) (ih (m-1) _ (by omega) ⟨i+1,by omega,?_⟩)
    rw [Qgc c,QlT,if_pos cw]
   ·rw [if_neg (fun q=>cw (QvM.2 q))]
    refine ih (m-1) _ (by omega) ⟨i+1,by omega,?_⟩
    rw [Qgc c,QlT,if_neg cw]
  ·rw [if_neg (lt_f c),List.take_of_length_le (by omega)]
   exact Dr.ret rfl
 refine (key _).bind fun o ho=>?_
 subst ho;have wl:=Qko l;exact Dr.step (Qwt (l:=wpgs l) nd (by omega)) (Dr.guard (by simp [(QmJ nd).2.2]) (Dr.ret rfl))
theorem Quo: ∀{L:List Int} {a b:Int},L.Pairwise (· < ·)→(∀x∈L,a≤x∧x< b)→(L.length:Int)≤b-a∨L=[]
 | [],_,_,_,_=> .inr rfl
 | x::r,a,b,h,hx=>by
  rw [List.pairwise_cons] at h;have h0:=hx x (by simp)
  rcases Quo (a:=x+1) (b:=b) h.2 (fun y hy=>⟨by have:=h.1 y hy; omega,(hx y (List.mem_cons_of_mem _ hy)).2⟩) with e | e
  ·left; rw [List.length_cons]; omega
  ·left; rw [e]; simp; omega
def QnN (p:PolD) (x g:Int):Bool:=p.2.1.any (fun l=>l.1==x && l.2.1==g) || p.2.2.1.any (Qao (x,g,()))
theorem QqN {x g:Int} {b:TwoD}:Qao (x,g,()) b=true↔b.1=x∧b.2.1=g:=by
 obtain ⟨b1,b2,_⟩:=b;unfold Qao;simp;constructor <;> rintro ⟨h1,h2⟩ <;> simp [h1,h2]
theorem Qiq {p:PolD} (hok:OkPol p) {x g:Int} (h:QnN p x g=true):isG p x=true:=by
 unfold QnN at h;rw [Bool.or_eq_true,List.any_eq_true,List.any_eq_true] at h;rcases h with ⟨l,h1,h2⟩ | ⟨b,h1,h2⟩
 ·simp only [Bool.and_eq_true,beq_iff_eq] at h2;rw [←h2.1]; exact (QbO hok l h1).1.1
 ·rw [←(QqN.1 h2).1]; exact (QtJ hok b h1).1
theorem QoT {p:PolD} (hok:OkPol p) {L:List Int} (h:L.Pairwise (· < ·)) (hg: ∀x∈L,isG p x=true):L.length≤3:=by
 have:=hok.own.2;rcases Quo (a:=0) (b:=(p.1.length:Int)) h (fun x hx=>Qbi.1 (hg x hx)) with e | e
 ·omega
 ·rw [e]; simp
structure UpG (p:PolD) (L:List Int):Prop where
 up:L.Pairwise (· < ·)
 g: ∀x∈L,isG p x=true
theorem UpG.len {p:PolD} (hok:OkPol p) {L:List Int} (h:UpG p L):L.length≤3:=QoT hok h.up h.g
def Rch (p:PolD) (g x:Int):Prop:= ∀C:Int→Prop,(∀k,QnN p k g=true→C k)→(∀y k,C y→QnN p k y=true→C k)→C x
def gL (n:Nat) (P:Int→Bool):List Int:=((List.range n).map fun i:Nat=>(i:Int)).filter P
theorem Qwa (n:Nat) (P:Int→Bool):(gL n P).length≤n:=by
 unfold gL;refine Nat.le_trans (List.length_filter_le _ _) (by simp)
theorem Qwb {n:Nat} {P:Int→Bool} {x:Int}:x∈gL n P↔(0≤x∧x< (n:Int))∧P x=true:=by
 unfold gL;rw [List.mem_filter,List.mem_map];refine and_congr_left fun _=>⟨?_,fun h=>⟨x.toNat,?_,?_⟩⟩
 ·rintro ⟨i,h1,rfl⟩;rw [List.mem_range] at h1;omega
 ·rw [List.mem_range]; omega
 ·omega
structure Seen (p:PolD) (g:Int) (out:List Int):Prop where
 nd:out.Nodup
 rch: ∀x∈out,Rch p g x
 fst: ∀k,QnN p k g=true→k∈out
theorem Qsd {p:PolD} (hok:OkPol p) {g x:Int} (h:Rch p g x):isG p x=true:=h (fun x=>isG p x=true) (fun _ h=>Qiq hok h) fun _ _ _ h=>Qiq hok h
theorem QtF: ∀{A B:List Int},A.Nodup→(∀x∈A,x∈B)→A.length≤B.length
 | [],_,_,_=>Nat.zero_le _
 | a::r,B,h,hs=>by
  rw [List.nodup_cons] at h;have ha:=hs a (by simp)
  have hl:=List.length_erase_of_mem ha
  have h1:=QtF (B:=B.erase a) h.2 fun x hx=>by
   have hne:x≠a:=fun e=>h.1 (e▸hx)
   exact (List.mem_erase_of_ne hne).2 (hs x (List.mem_cons_of_mem _ hx))
  have hp:=List.length_pos_of_mem ha;rw [List.length_cons]; omega
theorem Seen.len {p:PolD} (hok:OkPol p) {g:Int} {out:List Int} (h:Seen p g out):out.length≤3:=by
 have hn:=hok.own.2;have:=QtF (B:=gL p.1.length fun _=>true) h.nd fun x hx=>Qwb.2 ⟨Qbi.1 (Qsd hok (h.rch x hx)),rfl⟩
 have:=Qwa p.1.length fun _=>true
 omega
theorem QvR {p:PolD} {g:Int} (hp:polM p=0) (hg:isG p g=true):askM p g=0:=by
 unfold askM;rw [if_neg (by simpa using hp),if_pos hg]
theorem QvS {s:SrcD} {k:Int} (hs:Sr s k) (hk:k≤800000):Dr (F_bu (s,())) fun r=>Sr r.2.1 (k+110)∧Qfy 1000 r.1.1:=by
 have hk0:=hs.pos;unfold F_bu;refine (Qjv hs (by omega)).bind fun r1 h1=>?_
 refine (QX h1.1 (by omega) _).bind fun r2 h2=>?_
 have hok:=QeT h1.2;have a1:=hok.own;have a2: ∀l∈r1.1.1.1,l.length≤5:=fun l hl=>(hok.own1 l hl).2.1
 have a3:=hok.lanes.1;have a4:=hok.bells.1;have a5:=hok.plan;obtain ⟨⟨p,pu⟩,s1,su⟩:=r1;obtain ⟨r2a,s2,s2u⟩:=r2;simp only at h1 h2 hok a1 a2 a3 a4 a5⊢;have hs2:Sr s2 (k+101):=h2.1.le (by omega)
 have i0:((0:Int)).toNat< p.1.length:=by show 0< _; omega
 have g0:0≤(0:Int)∧(0:Int)< ((p.1.length:Nat):Int):=by omega
 have own0: ∀l:List Int,l.length≤5→Qfy 1000 (p.1.set ((0:Int)).toNat l,p.2.1,p.2.2.1,p.2.2.2.1,()):=fun l hl=>by
  refine ⟨⟨by rw [List.length_set]; show p.1.length≤1000; omega,fun x hx=>?_⟩,by show p.2.1.length≤1000; omega,by show p.2.2.1.length≤1000; omega,by show p.2.2.2.1.length≤1000; omega⟩
  rcases List.mem_or_eq_of_mem_set hx with hx | rfl
  ·have:=a2 x hx; omega
  ·omega
 have hin: ∀x∈p.1,x.length≤1000:=fun x hx=>by have:=a2 x hx; omega
 refine Dr.ite (fun _=>?_) fun _=>Dr.ite (fun _=>?_) fun _=>Dr.ite (fun _=>?_) fun _=>Dr.ite (fun _=>?_) fun _=>Dr.ite (fun _=>?_) fun _=>Dr.ite (fun _=>?_) fun _=>Dr.ite (fun _=>?_) fun _=>Dr.ite (fun _=>?_) fun _=>Dr.ite (fun _=>?_) fun _=>?_
 ·refine Dr.guard g0 (Dr.step (List.getElem?_eq_getElem i0) ?_);refine (QbP hs2 (by omega) _ _).bind fun r4 h4=>?_
  have hy:=hok.own1 _ (List.getElem_mem i0);refine Dr.step (List.getElem?_eq_getElem i0) (Dr.guard (by show 0≤(0:Int)∧(0:Int)< ((p.1[((0:Int)).toNat].length:Nat):Int); omega) (Dr.step (List.getElem?_eq_getElem i0) (Dr.ret ⟨h4.1.le (by omega),own0 _ (by rw [List.length_set]; omega)⟩)))
 ·refine Dr.guard g0 (Dr.step (List.getElem?_eq_getElem i0) (Dr.step (List.getElem?_eq_getElem i0) (Dr.guard (by show (p.1.length+1)*24≤_; omega) (Dr.ret ⟨hs2.le (by omega),?_⟩))))
  refine ⟨⟨by show (p.1++[p.1[((0:Int)).toNat]]).length≤1000; simp; omega,fun x hx=>?_⟩,by show p.2.1.length≤1000; omega,by show p.2.2.1.length≤1000; omega,by show p.2.2.2.1.length≤1000; omega⟩
  rcases List.mem_append.1 (show x∈p.1++[p.1[((0:Int)).toNat]] from hx) with hx | hx
  ·exact hin x hx
  ·rw [List.mem_singleton.1 hx]; exact hin _ (List.getElem_mem i0)
 ·exact Dr.ret ⟨hs2.le (by omega),⟨⟨Nat.zero_le _,fun x hx=>by cases hx⟩,by show p.2.1.length≤1000; omega,by show p.2.2.1.length≤1000; omega,by show p.2.2.2.1.length≤1000; omega⟩⟩
 ·refine (QX hs2 (by omega) _).bind fun r11 h11=>(QX h11.1 (by omega) _).bind fun r12 h12=>(QbP h12.1 (by omega) _ _).bind fun r13 h13=>(QbP h13.1 (by omega) _ _).bind fun r14 h14=>(QbP h14.1 (by omega) _ _).bind fun r15 h15=>?_
  refine Dr.guard (by show (p.2.1.length+1)*40≤_; omega) (Dr.ret ⟨h15.1.le (by omega),⟨⟨by show p.1.length≤1000; omega,hin⟩,?_,by show p.2.2.1.length≤1000; omega,by show p.2.2.2.1.length≤1000; omega⟩⟩)
  show (p.2.1++[_]).length≤1000;rw [List.length_append,List.length_singleton]; omega
 ·refine (QX hs2 (by omega) _).bind fun r17 h17=>(QX h17.1 (by omega) _).bind fun r18 h18=>?_
  refine Dr.guard (by show (p.2.2.1.length+2)*16≤_; omega) (Dr.ret ⟨h18.1.le (by omega),⟨⟨by show p.1.length≤1000; omega,hin⟩,by show p.2.1.length≤1000; omega,?_,by show p.2.2.2.1.length≤1000; omega⟩⟩)
  show (p.2.2.1++[_,_]).length≤1000;rw [List.length_append]; simp; omega
 ·refine (QbP hs2 (by omega) _ _).bind fun r20 h20=>(QbP h20.1 (by omega) _ _).bind fun r21 h21=>?_
  have i2:((0:Int)).toNat< p.2.2.2.1.length:=by show 0< _; omega
  refine Dr.guard (by show 0≤(0:Int)∧(0:Int)< ((p.2.2.2.1.length:Nat):Int); omega) (Dr.step (List.getElem?_eq_getElem i2) (Dr.ret ⟨h21.1.le (by omega),⟨⟨by show p.1.length≤1000; omega,hin⟩,by show p.2.1.length≤1000; omega,by show p.2.2.1.length≤1000; omega,?_⟩⟩))
  show (p.2.2.2.1.set _ _).length≤1000;rw [List.length_set]; omega
 ·exact Dr.ret ⟨hs2.le (by omega),⟨⟨by show p.1.length≤1000; omega,hin⟩,by show p.2.1.length≤1000; omega,by show p.2.2.1.length≤1000; omega,by show (List.replicate 9 _).length≤1000; rw [List.length_replicate]; omega⟩⟩
 ·exact Dr.guard g0 (Dr.step (List.getElem?_eq_getElem i0) (Dr.ret ⟨hs2.le (by omega),own0 [] (by simp)⟩))
 ·exact Dr.ret ⟨hs2.le (by omega),⟨⟨by show p.1.length≤1000; omega,hin⟩,by show (List.replicate 5 _).length≤1000; rw [List.length_replicate]; omega,by show p.2.2.1.length≤1000; omega,by show p.2.2.2.1.length≤1000; omega⟩⟩
 ·exact Dr.ret ⟨hs2.le (by omega),⟨⟨by show p.1.length≤1000; omega,hin⟩,by show p.2.1.length≤1000; omega,by show p.2.2.1.length≤1000; omega,by show p.2.2.2.1.length≤1000; omega⟩⟩
theorem Qfy.up {m n:Nat} {p:PolD} (h:Qfy m p) (hmn:m≤n):Qfy n p:=
 ⟨⟨Nat.le_trans h.1.1 hmn,fun l hl=>Nat.le_trans (h.1.2 l hl) hmn⟩,Nat.le_trans h.2.1 hmn,Nat.le_trans h.2.2.1 hmn,Nat.le_trans h.2.2.2 hmn⟩
theorem QpO {q:List Int} (h:OkQ q):F_af (q,())=some (((0,Qij q),()),()):=by
 have hl:=h.len;refine Dr.eq ?_;unfold F_af;dsimp only;refine Dr.neg (by rw [QC]; omega) (Dr.step (QbI q (by omega)) (Dr.neg (by rw [Qar.2 h.words]; simp) (Dr.guard (by simp; omega) (Dr.ret rfl))))
theorem QmF {p:PolD} {I:List (List Int)} (hok:OkPol p) (hI:Fit p I):F_y (p,I,())=some ((0,()),()):=by
 have h3:=hok.own;obtain ⟨hI1,hI2⟩:=hI;refine Dr.eq ?_;unfold F_y;dsimp only;refine Dr.neg (by rw [hI1]; simp) ?_
 have key:Dr (L_y_4 ((p,(I,((0:Int),()))),((),()))) fun o=>o= .inl ((),((),())):=by
  refine Qaj (fun m u=> ∃i:Nat,m+i=3∧u=((p,(I,((i:Int),()))),((),()))) ?_ 3 _ ⟨0,rfl,rfl⟩ (by rw [QI]; omega)
  rintro rec m _ ⟨i,hm,rfl⟩ ih;unfold l_y_4;dsimp only;by_cases c:i< I.length
  ·have c':i< p.1.length:=by omega
   have h5:=hok.own1 _ (List.getElem_mem c');have hl:=hI2 i c' c;rw [if_pos (lt_t c),if_pos nat0,Qn c,if_pos nat0,Qn c',Qw (n:=(((p.1[i]).length:Nat):Int)*8) (by omega) (by omega),if_neg (by rw [QC]; omega),QR (by omega)]
   exact ih (m-1) _ (by omega) ⟨i+1,by omega,rfl⟩
  ·rw [if_neg (lt_f c)];exact Dr.ret rfl
 refine key.bind fun o ho=>?_
 subst ho;exact Dr.ret rfl
theorem Qok {p:PolD} {I:List (List Int)} {m:List Int} {g:Nat} (hok:OkPol p) (hI:Fit p I) (cp:g< p.1.length) (c:g< I.length) (hm:m.length=192):
  L_aa_6 ((p,(I,(m,((g:Int),((0:Int),()))))),((),()))=some (.inl ((p,(I,(imgH p.1[g] 0 I[g] m,((g:Int),())))),((),()))):=by
 have h5:=hok.own1 _ (List.getElem_mem cp);have hl:=hI.2 g cp c;refine Dr.eq ?_;refine Qaj (fun k u=> ∃(i:Nat) (m':List Int),u=((p,(I,(m',((g:Int),((i:Int),()))))),((),()))∧k+i=I[g].length∧m'.length=192∧imgH p.1[g] i (I[g].drop i) m'=imgH p.1[g] 0 I[g] m) ?_ I[g].length _ ⟨0,m,rfl,by omega,hm,by simp⟩ (by rw [QI]; omega)
 rintro rec k _ ⟨i,m',rfl,hk,hm',he⟩ ih;unfold l_aa_6;dsimp only;rw [if_pos nat0,Qn c];by_cases ci:i< I[g].length
 ·have hi8:i / 8< p.1[g].length:=by omega
  have hx:=h5.2.2 _ (List.getElem_mem hi8);have e1:Int.tdiv (i:Int) 8=((i / 8:Nat):Int):=by rw [Int.tdiv_eq_ediv_of_nonneg (by omega)]; omega
  have e2:Int.tmod (i:Int) 8=((i % 8:Nat):Int):=by rw [Int.tmod_eq_emod_of_nonneg (by omega)]; omega
  rw [if_pos (lt_t ci),if_pos nat0,Qn cp,e1,e2,Qw (n:=((i / 8:Nat):Int)) (by omega) (by omega),if_pos nat0,Qn hi8,Qw (n:=p.1[g][i / 8]*8) (by omega) (by omega),Qw (n:=p.1[g][i / 8]*8+((i % 8:Nat):Int)) (by omega) (by omega),if_pos nat0,Qn c,if_pos nat0,Qn ci,QdD,Obn,QR (by omega)]
  refine Dr.gat hm' (by omega) fun _ _=>ih (k-1) _ (by omega) ⟨i+1,_,rfl,by omega,by simpa using hm',?_⟩
  rw [←he,List.drop_eq_getElem_cons ci,imgH,gget hi8];congr 2;omega
 ·rw [if_neg (lt_f ci)];rw [List.drop_of_length_le (by omega)] at he
  exact Dr.ret (by rw [←he]; rfl)
theorem QmG {p:PolD} {I:List (List Int)} (hp:polM p=0) (hI:Fit p I):F_ab (p,I,())=some (((0,(QcJ p.1 I (List.replicate 192 0),())),()),()):=by
 have hok:=QeT hp;have h3:=hok.own;refine Dr.eq ?_;unfold F_ab;refine Dr.step (QjT p (Qhn hok)) (Dr.neg (by rw [hp]; simp) (Dr.step (QmF hok hI) (Dr.neg (by simp) ?_)))
 unfold F_aa
 have key:L_aa_3 ((p,(I,((List.replicate ((192:Int)).toNat (Qbr (.int .i64))),((0:Int),())))),((),()))=some (.inl ((QcJ p.1 I (List.replicate 192 0),()),((),()))):=by
  refine Dr.eq ?_
  refine Qaj (fun k u=> ∃(g:Nat) (m':List Int),u=((p,(I,(m',((g:Int),())))),((),()))∧k+g=I.length∧m'.length=192∧QcJ (p.1.drop g) (I.drop g) m'=QcJ p.1 I (List.replicate 192 0)) ?_ I.length _
   ⟨0,_,rfl,by omega,by simp,rfl⟩ (by have:=hI.1; rw [QI]; omega)
  rintro rec k _ ⟨g,m',rfl,hk,hm',he⟩ ih;unfold l_aa_3;dsimp only;have hI1:=hI.1;by_cases c:g< I.length
  ·have c':g< p.1.length:=by omega
   rw [if_pos (lt_t c)];refine Dr.step (Qok hok hI c' c hm') ?_;dsimp only;rw [QR (by omega)]
   refine ih (k-1) _ (by omega) ⟨g+1,_,rfl,by omega,by rw [Qjo]; exact hm',?_⟩
   rw [←he,List.drop_eq_getElem_cons c,List.drop_eq_getElem_cons c',QcJ]
  ·rw [if_neg (lt_f c)];rw [List.drop_of_length_le (by omega:I.length≤g),List.drop_of_length_le (by omega:p.1.length≤g)] at he
   exact Dr.ret (by rw [←he]; rfl)
 refine Dr.step (v:=((QcJ p.1 I (List.replicate 192 0),()),())) ?_ (Dr.ret rfl);exact Dr.eq (Dr.step key (Dr.ret rfl))
theorem QpJ {p:PolD} {I J:List (List Int)} (hp:polM p=0) (hI:Fit p I) (hJ:FitQ p J):F_ag (p,I,J,())=some (((0,boxH (QsY p I J)),()),()):=by
 have hok:=QeT hp;have h3:=hok.own;obtain ⟨hJ1,hJ2⟩:=hJ;have hpl:0< p.2.2.2.1.length:=by have:=hok.plan; omega
 refine Dr.eq ?_;unfold F_ag;refine Dr.step (QmG hp hI) (Dr.neg (by simp) (Dr.neg (by rw [hJ1]; simp) (Dr.step (Qky hok) ?_)))
 refine Dr.step (v:=p.2.2.2.1.getD 0 (0,0,())) (Qct (l:=p.2.2.2.1) (k:=0) _ hpl) ?_;dsimp only
 have key: ∀(Z:Int×QcP) (M:List Int) (t:Int),L_ag_8 ((J,((),((),((0:Int),())))),((Z,(((p.1,(p.2.1,(p.2.2.1,(p.2.2.2.1,(M,(([]:List QQ),((0:Int),(t,((0:Int),()))))))))):QcP),())),()))=
   some (.inl (((),((),())),((Z,(((p.1,(p.2.1,(p.2.2.1,(p.2.2.2.1,(M,(J.map Qij,((0:Int),(t,((0:Int),()))))))))):QcP),())),()))):=by
  intro Z M t;refine Dr.eq ?_;refine Qaj (fun k u=> ∃i:Nat,u=((J,((),((),((i:Int),())))),((Z,(((p.1,(p.2.1,(p.2.2.1,(p.2.2.2.1,(M,((J.take i).map Qij,((0:Int),(t,((0:Int),()))))))))):QcP),())),()))∧k+i=J.length) ?_ J.length _ ⟨0,rfl,by omega⟩ (by rw [QI]; omega)
  rintro rec k _ ⟨i,rfl,hk⟩ ih;unfold l_ag_8;dsimp only;by_cases c:i< J.length
  ·rw [if_pos (lt_t c),if_pos nat0,Qn c,QpO (hJ2 _ (List.getElem_mem c)),Obn];refine Dr.neg (by simp) (Dr.guard (by simp; omega) ?_)
   rw [QR (by omega)]
   refine ih (k-1) _ (by omega) ⟨i+1,?_,by omega⟩
   rw [Qgc c,List.map_append];rfl
  ·rw [if_neg (lt_f c),List.take_of_length_le (by omega)]
   exact Dr.ret rfl
 exact Dr.step (key _ _ _) (Dr.ret rfl)
theorem Qwi (n:Nat):OkQ (([(5:Int),6].drop 0).take n):=⟨by rw [List.length_take]; simp; omega,fun w hw=>by
 have:=List.mem_of_mem_take hw;simp only [List.drop_zero,List.mem_cons,List.not_mem_nil,or_false] at this;unfold WW;omega⟩
theorem QvU {s:SrcD} {k:Int} (hs:Sr s k) (hk:k≤500000):Dr (F_ah (s,())) fun r=>Sr r.2.1 (k+4200)∧ ∃x:QF,r.1.1=boxH x∧HK x∧x.2.2.2.2.2.1=0:=by
 have hk0:=hs.pos;unfold F_ah;refine (Qjv hs (by omega)).bind fun r1 h1=>?_
 obtain ⟨⟨p,pu⟩,s1,su⟩:=r1;simp only at h1⊢;obtain ⟨hs1,hp⟩:=h1;have hok:=QeT hp;have h3:=hok.own
 have key: ∀X:QcP,Dr (L_ah_4 (((),((),((),(([]:List (List Int)),((0:Int),()))))),((X,(p,(s1,()))),()))) fun o=> ∃(J:List (List Int)) (s':SrcD),o= .inl (((),((),((),(J,())))),((X,(p,(s',()))),()))∧Sr s' (k+110)∧FitQ p J:=by
  intro X;refine Qaj (fun m u=> ∃(J:List (List Int)) (s':SrcD),u=(((),((),((),(J,(((J.length:Nat):Int),()))))),((X,(p,(s',()))),()))∧m+J.length=p.1.length∧Sr s' (k+100+(J.length:Int))∧ ∀q∈J,OkQ q) ?_ p.1.length _ ⟨[],s1,rfl,by simp,hs1.le (by simp),by simp⟩ (by rw [QI]; omega)
  rintro rec m _ ⟨J,s',rfl,hm,hs',hq⟩ ih;unfold l_ah_4;dsimp only;by_cases c:J.length< p.1.length
  ·rw [if_pos (lt_t c)];refine (QX hs' (by omega) _).bind fun r4 h4=>?_
   have hb:=h4.2.to3;refine Dr.guard (by show 0≤(0:Int)∧(0:Int)≤r4.1.1∧(r4.1.1:Int)≤2; exact ⟨by omega,hb.2.1,hb.2.2⟩) (Dr.guard (by show (J.length+1)*24≤_; omega) ?_)
   rw [QR (by omega)]
   refine ih (m-1) _ (by omega) ⟨J++[_],r4.2.1,by rw [List.length_append,List.length_singleton],by rw [List.length_append,List.length_singleton]; omega,h4.1.le (by rw [List.length_append,List.length_singleton]; omega),fun q hq'=>?_⟩
   rcases List.mem_append.1 hq' with hq' | hq'
   ·exact hq q hq'
   ·rw [List.mem_singleton.1 hq']; exact Qwi _
  ·rw [if_neg (lt_f c)];exact Dr.ret ⟨J,s',rfl,hs'.le (by omega),by omega,hq⟩
 refine (key _).bind fun o ho=>?_
 obtain ⟨J,s',rfl,hs',hJ⟩:=ho;dsimp only;refine (QrB hok hs' (by omega)).bind fun r9 h9=>?_
 refine Dr.step (QpJ hp h9.2 hJ) (Dr.ret ⟨h9.1.le (by omega),QsY p r9.1.1 J,rfl,QsZ hp hJ.1 hJ.2,rfl⟩)
theorem Qwc {s:SrcD} {k:Int} (hs:Sr s k) (hk:k≤400000):Dr (F_bz (s,())) fun r=>Sr r.2.1 (k+10000)∧QdS 1048576 r.1.1:=by
 have hk0:=hs.pos;unfold F_bz;refine (QvU hs (by omega)).bind fun r1 h1=>?_
 obtain ⟨⟨b,bu⟩,s1,su⟩:=r1;obtain ⟨hs1,x,hb,hx,hc⟩:=h1;simp only at hs1 hb⊢;subst hb;refine (QX hs1 (by omega) _).bind fun r2 h2=>?_
 obtain ⟨⟨n,nu⟩,s2,s2u⟩:=r2;simp only at h2⊢;have hn:(0:Int)≤(n:Int)∧(n:Int)< (60:Int):=bdLt h2.2 (by omega)
 have hc:x.2.2.2.2.2.1=(0:Int):=hc;generalize hN:(n:Int)=N at hn h2⊢;have z1: ∀z:Int,0≤z∧z< 60→(0:Int)+(z.toNat:Int)≤60:=fun z h=>by omega
 have z2: ∀z:Int,0≤z∧z< 60→z.toNat< lots:=fun z h=>by rw [QI]; omega
 have key: ∀X:QcP,Dr (L_bz_3 (((),((),((),(N,())))),((X,(boxH x,(s2,()))),()))) fun o=> ∃y:QF,o= .inl (((),((),((),()))),((X,(boxH y,(s2,()))),()))∧HK y:=by
  intro X;refine Qaj (fun m u=> ∃y:QF,u=(((),((),((),((m:Int),())))),((X,(boxH y,(s2,()))),()))∧HK y∧y.2.2.2.2.2.1+(m:Int)≤60) ?_ N.toNat _ ⟨x,by rw [Int.toNat_of_nonneg hn.1],hx,by rw [hc]; exact z1 N hn⟩ (z2 N hn)
  rintro rec m _ ⟨y,rfl,hy,hl⟩ ih;unfold l_bz_3;dsimp only;have hcl:=hy.clock;by_cases c:0< m
  ·rw [if_pos (by rw [QC]; omega)]
   refine Dr.step (Qor hy (by omega)) ?_
   dsimp only;rw [Qw (by omega) (by omega)]
   exact ih (m-1) _ (by omega) ⟨QP y,by rw [show ((m:Int)-1)=((m-1:Nat):Int) by omega],hy.next (by omega),by show y.2.2.2.2.2.1+1+((m-1:Nat):Int)≤60; omega⟩
  ·obtain rfl:m=0:=by omega
   rw [if_neg (by rw [QC]; omega)]
   exact Dr.ret ⟨y,rfl,hy⟩
 refine (key _).bind fun o ho=>?_
 obtain ⟨y,rfl,hy⟩:=ho;dsimp only;have hyl:=hy.le;refine (QX h2.1 (by omega) _).bind fun r9 h9=>?_
 refine Dr.ite (fun _=>?_) fun _=>Dr.ite (fun _=>?_) fun _=>Dr.ite (fun _=>?_) fun _=>Dr.ite (fun _=>?_) fun _=>Dr.ite (fun _=>?_) fun _=>Dr.ite (fun _=>?_) fun _=>Dr.ite (fun _=>?_) fun _=>?_
 ·exact (QvS h9.1 (by omega)).bind fun r10 h10=>Dr.ret ⟨h10.1.le (by omega),h10.2.up (by omega),hyl.2.1,hyl.2.2.1,hyl.2.2.2⟩
 ·exact (Qpg h9.1 (by omega)).bind fun r11 h11=>Dr.ret ⟨h11.1.le (by omega),hyl.1,Nat.le_trans h11.2 (by omega),hyl.2.2.1,hyl.2.2.2⟩
 ·refine (Qtw h9.1 (by omega)).bind fun r12 h12=>?_
  have hlen:=hy.len;have h3:=hy.ok.own;have i0:((0:Int)).toNat< y.2.2.1.length:=by show 0< _; omega
  refine Dr.guard (by show 0≤(0:Int)∧(0:Int)< ((y.2.2.1.length:Nat):Int); omega) (Dr.step (List.getElem?_eq_getElem i0) (Dr.ret ⟨h12.1.le (by omega),hyl.1,hyl.2.1,?_,fun h hm=>?_⟩))
  ·show (y.2.2.1.set _ _).length≤1048576;rw [List.length_set]; exact hyl.2.2.1
  ·rcases List.mem_or_eq_of_mem_set hm with hm | rfl
   ·exact hyl.2.2.2 h hm
   ·exact h12.2.le
 ·exact (QX h9.1 (by omega) _).bind fun r15 h15=>Dr.ret ⟨h15.1.le (by omega),hyl⟩
 ·exact (QX h9.1 (by omega) _).bind fun r16 h16=>Dr.ret ⟨h16.1.le (by omega),hyl⟩
 ·exact (QbP h9.1 (by omega) _ _).bind fun r18 h18=>Dr.ret ⟨h18.1.le (by omega),hyl⟩
 ·have hlen:=hy.len;have h3:=hy.ok.own;refine Dr.guard (by show 0≤(1:Int)∧(1:Int)≤((y.2.2.1.length:Nat):Int)∧((y.2.2.1.length:Nat):Int)≤((y.2.2.1.length:Nat):Int); omega) (Dr.ret ⟨h9.1.le (by omega),hyl.1,hyl.2.1,?_,fun h hm=>hyl.2.2.2 h (List.mem_of_mem_drop (List.mem_of_mem_take hm))⟩)
  show (((y.2.2.1.drop _).take _).length)≤1048576;rw [List.length_take,List.length_drop];have:=hyl.2.2.1;omega
 ·exact Dr.ret ⟨h9.1.le (by omega),hyl⟩
def zH:QcP:=([],[],[],[],[],[],0,0,0,())
theorem QnC {x:QF} (h:HK x) (hc:x.2.2.2.2.2.1< 1000000):F_ff (x,())=some (((0,boxH (QP x)),()),()):=by
 refine Dr.eq ?_;unfold F_ff;refine Dr.step (QcI x h.le) (Dr.neg (by rw [h.to]; simp) (Dr.neg ?_ (Dr.step (Qnv h) (Dr.step (QnD h hc) (Dr.ret rfl)))))
 rw [beq_iff_eq];show ¬x.2.2.2.2.2.1=1000000;omega
theorem Qin {x:QF} {g:Int} (h:HK x) (hg:isG x.1 g=true):F_ga (x,g,())=some (((0,QaF x g),()),()):=by
 rw [QnG x g h.le,QoF h hg]
def OneW (m m':List Int):Prop:= ∃k:Nat, ∀i,i≠k→m'[i]?=m[i]?
theorem OneW.refl (m:List Int):OneW m m:=⟨0,fun _ _=>rfl⟩
theorem QuH (s:Mc) (l:List TwoD) (op d a i:Int):OneW s.m (exM s l op d a i).2.2.2.m:=by
 unfold exM
 let P:Bool×Int×Int×Mc→Prop:=fun x=>OneW s.m x.2.2.2.m
 have r0:=OneW.refl s.m
 refine Qh P (fun _=>r0) fun _=>Qh P (fun _=>r0) fun _=>Qh P (fun _=>Qh P (fun _=>r0) fun _=>Qh P (fun _=>r0) fun _=>r0) fun _=>
  Qh P (fun _=>Qh P (fun _=>r0) fun h2=>Qh P (fun _=>r0) fun h1=>⟨(Qv s.cs l s.m (addW (s.r.getD a.toNat 0) (off i)) 2).1.toNat,fun j hj=>List.getElem?_set_ne (fun e=>hj e.symm)⟩) fun _=>Qh P (fun _=>r0) fun _=>Qh P (fun _=>r0) fun _=>Qh P (fun _=>r0) fun _=>
  Qh P (fun _=>r0) fun _=>Qh P (fun _=>r0) fun _=>Qh P (fun _=>r0) fun _=>Qh P (fun _=>r0) fun _=>Qh P (fun _=>r0) fun _=>Qh P (fun _=>r0) fun _=>r0
theorem QuE (s:Mc) (l:List TwoD) (op d a i:Int):OneW s.m (doM s l op d a i).2.m:=by
 have h:=QuH s l op d a i;unfold doM;dsimp only;split
 ·exact h
 ·exact h
theorem Qod (s:Mc) (l:List TwoD):OneW s.m (runM s l).m:=by
 unfold runM
 let P:Mc→Prop:=fun x=>OneW s.m x.m
 refine Qh P (fun _=>OneW.refl _) fun _=>Qh P (fun _=>?_) fun _=>OneW.refl _
 generalize (decM (s.m.getD (Qv s.cs l s.m s.pc 4).1.toNat 0))=x;have h:=QuE s l x.1 x.2.1 x.2.2.1 x.2.2.2.1;exact Qh P (fun _=>h) fun _=>h
theorem Qsz (s:Mc) (l:List TwoD):OneW s.m (Qaf s l).m:=by
 unfold Qaf
 let P:Mc→Prop:=fun x=>OneW s.m x.m
 exact Qh P (fun _=>OneW.refl _) fun _=>Qh P (fun _=>OneW.refl _) fun _=>Qh P (fun _=>Qh P (fun _=>OneW.refl _) fun _=>Qod { s with ring:= -1,fall:= -1,wa:=false } l) fun _=>Qod { s with ring:= -1,fall:= -1 } l
theorem Qma {a b:List Int}: ∀(j i:Nat),anyA a b i j=true→ ∃k,i≤k∧k< i+j∧b[k]?≠a[k]?
 | 0,i,h=>by simp [anyA] at h
 | j+1,i,h=>by
  simp only [anyA,Bool.or_eq_true] at h;rcases h with h | h
  ·refine ⟨i,by omega,by omega,fun e=>?_⟩
   unfold chA at h;rw [e] at h;simp at h
  ·obtain ⟨k,k1,k2,k3⟩:=Qma j (i+1) h;exact ⟨k,by omega,by omega,k3⟩
theorem QmA {a b:List Int} {q:Int}: ∀(n p:Nat),q∈QaO a b p n→ ∃k:Nat,b[k]?≠a[k]?∧q=((k / 8:Nat):Int)∧8*p≤k
 | 0,p,h=>by simp [QaO] at h
 | n+1,p,h=>by
  simp only [QaO,List.mem_append] at h;rcases h with h | h
  ·split at h
   ·rename_i c;obtain ⟨k,k1,k2,k3⟩:=Qma _ _ c;exact ⟨k,k3,by rw [List.mem_singleton.1 h]; omega,by omega⟩
   ·cases h
  ·obtain ⟨k,k1,k2,k3⟩:=QmA n (p+1) h;exact ⟨k,k1,k2,by omega⟩
theorem QqG {a b:List Int} (h:OneW a b): ∀(n p:Nat),(QaO a b p n).length≤1
 | 0,p=>by simp [QaO]
 | n+1,p=>by
  have ih:=QqG h n (p+1);simp only [QaO];split
  ·rename_i c;obtain ⟨k,hk⟩:=h;obtain ⟨k0,a1,a2,a3⟩:=Qma _ _ c;have e0:k0=k:=Decidable.byContradiction fun hne=>a3 (hk k0 hne)
   have:QaO a b (p+1) n=[]:=by
    rw [List.eq_nil_iff_forall_not_mem];intro q hq;obtain ⟨k2,b1,b2,b3⟩:=QmA n (p+1) hq;have e2:k2=k:=Decidable.byContradiction fun hne=>b1 (hk k2 hne)
    omega
   rw [this]; simp
  ·exact ih
theorem Qps {x:QF} {o:Int} (h:HK x) (ho:isG x.1 o=true) (hne:turnG x≠o):QaF (QP x) o=setF (QaF x o) (Qdo (QaF (QP x) o)):=by
 have hok:=h.ok;have e1:Qaq (QP x).2.1 (ownL x.1 o)=Qaq x.2.1 (ownL x.1 o):=QfG fun P hP=>h.stays ho hne ((hok.own1 _ (Qcl hok ho)).2.2 _ hP).1 (.inl hP)
 have e2:Qaq (QP x).2.1 (QaM o true x.1.2.1)=Qaq x.2.1 (QaM o true x.1.2.1):=QfG fun P hP=>by
  obtain ⟨l,hl,g1,g2⟩:=Qjl hP;exact h.stays ho hne (by rw [←g2]; exact (QbO hok l hl).2.1.1) (.inr ⟨l,hl,g1,g2⟩)
 have eh:calm ((QP x).2.2.1.getD o.toNat QY)=calm (x.2.2.1.getD o.toNat QY):=by rw [QgC,Qdp h ho hne]
 have ep:(QP x).1=x.1:=rfl;unfold QaF;rw [ep];have e1':Qaq (QP x).2.1 (x.1.1.getD o.toNat [])=Qaq x.2.1 (x.1.1.getD o.toNat []):=e1;rw [e1',e2];generalize Qaq x.2.1 (x.1.1.getD o.toNat [])=W;generalize Qaq x.2.1 (QaM o true x.1.2.1)=G;generalize x.2.2.1.getD o.toNat QY=k at eh;generalize (QP x).2.2.1.getD o.toNat QY=q at eh;obtain ⟨a1,a2,a3,a4,a5,a6,a7,a8,a9,_⟩:=q;obtain ⟨b1,b2,b3,b4,b5,b6,b7,b8,b9,_⟩:=k;unfold calm at eh;simp only [Pmi] at eh;obtain ⟨rfl,rfl,rfl,rfl,rfl,_,rfl,rfl,rfl,_⟩:=eh;rfl
theorem QpB {x:QF} {o:Int} (h:HK x) (ho:isG x.1 o=true) (hne:turnG x≠o) (hr:Qdo (QaF (QP x) o)=true):Qdo (QaF x o)=true∨ ∃b∈x.1.2.2.1,b.1=turnG x∧b.2.1=o:=by
 by_cases c:QbB x=true∧(QS x).ring.toNat=o.toNat
 ·right;have hg:=Qbi.1 (Qho h c.1);have ho':=Qbi.1 ho;have c1:=c.1;unfold QbB at c1;obtain ⟨b,hb,e⟩:=List.any_eq_true.1 c1;have e:=QqN.1 e;exact ⟨b,hb,e.1,by rw [e.2]; omega⟩
 ·left
  have e:(QP x).2.2.1.getD o.toNat QY=x.2.2.1.getD o.toNat QY:=by
   rw [QfK x o (fun h1 h2=>c ⟨h1,h2⟩),Qdp h ho hne]
  have q:Qdo (QaF (QP x) o)=((QP x).2.2.1.getD o.toNat QY).2.2.2.2.2.1:=rfl;have q':Qdo (QaF x o)=(x.2.2.1.getD o.toNat QY).2.2.2.2.2.1:=rfl;rw [q', ←e, ←q]; exact hr
theorem QpC {x:QF} {o:Int} (h:HK x) (ho:isG x.1 o=true) (hne:turnG x≠o) (hr:Qdo (QaF x o)=true):Qdo (QaF (QP x) o)=true:=by
 have ho':=(h.guest ho).1;have q:Qdo (QaF (QP x) o)=((QP x).2.2.1.getD o.toNat QY).2.2.2.2.2.1:=rfl;have q':(x.2.2.1.getD o.toNat QY).2.2.2.2.2.1=true:=hr;rw [q];by_cases c:QbB x=true∧(QS x).ring.toNat=o.toNat
 ·unfold QP;dsimp only;rw [if_pos c.1];unfold Qbc;rw [c.2,QcW (by rw [Qbv]; omega)]
  rfl
 ·rw [QfK x o (fun h1 h2=>c ⟨h1,h2⟩),Qdp h ho hne]
  exact q'
theorem QuT (L:List Int) (v:Int) (hl:L.length≤1000):F_fx (L,v,())=some ((decide (v∈L),()),()):=by
 refine Dr.eq ?_;unfold F_fx
 have key:Dr (L_fx_2 ((L,(v,((0:Int),()))),((),()))) fun o=>(v∈L→o= .inr (.inl ((true,()),((),()))))∧(v∉L→o= .inl ((),((),()))):=by
  refine Qaj (fun m u=> ∃i:Nat,u=((L,(v,((i:Int),()))),((),()))∧m+i=L.length∧(v∈L.drop i↔v∈L)) ?_ L.length _ ⟨0,rfl,by omega,by simp⟩ (by rw [QI]; omega)
  rintro rec m _ ⟨i,rfl,hm,he⟩ ih;unfold l_fx_2;dsimp only;by_cases ci:i< L.length
  ·rw [if_pos (lt_t ci),if_pos nat0,Qn ci];rw [List.drop_eq_getElem_cons ci] at he;by_cases c:L[i]=v
   ·refine Dr.pos (by simpa using c) (Dr.ret ⟨fun _=>rfl,fun h=>absurd (he.1 (by rw [c]; simp)) h⟩)
   ·refine Dr.neg (by simpa using c) ?_
    rw [QR (by omega)]
    refine ih (m-1) _ (by omega) ⟨i+1,rfl,by omega,?_⟩
    rw [←he];simp only [List.mem_cons];exact ⟨.inr,fun h=>h.elim (fun h=>absurd h.symm c) id⟩
  ·rw [if_neg (lt_f ci)];rw [List.drop_of_length_le (by omega)] at he
   exact Dr.ret ⟨fun h=>absurd (he.2 h) (by simp),fun _=>rfl⟩
 refine key.bind fun o ho=>?_
 by_cases c:v∈L
 ·rw [ho.1 c];exact Dr.ret (by simp [c])
 ·rw [ho.2 c];exact Dr.ret (by simp [c])
theorem Qui {x:QF} (hx:QdS 1048576 x):(HK x∧x.2.2.2.2.2.1< 1000000∧F_ff (x,())=some (((0,boxH (QP x)),()),()))∨
  ∃(c:Int) (z z':QcP),c≠0∧F_ff (x,())=some (((c,z),()),())∧F_fm (x,())=some (((c,z'),()),()):=by
 by_cases h0:Qch x=0
 ·have h:=HK.of h0;have hcl:=h.clock;by_cases hc:x.2.2.2.2.2.1< 1000000
  ·exact .inl ⟨h,hc,QnC h hc⟩
  ·refine .inr ⟨3,zH,zH,by decide,?_,?_⟩
   ·refine Dr.eq ?_;unfold F_ff;refine Dr.step (QcI x hx) (Dr.neg (by rw [h0]; simp) (Dr.pos ?_ (Dr.ret rfl)))
    rw [beq_iff_eq];show x.2.2.2.2.2.1=1000000;omega
   ·refine Dr.eq ?_;unfold F_fm;refine Dr.step (QiA x hx) (Dr.neg (by rw [h0]; simp) (Dr.pos ?_ (Dr.ret rfl)))
    rw [Qba];show 1000000≤x.2.2.2.2.2.1;omega
 ·refine .inr ⟨Qch x,zH,zH,h0,?_,?_⟩
  ·refine Dr.eq ?_;unfold F_ff;exact Dr.step (QcI x hx) (Dr.pos (by simpa using h0) (Dr.ret rfl))
  ·refine Dr.eq ?_;unfold F_fm;exact Dr.step (QiA x hx) (Dr.pos (by simpa using h0) (Dr.ret rfl))
theorem Qvc (X:QcP) (R:Int×QcP) (g a b:Int) (M C:List Int) (hM:M.length≤1000) (hC:C.length≤1000) (h: ∀q∈C,q∈M):
  Dr (L_gd_13 (((),((),(g,((),((),((0:Int),())))))),((X,(R,((a,(M,())),((b,(C,())),())))),()))) fun o=>o= .inl (((),((),(g,()))),((X,(R,())),())):=by
 refine Qaj (fun m u=> ∃i:Nat,u=(((),((),(g,((),((),((i:Int),())))))),((X,(R,((a,(M,())),((b,(C,())),())))),()))∧m+i=C.length) ?_ C.length _ ⟨0,rfl,by omega⟩ (by rw [QI]; omega)
 rintro rec m _ ⟨i,rfl,hm⟩ ih;unfold l_gd_13;dsimp only;by_cases ci:i< C.length
 ·rw [if_pos (lt_t ci),if_pos (show (0:Int)≤(i:Int)∧(i:Int)< ((C.length:Nat):Int) by omega),Qn ci]
  refine Dr.step (QuT M _ hM) (Dr.neg (by simp [h _ (List.getElem_mem ci)]) ?_)
  rw [QR (by omega)]
  exact ih (m-1) _ (by omega) ⟨i+1,rfl,by omega⟩
 ·rw [if_neg (lt_f ci)];exact Dr.ret rfl
theorem Qve (X:QcP) (R:Int×QcP) (V W:QeY) (g o:Int) (fa fb:Bool) (hl:X.2.2.1.length≤1000) (h: ∃b∈X.2.2.1,b.1=g∧b.2.1=o):
  Dr (L_gd_26 (((),((),(g,(o,((),((),(false,((0:Int),((),((),(fa,(fb,())))))))))))),((X,(R,(V,(W,())))),()))) fun r=>r= .inl (((),((),(g,(o,((),((),(true,((),((),(fa,(fb,()))))))))))),((X,(R,(V,(W,())))),())):=by
 refine Qaj (fun m u=> ∃(i:Nat) (c:Bool),u=(((),((),(g,(o,((),((),(c,((i:Int),((),((),(fa,(fb,())))))))))))),((X,(R,(V,(W,())))),()))∧m+i=X.2.2.1.length∧(c=true∨ ∃b∈X.2.2.1.drop i,b.1=g∧b.2.1=o)) ?_ X.2.2.1.length _ ⟨0,false,rfl,by omega,.inr (by simpa using h)⟩ (by rw [QI]; omega)
 rintro rec m _ ⟨i,c,rfl,hm,he⟩ ih;unfold l_gd_26;dsimp only;by_cases ci:i< X.2.2.1.length
 ·rw [if_pos (lt_t ci)];cases c with
  | true=>
   refine Dr.neg (by simp) ?_
   rw [QR (by omega)]
   exact ih (m-1) _ (by omega) ⟨i+1,true,rfl,by omega,.inl rfl⟩
  | false=>
   have he:=he.resolve_left (by decide)
   rw [List.drop_eq_getElem_cons ci] at he;refine Dr.pos rfl ?_;rw [if_pos nat0,Qn ci];by_cases c1:(X.2.2.1[i]).1=g
   ·refine Dr.pos (by simpa using c1) ?_
    rw [if_pos nat0,Qn ci,QR (by omega)]
    refine ih (m-1) _ (by omega) ⟨i+1,_,rfl,by omega,?_⟩
    obtain ⟨b,hb,e1,e2⟩:=he;rcases List.mem_cons.1 hb with rfl | hb
    ·exact .inl (by simpa using e2)
    ·exact .inr ⟨b,hb,e1,e2⟩
   ·refine Dr.neg (by simpa using c1) ?_
    rw [QR (by omega)]
    refine ih (m-1) _ (by omega) ⟨i+1,_,rfl,by omega,?_⟩
    obtain ⟨b,hb,e1,e2⟩:=he;rcases List.mem_cons.1 hb with rfl | hb
    ·exact absurd e1 c1
    ·exact .inr ⟨b,hb,e1,e2⟩
 ·rw [if_neg (lt_f ci)];rw [List.drop_of_length_le (by omega)] at he
  rcases he with rfl | ⟨b,hb,_⟩
  ·exact Dr.ret rfl
  ·cases hb
theorem QhW (v:QeY):setF v (Qdo v)=v:=rfl
theorem Qsj (v:QeY) (a b:Bool):setF (setF v a) b=setF v b:=rfl
theorem Qvd {x:QF} (h:HK x) (hc:x.2.2.2.2.2.1< 1000000):
  Dr (L_gd_18 (((),((),(turnG x,((0:Int),())))),((boxH x,(((0:Int),boxH (QP x)),())),()))) fun o=>o= .inl (((),()),((((0:Int),boxH (QP x)),()),())):=by
 have hn:=h.next hc;have hlen:=h.len;have h3:=h.ok.own;refine Qaj (fun m u=> ∃i:Nat,u=(((),((),(turnG x,((i:Int),())))),((boxH x,(((0:Int),boxH (QP x)),())),()))∧m+i=x.2.2.1.length) ?_ x.2.2.1.length _ ⟨0,rfl,by omega⟩ (by rw [QI]; omega)
 rintro rec m _ ⟨i,rfl,hm⟩ ih;unfold l_gd_18;dsimp only;by_cases ci:i< x.2.2.1.length
 ·rw [if_pos (show ltI (i:Int) (((boxH x).2.2.2.2.2.1.length:Nat):Int)=true from lt_t ci)]
  have go:=ih (m-1) _ (by omega) ⟨i+1,rfl,by omega⟩
  by_cases ct:(i:Int)=turnG x
  ·refine Dr.pos (by simpa using ct) ?_
   rw [QR (by omega)]
   exact go
  ·refine Dr.neg (by simpa using ct) ?_
   have ho:isG x.1 (i:Int)=true:=Qbi.2 (by omega)
   have hne:turnG x≠(i:Int):=fun e=>ct e.symm
   have ev:=Qps h ho hne;have vl:=Qur h ho;refine Dr.step (Qin h ho) (Dr.step (Qin hn ho) ?_);dsimp only;show Dr (if Qdo (QaF (QP x) (i:Int))=true then _ else _) _
   cases hf:Qdo (QaF (QP x) (i:Int)) with
   | true=>
    refine Dr.pos rfl ?_;show Dr (if (!Qdo (QaF x (i:Int)))=true then _ else _) _
    cases hf2:Qdo (QaF x (i:Int)) with
    | true=>
     refine Dr.neg (by simp) (Dr.step (QmC (v:=QaF x (i:Int)) (w:=QaF (QP x) (i:Int)) vl).2 ?_)
     have ew:QaF (QP x) (i:Int)=QaF x (i:Int):=by
      have q:=QhW (QaF x (i:Int));rw [hf2] at q;rw [ev,hf]; exact q
     rw [ew,QgK vl];refine Dr.neg (by simp) ?_
     rw [QR (by omega)]
     exact go
    | false=>
     have hb:=(QpB h ho hne hf).resolve_left (by rw [hf2]; decide)
     have hbl:=h.ok.bells.1;refine Dr.pos rfl ((Qve (boxH x) ((0:Int),boxH (QP x)) (QaF x (i:Int)) (QaF (QP x) (i:Int)) (turnG x) (i:Int) _ _ (by show x.1.2.2.1.length≤1000; omega) hb).bind fun o ho'=>?_)
     subst ho';dsimp only;refine Dr.neg (by simp) (Dr.step (QmC (v:=QaF x (i:Int)) (w:=setF (QaF (QP x) (i:Int)) false) vl).2 ?_)
     rw [ev,Qsj, ←hf2,QhW,QgK vl];refine Dr.neg (by simp) ?_
     rw [QR (by omega)]
     exact go
   | false=>
    refine Dr.neg (by simp) (Dr.step (QmC (v:=QaF x (i:Int)) (w:=QaF (QP x) (i:Int)) vl).2 ?_)
    have hf2:Qdo (QaF x (i:Int))=false:=by
     cases hf2:Qdo (QaF x (i:Int)) with
     | false=>rfl
     | true=>rw [QpC h ho hne hf2] at hf; cases hf
    rw [ev,hf, ←hf2,QhW,QgK vl];refine Dr.neg (by simp) ?_
    rw [QR (by omega)]
    exact go
 ·rw [if_neg (show ¬ltI (i:Int) (((boxH x).2.2.2.2.2.1.length:Nat):Int)=true from lt_f ci)]
  exact Dr.ret rfl
theorem Qvf (c:List Int) (hb: ∀b∈c,0≤b∧b≤255):Yes (F_gd (c,())):=by
 unfold F_gd F_a;refine Dr.step rfl (Dr.ite (fun _=>yes rfl) fun h0=>?_)
 have h0: ¬(1048576:Int)< ((c.length:Nat):Int):=by rw [QC] at h0; exact h0
 refine Dr.bind (Q:=fun r=>QdS 1048576 r.1.1) ?_ fun r2 h2=>?_
 ·unfold F_ca;exact (Quf (QvT h0 hb)).bind fun r h=>(Qwc h (by omega)).bind fun r' h'=>Dr.ret h'.2
 obtain ⟨⟨x,xu⟩,x2⟩:=r2;have hx:QdS 1048576 x:=h2;clear h2;obtain ⟨x,rfl⟩: ∃y:QF,y=x:=⟨x,rfl⟩;rcases Qui hx with ⟨h,hc,e⟩ | ⟨cd,z,z',hcd,e1,e2⟩
 case inr=>exact Dr.step e1 (Dr.pos (by simpa using hcd) (Dr.step e2 (yes (by simp))))
 have ht:=h.turn;have hn:=h.next hc;have hnd:=Qrd h.ok ht.2.2.1;have hsr:=QmJ hnd;have hwl:=Qko (pgM x.1 (turnG x));rw [Qda] at hwl
 have eM:mayM x.1 (turnG x)=(0,srt (wpgs (pgM x.1 (turnG x))),()):=by
  unfold mayM;rw [if_neg (by simpa using QvR h.pol ht.2.2.1)]
 have e6:=QrJ x.1 (turnG x) (Qhn h.ok);rw [eM] at e6;have hm:=h.mem;have hm':=hn.mem
 have eC:changed x.2.1 (QP x).2.1=(0,QaO x.2.1 (QP x).2.1 0 24,()):=by
  unfold changed;rw [if_neg (by simpa using hm.1),if_neg (by simpa using hm'.1),if_neg (by rw [hm.2,hm'.2]; simp),hm.2]
 have e7:=Qjq x.2.1 (QP x).2.1 (by rw [hm.2]; decide) (by rw [hm'.2]; decide)
 rw [eC] at e7;have one:=QqG (a:=x.2.1) (b:=(QP x).2.1) (Qsz (Mc.of (x.2.2.1.getD (turnG x).toNat QY) x.2.1) (pgM x.1 (turnG x))) 24 0
 have hin: ∀q∈QaO x.2.1 (QP x).2.1 0 24,q∈srt (wpgs (pgM x.1 (turnG x))):=fun q hq=>by
  obtain ⟨k,k1,k2,_⟩:=QmA 24 0 hq;obtain ⟨p,p1,p2,p3⟩:=h.stepP.mem k k1;rw [hsr.2.1];unfold wpgs;rw [List.mem_map];exact ⟨p,List.mem_filter.2 ⟨p1,by unfold wrP; simpa using p3⟩,by rw [p2,k2]⟩
 refine Dr.step e (Dr.neg (by simp) (Dr.guard ht.1.1 (Dr.step ht.2.2.2 (Dr.step e6 (Dr.step e7 (Dr.pos rfl (Dr.pos rfl ?_)))))))
 dsimp only;refine Dr.neg (by rw [QC]; omega) ((Qvc (boxH x) ((0:Int),boxH (QP x)) (turnG x) 0 0 (srt (wpgs (pgM x.1 (turnG x)))) (QaO x.2.1 (QP x).2.1 0 24) (by rw [hsr.2.2]; omega) (by omega) hin).bind fun o ho=>?_)
 subst ho;dsimp only;refine (Qvd h hc).bind fun o ho=>?_
 subst ho;dsimp only;exact Dr.step (QcI (QP x) hn.le) (yes (by rw [hn.to]; rfl))
theorem QwE: ∀x,inRP P_a x→F_gd x=some ((true,()),()):=by
 rintro ⟨c,_⟩ ⟨hc,_⟩
 exact (Qvf c fun b hb=>by
  have:=hc.2 b hb;have h1:IntKind.u8.min=0:=by decide
  have h2:IntKind.u8.max=255:=by decide
  simp only [inR,h1,h2] at this;exact this).eq
end Go.Proofs.YtkkljegcnnfanaaGreatDoor
