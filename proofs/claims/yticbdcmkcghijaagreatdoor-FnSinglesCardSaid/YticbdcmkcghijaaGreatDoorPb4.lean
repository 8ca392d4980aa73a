/- Plain laws: what the functions compute, and that both programs compute the same. -/
import Derived.Test.YticbdcmkcghijaaGreatDoorPb3
namespace Go.Proofs.YticbdcmkcghijaaGreatDoor
open Go Go.RowKit S Go.Proofs
set_option maxRecDepth 100000
theorem Qtl {p:PolD} {g t:Int} (hok:OkPol p) (hg:isG p g=true) (ht:isG p t=true) (hne:t≠g) {P:Int} (h0:0≤P) (hP:P∈ownL p g∨ ∃y∈p.2.1,y.1=g∧y.2.2.1=P): ∀q∈pgM p t,q.1=P→iand .i64 q.2.1 2=0:=by
 intro q hq e
 obtain ⟨k,hk,rfl⟩:=List.mem_iff_getElem.1 hq
 have ek:(pgM p t)[k]=pgAt (pgM p t) k:=(gget hk).symm
 rw [ek] at e⊢
 rcases Qfn hok ht (k:=k) (by omega) with ⟨a1,a2⟩ | ⟨x,hx,a1,a2,a3⟩ | ⟨x,hx,a1,a2,a3⟩
 ·rw [a2] at e
  have hm:P∈ownL p t:=e▸Qfk a1
  rcases hP with hP | ⟨y,hy,c1,c2⟩
  ·exact (QrE hok hg ht hne hP hm).elim
  ·exact (Qhw hok hy (QcV hok ht) (c2▸hm)).elim
 ·rw [a3] at e
  dsimp only at e
  rcases hP with hP | ⟨y,hy,c1,c2⟩
  ·exact (Qhw hok hx (QcV hok hg) (e▸hP)).elim
  ·obtain rfl:=Qea hok hx hy (e.trans c2.symm)
   exact (hne (a1.symm.trans c1)).elim
 ·rw [a3]; show iand .i64 1 2=0; decide
theorem Qur {l:List TwoD} {m m':List Int} (h:MemW l m m') {P:Int} (h0:0≤P) (hq: ∀q∈l,q.1=P→iand .i64 q.2.1 2=0):pg m' P=pg m P:=by
 unfold pg
 apply List.ext_getElem?
 intro i
 by_cases hi:i< 8
 ·simp only [List.getElem?_take,if_pos hi,List.getElem?_drop]
  apply Decidable.byContradiction
  intro hne
  obtain ⟨q,hm,e1,e2⟩:=h _ hne
  exact e2 (hq q hm (by rw [e1]; omega))
 ·rw [List.getElem?_eq_none (by simp; omega),List.getElem?_eq_none (by simp; omega)]
theorem QiC {l:List TwoD} (hl:l.length=8) {k:Nat} (hk:k< 8):pgAt (Qdg l) k=if 0≤(pgAt l k).1 then ((k:Int),(pgAt l k).2) else pgAt l k:=by
 have h1:k< l.length:=by omega
 rw [pgAt,gget (by rw [Qgh]; exact h1),QqH h1,pgAt,gget h1]
theorem QrO {p:PolD} {g:Int} (hok:OkPol p) (hg:isG p g=true) {m m':List Int} (h: ∀k,k< 8→0≤(pgAt (pgM p g) k).1→pg m (pgAt (pgM p g) k).1=pg m' (k:Nat)):Sim (pgM p g) (Qdg (pgM p g)) m m':=by
 have hl:=QeC p g
 have ha:=fun {k:Nat} (hk:k< 8)=>QiC hl hk
 refine ⟨⟨hl,by rw [Qgh]; exact hl⟩,fun k hk=>?_,fun k hk=>?_,fun k hk=>⟨(Qmn hok hg hk).2,?_⟩,fun i j _ _=>Qpd hok hg i j,fun i j hi hj h0 he=>?_,fun k hk h0=>?_⟩
 ·rw [ha hk]; split <;> rfl
 ·rw [ha hk]; split
  ·rename_i c; exact ⟨fun _=>by dsimp only; omega,fun _=>c⟩
  ·exact Iff.rfl
 ·have:=(Qmn hok hg hk).2
  rw [ha hk]; split
  ·dsimp only; omega
  ·exact this
 ·rw [ha hi] at h0 he
  rw [ha hj] at he
  split at h0
  ·rename_i c
   rw [if_pos c] at he
   split at he
   ·dsimp only at he; omega
   ·dsimp only at he; omega
  ·rename_i c; exact absurd h0 c
 ·rw [ha hk,if_pos h0]; exact h k hk h0
theorem Qtx {s ws:List Int} {k:Nat} {j:Int} (hs:s.length=64) (hk:k< 8) (hw:ws.length=8) (hj:0≤j∧j< 8):pg (Qif s k ws) j=if j=(k:Int) then ws else pg s j:=by
 obtain ⟨J,rfl⟩: ∃J:Nat,j=(J:Int):=⟨j.toNat,by omega⟩
 unfold pg Qif
 rw [Int.toNat_natCast]
 apply List.ext_getElem?
 intro i
 by_cases hi:i< 8
 ·rw [List.getElem?_take,if_pos hi,List.getElem?_drop]
  by_cases c:J=k
  ·subst c
   rw [if_pos rfl,List.getElem?_append_right (by simp; omega),List.length_take,Nat.min_eq_left (by omega),Nat.add_sub_cancel_left,List.getElem?_append_left (by omega)]
  ·rw [if_neg (by omega),List.getElem?_take,if_pos hi,List.getElem?_drop]
   by_cases d:J< k
   ·rw [List.getElem?_append_left (by simp; omega),List.getElem?_take,if_pos (by omega)]
   ·rw [List.getElem?_append_right (by simp; omega),List.length_take,Nat.min_eq_left (by omega),List.getElem?_append_right (by omega),List.getElem?_drop,hw]
    congr 1
    omega
 ·rw [List.getElem?_eq_none (by simp; omega)]
  split
  ·rw [List.getElem?_eq_none (by omega)]
  ·rw [List.getElem?_eq_none (by simp; omega)]
def calm (h:QO):QO:=(h.1,h.2.1,h.2.2.1,h.2.2.2.1,h.2.2.2.2.1,false,h.2.2.2.2.2.2)
theorem Quc {h k:QO} (e:calm h=calm k) (er:h.2.2.2.2.2.1=k.2.2.2.2.2.1):h=k:=by
 obtain ⟨a1,a2,a3,a4,a5,a6,a7⟩:=h
 obtain ⟨b1,b2,b3,b4,b5,b6,b7⟩:=k
 unfold calm at e
 simp only [Pmi] at e er
 obtain ⟨rfl,rfl,rfl,rfl,rfl,_,rfl⟩:=e
 rw [er]
structure Rl (x:QC) (s:QbA) (g:Int):Prop where
 hk:HK x
 hs:QcN s=0
 hg:isG x.1 g=true
 pages:s.2.1=Qdg (pgM x.1 g)
 hart:calm s.1=calm (x.2.2.1.getD g.toNat Qam)
 own: ∀k,k< (ownL x.1 g).length→pg x.2.1 ((ownL x.1 g).getD k 0)=pg s.2.2.1 (k:Nat)
 gives: ∀y∈x.1.2.1,y.1=g→pg x.2.1 y.2.2.1=pg s.2.2.1 y.2.2.2.1
theorem Qfx {m:List Int} {g:Int} {j:Int}: ∀{r:List QL} {q:List Int},q.length=64→(∀y∈r,Qen y∧(pg m y.2.2.1).length=8)→0≤j∧j< 8→(∀y∈r,y.2.1=g→y.2.2.2.2.1≠j)→pg (QeX m g r q) j=pg q j
 | [],_,_,_,_,_=>rfl
 | y::r,q,hq,h1,hj,h2=>by
  have b:=h1 y (by simp)
  rw [QeX]
  by_cases c:y.2.1=g
  ·rw [if_pos c,Qfx (QhE hq (by have:=b.1.2.2; omega) b.2) (fun z hz=>h1 z (List.mem_cons_of_mem _ hz)) hj (fun z hz=>h2 z (List.mem_cons_of_mem _ hz)),Qtx hq (by have:=b.1.2.2; omega) b.2 hj,if_neg (by have:=h2 y (by simp) c; have:=b.1.2.2; omega)]
  ·rw [if_neg c]
   exact Qfx hq (fun z hz=>h1 z (List.mem_cons_of_mem _ hz)) hj (fun z hz=>h2 z (List.mem_cons_of_mem _ hz))
theorem QpY {m:List Int} {g:Int} {x:QL}: ∀{r:List QL} {q:List Int},q.length=64→(∀y∈r,Qen y∧(pg m y.2.2.1).length=8)→r.Pairwise (fun o l=>clash l o=false)→x∈r→x.2.1=g→pg (QeX m g r q) x.2.2.2.2.1=pg m x.2.2.1
 | y::r,q,hq,h1,h2,hx,hg=>by
  have b:=h1 y (by simp)
  rw [List.pairwise_cons] at h2
  have hp:(Qif q y.2.2.2.2.1.toNat (pg m y.2.2.1)).length=64:=QhE hq (by have:=b.1.2.2; omega) b.2
  rw [QeX]
  rcases List.mem_cons.1 hx with rfl | hx
  ·have:=b.1.2.2
   rw [if_pos hg,Qfx hp (fun z hz=>h1 z (List.mem_cons_of_mem _ hz)) (by omega) (fun z hz zg ze=>?_),Qtx hq (by omega) b.2 (by omega),if_pos (by omega)]
   have:=Qhm (h2.1 z hz) (Qdk (x:=x) (g:=g) (k:=x.2.2.2.2.1).2 (.inr ⟨hg,rfl⟩))
   rw [Qdk.2 (.inr ⟨zg,ze⟩)] at this
   cases this
  ·exact QpY (by split; exact hp; exact hq) (fun z hz=>h1 z (List.mem_cons_of_mem _ hz)) h2.2 hx hg
section
variable {x:QC} {s:QbA} {g:Int}
theorem Rl.lanes (h:Rl x s g): ∀y∈x.1.2.1,Qen y∧(pg x.2.1 y.2.2.1).length=8:=fun y hy=>⟨Qch h.hk.ok y hy,(Qqe h.hk hy).2.2.1⟩
theorem Rl.sim (h:Rl x s g):Sim (pgM x.1 g) (Qdg (pgM x.1 g)) x.2.1 (QeX x.2.1 g x.1.2.1 s.2.2.1):=by
 have hok:=h.hk.ok
 have hm:s.2.2.1.length=64:=(QfM h.hs).2.2.2
 refine QrO hok h.hg fun k hk h0=>?_
 have keep:(∀y∈x.1.2.1,y.2.1=g→y.2.2.2.2.1≠(k:Int))→pg (QeX x.2.1 g x.1.2.1 s.2.2.1) ((k:Nat):Int)=pg s.2.2.1 (k:Nat):=fun c=>Qfx hm h.lanes (by omega) c
 rcases Qfn hok h.hg h0 with ⟨a1,a2⟩ | ⟨y,hy,a1,a2,a3⟩ | ⟨y,hy,a1,a2,a3⟩
 ·have h5:=(Qfj hok h.hg).2
  rw [a2,keep fun y hy _=>by have:=(Qch hok y hy).2.2; omega]
  exact h.own k a1
 ·rw [a3,keep fun z hz zg ze=>?_]
  ·rw [←a2]; exact h.gives y hy a1
  ·have q1:=QgX hok h.hg hy a1
   have q2:=QvS hok h.hg hz zg
   rw [a2] at q1
   rw [ze,q1] at q2
   exact absurd (congrArg (fun w:TwoD=>w.2.1) q2) (by dsimp only; decide)
 ·rw [a3, ←a2]
  exact (QpY hm h.lanes (QgP hok) hy a1).symm
theorem QiZ (x:QC) (g:Int):calm ((QaU x).2.2.1.getD g.toNat Qam)=calm ((QQ x).getD g.toNat Qam):=by
 unfold QaU
 dsimp only
 split
 ·unfold Qbd
  by_cases e:(QR x).ring.toNat=g.toNat
  ·rw [e]
   by_cases hl:g.toNat< (QQ x).length
   ·rw [QdG hl]; rfl
   ·rw [List.set_eq_of_length_le (by omega)]
  ·rw [QcS e]
 ·rfl
theorem HK.stepP (h:HK x):StepP (pgM x.1 (turnG x)) { (Mc.of (x.2.2.1.getD (turnG x).toNat Qam) x.2.1) with ring:= -1,fall:= -1 } (QR x):=by
 have:=(QuM (QeC x.1 (turnG x)) (Mc.of (x.2.2.1.getD (turnG x).toNat Qam) x.2.1) (h.okS.d.2)).1
 exact this
theorem HK.stays (h:HK x) (hg:isG x.1 g=true) (hne:turnG x≠g) {P:Int} (h0:0≤P) (hP:P∈ownL x.1 g∨ ∃y∈x.1.2.1,y.1=g∧y.2.2.1=P):pg (QaU x).2.1 P=pg x.2.1 P:=
 Qur (l:=pgM x.1 (turnG x)) (m:=x.2.1) (m':=(QR x).m) h.stepP.mem h0 (Qtl h.ok hg h.turn.2.2.1 hne h0 hP)
theorem HK.ownP (h:HK x) (hg:isG x.1 g=true) {k:Nat} (hk:k< (ownL x.1 g).length):0≤(ownL x.1 g).getD k 0:=((h.ok.own1 _ (QcV h.ok hg)).2.2 _ (Qfk hk)).1
theorem Rl.next (h:Rl x s g) (hc:x.2.2.2.2.2.1< 1000000):Rl (QaU x) (if turnG x=g then Qve x s g else s) g:=by
 have hok:=h.hk.ok
 by_cases ht:turnG x=g
 ·rw [if_pos ht]
  have e1:(Qii x s g).1=x.2.2.1.getD g.toNat Qam:=Quc h.hart rfl
  have e2:(Qii x s g).2.1=Qdg (pgM x.1 g):=h.pages
  have hsim:Sim (pgM x.1 g) (Qdg (pgM x.1 g)) x.2.1 (Qii x s g).2.2.1:=h.sim
  have key:Like (pgM x.1 g) (Qdg (pgM x.1 g)) (QR x) (Qhd x s g):=by
   unfold QR Qhd
   rw [e1,e2,ht]
   exact QjH (s:=Mc.of (x.2.2.1.getD g.toNat Qam) x.2.1) hsim
  obtain ⟨k1,k2⟩:=key
  have eh:(Qhd x s g).hart=(QR x).hart:=by rw [k1]; rfl
  refine ⟨h.hk.next hc,QtH g h.hk h.hs,h.hg,h.pages,?_,fun k hk=>?_,fun y hy hyg=>?_⟩
  ·rw [QiZ]
   have:=(h.hk.guest h.hg).1
   show calm (Qhd x s g).hart=_
   rw [eh]
   unfold QQ
   rw [ht,QdG (by omega)]
  ·have h5:=(Qfj hok h.hg).2
   have hk:k< (ownL x.1 g).length:=hk
   have q:=k2.same k (by omega) (by rw [Qmm hok h.hg hk]; exact h.hk.ownP h.hg hk)
   rw [QiC (QeC x.1 g) (by omega),Qmm hok h.hg hk,if_pos (by exact h.hk.ownP h.hg hk)] at q
   exact q
  ·have hy:y∈x.1.2.1:=hy
   have b:=Qch hok y hy
   have e5:((y.2.2.2.1.toNat:Nat):Int)=y.2.2.2.1:=by have:=b.2.1; omega
   have p0:=(QcI hok y hy).2.1.1
   have q:=k2.same y.2.2.2.1.toNat (by have:=b.2.1; omega) (by rw [QgX hok h.hg hy hyg]; exact p0)
   rw [QiC (QeC x.1 g) (by have:=b.2.1; omega),QgX hok h.hg hy hyg,if_pos (by exact p0)] at q
   rw [e5] at q
   exact q
 ·rw [if_neg ht]
  refine ⟨h.hk.next hc,h.hs,h.hg,h.pages,?_,fun k hk=>?_,fun y hy hyg=>?_⟩
  ·rw [QiZ]
   unfold QQ
   have a:=Qbr.1 h.hg
   have b:=Qbr.1 h.hk.turn.2.2.1
   rw [QcS (by omega)]
   exact h.hart
  ·have hk:k< (ownL x.1 g).length:=hk
   rw [←h.own k hk]
   exact h.hk.stays h.hg ht (h.hk.ownP h.hg hk) (.inl (Qfk hk))
  ·rw [←h.gives y hy hyg]
   exact h.hk.stays h.hg ht (QcI hok y hy).2.1.1 (.inr ⟨y,hy,hyg,rfl⟩)
end
structure Shut (p:PolD) (A:Int→Prop):Prop where
 lane: ∀y∈p.2.1,A y.2.1→A y.1
 bell: ∀b∈p.2.2.1,A b.2.1→A b.1
structure Tw (x y:QC) (A:Int→Prop):Prop where
 hx:HK x
 hy:HK y
 pol:x.1=y.1
 slot:x.2.2.2.1=y.2.2.2.1
 left:x.2.2.2.2.1=y.2.2.2.2.1
 clock:x.2.2.2.2.2.1=y.2.2.2.2.2.1
 shut:Shut x.1 A
 hart: ∀g,isG x.1 g=true→A g→x.2.2.1.getD g.toNat Qam=y.2.2.1.getD g.toNat Qam
 own: ∀g,isG x.1 g=true→A g→ ∀P∈ownL x.1 g,pg x.2.1 P=pg y.2.1 P
 gives: ∀l∈x.1.2.1,A l.1→pg x.2.1 l.2.2.1=pg y.2.1 l.2.2.1
section
variable {x y:QC} {A:Int→Prop} {g:Int}
theorem Tw.turnEq (h:Tw x y A):turnG y=turnG x:=by
 unfold turnG
 rw [←h.pol, ←h.slot]
theorem QkM (x:QC) (g:Int) (hne:QbR x=true→(QR x).ring.toNat≠g.toNat):(QaU x).2.2.1.getD g.toNat Qam=(QQ x).getD g.toNat Qam:=by
 unfold QaU
 dsimp only
 split
 ·rename_i hr
  unfold Qbd
  rw [QcS (hne hr)]
 ·rfl
theorem QgL {g:Int} (h:HK x) (hg:isG x.1 g=true) (hne:turnG x≠g):(QQ x).getD g.toNat Qam=x.2.2.1.getD g.toNat Qam:=by
 have a:=Qbr.1 hg
 have b:=Qbr.1 h.turn.2.2.1
 unfold QQ
 rw [QcS (by omega)]
theorem Qng (h:HK x):(QQ x).getD (turnG x).toNat Qam=(QR x).hart:=by
 have:=(h.guest h.turn.2.2.1).1
 unfold QQ
 rw [QdG (by omega)]
theorem Tw.sim (h:Tw x y A) (ha:A (turnG x)):Sim (pgM x.1 (turnG x)) (pgM x.1 (turnG x)) x.2.1 y.2.1:=by
 have hok:=h.hx.ok
 have ht:=h.hx.turn.2.2.1
 have hl:=QeC x.1 (turnG x)
 refine ⟨⟨hl,hl⟩,fun _ _=>rfl,fun _ _=>Iff.rfl,fun k hk=>⟨(Qmn hok ht hk).2,(Qmn hok ht hk).2⟩,fun i j _ _=>Qpd hok ht i j,fun i j _ _=>Qpd hok ht i j,fun k hk h0=>?_⟩
 rcases Qfn hok ht h0 with ⟨a1,a2⟩ | ⟨l,hl,a1,a2,a3⟩ | ⟨l,hl,a1,a2,a3⟩
 ·rw [a2]; exact h.own _ ht ha _ (Qfk a1)
 ·rw [a3]; exact h.gives l hl (a1▸ha)
 ·rw [a3]; exact h.gives l hl (h.shut.lane l hl (a1▸ha))
theorem Tw.next (h:Tw x y A) (hc:x.2.2.2.2.2.1< 1000000):Tw (QaU x) (QaU y) A:=by
 have hok:=h.hx.ok
 have te:=h.turnEq
 have hc':y.2.2.2.2.2.1< 1000000:=by rw [←h.clock]; exact hc
 have slots:QeK x.1.2.2.2.1 x.2.2.2.1 x.2.2.2.2.1=QeK y.1.2.2.2.1 y.2.2.2.1 y.2.2.2.2.1:=by rw [h.pol,h.slot,h.left]
 have ok':=h.hy.ok
 have stay: ∀g,isG x.1 g=true→turnG x≠g→ ∀P,0≤P→(P∈ownL x.1 g∨ ∃l∈x.1.2.1,l.1=g∧l.2.2.1=P)→pg x.2.1 P=pg y.2.1 P→pg (QaU x).2.1 P=pg (QaU y).2.1 P:=fun g hg hne P h0 hP e=>by
  rw [h.hx.stays hg hne h0 hP,h.hy.stays (by rw [←h.pol]; exact hg) (by rw [te]; exact hne) h0 (by rw [←h.pol]; exact hP)]
  exact e
 have own0: ∀g,isG x.1 g=true→ ∀P∈ownL x.1 g,0≤P:=fun g hg P hP=>((hok.own1 _ (QcV hok hg)).2.2 P hP).1
 by_cases ha:A (turnG x)
 ·have ht:=h.hx.turn.2.2.1
  have key:Like (pgM x.1 (turnG x)) (pgM x.1 (turnG x)) (QR x) (QR y):=by
   unfold QR
   rw [te, ←h.pol, ←h.hart _ ht ha]
   exact QjH (s:=Mc.of (x.2.2.1.getD (turnG x).toNat Qam) x.2.1) (h.sim ha)
  obtain ⟨k1,k2⟩:=key
  have eh:(QR y).hart=(QR x).hart:=by rw [k1]; rfl
  have er:(QR y).ring=(QR x).ring:=by rw [k1]
  have eb:QbR y=QbR x:=by unfold QbR; rw [te,er,h.pol]
  have hh: ∀g,isG x.1 g=true→A g→(QQ x).getD g.toNat Qam=(QQ y).getD g.toNat Qam:=fun g hg ag=>by
   by_cases e:turnG x=g
   ·subst e
    rw [Qng h.hx, ←te,Qng h.hy,eh]
   ·rw [QgL h.hx hg e,QgL h.hy (by rw [←h.pol]; exact hg) (by rw [te]; exact e)]
    exact h.hart g hg ag
  refine ⟨h.hx.next hc,h.hy.next hc',h.pol,congrArg (·.1) slots,congrArg (·.2) slots,congrArg (· +1) h.clock,h.shut,fun g hg ag=>?_,fun g hg ag P hP=>?_,fun l hl al=>?_⟩
  ·have hg:isG x.1 g=true:=hg
   show (if QbR x=true then Qbd (QR x).ring (QQ x) else QQ x).getD g.toNat Qam=(if QbR y=true then Qbd (QR y).ring (QQ y) else QQ y).getD g.toNat Qam
   rw [eb,er]
   by_cases c:QbR x=true
   ·rw [if_pos c,if_pos c]
    unfold Qbd
    by_cases e:(QR x).ring.toNat=g.toNat
    ·have hlt:=(h.hx.guest hg).1
     have hlt':=(h.hy.guest (g:=g) (by rw [←h.pol]; exact hg)).1
     rw [e,QdG (by rw [QbG]; omega),QdG (by rw [QbG]; omega),hh g hg ag]
    ·rw [QcS e,QcS e,hh g hg ag]
   ·rw [if_neg c,if_neg c,hh g hg ag]
  ·have hg:isG x.1 g=true:=hg
   have hP:P∈ownL x.1 g:=hP
   by_cases e:turnG x=g
   ·subst e
    obtain ⟨k,hk,ek⟩:=List.mem_iff_getElem.1 hP
    have p0:=h.hx.ownP hg hk
    have h5:=(Qfj hok hg).2
    have q:=k2.same k (by omega) (by rw [Qmm hok hg hk]; exact p0)
    rw [Qmm hok hg hk] at q
    dsimp only at q
    rw [gget hk,ek] at q
    exact q
   ·exact stay g hg e P (own0 g hg P hP) (.inl hP) (h.own g hg ag P hP)
  ·have hl:l∈x.1.2.1:=hl
   have b:=QcI hok l hl
   by_cases e:turnG x=l.1
   ·have q:=k2.same l.2.2.2.1.toNat (by have:=b.2.2.1; omega) (by rw [QgX hok ht hl e.symm]; exact b.2.1.1)
    rw [QgX hok ht hl e.symm] at q
    exact q
   ·exact stay l.1 b.1.1 e _ b.2.1.1 (.inr ⟨l,hl,rfl,rfl⟩) (h.gives l hl al)
 ·have ring: ∀z:QC,HK z→z.1=x.1→turnG z=turnG x→ ∀g,A g→isG x.1 g=true→QbR z=true→(QR z).ring.toNat≠g.toNat:=fun z hz ez et g ag hg hr e=>by
   have hk:=Qbr.1 (Qiw hz hr)
   have hg':=Qbr.1 hg
   have e:(QR z).ring=g:=by omega
   unfold QbR at hr
   obtain ⟨b,hb,eb⟩:=List.any_eq_true.1 hr
   unfold Qal at eb
   simp only [Bool.and_true,Bool.and_eq_true,beq_iff_eq] at eb
   rw [ez] at hb
   have:=h.shut.bell b hb (by rw [←eb.2,e]; exact ag)
   rw [←eb.1,et] at this
   exact ha this
  refine ⟨h.hx.next hc,h.hy.next hc',h.pol,congrArg (·.1) slots,congrArg (·.2) slots,congrArg (· +1) h.clock,h.shut,fun g hg ag=>?_,fun g hg ag P hP=>?_,fun l hl al=>?_⟩
  ·have hg:isG x.1 g=true:=hg
   have hne:turnG x≠g:=fun e=>ha (e▸ag)
   have hg':isG y.1 g=true:=by rw [←h.pol]; exact hg
   rw [QkM x g (ring x h.hx rfl rfl g ag hg),QkM y g (ring y h.hy h.pol.symm te g ag hg),QgL h.hx hg hne,QgL h.hy hg' (by rw [te]; exact hne)]
   exact h.hart g hg ag
  ·have hg:isG x.1 g=true:=hg
   have hP:P∈ownL x.1 g:=hP
   exact stay g hg (fun e=>ha (e▸ag)) P (own0 g hg P hP) (.inl hP) (h.own g hg ag P hP)
  ·have hl:l∈x.1.2.1:=hl
   have b:=QcI hok l hl
   exact stay l.1 b.1.1 (fun e=>ha (e▸al)) _ b.2.1.1 (.inr ⟨l,hl,rfl,rfl⟩) (h.gives l hl al)
end
theorem QfI {α β:Type} {f:Nat→α→Option β}: ∀{m:List α} {i:Nat},(∀j x,x∈m→f j x=none)→scan f i m=none
 | [],_,_=>rfl
 | x::r,i,h=>by
  simp only [scan]
  rw [h i x (by simp)]
  exact QfI fun j y hy=>h j y (List.mem_cons_of_mem _ hy)
def imgH (own:List Int):Nat→List Int→List Int→List Int
 | _,[],m=>m
 | i,w::r,m=>imgH own (i+1) r (m.set (8*(own.getD (i / 8) 0).toNat+i % 8) (wd w))
def QcE:List (List Int)→List (List Int)→List Int→List Int
 | own::ro,im::ri,m=>QcE ro ri (imgH own 0 im m)
 | _,_,m=>m
theorem Qja (own:List Int): ∀(im:List Int) (i:Nat) (m:List Int),(imgH own i im m).length=m.length
 | [],_,_=>rfl
 | w::r,i,m=>by rw [imgH,Qja own r]; simp
theorem Qhy: ∀(L I:List (List Int)) (m:List Int),(QcE L I m).length=m.length
 | [],_,_=>by simp [QcE]
 | _::_,[],_=>by simp [QcE]
 | own::ro,im::ri,m=>by rw [QcE,Qhy ro ri,Qja]
theorem QrM {m:List Int} {i:Nat} {w:Int} (h: ∀x∈m,WW x) (hw:WW w): ∀x∈m.set i w,WW x:=fun x hx=>by
 rcases List.mem_or_eq_of_mem_set hx with hx | rfl
 ·exact h x hx
 ·exact hw
theorem Qjb (own:List Int): ∀(im:List Int) (i:Nat) (m:List Int),(∀x∈m,WW x)→ ∀x∈imgH own i im m,WW x
 | [],_,_,h=>h
 | w::r,i,m,h=>Qjb own r (i+1) _ (QrM h (Qae w))
theorem Qic: ∀(L I:List (List Int)) (m:List Int),(∀x∈m,WW x)→ ∀x∈QcE L I m,WW x
 | [],_,_,h=>by simpa [QcE] using h
 | _::_,[],_,h=>by simpa [QcE] using h
 | own::ro,im::ri,m,h=>Qic ro ri _ (Qjb own im 0 m h)
def QhS (q:List Int):QO:=(List.replicate 16 0,0,List.replicate 11 0,false,false,false,0,q,[],())
def QsB (p:PolD) (I J:List (List Int)):QC:=(p,QcE p.1 I (List.replicate 192 0),J.map QhS,0,(p.2.2.2.1.getD 0 (0,0,())).2.1,0,())
theorem QsN {q:List Int} (h:OkQ q):hartM (QhS q)=0:=by
 unfold hartM QhS
 dsimp only
 rw [if_pos ⟨by simp,by simp,by simp⟩,if_pos ⟨by decide,by decide,by decide,Qao.2 h.words,by decide⟩,if_pos ⟨h.len,by simp⟩,if_pos (by decide),if_pos (by decide)]
theorem Qly {p:PolD} (hok:OkPol p):QaP p 0=(0,(p.2.2.2.1.getD 0 (0,0,())).2.1):=by
 unfold QaP
 dsimp only
 rw [Int.zero_emod,Qoi (Qeh hok) hok.plan.1]
 rfl
theorem QrH (n:Nat): ∀x∈List.replicate n (0:Int),WW x:=fun x hx=>by
 rw [(List.mem_replicate.1 hx).2]; unfold WW; omega
theorem QsC {p:PolD} {I J:List (List Int)} (hp:polM p=0) (hj:J.length=p.1.length) (hq: ∀q∈J,OkQ q):HK (QsB p I J):=by
 have hok:=Qfi hp
 refine ⟨hp,⟨?_,?_⟩,?_,fun h hh=>?_,by show (0:Int)≤0∧(0:Int)≤1000000; omega,?_,?_⟩
 ·show QJ (QcE p.1 I (List.replicate 192 0))=0
  unfold QJ
  rw [Qhy,if_pos (by simp),if_pos (Qao.2 (Qic _ _ _ (QrH _)))]
 ·show (QcE p.1 I (List.replicate 192 0)).length=192
  rw [Qhy]; simp
 ·show (J.map QhS).length=p.1.length
  rw [List.length_map]; exact hj
 ·obtain ⟨q,hm,rfl⟩:=List.mem_map.1 (show h∈J.map QhS from hh)
  exact QsN (hq q hm)
 ·show (0:Int)=(QaP p 0).1
  rw [Qly hok]
 ·show (p.2.2.2.1.getD 0 (0,0,())).2.1=(QaP p 0).2
  rw [Qly hok]
theorem bdLt {n x:Int} (h:Bd n x) (hn:1≤n):0≤x∧x< n:=by unfold Bd at h; omega
structure OwnI (L:List (List Int)) (page:Int):Prop where
 one: ∀l∈L,1≤l.length∧l.length≤3
 up:L.flatten.Pairwise (· < ·)
 bd: ∀x∈L.flatten,0≤x∧x< page
 top:0≤page∧page≤2+3*(L.length:Int)
theorem OwnI.snoc {L:List (List Int)} {page:Int} (h:OwnI L page) {own:List Int} {K:Nat} (hK:1≤K∧K≤3) (hl:own.length=K) (hu:own.Pairwise (· < ·)) (hb: ∀x∈own,page≤x∧x< page+(K:Int)):OwnI (L++[own]) (page+(K:Int)):=by
 have hp:=h.top
 have ef:(L++[own]).flatten=L.flatten++own:=by simp
 refine ⟨fun l hm=>?_,?_,fun x hx=>?_,?_⟩
 ·rcases List.mem_append.1 hm with hm | hm
  ·exact h.one l hm
  ·rw [List.mem_singleton.1 hm]; omega
 ·rw [ef,List.pairwise_append]
  exact ⟨h.up,hu,fun a ha b hb'=>by have:=(h.bd a ha).2; have:=(hb b hb').1; omega⟩
 ·rw [ef] at hx
  rcases List.mem_append.1 hx with hx | hx
  ·have:=h.bd x hx; omega
  ·have:=hb x hx; omega
 ·rw [List.length_append,List.length_singleton]; omega
theorem QkB: ∀{l seen:List Int},l.Nodup→(∀x∈l,x∉seen)→dupM seen l=false
 | [],_,_,_=>rfl
 | x::r,seen,h,hs=>by
  rw [List.nodup_cons] at h
  simp only [dupM,Bool.or_eq_false_iff]
  refine ⟨by simpa using hs x (by simp),QkB h.2 fun y hy hm=>?_⟩
  rcases List.mem_append.1 hm with hm | hm
  ·exact hs y (List.mem_cons_of_mem _ hy) hm
  ·rw [List.mem_singleton.1 hm] at hy; exact h.1 hy
theorem OwnI.owns {L:List (List Int)} {page:Int} (h:OwnI L page) (hl:1≤L.length∧L.length≤3):QdK L=0:=by
 have hp:=h.top
 have e:scan (fun (_:Nat) l=>Go.Proofs.YticbdcmkcghijaaGreatDoor.own1 l) 0 L=none:=QfI fun _ l hm=>by
  have:=h.one l hm
  unfold Go.Proofs.YticbdcmkcghijaaGreatDoor.own1
  rw [if_pos (by omega)]
  refine QfI fun _ x hx=>?_
  have:=h.bd x (List.mem_flatten.2 ⟨l,hm,hx⟩)
  rw [if_pos (QcM.2 (by omega))]
 unfold QdK
 rw [if_pos hl,e,QkB (h.up.imp fun h=>Int.ne_of_lt h) (by simp)]
 rfl
theorem QvG {X p:PolD} {s:SrcD} {page g:Int} (K:Nat) (hp:0≤page∧page≤1000) (hK:K≤10):
  Dr (L_m_8 (((),((),((),(page,(g,(([]:List Int),((K:Int),()))))))),((X,(p,(s,()))),()))) fun o=> ∃own:List Int,o= .inl (((),((),((),(page+(K:Int),(g,(own,())))))),((X,(p,(s,()))),()))∧own.length=K∧own.Pairwise (· < ·)∧ ∀x∈own,page≤x∧x< page+(K:Int):=by
 refine Qat (fun m u=> ∃own:List Int,u=(((),((),((),(page+(own.length:Int),(g,(own,((m:Int),()))))))),((X,(p,(s,()))),()))∧own.length+m=K∧own.Pairwise (· < ·)∧ ∀x∈own,page≤x∧x< page+(own.length:Int)) ?_ K _ ⟨[],by simp,by simp,by simp,by simp⟩ (by rw [QS]; omega)
 rintro rec m _ ⟨own,rfl,hm,hu,hb⟩ ih
 unfold l_m_8
 dsimp only
 by_cases c:0< m
 ·rw [if_pos (by rw [QB]; omega)]
  refine Dr.guard (by simp; omega) ?_
  rw [Qn (by omega) (by omega),Qn (by omega) (by omega)]
  refine ih (m-1) _ (by omega) ⟨own++[page+(own.length:Int)],?_,by simp; omega,?_,fun x hx=>?_⟩
  ·rw [List.length_append,List.length_singleton,show page+(own.length:Int)+1=page+((own.length+1:Nat):Int) by omega,show ((m:Int)-1)=((m-1:Nat):Int) by omega]
  ·rw [List.pairwise_append]
   exact ⟨hu,by simp,fun a ha b hb'=>by rw [List.mem_singleton.1 hb']; exact (hb a ha).2⟩
  ·rw [List.length_append,List.length_singleton]
   rcases List.mem_append.1 hx with hx | hx
   ·have:=hb x hx; omega
   ·rw [List.mem_singleton.1 hx]; omega
 ·obtain rfl:m=0:=by omega
  rw [if_neg (by rw [QB]; omega)]
  have:own.length=K:=by omega
  subst this
  exact Dr.ret ⟨own,rfl,rfl,hu,hb⟩
theorem QvF {X:PolD} {s:SrcD} {k page:Int} (G:Nat) (hG:1≤G∧G≤3) (hp:0≤page∧page≤2) (hs:Sr s k) (hk:k≤1000000):
  Dr (L_m_4 (((),((),((),(page,((G:Int),()))))),((X,((([]:List (List Int)),(([]:List QL),(([]:List TwoD),(([]:List TwoD),())))),(s,()))),()))) fun o=> ∃(L:List (List Int)) (page':Int) (s':SrcD),
   o= .inl (((),((),((),(page',())))),((X,((L,(([]:List QL),(([]:List TwoD),(([]:List TwoD),())))),(s',()))),()))∧Sr s' (k+3)∧L.length=G∧OwnI L page':=by
 have hk0:=hs.pos
 refine Qat (fun m u=> ∃(L:List (List Int)) (page':Int) (s':SrcD),u=(((),((),((),(page',((m:Int),()))))),((X,((L,(([]:List QL),(([]:List TwoD),(([]:List TwoD),())))),(s',()))),()))∧Sr s' (k+(G:Int)-(m:Int))∧L.length+m=G∧OwnI L page') ?_ G _
  ⟨[],page,s,rfl,hs.le (by omega),by simp,⟨by simp,by simp,by simp,by simp; omega⟩⟩ (by rw [QS]; omega)
 rintro rec m _ ⟨L,pa,s',rfl,hs',hl,hI⟩ ih
 unfold l_m_4
 dsimp only
 have hpa:=hI.top
 by_cases c:0< m
 ·rw [if_pos (by rw [QB]; omega)]
  refine (QV hs' (by omega) _).bind fun r6 h6=>?_
  have hb:=bdLt h6.2 (by omega)
  have e:IntKind.i64.wrap (1+(r6.1.1:Int))=((r6.1.1.toNat+1:Nat):Int):=by rw [Qn (by omega) (by omega)]; omega
  rw [e]
  refine (QvG (r6.1.1.toNat+1) (by omega) (by omega)).bind fun z hz=>?_
  obtain ⟨own,rfl,ho,hu,hbd⟩:=hz
  dsimp only
  refine Dr.guard (by simp; omega) ?_
  rw [Qn (by omega) (by omega)]
  refine ih (m-1) _ (by omega) ⟨L++[own],pa+((r6.1.1.toNat+1:Nat):Int),r6.2.1,?_,h6.1.le (by omega),by simp; omega,hI.snoc (by omega) ho hu hbd⟩
  rw [show ((m:Int)-1)=((m-1:Nat):Int) by omega]
 ·obtain rfl:m=0:=by omega
  rw [if_neg (by rw [QB]; omega)]
  exact Dr.ret ⟨L,pa,s',rfl,hs'.le (by omega),by omega,hI⟩
theorem QuC {X:PolD} {L:List (List Int)} {s:SrcD} {k page:Int} (hL:QdK L=0) (hl:1≤L.length∧L.length≤3) (hl2: ∀l∈L,l.length≤1048576) (hp:0≤page∧page≤100) (K:Nat) (hK:K≤3) (hs:Sr s k) (hk:k≤1000000):
  Dr (L_m_15 (((),((),((),(page,(((L.length:Nat):Int),((K:Int),())))))),((X,((L,(([]:List QL),(([]:List TwoD),(([]:List TwoD),())))),(s,()))),()))) fun o=> ∃(ls:List QL) (s':SrcD),
   o= .inl (((),((),((),(((L.length:Nat):Int),())))),((X,((L,(ls,(([]:List TwoD),(([]:List TwoD),())))),(s',()))),()))∧Sr s' (k+12)∧ls.length≤3∧QbH (L,ls,[],[],())=none:=by
 have hk0:=hs.pos
 refine Qat (fun m u=> ∃(ls:List QL) (pa:Int) (s':SrcD),u=(((),((),((),(pa,(((L.length:Nat):Int),((m:Int),())))))),((X,((L,(ls,(([]:List TwoD),(([]:List TwoD),())))),(s',()))),()))∧Sr s' (k+4*(3-(m:Int)))∧ls.length+m≤3∧(0≤pa∧pa+(m:Int)≤103)∧QbH (L,ls,[],[],())=none) ?_ K _
  ⟨[],page,s,rfl,hs.le (by omega),by simp; omega,by omega,rfl⟩ (by rw [QS]; omega)
 rintro rec m _ ⟨ls,pa,s',rfl,hs',hm,hpa,hI⟩ ih
 unfold l_m_15
 dsimp only
 by_cases c:0< m
 ·rw [if_pos (by rw [QB]; omega)]
  refine Dr.guard (by simp; omega) ?_
  refine (QV hs' (by omega) _).bind fun r26 h26=>(QV h26.1 (by omega) _).bind fun r27 h27=>(QV h27.1 (by omega) _).bind fun r28 h28=>(QV h28.1 (by omega) _).bind fun r30 h30=>?_
  have em:((m:Int)-1)=((m-1:Nat):Int):=by omega
  dsimp only [List.nil_append]
  refine Dr.guard (by simp; omega) ?_
  rw [Qn (n:=pa+1) (by omega) (by omega),Qn (n:=(m:Int)-1) (by omega) (by omega)]
  generalize hx:((r26.1.1,(r27.1.1,(pa,(IntKind.i64.wrap (5+r28.1.1),(IntKind.i64.wrap (5+r30.1.1),()))))):QL)=x
  have hlen:(ls++[x]).length=ls.length+1:=by simp
  have skip:Dr (rec (((),((),((),(pa,(((L.length:Nat):Int),((m:Int)-1,())))))),((X,((L,(ls,(([]:List TwoD),(([]:List TwoD),())))),(r30.2.1,()))),()))) fun o=> ∃(ls:List QL) (s':SrcD),
    o= .inl (((),((),((),(((L.length:Nat):Int),())))),((X,((L,(ls,(([]:List TwoD),(([]:List TwoD),())))),(s',()))),()))∧Sr s' (k+12)∧ls.length≤3∧QbH (L,ls,[],[],())=none:=
   ih (m-1) _ (by omega) ⟨ls,pa,r30.2.1,by rw [em],h30.1.le (by omega),by omega,by omega,hI⟩
  refine Dr.step (Qil (L,ls++[x],[],[],()) (by dsimp only; omega) hl2) (Dr.ite (fun _=>?_) fun _=>skip)
  refine Dr.step (Qhe (L,ls++[x],[],[],()) (by dsimp only; omega) hl2 (by dsimp only; omega)) (Dr.ite (fun h0=>?_) fun _=>skip)
  refine ih (m-1) _ (by omega) ⟨ls++[x],pa+1,r30.2.1,by rw [em],h30.1.le (by omega),by omega,by omega,?_⟩
  dsimp only at h0
  rw [if_pos (by simp; omega)] at h0
  cases hM:QbH (L,ls++[x],[],[],()) with
  | none=>rfl
  | some c'=>
   rw [hM] at h0
   exact absurd (by simpa using h0) (Qhx hM)
 ·obtain rfl:m=0:=by omega
  rw [if_neg (by rw [QB]; omega)]
  exact Dr.ret ⟨ls,s',rfl,hs'.le (by omega),by omega,hI⟩
theorem QuD {X:PolD} {L:List (List Int)} {ls:List QL} {s:SrcD} {k:Int} (hl:1≤L.length∧L.length≤3) (K:Nat) (hK:K≤3) (hs:Sr s k) (hk:k≤1000000):
  Dr (L_m_23 (((),((),((),(((L.length:Nat):Int),((K:Int),()))))),((X,((L,(ls,(([]:List TwoD),(([]:List TwoD),())))),(s,()))),()))) fun o=> ∃(bs:List TwoD) (s':SrcD),
   o= .inl (((),((),((),(((L.length:Nat):Int),())))),((X,((L,(ls,(bs,(([]:List TwoD),())))),(s',()))),()))∧Sr s' (k+6)∧bs.length≤1∧ ∀b∈bs,(0≤b.1∧b.1< (L.length:Int))∧(0≤b.2.1∧b.2.1< (L.length:Int))∧b.1≠b.2.1:=by
 have hk0:=hs.pos
 refine Qat (fun m u=> ∃(bs:List TwoD) (s':SrcD),u=(((),((),((),(((L.length:Nat):Int),((m:Int),()))))),((X,((L,(ls,(bs,(([]:List TwoD),())))),(s',()))),()))∧Sr s' (k+2*(3-(m:Int)))∧m≤3∧bs.length≤1∧ ∀b∈bs,(0≤b.1∧b.1< (L.length:Int))∧(0≤b.2.1∧b.2.1< (L.length:Int))∧b.1≠b.2.1) ?_ K _
  ⟨[],s,rfl,hs.le (by omega),hK,by simp,by simp⟩ (by rw [QS]; omega)
 rintro rec m _ ⟨bs,s',rfl,hs',hm,hb1,hI⟩ ih
 unfold l_m_23
 dsimp only
 by_cases c:0< m
 ·rw [if_pos (by rw [QB]; omega)]
  refine (QV hs' (by omega) _).bind fun r44 h44=>(QV h44.1 (by omega) _).bind fun r45 h45=>?_
  have em:((m:Int)-1)=((m-1:Nat):Int):=by omega
  have b1:=bdLt h44.2 (by omega)
  have b2:=bdLt h45.2 (by omega)
  rw [Qn (n:=(m:Int)-1) (by omega) (by omega)]
  have skip: ∀{Q},(∀x,(∃(bs:List TwoD) (s':SrcD),x=(((),((),((),(((L.length:Nat):Int),(((m-1:Nat):Int),()))))),((X,((L,(ls,(bs,(([]:List TwoD),())))),(s',()))),()))∧Sr s' (k+2*(3-((m-1:Nat):Int)))∧m-1≤3∧bs.length≤1∧ ∀b∈bs,(0≤b.1∧b.1< (L.length:Int))∧(0≤b.2.1∧b.2.1< (L.length:Int))∧b.1≠b.2.1)→Dr (rec x) Q)→Dr (rec (((),((),((),(((L.length:Nat):Int),((m:Int)-1,()))))),((X,((L,(ls,(bs,(([]:List TwoD),())))),(r45.2.1,()))),()))) Q:=fun h=>
   h _ ⟨bs,r45.2.1,by rw [em],h45.1.le (by omega),by omega,hb1,hI⟩
  refine Dr.ite (fun hne=>Dr.ite (fun h0=>Dr.guard (by simp; omega) ?_) fun _=>skip fun x hx=>ih (m-1) x (by omega) hx) fun _=>skip fun x hx=>ih (m-1) x (by omega) hx
  rw [QB] at h0
  have e0:bs=[]:=List.eq_nil_of_length_eq_zero (by omega)
  subst e0
  refine ih (m-1) _ (by omega) ⟨[(r44.1.1,(r45.1.1,()))],r45.2.1,by rw [em]; rfl,h45.1.le (by omega),by omega,by simp,fun b hb=>?_⟩
  rw [List.mem_singleton.1 hb]
  exact ⟨b1,b2,by simpa using hne⟩
 ·obtain rfl:m=0:=by omega
  rw [if_neg (by rw [QB]; omega)]
  exact Dr.ret ⟨bs,s',rfl,hs'.le (by omega),hb1,hI⟩
theorem QuE {X:PolD} {L:List (List Int)} {ls:List QL} {bs:List TwoD} {s:SrcD} {k:Int} (hl:1≤L.length∧L.length≤3) (K:Nat) (hK:K≤4) (hs:Sr s k) (hk:k≤1000000):
  Dr (L_m_29 (((),((),((),(((L.length:Nat):Int),((K:Int),()))))),((X,((L,(ls,(bs,(([]:List TwoD),())))),(s,()))),()))) fun o=> ∃(pl:List TwoD) (s':SrcD),
   o= .inl (((),((),())),((X,((L,(ls,(bs,(pl,())))),(s',()))),()))∧Sr s' (k+8)∧pl.length=K∧ ∀b∈pl,(0≤b.1∧b.1< (L.length:Int))∧1≤b.2.1∧b.2.1≤9:=by
 have hk0:=hs.pos
 refine Qat (fun m u=> ∃(pl:List TwoD) (s':SrcD),u=(((),((),((),(((L.length:Nat):Int),((m:Int),()))))),((X,((L,(ls,(bs,(pl,())))),(s',()))),()))∧Sr s' (k+2*(4-(m:Int)))∧pl.length+m=K∧ ∀b∈pl,(0≤b.1∧b.1< (L.length:Int))∧1≤b.2.1∧b.2.1≤9) ?_ K _
  ⟨[],s,rfl,hs.le (by omega),by simp,by simp⟩ (by rw [QS]; omega)
 rintro rec m _ ⟨pl,s',rfl,hs',hm,hI⟩ ih
 unfold l_m_29
 dsimp only
 by_cases c:0< m
 ·rw [if_pos (by rw [QB]; omega)]
  refine (QV hs' (by omega) _).bind fun r57 h57=>(QV h57.1 (by omega) _).bind fun r58 h58=>?_
  have em:((m:Int)-1)=((m-1:Nat):Int):=by omega
  have b1:=bdLt h57.2 (by omega)
  have b2:=bdLt h58.2 (by omega)
  rw [Qn (n:=(m:Int)-1) (by omega) (by omega),Qn (n:=1+(r58.1.1:Int)) (by omega) (by omega)]
  refine Dr.guard (by simp; omega) ?_
  refine ih (m-1) _ (by omega) ⟨pl++[(r57.1.1,(1+(r58.1.1:Int),()))],r58.2.1,by rw [em],h58.1.le (by omega),by simp; omega,fun b hb=>?_⟩
  rcases List.mem_append.1 hb with hb | hb
  ·exact hI b hb
  ·rw [List.mem_singleton.1 hb]; exact ⟨b1,by dsimp only; omega,by dsimp only; omega⟩
 ·obtain rfl:m=0:=by omega
  rw [if_neg (by rw [QB]; omega)]
  exact Dr.ret ⟨pl,s',rfl,hs'.le (by omega),by omega,hI⟩
theorem QrJ {L:List (List Int)} {ls:List QL} {bs pl:List TwoD} (h1:QdK L=0) (h2:ls.length≤3) (h3:QbH (L,ls,[],[],())=none) (h4:bs.length≤1)
  (h5: ∀b∈bs,(0≤b.1∧b.1< (L.length:Int))∧(0≤b.2.1∧b.2.1< (L.length:Int))∧b.1≠b.2.1) (h6:1≤pl.length∧pl.length≤4) (h7: ∀b∈pl,(0≤b.1∧b.1< (L.length:Int))∧1≤b.2.1∧b.2.1≤9):polM (L,ls,bs,pl,())=0:=by
 have e1:QbH (L,ls,bs,pl,())=none:=h3
 have e2:QdL (L,ls,bs,pl,())=none:=by
  unfold QdL
  match bs,h4,h5 with
  | [],_,_=>rfl
  | [b],_,h5=>
   have:=h5 b (by simp)
   simp only [scan]
   unfold QeQ QcA
   rw [if_pos (Qbr.2 this.1),if_pos (Qbr.2 this.2.1),if_neg this.2.2]
   rfl
 have e3:Qie (L,ls,bs,pl,())=0:=by
  unfold Qie
  rw [if_pos (by dsimp only; omega),QfI]
  intro _ b hb
  have:=h7 b hb
  rw [if_pos (Qbr.2 this.1),if_pos (QcM.2 (by omega))]
 unfold polM
 rw [if_neg (by simpa using h1),if_pos (by dsimp only; omega),e1]
 dsimp only
 rw [e2]
 exact e3
theorem Qsw {n x:Int} (h:Bd n x): ∃K:Nat,x=(K:Int)∧((K:Int)< n∨K=0):=⟨x.toNat,by unfold Bd at h; omega,by unfold Bd at h; omega⟩
theorem Qjf {s:SrcD} {k:Int} (hs:Sr s k) (hk:k≤900000):Dr (F_m (s,())) fun r=>Sr r.2.1 (k+100)∧polM r.1.1=0:=by
 have hk0:=hs.pos
 unfold F_m
 refine (QV hs (by omega) _).bind fun r1 h1=>(QbK h1.1 (by omega) _ _).bind fun r2 h2=>?_
 have b1:=bdLt h1.2 (by omega)
 obtain ⟨G,eG,hG⟩: ∃G:Nat,(r2.1.1:Int)=(G:Int)∧1≤G∧G≤3:=by
  have key: ∀v:Int,v∈[(2:Int),3,3,1]→ ∃G:Nat,v=(G:Int)∧1≤G∧G≤3:=fun v hv=>by
   simp only [List.mem_cons,List.not_mem_nil,or_false] at hv
   exact ⟨v.toNat,by omega,by omega⟩
  exact key _ h2.2
 rw [eG]
 refine (QvF G hG (by omega) h2.1 (by omega)).bind fun z hz=>?_
 obtain ⟨L,page,s1,rfl,hs1,hl,hI⟩:=hz
 dsimp only
 have hl3:1≤L.length∧L.length≤3:=by omega
 have hO:=hI.owns hl3
 have hp:=hI.top
 have hl2: ∀l∈L,l.length≤1048576:=fun l hm=>by have:=hI.one l hm; omega
 refine (QV hs1 (by omega) _).bind fun r18 h18=>?_
 obtain ⟨K1,e1,c1⟩:=Qsw h18.2
 rw [e1]
 refine (QuC hO hl3 hl2 (by omega) K1 (by omega) h18.1 (by omega)).bind fun z hz=>?_
 obtain ⟨ls,s2,rfl,hs2,hls,hlm⟩:=hz
 dsimp only
 refine (QV hs2 (by omega) _).bind fun r41 h41=>?_
 obtain ⟨K2,e2,c2⟩:=Qsw h41.2
 rw [e2]
 refine (QuD hl3 K2 (by omega) h41.1 (by omega)).bind fun z hz=>?_
 obtain ⟨bs,s3,rfl,hs3,hbs,hbm⟩:=hz
 dsimp only
 refine (QV hs3 (by omega) _).bind fun r53 h53=>?_
 obtain ⟨K3,e3,c3⟩:=Qsw h53.2
 rw [e3,Qn (by omega) (by omega),show (1:Int)+(K3:Int)=((K3+1:Nat):Int) by omega]
 refine (QuE hl3 (K3+1) (by omega) h53.1 (by omega)).bind fun z hz=>?_
 obtain ⟨pl,s4,rfl,hs4,hpl,hpm⟩:=hz
 exact Dr.ret ⟨hs4.le (by omega),QrJ hO hls hlm hbs hbm (by omega) hpm⟩
def Fit (p:PolD) (I:List (List Int)):Prop:=I.length=p.1.length∧ ∀j (h1:j< p.1.length) (h2:j< I.length),I[j].length≤8*p.1[j].length
theorem Qre {p:PolD} {s:SrcD} {k:Int} (hok:OkPol p) (hs:Sr s k) (hk:k≤1000000):Dr (F_v (s,p,())) fun r=>Sr r.2.1 (k+4000)∧Fit p r.1.1:=by
 have hk0:=hs.pos
 have h3:=hok.own
 unfold F_v
 have key:Dr (L_v_3 (((),((),(([]:List (List Int)),((0:Int),())))),(((p.1,(p.2.1,(p.2.2.1,(p.2.2.2.1,())))),(s,())),()))) fun o=> ∃(I:List (List Int)) (s':SrcD),o= .inl ((I,()),((s',()),()))∧Sr s' (k+4000)∧Fit p I:=by
  refine Qat (fun m u=> ∃(I:List (List Int)) (s':SrcD),u=(((),((),(I,(((I.length:Nat):Int),())))),((p,(s',())),()))∧Sr s' (k+1100*(I.length:Int))∧I.length+m=p.1.length∧ ∀j (h1:j< p.1.length) (h2:j< I.length),I[j].length≤8*p.1[j].length) ?_ p.1.length _
   ⟨[],s,rfl,hs.le (by simp),by simp,fun j _ h2=>by simp at h2⟩ (by rw [QS]; omega)
  rintro rec m _ ⟨I,s',rfl,hs',hm,hI⟩ ih
  unfold l_v_3
  dsimp only
  by_cases c:I.length< p.1.length
  ·have hm0:p.1[I.length]∈p.1:=List.getElem_mem c
   have h5:=hok.own1 _ hm0
   rw [if_pos (lt_t c),if_pos nat0,Qu c]
   rw [Qn (n:=(((p.1[I.length]).length:Nat):Int)*8) (by omega) (by omega),Qn (n:=(((p.1[I.length]).length:Nat):Int)*8+1) (by omega) (by omega)]
   refine (QV hs' (by omega) _).bind fun r9 h9=>?_
   have b9:=bdLt h9.2 (by omega)
   refine (Quk h9.1 (by omega) r9.1.1 b9.1 (by omega)).bind fun r10 h10=>?_
   refine Dr.guard (by simp; omega) ?_
   rw [QY (by omega)]
   refine ih (m-1) _ (by omega) ⟨I++[r10.1.1],r10.2.1,by simp,h10.1.le (by simp; omega),by simp; omega,fun j h1 h2=>?_⟩
   by_cases cj:j< I.length
   ·rw [List.getElem_append_left cj]; exact hI j h1 cj
   ·have:j=I.length:=by simp at h2; omega
    subst this
    rw [List.getElem_concat_length (by rfl)]
    have:=h10.2
    omega
  ·rw [if_neg (lt_f c)]
   exact Dr.ret ⟨I,s',rfl,hs'.le (by omega),by omega,hI⟩
 refine key.bind fun z hz=>?_
 obtain ⟨I,s',rfl,hs',hI⟩:=hz
 exact Dr.ret ⟨hs',hI⟩
def FitQ (p:PolD) (J:List (List Int)):Prop:=J.length=p.1.length∧ ∀q∈J,OkQ q
theorem Qpl {v:QmF} (h:Qmy maxLen (vD v)):Qqt v v=true:=by
 obtain ⟨v1,v2,v3,v4,v5,v6,v7,v8,v9,v10,v11,_⟩:=v
 obtain ⟨⟨h1,h2,h3,h4⟩,h5,h6⟩:=h
 unfold vD at h1 h2 h3 h4 h5 h6
 dsimp only at h1 h2 h3 h4 h5 h6
 have e:F_fu (vD (v1,v2,v3,v4,v5,v6,v7,v8,v9,v10,v11,()),vD (v1,v2,v3,v4,v5,v6,v7,v8,v9,v10,v11,()),())=some ((true,()),()):=by
  unfold F_fu F_ft vD
  dsimp only
  rw [Qaj (v1,v1,()) h1,Qaj (v3,v3,()) h2,Qaj (v8,v8,()) h3,Qaj (v9,v9,()) h4,Qaj (v10,v10,()) h5,Qaj (v11,v11,()) h6]
  simp
 unfold Qqt
 rw [e]
def goH:Nat→QC→QC
 | 0,x=>x
 | n+1,x=>goH n (QaU x)
theorem QoB: ∀(n:Nat) {x:QC},HK x→x.2.2.2.2.2.1+(n:Int)≤1000000→HK (goH n x)
 | 0,_,h,_=>h
 | n+1,x,h,hc=>QoB n (h.next (by omega)) (by show x.2.2.2.2.2.1+1+(n:Int)≤1000000; omega)
theorem QlX: ∀(n:Nat) (x:QC),(goH n x).1=x.1
 | 0,_=>rfl
 | n+1,x=>QlX n (QaU x)
theorem QkL: ∀(n:Nat) (x:QC),(goH n x).2.2.2.2.2.1=x.2.2.2.2.2.1+(n:Int)
 | 0,x=>by rw [goH]; omega
 | n+1,x=>by
  rw [goH,QkL n]
  show x.2.2.2.2.2.1+1+(n:Int)=_
  omega
theorem Qmb {Z:Int×QdU} {n:Int} {x:QC} (h:HK x) (hn:0≤n∧n≤500) (hc:x.2.2.2.2.2.1+n≤1000000):
  L_fg_8 (((),((),(n,((0:Int),())))),((Z,(boxH x,())),()))=some (.inl (((),((),())),((Z,(boxH (goH n.toNat x),())),()))):=by
 refine Dr.eq ?_
 refine Qat (fun m u=> ∃(k:Int) (y:QC),u=(((),((),(n,(k,())))),((Z,(boxH y,())),()))∧k+(m:Int)=n∧0≤k∧HK y∧y.2.2.2.2.2.1+(m:Int)≤1000000∧goH m y=goH n.toNat x) ?_ n.toNat _ ⟨0,x,rfl,by omega,by omega,h,by omega,rfl⟩ (by rw [QS]; omega)
 rintro rec m _ ⟨k,y,rfl,hm,hk,hy,hcy,he⟩ ih
 unfold l_fg_8
 dsimp only
 by_cases c:0< m
 ·rw [if_pos (by rw [QB]; omega)]
  obtain ⟨m',rfl⟩: ∃m',m=m'+1:=⟨m-1,by omega⟩
  refine Dr.step (QhW hy (by omega)) ?_
  dsimp only
  rw [Qn (n:=k+1) (by omega) (by omega)]
  refine ih m' _ (by omega) ⟨k+1,QaU y,rfl,by omega,by omega,hy.next (by omega),?_,he⟩
  show y.2.2.2.2.2.1+1+(m':Int)≤1000000
  omega
 ·obtain rfl:m=0:=by omega
  rw [if_neg (by rw [QB]; omega)]
  have he:y=goH n.toNat x:=he
  subst he
  exact Dr.ret rfl
theorem Qkc {x:QC} {n:Int} (h:HK x) (hn:0≤n∧n≤500) (hc:x.2.2.2.2.2.1+n≤1000000):F_fg (x,n,())=some (((0,boxH (goH n.toNat x)),()),()):=by
 have h0:=h.clock
 refine Dr.eq ?_
 unfold F_fg
 refine Dr.step (QcD x h.le) (Dr.neg (by rw [h.to]; simp) (Dr.step (Qap n 0 500) (Dr.pos (by rw [QcM.2 hn]; rfl) ?_)))
 dsimp only
 rw [Qn (n:=x.2.2.2.2.2.1+n) (by omega) (by omega)]
 exact Dr.neg (by rw [QB]; omega) (Dr.step (QhU h) (Dr.step (Qmb h hn hc) (Dr.ret rfl)))
theorem HK.pgs {x:QC} (h:HK x) {g:Int} (hg:isG x.1 g=true): ∀q∈pgM x.1 g,0≤q.1→8*q.1+8≤(x.2.1.length:Int):=fun q hq _=>by
 have:=Qpc h.ok hg q hq
 rw [h.mem.2]
 omega
theorem QtP: ∀{L:List Int} {a b:Int},L.Pairwise (· < ·)→(∀x∈L,a≤x∧x< b)→(L.length:Int)≤b-a∨L=[]
 | [],_,_,_,_=> .inr rfl
 | x::r,a,b,h,hx=>by
  rw [List.pairwise_cons] at h
  have h0:=hx x (by simp)
  rcases QtP (a:=x+1) (b:=b) h.2 (fun y hy=>⟨by have:=h.1 y hy; omega,(hx y (List.mem_cons_of_mem _ hy)).2⟩) with e | e
  ·left; rw [List.length_cons]; omega
  ·left; rw [e]; simp; omega
def Qny (p:PolD) (x g:Int):Bool:=p.2.1.any (fun l=>l.1==x && l.2.1==g) || p.2.2.1.any (Qal (x,g,()))
theorem QuG {x g:Int} {b:TwoD}:Qal (x,g,()) b=true↔b.1=x∧b.2.1=g:=by
 obtain ⟨b1,b2,_⟩:=b
 unfold Qal
 simp
 constructor <;> rintro ⟨h1,h2⟩ <;> simp [h1,h2]
theorem Qia {p:PolD} (hok:OkPol p) {x g:Int} (h:Qny p x g=true):isG p x=true:=by
 unfold Qny at h
 rw [Bool.or_eq_true,List.any_eq_true,List.any_eq_true] at h
 rcases h with ⟨l,h1,h2⟩ | ⟨b,h1,h2⟩
 ·simp only [Bool.and_eq_true,beq_iff_eq] at h2
  rw [←h2.1]; exact (QcI hok l h1).1.1
 ·rw [←(QuG.1 h2).1]; exact (Qtm hok b h1).1
theorem QoC {p:PolD} (hok:OkPol p) {L:List Int} (h:L.Pairwise (· < ·)) (hg: ∀x∈L,isG p x=true):L.length≤3:=by
 have:=hok.own.2
 rcases QtP (a:=0) (b:=(p.1.length:Int)) h (fun x hx=>Qbr.1 (hg x hx)) with e | e
 ·omega
 ·rw [e]; simp
structure UpG (p:PolD) (L:List Int):Prop where
 up:L.Pairwise (· < ·)
 g: ∀x∈L,isG p x=true
theorem UpG.len {p:PolD} (hok:OkPol p) {L:List Int} (h:UpG p L):L.length≤3:=QoC hok h.up h.g
def Rch (p:PolD) (g x:Int):Prop:= ∀C:Int→Prop,(∀k,Qny p k g=true→C k)→(∀y k,C y→Qny p k y=true→C k)→C x
def gL (n:Nat) (P:Int→Bool):List Int:=((List.range n).map fun i:Nat=>(i:Int)).filter P
theorem Qvq (n:Nat) (P:Int→Bool):(gL n P).length≤n:=by
 unfold gL
 refine Nat.le_trans (List.length_filter_le _ _) (by simp)
theorem Qvr {n:Nat} {P:Int→Bool} {x:Int}:x∈gL n P↔(0≤x∧x< (n:Int))∧P x=true:=by
 unfold gL
 rw [List.mem_filter,List.mem_map]
 refine and_congr_left fun _=>⟨?_,fun h=>⟨x.toNat,?_,?_⟩⟩
 ·rintro ⟨i,h1,rfl⟩
  rw [List.mem_range] at h1
  omega
 ·rw [List.mem_range]; omega
 ·omega
structure Seen (p:PolD) (g:Int) (out:List Int):Prop where
 nd:out.Nodup
 rch: ∀x∈out,Rch p g x
 fst: ∀k,Qny p k g=true→k∈out
theorem QrG {p:PolD} (hok:OkPol p) {g x:Int} (h:Rch p g x):isG p x=true:=h (fun x=>isG p x=true) (fun _ h=>Qia hok h) fun _ _ _ h=>Qia hok h
theorem Qti: ∀{A B:List Int},A.Nodup→(∀x∈A,x∈B)→A.length≤B.length
 | [],_,_,_=>Nat.zero_le _
 | a::r,B,h,hs=>by
  rw [List.nodup_cons] at h
  have ha:=hs a (by simp)
  have hl:=List.length_erase_of_mem ha
  have h1:=Qti (B:=B.erase a) h.2 fun x hx=>by
   have hne:x≠a:=fun e=>h.1 (e▸hx)
   exact (List.mem_erase_of_ne hne).2 (hs x (List.mem_cons_of_mem _ hx))
  have hp:=List.length_pos_of_mem ha
  rw [List.length_cons]; omega
theorem Seen.len {p:PolD} (hok:OkPol p) {g:Int} {out:List Int} (h:Seen p g out):out.length≤3:=by
 have hn:=hok.own.2
 have:=Qti (B:=gL p.1.length fun _=>true) h.nd fun x hx=>Qvr.2 ⟨Qbr.1 (QrG hok (h.rch x hx)),rfl⟩
 have:=Qvq p.1.length fun _=>true
 omega
theorem Qvj {s:SrcD} {k:Int} (hs:Sr s k) (hk:k≤800000):Dr (F_bu (s,())) fun r=>Sr r.2.1 (k+110)∧QgZ 1000 r.1.1:=by
 have hk0:=hs.pos
 unfold F_bu
 refine (Qjf hs (by omega)).bind fun r1 h1=>?_
 refine (QV h1.1 (by omega) _).bind fun r2 h2=>?_
 have hok:=Qfi h1.2
 have a1:=hok.own
 have a2: ∀l∈r1.1.1.1,l.length≤5:=fun l hl=>(hok.own1 l hl).2.1
 have a3:=hok.lanes.1
 have a4:=hok.bells.1
 have a5:=hok.plan
 obtain ⟨⟨p,pu⟩,s1,su⟩:=r1
 obtain ⟨r2a,s2,s2u⟩:=r2
 simp only at h1 h2 hok a1 a2 a3 a4 a5⊢
 have hs2:Sr s2 (k+101):=h2.1.le (by omega)
 have i0:((0:Int)).toNat< p.1.length:=by show 0< _; omega
 have g0:0≤(0:Int)∧(0:Int)< ((p.1.length:Nat):Int):=by omega
 have own0: ∀l:List Int,l.length≤5→QgZ 1000 (p.1.set ((0:Int)).toNat l,p.2.1,p.2.2.1,p.2.2.2.1,()):=fun l hl=>by
  refine ⟨⟨by rw [List.length_set]; show p.1.length≤1000; omega,fun x hx=>?_⟩,by show p.2.1.length≤1000; omega,by show p.2.2.1.length≤1000; omega,by show p.2.2.2.1.length≤1000; omega⟩
  rcases List.mem_or_eq_of_mem_set hx with hx | rfl
  ·have:=a2 x hx; omega
  ·omega
 have hin: ∀x∈p.1,x.length≤1000:=fun x hx=>by have:=a2 x hx; omega
 refine Dr.ite (fun _=>?_) fun _=>Dr.ite (fun _=>?_) fun _=>Dr.ite (fun _=>?_) fun _=>Dr.ite (fun _=>?_) fun _=>Dr.ite (fun _=>?_) fun _=>Dr.ite (fun _=>?_) fun _=>Dr.ite (fun _=>?_) fun _=>Dr.ite (fun _=>?_) fun _=>Dr.ite (fun _=>?_) fun _=>?_
 ·refine Dr.guard g0 (Dr.step (List.getElem?_eq_getElem i0) ?_)
  refine (QbK hs2 (by omega) _ _).bind fun r4 h4=>?_
  have hy:=hok.own1 _ (List.getElem_mem i0)
  refine Dr.step (List.getElem?_eq_getElem i0) (Dr.guard (by show 0≤(0:Int)∧(0:Int)< ((p.1[((0:Int)).toNat].length:Nat):Int); omega) (Dr.step (List.getElem?_eq_getElem i0) (Dr.ret ⟨h4.1.le (by omega),own0 _ (by rw [List.length_set]; omega)⟩)))
 ·refine Dr.guard g0 (Dr.step (List.getElem?_eq_getElem i0) (Dr.step (List.getElem?_eq_getElem i0) (Dr.guard (by show (p.1.length+1)*24≤_; omega) (Dr.ret ⟨hs2.le (by omega),?_⟩))))
  refine ⟨⟨by show (p.1++[p.1[((0:Int)).toNat]]).length≤1000; simp; omega,fun x hx=>?_⟩,by show p.2.1.length≤1000; omega,by show p.2.2.1.length≤1000; omega,by show p.2.2.2.1.length≤1000; omega⟩
  rcases List.mem_append.1 (show x∈p.1++[p.1[((0:Int)).toNat]] from hx) with hx | hx
  ·exact hin x hx
  ·rw [List.mem_singleton.1 hx]; exact hin _ (List.getElem_mem i0)
 ·exact Dr.ret ⟨hs2.le (by omega),⟨⟨Nat.zero_le _,fun x hx=>by cases hx⟩,by show p.2.1.length≤1000; omega,by show p.2.2.1.length≤1000; omega,by show p.2.2.2.1.length≤1000; omega⟩⟩
 ·refine (QV hs2 (by omega) _).bind fun r11 h11=>(QV h11.1 (by omega) _).bind fun r12 h12=>(QbK h12.1 (by omega) _ _).bind fun r13 h13=>(QbK h13.1 (by omega) _ _).bind fun r14 h14=>(QbK h14.1 (by omega) _ _).bind fun r15 h15=>?_
  refine Dr.guard (by show (p.2.1.length+1)*40≤_; omega) (Dr.ret ⟨h15.1.le (by omega),⟨⟨by show p.1.length≤1000; omega,hin⟩,?_,by show p.2.2.1.length≤1000; omega,by show p.2.2.2.1.length≤1000; omega⟩⟩)
  show (p.2.1++[_]).length≤1000
  rw [List.length_append,List.length_singleton]; omega
 ·refine (QV hs2 (by omega) _).bind fun r17 h17=>(QV h17.1 (by omega) _).bind fun r18 h18=>?_
  refine Dr.guard (by show (p.2.2.1.length+2)*16≤_; omega) (Dr.ret ⟨h18.1.le (by omega),⟨⟨by show p.1.length≤1000; omega,hin⟩,by show p.2.1.length≤1000; omega,?_,by show p.2.2.2.1.length≤1000; omega⟩⟩)
  show (p.2.2.1++[_,_]).length≤1000
  rw [List.length_append]; simp; omega
 ·refine (QbK hs2 (by omega) _ _).bind fun r20 h20=>(QbK h20.1 (by omega) _ _).bind fun r21 h21=>?_
  have i2:((0:Int)).toNat< p.2.2.2.1.length:=by show 0< _; omega
  refine Dr.guard (by show 0≤(0:Int)∧(0:Int)< ((p.2.2.2.1.length:Nat):Int); omega) (Dr.step (List.getElem?_eq_getElem i2) (Dr.ret ⟨h21.1.le (by omega),⟨⟨by show p.1.length≤1000; omega,hin⟩,by show p.2.1.length≤1000; omega,by show p.2.2.1.length≤1000; omega,?_⟩⟩))
  show (p.2.2.2.1.set _ _).length≤1000
  rw [List.length_set]; omega
 ·exact Dr.ret ⟨hs2.le (by omega),⟨⟨by show p.1.length≤1000; omega,hin⟩,by show p.2.1.length≤1000; omega,by show p.2.2.1.length≤1000; omega,by show (List.replicate 9 _).length≤1000; rw [List.length_replicate]; omega⟩⟩
 ·exact Dr.guard g0 (Dr.step (List.getElem?_eq_getElem i0) (Dr.ret ⟨hs2.le (by omega),own0 [] (by simp)⟩))
 ·exact Dr.ret ⟨hs2.le (by omega),⟨⟨by show p.1.length≤1000; omega,hin⟩,by show (List.replicate 5 _).length≤1000; rw [List.length_replicate]; omega,by show p.2.2.1.length≤1000; omega,by show p.2.2.2.1.length≤1000; omega⟩⟩
 ·exact Dr.ret ⟨hs2.le (by omega),⟨⟨by show p.1.length≤1000; omega,hin⟩,by show p.2.1.length≤1000; omega,by show p.2.2.1.length≤1000; omega,by show p.2.2.2.1.length≤1000; omega⟩⟩
theorem QgZ.up {m n:Nat} {p:PolD} (h:QgZ m p) (hmn:m≤n):QgZ n p:=
 ⟨⟨Nat.le_trans h.1.1 hmn,fun l hl=>Nat.le_trans (h.1.2 l hl) hmn⟩,Nat.le_trans h.2.1 hmn,Nat.le_trans h.2.2.1 hmn,Nat.le_trans h.2.2.2 hmn⟩
theorem Qpw {q:List Int} (h:OkQ q):F_af (q,())=some (((0,QhS q),()),()):=by
 have hl:=h.len
 refine Dr.eq ?_
 unfold F_af
 dsimp only
 refine Dr.neg (by rw [QB]; omega) (Dr.step (QbC q (by omega)) (Dr.neg (by rw [Qao.2 h.words]; simp) (Dr.guard (by simp; omega) (Dr.ret rfl))))
theorem Qmr {p:PolD} {I:List (List Int)} (hok:OkPol p) (hI:Fit p I):F_y (p,I,())=some ((0,()),()):=by
 have h3:=hok.own
 obtain ⟨hI1,hI2⟩:=hI
 refine Dr.eq ?_
 unfold F_y
 dsimp only
 refine Dr.neg (by rw [hI1]; simp) ?_
 have key:Dr (L_y_4 ((p,(I,((0:Int),()))),((),()))) fun o=>o= .inl ((),((),())):=by
  refine Qat (fun m u=> ∃i:Nat,m+i=3∧u=((p,(I,((i:Int),()))),((),()))) ?_ 3 _ ⟨0,rfl,rfl⟩ (by rw [QS]; omega)
  rintro rec m _ ⟨i,hm,rfl⟩ ih
  unfold l_y_4
  dsimp only
  by_cases c:i< I.length
  ·have c':i< p.1.length:=by omega
   have h5:=hok.own1 _ (List.getElem_mem c')
   have hl:=hI2 i c' c
   rw [if_pos (lt_t c),if_pos nat0,Qu c,if_pos nat0,Qu c',Qn (n:=(((p.1[i]).length:Nat):Int)*8) (by omega) (by omega),if_neg (by rw [QB]; omega),QY (by omega)]
   exact ih (m-1) _ (by omega) ⟨i+1,by omega,rfl⟩
  ·rw [if_neg (lt_f c)]
   exact Dr.ret rfl
 refine key.bind fun o ho=>?_
 subst ho
 exact Dr.ret rfl
theorem QnT {p:PolD} {I:List (List Int)} {m:List Int} {g:Nat} (hok:OkPol p) (hI:Fit p I) (cp:g< p.1.length) (c:g< I.length) (hm:m.length=192):
  L_aa_6 ((p,(I,(m,((g:Int),((0:Int),()))))),((),()))=some (.inl ((p,(I,(imgH p.1[g] 0 I[g] m,((g:Int),())))),((),()))):=by
 have h5:=hok.own1 _ (List.getElem_mem cp)
 have hl:=hI.2 g cp c
 refine Dr.eq ?_
 refine Qat (fun k u=> ∃(i:Nat) (m':List Int),u=((p,(I,(m',((g:Int),((i:Int),()))))),((),()))∧k+i=I[g].length∧m'.length=192∧imgH p.1[g] i (I[g].drop i) m'=imgH p.1[g] 0 I[g] m) ?_ I[g].length _ ⟨0,m,rfl,by omega,hm,by simp⟩ (by rw [QS]; omega)
 rintro rec k _ ⟨i,m',rfl,hk,hm',he⟩ ih
 unfold l_aa_6
 dsimp only
 rw [if_pos nat0,Qu c]
 by_cases ci:i< I[g].length
 ·have hi8:i / 8< p.1[g].length:=by omega
  have hx:=h5.2.2 _ (List.getElem_mem hi8)
  have e1:Int.tdiv (i:Int) 8=((i / 8:Nat):Int):=by rw [Int.tdiv_eq_ediv_of_nonneg (by omega)]; omega
  have e2:Int.tmod (i:Int) 8=((i % 8:Nat):Int):=by rw [Int.tmod_eq_emod_of_nonneg (by omega)]; omega
  rw [if_pos (lt_t ci),if_pos nat0,Qu cp,e1,e2,Qn (n:=((i / 8:Nat):Int)) (by omega) (by omega),if_pos nat0,Qu hi8,Qn (n:=p.1[g][i / 8]*8) (by omega) (by omega),Qn (n:=p.1[g][i / 8]*8+((i % 8:Nat):Int)) (by omega) (by omega),if_pos nat0,Qu c,if_pos nat0,Qu ci,Qdw,Obn,QY (by omega)]
  refine Dr.gat hm' (by omega) fun _ _=>ih (k-1) _ (by omega) ⟨i+1,_,rfl,by omega,by simpa using hm',?_⟩
  rw [←he,List.drop_eq_getElem_cons ci,imgH,gget hi8]
  congr 2
  omega
 ·rw [if_neg (lt_f ci)]
  rw [List.drop_of_length_le (by omega)] at he
  exact Dr.ret (by rw [←he]; rfl)
theorem Qms {p:PolD} {I:List (List Int)} (hp:polM p=0) (hI:Fit p I):F_ab (p,I,())=some (((0,(QcE p.1 I (List.replicate 192 0),())),()),()):=by
 have hok:=Qfi hp
 have h3:=hok.own
 refine Dr.eq ?_
 unfold F_ab
 refine Dr.step (QjE p (Qiv hok)) (Dr.neg (by rw [hp]; simp) (Dr.step (Qmr hok hI) (Dr.neg (by simp) ?_)))
 unfold F_aa
 have key:L_aa_3 ((p,(I,((List.replicate ((192:Int)).toNat (Qbm (.int .i64))),((0:Int),())))),((),()))=some (.inl ((QcE p.1 I (List.replicate 192 0),()),((),()))):=by
  refine Dr.eq ?_
  refine Qat (fun k u=> ∃(g:Nat) (m':List Int),u=((p,(I,(m',((g:Int),())))),((),()))∧k+g=I.length∧m'.length=192∧QcE (p.1.drop g) (I.drop g) m'=QcE p.1 I (List.replicate 192 0)) ?_ I.length _
   ⟨0,_,rfl,by omega,by simp,rfl⟩ (by have:=hI.1; rw [QS]; omega)
  rintro rec k _ ⟨g,m',rfl,hk,hm',he⟩ ih
  unfold l_aa_3
  dsimp only
  have hI1:=hI.1
  by_cases c:g< I.length
  ·have c':g< p.1.length:=by omega
   rw [if_pos (lt_t c)]
   refine Dr.step (QnT hok hI c' c hm') ?_
   dsimp only
   rw [QY (by omega)]
   refine ih (k-1) _ (by omega) ⟨g+1,_,rfl,by omega,by rw [Qja]; exact hm',?_⟩
   rw [←he,List.drop_eq_getElem_cons c,List.drop_eq_getElem_cons c',QcE]
  ·rw [if_neg (lt_f c)]
   rw [List.drop_of_length_le (by omega:I.length≤g),List.drop_of_length_le (by omega:p.1.length≤g)] at he
   exact Dr.ret (by rw [←he]; rfl)
 refine Dr.step (v:=((QcE p.1 I (List.replicate 192 0),()),())) ?_ (Dr.ret rfl)
 exact Dr.eq (Dr.step key (Dr.ret rfl))
theorem Qpr {p:PolD} {I J:List (List Int)} (hp:polM p=0) (hI:Fit p I) (hJ:FitQ p J):F_ag (p,I,J,())=some (((0,boxH (QsB p I J)),()),()):=by
 have hok:=Qfi hp
 have h3:=hok.own
 obtain ⟨hJ1,hJ2⟩:=hJ
 have hpl:0< p.2.2.2.1.length:=by have:=hok.plan; omega
 refine Dr.eq ?_
 unfold F_ag
 refine Dr.step (Qms hp hI) (Dr.neg (by simp) (Dr.neg (by rw [hJ1]; simp) (Dr.step (Qkj hok) ?_)))
 refine Dr.step (v:=p.2.2.2.1.getD 0 (0,0,())) (Qcp (l:=p.2.2.2.1) (k:=0) _ hpl) ?_
 dsimp only
 have key: ∀(Z:Int×QdU) (M:List Int) (t:Int),L_ag_8 ((J,((),((),((0:Int),())))),((Z,(((p.1,(p.2.1,(p.2.2.1,(p.2.2.2.1,(M,(([]:List QO),((0:Int),(t,((0:Int),()))))))))):QdU),())),()))=
   some (.inl (((),((),())),((Z,(((p.1,(p.2.1,(p.2.2.1,(p.2.2.2.1,(M,(J.map QhS,((0:Int),(t,((0:Int),()))))))))):QdU),())),()))):=by
  intro Z M t
  refine Dr.eq ?_
  refine Qat (fun k u=> ∃i:Nat,u=((J,((),((),((i:Int),())))),((Z,(((p.1,(p.2.1,(p.2.2.1,(p.2.2.2.1,(M,((J.take i).map QhS,((0:Int),(t,((0:Int),()))))))))):QdU),())),()))∧k+i=J.length) ?_ J.length _ ⟨0,rfl,by omega⟩ (by rw [QS]; omega)
  rintro rec k _ ⟨i,rfl,hk⟩ ih
  unfold l_ag_8
  dsimp only
  by_cases c:i< J.length
  ·rw [if_pos (lt_t c),if_pos nat0,Qu c,Qpw (hJ2 _ (List.getElem_mem c)),Obn]
   refine Dr.neg (by simp) (Dr.guard (by simp; omega) ?_)
   rw [QY (by omega)]
   refine ih (k-1) _ (by omega) ⟨i+1,?_,by omega⟩
   rw [Qse c,List.map_append]
   rfl
  ·rw [if_neg (lt_f c),List.take_of_length_le (by omega)]
   exact Dr.ret rfl
 exact Dr.step (key _ _ _) (Dr.ret rfl)
theorem Qvy (n:Nat):OkQ (([(5:Int),6].drop 0).take n):=⟨by rw [List.length_take]; simp; omega,fun w hw=>by
 have:=List.mem_of_mem_take hw
 simp only [List.drop_zero,List.mem_cons,List.not_mem_nil,or_false] at this
 unfold WW
 omega⟩
theorem Qvk {s:SrcD} {k:Int} (hs:Sr s k) (hk:k≤500000):Dr (F_ah (s,())) fun r=>Sr r.2.1 (k+4200)∧ ∃x:QC,r.1.1=boxH x∧HK x∧x.2.2.2.2.2.1=0:=by
 have hk0:=hs.pos
 unfold F_ah
 refine (Qjf hs (by omega)).bind fun r1 h1=>?_
 obtain ⟨⟨p,pu⟩,s1,su⟩:=r1
 simp only at h1⊢
 obtain ⟨hs1,hp⟩:=h1
 have hok:=Qfi hp
 have h3:=hok.own
 have key: ∀X:QdU,Dr (L_ah_4 (((),((),((),(([]:List (List Int)),((0:Int),()))))),((X,(p,(s1,()))),()))) fun o=> ∃(J:List (List Int)) (s':SrcD),o= .inl (((),((),((),(J,())))),((X,(p,(s',()))),()))∧Sr s' (k+110)∧FitQ p J:=by
  intro X
  refine Qat (fun m u=> ∃(J:List (List Int)) (s':SrcD),u=(((),((),((),(J,(((J.length:Nat):Int),()))))),((X,(p,(s',()))),()))∧m+J.length=p.1.length∧Sr s' (k+100+(J.length:Int))∧ ∀q∈J,OkQ q) ?_ p.1.length _ ⟨[],s1,rfl,by simp,hs1.le (by simp),by simp⟩ (by rw [QS]; omega)
  rintro rec m _ ⟨J,s',rfl,hm,hs',hq⟩ ih
  unfold l_ah_4
  dsimp only
  by_cases c:J.length< p.1.length
  ·rw [if_pos (lt_t c)]
   refine (QV hs' (by omega) _).bind fun r4 h4=>?_
   have hb:=h4.2.to3
   refine Dr.guard (by show 0≤(0:Int)∧(0:Int)≤r4.1.1∧(r4.1.1:Int)≤2; exact ⟨by omega,hb.2.1,hb.2.2⟩) (Dr.guard (by show (J.length+1)*24≤_; omega) ?_)
   rw [QY (by omega)]
   refine ih (m-1) _ (by omega) ⟨J++[_],r4.2.1,by rw [List.length_append,List.length_singleton],by rw [List.length_append,List.length_singleton]; omega,h4.1.le (by rw [List.length_append,List.length_singleton]; omega),fun q hq'=>?_⟩
   rcases List.mem_append.1 hq' with hq' | hq'
   ·exact hq q hq'
   ·rw [List.mem_singleton.1 hq']; exact Qvy _
  ·rw [if_neg (lt_f c)]
   exact Dr.ret ⟨J,s',rfl,hs'.le (by omega),by omega,hq⟩
 refine (key _).bind fun o ho=>?_
 obtain ⟨J,s',rfl,hs',hJ⟩:=ho
 dsimp only
 refine (Qre hok hs' (by omega)).bind fun r9 h9=>?_
 refine Dr.step (Qpr hp h9.2 hJ) (Dr.ret ⟨h9.1.le (by omega),QsB p r9.1.1 J,rfl,QsC hp hJ.1 hJ.2,rfl⟩)
theorem Qvs {s:SrcD} {k:Int} (hs:Sr s k) (hk:k≤400000):Dr (F_bz (s,())) fun r=>Sr r.2.1 (k+10000)∧QdM 1048576 r.1.1:=by
 have hk0:=hs.pos
 unfold F_bz
 refine (Qvk hs (by omega)).bind fun r1 h1=>?_
 obtain ⟨⟨b,bu⟩,s1,su⟩:=r1
 obtain ⟨hs1,x,hb,hx,hc⟩:=h1
 simp only at hs1 hb⊢
 subst hb
 refine (QV hs1 (by omega) _).bind fun r2 h2=>?_
 obtain ⟨⟨n,nu⟩,s2,s2u⟩:=r2
 simp only at h2⊢
 have hn:(0:Int)≤(n:Int)∧(n:Int)< (60:Int):=bdLt h2.2 (by omega)
 have hc:x.2.2.2.2.2.1=(0:Int):=hc
 generalize hN:(n:Int)=N at hn h2⊢
 have z1: ∀z:Int,0≤z∧z< 60→(0:Int)+(z.toNat:Int)≤60:=fun z h=>by omega
 have z2: ∀z:Int,0≤z∧z< 60→z.toNat< lots:=fun z h=>by rw [QS]; omega
 have key: ∀X:QdU,Dr (L_bz_3 (((),((),((),(N,())))),((X,(boxH x,(s2,()))),()))) fun o=> ∃y:QC,o= .inl (((),((),((),()))),((X,(boxH y,(s2,()))),()))∧HK y:=by
  intro X
  refine Qat (fun m u=> ∃y:QC,u=(((),((),((),((m:Int),())))),((X,(boxH y,(s2,()))),()))∧HK y∧y.2.2.2.2.2.1+(m:Int)≤60) ?_ N.toNat _ ⟨x,by rw [Int.toNat_of_nonneg hn.1],hx,by rw [hc]; exact z1 N hn⟩ (z2 N hn)
  rintro rec m _ ⟨y,rfl,hy,hl⟩ ih
  unfold l_bz_3
  dsimp only
  have hcl:=hy.clock
  by_cases c:0< m
  ·rw [if_pos (by rw [QB]; omega)]
   refine Dr.step (Qoa hy (by omega)) ?_
   dsimp only
   rw [Qn (by omega) (by omega)]
   exact ih (m-1) _ (by omega) ⟨QaU y,by rw [show ((m:Int)-1)=((m-1:Nat):Int) by omega],hy.next (by omega),by show y.2.2.2.2.2.1+1+((m-1:Nat):Int)≤60; omega⟩
  ·obtain rfl:m=0:=by omega
   rw [if_neg (by rw [QB]; omega)]
   exact Dr.ret ⟨y,rfl,hy⟩
 refine (key _).bind fun o ho=>?_
 obtain ⟨y,rfl,hy⟩:=ho
 dsimp only
 have hyl:=hy.le
 refine (QV h2.1 (by omega) _).bind fun r9 h9=>?_
 refine Dr.ite (fun _=>?_) fun _=>Dr.ite (fun _=>?_) fun _=>Dr.ite (fun _=>?_) fun _=>Dr.ite (fun _=>?_) fun _=>Dr.ite (fun _=>?_) fun _=>Dr.ite (fun _=>?_) fun _=>Dr.ite (fun _=>?_) fun _=>?_
 ·exact (Qvj h9.1 (by omega)).bind fun r10 h10=>Dr.ret ⟨h10.1.le (by omega),h10.2.up (by omega),hyl.2.1,hyl.2.2.1,hyl.2.2.2⟩
 ·exact (QoP h9.1 (by omega)).bind fun r11 h11=>Dr.ret ⟨h11.1.le (by omega),hyl.1,Nat.le_trans h11.2 (by omega),hyl.2.2.1,hyl.2.2.2⟩
 ·refine (QsZ h9.1 (by omega)).bind fun r12 h12=>?_
  have hlen:=hy.len
  have h3:=hy.ok.own
  have i0:((0:Int)).toNat< y.2.2.1.length:=by show 0< _; omega
  refine Dr.guard (by show 0≤(0:Int)∧(0:Int)< ((y.2.2.1.length:Nat):Int); omega) (Dr.step (List.getElem?_eq_getElem i0) (Dr.ret ⟨h12.1.le (by omega),hyl.1,hyl.2.1,?_,fun h hm=>?_⟩))
  ·show (y.2.2.1.set _ _).length≤1048576
   rw [List.length_set]; exact hyl.2.2.1
  ·rcases List.mem_or_eq_of_mem_set hm with hm | rfl
   ·exact hyl.2.2.2 h hm
   ·exact h12.2.le
 ·exact (QV h9.1 (by omega) _).bind fun r15 h15=>Dr.ret ⟨h15.1.le (by omega),hyl⟩
 ·exact (QV h9.1 (by omega) _).bind fun r16 h16=>Dr.ret ⟨h16.1.le (by omega),hyl⟩
 ·exact (QbK h9.1 (by omega) _ _).bind fun r18 h18=>Dr.ret ⟨h18.1.le (by omega),hyl⟩
 ·have hlen:=hy.len
  have h3:=hy.ok.own
  refine Dr.guard (by show 0≤(1:Int)∧(1:Int)≤((y.2.2.1.length:Nat):Int)∧((y.2.2.1.length:Nat):Int)≤((y.2.2.1.length:Nat):Int); omega) (Dr.ret ⟨h9.1.le (by omega),hyl.1,hyl.2.1,?_,fun h hm=>hyl.2.2.2 h (List.mem_of_mem_drop (List.mem_of_mem_take hm))⟩)
  show (((y.2.2.1.drop _).take _).length)≤1048576
  rw [List.length_take,List.length_drop]
  have:=hyl.2.2.1
  omega
 ·exact Dr.ret ⟨h9.1.le (by omega),hyl⟩
def zH:QdU:=([],[],[],[],[],[],0,0,0,())
theorem QuF {x:QC} {n:Int} (hx:QdM 1048576 x) (hn:0≤n∧n≤500):
  (HK x∧x.2.2.2.2.2.1+n≤1000000∧F_fg (x,n,())=some (((0,boxH (goH n.toNat x)),()),()))∨
  ∃(c:Int) (z z':QdU),c≠0∧F_fg (x,n,())=some (((c,z),()),())∧F_fn (x,n,())=some (((c,z'),()),()):=by
 by_cases h0:Qcd x=0
 ·have h:=HK.of h0
  have hcl:=h.clock
  by_cases hc:x.2.2.2.2.2.1+n≤1000000
  ·exact .inl ⟨h,hc,Qkc h hn hc⟩
  ·refine .inr ⟨3,zH,zH,by decide,?_,?_⟩
   ·refine Dr.eq ?_
    unfold F_fg
    refine Dr.step (QcD x hx) (Dr.neg (by rw [h0]; simp) (Dr.step (Qap n 0 500) (Dr.pos (by rw [QcM.2 hn]; rfl) ?_)))
    dsimp only
    rw [Qn (n:=x.2.2.2.2.2.1+n) (by omega) (by omega)]
    exact Dr.pos (by rw [QB]; omega) (Dr.ret rfl)
   ·refine Dr.eq ?_
    unfold F_fn
    refine Dr.step (Qik x hx) (Dr.neg (by rw [h0]; simp) (Dr.step (QaI n 0 500) (Dr.pos (by rw [QcM.2 hn]; rfl) ?_)))
    dsimp only
    rw [Qn (n:=x.2.2.2.2.2.1+n) (by omega) (by omega)]
    exact Dr.pos (by rw [QB]; omega) (Dr.ret rfl)
 ·refine .inr ⟨Qcd x,zH,zH,h0,?_,?_⟩
  ·refine Dr.eq ?_
   unfold F_fg
   exact Dr.step (QcD x hx) (Dr.pos (by simpa using h0) (Dr.ret rfl))
  ·refine Dr.eq ?_
   unfold F_fn
   exact Dr.step (Qik x hx) (Dr.pos (by simpa using h0) (Dr.ret rfl))
theorem Qnd: ∀(n:Nat) (x:QC),goH (n+1) x=QaU (goH n x)
 | 0,_=>rfl
 | n+1,x=>Qnd n (QaU x)
theorem Qno {x:QC} (h:HK x) (hc:x.2.2.2.2.2.1< 1000000):F_fo (x,())=some (((0,boxH (QaU x)),()),()):=by
 refine Dr.eq ?_
 unfold F_fo
 refine Dr.step (QcD x h.le) (Dr.neg (by rw [h.to]; simp) (Dr.neg ?_ (Dr.step (QhU h) (Dr.step (QhW h hc) (Dr.ret rfl)))))
 rw [beq_iff_eq]
 show ¬x.2.2.2.2.2.1=1000000
 omega
theorem QhX {x:QC} {g:Int} (h:HK x) (hg:isG x.1 g=true):F_fr (x,g,())=some (((0,QlG x g),()),()):=by
 rw [Qnr x g h.le,Qoo h hg]
theorem QnR (c:List Int) (hb: ∀b∈c,0≤b∧b≤255):Yes (F_fw (c,())):=by
 unfold F_fw F_a
 refine Dr.step rfl (Dr.ite (fun _=>yes rfl) fun h0=>?_)
 have h0: ¬(1048576:Int)< ((c.length:Nat):Int):=by rw [QB] at h0; exact h0
 refine Dr.bind (Q:=fun r=>QdM 1048576 r.1.1) ?_ fun r2 h2=>?_
 ·unfold F_ca
  exact (QtI (Qsx h0 hb)).bind fun r h=>(Qvs h (by omega)).bind fun r' h'=>Dr.ret h'.2
 obtain ⟨⟨x,xu⟩,x2⟩:=r2
 have hx:QdM 1048576 x:=h2
 refine (Qvu (Qsx h0 hb) 4 12 (by omega) (by omega)).bind fun r3 h3=>?_
 obtain ⟨⟨n,nu⟩,n2⟩:=r3
 have hn:(0:Int)≤(n:Int)∧(n:Int)< (12:Int):=bdLt h3 (by omega)
 obtain ⟨N,hN⟩: ∃N:Nat,(n:Int)=(N:Int):=⟨Int.toNat n,(Int.toNat_of_nonneg hn.1).symm⟩
 have hN12:N< 12:=by
  have:=hn.2
  rw [hN] at this
  exact Int.ofNat_lt.1 this
 rcases QuF (n:=(n:Int)) hx (by rw [hN]; omega) with ⟨h,hc,e⟩ | ⟨cd,z,z',hcd,e1,e2⟩
 case inr=>
  refine Dr.step e1 (Dr.pos (by simpa using hcd) (Dr.step e2 (yes ?_)))
  simp
 refine Dr.step e (Dr.neg (by simp) ?_)
 rw [hN] at hc⊢
 rw [Int.toNat_natCast]
 have hy:=QoB N h hc
 have steps:Dr (L_fw_10 (((),((N:Int),((),((),((0:Int),()))))),((boxH x,(((0:Int),boxH (goH N x)),(((0:Int),boxH x),()))),()))) fun o=>o= .inl (((),((),((),()))),((boxH x,(((0:Int),boxH (goH N x)),(((0:Int),boxH (goH N x)),()))),())):=by
  refine Qat (fun m u=> ∃i:Nat,m+i=N∧u=(((),((N:Int),((),((),((i:Int),()))))),((boxH x,(((0:Int),boxH (goH N x)),(((0:Int),boxH (goH i x)),()))),()))) ?_ N _ ⟨0,by omega,rfl⟩ (by rw [QS]; omega)
  rintro rec m _ ⟨i,hm,rfl⟩ ih
  unfold l_fw_10
  dsimp only
  by_cases ci:i< N
  ·rw [if_pos (lt_t ci)]
   have hi:=QoB i h (by omega)
   have hcl:=QkL i x
   have st:=Qno hi (by rw [hcl]; omega)
   rw [←Qnd] at st
   refine Dr.step st (Dr.neg (by simp) ?_)
   rw [QY (by omega)]
   exact ih (m-1) _ (by omega) ⟨i+1,by omega,rfl⟩
  ·rw [if_neg (lt_f ci)]
   exact Dr.ret (by rw [show i=N by omega])
 refine steps.bind fun o ho=>?_
 subst ho
 dsimp only
 have views:Dr (L_fw_16 (((),((),((),((0:Int),())))),((boxH x,(((0:Int),boxH (goH N x)),(((0:Int),boxH (goH N x)),()))),()))) fun o=>o= .inl (((),((),((),()))),((boxH x,(((0:Int),boxH (goH N x)),(((0:Int),boxH (goH N x)),()))),())):=by
  have hlen:=h.len
  refine Qat (fun m u=> ∃i:Nat,m+i=x.2.2.1.length∧u=(((),((),((),((i:Int),())))),((boxH x,(((0:Int),boxH (goH N x)),(((0:Int),boxH (goH N x)),()))),()))) ?_ x.2.2.1.length _ ⟨0,by omega,rfl⟩ (by have:=h.ok.own; rw [QS]; omega)
  rintro rec m _ ⟨i,hm,rfl⟩ ih
  unfold l_fw_16
  dsimp only
  by_cases ci:i< x.2.2.1.length
  ·rw [if_pos (show ltI (i:Int) (((boxH x).2.2.2.2.2.1.length:Nat):Int)=true from lt_t ci)]
   have hg:isG (goH N x).1 (i:Int)=true:=by
    rw [QlX]
    exact Qbr.2 (by omega)
   have hv:=QtS hy hg
   refine Dr.step (QhX hy hg) (Dr.step (QhX hy hg) (Dr.step (QuH (v:=QlG (goH N x) (i:Int)) (w:=QlG (goH N x) (i:Int)) hv).2 ?_))
   rw [Qpl hv]
   refine Dr.neg (by simp) ?_
   rw [QY (by have:=h.ok.own; omega)]
   exact ih (m-1) _ (by omega) ⟨i+1,by omega,rfl⟩
  ·rw [if_neg (show ¬ltI (i:Int) (((boxH x).2.2.2.2.2.1.length:Nat):Int)=true from lt_f ci)]
   exact Dr.ret rfl
 refine views.bind fun o ho=>?_
 subst ho
 dsimp only
 refine Dr.step (Qry (goH N x).2.1 (by have:=hy.mem.2; omega)) (Dr.pos rfl (Dr.pos (by simp) (Dr.pos (by simp) (yes ?_))))
 have l1:=hy.len
 have l2:=h.len
 rw [QlX] at l1
 show ((((goH N x).2.2.1.length:Nat):Int)==((x.2.2.1.length:Nat):Int))=true
 rw [l1,l2]
 simp
theorem QrP: ∀x,inRP P_a x→F_fw x=some ((true,()),()):=by
 rintro ⟨c,_⟩ ⟨hc,_⟩
 exact (QnR c fun b hb=>by
  have:=hc.2 b hb
  have h1:IntKind.u8.min=0:=by decide
  have h2:IntKind.u8.max=255:=by decide
  simp only [inR,h1,h2] at this
  exact this).eq
end Go.Proofs.YticbdcmkcghijaaGreatDoor
