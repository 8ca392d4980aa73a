/- Plain laws: what the functions compute, and that both programs compute the same. -/
import Derived.Test.YticbdcmkcghijaaGreatDoorPb3
namespace Go.Proofs.YticbdcmkcghijaaGreatDoor
open Go Go.RowKit S Go.Proofs
set_option maxRecDepth 100000
section
variable {x y:QF} {A:Int→Prop} {g:Int}
theorem Tw.next (h:Tw x y A) (hc:x.2.2.2.2.2.1< 1000000):Tw (QaC x) (QaC y) A:=by
 have hok:=h.hx.ok;have te:=h.turnEq;have hc':y.2.2.2.2.2.1< 1000000:=by rw [←h.clock]; exact hc
 have slots:QeO x.1.2.2.2.1 x.2.2.2.1 x.2.2.2.2.1=QeO y.1.2.2.2.1 y.2.2.2.1 y.2.2.2.2.1:=by rw [h.pol,h.slot,h.left]
 have ok':=h.hy.ok
 have stay: ∀g,isG x.1 g=true→turnG x≠g→ ∀P,0≤P→(P∈ownL x.1 g∨ ∃l∈x.1.2.1,l.1=g∧l.2.2.1=P)→pg x.2.1 P=pg y.2.1 P→pg (QaC x).2.1 P=pg (QaC y).2.1 P:=fun g hg hne P h0 hP e=>by
  rw [h.hx.stays hg hne h0 hP,h.hy.stays (by rw [←h.pol]; exact hg) (by rw [te]; exact hne) h0 (by rw [←h.pol]; exact hP)]
  exact e
 have own0: ∀g,isG x.1 g=true→ ∀P∈ownL x.1 g,0≤P:=fun g hg P hP=>((hok.own1 _ (QcU hok hg)).2.2 P hP).1
 by_cases ha:A (turnG x)
 ·have ht:=h.hx.turn.2.2.1
  have key:Like (pgM x.1 (turnG x)) (pgM x.1 (turnG x)) (QR x) (QR y):=by
   unfold QR;rw [te, ←h.pol, ←h.hart _ ht ha];exact QjE (s:=Mc.of (x.2.2.1.getD (turnG x).toNat QU) x.2.1) (h.sim ha)
  obtain ⟨k1,k2⟩:=key;have eh:(QR y).hart=(QR x).hart:=by rw [k1]; rfl
  have er:(QR y).ring=(QR x).ring:=by rw [k1]
  have eb:QbU y=QbU x:=by unfold QbU; rw [te,er,h.pol]
  have hh: ∀g,isG x.1 g=true→A g→(QN x).getD g.toNat QU=(QN y).getD g.toNat QU:=fun g hg ag=>by
   by_cases e:turnG x=g
   ·subst e;rw [QmU h.hx, ←te,QmU h.hy,eh]
   ·rw [QgN h.hx hg e,QgN h.hy (by rw [←h.pol]; exact hg) (by rw [te]; exact e)]
    exact h.hart g hg ag
  refine ⟨h.hx.next hc,h.hy.next hc',h.pol,congrArg (·.1) slots,congrArg (·.2) slots,congrArg (· +1) h.clock,h.shut,fun g hg ag=>?_,fun g hg ag P hP=>?_,fun l hl al=>?_⟩
  ·have hg:isG x.1 g=true:=hg;show (if QbU x=true then Qbc (QR x).ring (QN x) else QN x).getD g.toNat QU=(if QbU y=true then Qbc (QR y).ring (QN y) else QN y).getD g.toNat QU
   rw [eb,er];by_cases c:QbU x=true
   ·rw [if_pos c,if_pos c];unfold Qbc;by_cases e:(QR x).ring.toNat=g.toNat
    ·have hlt:=(h.hx.guest hg).1;have hlt':=(h.hy.guest (g:=g) (by rw [←h.pol]; exact hg)).1
     rw [e,QcR (by rw [QbJ]; omega),QcR (by rw [QbJ]; omega),hh g hg ag]
    ·rw [Qcx e,Qcx e,hh g hg ag]
   ·rw [if_neg c,if_neg c,hh g hg ag]
  ·have hg:isG x.1 g=true:=hg;have hP:P∈ownL x.1 g:=hP;by_cases e:turnG x=g
   ·subst e;obtain ⟨k,hk,ek⟩:=List.mem_iff_getElem.1 hP;have p0:=h.hx.ownP hg hk;have h5:=(Qfl hok hg).2;have q:=k2.same k (by omega) (by rw [Qmc hok hg hk]; exact p0)
    rw [Qmc hok hg hk] at q;dsimp only at q;rw [gget hk,ek] at q;exact q
   ·exact stay g hg e P (own0 g hg P hP) (.inl hP) (h.own g hg ag P hP)
  ·have hl:l∈x.1.2.1:=hl;have b:=QdP hok l hl;by_cases e:turnG x=l.1
   ·have q:=k2.same l.2.2.2.1.toNat (by have:=b.2.2.1; omega) (by rw [Qha hok ht hl e.symm]; exact b.2.1.1)
    rw [Qha hok ht hl e.symm] at q;exact q
   ·exact stay l.1 b.1.1 e _ b.2.1.1 (.inr ⟨l,hl,rfl,rfl⟩) (h.gives l hl al)
 ·have ring: ∀z:QF,HK z→z.1=x.1→turnG z=turnG x→ ∀g,A g→isG x.1 g=true→QbU z=true→(QR z).ring.toNat≠g.toNat:=fun z hz ez et g ag hg hr e=>by
   have hk:=Qbs.1 (Qiw hz hr);have hg':=Qbs.1 hg;have e:(QR z).ring=g:=by omega
   unfold QbU at hr;obtain ⟨b,hb,eb⟩:=List.any_eq_true.1 hr;unfold Qam at eb;simp only [Bool.and_true,Bool.and_eq_true,beq_iff_eq] at eb;rw [ez] at hb;have:=h.shut.bell b hb (by rw [←eb.2,e]; exact ag)
   rw [←eb.1,et] at this;exact ha this
  refine ⟨h.hx.next hc,h.hy.next hc',h.pol,congrArg (·.1) slots,congrArg (·.2) slots,congrArg (· +1) h.clock,h.shut,fun g hg ag=>?_,fun g hg ag P hP=>?_,fun l hl al=>?_⟩
  ·have hg:isG x.1 g=true:=hg;have hne:turnG x≠g:=fun e=>ha (e▸ag)
   have hg':isG y.1 g=true:=by rw [←h.pol]; exact hg
   rw [QkH x g (ring x h.hx rfl rfl g ag hg),QkH y g (ring y h.hy h.pol.symm te g ag hg),QgN h.hx hg hne,QgN h.hy hg' (by rw [te]; exact hne)]
   exact h.hart g hg ag
  ·have hg:isG x.1 g=true:=hg;have hP:P∈ownL x.1 g:=hP;exact stay g hg (fun e=>ha (e▸ag)) P (own0 g hg P hP) (.inl hP) (h.own g hg ag P hP)
  ·have hl:l∈x.1.2.1:=hl;have b:=QdP hok l hl;exact stay l.1 b.1.1 (fun e=>ha (e▸al)) _ b.2.1.1 (.inr ⟨l,hl,rfl,rfl⟩) (h.gives l hl al)
end
theorem QfL {α β:Type} {f:Nat→α→Option β}: ∀{m:List α} {i:Nat},(∀j x,x∈m→f j x=none)→scan f i m=none
 | [],_,_=>rfl
 | x::r,i,h=>by
  simp only [scan];rw [h i x (by simp)]
  exact QfL fun j y hy=>h j y (List.mem_cons_of_mem _ hy)
def imgH (own:List Int):Nat→List Int→List Int→List Int
 | _,[],m=>m
 | i,w::r,m=>imgH own (i+1) r (m.set (8*(own.getD (i / 8) 0).toNat+i % 8) (wd w))
def QcE:List (List Int)→List (List Int)→List Int→List Int
 | own::ro,im::ri,m=>QcE ro ri (imgH own 0 im m)
 | _,_,m=>m
theorem QiX (own:List Int): ∀(im:List Int) (i:Nat) (m:List Int),(imgH own i im m).length=m.length
 | [],_,_=>rfl
 | w::r,i,m=>by rw [imgH,QiX own r]; simp
theorem QhC: ∀(L I:List (List Int)) (m:List Int),(QcE L I m).length=m.length
 | [],_,_=>by simp [QcE]
 | _::_,[],_=>by simp [QcE]
 | own::ro,im::ri,m=>by rw [QcE,QhC ro ri,QiX]
theorem Qrz {m:List Int} {i:Nat} {w:Int} (h: ∀x∈m,WW x) (hw:WW w): ∀x∈m.set i w,WW x:=fun x hx=>by
 rcases List.mem_or_eq_of_mem_set hx with hx | rfl
 ·exact h x hx
 ·exact hw
theorem QiY (own:List Int): ∀(im:List Int) (i:Nat) (m:List Int),(∀x∈m,WW x)→ ∀x∈imgH own i im m,WW x
 | [],_,_,h=>h
 | w::r,i,m,h=>QiY own r (i+1) _ (Qrz h (Qag w))
theorem Qif: ∀(L I:List (List Int)) (m:List Int),(∀x∈m,WW x)→ ∀x∈QcE L I m,WW x
 | [],_,_,h=>by simpa [QcE] using h
 | _::_,[],_,h=>by simpa [QcE] using h
 | own::ro,im::ri,m,h=>Qif ro ri _ (QiY own im 0 m h)
def QhX (q:List Int):QO:=(List.replicate 16 0,0,List.replicate 11 0,false,false,false,0,q,[],())
def Qsm (p:PolD) (I J:List (List Int)):QF:=(p,QcE p.1 I (List.replicate 192 0),J.map QhX,0,(p.2.2.2.1.getD 0 (0,0,())).2.1,0,())
theorem Qsz {q:List Int} (h:OkQ q):hartM (QhX q)=0:=by
 unfold hartM QhX;dsimp only;rw [if_pos ⟨by simp,by simp,by simp⟩,if_pos ⟨by decide,by decide,by decide,Qao.2 h.words,by decide⟩,if_pos ⟨h.len,by simp⟩,if_pos (by decide),if_pos (by decide)]
theorem Qlu {p:PolD} (hok:OkPol p):Qap p 0=(0,(p.2.2.2.1.getD 0 (0,0,())).2.1):=by
 unfold Qap;dsimp only;rw [Int.zero_emod,QnV (Qej hok) hok.plan.1];rfl
theorem Qru (n:Nat): ∀x∈List.replicate n (0:Int),WW x:=fun x hx=>by
 rw [(List.mem_replicate.1 hx).2]; unfold WW; omega
theorem Qsn {p:PolD} {I J:List (List Int)} (hp:polM p=0) (hj:J.length=p.1.length) (hq: ∀q∈J,OkQ q):HK (Qsm p I J):=by
 have hok:=Qgb hp;refine ⟨hp,⟨?_,?_⟩,?_,fun h hh=>?_,by show (0:Int)≤0∧(0:Int)≤1000000; omega,?_,?_⟩
 ·show QJ (QcE p.1 I (List.replicate 192 0))=0;unfold QJ;rw [QhC,if_pos (by simp),if_pos (Qao.2 (Qif _ _ _ (Qru _)))]
 ·show (QcE p.1 I (List.replicate 192 0)).length=192;rw [QhC]; simp
 ·show (J.map QhX).length=p.1.length;rw [List.length_map]; exact hj
 ·obtain ⟨q,hm,rfl⟩:=List.mem_map.1 (show h∈J.map QhX from hh)
  exact Qsz (hq q hm)
 ·show (0:Int)=(Qap p 0).1;rw [Qlu hok]
 ·show (p.2.2.2.1.getD 0 (0,0,())).2.1=(Qap p 0).2;rw [Qlu hok]
theorem bdLt {n x:Int} (h:Bd n x) (hn:1≤n):0≤x∧x< n:=by unfold Bd at h; omega
structure OwnI (L:List (List Int)) (page:Int):Prop where
 one: ∀l∈L,1≤l.length∧l.length≤3
 up:L.flatten.Pairwise (· < ·)
 bd: ∀x∈L.flatten,0≤x∧x< page
 top:0≤page∧page≤2+3*(L.length:Int)
theorem OwnI.snoc {L:List (List Int)} {page:Int} (h:OwnI L page) {own:List Int} {K:Nat} (hK:1≤K∧K≤3) (hl:own.length=K) (hu:own.Pairwise (· < ·)) (hb: ∀x∈own,page≤x∧x< page+(K:Int)):OwnI (L++[own]) (page+(K:Int)):=by
 have hp:=h.top;have ef:(L++[own]).flatten=L.flatten++own:=by simp
 refine ⟨fun l hm=>?_,?_,fun x hx=>?_,?_⟩
 ·rcases List.mem_append.1 hm with hm | hm
  ·exact h.one l hm
  ·rw [List.mem_singleton.1 hm]; omega
 ·rw [ef,List.pairwise_append];exact ⟨h.up,hu,fun a ha b hb'=>by have:=(h.bd a ha).2; have:=(hb b hb').1; omega⟩
 ·rw [ef] at hx;rcases List.mem_append.1 hx with hx | hx
  ·have:=h.bd x hx; omega
  ·have:=hb x hx; omega
 ·rw [List.length_append,List.length_singleton]; omega
theorem Qkx: ∀{l seen:List Int},l.Nodup→(∀x∈l,x∉seen)→dupM seen l=false
 | [],_,_,_=>rfl
 | x::r,seen,h,hs=>by
  rw [List.nodup_cons] at h;simp only [dupM,Bool.or_eq_false_iff];refine ⟨by simpa using hs x (by simp),Qkx h.2 fun y hy hm=>?_⟩
  rcases List.mem_append.1 hm with hm | hm
  ·exact hs y (List.mem_cons_of_mem _ hy) hm
  ·rw [List.mem_singleton.1 hm] at hy; exact h.1 hy
theorem OwnI.owns {L:List (List Int)} {page:Int} (h:OwnI L page) (hl:1≤L.length∧L.length≤3):QdK L=0:=by
 have hp:=h.top
 have e:scan (fun (_:Nat) l=>Go.Proofs.YticbdcmkcghijaaGreatDoor.own1 l) 0 L=none:=QfL fun _ l hm=>by
  have:=h.one l hm;unfold Go.Proofs.YticbdcmkcghijaaGreatDoor.own1;rw [if_pos (by omega)]
  refine QfL fun _ x hx=>?_
  have:=h.bd x (List.mem_flatten.2 ⟨l,hm,hx⟩);rw [if_pos (QbR.2 (by omega))]
 unfold QdK;rw [if_pos hl,e,Qkx (h.up.imp fun h=>Int.ne_of_lt h) (by simp)]
 rfl
theorem Qvr {X p:PolD} {s:SrcD} {page g:Int} (K:Nat) (hp:0≤page∧page≤1000) (hK:K≤10):
  Dr (L_m_8 (((),((),((),(page,(g,(([]:List Int),((K:Int),()))))))),((X,(p,(s,()))),()))) fun o=> ∃own:List Int,o= .inl (((),((),((),(page+(K:Int),(g,(own,())))))),((X,(p,(s,()))),()))∧own.length=K∧own.Pairwise (· < ·)∧ ∀x∈own,page≤x∧x< page+(K:Int):=by
 refine Qau (fun m u=> ∃own:List Int,u=(((),((),((),(page+(own.length:Int),(g,(own,((m:Int),()))))))),((X,(p,(s,()))),()))∧own.length+m=K∧own.Pairwise (· < ·)∧ ∀x∈own,page≤x∧x< page+(own.length:Int)) ?_ K _ ⟨[],by simp,by simp,by simp,by simp⟩ (by rw [QW]; omega)
 rintro rec m _ ⟨own,rfl,hm,hu,hb⟩ ih;unfold l_m_8;dsimp only;by_cases c:0< m
 ·rw [if_pos (by rw [QD]; omega)]
  refine Dr.guard (by simp; omega) ?_
  rw [Qm (by omega) (by omega),Qm (by omega) (by omega)]
  refine ih (m-1) _ (by omega) ⟨own++[page+(own.length:Int)],?_,by simp; omega,?_,fun x hx=>?_⟩
  ·rw [List.length_append,List.length_singleton,show page+(own.length:Int)+1=page+((own.length+1:Nat):Int) by omega,show ((m:Int)-1)=((m-1:Nat):Int) by omega]
  ·rw [List.pairwise_append];exact ⟨hu,by simp,fun a ha b hb'=>by rw [List.mem_singleton.1 hb']; exact (hb a ha).2⟩
  ·rw [List.length_append,List.length_singleton];rcases List.mem_append.1 hx with hx | hx
   ·have:=hb x hx; omega
   ·rw [List.mem_singleton.1 hx]; omega
 ·obtain rfl:m=0:=by omega
  rw [if_neg (by rw [QD]; omega)]
  have:own.length=K:=by omega
  subst this;exact Dr.ret ⟨own,rfl,rfl,hu,hb⟩
theorem Qvq {X:PolD} {s:SrcD} {k page:Int} (G:Nat) (hG:1≤G∧G≤3) (hp:0≤page∧page≤2) (hs:Sr s k) (hk:k≤1000000):
  Dr (L_m_4 (((),((),((),(page,((G:Int),()))))),((X,((([]:List (List Int)),(([]:List QP),(([]:List TwoD),(([]:List TwoD),())))),(s,()))),()))) fun o=> ∃(L:List (List Int)) (page':Int) (s':SrcD),
   o= .inl (((),((),((),(page',())))),((X,((L,(([]:List QP),(([]:List TwoD),(([]:List TwoD),())))),(s',()))),()))∧Sr s' (k+3)∧L.length=G∧OwnI L page':=by
 have hk0:=hs.pos
 refine Qau (fun m u=> ∃(L:List (List Int)) (page':Int) (s':SrcD),u=(((),((),((),(page',((m:Int),()))))),((X,((L,(([]:List QP),(([]:List TwoD),(([]:List TwoD),())))),(s',()))),()))∧Sr s' (k+(G:Int)-(m:Int))∧L.length+m=G∧OwnI L page') ?_ G _
  ⟨[],page,s,rfl,hs.le (by omega),by simp,⟨by simp,by simp,by simp,by simp; omega⟩⟩ (by rw [QW]; omega)
 rintro rec m _ ⟨L,pa,s',rfl,hs',hl,hI⟩ ih;unfold l_m_4;dsimp only;have hpa:=hI.top;by_cases c:0< m
 ·rw [if_pos (by rw [QD]; omega)]
  refine (QT hs' (by omega) _).bind fun r6 h6=>?_
  have hb:=bdLt h6.2 (by omega)
  have e:IntKind.i64.wrap (1+(r6.1.1:Int))=((r6.1.1.toNat+1:Nat):Int):=by rw [Qm (by omega) (by omega)]; omega
  rw [e];refine (Qvr (r6.1.1.toNat+1) (by omega) (by omega)).bind fun z hz=>?_
  obtain ⟨own,rfl,ho,hu,hbd⟩:=hz;dsimp only;refine Dr.guard (by simp; omega) ?_
  rw [Qm (by omega) (by omega)]
  refine ih (m-1) _ (by omega) ⟨L++[own],pa+((r6.1.1.toNat+1:Nat):Int),r6.2.1,?_,h6.1.le (by omega),by simp; omega,hI.snoc (by omega) ho hu hbd⟩
  rw [show ((m:Int)-1)=((m-1:Nat):Int) by omega]
 ·obtain rfl:m=0:=by omega
  rw [if_neg (by rw [QD]; omega)]
  exact Dr.ret ⟨L,pa,s',rfl,hs'.le (by omega),by omega,hI⟩
theorem Qun {X:PolD} {L:List (List Int)} {s:SrcD} {k page:Int} (hL:QdK L=0) (hl:1≤L.length∧L.length≤3) (hl2: ∀l∈L,l.length≤1048576) (hp:0≤page∧page≤100) (K:Nat) (hK:K≤3) (hs:Sr s k) (hk:k≤1000000):
  Dr (L_m_15 (((),((),((),(page,(((L.length:Nat):Int),((K:Int),())))))),((X,((L,(([]:List QP),(([]:List TwoD),(([]:List TwoD),())))),(s,()))),()))) fun o=> ∃(ls:List QP) (s':SrcD),
   o= .inl (((),((),((),(((L.length:Nat):Int),())))),((X,((L,(ls,(([]:List TwoD),(([]:List TwoD),())))),(s',()))),()))∧Sr s' (k+12)∧ls.length≤3∧QbK (L,ls,[],[],())=none:=by
 have hk0:=hs.pos
 refine Qau (fun m u=> ∃(ls:List QP) (pa:Int) (s':SrcD),u=(((),((),((),(pa,(((L.length:Nat):Int),((m:Int),())))))),((X,((L,(ls,(([]:List TwoD),(([]:List TwoD),())))),(s',()))),()))∧Sr s' (k+4*(3-(m:Int)))∧ls.length+m≤3∧(0≤pa∧pa+(m:Int)≤103)∧QbK (L,ls,[],[],())=none) ?_ K _
  ⟨[],page,s,rfl,hs.le (by omega),by simp; omega,by omega,rfl⟩ (by rw [QW]; omega)
 rintro rec m _ ⟨ls,pa,s',rfl,hs',hm,hpa,hI⟩ ih;unfold l_m_15;dsimp only;by_cases c:0< m
 ·rw [if_pos (by rw [QD]; omega)]
  refine Dr.guard (by simp; omega) ?_
  refine (QT hs' (by omega) _).bind fun r26 h26=>(QT h26.1 (by omega) _).bind fun r27 h27=>(QT h27.1 (by omega) _).bind fun r28 h28=>(QT h28.1 (by omega) _).bind fun r30 h30=>?_
  have em:((m:Int)-1)=((m-1:Nat):Int):=by omega
  dsimp only [List.nil_append];refine Dr.guard (by simp; omega) ?_
  rw [Qm (n:=pa+1) (by omega) (by omega),Qm (n:=(m:Int)-1) (by omega) (by omega)]
  generalize hx:((r26.1.1,(r27.1.1,(pa,(IntKind.i64.wrap (5+r28.1.1),(IntKind.i64.wrap (5+r30.1.1),()))))):QP)=x;have hlen:(ls++[x]).length=ls.length+1:=by simp
  have skip:Dr (rec (((),((),((),(pa,(((L.length:Nat):Int),((m:Int)-1,())))))),((X,((L,(ls,(([]:List TwoD),(([]:List TwoD),())))),(r30.2.1,()))),()))) fun o=> ∃(ls:List QP) (s':SrcD),
    o= .inl (((),((),((),(((L.length:Nat):Int),())))),((X,((L,(ls,(([]:List TwoD),(([]:List TwoD),())))),(s',()))),()))∧Sr s' (k+12)∧ls.length≤3∧QbK (L,ls,[],[],())=none:=
   ih (m-1) _ (by omega) ⟨ls,pa,r30.2.1,by rw [em],h30.1.le (by omega),by omega,by omega,hI⟩
  refine Dr.step (Qin (L,ls++[x],[],[],()) (by dsimp only; omega) hl2) (Dr.ite (fun _=>?_) fun _=>skip)
  refine Dr.step (Qhh (L,ls++[x],[],[],()) (by dsimp only; omega) hl2 (by dsimp only; omega)) (Dr.ite (fun h0=>?_) fun _=>skip)
  refine ih (m-1) _ (by omega) ⟨ls++[x],pa+1,r30.2.1,by rw [em],h30.1.le (by omega),by omega,by omega,?_⟩
  dsimp only at h0;rw [if_pos (by simp; omega)] at h0
  cases hM:QbK (L,ls++[x],[],[],()) with
  | none=>rfl
  | some c'=>
   rw [hM] at h0;exact absurd (by simpa using h0) (QhB hM)
 ·obtain rfl:m=0:=by omega
  rw [if_neg (by rw [QD]; omega)]
  exact Dr.ret ⟨ls,s',rfl,hs'.le (by omega),by omega,hI⟩
theorem Quo {X:PolD} {L:List (List Int)} {ls:List QP} {s:SrcD} {k:Int} (hl:1≤L.length∧L.length≤3) (K:Nat) (hK:K≤3) (hs:Sr s k) (hk:k≤1000000):
  Dr (L_m_23 (((),((),((),(((L.length:Nat):Int),((K:Int),()))))),((X,((L,(ls,(([]:List TwoD),(([]:List TwoD),())))),(s,()))),()))) fun o=> ∃(bs:List TwoD) (s':SrcD),
   o= .inl (((),((),((),(((L.length:Nat):Int),())))),((X,((L,(ls,(bs,(([]:List TwoD),())))),(s',()))),()))∧Sr s' (k+6)∧bs.length≤1∧ ∀b∈bs,(0≤b.1∧b.1< (L.length:Int))∧(0≤b.2.1∧b.2.1< (L.length:Int))∧b.1≠b.2.1:=by
 have hk0:=hs.pos
 refine Qau (fun m u=> ∃(bs:List TwoD) (s':SrcD),u=(((),((),((),(((L.length:Nat):Int),((m:Int),()))))),((X,((L,(ls,(bs,(([]:List TwoD),())))),(s',()))),()))∧Sr s' (k+2*(3-(m:Int)))∧m≤3∧bs.length≤1∧ ∀b∈bs,(0≤b.1∧b.1< (L.length:Int))∧(0≤b.2.1∧b.2.1< (L.length:Int))∧b.1≠b.2.1) ?_ K _
  ⟨[],s,rfl,hs.le (by omega),hK,by simp,by simp⟩ (by rw [QW]; omega)
 rintro rec m _ ⟨bs,s',rfl,hs',hm,hb1,hI⟩ ih;unfold l_m_23;dsimp only;by_cases c:0< m
 ·rw [if_pos (by rw [QD]; omega)]
  refine (QT hs' (by omega) _).bind fun r44 h44=>(QT h44.1 (by omega) _).bind fun r45 h45=>?_
  have em:((m:Int)-1)=((m-1:Nat):Int):=by omega
  have b1:=bdLt h44.2 (by omega)
  have b2:=bdLt h45.2 (by omega)
  rw [Qm (n:=(m:Int)-1) (by omega) (by omega)]
  have skip: ∀{Q},(∀x,(∃(bs:List TwoD) (s':SrcD),x=(((),((),((),(((L.length:Nat):Int),(((m-1:Nat):Int),()))))),((X,((L,(ls,(bs,(([]:List TwoD),())))),(s',()))),()))∧Sr s' (k+2*(3-((m-1:Nat):Int)))∧m-1≤3∧bs.length≤1∧ ∀b∈bs,(0≤b.1∧b.1< (L.length:Int))∧(0≤b.2.1∧b.2.1< (L.length:Int))∧b.1≠b.2.1)→Dr (rec x) Q)→Dr (rec (((),((),((),(((L.length:Nat):Int),((m:Int)-1,()))))),((X,((L,(ls,(bs,(([]:List TwoD),())))),(r45.2.1,()))),()))) Q:=fun h=>
   h _ ⟨bs,r45.2.1,by rw [em],h45.1.le (by omega),by omega,hb1,hI⟩
  refine Dr.ite (fun hne=>Dr.ite (fun h0=>Dr.guard (by simp; omega) ?_) fun _=>skip fun x hx=>ih (m-1) x (by omega) hx) fun _=>skip fun x hx=>ih (m-1) x (by omega) hx
  rw [QD] at h0;have e0:bs=[]:=List.eq_nil_of_length_eq_zero (by omega)
  subst e0;refine ih (m-1) _ (by omega) ⟨[(r44.1.1,(r45.1.1,()))],r45.2.1,by rw [em]; rfl,h45.1.le (by omega),by omega,by simp,fun b hb=>?_⟩
  rw [List.mem_singleton.1 hb];exact ⟨b1,b2,by simpa using hne⟩
 ·obtain rfl:m=0:=by omega
  rw [if_neg (by rw [QD]; omega)]
  exact Dr.ret ⟨bs,s',rfl,hs'.le (by omega),hb1,hI⟩
theorem Qup {X:PolD} {L:List (List Int)} {ls:List QP} {bs:List TwoD} {s:SrcD} {k:Int} (hl:1≤L.length∧L.length≤3) (K:Nat) (hK:K≤4) (hs:Sr s k) (hk:k≤1000000):
  Dr (L_m_29 (((),((),((),(((L.length:Nat):Int),((K:Int),()))))),((X,((L,(ls,(bs,(([]:List TwoD),())))),(s,()))),()))) fun o=> ∃(pl:List TwoD) (s':SrcD),
   o= .inl (((),((),())),((X,((L,(ls,(bs,(pl,())))),(s',()))),()))∧Sr s' (k+8)∧pl.length=K∧ ∀b∈pl,(0≤b.1∧b.1< (L.length:Int))∧1≤b.2.1∧b.2.1≤9:=by
 have hk0:=hs.pos
 refine Qau (fun m u=> ∃(pl:List TwoD) (s':SrcD),u=(((),((),((),(((L.length:Nat):Int),((m:Int),()))))),((X,((L,(ls,(bs,(pl,())))),(s',()))),()))∧Sr s' (k+2*(4-(m:Int)))∧pl.length+m=K∧ ∀b∈pl,(0≤b.1∧b.1< (L.length:Int))∧1≤b.2.1∧b.2.1≤9) ?_ K _
  ⟨[],s,rfl,hs.le (by omega),by simp,by simp⟩ (by rw [QW]; omega)
 rintro rec m _ ⟨pl,s',rfl,hs',hm,hI⟩ ih;unfold l_m_29;dsimp only;by_cases c:0< m
 ·rw [if_pos (by rw [QD]; omega)]
  refine (QT hs' (by omega) _).bind fun r57 h57=>(QT h57.1 (by omega) _).bind fun r58 h58=>?_
  have em:((m:Int)-1)=((m-1:Nat):Int):=by omega
  have b1:=bdLt h57.2 (by omega)
  have b2:=bdLt h58.2 (by omega)
  rw [Qm (n:=(m:Int)-1) (by omega) (by omega),Qm (n:=1+(r58.1.1:Int)) (by omega) (by omega)]
  refine Dr.guard (by simp; omega) ?_
  refine ih (m-1) _ (by omega) ⟨pl++[(r57.1.1,(1+(r58.1.1:Int),()))],r58.2.1,by rw [em],h58.1.le (by omega),by simp; omega,fun b hb=>?_⟩
  rcases List.mem_append.1 hb with hb | hb
  ·exact hI b hb
  ·rw [List.mem_singleton.1 hb]; exact ⟨b1,by dsimp only; omega,by dsimp only; omega⟩
 ·obtain rfl:m=0:=by omega
  rw [if_neg (by rw [QD]; omega)]
  exact Dr.ret ⟨pl,s',rfl,hs'.le (by omega),by omega,hI⟩
theorem Qrw {L:List (List Int)} {ls:List QP} {bs pl:List TwoD} (h1:QdK L=0) (h2:ls.length≤3) (h3:QbK (L,ls,[],[],())=none) (h4:bs.length≤1)
  (h5: ∀b∈bs,(0≤b.1∧b.1< (L.length:Int))∧(0≤b.2.1∧b.2.1< (L.length:Int))∧b.1≠b.2.1) (h6:1≤pl.length∧pl.length≤4) (h7: ∀b∈pl,(0≤b.1∧b.1< (L.length:Int))∧1≤b.2.1∧b.2.1≤9):polM (L,ls,bs,pl,())=0:=by
 have e1:QbK (L,ls,bs,pl,())=none:=h3
 have e2:QdM (L,ls,bs,pl,())=none:=by
  unfold QdM
  match bs,h4,h5 with
  | [],_,_=>rfl
  | [b],_,h5=>
   have:=h5 b (by simp)
   simp only [scan];unfold QeU QcB;rw [if_pos (Qbs.2 this.1),if_pos (Qbs.2 this.2.1),if_neg this.2.2];rfl
 have e3:Qih (L,ls,bs,pl,())=0:=by
  unfold Qih;rw [if_pos (by dsimp only; omega),QfL]
  intro _ b hb;have:=h7 b hb;rw [if_pos (Qbs.2 this.1),if_pos (QbR.2 (by omega))]
 unfold polM;rw [if_neg (by simpa using h1),if_pos (by dsimp only; omega),e1]
 dsimp only;rw [e2];exact e3
theorem Qsh {n x:Int} (h:Bd n x): ∃K:Nat,x=(K:Int)∧((K:Int)< n∨K=0):=⟨x.toNat,by unfold Bd at h; omega,by unfold Bd at h; omega⟩
theorem Qjc {s:SrcD} {k:Int} (hs:Sr s k) (hk:k≤900000):Dr (F_m (s,())) fun r=>Sr r.2.1 (k+100)∧polM r.1.1=0:=by
 have hk0:=hs.pos;unfold F_m;refine (QT hs (by omega) _).bind fun r1 h1=>(QbD h1.1 (by omega) _ _).bind fun r2 h2=>?_
 have b1:=bdLt h1.2 (by omega)
 obtain ⟨G,eG,hG⟩: ∃G:Nat,(r2.1.1:Int)=(G:Int)∧1≤G∧G≤3:=by
  have key: ∀v:Int,v∈[(2:Int),3,3,1]→ ∃G:Nat,v=(G:Int)∧1≤G∧G≤3:=fun v hv=>by
   simp only [List.mem_cons,List.not_mem_nil,or_false] at hv;exact ⟨v.toNat,by omega,by omega⟩
  exact key _ h2.2
 rw [eG];refine (Qvq G hG (by omega) h2.1 (by omega)).bind fun z hz=>?_
 obtain ⟨L,page,s1,rfl,hs1,hl,hI⟩:=hz;dsimp only;have hl3:1≤L.length∧L.length≤3:=by omega
 have hO:=hI.owns hl3;have hp:=hI.top;have hl2: ∀l∈L,l.length≤1048576:=fun l hm=>by have:=hI.one l hm; omega
 refine (QT hs1 (by omega) _).bind fun r18 h18=>?_
 obtain ⟨K1,e1,c1⟩:=Qsh h18.2;rw [e1];refine (Qun hO hl3 hl2 (by omega) K1 (by omega) h18.1 (by omega)).bind fun z hz=>?_
 obtain ⟨ls,s2,rfl,hs2,hls,hlm⟩:=hz;dsimp only;refine (QT hs2 (by omega) _).bind fun r41 h41=>?_
 obtain ⟨K2,e2,c2⟩:=Qsh h41.2;rw [e2];refine (Quo hl3 K2 (by omega) h41.1 (by omega)).bind fun z hz=>?_
 obtain ⟨bs,s3,rfl,hs3,hbs,hbm⟩:=hz;dsimp only;refine (QT hs3 (by omega) _).bind fun r53 h53=>?_
 obtain ⟨K3,e3,c3⟩:=Qsh h53.2;rw [e3,Qm (by omega) (by omega),show (1:Int)+(K3:Int)=((K3+1:Nat):Int) by omega]
 refine (Qup hl3 (K3+1) (by omega) h53.1 (by omega)).bind fun z hz=>?_
 obtain ⟨pl,s4,rfl,hs4,hpl,hpm⟩:=hz;exact Dr.ret ⟨hs4.le (by omega),Qrw hO hls hlm hbs hbm (by omega) hpm⟩
def Fit (p:PolD) (I:List (List Int)):Prop:=I.length=p.1.length∧ ∀j (h1:j< p.1.length) (h2:j< I.length),I[j].length≤8*p.1[j].length
theorem QqQ {p:PolD} {s:SrcD} {k:Int} (hok:OkPol p) (hs:Sr s k) (hk:k≤1000000):Dr (F_v (s,p,())) fun r=>Sr r.2.1 (k+4000)∧Fit p r.1.1:=by
 have hk0:=hs.pos;have h3:=hok.own;unfold F_v
 have key:Dr (L_v_3 (((),((),(([]:List (List Int)),((0:Int),())))),(((p.1,(p.2.1,(p.2.2.1,(p.2.2.2.1,())))),(s,())),()))) fun o=> ∃(I:List (List Int)) (s':SrcD),o= .inl ((I,()),((s',()),()))∧Sr s' (k+4000)∧Fit p I:=by
  refine Qau (fun m u=> ∃(I:List (List Int)) (s':SrcD),u=(((),((),(I,(((I.length:Nat):Int),())))),((p,(s',())),()))∧Sr s' (k+1100*(I.length:Int))∧I.length+m=p.1.length∧ ∀j (h1:j< p.1.length) (h2:j< I.length),I[j].length≤8*p.1[j].length) ?_ p.1.length _
   ⟨[],s,rfl,hs.le (by simp),by simp,fun j _ h2=>by simp at h2⟩ (by rw [QW]; omega)
  rintro rec m _ ⟨I,s',rfl,hs',hm,hI⟩ ih;unfold l_v_3;dsimp only;by_cases c:I.length< p.1.length
  ·have hm0:p.1[I.length]∈p.1:=List.getElem_mem c;have h5:=hok.own1 _ hm0;rw [if_pos (lt_t c),if_pos nat0,Qw c];rw [Qm (n:=(((p.1[I.length]).length:Nat):Int)*8) (by omega) (by omega),Qm (n:=(((p.1[I.length]).length:Nat):Int)*8+1) (by omega) (by omega)]
   refine (QT hs' (by omega) _).bind fun r9 h9=>?_
   have b9:=bdLt h9.2 (by omega)
   refine (QtV h9.1 (by omega) r9.1.1 b9.1 (by omega)).bind fun r10 h10=>?_
   refine Dr.guard (by simp; omega) ?_
   rw [Qaa (by omega)]
   refine ih (m-1) _ (by omega) ⟨I++[r10.1.1],r10.2.1,by simp,h10.1.le (by simp; omega),by simp; omega,fun j h1 h2=>?_⟩
   by_cases cj:j< I.length
   ·rw [List.getElem_append_left cj]; exact hI j h1 cj
   ·have:j=I.length:=by simp at h2; omega
    subst this;rw [List.getElem_concat_length (by rfl)]
    have:=h10.2;omega
  ·rw [if_neg (lt_f c)];exact Dr.ret ⟨I,s',rfl,hs'.le (by omega),by omega,hI⟩
 refine key.bind fun z hz=>?_
 obtain ⟨I,s',rfl,hs',hI⟩:=hz;exact Dr.ret ⟨hs',hI⟩
def FitQ (p:PolD) (J:List (List Int)):Prop:=J.length=p.1.length∧ ∀q∈J,OkQ q
def goH:Nat→QF→QF
 | 0,x=>x
 | n+1,x=>goH n (QaC x)
theorem Qon: ∀(n:Nat) {x:QF},HK x→x.2.2.2.2.2.1+(n:Int)≤1000000→HK (goH n x)
 | 0,_,h,_=>h
 | n+1,x,h,hc=>Qon n (h.next (by omega)) (by show x.2.2.2.2.2.1+1+(n:Int)≤1000000; omega)
theorem QpN: ∀(n:Nat) (x:QF),(goH n x).1=x.1
 | 0,_=>rfl
 | n+1,x=>QpN n (QaC x)
theorem Qhv: ∀(n:Nat) (x:QF),(goH n x).2.2.2.2.2.1=x.2.2.2.2.2.1+(n:Int)
 | 0,x=>by rw [goH]; omega
 | n+1,x=>by
  rw [goH,Qhv n];show x.2.2.2.2.2.1+1+(n:Int)=_;omega
theorem QlS {Z:Int×QdA} {n:Int} {x:QF} (h:HK x) (hn:0≤n∧n≤500) (hc:x.2.2.2.2.2.1+n≤1000000):
  L_ff_8 (((),((),(n,((0:Int),())))),((Z,(boxH x,())),()))=some (.inl (((),((),())),((Z,(boxH (goH n.toNat x),())),()))):=by
 refine Dr.eq ?_;refine Qau (fun m u=> ∃(k:Int) (y:QF),u=(((),((),(n,(k,())))),((Z,(boxH y,())),()))∧k+(m:Int)=n∧0≤k∧HK y∧y.2.2.2.2.2.1+(m:Int)≤1000000∧goH m y=goH n.toNat x) ?_ n.toNat _ ⟨0,x,rfl,by omega,by omega,h,by omega,rfl⟩ (by rw [QW]; omega)
 rintro rec m _ ⟨k,y,rfl,hm,hk,hy,hcy,he⟩ ih;unfold l_ff_8;dsimp only;by_cases c:0< m
 ·rw [if_pos (by rw [QD]; omega)]
  obtain ⟨m',rfl⟩: ∃m',m=m'+1:=⟨m-1,by omega⟩
  refine Dr.step (Qnc hy (by omega)) ?_
  dsimp only;rw [Qm (n:=k+1) (by omega) (by omega)]
  refine ih m' _ (by omega) ⟨k+1,QaC y,rfl,by omega,by omega,hy.next (by omega),?_,he⟩
  show y.2.2.2.2.2.1+1+(m':Int)≤1000000;omega
 ·obtain rfl:m=0:=by omega
  rw [if_neg (by rw [QD]; omega)]
  have he:y=goH n.toNat x:=he;subst he;exact Dr.ret rfl
theorem QdN {x:QF} {n:Int} (h:HK x) (hn:0≤n∧n≤500) (hc:x.2.2.2.2.2.1+n≤1000000):F_ff (x,n,())=some (((0,boxH (goH n.toNat x)),()),()):=by
 have h0:=h.clock;refine Dr.eq ?_;unfold F_ff;refine Dr.step (Qbq x h.le) (Dr.neg (by rw [h.to]; simp) (Dr.step (Qae n 0 500) (Dr.pos (by rw [QbR.2 hn]; rfl) ?_)))
 dsimp only;rw [Qm (n:=x.2.2.2.2.2.1+n) (by omega) (by omega)]
 exact Dr.neg (by rw [QD]; omega) (Dr.step (QmV h) (Dr.step (QlS h hn hc) (Dr.ret rfl)))
theorem HK.pgs {x:QF} (h:HK x) {g:Int} (hg:isG x.1 g=true): ∀q∈pgM x.1 g,0≤q.1→8*q.1+8≤(x.2.1.length:Int):=fun q hq _=>by
 have:=QoP h.ok hg q hq;rw [h.mem.2];omega
theorem QtC: ∀{L:List Int} {a b:Int},L.Pairwise (· < ·)→(∀x∈L,a≤x∧x< b)→(L.length:Int)≤b-a∨L=[]
 | [],_,_,_,_=> .inr rfl
 | x::r,a,b,h,hx=>by
  rw [List.pairwise_cons] at h;have h0:=hx x (by simp)
  rcases QtC (a:=x+1) (b:=b) h.2 (fun y hy=>⟨by have:=h.1 y hy; omega,(hx y (List.mem_cons_of_mem _ hy)).2⟩) with e | e
  ·left; rw [List.length_cons]; omega
  ·left; rw [e]; simp; omega
def Qnl (p:PolD) (x g:Int):Bool:=p.2.1.any (fun l=>l.1==x && l.2.1==g) || p.2.2.1.any (Qam (x,g,()))
theorem Qus {x g:Int} {b:TwoD}:Qam (x,g,()) b=true↔b.1=x∧b.2.1=g:=by
 obtain ⟨b1,b2,_⟩:=b;unfold Qam;simp;constructor <;> rintro ⟨h1,h2⟩ <;> simp [h1,h2]
theorem Qid {p:PolD} (hok:OkPol p) {x g:Int} (h:Qnl p x g=true):isG p x=true:=by
 unfold Qnl at h;rw [Bool.or_eq_true,List.any_eq_true,List.any_eq_true] at h;rcases h with ⟨l,h1,h2⟩ | ⟨b,h1,h2⟩
 ·simp only [Bool.and_eq_true,beq_iff_eq] at h2;rw [←h2.1]; exact (QdP hok l h1).1.1
 ·rw [←(Qus.1 h2).1]; exact (QsY hok b h1).1
theorem Qoo {p:PolD} (hok:OkPol p) {L:List Int} (h:L.Pairwise (· < ·)) (hg: ∀x∈L,isG p x=true):L.length≤3:=by
 have:=hok.own.2;rcases QtC (a:=0) (b:=(p.1.length:Int)) h (fun x hx=>Qbs.1 (hg x hx)) with e | e
 ·omega
 ·rw [e]; simp
structure UpG (p:PolD) (L:List Int):Prop where
 up:L.Pairwise (· < ·)
 g: ∀x∈L,isG p x=true
theorem UpG.len {p:PolD} (hok:OkPol p) {L:List Int} (h:UpG p L):L.length≤3:=Qoo hok h.up h.g
def Rch (p:PolD) (g x:Int):Prop:= ∀C:Int→Prop,(∀k,Qnl p k g=true→C k)→(∀y k,C y→Qnl p k y=true→C k)→C x
def gL (n:Nat) (P:Int→Bool):List Int:=((List.range n).map fun i:Nat=>(i:Int)).filter P
theorem Qvb (n:Nat) (P:Int→Bool):(gL n P).length≤n:=by
 unfold gL;refine Nat.le_trans (List.length_filter_le _ _) (by simp)
theorem Qvc {n:Nat} {P:Int→Bool} {x:Int}:x∈gL n P↔(0≤x∧x< (n:Int))∧P x=true:=by
 unfold gL;rw [List.mem_filter,List.mem_map];refine and_congr_left fun _=>⟨?_,fun h=>⟨x.toNat,?_,?_⟩⟩
 ·rintro ⟨i,h1,rfl⟩;rw [List.mem_range] at h1;omega
 ·rw [List.mem_range]; omega
 ·omega
structure Seen (p:PolD) (g:Int) (out:List Int):Prop where
 nd:out.Nodup
 rch: ∀x∈out,Rch p g x
 fst: ∀k,Qnl p k g=true→k∈out
theorem Qrt {p:PolD} (hok:OkPol p) {g x:Int} (h:Rch p g x):isG p x=true:=h (fun x=>isG p x=true) (fun _ h=>Qid hok h) fun _ _ _ h=>Qid hok h
theorem QsU: ∀{A B:List Int},A.Nodup→(∀x∈A,x∈B)→A.length≤B.length
 | [],_,_,_=>Nat.zero_le _
 | a::r,B,h,hs=>by
  rw [List.nodup_cons] at h;have ha:=hs a (by simp)
  have hl:=List.length_erase_of_mem ha
  have h1:=QsU (B:=B.erase a) h.2 fun x hx=>by
   have hne:x≠a:=fun e=>h.1 (e▸hx)
   exact (List.mem_erase_of_ne hne).2 (hs x (List.mem_cons_of_mem _ hx))
  have hp:=List.length_pos_of_mem ha;rw [List.length_cons]; omega
theorem Seen.len {p:PolD} (hok:OkPol p) {g:Int} {out:List Int} (h:Seen p g out):out.length≤3:=by
 have hn:=hok.own.2;have:=QsU (B:=gL p.1.length fun _=>true) h.nd fun x hx=>Qvc.2 ⟨Qbs.1 (Qrt hok (h.rch x hx)),rfl⟩
 have:=Qvb p.1.length fun _=>true
 omega
theorem QuU {s:SrcD} {k:Int} (hs:Sr s k) (hk:k≤800000):Dr (F_bu (s,())) fun r=>Sr r.2.1 (k+110)∧Qhc 1000 r.1.1:=by
 have hk0:=hs.pos;unfold F_bu;refine (Qjc hs (by omega)).bind fun r1 h1=>?_
 refine (QT h1.1 (by omega) _).bind fun r2 h2=>?_
 have hok:=Qgb h1.2;have a1:=hok.own;have a2: ∀l∈r1.1.1.1,l.length≤5:=fun l hl=>(hok.own1 l hl).2.1
 have a3:=hok.lanes.1;have a4:=hok.bells.1;have a5:=hok.plan;obtain ⟨⟨p,pu⟩,s1,su⟩:=r1;obtain ⟨r2a,s2,s2u⟩:=r2;simp only at h1 h2 hok a1 a2 a3 a4 a5⊢;have hs2:Sr s2 (k+101):=h2.1.le (by omega)
 have i0:((0:Int)).toNat< p.1.length:=by show 0< _; omega
 have g0:0≤(0:Int)∧(0:Int)< ((p.1.length:Nat):Int):=by omega
 have own0: ∀l:List Int,l.length≤5→Qhc 1000 (p.1.set ((0:Int)).toNat l,p.2.1,p.2.2.1,p.2.2.2.1,()):=fun l hl=>by
  refine ⟨⟨by rw [List.length_set]; show p.1.length≤1000; omega,fun x hx=>?_⟩,by show p.2.1.length≤1000; omega,by show p.2.2.1.length≤1000; omega,by show p.2.2.2.1.length≤1000; omega⟩
  rcases List.mem_or_eq_of_mem_set hx with hx | rfl
  ·have:=a2 x hx; omega
  ·omega
 have hin: ∀x∈p.1,x.length≤1000:=fun x hx=>by have:=a2 x hx; omega
 refine Dr.ite (fun _=>?_) fun _=>Dr.ite (fun _=>?_) fun _=>Dr.ite (fun _=>?_) fun _=>Dr.ite (fun _=>?_) fun _=>Dr.ite (fun _=>?_) fun _=>Dr.ite (fun _=>?_) fun _=>Dr.ite (fun _=>?_) fun _=>Dr.ite (fun _=>?_) fun _=>Dr.ite (fun _=>?_) fun _=>?_
 ·refine Dr.guard g0 (Dr.step (List.getElem?_eq_getElem i0) ?_);refine (QbD hs2 (by omega) _ _).bind fun r4 h4=>?_
  have hy:=hok.own1 _ (List.getElem_mem i0);refine Dr.step (List.getElem?_eq_getElem i0) (Dr.guard (by show 0≤(0:Int)∧(0:Int)< ((p.1[((0:Int)).toNat].length:Nat):Int); omega) (Dr.step (List.getElem?_eq_getElem i0) (Dr.ret ⟨h4.1.le (by omega),own0 _ (by rw [List.length_set]; omega)⟩)))
 ·refine Dr.guard g0 (Dr.step (List.getElem?_eq_getElem i0) (Dr.step (List.getElem?_eq_getElem i0) (Dr.guard (by show (p.1.length+1)*24≤_; omega) (Dr.ret ⟨hs2.le (by omega),?_⟩))))
  refine ⟨⟨by show (p.1++[p.1[((0:Int)).toNat]]).length≤1000; simp; omega,fun x hx=>?_⟩,by show p.2.1.length≤1000; omega,by show p.2.2.1.length≤1000; omega,by show p.2.2.2.1.length≤1000; omega⟩
  rcases List.mem_append.1 (show x∈p.1++[p.1[((0:Int)).toNat]] from hx) with hx | hx
  ·exact hin x hx
  ·rw [List.mem_singleton.1 hx]; exact hin _ (List.getElem_mem i0)
 ·exact Dr.ret ⟨hs2.le (by omega),⟨⟨Nat.zero_le _,fun x hx=>by cases hx⟩,by show p.2.1.length≤1000; omega,by show p.2.2.1.length≤1000; omega,by show p.2.2.2.1.length≤1000; omega⟩⟩
 ·refine (QT hs2 (by omega) _).bind fun r11 h11=>(QT h11.1 (by omega) _).bind fun r12 h12=>(QbD h12.1 (by omega) _ _).bind fun r13 h13=>(QbD h13.1 (by omega) _ _).bind fun r14 h14=>(QbD h14.1 (by omega) _ _).bind fun r15 h15=>?_
  refine Dr.guard (by show (p.2.1.length+1)*40≤_; omega) (Dr.ret ⟨h15.1.le (by omega),⟨⟨by show p.1.length≤1000; omega,hin⟩,?_,by show p.2.2.1.length≤1000; omega,by show p.2.2.2.1.length≤1000; omega⟩⟩)
  show (p.2.1++[_]).length≤1000;rw [List.length_append,List.length_singleton]; omega
 ·refine (QT hs2 (by omega) _).bind fun r17 h17=>(QT h17.1 (by omega) _).bind fun r18 h18=>?_
  refine Dr.guard (by show (p.2.2.1.length+2)*16≤_; omega) (Dr.ret ⟨h18.1.le (by omega),⟨⟨by show p.1.length≤1000; omega,hin⟩,by show p.2.1.length≤1000; omega,?_,by show p.2.2.2.1.length≤1000; omega⟩⟩)
  show (p.2.2.1++[_,_]).length≤1000;rw [List.length_append]; simp; omega
 ·refine (QbD hs2 (by omega) _ _).bind fun r20 h20=>(QbD h20.1 (by omega) _ _).bind fun r21 h21=>?_
  have i2:((0:Int)).toNat< p.2.2.2.1.length:=by show 0< _; omega
  refine Dr.guard (by show 0≤(0:Int)∧(0:Int)< ((p.2.2.2.1.length:Nat):Int); omega) (Dr.step (List.getElem?_eq_getElem i2) (Dr.ret ⟨h21.1.le (by omega),⟨⟨by show p.1.length≤1000; omega,hin⟩,by show p.2.1.length≤1000; omega,by show p.2.2.1.length≤1000; omega,?_⟩⟩))
  show (p.2.2.2.1.set _ _).length≤1000;rw [List.length_set]; omega
 ·exact Dr.ret ⟨hs2.le (by omega),⟨⟨by show p.1.length≤1000; omega,hin⟩,by show p.2.1.length≤1000; omega,by show p.2.2.1.length≤1000; omega,by show (List.replicate 9 _).length≤1000; rw [List.length_replicate]; omega⟩⟩
 ·exact Dr.guard g0 (Dr.step (List.getElem?_eq_getElem i0) (Dr.ret ⟨hs2.le (by omega),own0 [] (by simp)⟩))
 ·exact Dr.ret ⟨hs2.le (by omega),⟨⟨by show p.1.length≤1000; omega,hin⟩,by show (List.replicate 5 _).length≤1000; rw [List.length_replicate]; omega,by show p.2.2.1.length≤1000; omega,by show p.2.2.2.1.length≤1000; omega⟩⟩
 ·exact Dr.ret ⟨hs2.le (by omega),⟨⟨by show p.1.length≤1000; omega,hin⟩,by show p.2.1.length≤1000; omega,by show p.2.2.1.length≤1000; omega,by show p.2.2.2.1.length≤1000; omega⟩⟩
theorem Qhc.up {m n:Nat} {p:PolD} (h:Qhc m p) (hmn:m≤n):Qhc n p:=
 ⟨⟨Nat.le_trans h.1.1 hmn,fun l hl=>Nat.le_trans (h.1.2 l hl) hmn⟩,Nat.le_trans h.2.1 hmn,Nat.le_trans h.2.2.1 hmn,Nat.le_trans h.2.2.2 hmn⟩
def exG (m:List TwoD):List Int:=m.flatMap fun s=>List.replicate s.2.1.toNat s.1
theorem Qss: ∀{m:List TwoD} {k:Nat} {a:Int},(∀s∈m,1≤s.2.1∧s.2.1≤50)→0≤a→a< Qi (-1) m→
  k≤(Qu k m a).1∧ ∃s,m[(Qu k m a).1-k]?=some s∧(exG m)[a.toNat]?=some s.1
 | [],k,a,_,h0,h1=>by simp [Qi] at h1; omega
 | s::r,k,a,h,h0,h1=>by
  have hs:=h s (by simp)
  have hr: ∀q∈r,1≤q.2.1∧q.2.1≤50:=fun q hq=>h q (List.mem_cons_of_mem _ hq)
  rw [QcI] at h1;have e:exG (s::r)=List.replicate s.2.1.toNat s.1++exG r:=by unfold exG; rw [List.flatMap_cons]
  by_cases c:s.2.1≤a
  ·obtain ⟨k1,q,k2,k3⟩:=Qss (m:=r) (k:=k+1) (a:=a-s.2.1) hr (by omega) (by omega)
   rw [Qln c];refine ⟨by omega,q,?_,?_⟩
   ·rw [show (Qu (k+1) r (a-s.2.1)).1-k=((Qu (k+1) r (a-s.2.1)).1-(k+1))+1 by omega,List.getElem?_cons_succ]
    exact k2
   ·rw [e,List.getElem?_append_right (by simp; omega),List.length_replicate,show a.toNat-s.2.1.toNat=(a-s.2.1).toNat by omega]
    exact k3
  ·rw [QjK c];refine ⟨Nat.le_refl _,s,by simp,?_⟩
   rw [e,List.getElem?_append_left (by simp; omega),List.getElem?_replicate,if_pos (by omega)]
theorem QlU {p:PolD} {c:Int} (hp:polM p=0) (h0:0≤c) (h1:c≤1000000): ∃s,p.2.2.2.1[(Qap p c).1.toNat]?=some s∧(exG p.2.2.2.1)[(c % Qi (-1) p.2.2.2.1).toNat]?=some s.1∧
  F_fo (p,c,())=some (((0,(Qap p c).1,(s.1,(Qap p c).2,()),()),()),()):=by
 have hok:=Qgb hp;obtain ⟨hl,hs⟩:=hok.okPlan;have hpos:=QaM hs hok.plan.1;obtain ⟨k1,s,k2,k3⟩:=Qss (k:=0) (a:=c % Qi (-1) p.2.2.2.1) hs (Int.emod_nonneg _ (by omega)) (Int.emod_lt_of_pos _ (by omega))
 have e1:(Qap p c).1=(((Qu 0 p.2.2.2.1 (c % Qi (-1) p.2.2.2.1)).1:Nat):Int):=rfl;have k2':p.2.2.2.1[(Qap p c).1.toNat]?=some s:=by rw [e1,Int.toNat_natCast]; exact k2
 refine ⟨s,k2',k3,?_⟩;refine Dr.eq ?_;unfold F_fo;refine Dr.step (v:=((0,()),())) ?_ ?_
 ·refine Dr.eq ?_;unfold F_fn;refine Dr.step (Qey p (QeH hok)) ?_;rw [hp];refine Dr.pos (by simp) (Dr.step (Qae _ _ _) (Dr.neg ?_ (Dr.ret rfl)))
  rw [QbR.2 ⟨h0,h1⟩]; simp
 ·refine Dr.neg (by simp) (Dr.step (QhZ p c hok h0) (Dr.guard ?_ (Dr.step k2' (Dr.ret rfl))))
  show 0≤(Qap p c).1;rw [e1]; omega
theorem Qpi {q:List Int} (h:OkQ q):F_af (q,())=some (((0,QhX q),()),()):=by
 have hl:=h.len;refine Dr.eq ?_;unfold F_af;dsimp only;refine Dr.neg (by rw [QD]; omega) (Dr.step (QbG q (by omega)) (Dr.neg (by rw [Qao.2 h.words]; simp) (Dr.guard (by simp; omega) (Dr.ret rfl))))
theorem Qmh {p:PolD} {I:List (List Int)} (hok:OkPol p) (hI:Fit p I):F_y (p,I,())=some ((0,()),()):=by
 have h3:=hok.own;obtain ⟨hI1,hI2⟩:=hI;refine Dr.eq ?_;unfold F_y;dsimp only;refine Dr.neg (by rw [hI1]; simp) ?_
 have key:Dr (L_y_4 ((p,(I,((0:Int),()))),((),()))) fun o=>o= .inl ((),((),())):=by
  refine Qau (fun m u=> ∃i:Nat,m+i=3∧u=((p,(I,((i:Int),()))),((),()))) ?_ 3 _ ⟨0,rfl,rfl⟩ (by rw [QW]; omega)
  rintro rec m _ ⟨i,hm,rfl⟩ ih;unfold l_y_4;dsimp only;by_cases c:i< I.length
  ·have c':i< p.1.length:=by omega
   have h5:=hok.own1 _ (List.getElem_mem c');have hl:=hI2 i c' c;rw [if_pos (lt_t c),if_pos nat0,Qw c,if_pos nat0,Qw c',Qm (n:=(((p.1[i]).length:Nat):Int)*8) (by omega) (by omega),if_neg (by rw [QD]; omega),Qaa (by omega)]
   exact ih (m-1) _ (by omega) ⟨i+1,by omega,rfl⟩
  ·rw [if_neg (lt_f c)];exact Dr.ret rfl
 refine key.bind fun o ho=>?_
 subst ho;exact Dr.ret rfl
theorem QnG {p:PolD} {I:List (List Int)} {m:List Int} {g:Nat} (hok:OkPol p) (hI:Fit p I) (cp:g< p.1.length) (c:g< I.length) (hm:m.length=192):
  L_aa_6 ((p,(I,(m,((g:Int),((0:Int),()))))),((),()))=some (.inl ((p,(I,(imgH p.1[g] 0 I[g] m,((g:Int),())))),((),()))):=by
 have h5:=hok.own1 _ (List.getElem_mem cp);have hl:=hI.2 g cp c;refine Dr.eq ?_;refine Qau (fun k u=> ∃(i:Nat) (m':List Int),u=((p,(I,(m',((g:Int),((i:Int),()))))),((),()))∧k+i=I[g].length∧m'.length=192∧imgH p.1[g] i (I[g].drop i) m'=imgH p.1[g] 0 I[g] m) ?_ I[g].length _ ⟨0,m,rfl,by omega,hm,by simp⟩ (by rw [QW]; omega)
 rintro rec k _ ⟨i,m',rfl,hk,hm',he⟩ ih;unfold l_aa_6;dsimp only;rw [if_pos nat0,Qw c];by_cases ci:i< I[g].length
 ·have hi8:i / 8< p.1[g].length:=by omega
  have hx:=h5.2.2 _ (List.getElem_mem hi8);have e1:Int.tdiv (i:Int) 8=((i / 8:Nat):Int):=by rw [Int.tdiv_eq_ediv_of_nonneg (by omega)]; omega
  have e2:Int.tmod (i:Int) 8=((i % 8:Nat):Int):=by rw [Int.tmod_eq_emod_of_nonneg (by omega)]; omega
  rw [if_pos (lt_t ci),if_pos nat0,Qw cp,e1,e2,Qm (n:=((i / 8:Nat):Int)) (by omega) (by omega),if_pos nat0,Qw hi8,Qm (n:=p.1[g][i / 8]*8) (by omega) (by omega),Qm (n:=p.1[g][i / 8]*8+((i % 8:Nat):Int)) (by omega) (by omega),if_pos nat0,Qw c,if_pos nat0,Qw ci,Qdv,Obn,Qaa (by omega)]
  refine Dr.gat hm' (by omega) fun _ _=>ih (k-1) _ (by omega) ⟨i+1,_,rfl,by omega,by simpa using hm',?_⟩
  rw [←he,List.drop_eq_getElem_cons ci,imgH,gget hi8];congr 2;omega
 ·rw [if_neg (lt_f ci)];rw [List.drop_of_length_le (by omega)] at he
  exact Dr.ret (by rw [←he]; rfl)
theorem Qmi {p:PolD} {I:List (List Int)} (hp:polM p=0) (hI:Fit p I):F_ab (p,I,())=some (((0,(QcE p.1 I (List.replicate 192 0),())),()),()):=by
 have hok:=Qgb hp;have h3:=hok.own;refine Dr.eq ?_;unfold F_ab;refine Dr.step (QjB p (QeH hok)) (Dr.neg (by rw [hp]; simp) (Dr.step (Qmh hok hI) (Dr.neg (by simp) ?_)))
 unfold F_aa
 have key:L_aa_3 ((p,(I,((List.replicate ((192:Int)).toNat (Qbl (.int .i64))),((0:Int),())))),((),()))=some (.inl ((QcE p.1 I (List.replicate 192 0),()),((),()))):=by
  refine Dr.eq ?_
  refine Qau (fun k u=> ∃(g:Nat) (m':List Int),u=((p,(I,(m',((g:Int),())))),((),()))∧k+g=I.length∧m'.length=192∧QcE (p.1.drop g) (I.drop g) m'=QcE p.1 I (List.replicate 192 0)) ?_ I.length _
   ⟨0,_,rfl,by omega,by simp,rfl⟩ (by have:=hI.1; rw [QW]; omega)
  rintro rec k _ ⟨g,m',rfl,hk,hm',he⟩ ih;unfold l_aa_3;dsimp only;have hI1:=hI.1;by_cases c:g< I.length
  ·have c':g< p.1.length:=by omega
   rw [if_pos (lt_t c)];refine Dr.step (QnG hok hI c' c hm') ?_;dsimp only;rw [Qaa (by omega)]
   refine ih (k-1) _ (by omega) ⟨g+1,_,rfl,by omega,by rw [QiX]; exact hm',?_⟩
   rw [←he,List.drop_eq_getElem_cons c,List.drop_eq_getElem_cons c',QcE]
  ·rw [if_neg (lt_f c)];rw [List.drop_of_length_le (by omega:I.length≤g),List.drop_of_length_le (by omega:p.1.length≤g)] at he
   exact Dr.ret (by rw [←he]; rfl)
 refine Dr.step (v:=((QcE p.1 I (List.replicate 192 0),()),())) ?_ (Dr.ret rfl);exact Dr.eq (Dr.step key (Dr.ret rfl))
theorem Qpd {p:PolD} {I J:List (List Int)} (hp:polM p=0) (hI:Fit p I) (hJ:FitQ p J):F_ag (p,I,J,())=some (((0,boxH (Qsm p I J)),()),()):=by
 have hok:=Qgb hp;have h3:=hok.own;obtain ⟨hJ1,hJ2⟩:=hJ;have hpl:0< p.2.2.2.1.length:=by have:=hok.plan; omega
 refine Dr.eq ?_;unfold F_ag;refine Dr.step (Qmi hp hI) (Dr.neg (by simp) (Dr.neg (by rw [hJ1]; simp) (Dr.step (Qkf hok) ?_)))
 refine Dr.step (v:=p.2.2.2.1.getD 0 (0,0,())) (Qcp (l:=p.2.2.2.1) (k:=0) _ hpl) ?_;dsimp only
 have key: ∀(Z:Int×QdA) (M:List Int) (t:Int),L_ag_8 ((J,((),((),((0:Int),())))),((Z,(((p.1,(p.2.1,(p.2.2.1,(p.2.2.2.1,(M,(([]:List QO),((0:Int),(t,((0:Int),()))))))))):QdA),())),()))=
   some (.inl (((),((),())),((Z,(((p.1,(p.2.1,(p.2.2.1,(p.2.2.2.1,(M,(J.map QhX,((0:Int),(t,((0:Int),()))))))))):QdA),())),()))):=by
  intro Z M t;refine Dr.eq ?_;refine Qau (fun k u=> ∃i:Nat,u=((J,((),((),((i:Int),())))),((Z,(((p.1,(p.2.1,(p.2.2.1,(p.2.2.2.1,(M,((J.take i).map QhX,((0:Int),(t,((0:Int),()))))))))):QdA),())),()))∧k+i=J.length) ?_ J.length _ ⟨0,rfl,by omega⟩ (by rw [QW]; omega)
  rintro rec k _ ⟨i,rfl,hk⟩ ih;unfold l_ag_8;dsimp only;by_cases c:i< J.length
  ·rw [if_pos (lt_t c),if_pos nat0,Qw c,Qpi (hJ2 _ (List.getElem_mem c)),Obn];refine Dr.neg (by simp) (Dr.guard (by simp; omega) ?_)
   rw [Qaa (by omega)]
   refine ih (k-1) _ (by omega) ⟨i+1,?_,by omega⟩
   rw [QrQ c,List.map_append];rfl
  ·rw [if_neg (lt_f c),List.take_of_length_le (by omega)]
   exact Dr.ret rfl
 exact Dr.step (key _ _ _) (Dr.ret rfl)
theorem Qvj (n:Nat):OkQ (([(5:Int),6].drop 0).take n):=⟨by rw [List.length_take]; simp; omega,fun w hw=>by
 have:=List.mem_of_mem_take hw;simp only [List.drop_zero,List.mem_cons,List.not_mem_nil,or_false] at this;unfold WW;omega⟩
theorem QuV {s:SrcD} {k:Int} (hs:Sr s k) (hk:k≤500000):Dr (F_ah (s,())) fun r=>Sr r.2.1 (k+4200)∧ ∃x:QF,r.1.1=boxH x∧HK x∧x.2.2.2.2.2.1=0:=by
 have hk0:=hs.pos;unfold F_ah;refine (Qjc hs (by omega)).bind fun r1 h1=>?_
 obtain ⟨⟨p,pu⟩,s1,su⟩:=r1;simp only at h1⊢;obtain ⟨hs1,hp⟩:=h1;have hok:=Qgb hp;have h3:=hok.own
 have key: ∀X:QdA,Dr (L_ah_4 (((),((),((),(([]:List (List Int)),((0:Int),()))))),((X,(p,(s1,()))),()))) fun o=> ∃(J:List (List Int)) (s':SrcD),o= .inl (((),((),((),(J,())))),((X,(p,(s',()))),()))∧Sr s' (k+110)∧FitQ p J:=by
  intro X;refine Qau (fun m u=> ∃(J:List (List Int)) (s':SrcD),u=(((),((),((),(J,(((J.length:Nat):Int),()))))),((X,(p,(s',()))),()))∧m+J.length=p.1.length∧Sr s' (k+100+(J.length:Int))∧ ∀q∈J,OkQ q) ?_ p.1.length _ ⟨[],s1,rfl,by simp,hs1.le (by simp),by simp⟩ (by rw [QW]; omega)
  rintro rec m _ ⟨J,s',rfl,hm,hs',hq⟩ ih;unfold l_ah_4;dsimp only;by_cases c:J.length< p.1.length
  ·rw [if_pos (lt_t c)];refine (QT hs' (by omega) _).bind fun r4 h4=>?_
   have hb:=h4.2.to3;refine Dr.guard (by show 0≤(0:Int)∧(0:Int)≤r4.1.1∧(r4.1.1:Int)≤2; exact ⟨by omega,hb.2.1,hb.2.2⟩) (Dr.guard (by show (J.length+1)*24≤_; omega) ?_)
   rw [Qaa (by omega)]
   refine ih (m-1) _ (by omega) ⟨J++[_],r4.2.1,by rw [List.length_append,List.length_singleton],by rw [List.length_append,List.length_singleton]; omega,h4.1.le (by rw [List.length_append,List.length_singleton]; omega),fun q hq'=>?_⟩
   rcases List.mem_append.1 hq' with hq' | hq'
   ·exact hq q hq'
   ·rw [List.mem_singleton.1 hq']; exact Qvj _
  ·rw [if_neg (lt_f c)];exact Dr.ret ⟨J,s',rfl,hs'.le (by omega),by omega,hq⟩
 refine (key _).bind fun o ho=>?_
 obtain ⟨J,s',rfl,hs',hJ⟩:=ho;dsimp only;refine (QqQ hok hs' (by omega)).bind fun r9 h9=>?_
 refine Dr.step (Qpd hp h9.2 hJ) (Dr.ret ⟨h9.1.le (by omega),Qsm p r9.1.1 J,rfl,Qsn hp hJ.1 hJ.2,rfl⟩)
theorem Qvd {s:SrcD} {k:Int} (hs:Sr s k) (hk:k≤400000):Dr (F_bz (s,())) fun r=>Sr r.2.1 (k+10000)∧Qfh 1048576 r.1.1:=by
 have hk0:=hs.pos;unfold F_bz;refine (QuV hs (by omega)).bind fun r1 h1=>?_
 obtain ⟨⟨b,bu⟩,s1,su⟩:=r1;obtain ⟨hs1,x,hb,hx,hc⟩:=h1;simp only at hs1 hb⊢;subst hb;refine (QT hs1 (by omega) _).bind fun r2 h2=>?_
 obtain ⟨⟨n,nu⟩,s2,s2u⟩:=r2;simp only at h2⊢;have hn:(0:Int)≤(n:Int)∧(n:Int)< (60:Int):=bdLt h2.2 (by omega)
 have hc:x.2.2.2.2.2.1=(0:Int):=hc;generalize hN:(n:Int)=N at hn h2⊢;have z1: ∀z:Int,0≤z∧z< 60→(0:Int)+(z.toNat:Int)≤60:=fun z h=>by omega
 have z2: ∀z:Int,0≤z∧z< 60→z.toNat< lots:=fun z h=>by rw [QW]; omega
 have key: ∀X:QdA,Dr (L_bz_3 (((),((),((),(N,())))),((X,(boxH x,(s2,()))),()))) fun o=> ∃y:QF,o= .inl (((),((),((),()))),((X,(boxH y,(s2,()))),()))∧HK y:=by
  intro X;refine Qau (fun m u=> ∃y:QF,u=(((),((),((),((m:Int),())))),((X,(boxH y,(s2,()))),()))∧HK y∧y.2.2.2.2.2.1+(m:Int)≤60) ?_ N.toNat _ ⟨x,by rw [Int.toNat_of_nonneg hn.1],hx,by rw [hc]; exact z1 N hn⟩ (z2 N hn)
  rintro rec m _ ⟨y,rfl,hy,hl⟩ ih;unfold l_bz_3;dsimp only;have hcl:=hy.clock;by_cases c:0< m
  ·rw [if_pos (by rw [QD]; omega)]
   refine Dr.step (QnN hy (by omega)) ?_
   dsimp only;rw [Qm (by omega) (by omega)]
   exact ih (m-1) _ (by omega) ⟨QaC y,by rw [show ((m:Int)-1)=((m-1:Nat):Int) by omega],hy.next (by omega),by show y.2.2.2.2.2.1+1+((m-1:Nat):Int)≤60; omega⟩
  ·obtain rfl:m=0:=by omega
   rw [if_neg (by rw [QD]; omega)]
   exact Dr.ret ⟨y,rfl,hy⟩
 refine (key _).bind fun o ho=>?_
 obtain ⟨y,rfl,hy⟩:=ho;dsimp only;have hyl:=hy.le;refine (QT h2.1 (by omega) _).bind fun r9 h9=>?_
 refine Dr.ite (fun _=>?_) fun _=>Dr.ite (fun _=>?_) fun _=>Dr.ite (fun _=>?_) fun _=>Dr.ite (fun _=>?_) fun _=>Dr.ite (fun _=>?_) fun _=>Dr.ite (fun _=>?_) fun _=>Dr.ite (fun _=>?_) fun _=>?_
 ·exact (QuU h9.1 (by omega)).bind fun r10 h10=>Dr.ret ⟨h10.1.le (by omega),h10.2.up (by omega),hyl.2.1,hyl.2.2.1,hyl.2.2.2⟩
 ·exact (QoC h9.1 (by omega)).bind fun r11 h11=>Dr.ret ⟨h11.1.le (by omega),hyl.1,Nat.le_trans h11.2 (by omega),hyl.2.2.1,hyl.2.2.2⟩
 ·refine (QsL h9.1 (by omega)).bind fun r12 h12=>?_
  have hlen:=hy.len;have h3:=hy.ok.own;have i0:((0:Int)).toNat< y.2.2.1.length:=by show 0< _; omega
  refine Dr.guard (by show 0≤(0:Int)∧(0:Int)< ((y.2.2.1.length:Nat):Int); omega) (Dr.step (List.getElem?_eq_getElem i0) (Dr.ret ⟨h12.1.le (by omega),hyl.1,hyl.2.1,?_,fun h hm=>?_⟩))
  ·show (y.2.2.1.set _ _).length≤1048576;rw [List.length_set]; exact hyl.2.2.1
  ·rcases List.mem_or_eq_of_mem_set hm with hm | rfl
   ·exact hyl.2.2.2 h hm
   ·exact h12.2.le
 ·exact (QT h9.1 (by omega) _).bind fun r15 h15=>Dr.ret ⟨h15.1.le (by omega),hyl⟩
 ·exact (QT h9.1 (by omega) _).bind fun r16 h16=>Dr.ret ⟨h16.1.le (by omega),hyl⟩
 ·exact (QbD h9.1 (by omega) _ _).bind fun r18 h18=>Dr.ret ⟨h18.1.le (by omega),hyl⟩
 ·have hlen:=hy.len;have h3:=hy.ok.own;refine Dr.guard (by show 0≤(1:Int)∧(1:Int)≤((y.2.2.1.length:Nat):Int)∧((y.2.2.1.length:Nat):Int)≤((y.2.2.1.length:Nat):Int); omega) (Dr.ret ⟨h9.1.le (by omega),hyl.1,hyl.2.1,?_,fun h hm=>hyl.2.2.2 h (List.mem_of_mem_drop (List.mem_of_mem_take hm))⟩)
  show (((y.2.2.1.drop _).take _).length)≤1048576;rw [List.length_take,List.length_drop];have:=hyl.2.2.1;omega
 ·exact Dr.ret ⟨h9.1.le (by omega),hyl⟩
def zH:QdA:=([],[],[],[],[],[],0,0,0,())
theorem Qur {x:QF} {n:Int} (hx:Qfh 1048576 x) (hn:0≤n∧n≤500):
  (HK x∧x.2.2.2.2.2.1+n≤1000000∧F_ff (x,n,())=some (((0,boxH (goH n.toNat x)),()),()))∨
  ∃(c:Int) (z z':QdA),c≠0∧F_ff (x,n,())=some (((c,z),()),())∧F_fm (x,n,())=some (((c,z'),()),()):=by
 by_cases h0:QdG x=0
 ·have h:=HK.of h0;have hcl:=h.clock;by_cases hc:x.2.2.2.2.2.1+n≤1000000
  ·exact .inl ⟨h,hc,QdN h hn hc⟩
  ·refine .inr ⟨3,zH,zH,by decide,?_,?_⟩
   ·refine Dr.eq ?_;unfold F_ff;refine Dr.step (Qbq x hx) (Dr.neg (by rw [h0]; simp) (Dr.step (Qae n 0 500) (Dr.pos (by rw [QbR.2 hn]; rfl) ?_)))
    dsimp only;rw [Qm (n:=x.2.2.2.2.2.1+n) (by omega) (by omega)]
    exact Dr.pos (by rw [QD]; omega) (Dr.ret rfl)
   ·refine Dr.eq ?_;unfold F_fm;refine Dr.step (QdL x hx) (Dr.neg (by rw [h0]; simp) (Dr.step (QaE n 0 500) (Dr.pos (by rw [QbR.2 hn]; rfl) ?_)))
    dsimp only;rw [Qm (n:=x.2.2.2.2.2.1+n) (by omega) (by omega)]
    exact Dr.pos (by rw [QD]; omega) (Dr.ret rfl)
 ·refine .inr ⟨QdG x,zH,zH,h0,?_,?_⟩
  ·refine Dr.eq ?_;unfold F_ff;exact Dr.step (Qbq x hx) (Dr.pos (by simpa using h0) (Dr.ret rfl))
  ·refine Dr.eq ?_;unfold F_fm;exact Dr.step (QdL x hx) (Dr.pos (by simpa using h0) (Dr.ret rfl))
theorem Quq {x:QF} {n:Int} (hx:Qfh 1048576 x) (hn: -1≤n∧n≤501):
  (HK x∧(0≤n∧n≤500)∧x.2.2.2.2.2.1+n≤1000000∧F_ff (x,n,())=some (((0,boxH (goH n.toNat x)),()),()))∨
  ∃(c:Int) (z z':QdA),c≠0∧F_ff (x,n,())=some (((c,z),()),())∧F_fm (x,n,())=some (((c,z'),()),()):=by
 by_cases h1:0≤n∧n≤500
 ·rcases Qur hx h1 with h | h
  ·exact .inl ⟨h.1,h1,h.2⟩
  ·exact .inr h
 ·have hb:inB n 0 500=false:=by rw [←Bool.not_eq_true,QbR]; exact h1
  by_cases h0:QdG x=0
  ·refine .inr ⟨3,zH,zH,by decide,?_,?_⟩
   ·refine Dr.eq ?_;unfold F_ff;exact Dr.step (Qbq x hx) (Dr.neg (by rw [h0]; simp) (Dr.step (Qae n 0 500) (Dr.neg (by rw [hb]; decide) (Dr.ret rfl))))
   ·refine Dr.eq ?_;unfold F_fm;exact Dr.step (QdL x hx) (Dr.neg (by rw [h0]; simp) (Dr.step (QaE n 0 500) (Dr.neg (by rw [hb]; decide) (Dr.ret rfl))))
  ·refine .inr ⟨QdG x,zH,zH,h0,?_,?_⟩
   ·refine Dr.eq ?_;unfold F_ff;exact Dr.step (Qbq x hx) (Dr.pos (by simpa using h0) (Dr.ret rfl))
   ·refine Dr.eq ?_;unfold F_fm;exact Dr.step (QdL x hx) (Dr.pos (by simpa using h0) (Dr.ret rfl))
def mnI (a b:Int):Int:=if b< a then b else a
def preM (g:Int):List TwoD→Int→Int
 | [],_=>0
 | s::r,a=>(if s.1=g then mnI a s.2.1 else 0)+preM g r (a-mnI a s.2.1)
def Qbz (p:PolD) (c g:Int):Int:=c / Qi (-1) p.2.2.2.1*Qi g p.2.2.2.1+preM g p.2.2.2.1 (c % Qi (-1) p.2.2.2.1)
theorem QhI {g:Int}: ∀{m:List TwoD},(∀s∈m,1≤s.2.1∧s.2.1≤50)→preM g m 0=0
 | [],_=>rfl
 | s::r,h=>by
  have hs:=h s (by simp)
  have ih:=QhI (g:=g) (m:=r) fun q hq=>h q (List.mem_cons_of_mem _ hq)
  have e:mnI 0 s.2.1=0:=if_neg (by omega)
  rw [preM,e,Int.sub_zero,ih];split <;> rfl
theorem Qnw {g:Int} (hg:0≤g): ∀{m:List TwoD},(∀s∈m,1≤s.2.1∧s.2.1≤50)→preM g m (Qi (-1) m)=Qi g m
 | [],_=>rfl
 | s::r,h=>by
  have hr: ∀q∈r,1≤q.2.1∧q.2.1≤50:=fun q hq=>h q (List.mem_cons_of_mem _ hq)
  have hs:=h s (by simp)
  have ih:=Qnw hg (m:=r) hr;have h0:=(QaJ (g:= -1) hr).1;have e:mnI (s.2.1+Qi (-1) r) s.2.1=s.2.1:=by unfold mnI; split <;> omega
  rw [QcI,preM,e,show s.2.1+Qi (-1) r-s.2.1=Qi (-1) r by omega,ih,Qi]
  congr 1;by_cases c:s.1=g
  ·rw [if_pos c,if_pos (.inr c)]
  ·rw [if_neg c,if_neg (by omega)]
theorem Qqa {g:Int}: ∀{m:List TwoD} {a:Int},(∀s∈m,1≤s.2.1∧s.2.1≤50)→0≤a→0≤preM g m a∧preM g m a≤a
 | [],a,_,h0=>⟨Int.le_refl _,h0⟩
 | s::r,a,h,h0=>by
  have hs:=h s (by simp)
  have e:0≤mnI a s.2.1∧mnI a s.2.1≤a:=by unfold mnI; split <;> omega
  have ih:=Qqa (g:=g) (m:=r) (a:=a-mnI a s.2.1) (fun q hq=>h q (List.mem_cons_of_mem _ hq)) (by omega)
  rw [preM];split <;> omega
theorem QkZ {g:Int}: ∀{m:List TwoD} {k:Nat} {a:Int},(∀s∈m,1≤s.2.1∧s.2.1≤50)→0≤a→a< Qi (-1) m→
  k≤(Qu k m a).1∧preM g m (a+1)=preM g m a+if (m.getD ((Qu k m a).1-k) (0,0,())).1=g then 1 else 0
 | [],k,a,_,h0,h1=>by simp [Qi] at h1; omega
 | s::r,k,a,h,h0,h1=>by
  have hs:=h s (by simp)
  have hr: ∀q∈r,1≤q.2.1∧q.2.1≤50:=fun q hq=>h q (List.mem_cons_of_mem _ hq)
  rw [QcI] at h1;by_cases c:s.2.1≤a
  ·obtain ⟨k1,k2⟩:=QkZ (g:=g) (m:=r) (k:=k+1) (a:=a-s.2.1) hr (by omega) (by omega)
   have e1:mnI a s.2.1=s.2.1:=by unfold mnI; split <;> omega
   have e2:mnI (a+1) s.2.1=s.2.1:=by unfold mnI; split <;> omega
   rw [Qln c];refine ⟨by omega,?_⟩
   rw [preM,preM,e1,e2,show a+1-s.2.1=a-s.2.1+1 by omega,k2,show (Qu (k+1) r (a-s.2.1)).1-k=((Qu (k+1) r (a-s.2.1)).1-(k+1))+1 by omega,List.getD_cons_succ]
   omega
  ·have e1:mnI a s.2.1=a:=by unfold mnI; split <;> omega
   have e2:mnI (a+1) s.2.1=a+1:=by unfold mnI; split <;> omega
   rw [QjK c];refine ⟨Nat.le_refl _,?_⟩;rw [preM,preM,e1,e2,Int.sub_self,Int.sub_self,QhI hr];show _=_+if ((s::r).getD (k-k) (0,0,())).1=g then 1 else 0
   rw [Nat.sub_self,List.getD_cons_zero];by_cases cg:s.1=g
   ·rw [if_pos cg,if_pos cg,if_pos cg]; omega
   ·rw [if_neg cg,if_neg cg,if_neg cg]; omega
theorem QnW {p:PolD} (hok:OkPol p) {c g:Int} (h0:0≤c) (hg:0≤g):Qbz p (c+1) g=Qbz p c g+if (p.2.2.2.1.getD (Qap p c).1.toNat (0,0,())).1=g then 1 else 0:=by
 obtain ⟨hl,hs⟩:=hok.okPlan;have hpos:=QaM hs hok.plan.1;have a0:0≤c % Qi (-1) p.2.2.2.1:=Int.emod_nonneg _ (by omega)
 have a1:c % Qi (-1) p.2.2.2.1< Qi (-1) p.2.2.2.1:=Int.emod_lt_of_pos _ (by omega)
 obtain ⟨_,k2⟩:=QkZ (g:=g) (k:=0) (a:=c % Qi (-1) p.2.2.2.1) hs a0 a1
 have et:(Qap p c).1.toNat=(Qu 0 p.2.2.2.1 (c % Qi (-1) p.2.2.2.1)).1-0:=by
  show (((Qu 0 p.2.2.2.1 (c % Qi (-1) p.2.2.2.1)).1:Nat):Int).toNat=_;omega
 rw [et];unfold Qbz;have ha:=Qnw hg hs;generalize Qi (-1) p.2.2.2.1=R at*;have dm:=Int.mul_ediv_add_emod c R;by_cases c1:c % R+1< R
 ·have q1:(c+1) % R=c % R+1:=by
   rw [Int.add_emod,Int.emod_eq_of_lt (a:=1) (by omega) (by omega)]
   exact Int.emod_eq_of_lt (by omega) c1
  have q2:(c+1) / R=c / R:=by
   rw [show c+1=c % R+1+R*(c / R) by omega,Int.add_mul_ediv_left _ _ (by omega),Int.ediv_eq_zero_of_lt (by omega) c1,Int.zero_add]
  rw [q1,q2,k2];omega
 ·have e1:c % R+1=R:=by omega
  have q0:c+1=R*(c / R+1):=by rw [Int.mul_add,Int.mul_one]; omega
  have q1:(c+1) % R=0:=by rw [q0]; exact Int.mul_emod_right _ _
  have q2:(c+1) / R=c / R+1:=by rw [q0]; exact Int.mul_ediv_cancel_left _ (by omega)
  rw [e1,ha] at k2;rw [q1,q2,QhI hs,Int.add_mul,Int.one_mul,k2];omega
theorem QnX {p:PolD} (hok:OkPol p) {c g:Int} (hc:0≤c∧c≤1000000):0≤Qbz p c g∧Qbz p c g≤1000000000:=by
 obtain ⟨hl,hs⟩:=hok.okPlan;have hpl:=hok.plan;have hpos:=QaM hs hok.plan.1;have hle:=QaJ (g:= -1) hs;have hlg:=QaJ (g:=g) hs;have a0:0≤c % Qi (-1) p.2.2.2.1:=Int.emod_nonneg _ (by omega)
 have a1:c % Qi (-1) p.2.2.2.1< Qi (-1) p.2.2.2.1:=Int.emod_lt_of_pos _ (by omega)
 have d0:0≤c / Qi (-1) p.2.2.2.1:=Int.ediv_nonneg hc.1 (by omega)
 have d1:c / Qi (-1) p.2.2.2.1≤c:=Int.ediv_le_self _ hc.1;have m0:=Int.mul_nonneg d0 hlg.1;have m1:c / Qi (-1) p.2.2.2.1*Qi g p.2.2.2.1≤1000000*400:=Int.mul_le_mul (by omega) (by omega) hlg.1 (by omega)
 have b:=Qqa (g:=g) hs a0;unfold Qbz;omega
theorem Qja {p:PolD} (hok:OkPol p) (g b a:Int) (hb:0≤b∧b≤1000000000) (ha:0≤a∧a≤1000) (Z:Int×Int×Unit):
  L_fr_9 ((g,((),(b,(a,(p.2.2.2.1,(((p.2.2.2.1.length:Nat):Int),((0:Int),()))))))),((Z,()),()))=some (.inl (((),(b+preM g p.2.2.2.1 a,())),((Z,()),()))):=by
 obtain ⟨hl,hs⟩:=hok.okPlan;refine Dr.eq ?_;refine Qau (fun n u=> ∃(i:Nat) (b' a':Int),u=((g,((),(b',(a',(p.2.2.2.1,(((p.2.2.2.1.length:Nat):Int),((i:Int),()))))))),((Z,()),()))∧n+i=p.2.2.2.1.length∧(0≤a'∧a'≤1000)∧(0≤b'∧b'≤1000000000+50*(i:Int))∧b'+preM g (p.2.2.2.1.drop i) a'=b+preM g p.2.2.2.1 a) ?_ p.2.2.2.1.length _ ⟨0,b,a,rfl,by omega,ha,by omega,by simp⟩ (by have:=hok.plan; rw [QW]; omega)
 rintro rec n _ ⟨i,b',a',rfl,hn,ha',hb',he⟩ ih;have hpl:=hok.plan;unfold l_fr_9;dsimp only;by_cases ci:i< p.2.2.2.1.length
 ·have hb:=hs _ (List.getElem_mem ci);rw [if_pos (lt_t ci),if_pos nat0,Qw ci];rw [List.drop_eq_getElem_cons ci,preM] at he;have em:(if (p.2.2.2.1[i]).2.1< a' then (p.2.2.2.1[i]).2.1 else a')=mnI a' (p.2.2.2.1[i]).2.1:=rfl
  have e1:0≤mnI a' (p.2.2.2.1[i]).2.1∧mnI a' (p.2.2.2.1[i]).2.1≤a'∧mnI a' (p.2.2.2.1[i]).2.1≤50:=by unfold mnI; split <;> omega
  rw [em];rw [Qaa (by omega),Qm (n:=a'-mnI a' (p.2.2.2.1[i]).2.1) (by omega) (by omega)]
  by_cases cg:(p.2.2.2.1[i]).1=g
  ·rw [if_pos cg] at he;refine Dr.pos (by simpa using cg) ?_
   rw [Qm (n:=b'+mnI a' (p.2.2.2.1[i]).2.1) (by omega) (by omega)]
   exact ih (n-1) _ (by omega) ⟨i+1,_,_,rfl,by omega,by omega,by omega,by omega⟩
  ·rw [if_neg cg] at he;exact Dr.neg (by simpa using cg) (ih (n-1) _ (by omega) ⟨i+1,_,_,rfl,by omega,by omega,by omega,by omega⟩)
 ·rw [if_neg (lt_f ci)];rw [List.drop_of_length_le (by omega)] at he
  have he:b'+0=b+preM g p.2.2.2.1 a:=he;exact Dr.ret (by rw [←he,Int.add_zero])
theorem Qia {p:PolD} {c g:Int} (hp:polM p=0) (hc:0≤c∧c≤1000000) (hg:isG p g=true):
  F_fr (p,c,g,())=some (((0,Qbz p c g,()),()),()):=by
 have hok:=Qgb hp;obtain ⟨hl,hs⟩:=hok.okPlan;have hpl:=hok.plan;have hpos:=QaM hs hok.plan.1;have h3:=hok.own;have hle:=QaJ (g:= -1) hs;have hlg:=QaJ (g:=g) hs;have a0:0≤c % Qi (-1) p.2.2.2.1:=Int.emod_nonneg _ (by omega)
 have a1:c % Qi (-1) p.2.2.2.1< Qi (-1) p.2.2.2.1:=Int.emod_lt_of_pos _ (by omega)
 have d0:0≤c / Qi (-1) p.2.2.2.1:=Int.ediv_nonneg hc.1 (by omega)
 have d1:c / Qi (-1) p.2.2.2.1≤c:=Int.ediv_le_self _ hc.1;have m0:=Int.mul_nonneg d0 hlg.1;have m1:c / Qi (-1) p.2.2.2.1*Qi g p.2.2.2.1≤1000000*400:=Int.mul_le_mul (by omega) (by omega) hlg.1 (by omega)
 refine Dr.eq ?_;unfold F_fr;refine Dr.step (v:=((0,()),())) ?_ (Dr.neg (by simp) (Dr.step (QeA p g (by omega)) (Dr.neg (by rw [hg]; simp) (Dr.step (Qdw p (-1) ⟨hl,hs⟩) ?_))))
 ·refine Dr.eq ?_;unfold F_fn;refine Dr.step (Qey p (QeH hok)) ?_;rw [hp];refine Dr.pos (by simp) (Dr.step (Qae _ _ _) (Dr.neg ?_ (Dr.ret rfl)))
  rw [QbR.2 hc]; simp
 ·dsimp only;have hne: ¬Qi (-1) p.2.2.2.1=0:=by omega
  rw [if_neg hne];refine Dr.step (Qdw p g ⟨hl,hs⟩) ?_;dsimp only;rw [if_neg hne,Qfx hc.1,Int.tdiv_eq_ediv_of_nonneg hc.1,Qm (n:=c / Qi (-1) p.2.2.2.1) (by omega) (by omega),Qm (by omega) (by omega)]
  refine Dr.step (Qja hok g _ _ ⟨m0,by omega⟩ ⟨a0,by omega⟩ _) (Dr.ret rfl)
def Qbp (h:QO):Int:=h.2.2.2.2.2.2.1
theorem QpE {h:QO} (hh:hartM h=0):0≤Qbp h∧Qbp h≤1000000000:=by
 unfold hartM at hh;split at hh
 ·split at hh
  ·split at hh
   ·split at hh
    ·rename_i h3;exact QbR.1 h3
    ·cases hh
   ·cases hh
  ·cases hh
 ·cases hh
theorem bt5 {x a b:Int} (ha:0≤a∧a≤501) (hb:0≤b∧b≤501) (h:x∈[a,b,0,501, -1]):Bt (-1) 501 x:=by
 simp only [List.mem_cons,List.not_mem_nil,or_false] at h;unfold Bt;omega
theorem Qoq {x:QF} (h:HK x) {g:Int} (hg:isG x.1 g=true):
  Qbp (x.2.2.1.getD g.toNat QU)≤Qbp ((QaC x).2.2.1.getD g.toNat QU)∧Qbp ((QaC x).2.2.1.getD g.toNat QU)≤Qbp (x.2.2.1.getD g.toNat QU)+if turnG x=g then 1 else 0:=by
 have hgi:=(h.guest hg).1;have ht:=(h.guest h.turn.2.2.1).1
 have e0:Qbp ((QaC x).2.2.1.getD g.toNat QU)=Qbp ((QN x).getD g.toNat QU):=by
  have q:=congrArg Qbp (Qgr x g);exact q
 rw [e0];unfold QN;by_cases e:turnG x=g
 ·subst e;rw [QcR (by omega),if_pos rfl]
  exact h.stepP.dn
 ·rw [Qcx (by omega),if_neg e,Int.add_zero]
  exact ⟨Int.le_refl _,Int.le_refl _⟩
theorem QmS {g:Int}: ∀(n:Nat) {x:QF},HK x→isG x.1 g=true→x.2.2.2.2.2.1+(n:Int)≤1000000→
  Qbp (x.2.2.1.getD g.toNat QU)≤Qbp ((goH n x).2.2.1.getD g.toNat QU)∧Qbp ((goH n x).2.2.1.getD g.toNat QU)-Qbp (x.2.2.1.getD g.toNat QU)≤Qbz x.1 (x.2.2.2.2.2.1+(n:Int)) g-Qbz x.1 x.2.2.2.2.2.1 g
 | 0,x,_,_,_=>by
  have e:x.2.2.2.2.2.1+((0:Nat):Int)=x.2.2.2.2.2.1:=Int.add_zero _;rw [e,goH,Int.sub_self,Int.sub_self];exact ⟨Int.le_refl _,Int.le_refl _⟩
 | n+1,x,h,hg,hc=>by
  have h0:=Qoq h hg;have hcl:=h.clock;have ih:=QmS (g:=g) n (x:=QaC x) (h.next (by omega)) hg (by show x.2.2.2.2.2.1+1+(n:Int)≤1000000; omega)
  have et:=QnW (g:=g) h.ok (c:=x.2.2.2.2.2.1) hcl.1 (Qbs.1 hg).1;rw [←h.slot] at et;have et:Qbz x.1 (x.2.2.2.2.2.1+1) g=Qbz x.1 x.2.2.2.2.2.1 g+if turnG x=g then 1 else 0:=et
  have ec:x.2.2.2.2.2.1+((n+1:Nat):Int)=x.2.2.2.2.2.1+1+(n:Int):=by omega
  rw [goH,ec];have ih:Qbp ((QaC x).2.2.1.getD g.toNat QU)≤Qbp ((goH n (QaC x)).2.2.1.getD g.toNat QU)∧Qbp ((goH n (QaC x)).2.2.1.getD g.toNat QU)-Qbp ((QaC x).2.2.1.getD g.toNat QU)≤Qbz x.1 (x.2.2.2.2.2.1+1+(n:Int)) g-Qbz x.1 (x.2.2.2.2.2.1+1) g:=ih;omega
theorem QpM: ∀(a b:Nat) (x:QF),goH b (goH a x)=goH (a+b) x
 | 0,b,x=>by rw [Nat.zero_add]; rfl
 | a+1,b,x=>by rw [Nat.add_right_comm]; exact QpM a b (QaC x)
theorem QvD {K N:Nat} {k:Int} (h:k< (N:Int)+1) (e:k=(K:Int)):K≤N:=by omega
theorem QqF {c:List Int} (hc:Byt c):Dr (F_ca (c,())) fun r=>Qfh 1048576 r.1.1∧Bt (-1) 501 r.1.2.1:=by
 unfold F_ca;refine (Qtu hc).bind fun r1 h1=>(Qvd h1 (by omega)).bind fun r2 h2=>(QT h2.1 (by omega) _).bind fun r3 h3=>(QT h3.1 (by omega) _).bind fun r4 h4=>(QbD h4.1 (by omega) _ _).bind fun r5 h5=>Dr.ret ⟨h2.2,?_⟩
 exact bt5 (by have:=h3.2.e; omega) (by have:=h4.2.e; omega) h5.2
theorem QqP (c:List Int) (hb: ∀b∈c,0≤b∧b≤255):Yes (F_fu (c,())):=by
 unfold F_fu F_a;refine Dr.step rfl (Dr.ite (fun _=>yes rfl) fun h0=>?_)
 have h0: ¬(1048576:Int)< ((c.length:Nat):Int):=by rw [QD] at h0; exact h0
 refine (QqF (Qsi h0 hb)).bind fun r2 h2=>?_
 obtain ⟨⟨x,n,xu⟩,x2⟩:=r2;have hx:Qfh 1048576 x:=h2.1;have hn: -1≤(n:Int)∧(n:Int)≤501:=h2.2.e;rcases Quq (n:=(n:Int)) hx hn with ⟨h,hn5,hc,e⟩ | ⟨cd,z,z',hcd,e1,e2⟩
 case inr=>
  refine Dr.step e1 (Dr.pos (by simpa using hcd) (Dr.step e2 (yes ?_)))
  simp
 obtain ⟨N,hN⟩: ∃N:Nat,(n:Int)=(N:Int):=⟨Int.toNat n,(Int.toNat_of_nonneg hn5.1).symm⟩;refine Dr.step e (Dr.neg (by simp) ?_)
 rw [hN] at hc hn5⊢;rw [Int.toNat_natCast];have hy:=Qon N h hc;have hcl:=h.clock;have ecl:(goH N x).2.2.2.2.2.1=x.2.2.2.2.2.1+(N:Int):=Qhv N x;have epol:(goH N x).1=x.1:=QpN N x;dsimp only;rw [Qm (n:=x.2.2.2.2.2.1+(N:Int)) (by omega) (by omega),Qm (n:=(N:Int)+1) (by omega) (by omega)]
 obtain ⟨s,t1,t2,t3⟩:=QlU (c:=x.2.2.2.2.2.1+(N:Int)) h.pol (by omega) (by omega)
 refine Dr.step t3 ((Qvf (Qsi h0 hb) 3 ((N:Int)+1) (by omega) (by omega)).bind fun r8 h8=>?_)
 obtain ⟨⟨k,ku⟩,k2⟩:=r8;have hk:(0:Int)≤(k:Int)∧(k:Int)< (N:Int)+1:=bdLt h8 (by omega)
 obtain ⟨K,hK⟩: ∃K:Nat,(k:Int)=(K:Int):=⟨Int.toNat k,(Int.toNat_of_nonneg hk.1).symm⟩;dsimp only;have hKN:K≤N:=QvD hk.2 hK;rw [hK];have hyK:=Qon K h (by omega)
 have eK:(goH K x).2.2.2.2.2.1=x.2.2.2.2.2.1+(K:Int):=Qhv K x;refine Dr.step (QdN (n:=(K:Int)) h (by omega) (by omega)) ?_
 rw [Int.toNat_natCast];dsimp only;rw [Qm (n:=(N:Int)-(K:Int)) (by omega) (by omega)]
 have e11:=QdN (n:=(N:Int)-(K:Int)) hyK (by omega) (by rw [eK]; omega)
 rw [show ((N:Int)-(K:Int)).toNat=N-K by omega,QpM,show K+(N-K)=N by omega] at e11
 refine Dr.step e11 (Dr.step (Qbq (goH N x) hy.le) (Dr.pos (by rw [hy.to]; rfl) (Dr.pos ?_ (Dr.pos ?_ (Dr.pos ?_ (Dr.pos (by simp) (Dr.step (Qrk (goH N x).2.1 (by have:=hy.mem.2; omega)) (Dr.neg (by simp) ?_))))))))
 ·show (((goH N x).2.2.2.2.2.1 !=x.2.2.2.2.2.1+(N:Int))=false);rw [ecl]; simp
 ·show (((goH N x).2.2.2.1 !=(Qap x.1 (x.2.2.2.2.2.1+(N:Int))).1)=false);rw [hy.slot,ecl,epol]; simp
 ·show (((goH N x).2.2.2.2.1 !=(Qap x.1 (x.2.2.2.2.2.1+(N:Int))).2)=false);rw [hy.left,ecl,epol]; simp
 have l1:=hy.len;have l2:=h.len;have hg3:=h.ok.own;rw [epol] at l1
 have key:Dr (L_fu_13 (((),((N:Int),((),((0:Int),())))),((boxH x,(((0:Int),boxH (goH N x)),())),()))) fun o=>o= .inl (((),((),())),((boxH x,(((0:Int),boxH (goH N x)),())),())):=by
  refine Qau (fun m u=> ∃i:Nat,m+i=x.2.2.1.length∧u=(((),((N:Int),((),((i:Int),())))),((boxH x,(((0:Int),boxH (goH N x)),())),()))) ?_ x.2.2.1.length _ ⟨0,by omega,rfl⟩ (by rw [QW]; omega)
  rintro rec m _ ⟨i,hm,rfl⟩ ih;unfold l_fu_13;dsimp only;by_cases ci:i< x.2.2.1.length
  ·rw [if_pos (show ltI (i:Int) (((boxH x).2.2.2.2.2.1.length:Nat):Int)=true from lt_t ci)]
   have hg:isG x.1 (i:Int)=true:=Qbs.2 (by omega)
   have d:=QmS (g:=(i:Int)) N h hg hc;rw [Int.toNat_natCast] at d;show Dr ((F_fr (x.1,IntKind.i64.wrap (x.2.2.2.2.2.1+(N:Int)),(i:Int),())).bind _) _;rw [Qm (n:=x.2.2.2.2.2.1+(N:Int)) (by omega) (by omega)]
   refine Dr.step (Qia h.pol (by omega) hg) (Dr.step (Qia (c:=x.2.2.2.2.2.1) h.pol (by omega) hg) ?_)
   have b1:i< (goH N x).2.2.1.length:=by omega
   have g1:(goH N x).2.2.1[i]?=some ((goH N x).2.2.1.getD i QU):=by rw [List.getD_eq_getElem?_getD,List.getElem?_eq_getElem b1]; rfl
   have g2:x.2.2.1[i]?=some (x.2.2.1.getD i QU):=by rw [List.getD_eq_getElem?_getD,List.getElem?_eq_getElem ci]; rfl
   have i1:(0:Int)≤(i:Int)∧(i:Int)< (((goH N x).2.2.1.length:Nat):Int):=by omega
   have tb:=QnX h.ok (c:=x.2.2.2.2.2.1) (g:=(i:Int)) (by omega)
   have tb2:=QnX h.ok (c:=x.2.2.2.2.2.1+(N:Int)) (g:=(i:Int)) (by omega)
   have dn1:=QpE (h.harts _ (Qat (d:=QU) ci));have dn2:=QpE (hy.harts _ (Qat (d:=QU) b1));refine Dr.guard i1 (Dr.step g1 (Dr.guard nat0 (Dr.step g2 ?_)));dsimp only;show Dr (if ltI (IntKind.i64.wrap (Qbz x.1 (x.2.2.2.2.2.1+(N:Int)) (i:Int)-Qbz x.1 x.2.2.2.2.2.1 (i:Int))) (IntKind.i64.wrap (Qbp ((goH N x).2.2.1.getD i QU)-Qbp (x.2.2.1.getD i QU)))=false then _ else _) _
   rw [Qm (n:=Qbz x.1 (x.2.2.2.2.2.1+(N:Int)) (i:Int)-Qbz x.1 x.2.2.2.2.2.1 (i:Int)) (by omega) (by omega),Qm (n:=Qbp ((goH N x).2.2.1.getD i QU)-Qbp (x.2.2.1.getD i QU)) (by omega) (by omega)]
   refine Dr.pos (by rw [QaR]; omega) (Dr.guard i1 (Dr.step g1 (Dr.guard nat0 (Dr.step g2 (Dr.neg ?_ ?_)))))
   ·show ¬ltI (Qbp ((goH N x).2.2.1.getD i QU)) (Qbp (x.2.2.1.getD i QU))=true;rw [QD]; omega
   ·rw [Qaa (by omega)]
    exact ih (m-1) _ (by omega) ⟨i+1,by omega,rfl⟩
  ·rw [if_neg (show ¬ltI (i:Int) (((boxH x).2.2.2.2.2.1.length:Nat):Int)=true from lt_f ci)]
   exact Dr.ret rfl
 refine key.bind fun o ho=>?_
 subst ho;dsimp only
 have er:F_ft (x.1,())=some (((0,Qi (-1) x.1.2.2.2.1,()),()),()):=by
  refine Dr.eq ?_;unfold F_ft;refine Dr.step (Qey x.1 (QeH h.ok)) ?_;rw [h.pol];exact Dr.neg (by simp) (Dr.step (Qdw x.1 (-1) h.ok.okPlan) (Dr.ret rfl))
 have hpos:=QaM h.ok.okPlan.2 h.ok.plan.1
 have ro:F_fs (goH N x,())=some (((0,(Qi (-1) x.1.2.2.2.1-(goH N x).2.2.2.2.2.1 % Qi (-1) x.1.2.2.2.1) % Qi (-1) x.1.2.2.2.1,()),()),()):=by
  have hle:=QaJ (g:= -1) h.ok.okPlan.2;have hpl:=h.ok.plan;have c1:=hy.clock;have a0:0≤(goH N x).2.2.2.2.2.1 % Qi (-1) x.1.2.2.2.1:=Int.emod_nonneg _ (by omega)
  have a1:(goH N x).2.2.2.2.2.1 % Qi (-1) x.1.2.2.2.1< Qi (-1) x.1.2.2.2.1:=Int.emod_lt_of_pos _ (by omega)
  refine Dr.eq ?_;unfold F_fs;refine Dr.step (Qbq (goH N x) hy.le) (Dr.neg (by rw [hy.to]; simp) ?_)
  dsimp only;rw [epol];refine Dr.step (Qdw x.1 (-1) h.ok.okPlan) ?_;dsimp only;have hne: ¬Qi (-1) x.1.2.2.2.1=0:=by omega
  rw [if_neg hne,if_neg hne,Qfx c1.1,Qm (n:=Qi (-1) x.1.2.2.2.1-(goH N x).2.2.2.2.2.1 % Qi (-1) x.1.2.2.2.1) (by omega) (by omega),Qfx (by omega)]
  exact Dr.ret rfl
 refine Dr.step ro (Dr.step er (Dr.pos ?_ (yes ?_)))
 ·dsimp only;rw [QD];exact Int.emod_lt_of_pos _ (by omega)
 ·show ((((goH N x).2.2.1.length:Nat):Int)==((x.2.2.1.length:Nat):Int))=true;rw [l1,l2];simp
theorem QtT: ∀x,inRP P_a x→F_fu x=some ((true,()),()):=by
 rintro ⟨c,_⟩ ⟨hc,_⟩
 exact (QqP c fun b hb=>by
  have:=hc.2 b hb;have h1:IntKind.u8.min=0:=by decide
  have h2:IntKind.u8.max=255:=by decide
  simp only [inR,h1,h2] at this;exact this).eq
end Go.Proofs.YticbdcmkcghijaaGreatDoor
