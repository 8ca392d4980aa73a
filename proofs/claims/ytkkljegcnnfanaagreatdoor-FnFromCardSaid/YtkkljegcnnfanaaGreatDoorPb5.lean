/- Plain laws: what the functions compute, and that both programs compute the same. -/
import Derived.Test.YtkkljegcnnfanaaGreatDoorPb4
set_option linter.unusedVariables false
set_option linter.unusedSimpArgs false
namespace Go.Proofs.YtkkljegcnnfanaaGreatDoor
open Go Go.RowKit S Go.Proofs
set_option maxRecDepth 100000
theorem Qre {v:Qfp} (h:Qoi maxLen (vD v)):Qhd v v=true:=by
 obtain ⟨c,o,d,p,q,r,s,f,g,a,b,_⟩:=v;obtain ⟨⟨i,j,k,l⟩,m,n⟩:=h;unfold vD at i j k l m n;dsimp only at i j k l m n
 have e:F_gy (vD (c,o,d,p,q,r,s,f,g,a,b,()),vD (c,o,d,p,q,r,s,f,g,a,b,()),())=some ((true,()),()):=by
  unfold F_gy F_gx vD;dsimp only;rw [Qat (c,c,()) i,Qat (d,d,()) j,Qat (f,f,()) k,Qat (g,g,()) l,Qat (a,a,()) m,Qat (b,b,()) n];simp
 unfold Qhd;rw [e]
theorem Rl.alike {x:Qo} {s:QQ} {g:Int} (h:Rl x s g):QeY (QbR x g) (Qdp x.1 s g)=true:=by
 unfold QeY;rw [h.views];exact Qre (Qlq h.hk h.hg)
theorem Qso {g:Int}: ∀(n:Nat) (k:Int) (x:Qo) (s:QQ),Rl x s g→x.2.2.2.2.2.1+(n:Int)≤1000000→sdGo g n k x s=(0,0,true,())
 | 0,k,x,s,h,_=>by rw [sdGo,if_pos h.alike]
 | n+1,k,x,s,h,hc=>by
  rw [sdGo,if_pos h.alike];exact Qso n (k+1) _ _ (h.next (by omega)) (by show x.2.2.2.2.2.1+1+(n:Int)≤1000000; omega)
theorem QvC {g n:Int} {x:Qo} {s:QQ} (h:Rl x s g) (hn:0≤n∧n≤200) (hc:x.2.2.2.2.2.1+n≤1000000):sdM x s g n=(0,0,true,()):=by
 have a:=h.hk.clock;unfold sdM;rw [if_neg (by rw [h.hk.to]; simp),if_neg (by rw [h.hs]; simp),if_pos h.hg,if_pos,Qso n.toNat 0 x s h (by omega)]
 unfold Qaq;rw [QbA.2 hn,Qj (by omega) (by omega),QaB.2 hc]
 rfl
def Qih (x:Qo) (g:Int):QQ:=(x.2.2.1.getD g.toNat QO,QaM (pgM x.1 g),Qby x.2.1 0 (pgM x.1 g) (List.replicate 64 0),())
theorem Qmh {m:List Int} {j:Nat} (hj:j< 8): ∀(l:List TwoD) (k:Nat) (s:List Int),k+l.length≤8→s.length=64→(∀q∈l,0≤q.1→8*q.1+8≤(m.length:Int))→
  pg (Qby m k l s) (j:Int)=if k≤j∧j< k+l.length∧0≤(pgAt l (j-k)).1 then pg m (pgAt l (j-k)).1 else pg s (j:Int)
 | [],k,s,_,_,_=>by rw [if_neg (by simp only [List.length_nil]; omega)]; rfl
 | p::r,k,s,hk,hs,hp=>by
  simp only [List.length_cons] at hk;have hp0:=hp p (by simp)
  have a:(if 0≤p.1 then Qdn s k (pg m p.1) else s).length=64:=by
   split
   ·exact QbP hs (by omega) (QcY ⟨‹_›,hp0 ‹_›⟩)
   ·exact hs
  rw [Qby,Qmh hj r (k+1) _ (by omega) a (fun q f=>hp q (List.mem_cons_of_mem _ f))]
  simp only [List.length_cons];by_cases e:j=k
  ·subst e;rw [if_neg (by omega),Nat.sub_self]
   show _=if j≤j∧j< j+(r.length+1)∧0≤p.1 then pg m p.1 else _
   by_cases c:0≤p.1
   ·rw [if_pos c,if_pos (by omega),QnU hs hj (QcY ⟨c,hp0 c⟩) (by omega),if_pos rfl]
   ·rw [if_neg c,if_neg (by omega)]
  ·have b:pg (if 0≤p.1 then Qdn s k (pg m p.1) else s) (j:Int)=pg s (j:Int):=by
    split
    ·rename_i c;rw [QnU hs (by omega) (QcY ⟨c,hp0 c⟩) (by omega),if_neg (by omega)]
    ·rfl
   rw [b];by_cases c:k+1≤j
   ·rw [show j-k=(j-(k+1))+1 by omega]
    show (if k+1≤j∧j< k+1+r.length∧0≤(pgAt r (j-(k+1))).1 then _ else _)=if k≤j∧j< k+(r.length+1)∧0≤(pgAt r (j-(k+1))).1 then _ else _
    by_cases d:j< k+1+r.length∧0≤(pgAt r (j-(k+1))).1
    ·rw [if_pos ⟨c,d.1,d.2⟩,if_pos ⟨by omega,by omega,d.2⟩]; rfl
    ·rw [if_neg (fun q=>d q.2),if_neg (fun q=>d ⟨by omega,q.2.2⟩)]
   ·rw [if_neg (fun q=>c q.1),if_neg (fun q=>by omega)]
theorem QhM {m:List Int} (hm: ∀w∈m,WW w): ∀(l:List TwoD) (k:Nat) (s:List Int),(∀w∈s,WW w)→ ∀w∈Qby m k l s,WW w
 | [],_,_,h=>h
 | p::r,k,s,h=>QhM hm r (k+1) _ (by split; exact QfZ h (Qpq hm); exact h)
theorem HK.pgs {x:Qo} (h:HK x) {g:Int} (hg:isG x.1 g=true): ∀q∈pgM x.1 g,0≤q.1→8*q.1+8≤(x.2.1.length:Int):=fun q a _=>by
 have:=QiK h.ok hg q a;rw [h.mem.2];omega
theorem QpA {x:Qo} {g:Int} (h:HK x) (hg:isG x.1 g=true):QX (Qih x g)=0:=
 Qii (h.guest hg).2.2 (Qos h.ok hg) (Qkb (by rw [Qbi]; exact Nat.le_refl _) (by simp) (h.pgs hg)) (QhM (Qgn h.mem.1) _ _ _ (QmL _))
theorem QpB {x:Qo} {g:Int} (h:HK x) (hg:isG x.1 g=true) {k:Nat} (hk:k< 8) (h0:0≤(pgAt (pgM x.1 g) k).1):pg (Qih x g).2.2.1 (k:Int)=pg x.2.1 (pgAt (pgM x.1 g) k).1:=by
 show pg (Qby x.2.1 0 (pgM x.1 g) (List.replicate 64 0)) (k:Int)=_;rw [Qmh hk _ _ _ (by rw [Qbi]; exact Nat.le_refl _) (by simp) (h.pgs hg),Nat.sub_zero,if_pos ⟨by omega,by rw [Qbi]; omega,h0⟩]
theorem Qqy {x:Qo} {g:Int} (h:HK x) (hg:isG x.1 g=true):F_dp (x,g,())=some (((0,sB (Qih x g)),()),()):=by
 rw [QfQ x g h.le];unfold QcR;rw [if_neg (by rw [h.to]; simp),if_pos hg]
 rfl
theorem QvP: ∀{L:List Int} {a b:Int},L.Pairwise (· < ·)→(∀x∈L,a≤x∧x< b)→(L.length:Int)≤b-a∨L=[]
 | [],_,_,_,_=> .inr rfl
 | x::r,a,b,h,hx=>by
  rw [List.pairwise_cons] at h;have h0:=hx x (by simp)
  rcases QvP (a:=x+1) (b:=b) h.2 (fun y c=>⟨by have:=h.1 y c; omega,(hx y (List.mem_cons_of_mem _ c)).2⟩) with e | e
  ·left; rw [List.length_cons]; omega
  ·left; rw [e]; simp; omega
def Qph (p:PolD) (x g:Int):Bool:=p.2.1.any (fun l=>l.1==x && l.2.1==g) || p.2.2.1.any (Qas (x,g,()))
theorem QwE {x g:Int} {b:TwoD}:Qas (x,g,()) b=true↔b.1=x∧b.2.1=g:=by
 obtain ⟨a,c,_⟩:=b;unfold Qas;simp;constructor <;> rintro ⟨h1,h2⟩ <;> simp [h1,h2]
theorem Qjl {p:PolD} (hok:OkPol p) {x g:Int} (h:Qph p x g=true):isG p x=true:=by
 unfold Qph at h;rw [Bool.or_eq_true,List.any_eq_true,List.any_eq_true] at h;rcases h with ⟨l,c,a⟩ | ⟨b,c,a⟩
 ·simp only [Bool.and_eq_true,beq_iff_eq] at a;rw [←a.1]; exact (QbI hok l c).1.1
 ·rw [←(QwE.1 a).1]; exact (Qvl hok b c).1
theorem Qqs {p:PolD} (hok:OkPol p) {L:List Int} (h:L.Pairwise (· < ·)) (hg: ∀x∈L,isG p x=true):L.length≤3:=by
 have:=hok.own.2;rcases QvP (a:=0) (b:=(p.1.length:Int)) h (fun x c=>Qbn.1 (hg x c)) with e | e
 ·omega
 ·rw [e]; simp
structure UpG (p:PolD) (L:List Int):Prop where
 up:L.Pairwise (· < ·)
 g: ∀x∈L,isG p x=true
theorem UpG.len {p:PolD} (hok:OkPol p) {L:List Int} (h:UpG p L):L.length≤3:=Qqs hok h.up h.g
def Rch (p:PolD) (g x:Int):Prop:= ∀C:Int→Prop,(∀k,Qph p k g=true→C k)→(∀y k,C y→Qph p k y=true→C k)→C x
def gL (n:Nat) (P:Int→Bool):List Int:=((List.range n).map fun i:Nat=>(i:Int)).filter P
theorem Qxq (n:Nat) (P:Int→Bool):(gL n P).length≤n:=by
 unfold gL;refine Nat.le_trans (List.length_filter_le _ _) (by simp)
theorem Qxr {n:Nat} {P:Int→Bool} {x:Int}:x∈gL n P↔(0≤x∧x< (n:Int))∧P x=true:=by
 unfold gL;rw [List.mem_filter,List.mem_map];refine and_congr_left fun _=>⟨?_,fun h=>⟨x.toNat,?_,?_⟩⟩
 ·rintro ⟨i,h1,rfl⟩;rw [List.mem_range] at h1;omega
 ·rw [List.mem_range]; omega
 ·omega
structure Seen (p:PolD) (g:Int) (out:List Int):Prop where
 nd:out.Nodup
 rch: ∀x∈out,Rch p g x
 fst: ∀k,Qph p k g=true→k∈out
theorem QtH {p:PolD} (hok:OkPol p) {g x:Int} (h:Rch p g x):isG p x=true:=h (fun x=>isG p x=true) (fun _ h=>Qjl hok h) fun _ _ _ h=>Qjl hok h
theorem Qvg: ∀{A B:List Int},A.Nodup→(∀x∈A,x∈B)→A.length≤B.length
 | [],_,_,_=>Nat.zero_le _
 | a::r,B,h,hs=>by
  rw [List.nodup_cons] at h;have ha:=hs a (by simp)
  have f:=List.length_erase_of_mem ha
  have d:=Qvg (B:=B.erase a) h.2 fun x c=>by
   have b:x≠a:=fun e=>h.1 (e▸c)
   exact (List.mem_erase_of_ne b).2 (hs x (List.mem_cons_of_mem _ c))
  have g:=List.length_pos_of_mem ha;rw [List.length_cons]; omega
theorem Seen.len {p:PolD} (hok:OkPol p) {g:Int} {out:List Int} (h:Seen p g out):out.length≤3:=by
 have b:=hok.own.2;have:=Qvg (B:=gL p.1.length fun _=>true) h.nd fun x a=>Qxr.2 ⟨Qbn.1 (QtH hok (h.rch x a)),rfl⟩
 have:=Qxq p.1.length fun _=>true
 omega
theorem Qxh {s:SrcD} {k:Int} (hs:Sr s k) (hk:k≤800000):Dr (F_bu (s,())) fun r=>Sr r.2.1 (k+110)∧QfX 1000 r.1.1:=by
 have aj:=hs.pos;unfold F_bu;refine (Qku hs (by omega)).bind fun r1 i=>?_
 refine (QY i.1 (by omega) _).bind fun r2 v=>?_
 have d:=QdQ i.2;have a1:=d.own;have g: ∀l∈r1.1.1.1,l.length≤5:=fun l z=>(d.own1 l z).2.1
 have a3:=d.lanes.1;have a4:=d.bells.1;have a5:=d.plan;obtain ⟨⟨p,pu⟩,s1,su⟩:=r1;obtain ⟨aw,s2,ax⟩:=r2;simp only at i v d a1 g a3 a4 a5⊢;have a:Sr s2 (k+101):=v.1.le (by omega)
 have e:((0:Int)).toNat< p.1.length:=by show 0< _; omega
 have h:0≤(0:Int)∧(0:Int)< ((p.1.length:Nat):Int):=by omega
 have f: ∀l:List Int,l.length≤5→QfX 1000 (p.1.set ((0:Int)).toNat l,p.2.1,p.2.2.1,p.2.2.2.1,()):=fun l z=>by
  refine ⟨⟨by rw [List.length_set]; show p.1.length≤1000; omega,fun x b=>?_⟩,by show p.2.1.length≤1000; omega,by show p.2.2.1.length≤1000; omega,by show p.2.2.2.1.length≤1000; omega⟩
  rcases List.mem_or_eq_of_mem_set b with b | rfl
  ·have:=g x b; omega
  ·omega
 have c: ∀x∈p.1,x.length≤1000:=fun x b=>by have:=g x b; omega
 refine Dr.ite (fun _=>?_) fun _=>Dr.ite (fun _=>?_) fun _=>Dr.ite (fun _=>?_) fun _=>Dr.ite (fun _=>?_) fun _=>Dr.ite (fun _=>?_) fun _=>Dr.ite (fun _=>?_) fun _=>Dr.ite (fun _=>?_) fun _=>Dr.ite (fun _=>?_) fun _=>Dr.ite (fun _=>?_) fun _=>?_
 ·refine Dr.guard h (Dr.step (List.getElem?_eq_getElem e) ?_);refine (QbS a (by omega) _ _).bind fun r4 h4=>?_
  have hy:=d.own1 _ (List.getElem_mem e);refine Dr.step (List.getElem?_eq_getElem e) (Dr.guard (by show 0≤(0:Int)∧(0:Int)< ((p.1[((0:Int)).toNat].length:Nat):Int); omega) (Dr.step (List.getElem?_eq_getElem e) (Dr.ret ⟨h4.1.le (by omega),f _ (by rw [List.length_set]; omega)⟩)))
 ·refine Dr.guard h (Dr.step (List.getElem?_eq_getElem e) (Dr.step (List.getElem?_eq_getElem e) (Dr.guard (by show (p.1.length+1)*24≤_; omega) (Dr.ret ⟨a.le (by omega),?_⟩))))
  refine ⟨⟨by show (p.1++[p.1[((0:Int)).toNat]]).length≤1000; simp; omega,fun x b=>?_⟩,by show p.2.1.length≤1000; omega,by show p.2.2.1.length≤1000; omega,by show p.2.2.2.1.length≤1000; omega⟩
  rcases List.mem_append.1 (show x∈p.1++[p.1[((0:Int)).toNat]] from b) with b | b
  ·exact c x b
  ·rw [List.mem_singleton.1 b]; exact c _ (List.getElem_mem e)
 ·exact Dr.ret ⟨a.le (by omega),⟨⟨Nat.zero_le _,fun x b=>by cases b⟩,by show p.2.1.length≤1000; omega,by show p.2.2.1.length≤1000; omega,by show p.2.2.2.1.length≤1000; omega⟩⟩
 ·refine (QY a (by omega) _).bind fun ak j=>(QY j.1 (by omega) _).bind fun al m=>(QbS m.1 (by omega) _ _).bind fun am n=>(QbS n.1 (by omega) _ _).bind fun ao o=>(QbS o.1 (by omega) _ _).bind fun ap q=>?_
  refine Dr.guard (by show (p.2.1.length+1)*40≤_; omega) (Dr.ret ⟨q.1.le (by omega),⟨⟨by show p.1.length≤1000; omega,c⟩,?_,by show p.2.2.1.length≤1000; omega,by show p.2.2.2.1.length≤1000; omega⟩⟩)
  show (p.2.1++[_]).length≤1000;rw [List.length_append,List.length_singleton]; omega
 ·refine (QY a (by omega) _).bind fun aq t=>(QY t.1 (by omega) _).bind fun ar u=>?_
  refine Dr.guard (by show (p.2.2.1.length+2)*16≤_; omega) (Dr.ret ⟨u.1.le (by omega),⟨⟨by show p.1.length≤1000; omega,c⟩,by show p.2.1.length≤1000; omega,?_,by show p.2.2.2.1.length≤1000; omega⟩⟩)
  show (p.2.2.1++[_,_]).length≤1000;rw [List.length_append]; simp; omega
 ·refine (QbS a (by omega) _ _).bind fun au w=>(QbS w.1 (by omega) _ _).bind fun av y=>?_
  have i2:((0:Int)).toNat< p.2.2.2.1.length:=by show 0< _; omega
  refine Dr.guard (by show 0≤(0:Int)∧(0:Int)< ((p.2.2.2.1.length:Nat):Int); omega) (Dr.step (List.getElem?_eq_getElem i2) (Dr.ret ⟨y.1.le (by omega),⟨⟨by show p.1.length≤1000; omega,c⟩,by show p.2.1.length≤1000; omega,by show p.2.2.1.length≤1000; omega,?_⟩⟩))
  show (p.2.2.2.1.set _ _).length≤1000;rw [List.length_set]; omega
 ·exact Dr.ret ⟨a.le (by omega),⟨⟨by show p.1.length≤1000; omega,c⟩,by show p.2.1.length≤1000; omega,by show p.2.2.1.length≤1000; omega,by show (List.replicate 9 _).length≤1000; rw [List.length_replicate]; omega⟩⟩
 ·exact Dr.guard h (Dr.step (List.getElem?_eq_getElem e) (Dr.ret ⟨a.le (by omega),f [] (by simp)⟩))
 ·exact Dr.ret ⟨a.le (by omega),⟨⟨by show p.1.length≤1000; omega,c⟩,by show (List.replicate 5 _).length≤1000; rw [List.length_replicate]; omega,by show p.2.2.1.length≤1000; omega,by show p.2.2.2.1.length≤1000; omega⟩⟩
 ·exact Dr.ret ⟨a.le (by omega),⟨⟨by show p.1.length≤1000; omega,c⟩,by show p.2.1.length≤1000; omega,by show p.2.2.1.length≤1000; omega,by show p.2.2.2.1.length≤1000; omega⟩⟩
theorem QfX.up {m n:Nat} {p:PolD} (h:QfX m p) (hmn:m≤n):QfX n p:=
 ⟨⟨Nat.le_trans h.1.1 hmn,fun l a=>Nat.le_trans (h.1.2 l a) hmn⟩,Nat.le_trans h.2.1 hmn,Nat.le_trans h.2.2.1 hmn,Nat.le_trans h.2.2.2 hmn⟩
theorem Qro {q:List Int} (h:OkQ q):F_af (q,())=some (((0,Qjc q),()),()):=by
 have a:=h.len;refine Dr.eq ?_;unfold F_af;dsimp only;refine Dr.neg (by rw [QB]; omega) (Dr.step (QbV q (by omega)) (Dr.neg (by rw [Qau.2 h.words]; simp) (Dr.guard (by simp; omega) (Dr.ret rfl))))
theorem QnY {p:PolD} {I:List (List Int)} (hok:OkPol p) (hI:Fit p I):F_y (p,I,())=some ((0,()),()):=by
 have g:=hok.own;obtain ⟨b,d⟩:=hI;refine Dr.eq ?_;unfold F_y;dsimp only;refine Dr.neg (by rw [b]; simp) ?_
 have e:Dr (L_y_4 ((p,(I,((0:Int),()))),((),()))) fun o=>o= .inl ((),((),())):=by
  refine Qab (fun m u=> ∃i:Nat,m+i=3∧u=((p,(I,((i:Int),()))),((),()))) ?_ 3 _ ⟨0,rfl,rfl⟩ (by rw [QE]; omega)
  rintro rec m _ ⟨i,hm,rfl⟩ ih;unfold l_y_4;dsimp only;by_cases c:i< I.length
  ·have a:i< p.1.length:=by omega
   have h:=hok.own1 _ (List.getElem_mem a);have j:=d i a c;rw [if_pos (lt_t c),if_pos nat0,Ql c,if_pos nat0,Ql a,Qj (n:=(((p.1[i]).length:Nat):Int)*8) (by omega) (by omega),if_neg (by rw [QB]; omega),QH (by omega)]
   exact ih (m-1) _ (by omega) ⟨i+1,by omega,rfl⟩
  ·rw [if_neg (lt_f c)];exact Dr.ret rfl
 refine e.bind fun o f=>?_
 subst f;exact Dr.ret rfl
theorem QpI {p:PolD} {I:List (List Int)} {m:List Int} {g:Nat} (hok:OkPol p) (hI:Fit p I) (cp:g< p.1.length) (c:g< I.length) (hm:m.length=192):
  L_aa_6 ((p,(I,(m,((g:Int),((0:Int),()))))),((),()))=some (.inl ((p,(I,(imgH p.1[g] 0 I[g] m,((g:Int),())))),((),()))):=by
 have f:=hok.own1 _ (List.getElem_mem cp);have h:=hI.2 g cp c;refine Dr.eq ?_;refine Qab (fun k u=> ∃(i:Nat) (m':List Int),u=((p,(I,(m',((g:Int),((i:Int),()))))),((),()))∧k+i=I[g].length∧m'.length=192∧imgH p.1[g] i (I[g].drop i) m'=imgH p.1[g] 0 I[g] m) ?_ I[g].length _ ⟨0,m,rfl,by omega,hm,by simp⟩ (by rw [QE]; omega)
 rintro rec k _ ⟨i,m',rfl,hk,hm',he⟩ ih;unfold l_aa_6;dsimp only;rw [if_pos nat0,Ql c];by_cases b:i< I[g].length
 ·have a:i / 8< p.1[g].length:=by omega
  have j:=f.2.2 _ (List.getElem_mem a);have d:Int.tdiv (i:Int) 8=((i / 8:Nat):Int):=by rw [Int.tdiv_eq_ediv_of_nonneg (by omega)]; omega
  have e:Int.tmod (i:Int) 8=((i % 8:Nat):Int):=by rw [Int.tmod_eq_emod_of_nonneg (by omega)]; omega
  rw [if_pos (lt_t b),if_pos nat0,Ql cp,d,e,Qj (n:=((i / 8:Nat):Int)) (by omega) (by omega),if_pos nat0,Ql a,Qj (n:=p.1[g][i / 8]*8) (by omega) (by omega),Qj (n:=p.1[g][i / 8]*8+((i % 8:Nat):Int)) (by omega) (by omega),if_pos nat0,Ql c,if_pos nat0,Ql b,QdZ,Obn,QH (by omega)]
  refine Dr.gat hm' (by omega) fun _ _=>ih (k-1) _ (by omega) ⟨i+1,_,rfl,by omega,by simpa using hm',?_⟩
  rw [←he,List.drop_eq_getElem_cons b,imgH,gget a];congr 2;omega
 ·rw [if_neg (lt_f b)];rw [List.drop_of_length_le (by omega)] at he
  exact Dr.ret (by rw [←he]; rfl)
theorem QnZ {p:PolD} {I:List (List Int)} (hp:polM p=0) (hI:Fit p I):F_ab (p,I,())=some (((0,(Qdi p.1 I (List.replicate 192 0),())),()),()):=by
 have a:=QdQ hp;have f:=a.own;refine Dr.eq ?_;unfold F_ab;refine Dr.step (Qhy p (QgB a)) (Dr.neg (by rw [hp]; simp) (Dr.step (QnY a hI) (Dr.neg (by simp) ?_)))
 unfold F_aa
 have d:L_aa_3 ((p,(I,((List.replicate ((192:Int)).toNat (Qbf (.int .i64))),((0:Int),())))),((),()))=some (.inl ((Qdi p.1 I (List.replicate 192 0),()),((),()))):=by
  refine Dr.eq ?_
  refine Qab (fun k u=> ∃(g:Nat) (m':List Int),u=((p,(I,(m',((g:Int),())))),((),()))∧k+g=I.length∧m'.length=192∧Qdi (p.1.drop g) (I.drop g) m'=Qdi p.1 I (List.replicate 192 0)) ?_ I.length _
   ⟨0,_,rfl,by omega,by simp,rfl⟩ (by have:=hI.1; rw [QE]; omega)
  rintro rec k _ ⟨g,m',rfl,hk,hm',he⟩ ih;unfold l_aa_3;dsimp only;have e:=hI.1;by_cases c:g< I.length
  ·have b:g< p.1.length:=by omega
   rw [if_pos (lt_t c)];refine Dr.step (QpI a hI b c hm') ?_;dsimp only;rw [QH (by omega)]
   refine ih (k-1) _ (by omega) ⟨g+1,_,rfl,by omega,by rw [Qko]; exact hm',?_⟩
   rw [←he,List.drop_eq_getElem_cons c,List.drop_eq_getElem_cons b,Qdi]
  ·rw [if_neg (lt_f c)];rw [List.drop_of_length_le (by omega:I.length≤g),List.drop_of_length_le (by omega:p.1.length≤g)] at he
   exact Dr.ret (by rw [←he]; rfl)
 refine Dr.step (v:=((Qdi p.1 I (List.replicate 192 0),()),())) ?_ (Dr.ret rfl);exact Dr.eq (Dr.step d (Dr.ret rfl))
theorem Qrk {p:PolD} {I J:List (List Int)} (hp:polM p=0) (hI:Fit p I) (hJ:FitQ p J):F_ag (p,I,J,())=some (((0,boxH (Quw p I J)),()),()):=by
 have a:=QdQ hp;have g:=a.own;obtain ⟨b,d⟩:=hJ;have e:0< p.2.2.2.1.length:=by have:=a.plan; omega
 refine Dr.eq ?_;unfold F_ag;refine Dr.step (QnZ hp hI) (Dr.neg (by simp) (Dr.neg (by rw [b]; simp) (Dr.step (Qhe a) ?_)))
 refine Dr.step (v:=p.2.2.2.1.getD 0 (0,0,())) (QcI (l:=p.2.2.2.1) (k:=0) _ e) ?_;dsimp only
 have f: ∀(Z:Int×Qfv) (M:List Int) (t:Int),L_ag_8 ((J,((),((),((0:Int),())))),((Z,(((p.1,(p.2.1,(p.2.2.1,(p.2.2.2.1,(M,(([]:List QM),((0:Int),(t,((0:Int),()))))))))):Qfv),())),()))=
   some (.inl (((),((),())),((Z,(((p.1,(p.2.1,(p.2.2.1,(p.2.2.2.1,(M,(J.map Qjc,((0:Int),(t,((0:Int),()))))))))):Qfv),())),()))):=by
  intro Z M t;refine Dr.eq ?_;refine Qab (fun k u=> ∃i:Nat,u=((J,((),((),((i:Int),())))),((Z,(((p.1,(p.2.1,(p.2.2.1,(p.2.2.2.1,(M,((J.take i).map Qjc,((0:Int),(t,((0:Int),()))))))))):Qfv),())),()))∧k+i=J.length) ?_ J.length _ ⟨0,rfl,by omega⟩ (by rw [QE]; omega)
  rintro rec k _ ⟨i,rfl,hk⟩ ih;unfold l_ag_8;dsimp only;by_cases c:i< J.length
  ·rw [if_pos (lt_t c),if_pos nat0,Ql c,Qro (d _ (List.getElem_mem c)),Obn];refine Dr.neg (by simp) (Dr.guard (by simp; omega) ?_)
   rw [QH (by omega)]
   refine ih (k-1) _ (by omega) ⟨i+1,?_,by omega⟩
   rw [QgJ c,List.map_append];rfl
  ·rw [if_neg (lt_f c),List.take_of_length_le (by omega)]
   exact Dr.ret rfl
 exact Dr.step (f _ _ _) (Dr.ret rfl)
theorem Qxw (n:Nat):OkQ (([(5:Int),6].drop 0).take n):=⟨by rw [List.length_take]; simp; omega,fun w a=>by
 have:=List.mem_of_mem_take a;simp only [List.drop_zero,List.mem_cons,List.not_mem_nil,or_false] at this;unfold WW;omega⟩
theorem Qxj {s:SrcD} {k:Int} (hs:Sr s k) (hk:k≤500000):Dr (F_ah (s,())) fun r=>Sr r.2.1 (k+4200)∧ ∃x:Qo,r.1.1=boxH x∧HK x∧x.2.2.2.2.2.1=0:=by
 have ab:=hs.pos;unfold F_ah;refine (Qku hs (by omega)).bind fun z i=>?_
 obtain ⟨⟨p,pu⟩,w,su⟩:=z;simp only at i⊢;obtain ⟨t,g⟩:=i;have e:=QdQ g;have h3:=e.own
 have v: ∀X:Qfv,Dr (L_ah_4 (((),((),((),(([]:List (List Int)),((0:Int),()))))),((X,(p,(w,()))),()))) fun o=> ∃(J:List (List Int)) (b:SrcD),o= .inl (((),((),((),(J,())))),((X,(p,(b,()))),()))∧Sr b (k+110)∧FitQ p J:=by
  intro X;refine Qab (fun m u=> ∃(J:List (List Int)) (b:SrcD),u=(((),((),((),(J,(((J.length:Nat):Int),()))))),((X,(p,(b,()))),()))∧m+J.length=p.1.length∧Sr b (k+100+(J.length:Int))∧ ∀q∈J,OkQ q) ?_ p.1.length _ ⟨[],w,rfl,by simp,t.le (by simp),by simp⟩ (by rw [QE]; omega)
  rintro rec m _ ⟨J,b,rfl,hm,d,hq⟩ ih;unfold l_ah_4;dsimp only;by_cases c:J.length< p.1.length
  ·rw [if_pos (lt_t c)];refine (QY d (by omega) _).bind fun h j=>?_
   have n:=j.2.to3;refine Dr.guard (by show 0≤(0:Int)∧(0:Int)≤h.1.1∧(h.1.1:Int)≤2; exact ⟨by omega,n.2.1,n.2.2⟩) (Dr.guard (by show (J.length+1)*24≤_; omega) ?_)
   rw [QH (by omega)]
   refine ih (m-1) _ (by omega) ⟨J++[_],h.2.1,by rw [List.length_append,List.length_singleton],by rw [List.length_append,List.length_singleton]; omega,j.1.le (by rw [List.length_append,List.length_singleton]; omega),fun q a=>?_⟩
   rcases List.mem_append.1 a with a | a
   ·exact hq q a
   ·rw [List.mem_singleton.1 a]; exact Qxw _
  ·rw [if_neg (lt_f c)];exact Dr.ret ⟨J,b,rfl,d.le (by omega),by omega,hq⟩
 refine (v _).bind fun o y=>?_
 obtain ⟨J,b,rfl,d,f⟩:=y;dsimp only;refine (Qtf e d (by omega)).bind fun r9 l=>?_
 refine Dr.step (Qrk g l.2 f) (Dr.ret ⟨l.1.le (by omega),Quw p r9.1.1 J,rfl,Qux g f.1 f.2,rfl⟩)
theorem Qxs {s:SrcD} {k:Int} (hs:Sr s k) (hk:k≤400000):Dr (F_bz (s,())) fun r=>Sr r.2.1 (k+10000)∧Qcc 1048576 r.1.1:=by
 have aq:=hs.pos;unfold F_bz;refine (Qxj hs (by omega)).bind fun r1 h1=>?_
 obtain ⟨⟨b,bu⟩,s1,su⟩:=r1;obtain ⟨q,x,hb,hx,t⟩:=h1;simp only at q hb⊢;subst hb;refine (QY q (by omega) _).bind fun r2 g=>?_
 obtain ⟨⟨n,nu⟩,w,az⟩:=r2;simp only at g⊢;have i:(0:Int)≤(n:Int)∧(n:Int)< (60:Int):=bdLt g.2 (by omega)
 have t:x.2.2.2.2.2.1=(0:Int):=t;generalize hN:(n:Int)=N at i g⊢;have z1: ∀z:Int,0≤z∧z< 60→(0:Int)+(z.toNat:Int)≤60:=fun z h=>by omega
 have z2: ∀z:Int,0≤z∧z< 60→z.toNat< lots:=fun z h=>by rw [QE]; omega
 have ae: ∀X:Qfv,Dr (L_bz_3 (((),((),((),(N,())))),((X,(boxH x,(w,()))),()))) fun o=> ∃y:Qo,o= .inl (((),((),((),()))),((X,(boxH y,(w,()))),()))∧HK y:=by
  intro X;refine Qab (fun m u=> ∃y:Qo,u=(((),((),((),((m:Int),())))),((X,(boxH y,(w,()))),()))∧HK y∧y.2.2.2.2.2.1+(m:Int)≤60) ?_ N.toNat _ ⟨x,by rw [Int.toNat_of_nonneg i.1],hx,by rw [t]; exact z1 N i⟩ (z2 N i)
  rintro rec m _ ⟨y,rfl,d,hl⟩ ih;unfold l_bz_3;dsimp only;have ap:=d.clock;by_cases c:0< m
  ·rw [if_pos (by rw [QB]; omega)]
   refine Dr.step (Qgk d (by omega)) ?_
   dsimp only;rw [Qj (by omega) (by omega)]
   exact ih (m-1) _ (by omega) ⟨Qbm y,by rw [show ((m:Int)-1)=((m-1:Nat):Int) by omega],d.next (by omega),by show y.2.2.2.2.2.1+1+((m-1:Nat):Int)≤60; omega⟩
  ·obtain rfl:m=0:=by omega
   rw [if_neg (by rw [QB]; omega)]
   exact Dr.ret ⟨y,rfl,d⟩
 refine (ae _).bind fun o ho=>?_
 obtain ⟨y,rfl,d⟩:=ho;dsimp only;have a:=d.le;refine (QY g.1 (by omega) _).bind fun r9 e=>?_
 refine Dr.ite (fun _=>?_) fun _=>Dr.ite (fun _=>?_) fun _=>Dr.ite (fun _=>?_) fun _=>Dr.ite (fun _=>?_) fun _=>Dr.ite (fun _=>?_) fun _=>Dr.ite (fun _=>?_) fun _=>Dr.ite (fun _=>?_) fun _=>?_
 ·exact (Qxh e.1 (by omega)).bind fun ar j=>Dr.ret ⟨j.1.le (by omega),j.2.up (by omega),a.2.1,a.2.2.1,a.2.2.2⟩
 ·exact (QqJ e.1 (by omega)).bind fun au l=>Dr.ret ⟨l.1.le (by omega),a.1,Nat.le_trans l.2 (by omega),a.2.2.1,a.2.2.2⟩
 ·refine (QuX e.1 (by omega)).bind fun av p=>?_
  have v:=d.len;have h3:=d.ok.own;have i0:((0:Int)).toNat< y.2.2.1.length:=by show 0< _; omega
  refine Dr.guard (by show 0≤(0:Int)∧(0:Int)< ((y.2.2.1.length:Nat):Int); omega) (Dr.step (List.getElem?_eq_getElem i0) (Dr.ret ⟨p.1.le (by omega),a.1,a.2.1,?_,fun h f=>?_⟩))
  ·show (y.2.2.1.set _ _).length≤1048576;rw [List.length_set]; exact a.2.2.1
  ·rcases List.mem_or_eq_of_mem_set f with f | rfl
   ·exact a.2.2.2 h f
   ·exact p.2.le
 ·exact (QY e.1 (by omega) _).bind fun aw aa=>Dr.ret ⟨aa.1.le (by omega),a⟩
 ·exact (QY e.1 (by omega) _).bind fun ax ab=>Dr.ret ⟨ab.1.le (by omega),a⟩
 ·exact (QbS e.1 (by omega) _ _).bind fun ay ac=>Dr.ret ⟨ac.1.le (by omega),a⟩
 ·have v:=d.len;have h3:=d.ok.own;refine Dr.guard (by show 0≤(1:Int)∧(1:Int)≤((y.2.2.1.length:Nat):Int)∧((y.2.2.1.length:Nat):Int)≤((y.2.2.1.length:Nat):Int); omega) (Dr.ret ⟨e.1.le (by omega),a.1,a.2.1,?_,fun h f=>a.2.2.2 h (List.mem_of_mem_drop (List.mem_of_mem_take f))⟩)
  show (((y.2.2.1.drop _).take _).length)≤1048576;rw [List.length_take,List.length_drop];have:=a.2.2.1;omega
 ·exact Dr.ret ⟨e.1.le (by omega),a⟩
def mnI (a b:Int):Int:=if b< a then b else a
def preM (g:Int):List TwoD→Int→Int
 | [],_=>0
 | s::r,a=>(if s.1=g then mnI a s.2.1 else 0)+preM g r (a-mnI a s.2.1)
def QcT (p:PolD) (c g:Int):Int:=c / Qk (-1) p.2.2.2.1*Qk g p.2.2.2.1+preM g p.2.2.2.1 (c % Qk (-1) p.2.2.2.1)
theorem QiL {g:Int}: ∀{m:List TwoD},(∀s∈m,1≤s.2.1∧s.2.1≤50)→preM g m 0=0
 | [],_=>rfl
 | s::r,h=>by
  have hs:=h s (by simp)
  have b:=QiL (g:=g) (m:=r) fun q a=>h q (List.mem_cons_of_mem _ a)
  have e:mnI 0 s.2.1=0:=if_neg (by omega)
  rw [preM,e,Int.sub_zero,b];split <;> rfl
theorem Qps {g:Int} (hg:0≤g): ∀{m:List TwoD},(∀s∈m,1≤s.2.1∧s.2.1≤50)→preM g m (Qk (-1) m)=Qk g m
 | [],_=>rfl
 | s::r,h=>by
  have hr: ∀q∈r,1≤q.2.1∧q.2.1≤50:=fun q a=>h q (List.mem_cons_of_mem _ a)
  have f:=h s (by simp)
  have b:=Qps hg (m:=r) hr;have d:=(QaZ (g:= -1) hr).1;have e:mnI (s.2.1+Qk (-1) r) s.2.1=s.2.1:=by unfold mnI; split <;> omega
  rw [Qeo,preM,e,show s.2.1+Qk (-1) r-s.2.1=Qk (-1) r by omega,b,Qk]
  congr 1;by_cases c:s.1=g
  ·rw [if_pos c,if_pos (.inr c)]
  ·rw [if_neg c,if_neg (by omega)]
theorem Qsi {g:Int}: ∀{m:List TwoD} {a:Int},(∀s∈m,1≤s.2.1∧s.2.1≤50)→0≤a→0≤preM g m a∧preM g m a≤a
 | [],a,_,h0=>⟨Int.le_refl _,h0⟩
 | s::r,a,h,h0=>by
  have hs:=h s (by simp)
  have e:0≤mnI a s.2.1∧mnI a s.2.1≤a:=by unfold mnI; split <;> omega
  have c:=Qsi (g:=g) (m:=r) (a:=a-mnI a s.2.1) (fun q b=>h q (List.mem_cons_of_mem _ b)) (by omega)
  rw [preM];split <;> omega
theorem QmJ {g:Int}: ∀{m:List TwoD} {k:Nat} {a:Int},(∀s∈m,1≤s.2.1∧s.2.1≤50)→0≤a→a< Qk (-1) m→
  k≤(Qy k m a).1∧preM g m (a+1)=preM g m a+if (m.getD ((Qy k m a).1-k) (0,0,())).1=g then 1 else 0
 | [],k,a,_,h0,h1=>by simp [Qk] at h1; omega
 | s::r,k,a,h,h0,h1=>by
  have hs:=h s (by simp)
  have f: ∀q∈r,1≤q.2.1∧q.2.1≤50:=fun q i=>h q (List.mem_cons_of_mem _ i)
  rw [Qeo] at h1;by_cases c:s.2.1≤a
  ·obtain ⟨l,j⟩:=QmJ (g:=g) (m:=r) (k:=k+1) (a:=a-s.2.1) f (by omega) (by omega)
   have d:mnI a s.2.1=s.2.1:=by unfold mnI; split <;> omega
   have e:mnI (a+1) s.2.1=s.2.1:=by unfold mnI; split <;> omega
   rw [QpZ c];refine ⟨by omega,?_⟩
   rw [preM,preM,d,e,show a+1-s.2.1=a-s.2.1+1 by omega,j,show (Qy (k+1) r (a-s.2.1)).1-k=((Qy (k+1) r (a-s.2.1)).1-(k+1))+1 by omega,List.getD_cons_succ]
   omega
  ·have d:mnI a s.2.1=a:=by unfold mnI; split <;> omega
   have e:mnI (a+1) s.2.1=a+1:=by unfold mnI; split <;> omega
   rw [Qnc c];refine ⟨Nat.le_refl _,?_⟩;rw [preM,preM,d,e,Int.sub_self,Int.sub_self,QiL f];show _=_+if ((s::r).getD (k-k) (0,0,())).1=g then 1 else 0
   rw [Nat.sub_self,List.getD_cons_zero];by_cases b:s.1=g
   ·rw [if_pos b,if_pos b,if_pos b]; omega
   ·rw [if_neg b,if_neg b,if_neg b]; omega
theorem Qqa {p:PolD} (hok:OkPol p) {c g:Int} (h0:0≤c) (hg:0≤g):QcT p (c+1) g=QcT p c g+if (p.2.2.2.1.getD (QaF p c).1.toNat (0,0,())).1=g then 1 else 0:=by
 obtain ⟨s,b⟩:=hok.okPlan;have q:=Qbj b hok.plan.1;have j:0≤c % Qk (-1) p.2.2.2.1:=Int.emod_nonneg _ (by omega)
 have l:c % Qk (-1) p.2.2.2.1< Qk (-1) p.2.2.2.1:=Int.emod_lt_of_pos _ (by omega)
 obtain ⟨_,d⟩:=QmJ (g:=g) (k:=0) (a:=c % Qk (-1) p.2.2.2.1) b j l
 have n:(QaF p c).1.toNat=(Qy 0 p.2.2.2.1 (c % Qk (-1) p.2.2.2.1)).1-0:=by
  show (((Qy 0 p.2.2.2.1 (c % Qk (-1) p.2.2.2.1)).1:Nat):Int).toNat=_;omega
 rw [n];unfold QcT;have o:=Qps hg b;generalize Qk (-1) p.2.2.2.1=R at*;have r:=Int.mul_ediv_add_emod c R;by_cases h:c % R+1< R
 ·have e:(c+1) % R=c % R+1:=by
   rw [Int.add_emod,Int.emod_eq_of_lt (a:=1) (by omega) (by omega)]
   exact Int.emod_eq_of_lt (by omega) h
  have f:(c+1) / R=c / R:=by
   rw [show c+1=c % R+1+R*(c / R) by omega,Int.add_mul_ediv_left _ _ (by omega),Int.ediv_eq_zero_of_lt (by omega) h,Int.zero_add]
  rw [e,f,d];omega
 ·have m:c % R+1=R:=by omega
  have i:c+1=R*(c / R+1):=by rw [Int.mul_add,Int.mul_one]; omega
  have e:(c+1) % R=0:=by rw [i]; exact Int.mul_emod_right _ _
  have f:(c+1) / R=c / R+1:=by rw [i]; exact Int.mul_ediv_cancel_left _ (by omega)
  rw [m,o] at d;rw [e,f,QiL b,Int.add_mul,Int.one_mul,d];omega
theorem Qqb {p:PolD} (hok:OkPol p) {c g:Int} (hc:0≤c∧c≤1000000):0≤QcT p c g∧QcT p c g≤1000000000:=by
 obtain ⟨m,a⟩:=hok.okPlan;have j:=hok.plan;have h:=Qbj a hok.plan.1;have i:=QaZ (g:= -1) a;have d:=QaZ (g:=g) a;have e:0≤c % Qk (-1) p.2.2.2.1:=Int.emod_nonneg _ (by omega)
 have k:c % Qk (-1) p.2.2.2.1< Qk (-1) p.2.2.2.1:=Int.emod_lt_of_pos _ (by omega)
 have f:0≤c / Qk (-1) p.2.2.2.1:=Int.ediv_nonneg hc.1 (by omega)
 have l:c / Qk (-1) p.2.2.2.1≤c:=Int.ediv_le_self _ hc.1;have n:=Int.mul_nonneg f d.1;have o:c / Qk (-1) p.2.2.2.1*Qk g p.2.2.2.1≤1000000*400:=Int.mul_le_mul (by omega) (by omega) d.1 (by omega)
 have b:=Qsi (g:=g) a e;unfold QcT;omega
theorem Qks {p:PolD} (hok:OkPol p) (g b a:Int) (hb:0≤b∧b≤1000000000) (ha:0≤a∧a≤1000) (Z:Int×Int×Unit):
  L_he_9 ((g,((),(b,(a,(p.2.2.2.1,(((p.2.2.2.1.length:Nat):Int),((0:Int),()))))))),((Z,()),()))=some (.inl (((),(b+preM g p.2.2.2.1 a,())),((Z,()),()))):=by
 obtain ⟨l,h⟩:=hok.okPlan;refine Dr.eq ?_;refine Qab (fun n u=> ∃(i:Nat) (b' a':Int),u=((g,((),(b',(a',(p.2.2.2.1,(((p.2.2.2.1.length:Nat):Int),((i:Int),()))))))),((Z,()),()))∧n+i=p.2.2.2.1.length∧(0≤a'∧a'≤1000)∧(0≤b'∧b'≤1000000000+50*(i:Int))∧b'+preM g (p.2.2.2.1.drop i) a'=b+preM g p.2.2.2.1 a) ?_ p.2.2.2.1.length _ ⟨0,b,a,rfl,by omega,ha,by omega,by simp⟩ (by have:=hok.plan; rw [QE]; omega)
 rintro rec n _ ⟨i,b',a',rfl,hn,ha',hb',c⟩ ih;have j:=hok.plan;unfold l_he_9;dsimp only;by_cases d:i< p.2.2.2.1.length
 ·have hb:=h _ (List.getElem_mem d);rw [if_pos (lt_t d),if_pos nat0,Ql d];rw [List.drop_eq_getElem_cons d,preM] at c;have f:(if (p.2.2.2.1[i]).2.1< a' then (p.2.2.2.1[i]).2.1 else a')=mnI a' (p.2.2.2.1[i]).2.1:=rfl
  have k:0≤mnI a' (p.2.2.2.1[i]).2.1∧mnI a' (p.2.2.2.1[i]).2.1≤a'∧mnI a' (p.2.2.2.1[i]).2.1≤50:=by unfold mnI; split <;> omega
  rw [f];rw [QH (by omega),Qj (n:=a'-mnI a' (p.2.2.2.1[i]).2.1) (by omega) (by omega)]
  by_cases e:(p.2.2.2.1[i]).1=g
  ·rw [if_pos e] at c;refine Dr.pos (by simpa using e) ?_
   rw [Qj (n:=b'+mnI a' (p.2.2.2.1[i]).2.1) (by omega) (by omega)]
   exact ih (n-1) _ (by omega) ⟨i+1,_,_,rfl,by omega,by omega,by omega,by omega⟩
  ·rw [if_neg e] at c;exact Dr.neg (by simpa using e) (ih (n-1) _ (by omega) ⟨i+1,_,_,rfl,by omega,by omega,by omega,by omega⟩)
 ·rw [if_neg (lt_f d)];rw [List.drop_of_length_le (by omega)] at c
  have c:b'+0=b+preM g p.2.2.2.1 a:=c;exact Dr.ret (by rw [←c,Int.add_zero])
theorem Qji {p:PolD} {c g:Int} (hp:polM p=0) (hc:0≤c∧c≤1000000) (hg:isG p g=true):
  F_he (p,c,g,())=some (((0,QcT p c g,()),()),()):=by
 have a:=QdQ hp;obtain ⟨f,b⟩:=a.okPlan;have m:=a.plan;have j:=Qbj b a.plan.1;have r:=a.own;have l:=QaZ (g:= -1) b;have d:=QaZ (g:=g) b;have h:0≤c % Qk (-1) p.2.2.2.1:=Int.emod_nonneg _ (by omega)
 have o:c % Qk (-1) p.2.2.2.1< Qk (-1) p.2.2.2.1:=Int.emod_lt_of_pos _ (by omega)
 have i:0≤c / Qk (-1) p.2.2.2.1:=Int.ediv_nonneg hc.1 (by omega)
 have q:c / Qk (-1) p.2.2.2.1≤c:=Int.ediv_le_self _ hc.1;have k:=Int.mul_nonneg i d.1;have s:c / Qk (-1) p.2.2.2.1*Qk g p.2.2.2.1≤1000000*400:=Int.mul_le_mul (by omega) (by omega) d.1 (by omega)
 refine Dr.eq ?_;unfold F_he;refine Dr.step (v:=((0,()),())) ?_ (Dr.neg (by simp) (Dr.step (QcK p g (by omega)) (Dr.neg (by rw [hg]; simp) (Dr.step (QhA p (-1) ⟨f,b⟩) ?_))))
 ·refine Dr.eq ?_;unfold F_hd;refine Dr.step (Qkq p (QgB a)) ?_;rw [hp];refine Dr.pos (by simp) (Dr.step (Qah _ _ _) (Dr.neg ?_ (Dr.ret rfl)))
  rw [QbA.2 hc]; simp
 ·dsimp only;have e: ¬Qk (-1) p.2.2.2.1=0:=by omega
  rw [if_neg e];refine Dr.step (QhA p g ⟨f,b⟩) ?_;dsimp only;rw [if_neg e,Qli hc.1,Int.tdiv_eq_ediv_of_nonneg hc.1,Qj (n:=c / Qk (-1) p.2.2.2.1) (by omega) (by omega),Qj (by omega) (by omega)]
  refine Dr.step (Qks a g _ _ ⟨k,by omega⟩ ⟨h,by omega⟩ _) (Dr.ret rfl)
theorem QwD {x:Qo} {g:Int} (h:HK x) (hg:isG x.1 g=true):Rl x (Qih x g) g:=by
 have a:=h.ok;have l:=(Qdm a hg).2;refine ⟨h,QpA h hg,hg,rfl,rfl,fun k c=>?_,fun y d f=>?_⟩
 ·have e:=QkH a hg c;rw [QpB h hg (k:=k) (by omega) (by rw [e]; exact h.ownP hg c),e]
 ·have b:=QbI a y d;have j:=QgA a hg d f;have i:=QpB h hg (k:=y.2.2.2.1.toNat) (by have:=b.2.2.1; omega) (by rw [j]; exact b.2.1.1)
  rw [j,show ((y.2.2.2.1.toNat:Nat):Int)=y.2.2.2.1 by have:=b.2.2.1; omega] at i
  exact i.symm
def cntM (g:Int):List Int→Int
 | []=>0
 | a::r=>(if a=g then 1 else 0)+cntM g r
theorem Qmd {p:PolD} (hok:OkPol p) {g:Int} (hg:0≤g): ∀(n:Nat) (c:Int),0≤c→cntM g (Qdr p c n)=QcT p (c+(n:Int)) g-QcT p c g
 | 0,c,_=>by
  have e:c+((0:Nat):Int)=c:=Int.add_zero _;rw [e,Int.sub_self]; rfl
 | n+1,c,h0=>by
  have f:=Qmd hok hg n (c+1) (by omega)
  have a:=Qqa (g:=g) hok h0 hg;obtain ⟨_,s,b,d⟩:=Qsz (c:=c) hok h0
  have e:(p.2.2.2.1.getD (QaF p c).1.toNat (0,0,())).1=QjD p c:=by
   rw [d,List.getD_eq_getElem?_getD,b]; rfl
  rw [e] at a;rw [Qdr,cntM,f,show c+((n+1:Nat):Int)=c+1+(n:Int) by omega]
  omega
theorem Qqr {c:List Int} (hc:Byt c):Dr (F_cb (c,())) fun r=>Qcc 1048576 r.1.1:=by
 unfold F_cb F_ca;refine Dr.bind (Q:=fun r=>Qcc 1048576 r.1.1) ?_ fun r h=>Dr.ret h
 exact (QvE hc).bind fun e b=>(Qxs b (by omega)).bind fun f a=>(QbS a.1 (by omega) _ _).bind fun g d=>Dr.ret a.2
theorem Qsy (p:PolD): ∀(n:Nat) (c:Int),(Qdr p c n).length=n
 | 0,_=>rfl
 | n+1,c=>by simp only [Qdr,List.length_cons,Qsy p n]
theorem Qta (X:Qfv) (R:Int×QiT) (D:Quf) (C g:Int) (T:List Int) (hT:T.length≤1000):
  Dr (L_hf_13 (((),(g,((),((),((),((0:Int),((0:Int),()))))))),((X,(R,(D,((C,(T,())),())))),()))) fun o=>o= .inl (((),(g,((),((),(cntM g T,()))))),((X,(R,(D,()))),())):=by
 refine Qab (fun m u=> ∃(i:Nat) (n:Int),u=(((),(g,((),((),((),(n,((i:Int),()))))))),((X,(R,(D,((C,(T,())),())))),()))∧m+i=T.length∧(0≤n∧n≤(i:Int))∧n+cntM g (T.drop i)=cntM g T) ?_ T.length _ ⟨0,0,rfl,by omega,by omega,by simp⟩ (by rw [QE]; omega)
 rintro rec m _ ⟨i,n,rfl,hm,hn,a⟩ ih;unfold l_hf_13;dsimp only;by_cases c:i< T.length
 ·rw [if_pos (lt_t c),if_pos (show (0:Int)≤(i:Int)∧(i:Int)< ((T.length:Nat):Int) by omega),Ql c]
  rw [List.drop_eq_getElem_cons c,cntM] at a;rw [QH (by omega)]
  by_cases b:T[i]=g
  ·rw [if_pos b] at a;refine Dr.pos (by simpa using b) ?_
   rw [Qj (n:=n+1) (by omega) (by omega)]
   exact ih (m-1) _ (by omega) ⟨i+1,n+1,rfl,by omega,by omega,by omega⟩
  ·rw [if_neg b] at a;exact Dr.neg (by simpa using b) (ih (m-1) _ (by omega) ⟨i+1,n,rfl,by omega,by omega,by omega⟩)
 ·rw [if_neg (lt_f c)];rw [List.drop_of_length_le (by omega)] at a
  have a:n+0=cntM g T:=a;exact Dr.ret (by rw [←a,Int.add_zero])
theorem QuI (c:List Int) (hb: ∀b∈c,0≤b∧b≤255):Yes (F_hf (c,())):=by
 unfold F_hf F_a;refine Dr.step rfl (Dr.ite (fun _=>yes rfl) fun j=>?_)
 have j: ¬(1048576:Int)< ((c.length:Nat):Int):=by rw [QB] at j; exact j
 refine (Qqr (Qxi j hb)).bind fun z l=>?_
 obtain ⟨⟨x,g,xu⟩,x2⟩:=z;have i:Qcc 1048576 x:=l;clear l;obtain ⟨x,rfl⟩: ∃y:Qo,y=x:=⟨x,rfl⟩;obtain ⟨g,rfl⟩: ∃k:Int,k=g:=⟨g,rfl⟩;by_cases s:Qak x=0∧isG x.1 g=true
 case neg=>
  have p:(QcR x g).1≠0:=by
   unfold QcR;by_cases a:Qak x=0
   ·rw [if_neg (by simpa using a),if_neg (fun l=>s ⟨a,l⟩)]; decide
   ·rw [if_pos a]; exact a
  exact Dr.step (QfQ x g i) (Dr.pos (by simpa using p) (Dr.step (QkZ x g i) (yes (by simp))))
 obtain ⟨a,d⟩:=s;have h:=HK.of a;have e:=h.clock;have f:=QpA h d;refine Dr.step (Qqy h d) (Dr.neg (by simp) ?_)
 have m:=QuQ x (Qih x g) g 30 i (QdY f);have u:=QvG x (Qih x g) g 30 i (QdY f);by_cases q:x.2.2.2.2.2.1+30≤1000000
 case neg=>
  have t:Qaq x 30=false:=by
   unfold Qaq;rw [Qj (by omega) (by omega)]
   have:leI (x.2.2.2.2.2.1+30) 1000000=false:=by rw [←Bool.not_eq_true,QaB]; omega
   rw [this]; simp
  have p:(sdM x (Qih x g) g 30).1≠0:=by
   unfold sdM;rw [if_neg (by simpa using a),if_neg (by simpa using f),if_pos d,if_neg (by rw [t]; decide)]
   decide
  exact Dr.step m (Dr.pos (by simpa using p) (Dr.step u (yes (by simp))))
 rw [QvC (QwD h d) (by omega) q] at m
 have v:Qof x 30=(0,Qdr x.1 x.2.2.2.2.2.1 30,()):=by
  unfold Qof;rw [if_neg (by simpa using a),if_pos]
  ·rfl
  ·unfold Qaq;rw [Qj (by omega) (by omega),QaB.2 q]
   rfl
 have r:=QnK x 30 i;rw [v] at r;refine Dr.step m (Dr.neg (by simp) (Dr.step r ((Qta (boxH x) (0,sB (Qih x g)) (0,0,true,()) 0 g (Qdr x.1 x.2.2.2.2.2.1 30) (by rw [Qsy]; omega)).bind fun o w=>?_)))
 subst w;dsimp only;have tb:=Qqb h.ok (c:=x.2.2.2.2.2.1) (g:=g) e;have aa:=Qqb h.ok (c:=x.2.2.2.2.2.1+30) (g:=g) (by omega)
 refine Dr.pos rfl (Dr.step (Qjf (Qih x g) (QdY f)) (Dr.pos (by rw [f]; rfl) ?_))
 show Dr ((F_he (x.1,IntKind.i64.wrap (x.2.2.2.2.2.1+30),g,())).bind _) _;rw [Qj (n:=x.2.2.2.2.2.1+30) (by omega) (by omega)]
 refine Dr.step (Qji h.pol (by omega) d) (Dr.step (Qji (c:=x.2.2.2.2.2.1) h.pol e d) (yes ?_))
 show (cntM g (Qdr x.1 x.2.2.2.2.2.1 30)==IntKind.i64.wrap (QcT x.1 (x.2.2.2.2.2.1+30) g-QcT x.1 x.2.2.2.2.2.1 g))=true;rw [Qj (n:=QcT x.1 (x.2.2.2.2.2.1+30) g-QcT x.1 x.2.2.2.2.2.1 g) (by omega) (by omega),Qmd h.ok (Qbn.1 d).1 30 _ e.1,beq_iff_eq]
 rfl
theorem Qxp: ∀x,inRP P_a x→F_hf x=some ((true,()),()):=by
 rintro ⟨c,_⟩ ⟨hc,_⟩
 exact (QuI c fun b e=>by
  have:=hc.2 b e;have a:IntKind.u8.min=0:=by decide
  have d:IntKind.u8.max=255:=by decide
  simp only [inR,a,d] at this;exact this).eq
def OneW (m m':List Int):Prop:= ∃k:Nat, ∀i,i≠k→m'[i]?=m[i]?
theorem OneW.refl (m:List Int):OneW m m:=⟨0,fun _ _=>rfl⟩
end Go.Proofs.YtkkljegcnnfanaaGreatDoor
