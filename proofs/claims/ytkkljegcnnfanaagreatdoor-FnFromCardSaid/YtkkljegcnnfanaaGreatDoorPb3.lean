/- Plain laws: what the functions compute, and that both programs compute the same. -/
import Derived.Test.YtkkljegcnnfanaaGreatDoorPb2
set_option linter.unusedVariables false
set_option linter.unusedSimpArgs false
namespace Go.Proofs.YtkkljegcnnfanaaGreatDoor
open Go Go.RowKit S Go.Proofs
set_option maxRecDepth 100000
section
variable {l:List TwoD} {s:Mc}
theorem QuP (h:OkS s l) {op d a i:Int} (hi:OkI op d a i) {e:Bool×Int×Int×Mc} (he:exM s l op d a i=e):
  ∃nx:Int,(e.1=true→nx=e.2.2.1∨wrD op=false)∧
  L_gf_100000 (((),((),(s.pc,(addW s.pc 1,(addW s.pc (off i),(s.r.getD d.toNat 0,(s.r.getD a.toNat 0,(addW (s.r.getD a.toNat 0) (off i),((0:Int),(op,(op,()))))))))))),(((op,(d,(a,(i,())))),(s.core l,())),()))=
  some (if e.1=true then .inl (((),((),(e.2.1,(nx,())))),(((op,(d,(a,(i,())))),(e.2.2.2.core l,())),())) else .inr (.inl ((false,()),((e.2.2.2.core l,()),())))):=by
 have aw:=fun v=>Qqz h (op:=op) (d:=d) (a:=a) (i:=i) v he
 have ax:=fun w=>QoZ h (op:=op) (d:=d) (a:=a) (i:=i) w he
 have hd:=hi.hd;have a4:=hi.ha;unfold L_gf_100000;dsimp only at*;by_cases ac:op=12
 ·subst ac;rw [show exM s l 12 d a i=(true,addW s.pc 1,addW (s.r.getD a.toNat 0) (off i),s) from rfl] at he
  subst he;exact ⟨_,fun _=> .inl rfl,by rw [if_pos (by decide)]; rfl⟩
 rw [if_neg (by simpa using ac)]
 by_cases ad:op=13
 ·subst ad;rw [show exM s l 13 d a i=(true,addW s.pc 1,i*65536,s) from rfl] at he
  subst he;exact ⟨_,fun _=> .inl rfl,by rw [if_pos (by decide),QuM hi.hi]; rfl⟩
 rw [if_neg (by simpa using ad)]
 by_cases v:op=14
 ·subst v
  have hn:e.1=true→e.2.1=addW s.pc 1:=by
   rw [←he]; unfold exM; dsimp only;rw [if_neg (by decide),if_neg (by decide),if_pos rfl]
   repeat' split
   all_goals simp
  refine ⟨e.2.2.1,fun _=> .inl rfl,?_⟩
  rw [if_pos (by decide),aw rfl,Obn]
  obtain ⟨b,nx,rs,s1⟩:=e;cases b
  ·simp
  ·simp only at hn;simp [hn]
 rw [if_neg (by simpa using v)]
 by_cases w:op=15
 ·subst w
  have hn:e.1=true→e.2.1=addW s.pc 1:=by
   rw [←he]; unfold exM; dsimp only;rw [if_neg (by decide),if_neg (by decide),if_neg (by decide),if_pos rfl]
   repeat' split
   all_goals simp
  refine ⟨0,fun _=> .inr rfl,?_⟩
  rw [if_pos (by decide),ax rfl,Obn]
  obtain ⟨b,nx,rs,s1⟩:=e;cases b
  ·simp
  ·simp only at hn;simp [hn]
 rw [if_neg (by simpa using w)]
 clear aw ax;obtain ⟨r,j,k,t,u,p,n,o,q,m,ring,g⟩:=s;obtain ⟨hr,a8,hc,a6,a7,a5,hl⟩:=h
 have f:exM ⟨r,j,k,t,u,p,n,o,q,m,ring,g⟩ l op d a i=
   (if op=16∨op=17∨op=18 then (true,if Qea op (r.getD d.toNat 0) (r.getD a.toNat 0)=true then addW j (off i) else addW j 1,0,⟨r,j,k,t,u,p,n,o,q,m,ring,g⟩)
   else if op=19 then (true,addW j (off i),addW j 1,⟨r,j,k,t,u,p,n,o,q,m,ring,g⟩)
   else if op=20 then (true,addW (r.getD a.toNat 0) (off i),addW j 1,⟨r,j,k,t,u,p,n,o,q,m,ring,g⟩)
   else if op=21 then (true,addW j 1,getM k p n o i,⟨r,j,k,t,u,p,n,o,q,m,ring,g⟩)
   else if op=22 then (true,addW j 1,0,⟨r,j,setC k i (r.getD a.toNat 0),t,u,setR p i (r.getD a.toNat 0),n,o,q,m,ring,g⟩)
   else if op=23 then (false,0,0,⟨r,k.getD 1 0,Qhf k j 5 0,t,false,p,n,o,q,m,ring,5⟩)
   else if op=24 then (true,k.getD 2 0,0,⟨r,k.getD 2 0,QjR k,t,u,p,n,o,q,m,ring,g⟩)
   else if op=25 then (true,addW j 1,0,⟨r,j,k,t,true,p,n,o,q,m,ring,g⟩)
   else if op=26 then (true,j,0,⟨r,j,k,true,u,p,n,o,q,m,ring,g⟩)
   else (true,addW j 1,aluW op (r.getD a.toNat 0) (r.getD i.toNat 0),⟨r,j,k,t,u,p,n,o,q,m,ring,g⟩)):=by
  unfold exM Mc.trap;dsimp only;rw [if_neg ac,if_neg ad,if_neg v,if_neg w]
 unfold Mc.core;dsimp only at*;by_cases ar:op=16
 ·subst ar;rw [if_pos (.inl rfl)] at f;rw [f] at he;subst he;refine ⟨0,fun _=> .inr rfl,?_⟩
  rw [if_pos (by decide),if_pos (by decide)]
  generalize r.getD d.toNat 0=x;generalize r.getD a.toNat 0=y;unfold Qea;by_cases z:x=y <;> simp [z]
 rw [if_neg (by simpa using ar)]
 by_cases au:op=17
 ·subst au;rw [if_pos (.inr (.inl rfl))] at f;rw [f] at he;subst he;refine ⟨0,fun _=> .inr rfl,?_⟩
  rw [if_pos (by decide),if_neg (by decide),if_pos (by decide)]
  generalize r.getD d.toNat 0=x;generalize r.getD a.toNat 0=y;unfold Qea;by_cases z:x=y <;> simp [z]
 rw [if_neg (by simpa using au)]
 by_cases av:op=18
 ·subst av;rw [if_pos (.inr (.inr rfl))] at f;rw [f] at he;subst he;refine ⟨0,fun _=> .inr rfl,?_⟩
  rw [if_pos (by decide),if_neg (by decide),if_neg (by decide),if_pos (by decide),Qfe,Obn,Qfe,Obn]
  generalize r.getD d.toNat 0=x;generalize r.getD a.toNat 0=y;unfold Qea;by_cases z:sg x< sg y <;> simp [z,Qav]
 rw [if_neg (by simpa using av)]
 rw [if_neg (c:=op=16∨op=17∨op=18) (by omega)] at f
 by_cases ae:op=19
 ·subst ae;rw [if_pos rfl] at f;rw [f] at he;subst he;exact ⟨_,fun _=> .inl rfl,by rw [if_pos (by decide)]; rfl⟩
 rw [if_neg (by simpa using ae)]
 rw [if_neg ae] at f;by_cases af:op=20
 ·subst af;rw [if_pos rfl] at f;rw [f] at he;subst he;exact ⟨_,fun _=> .inl rfl,by rw [if_pos (by decide)]; rfl⟩
 rw [if_neg (by simpa using af)]
 rw [if_neg af] at f;by_cases ag:op=21
 ·subst ag;rw [if_pos rfl] at f;rw [f] at he;subst he;have aa:=hi.i21 (.inl rfl);have ab:=hi.hi;exact ⟨_,fun _=> .inl rfl,by rw [if_pos (by decide),Qtm hc ⟨ab.1,aa⟩,Obn]; rfl⟩
 rw [if_neg (by simpa using ag)]
 rw [if_neg ag] at f;by_cases ah:op=22
 ·subst ah;rw [if_pos rfl] at f;rw [f] at he;subst he;have aa:=hi.i21 (.inr rfl);have ab:=hi.hi;exact ⟨0,fun _=> .inr rfl,by rw [if_pos (by decide),QiB hc ⟨ab.1,aa⟩,Obn]; rfl⟩
 rw [if_neg (by simpa using ah)]
 rw [if_neg ah] at f;by_cases ai:op=23
 ·subst ai;rw [if_pos rfl] at f;rw [f] at he;subst he;exact ⟨0,fun _=> .inr rfl,by rw [if_pos (by decide),QcJ hc,Obn]; rfl⟩
 rw [if_neg (by simpa using ai)]
 rw [if_neg ai] at f;by_cases aj:op=24
 ·subst aj;rw [if_pos rfl] at f;rw [f] at he;subst he;exact ⟨0,fun _=> .inr rfl,by rw [if_pos (by decide),Qqv hc,Obn]; rfl⟩
 rw [if_neg (by simpa using aj)]
 rw [if_neg aj] at f;by_cases ak:op=25
 ·subst ak;rw [if_pos rfl] at f;rw [f] at he;subst he;exact ⟨0,fun _=> .inr rfl,by rw [if_pos (by decide)]; rfl⟩
 rw [if_neg (by simpa using ak)]
 rw [if_neg ak] at f;by_cases al:op=26
 ·subst al;rw [if_pos rfl] at f;rw [f] at he;subst he;exact ⟨0,fun _=> .inr rfl,by rw [if_pos (by decide)]; rfl⟩
 rw [if_neg (by simpa using al)]
 rw [if_neg al] at f;have h1:=hi.hop;have aq:op≤11:=by omega
 have a1:=hi.i11 aq;have ab:=hi.hi;have az:0≤i∧i< ((r.length:Nat):Int):=by rw [hr.len]; omega
 have ay:i.toNat< r.length:=by rw [hr.len]; omega
 rw [f] at he;subst he;refine ⟨_,fun _=> .inl rfl,?_⟩
 rw [if_pos az,Qs 0 ay,Qtg op _ _ (hr.w (by omega)) (hr.w (by omega)) ⟨h1.1,aq⟩,Obn]
 rfl
def QfS (s:Mc):Mc:={ s with dn:=if 1000000000< s.dn+1 then 1000000000 else s.dn+1 }
theorem QuR (op:Int):F_ge (op,())=some ((wrD op,()),()):=by
 unfold F_ge wrD;dsimp only;rw [Qbw,Obn,Qbw,Obn];dsimp only;by_cases a:1≤op∧op≤14
 ·rw [if_neg (by simp [a]),decide_eq_true (.inl a)]
 ·rw [if_pos (by simp; omega)]
  by_cases b:19≤op∧op≤21
  ·rw [decide_eq_true (p:=(1≤op∧op≤14)∨(19≤op∧op≤21)) (.inr b)]; simp [b]
  ·rw [decide_eq_false (p:=(1≤op∧op≤14)∨(19≤op∧op≤21)) (by omega)]; simp; omega
theorem Qg {α:Type} (P:α→Prop) {c:Prop} [Decidable c] {a b:α} (h1:c→P a) (h2: ¬c→P b):P (if c then a else b):=by
 by_cases h:c
 ·rw [if_pos h]; exact h1 h
 ·rw [if_neg h]; exact h2 h
theorem QwS (s:Mc) (l:List TwoD) (op d a i:Int):(exM s l op d a i).2.2.2.r=s.r∧(exM s l op d a i).2.2.2.dn=s.dn:=by
 unfold exM Mc.trap
 let P:Bool×Int×Int×Mc→Prop:=fun x=>x.2.2.2.r=s.r∧x.2.2.2.dn=s.dn
 refine Qg P (fun _=>⟨rfl,rfl⟩) fun _=>Qg P (fun _=>⟨rfl,rfl⟩) fun _=>Qg P (fun _=>Qg P (fun _=>⟨rfl,rfl⟩) fun _=>Qg P (fun _=>⟨rfl,rfl⟩) fun _=>⟨rfl,rfl⟩) fun _=>
  Qg P (fun _=>Qg P (fun _=>⟨rfl,rfl⟩) fun _=>Qg P (fun _=>⟨rfl,rfl⟩) fun _=>⟨rfl,rfl⟩) fun _=>Qg P (fun _=>⟨rfl,rfl⟩) fun _=>Qg P (fun _=>⟨rfl,rfl⟩) fun _=>Qg P (fun _=>⟨rfl,rfl⟩) fun _=>
  Qg P (fun _=>⟨rfl,rfl⟩) fun _=>Qg P (fun _=>⟨rfl,rfl⟩) fun _=>Qg P (fun _=>⟨rfl,rfl⟩) fun _=>Qg P (fun _=>⟨rfl,rfl⟩) fun _=>Qg P (fun _=>⟨rfl,rfl⟩) fun _=>Qg P (fun _=>⟨rfl,rfl⟩) fun _=>⟨rfl,rfl⟩
theorem QuO (h:OkS s l) {op d a i:Int} (hi:OkI op d a i) {e:Bool×Mc} (he:doM s l op d a i=e):F_gf (s.core l,(op,d,a,i,()),())=
  some ((e.1,()),((if e.1=true then (QfS e.2).core l else e.2.core l),())):=by
 have hd:=hi.hd;have aa:=hi.ha;have k:=h.r;obtain ⟨y,m,u⟩:=QuP h hi rfl;have g:=QwS s l op d a i;unfold F_gf;dsimp only;have r:(s.core l).2.1=s.pc:=rfl;have t:(s.core l).1=s.r:=rfl;rw [r,t,Qgr,Obn];dsimp only;rw [Qtp,Obn];dsimp only;rw [Qgr,Obn];dsimp only;have q:0≤d∧d< ((s.r.length:Nat):Int):=by rw [k.len]; omega
 have p:0≤a∧a< ((s.r.length:Nat):Int):=by rw [k.len]; omega
 rw [if_pos q,Qs 0 (by rw [k.len]; omega),if_pos p,Qs 0 (by rw [k.len]; omega),Obn]
 dsimp only;rw [Qgr,Obn];dsimp only;rw [u,Obn];unfold doM at he;dsimp only at he;generalize exM s l op d a i=x at*;obtain ⟨b,ac,z,o⟩:=x;cases b
 ·subst he; rfl
 ·simp only [if_true] at he⊢;subst he;simp only at g m;have ab:=h.d;have v:IntKind.i64.wrap (o.dn+1)=o.dn+1:=Qw (by rw [g.2]; omega) (by rw [g.2]; omega)
  unfold Mc.core QfS;dsimp only;rw [QuR,Obn,v];dsimp only;have n:0≤d∧d< ((o.r.length:Nat):Int):=by rw [g.1,k.len]; omega
  by_cases f:wrD op=true
  ·have w:y=z:=by
    rcases m trivial with h | h
    ·exact h
    ·rw [h] at f; cases f
   subst w;rw [if_pos f];by_cases j:0< d
   ·rw [if_pos (QB.2 j),if_pos n,Qs 0 (by rw [g.1,k.len]; omega),if_pos (c:=wrD op=true∧0< d) ⟨f,j⟩]; rfl
   ·rw [if_neg (by rw [QB]; exact j),if_neg (c:=wrD op=true∧0< d) (fun h=>j h.2)]; rfl
  ·rw [if_neg f,if_neg (c:=wrD op=true∧0< d) (fun h=>f h.1)]; rfl
def runM (s:Mc) (l:List TwoD):Mc:=
 if (Qv s.cs l s.m s.pc 4).2≠0 then s.trap 2 s.pc
 else
  let w:=s.m.getD (Qv s.cs l s.m s.pc 4).1.toNat 0
  if decF w=0 then (if (doM s l (decM w).1 (decM w).2.1 (decM w).2.2.1 (decM w).2.2.2.1).1=true then QfS (doM s l (decM w).1 (decM w).2.1 (decM w).2.2.1 (decM w).2.2.2.1).2
   else (doM s l (decM w).1 (decM w).2.1 (decM w).2.2.1 (decM w).2.2.2.1).2) else s.trap 1 w
def Qac (s0:Mc) (l:List TwoD):Mc:=
 let s:Mc:={ s0 with ring:= -1,fall:= -1 }
 if s.ha=true then s
 else if 0≤dueM s.cs s.ru s.dn s.iq then s.trap (16+dueM s.cs s.ru s.dn s.iq) 0
 else if s.wa=true then (if iand .i64 (QdU s.cs s.ru s.dn s.iq) (s.cs.getD 7 0)=0 then s else runM { s with wa:=false } l)
 else runM s l
theorem QjG {w:Int} (h:decF w=0):OkI (decM w).1 (decM w).2.1 (decM w).2.2.1 (decM w).2.2.2.1:=by
 obtain ⟨a,b,c,d,e,f⟩:=Qwd h;exact ⟨a,b,c,d,e,f⟩
theorem QnF (cs:List Int) (ru:Bool) (dn:Int) (iq:List Int): -1≤dueM cs ru dn iq∧dueM cs ru dn iq≤2:=by
 unfold dueM; split
 ·omega
 ·exact Qwn _
theorem QmX (h:OkS s l) {K:Option Unit}:
  ((F_aw ((l,s.m,s.ring,(s.r,s.pc,s.cs,s.ha,s.wa,s.ru,s.dn,s.iq,s.oq,()),s.fall,()),s.pc,(4:Int),())).bind fun r7=>
    if (r7.1.2.1 !=(0:Int)) then
     (F_aq (s.bus l,(2:Int),s.pc,())).bind fun r8=>some (((),(r8.2.1,())):Unit×BusD×Unit)
    else
     if 0≤r7.1.1∧r7.1.1< ((s.m.length:Nat):Int) then
      ((s.m)[(r7.1.1).toNat]?).bind fun y9=>
      (F_ax (y9,())).bind fun r10=>
      if (!r10.1.2.1) then
       if 0≤r7.1.1∧r7.1.1< ((s.m.length:Nat):Int) then
        ((s.m)[(r7.1.1).toNat]?).bind fun y11=>
        (F_aq (s.bus l,(1:Int),y11,())).bind fun r12=>some ((),(r12.2.1,()))
       else none
      else
       (F_bp (s.bus l,r10.1.1,())).bind fun r13=>
       if r13.1.1 then
        let v14:=(IntKind.i64.wrap (r13.2.1.2.2.2.2.2.2.2.2.2.1+(1:Int)))
        (F_bq ((1000000000:Int),v14,())).bind fun r15=>
        some ((),((r13.2.1.1,(r13.2.1.2.1,(r13.2.1.2.2.1,(r13.2.1.2.2.2.1,(r13.2.1.2.2.2.2.1,(r13.2.1.2.2.2.2.2.1,(r13.2.1.2.2.2.2.2.2.1,(r13.2.1.2.2.2.2.2.2.2.1,(r13.2.1.2.2.2.2.2.2.2.2.1,(r15.1.1,(r13.2.1.2.2.2.2.2.2.2.2.2.2.1,(r13.2.1.2.2.2.2.2.2.2.2.2.2.2.1,(r13.2.1.2.2.2.2.2.2.2.2.2.2.2.2.1,()))))))))))))),()))
       else some ((),(r13.2.1,()))
     else none)=some ((),((runM s l).bus l,())):=by
 have j:=fun {w:Int} (i:decF w=0)=>QvF h (QjG i) rfl
 have p:=h.d;rw [Qgh h.c h.l,Obn];dsimp only;unfold runM;have k:=Qcm h.c h.l s.pc 4;generalize Qv s.cs l s.m s.pc 4=q at*;by_cases d:q.2=0
 ·have a:0≤q.1∧q.1< ((s.m.length:Nat):Int):=by
   rcases k d with h | h
   ·exact absurd rfl h.2.2
   ·exact h
  have g:q.1.toNat< s.m.length:=by omega
  have i:WW (s.m.getD q.1.toNat 0):=h.l.words _ (QaH g);rw [if_neg (by simpa using d),if_pos a,Qs 0 g,QtQ i,Obn,if_pos a,Qs 0 g,if_neg (c:=q.2≠0) (by simpa using d)]
  dsimp only;generalize s.m.getD q.1.toNat 0=w at*;by_cases e:decF w=0
  ·rw [if_neg (by simp [e]),if_pos e]
   have n:=j e;have m:=QwS s l (decM w).1 (decM w).2.1 (decM w).2.2.1 (decM w).2.2.2.1
   have f:(doM s l (decM w).1 (decM w).2.1 (decM w).2.2.1 (decM w).2.2.2.1).2.dn=s.dn:=by
    unfold doM; dsimp only; split <;> exact m.2
   have o:((decM w).1,(decM w).2.1,(decM w).2.2.1,(decM w).2.2.2.1,())=decM w:=rfl;rw [o] at n;rw [n,Obn];dsimp only;generalize doM s l (decM w).1 (decM w).2.1 (decM w).2.2.1 (decM w).2.2.2.1=x at*;obtain ⟨b,r⟩:=x;cases b
   ·rfl
   ·simp only at f;rw [if_pos rfl,if_pos rfl];unfold F_bq Mc.bus QfS;dsimp only;rw [f,Qw (by omega) (by omega)]
    by_cases a:1000000000< s.dn+1
    ·rw [if_pos (QB.2 a),if_pos a]; rfl
    ·rw [if_neg (by rw [QB]; exact a),if_neg a]; rfl
  ·rw [if_pos (by simp [e]),if_neg e]
   unfold Mc.bus;rw [QcS h.c,Obn];rfl
 ·rw [if_pos (by simpa using d),if_pos (c:=q.2≠0) d]
  unfold Mc.bus;rw [QcS h.c,Obn];rfl
theorem Qla (h:OkS s l):F_br (s.bus l,())=some ((),((Qac s l).bus l,())):=by
 obtain ⟨r,n,b,i,o,f,c,d,k,m,ring,g⟩:=s;have t:OkS ⟨r,n,b,i,o,f,c,d,k,m, -1, -1⟩ l:=⟨h.r,h.pc,h.c,h.i,h.o,h.d,h.l⟩;have u:OkS ⟨r,n,b,i,false,f,c,d,k,m, -1, -1⟩ l:=⟨h.r,h.pc,h.c,h.i,h.o,h.d,h.l⟩;have j:OkC b:=h.c;have w:=QnF b f c d;generalize a:Qac ⟨r,n,b,i,o,f,c,d,k,m,ring,g⟩ l=e;unfold Qac at a;unfold F_br;dsimp only at a;rw [show (Mc.bus ⟨r,n,b,i,o,f,c,d,k,m,ring,g⟩ l)=(l,m,ring,r,n,b,i,o,f,c,d,k,g,()) from rfl]
 dsimp only;cases i
 ·rw [if_neg (by decide)] at a
  rw [if_neg (by decide),QtS j,Obn]
  dsimp only;by_cases p:0≤dueM b f c d
  ·rw [if_pos p] at a;subst a;rw [if_pos (QaB.2 p),Qw (by omega) (by omega),QcS j,Obn]
   rfl
  ·rw [if_neg p] at a;rw [if_neg (by rw [QaB]; exact p)]
   cases o
   ·rw [if_neg (by decide)] at a
    subst a;rw [if_neg (by decide)]
    exact QmX (K:=none) t
   ·rw [if_pos rfl] at a;have v:(0:Int)≤7∧(7:Int)< ((b.length:Nat):Int):=by rw [j.len]; decide
    rw [if_pos rfl,Qfm j,Obn];dsimp only;rw [if_pos v,Qs 0 (by rw [j.len]; decide)]
    simp only [show ((7:Int)).toNat=7 from rfl]
    by_cases q:iand .i64 (QdU b f c d) (b.getD 7 0)=0
    ·rw [if_pos q] at a;subst a;rw [if_pos (by simpa using q)]
     rfl
    ·rw [if_neg q] at a;subst a;rw [if_neg (by simpa using q)]
     exact QmX (K:=none) u
 ·rw [if_pos rfl] at a;subst a;rw [if_pos rfl];rfl
theorem Qmr (h:OkS s l):
  ((F_fk ((s.r,s.pc,s.cs,s.ha,s.wa,s.ru,s.dn,s.iq,s.oq,()),l,s.m,s.pc,(4:Int),())).bind fun r14=>
    if (r14.1.1.1 !=(0:Int)) then
     (F_fd (s.core l,(2:Int),s.pc,())).bind fun r15=>some (((),(r15.2.1,())):Unit×QwO×Unit)
    else
     if 0≤r14.1.1.2.1∧r14.1.1.2.1< ((s.m.length:Nat):Int) then
      ((s.m)[(r14.1.1.2.1).toNat]?).bind fun y16=>
      (F_fm (y16,())).bind fun r17=>
      if (r17.1.1.1 !=(0:Int)) then
       if 0≤r14.1.1.2.1∧r14.1.1.2.1< ((s.m.length:Nat):Int) then
        ((s.m)[(r14.1.1.2.1).toNat]?).bind fun y18=>
        (F_fd (s.core l,(1:Int),y18,())).bind fun r19=>some ((),(r19.2.1,()))
       else none
      else
       (F_gf (s.core l,r17.1.1.2.1,())).bind fun r20=>some ((),(r20.2.1,()))
     else none)=some ((),((runM s l).core l,())):=by
 have i:=fun {w:Int} (g:decF w=0)=>QuO h (QjG g) rfl
 rw [QfP h.c h.l _ (.inr (.inr rfl)),Obn];dsimp only;unfold runM;have j:=Qcm h.c h.l s.pc 4;generalize Qv s.cs l s.m s.pc 4=q at*;by_cases a:q.2=0
 ·have e:0≤q.1∧q.1< ((s.m.length:Nat):Int):=by
   rcases j a with h | h
   ·exact absurd rfl h.2.2
   ·exact h
  have f:q.1.toNat< s.m.length:=by omega
  have g:WW (s.m.getD q.1.toNat 0):=h.l.words _ (QaH f);rw [if_neg (by simpa using a),if_pos e,Qs 0 f,Qth g,Obn,if_pos e,Qs 0 f,if_neg (c:=q.2≠0) (by simpa using a)]
  dsimp only;generalize s.m.getD q.1.toNat 0=w at*;by_cases d:decF w=0
  ·rw [if_pos d,if_pos d];dsimp only;rw [if_neg (by decide)]
   have k:=i d;have m:((decM w).1,(decM w).2.1,(decM w).2.2.1,(decM w).2.2.2.1,())=decM w:=rfl;rw [m] at k;rw [k,Obn];generalize doM s l (decM w).1 (decM w).2.1 (decM w).2.2.1 (decM w).2.2.2.1=x at*;obtain ⟨b,n⟩:=x;cases b <;> rfl
  ·rw [if_neg d,if_neg d];dsimp only;rw [if_pos (by decide)]
   unfold Mc.core;rw [QcJ h.c,Obn];rfl
 ·rw [if_pos (by simpa using a),if_pos (c:=q.2≠0) a]
  unfold Mc.core;rw [QcJ h.c,Obn];rfl
theorem QqF (h:OkS s l):F_gg (s.core l,())=some ((),((Qac s l).core l,())):=by
 obtain ⟨r,n,b,i,o,f,c,d,k,m,ring,g⟩:=s;have t:OkS ⟨r,n,b,i,o,f,c,d,k,m, -1, -1⟩ l:=⟨h.r,h.pc,h.c,h.i,h.o,h.d,h.l⟩;have u:OkS ⟨r,n,b,i,false,f,c,d,k,m, -1, -1⟩ l:=⟨h.r,h.pc,h.c,h.i,h.o,h.d,h.l⟩;have j:OkC b:=h.c;have w:=QnF b f c d;generalize a:Qac ⟨r,n,b,i,o,f,c,d,k,m,ring,g⟩ l=e;unfold Qac at a;unfold F_gg;dsimp only at a;rw [show (Mc.core ⟨r,n,b,i,o,f,c,d,k,m,ring,g⟩ l)=(r,n,b,i,o,f,c,d,k,l,m,g,ring,()) from rfl]
 dsimp only;cases i
 ·rw [if_neg (by decide)] at a
  rw [if_neg (by decide),Qtj j,Obn]
  dsimp only;by_cases p:0≤dueM b f c d
  ·rw [if_pos p] at a;subst a;rw [if_pos (QaB.2 p),Qw (by omega) (by omega),QcJ j,Obn]
   rfl
  ·rw [if_neg p] at a;rw [if_neg (by rw [QaB]; exact p)]
   cases o
   ·rw [if_neg (by decide)] at a
    subst a;rw [if_neg (by decide)]
    exact Qmr t
   ·rw [if_pos rfl] at a;have v:(0:Int)≤7∧(7:Int)< ((b.length:Nat):Int):=by rw [j.len]; decide
    rw [if_pos rfl,Qfd j,Obn];dsimp only;rw [if_pos v,Qs 0 (by rw [j.len]; decide)]
    simp only [show ((7:Int)).toNat=7 from rfl]
    by_cases q:iand .i64 (QdU b f c d) (b.getD 7 0)=0
    ·rw [if_pos q] at a;subst a;rw [if_pos (by simpa using q)]
     rfl
    ·rw [if_neg q] at a;subst a;rw [if_neg (by simpa using q)]
     exact Qmr u
 ·rw [if_pos rfl] at a;subst a;rw [if_pos rfl];rfl
theorem Qxn (h:OkS s l) {op d a i:Int} (hi:OkI op d a i):OkS (exM s l op d a i).2.2.2 l∧WW (exM s l op d a i).2.2.1∧((exM s l op d a i).1=true→WW (exM s l op d a i).2.1):=by
 have b: ∀x y,WW (addW x y):=QlQ;have c:WW 0:=by unfold WW; omega
 have z:=hi.hd;have v:=hi.ha;have e:=hi.hi;have u:=h.r.w (k:=a.toNat) (by omega)
 have r:=h.r.w (k:=d.toNat) (by omega)
 unfold exM
 let P:Bool×Int×Int×Mc→Prop:=fun x=>OkS x.2.2.2 l∧WW x.2.2.1∧(x.1=true→WW x.2.1)
 refine Qg P (fun _=>⟨h,b _ _,fun _=>b _ _⟩) fun _=>Qg P (fun _=>⟨h,by unfold WW; dsimp only; omega,fun _=>b _ _⟩) fun _=>Qg P (fun _=>?_) fun _=>Qg P (fun _=>?_) fun _=>
  Qg P (fun _=>⟨h,c,fun _=>Qg WW (fun _=>b _ _) fun _=>b _ _⟩) fun _=>Qg P (fun _=>⟨h,b _ _,fun _=>b _ _⟩) fun _=>Qg P (fun _=>⟨h,b _ _,fun _=>b _ _⟩) fun _=>
  Qg P (fun j=>⟨h,Qtc h.c ⟨e.1,hi.i21 (.inl j)⟩ h.d,fun _=>b _ _⟩) fun _=>Qg P (fun m=>⟨⟨h.r,h.pc,QwG h.c ⟨e.1,hi.i21 (.inr m)⟩,h.i,h.o,h.d,h.l⟩,c,fun _=>b _ _⟩) fun _=>
  Qg P (fun _=>⟨QgK h (by unfold WW; omega) c,c,fun _=>c⟩) fun _=>Qg P (fun _=>⟨⟨h.r,h.c.w (by decide),Qur h.c,h.i,h.o,h.d,h.l⟩,c,fun _=>h.c.w (by decide)⟩) fun _=>
  Qg P (fun _=>⟨⟨h.r,h.pc,h.c,h.i,h.o,h.d,h.l⟩,c,fun _=>b _ _⟩) fun _=>Qg P (fun _=>⟨⟨h.r,h.pc,h.c,h.i,h.o,h.d,h.l⟩,c,fun _=>h.pc⟩) fun _=>⟨h,QsH _ _ _,fun _=>b _ _⟩
 ·have n:=Qcm h.c h.l (addW (s.r.getD a.toNat 0) (off i)) 1;refine Qg P (fun _=>⟨QgK h (by unfold WW; omega) (b _ _),c,fun _=>c⟩) fun f=>Qg P (fun _=>?_) fun q=>⟨h,?_,fun _=>b _ _⟩
  ·have:=Qvz (ru:=s.ru) h.c h.i h.d ((Qv s.cs l s.m (addW (s.r.getD a.toNat 0) (off i)) 1).1-1000);exact ⟨⟨h.r,h.pc,h.c,this.2,h.o,h.d,h.l⟩,this.1,fun _=>b _ _⟩
  ·have t:0≤(Qv s.cs l s.m (addW (s.r.getD a.toNat 0) (off i)) 1).1∧(Qv s.cs l s.m (addW (s.r.getD a.toNat 0) (off i)) 1).1< (s.m.length:Int):=by
    rcases n (by simpa using f) with h | h
    ·exact absurd h.1 q
    ·exact h
   exact h.l.words _ (QaH (by omega))
 ·refine Qg P (fun _=>⟨QgK h (by unfold WW; omega) (b _ _),c,fun _=>c⟩) fun f=>Qg P (fun _=>?_) fun q=>?_
  ·exact ⟨⟨h.r,h.pc,QxH h.c _ _,h.i,QxI h.o _ _,h.d,h.l⟩,c,fun _=>b _ _⟩
  ·refine ⟨⟨h.r,h.pc,h.c,h.i,h.o,h.d,⟨h.l.len,fun p o=>?_,fun w g=>?_,?_⟩⟩,c,fun _=>b _ _⟩
   ·have:=h.l.pgs p o;dsimp only;rw [List.length_set];exact this
   ·rcases List.mem_or_eq_of_mem_set g with g | rfl
    ·exact h.l.words w g
    ·exact r
   ·dsimp only;rw [List.length_set];exact h.l.mlen
theorem OkR.set {r:List Int} (h:OkR r) {k:Nat} {w:Int} (hk:0< k) (hw:WW w):OkR (r.set k w):=
 ⟨by rw [List.length_set]; exact h.len,fun z a=>by
  rcases List.mem_or_eq_of_mem_set a with a | rfl
  ·exact h.words z a
  ·exact hw,by rw [getD_set_ne (by omega)]; exact h.zero⟩
theorem QuB (h:OkS s l) {op d a i:Int} (hi:OkI op d a i):OkS (doM s l op d a i).2 l:=by
 have b:=Qxn h hi;unfold doM;dsimp only;refine Qg (fun x:Bool×Mc=>OkS x.2 l) (fun c=>?_) fun _=>b.1
 refine ⟨?_,b.2.2 c,b.1.c,b.1.i,b.1.o,b.1.d,b.1.l⟩;refine Qg OkR (fun e=>b.1.r.set (by omega) b.2.1) fun _=>b.1.r
theorem Qvf (h:OkS s l):OkS (QfS s) l:=by
 have:=h.d;refine ⟨h.r,h.pc,h.c,h.i,h.o,?_,h.l⟩;unfold QfS;dsimp only;split <;> omega
theorem Qsl (h:OkS s l):OkS (runM s l) l:=by
 unfold runM;have b:=Qcm h.c h.l s.pc 4;refine Qg (fun x=>OkS x l) (fun _=>QgK h (by unfold WW; omega) h.pc) fun c=>?_
 have e:0≤(Qv s.cs l s.m s.pc 4).1∧(Qv s.cs l s.m s.pc 4).1< (s.m.length:Int):=by
  rcases b (by simpa using c) with h | h
  ·exact absurd rfl h.2.2
  ·exact h
 have d:WW (s.m.getD (Qv s.cs l s.m s.pc 4).1.toNat 0):=h.l.words _ (QaH (by omega))
 refine Qg (fun x=>OkS x l) (fun a=>?_) fun _=>QgK h (by unfold WW; omega) d
 exact Qg (fun x=>OkS x l) (fun _=>Qvf (QuB h (QjG a))) fun _=>QuB h (QjG a)
theorem Qim (h:OkS s l):OkS (Qac s l) l:=by
 have a:OkS { s with ring:= -1,fall:= -1 } l:=⟨h.r,h.pc,h.c,h.i,h.o,h.d,h.l⟩
 have b:OkS { s with ring:= -1,fall:= -1,wa:=false } l:=⟨h.r,h.pc,h.c,h.i,h.o,h.d,h.l⟩
 have c:=QnF s.cs s.ru s.dn s.iq;unfold Qac;refine Qg (fun x=>OkS x l) (fun _=>a) fun _=>Qg (fun x=>OkS x l) (fun d=>QgK a ?_ (by unfold WW; omega)) fun _=>Qg (fun x=>OkS x l) (fun _=>Qg (fun x=>OkS x l) (fun _=>a) fun _=>Qsl b) fun _=>Qsl a
 unfold WW;dsimp only at*;omega
end
theorem QkR {α β:Type} {f:Nat→α→Option β}: ∀{m:List α} {i:Nat},scan f i m=none→ ∀x∈m, ∃j,f j x=none
 | [],_,_,_,hx=>by cases hx
 | y::r,i,h,x,hx=>by
  simp only [scan] at h;split at h
  ·cases h
  ·rename_i hn;rcases List.mem_cons.1 hx with rfl | hx
   ·exact ⟨_,hn⟩
   ·exact QkR h x hx
theorem Qht {l:List TwoD} {top:Int} (ht:1≤top∧top≤24) (h:QaG l top=0):l.length=8∧ ∀p∈l,(-1≤p.1∧p.1≤top-1)∧(0≤p.2.1∧p.2.1≤7):=by
 unfold QaG at h;rw [if_pos (by unfold inB; simp [ht.1,ht.2])] at h
 split at h
 ·rename_i m;refine ⟨m,fun p o=>?_⟩
  have d:scan (fun (_:Nat) p=>Qfs top p) 0 l=none:=by
   split at h
   ·rename_i c k;exfalso
    have: ∀{l:List TwoD} {i:Nat} {c:Int},scan (fun (_:Nat) p=>Qfs top p) i l=some c→c≠0:=by
     intro l
     induction l with
     | nil=>intro i c h; simp [scan] at h
     | cons y r q=>
      intro i c h;simp only [scan] at h;split at h
      ·rename_i s a;obtain rfl:=Osj h;unfold Qfs nz at a;intro e;subst e
       repeat' split at a
       all_goals first | (cases a; done) | simp_all
      ·exact q h
    exact this k h
   ·rename_i n; exact n
  obtain ⟨j,b⟩:=QkR d p o;unfold Qfs inB at b;split at b
  ·rename_i f;split at b
   ·rename_i g;simp only [Bool.and_eq_true,decide_eq_true_eq] at f g;omega
   ·cases b
  ·cases b
 ·omega
def Mc.of (h:QM) (m:List Int):Mc:=⟨h.1,h.2.1,h.2.2.1,h.2.2.2.1,h.2.2.2.2.1,h.2.2.2.2.2.1,h.2.2.2.2.2.2.1,h.2.2.2.2.2.2.2.1,h.2.2.2.2.2.2.2.2.1,m, -1, -1⟩
theorem QwW {h:QM} {l:List TwoD} {m:List Int} (h1:hartM h=0) (hL:OkL l m):OkS (Mc.of h m) l:=by
 unfold hartM at h1;split at h1
 ·rename_i c;split at h1
  ·rename_i a;split at h1
   ·rename_i d;split at h1
    ·rename_i e;split at h1
     ·rename_i b;simp only [inB,Bool.and_eq_true,decide_eq_true_eq] at e;exact ⟨⟨c.1,Qau.1 a.1,c.2.2⟩,Qgz.1 a.2.1,⟨c.2.1,Qau.1 a.2.2.1,b.1,b.2.1,b.2.2.1,b.2.2.2.1,b.2.2.2.2⟩,⟨d.1,Qau.1 a.2.2.2.1⟩,⟨d.2,Qau.1 a.2.2.2.2⟩,e,hL⟩
     ·omega
    ·omega
   ·omega
  ·omega
 ·omega
theorem QkX (h:QM) (hh:Qbz 1048576 h):F_al (h,())=some ((h,()),()):=by
 obtain ⟨a,b,c,d⟩:=hh;unfold F_al;dsimp only;rw [if_pos (by simp; omega),if_pos (by simp; omega),if_pos (by simp; omega),if_pos (by simp; omega)]
 rfl
theorem Qtq (h:QM) (hh:Qbz 1048576 h):F_dn (h,())=some ((h,()),()):=by
 obtain ⟨a,b,c,d⟩:=hh;unfold F_dn;dsimp only;rw [QcW a,Obn,QcW b,Obn,QcW c,Obn,QcW d,Obn]
theorem QmV (h:QM) (l:List TwoD) (m:List Int) (hh:Qbz 1048576 h) (hm:m.length≤1048576):F_am (h,l,m,())=some (((Mc.of h m).bus l,()),()):=by
 unfold F_am F_ak;dsimp only;rw [if_pos (by simp; omega),Obn,QkX h hh,Obn]
 rfl
def QcB (l:List TwoD):Nat→Int→Int→Mc→Int×Int×Mc
 | 0,c,g,s=>(c,g,s)
 | k+1,c,g,s=>QcB l k (if 0≤(Qac s l).fall then (Qac s l).fall else c) (if 0≤(Qac s l).ring then (Qac s l).ring else g) (Qac s l)
abbrev QwQ:=Int×Int×Int×List Int×Int×List Int×Bool×Bool×Bool×Int×List Int×List Int×List Int×Unit
def Qqj (c:Int):QwQ:=(c,0,0,[],0,[],false,false,false,0,[],[],[],())
def Mc.res (s:Mc) (c g:Int):QwQ:=(0,c,g,s.r,s.pc,s.cs,s.ha,s.wa,s.ru,s.dn,s.iq,s.oq,s.m,())
theorem Qlz (l:List TwoD) (n:Int) (h0:0≤n∧n≤500) (s0:Mc) (h:OkS s0 l): ∀(i:Nat) (x:Int×Int×Mc),i≤n.toNat→OkS x.2.2 l→
  Qb l_gh_4 lots (((),(),x.1,x.2.1,n,((i:Nat):Int),()),(Qqj 0,x.2.2.core l,()),())=
   some (.inl (((),(),(QcB l (n.toNat-i) x.1 x.2.1 x.2.2).1,(QcB l (n.toNat-i) x.1 x.2.1 x.2.2).2.1,()),(Qqj 0,(QcB l (n.toNat-i) x.1 x.2.1 x.2.2).2.2.core l,()),())):=by
 have f:=Qdj (step:=l_gh_4) (γ:=denO o_gh_4) (fun i (x:Int×Int×Mc)=>(((),(),x.1,x.2.1,n,((i:Nat):Int),()),(Qqj 0,x.2.2.core l,()),())) n.toNat (Qao (by omega)) (fun _ x=>OkS x.2.2 l)
  (fun i x=>some (.inl (((),(),(QcB l (n.toNat-i) x.1 x.2.1 x.2.2).1,(QcB l (n.toNat-i) x.1 x.2.1 x.2.2).2.1,()),(Qqj 0,(QcB l (n.toNat-i) x.1 x.2.1 x.2.2).2.2.core l,()),()))) ?_
 ·exact f
 ·rintro rec i ⟨c,g,s⟩ hi hok ih;unfold l_gh_4;dsimp only at*;by_cases d:i< n.toNat
  ·rw [if_pos (QB.2 (by omega)),QqF hok,Obn]
   have j:n.toNat-i=n.toNat-(i+1)+1:=by omega
   have e:=ih (if 0≤(Qac s l).fall then (Qac s l).fall else c,if 0≤(Qac s l).ring then (Qac s l).ring else g,Qac s l) d (Qim hok)
   dsimp only;rw [QH (by omega),j]
   simp only [QcB];rw [←e];unfold Mc.core;dsimp only;by_cases b:0≤(Qac s l).fall
   ·rw [if_pos (QaB.2 b),if_pos b];by_cases a:0≤(Qac s l).ring
    ·rw [if_pos (QaB.2 a),if_pos a]
    ·rw [if_neg (by rw [QaB]; exact a),if_neg a]
   ·rw [if_neg (by rw [QaB]; exact b),if_neg b]
    by_cases a:0≤(Qac s l).ring
    ·rw [if_pos (QaB.2 a),if_pos a]
    ·rw [if_neg (by rw [QaB]; exact a),if_neg a]
  ·have:i=n.toNat:=by omega
   subst this;rw [if_neg (by rw [QB]; omega),Nat.sub_self]
   rfl
theorem QqM (l:List TwoD) (a b:Int) (s:Mc): ∀(k:Nat) (c g:Int),(QcB l k c g { s with ring:=a,fall:=b }).1=(QcB l k c g s).1∧(QcB l k c g { s with ring:=a,fall:=b }).2.1=(QcB l k c g s).2.1∧
  ∀x y,(QcB l k c g { s with ring:=a,fall:=b }).2.2.res x y=(QcB l k c g s).2.2.res x y
 | 0,_,_=>⟨rfl,rfl,fun _ _=>rfl⟩
 | k+1,_,_=>⟨rfl,rfl,fun _ _=>rfl⟩
theorem QgT (h:QM) (l:List TwoD) (m:List Int) (n:Int) (hh:Qbz 1048576 h) (hm:m.length≤1048576) (ho:OkS (Mc.of h m) l) (hn:0≤n∧n≤500):F_gh (h,l,m,n,())=
  some (((QcB l n.toNat (-1) (-1) (Mc.of h m)).2.2.res (QcB l n.toNat (-1) (-1) (Mc.of h m)).1 (QcB l n.toNat (-1) (-1) (Mc.of h m)).2.1,()),()):=by
 have a:OkS { Mc.of h m with ring:=0,fall:=0 } l:=⟨ho.r,ho.pc,ho.c,ho.i,ho.o,ho.d,ho.l⟩
 have b:=Qlz l n hn _ a 0 (-1, -1,{ Mc.of h m with ring:=0,fall:=0 }) (by omega) a
 obtain ⟨c,d,e⟩:=QqM l 0 0 (Mc.of h m) n.toNat (-1) (-1);unfold F_gh;dsimp only;rw [Qtq h hh,Obn,QcW hm,Obn];show (Qb l_gh_4 lots (((),(),(-1),(-1),n,(((0:Nat):Nat):Int),()),(Qqj 0,Mc.core { Mc.of h m with ring:=0,fall:=0 } l,()),())).bind _=_
 rw [b, ←c, ←d, ←e];rfl
section
variable {l:List TwoD} {s:Mc}
def FR (s:Mc):Prop:=(s.fall= -1∨0≤s.fall)∧(s.ring= -1∨0≤s.ring)
theorem FR.trap (h:FR s) {cause tval:Int} (hc:0≤cause):FR (s.trap cause tval):=⟨.inr hc,h.2⟩
theorem QvB (k w:Int):Qjr k w= -1∨0≤Qjr k w:=by
 unfold Qjr; split
 ·exact .inr (Qaj w).1
 ·exact .inl rfl
theorem Qxm (h:FR s) (op d a i:Int):FR (exM s l op d a i).2.2.2:=by
 unfold exM
 let P:Bool×Int×Int×Mc→Prop:=fun x=>FR x.2.2.2
 refine Qg P (fun _=>h) fun _=>Qg P (fun _=>h) fun _=>Qg P (fun _=>Qg P (fun _=>h.trap (by omega)) fun _=>Qg P (fun _=>h) fun _=>h) fun _=>
  Qg P (fun _=>Qg P (fun _=>h.trap (by omega)) fun _=>Qg P (fun _=>⟨h.1,QvB _ _⟩) fun _=>h) fun _=>Qg P (fun _=>h) fun _=>Qg P (fun _=>h) fun _=>Qg P (fun _=>h) fun _=>
  Qg P (fun _=>h) fun _=>Qg P (fun _=>h) fun _=>Qg P (fun _=>h.trap (by omega)) fun _=>Qg P (fun _=>h) fun _=>Qg P (fun _=>h) fun _=>Qg P (fun _=>h) fun _=>h
theorem Quz (h:FR s) (op d a i:Int):FR (doM s l op d a i).2:=by
 have b:=Qxm (l:=l) h op d a i;unfold doM;dsimp only;exact Qg (fun x:Bool×Mc=>FR x.2) (fun _=>b) fun _=>b
theorem Qsk (h:FR s):FR (runM s l):=by
 unfold runM;refine Qg FR (fun _=>h.trap (by omega)) fun _=>Qg FR (fun _=>?_) fun _=>h.trap (by omega)
 exact Qg FR (fun _=>Quz (l:=l) h _ _ _ _) fun _=>Quz h _ _ _ _
theorem QpT (s:Mc) (l:List TwoD):FR (Qac s l):=by
 have a:FR { s with ring:= -1,fall:= -1 }:=⟨.inl rfl,.inl rfl⟩
 have b:FR { s with ring:= -1,fall:= -1,wa:=false }:=⟨.inl rfl,.inl rfl⟩
 unfold Qac;refine Qg FR (fun _=>a) fun _=>Qg FR (fun c=>a.trap (Int.add_nonneg (by decide) c)) fun _=>Qg FR (fun _=>Qg FR (fun _=>a) fun _=>Qsk b) fun _=>Qsk a
end
def itM (l:List TwoD):Nat→Mc→Mc
 | 0,s=>s
 | k+1,s=>itM l k (Qac s l)
theorem QrY (l:List TwoD): ∀(k:Nat) (c g:Int) (s:Mc),(QcB l k c g s).2.2=itM l k s
 | 0,_,_,_=>rfl
 | k+1,_,_,_=>QrY l k _ _ _
abbrev Qoo:=Int×List Int×Int×List Int×Bool×Bool×Bool×Int×List Int×List Int×List TwoD×List Int×Unit
def Qnq (c:Int):Qoo:=(c,[],0,[],false,false,false,0,[],[],[],[],())
def Qxb (s:Mc) (l:List TwoD):Qoo:=(0,s.r,s.pc,s.cs,s.ha,s.wa,s.ru,s.dn,s.iq,s.oq,l,s.m,())
def QkN (x:QQ) (n:Int):Qoo:=
 if QX x≠0 then Qnq (QX x) else if 0≤n∧n≤500 then Qxb (itM x.2.1 n.toNat (Mc.of x.1 x.2.2.1)) x.2.1 else Qnq 3
theorem QkE {x:QQ} (h:QX x=0):OkS (Mc.of x.1 x.2.2.1) x.2.1:=by
 obtain ⟨c,d,a,e⟩:=QbQ h;obtain ⟨f,i⟩:=Qht (by decide) d
 refine QwW c ⟨f,fun p b=>?_,?_,by omega⟩
 ·have:=i p b;refine ⟨by omega,this.2,?_⟩
  rw [e]; omega
 ·have g:=QgV a;unfold QF at a;rw [if_pos g] at a;split at a
  ·exact Qau.1 ‹_›
  ·omega
theorem Qgi (x:QQ) (h:Qge 1048576 x):F_gr (x,())=some (((x.1.1,x.1.2.1,x.1.2.2.1,x.1.2.2.2.1,x.1.2.2.2.2.1,x.1.2.2.2.2.2.1,x.1.2.2.2.2.2.2.1,x.1.2.2.2.2.2.2.2.1,x.1.2.2.2.2.2.2.2.2.1,x.2.1,x.2.2.1,()),()),()):=by
 obtain ⟨a,b,c⟩:=h;unfold F_gr F_ak;dsimp only;rw [QkX _ a,Obn,if_pos (by simp; omega),if_pos (by simp; omega),Obn]
 rfl
theorem QlK (l:List TwoD) (n:Int) (h0:0≤n∧n≤500) (z:Qoo) (q:List Int×Int×List Int×Bool×Bool×Bool×Int×List Int×List Int×List TwoD×List Int×Unit): ∀(i:Nat) (s:Mc),i≤n.toNat→OkS s l→
  Qb l_ha_9 lots ((n,(),(),(),((i:Nat):Int),()),(z,q,s.bus l,()),())=some (.inl (((),(),(),()),(z,q,(itM l (n.toNat-i) s).bus l,()),())):=by
 have d:=Qdj (step:=l_ha_9) (γ:=denO o_ha_9) (fun i (s:Mc)=>((n,(),(),(),((i:Nat):Int),()),(z,q,s.bus l,()),())) n.toNat (Qao (by omega)) (fun _ s=>OkS s l)
  (fun i s=>some (.inl (((),(),(),()),(z,q,(itM l (n.toNat-i) s).bus l,()),()))) ?_
 ·exact d
 ·intro rec i s g a f;unfold l_ha_9;dsimp only;by_cases b:i< n.toNat
  ·rw [if_pos (QB.2 (by omega)),Qla a,Obn]
   have e:n.toNat-i=n.toNat-(i+1)+1:=by omega
   have c:=f (Qac s l) b (Qim a);dsimp only;rw [QH (by omega),e]
   simp only [itM];rw [←c]
  ·have:i=n.toNat:=by omega
   subst this;rw [if_neg (by rw [QB]; omega),Nat.sub_self]
   rfl
theorem QlI (x:QQ) (n:Int) (h:Qge 1048576 x):F_ha (x,n,())=some ((QkN x n,()),()):=by
 unfold F_ha QkN;dsimp only;rw [Qgj x h,Obn,QbX,Obn];dsimp only;by_cases a:QX x=0
 ·rw [if_neg (by simpa using a),if_neg (c:=QX x≠0) (by simpa using a)]
  by_cases b:0≤n∧n≤500
  ·rw [if_neg (by simp [b.1,b.2]),if_pos b,Qgi x h,Obn,QmV x.1 x.2.1 x.2.2.1 h.1 h.2.2,Obn]
   have d:=QlK x.2.1 n b (Qnq 0) (x.1.1,x.1.2.1,x.1.2.2.1,x.1.2.2.2.1,x.1.2.2.2.2.1,x.1.2.2.2.2.2.1,x.1.2.2.2.2.2.2.1,x.1.2.2.2.2.2.2.2.1,x.1.2.2.2.2.2.2.2.2.1,x.2.1,x.2.2.1,()) 0 (Mc.of x.1 x.2.2.1) (by omega) (QkE a)
   show (Qb l_ha_9 lots ((n,(),(),(),(((0:Nat):Nat):Int),()),(Qnq 0,(x.1.1,x.1.2.1,x.1.2.2.1,x.1.2.2.2.1,x.1.2.2.2.2.1,x.1.2.2.2.2.2.1,x.1.2.2.2.2.2.2.1,x.1.2.2.2.2.2.2.2.1,x.1.2.2.2.2.2.2.2.2.1,x.2.1,x.2.2.1,()),(Mc.of x.1 x.2.2.1).bus x.2.1,()),())).bind _=_;rw [d];rfl
  ·rw [if_pos (by simp; omega),if_neg b]
   rfl
 ·rw [if_pos (by simpa using a),if_pos (c:=QX x≠0) a]
  rfl
abbrev SrcD:=List Int×Int×Unit
def Sr (s:SrcD) (k:Int):Prop:=Byt s.1∧0≤s.2.1∧s.2.1≤k
theorem Sr.le {s:SrcD} {k k':Int} (h:Sr s k) (hk:k≤k'):Sr s k':=⟨h.1,h.2.1,Int.le_trans h.2.2 hk⟩
theorem Sr.pos {s:SrcD} {k:Int} (h:Sr s k):0≤k:=Int.le_trans h.2.1 h.2.2
def Dr {X:Type} (o:Option X) (P:X→Prop):Prop:= ∃v,o=some v∧P v
theorem Dr.bind {X Y:Type} {o:Option X} {f:X→Option Y} {Q:X→Prop} {P:Y→Prop} (h:Dr o Q) (g: ∀v,Q v→Dr (f v) P):Dr (o.bind f) P:=by
 obtain ⟨v,rfl,a⟩:=h;exact g v a
theorem Dr.ret {X:Type} {v:X} {P:X→Prop} (h:P v):Dr (some v) P:=⟨v,rfl,h⟩
theorem Dr.ite {X:Type} {c:Prop} [Decidable c] {a b:Option X} {P:X→Prop} (ha:c→Dr a P) (hb: ¬c→Dr b P):Dr (if c then a else b) P:=by
 split
 ·exact ha ‹_›
 ·exact hb ‹_›
theorem Dr.guard {X:Type} {c:Prop} [Decidable c] {a:Option X} {P:X→Prop} (hc:c) (ha:Dr a P):Dr (if c then a else none) P:=by rw [if_pos hc]; exact ha
theorem Dr.nguard {X:Type} {c:Prop} [Decidable c] {a:Option X} {P:X→Prop} (hc: ¬c) (ha:Dr a P):Dr (if c then none else a) P:=by rw [if_neg hc]; exact ha
theorem Dr.get {X Y:Type} {xs:List X} {i:Nat} {f:X→Option Y} {P:Y→Prop} (hi:i< xs.length) (h: ∀y,y∈xs→xs[i]?=some y→Dr (f y) P):Dr ((xs[i]?).bind f) P:=by
 rw [List.getElem?_eq_getElem hi,Obn];exact h _ (List.getElem_mem hi) (List.getElem?_eq_getElem hi)
theorem Dr.gat {X Y:Type} {xs:List X} {i:Int} {n:Nat} {f:X→Option Y} {P:Y→Prop} (hn:xs.length=n) (h:0≤i∧i< (n:Int)) (k: ∀y,y∈xs→Dr (f y) P):Dr (if 0≤i∧i< ((xs.length:Nat):Int) then (xs[i.toNat]?).bind f else none) P:=by
 subst hn;exact Dr.guard h (Dr.get (by omega) fun y a _=>k y a)
theorem Dr.of {X:Type} {o:Option X} {v:X} {P:X→Prop} (h:o=some v) (hv:P v):Dr o P:=⟨v,h,hv⟩
theorem Qab {X Y:Type} {step:(X→Option Y)→X→Option Y} {Q:Y→Prop} (I:Nat→X→Prop) (h: ∀rec m x,I m x→(∀m' x',m'< m→I m' x'→Dr (rec x') Q)→Dr (step rec x) Q) (m:Nat) (x:X) (hI:I m x) (hm:m< lots):Dr (Qb step lots x) Q:=by
 have b: ∀n m x,m< n→I m x→Dr (Qb step n x) Q:=by
  intro n
  induction n with
  | zero=>intro m x h; omega
  | succ n c=>intro m x hm hI; exact h _ m x hI fun m' x' d a=>c m' x' (by omega) a
 exact b lots m x hm hI
def Bd (n x:Int):Prop:=0≤x∧(x< n∨x=0)
theorem Bd.to3 {x:Int} (h:Bd 3 x):x.toNat≤2∧0≤x∧x≤2:=by unfold Bd at h; omega
theorem Bd.e {n x:Int} (h:Bd n x):0≤x∧(x< n∨x=0):=h
def Bt (a b x:Int):Prop:=a≤x∧x≤b
theorem Bt.e {a b x:Int} (h:Bt a b x):a≤x∧x≤b:=h
theorem QY {s:SrcD} {k:Int} (h:Sr s k) (hk:k≤1099511627776) (n:Int):Dr (F_c (s,n,())) fun r=>Sr r.2.1 (k+1)∧Bd n r.1.1:=
 .of (Qsa (s,n,()) h.1 ⟨h.2.1,Int.le_trans h.2.2 hk⟩) ⟨⟨h.1,by have:=h.2.1; dsimp only; omega,by have:=h.2.2; dsimp only; omega⟩,Qxv (s,n,()) h.1 ⟨h.2.1,Int.le_trans h.2.2 hk⟩⟩
theorem QbS {s:SrcD} {k:Int} (h:Sr s k) (hk:k≤1099511627776) (x:Int) (l:List Int):Dr (F_d (s,x::l,())) fun r=>Sr r.2.1 (k+1)∧(r.1.1:Int)∈x::l:=
 .of (Qsg (s,x::l,()) rfl h.1 ⟨h.2.1,Int.le_trans h.2.2 hk⟩) ⟨⟨h.1,by have:=h.2.1; dsimp only; omega,by have:=h.2.2; dsimp only; omega⟩,QxB (s,x::l,()) rfl h.1 ⟨h.2.1,Int.le_trans h.2.2 hk⟩⟩
theorem QdI {s:SrcD} {k:Int} (h:Sr s k) (hk:k≤1099511627776) (n:Int):Dr (F_s (s,n,())) fun r=>Sr r.2.1 (k+1):=
 .of (Qmb (s,n,()) h.1 ⟨h.2.1,Int.le_trans h.2.2 hk⟩) ⟨h.1,by have:=h.2.1; dsimp only; omega,by have:=h.2.2; dsimp only; omega⟩
theorem Qoj {s:SrcD} {k:Int} (h:Sr s k) (hk:k≤1073741824):Dr (F_t (s,())) fun r=>Sr r.2.1 (k+5)∧Bt 0 4294967295 r.1.1:=
 .of (QsF (s,()) h.1 ⟨h.2.1,Int.le_trans h.2.2 hk⟩) ⟨⟨h.1,by have:=h.2.1; dsimp only; omega,by have:=h.2.2; dsimp only; omega⟩,QxG (s,()) h.1 ⟨h.2.1,Int.le_trans h.2.2 hk⟩⟩
theorem Qwj {s:SrcD} {k:Int} (h:Sr s k) (hk:k≤10000000) (n:Int) (h0:0≤n) (hn:n≤1000):Dr (F_u (s,n,())) fun r=>Sr r.2.1 (k+26*n)∧(r.1.1.length:Int)=n:=by
 obtain ⟨c,a,_⟩:=s;obtain ⟨d,b,g⟩:=h;dsimp only at b g;obtain ⟨m,j,e,f,l,i⟩:=QuN d n a ⟨b,by omega⟩ hn
 rw [if_neg (by omega)] at f i
 exact .of e ⟨⟨d,by dsimp only; omega,by dsimp only; omega⟩,f⟩
theorem QvE {c:List Int} (h:Byt c):Dr (F_b (c,())) fun r=>Sr r.1.1 0:= .of rfl ⟨h,Int.le_refl _,Int.le_refl _⟩
structure HL (h:QM):Prop where
 r:h.1.length=16
 c:h.2.2.1.length=11
 i:h.2.2.2.2.2.2.2.1.length≤2
 o:h.2.2.2.2.2.2.2.2.1.length≤40
theorem QxS {h:QM} (hh:HL h) {k:Int} (hk:0≤k∧k≤10) (w:Int):Dr (F_bc (h,k,w,())) fun r=>HL r.2.1:=by
 obtain ⟨c,d,e,f⟩:=hh;have a:0≤k∧k< ((h.2.2.1.length:Nat):Int):=by omega
 have g: ∀x,0≤k∧k< (((h.2.2.1.set k.toNat x).length:Nat):Int):=fun x=>by rw [List.length_set]; exact a
 have b:k.toNat< h.2.2.1.length:=by omega
 have i: ∀x,k.toNat< (h.2.2.1.set k.toNat x).length:=fun x=>by rw [List.length_set]; exact b
 have l: ∀x y,((h.2.2.1.set k.toNat x).set k.toNat y).length=11:=fun x y=>by simp [d]
 have j: ∀x,(h.2.2.1.set k.toNat x).length=11:=fun x=>by simp [d]
 unfold F_bc;refine Dr.bind (Q:=fun _=>True) (.of (QdZ _) trivial) fun m _=>?_
 repeat' (first
  | exact Dr.ret ⟨c,d,e,f⟩
  | exact Dr.ret ⟨c,j _,e,f⟩
  | exact Dr.ret ⟨c,l _ _,e,f⟩
  | refine Dr.guard a ?_
  | refine Dr.guard (g _) ?_
  | refine Dr.get b fun _ _ _=>?_
  | refine Dr.get (i _) fun _ _ _=>?_
  | refine Dr.ite (fun _=>?_) fun _=>?_)
theorem Qtz {l:List Int} (hl:l.length≤2) (hw:allW l=true):Dr (F_af (l,())) fun r=>HL r.1.1.2∧r.1.1.2.2.2.2.2.2.2.2.1=l:=by
 unfold F_af;refine Dr.ite (fun c=>?_) fun c=>?_
 ·rw [QB] at c; dsimp only at c; omega
 refine Dr.bind (Q:=fun r=>r.1.1=allW l) (.of (QbV l (by omega)) rfl) fun r a=>?_
 rw [if_neg (by rw [a,hw]; simp)]
 refine Dr.guard (by simp; omega) (Dr.ret ⟨⟨by simp,by simp,by simpa using hl,by simp⟩,by simp⟩)
theorem Qtt {h:QM} {s:SrcD} {k:Int} (z:QM) (hh:HL h) (hs:Sr s k) (hk:k≤1000000000):Dr (L_bx_3 (((),((),((),((1:Int),())))),((z,(h,(s,()))),()))) fun o=> ∃x,o= .inl x∧HL x.2.1.2.1∧Sr x.2.1.2.2.1 (k+150):=by
 refine Qab (fun m u=>(m:Int)=16-(u.1.2.2.2.1:Int)∧1≤(u.1.2.2.2.1:Int)∧HL u.2.1.2.1∧Sr u.2.1.2.2.1 (k+10*((u.1.2.2.2.1:Int)-1))) ?_ 15 _ ⟨by dsimp only; omega,by dsimp only; omega,hh,hs.le (by dsimp only; omega)⟩ (by rw [QE]; omega)
 intro rec m u ⟨hm,h1,hh,hs⟩ i;unfold l_bx_3;have j:=hs.pos;refine Dr.ite (fun c=>?_) fun c=>?_
 ·rw [QB] at c;have e:IntKind.i64.wrap ((u.1.2.2.2.1:Int)+1)=(u.1.2.2.2.1:Int)+1:=Qj (by omega) (by omega)
  refine (QdI hs (by omega) _).bind fun r g=>Dr.ite (fun _=>?_) fun _=>?_
  ·refine (Qoj g (by omega)).bind fun l a=>(QY a.1 (by omega) _).bind fun n b=>(QY b.1 (by omega) _).bind fun p d=>(QbS d.1 (by omega) _ _).bind fun q f=>?_
   refine Dr.gat hh.r (by omega) fun _ _=>i (m-1) _ (by omega) ?_
   rw [e];exact ⟨by dsimp only; omega,by dsimp only; omega,⟨by simpa using hh.r,hh.c,hh.i,hh.o⟩,f.1.le (by dsimp only; omega)⟩
  ·refine i (m-1) _ (by omega) ?_
   rw [e];exact ⟨by dsimp only; omega,by dsimp only; omega,hh,g.le (by dsimp only; omega)⟩
 ·rw [QB] at c;exact Dr.ret ⟨_,rfl,hh,hs.le (by omega)⟩
theorem QqK {h:QM} {s:SrcD} {k:Int} (z:QM) (hh:HL h) (hs:Sr s k) (hk:k≤1000000000):Dr (L_bx_10 (((),((),((),((0:Int),())))),((z,(h,(s,()))),()))) fun o=> ∃x,o= .inl x∧HL x.2.1.2.1∧Sr x.2.1.2.2.1 (k+110):=by
 refine Qab (fun m u=>(m:Int)=11-(u.1.2.2.2.1:Int)∧0≤(u.1.2.2.2.1:Int)∧HL u.2.1.2.1∧Sr u.2.1.2.2.1 (k+10*(u.1.2.2.2.1:Int))) ?_ 11 _ ⟨by dsimp only; omega,by dsimp only; omega,hh,hs.le (by dsimp only; omega)⟩ (by rw [QE]; omega)
 intro rec m u ⟨hm,h1,hh,hs⟩ j;unfold l_bx_10;have l:=hs.pos;refine Dr.ite (fun c=>?_) fun c=>?_
 ·rw [QB] at c;have e:IntKind.i64.wrap ((u.1.2.2.2.1:Int)+1)=(u.1.2.2.2.1:Int)+1:=Qj (by omega) (by omega)
  refine (QdI hs (by omega) _).bind fun v i=>Dr.ite (fun _=>?_) fun _=>?_
  ·refine (QY i (by omega) _).bind fun p b=>(QY b.1 (by omega) _).bind fun q d=>(Qoj d.1 (by omega)).bind fun n a=>(QbS a.1 (by omega) _ _).bind fun r f=>?_
   refine (QxS hh ⟨h1,by omega⟩ _).bind fun t g=>j (m-1) _ (by omega) ?_
   rw [e];exact ⟨by dsimp only; omega,by dsimp only; omega,g,f.1.le (by dsimp only; omega)⟩
  ·refine j (m-1) _ (by omega) ?_
   rw [e];exact ⟨by dsimp only; omega,by dsimp only; omega,hh,i.le (by dsimp only; omega)⟩
 ·rw [QB] at c;exact Dr.ret ⟨_,rfl,hh,hs.le (by omega)⟩
theorem QuY {s:SrcD} {k:Int} (hs:Sr s k) (hk:k≤900000000):Dr (F_bx (s,())) fun r=>Sr r.2.1 (k+300)∧HL r.1.1:=by
 have y:=hs.pos;unfold F_bx;refine (QY hs (by omega) _).bind fun u e=>?_
 have c:=e.2.to3;refine Dr.guard ⟨by decide,c.2.1,c.2.2⟩ ?_
 have q:(([(7:Int),8].drop (0+((0:Int)).toNat)).take ((u.1.1).toNat-((0:Int)).toNat)).length≤2:=by rw [List.length_take]; have:=c.1; omega
 refine (Qtz (by omega) ?_).bind fun v p=>?_
 ·rw [Qau];intro w t;have:=List.mem_of_mem_drop (List.mem_of_mem_take t);simp at this;unfold WW;omega
 have f:HL v.1.1.2:=p.1;refine (Qtt _ f e.1 (by omega)).bind fun z d=>?_
 obtain ⟨x,rfl,a,b⟩:=d;dsimp only;refine (QY b (by omega) _).bind fun aa g=>(QY g.1 (by omega) _).bind fun ab i=>(Qoj i.1 (by omega)).bind fun ac j=>(QbS j.1 (by omega) _ _).bind fun n l=>(QY l.1 (by omega) _).bind fun o m=>?_
 refine (QqK _ (h:=(x.2.1.2.1.1,(n.1.1,(x.2.1.2.1.2.2.1,(x.2.1.2.1.2.2.2.1,(x.2.1.2.1.2.2.2.2.1,(x.2.1.2.1.2.2.2.2.2.1,(o.1.1,(x.2.1.2.1.2.2.2.2.2.2.2.1,(x.2.1.2.1.2.2.2.2.2.2.2.2.1,())))))))))) ⟨a.r,a.c,a.i,a.o⟩ m.1 (by omega)).bind fun z d=>?_
 obtain ⟨x,rfl,a,b⟩:=d;dsimp only;refine (QdI b (by omega) _).bind fun r h=>(QdI h (by omega) _).bind fun r h=>(QdI h (by omega) _).bind fun r h=>(QdI h (by omega) _).bind fun r h=>?_
 refine Dr.ite (fun _=>Dr.ret ⟨h.le (by omega),a.r,a.c,a.i,by simp⟩) fun _=>Dr.ret ⟨h.le (by omega),a.r,a.c,a.i,a.o⟩
structure HB (h:QM):Prop where
 r:h.1.length≤16
 c:h.2.2.1.length=11
 i:h.2.2.2.2.2.2.2.1.length≤41
 o:h.2.2.2.2.2.2.2.2.1.length≤40
theorem HL.b {h:QM} (hh:HL h):HB h:=⟨by rw [hh.r]; omega,hh.c,by have:=hh.i; omega,hh.o⟩
theorem HB.le {h:QM} (hh:HB h):Qbz 1048576 h:=⟨by have:=hh.r; omega,by rw [hh.c]; omega,by have:=hh.i; omega,by have:=hh.o; omega⟩
theorem QuX {s:SrcD} {k:Int} (hs:Sr s k) (hk:k≤900000000):Dr (F_by (s,())) fun r=>Sr r.2.1 (k+400)∧HB r.1.1:=by
 have j:=hs.pos;unfold F_by;refine (QuY hs hk).bind fun m c=>(QY c.1 (by omega) _).bind fun n a=>?_
 have f:=c.2.r;have b:=c.2.c;have l:=c.2.i;have d:=c.2.o;refine Dr.ite (fun _=>?_) fun _=>Dr.ite (fun _=>?_) fun _=>Dr.ite (fun _=>?_) fun _=>Dr.ite (fun _=>?_) fun _=>Dr.ite (fun _=>?_) fun _=>Dr.ite (fun _=>?_) fun _=>?_
 ·exact Dr.gat f (by omega) fun _ _=>Dr.ret ⟨a.1.le (by omega),⟨by simpa using Nat.le_of_eq f,b,by dsimp only; omega,d⟩⟩
 ·refine Dr.guard ⟨by decide,by rw [f]; decide,Int.le_refl _⟩ (Dr.ret ⟨a.1.le (by omega),⟨by simp; omega,b,by dsimp only; omega,d⟩⟩)
 ·refine (QY a.1 (by omega) _).bind fun o g=>(QbS g.1 (by omega) _ _).bind fun p h=>Dr.gat b (by have:=g.2.e; omega) fun _ _=>Dr.ret ⟨h.1.le (by omega),⟨by dsimp only; omega,by simpa using b,by dsimp only; omega,d⟩⟩
 ·exact (QbS a.1 (by omega) _ _).bind fun i e=>Dr.ret ⟨e.1.le (by omega),⟨by dsimp only; omega,b,by dsimp only; omega,d⟩⟩
 ·exact Dr.ret ⟨a.1.le (by omega),⟨by dsimp only; omega,b,by simp,d⟩⟩
 ·exact (QbS a.1 (by omega) _ _).bind fun i e=>Dr.ret ⟨e.1.le (by omega),⟨by dsimp only; omega,b,by dsimp only; omega,d⟩⟩
 ·exact Dr.ret ⟨a.1.le (by omega),c.2.b⟩
theorem Qvh (n:Int) (h:1≤n∧n≤24):Dr (F_bv (n,())) fun r=>((r.1.1.2.1:List Int).length:Int)=8*n:=by
 unfold F_bv;refine Dr.bind (Q:=fun r=>r.1.1=inB n 1 24) (.of (QaA n 1 24) rfl) fun r b=>?_
 have a: ¬(!r.1.1)=true:=by rw [b,QbA.2 h]; simp
 have e:IntKind.i64.wrap (n*8)=n*8:=Qj (by omega) (by omega)
 rw [if_neg a];dsimp only;rw [e];exact Dr.guard (by omega) (Dr.ret (by simp; omega))
theorem QqJ {s:SrcD} {k:Int} (hs:Sr s k) (hk:k≤900000000):Dr (F_bw (s,())) fun r=>Sr r.2.1 (k+2000)∧(r.1.1:List Int).length≤200:=by
 have n:=hs.pos;unfold F_bw;refine (QY hs (by omega) _).bind fun h i=>?_
 have hr:=i.2.e;have e:IntKind.i64.wrap (1+(h.1.1:Int))=1+(h.1.1:Int):=Qj (by omega) (by omega)
 dsimp only;rw [e];refine (Qvh _ (by omega)).bind fun v h3=>?_
 have g:8≤(v.1.1.2.1:List Int).length∧(v.1.1.2.1:List Int).length≤40:=by omega
 have t: ∀(b:List Int),8≤b.length∧b.length≤40→Dr (L_bw_3 (((),(b,((0:Int),()))),((h.2.1,()),()))) fun o=> ∃x,o= .inl x∧Sr x.2.1.1 (k+1+240)∧8≤(x.1.2.1:List Int).length∧(x.1.2.1:List Int).length≤40:=by
  intro b p;refine Qab (fun m u=>(m:Int)=((u.1.2.1:List Int).length:Int)-(u.1.2.2.1:Int)∧0≤(u.1.2.2.1:Int)∧(8≤(u.1.2.1:List Int).length∧(u.1.2.1:List Int).length≤40)∧Sr u.2.1.1 (k+1+6*(u.1.2.2.1:Int))) ?_ b.length _ ⟨by dsimp only; omega,by dsimp only; omega,p,i.1.le (by dsimp only; omega)⟩ (by rw [QE]; omega)
  intro rec m u ⟨hm,f,hl,hs⟩ q;unfold l_bw_3;have n:=hs.pos;refine Dr.ite (fun c=>?_) fun c=>?_
  ·rw [QB] at c;have e:IntKind.i64.wrap ((u.1.2.2.1:Int)+1)=(u.1.2.2.1:Int)+1:=Qj (by omega) (by omega)
   refine (QdI hs (by omega) _).bind fun r8 l=>Dr.ite (fun _=>?_) fun _=>?_
   ·refine (Qoj l (by omega)).bind fun r9 y=>Dr.gat rfl ⟨f,c⟩ fun _ _=>q (m-1) _ (by omega) ?_
    rw [e];exact ⟨by simp; omega,by dsimp only; omega,by simpa using hl,y.1.le (by dsimp only; omega)⟩
   ·refine q (m-1) _ (by omega) ?_
    rw [e];exact ⟨by dsimp only; omega,by dsimp only; omega,hl,l.le (by dsimp only; omega)⟩
  ·rw [QB] at c;exact Dr.ret ⟨_,rfl,hs.le (by omega),hl⟩
 refine (t _ g).bind fun z hz=>?_
 obtain ⟨x,rfl,f,w⟩:=hz;refine (QY f (by omega) _).bind fun ab a=>Dr.ite (fun _=>?_) fun _=>Dr.ite (fun _=>?_) fun _=>Dr.ite (fun _=>?_) fun _=>?_
 ·exact Dr.guard ⟨by decide,by omega,Int.le_refl _⟩ (Dr.ret ⟨a.1.le (by omega),by simp; omega⟩)
 ·exact (QY a.1 (by omega) _).bind fun ac d=>(QbS d.1 (by omega) _ _).bind fun ad j=>Dr.gat rfl (by have:=d.2.e; omega) fun _ _=>Dr.ret ⟨j.1.le (by omega),by simp; omega⟩
 ·exact Dr.ret ⟨a.1.le (by omega),by simp⟩
 ·exact Dr.ret ⟨a.1.le (by omega),by have:=w.2; dsimp only; omega⟩
theorem Dr.step {X Y:Type} {o:Option X} {v:X} {f:X→Option Y} {P:Y→Prop} (h:o=some v) (g:Dr (f v) P):Dr (o.bind f) P:=by rw [h]; exact g
theorem Dr.pos {X:Type} {c:Prop} [Decidable c] {a b:Option X} {P:X→Prop} (hc:c) (h:Dr a P):Dr (if c then a else b) P:=by rw [if_pos hc]; exact h
theorem Dr.neg {X:Type} {c:Prop} [Decidable c] {a b:Option X} {P:X→Prop} (hc: ¬c) (h:Dr b P):Dr (if c then a else b) P:=by rw [if_neg hc]; exact h
theorem Dr.eq {X:Type} {o:Option X} {v:X} (h:Dr o fun r=>r=v):o=some v:=by
 obtain ⟨_,e,rfl⟩:=h;exact e
abbrev Yes (o:Option ((Bool×Unit)×Unit)):Prop:=Dr o fun r=>r=((true,()),())
theorem yes {b:Bool} (h:b=true):Yes (some ((b,()),())):=by subst h; exact ⟨_,rfl,rfl⟩
def Mc.hart (s:Mc):QM:=(s.r,s.pc,s.cs,s.ha,s.wa,s.ru,s.dn,s.iq,s.oq,())
theorem QuD (s:Mc) (l:List TwoD) (op d a i:Int):(exM s l op d a i).2.2.2.m.length=s.m.length:=by
 unfold exM
 let P:Bool×Int×Int×Mc→Prop:=fun x=>x.2.2.2.m.length=s.m.length
 exact Qg P (fun _=>rfl) fun _=>Qg P (fun _=>rfl) fun _=>Qg P (fun _=>Qg P (fun _=>rfl) fun _=>Qg P (fun _=>rfl) fun _=>rfl) fun _=>
  Qg P (fun _=>Qg P (fun _=>rfl) fun _=>Qg P (fun _=>rfl) fun _=>List.length_set) fun _=>Qg P (fun _=>rfl) fun _=>Qg P (fun _=>rfl) fun _=>Qg P (fun _=>rfl) fun _=>
  Qg P (fun _=>rfl) fun _=>Qg P (fun _=>rfl) fun _=>Qg P (fun _=>rfl) fun _=>Qg P (fun _=>rfl) fun _=>Qg P (fun _=>rfl) fun _=>Qg P (fun _=>rfl) fun _=>rfl
theorem QoH (s:Mc) (l:List TwoD) (op d a i:Int):(doM s l op d a i).2.m.length=s.m.length:=by
 have:=QuD s l op d a i;unfold doM;dsimp only;split <;> exact this
theorem QmQ (s:Mc) (l:List TwoD):(runM s l).m.length=s.m.length:=by
 unfold runM;dsimp only;split
 ·rfl
 ·split
  ·split
   ·exact QoH s l _ _ _ _
   ·exact QoH s l _ _ _ _
  ·rfl
theorem Qle (s:Mc) (l:List TwoD):(Qac s l).m.length=s.m.length:=by
 unfold Qac;dsimp only;split
 ·rfl
 ·split
  ·rfl
  ·split
   ·split
    ·rfl
    ·exact QmQ { s with ring:= -1,fall:= -1,wa:=false } l
   ·exact QmQ { s with ring:= -1,fall:= -1 } l
theorem OkS.hartM {s:Mc} {l:List TwoD} (h:OkS s l):hartM s.hart=0:=by
 unfold Go.Proofs.YtkkljegcnnfanaaGreatDoor.hartM Mc.hart;dsimp only
 rw [if_pos ⟨h.r.len,h.c.len,h.r.zero⟩,if_pos ⟨Qau.2 h.r.words,Qgz.2 h.pc,Qau.2 h.c.words,Qau.2 h.i.words,Qau.2 h.o.words⟩,if_pos ⟨h.i.len,h.o.len⟩,
  if_pos (QbA.2 h.d),if_pos ⟨h.c.st,h.c.msk,h.c.tb,h.c.pd,h.c.tm⟩]
theorem Qxi {c:List Int} (h: ¬(1048576:Int)< ((c.length:Nat):Int)) (hb: ∀b∈c,0≤b∧b≤255):Byt c:=⟨hb,by omega⟩
theorem Bd.top {n x:Int} (h:Bd (n+1) x) (hn:0≤n):0≤x∧x≤n:=by unfold Bd at h; omega
section
variable {l:List TwoD} {s s':Mc}
def MemW (l:List TwoD) (m m':List Int):Prop:= ∀i:Nat,m'[i]?≠m[i]?→ ∃p∈l,p.1=((i / 8:Nat):Int)∧iand .i64 p.2.1 2≠0
theorem MemW.refl (l:List TwoD) (m:List Int):MemW l m m:=fun i h=>absurd rfl h
theorem Que {l:List TwoD} (hl:l.length=8) {at_ kind:Int} (h0:0≤Qai l at_ kind): ∃p∈l,p.1=Qai l at_ kind / 8∧iand .i64 p.2.1 kind≠0:=by
 unfold Qai at*;split at h0
 ·rename_i b;rw [if_pos b];split at h0
  ·rename_i a;rw [if_pos a];refine ⟨_,QaH (l:=l) (k:=(at_ / 8).toNat) (d:=(-1,0,())) (by rw [hl]; omega),by omega,?_⟩
   simp only [mayP,Bool.and_eq_true,decide_eq_true_eq] at a;simpa using a.2
  ·omega
 ·omega
theorem Qpr {cs:List Int} {m:List Int} {at_ kind:Int} (h0:(Qv cs l m at_ kind).2=0) (h1: ¬1000≤(Qv cs l m at_ kind).1): ∃g,(Qv cs l m at_ kind).1=Qai l g kind∧0≤Qai l g kind:=by
 unfold Qv at*;cases c:Qcg cs l m with
 | none=>rw [c] at h0; simp at h0
 | some s=>
  rw [c] at h0 h1;simp only at h0 h1⊢;split at h0
  ·exact absurd h0 (QdJ kind)
  ·rename_i d;rw [if_neg d] at h1⊢;split at h0
   ·rename_i a;rw [if_pos a] at h1⊢;split at h0
    ·simp at h0
    ·rename_i b;rw [if_neg b] at h1⊢;exfalso;simp only at h1;omega
   ·rename_i a;rw [if_neg a] at h1⊢;split at h0
    ·exact absurd h0 (QdJ kind)
    ·rename_i b;rw [if_neg b] at h1⊢;exact ⟨_,rfl,by omega⟩
theorem Qwf (hl:l.length=8) (s:Mc) (op d a i:Int):MemW l s.m (exM s l op d a i).2.2.2.m:=by
 unfold exM
 let P:Bool×Int×Int×Mc→Prop:=fun x=>MemW l s.m x.2.2.2.m
 have b:=MemW.refl l s.m
 refine Qg P (fun _=>b) fun _=>Qg P (fun _=>b) fun _=>Qg P (fun _=>Qg P (fun _=>b) fun _=>Qg P (fun _=>b) fun _=>b) fun _=>
  Qg P (fun _=>Qg P (fun _=>b) fun m=>Qg P (fun _=>b) fun j=>?_) fun _=>Qg P (fun _=>b) fun _=>Qg P (fun _=>b) fun _=>Qg P (fun _=>b) fun _=>
  Qg P (fun _=>b) fun _=>Qg P (fun _=>b) fun _=>Qg P (fun _=>b) fun _=>Qg P (fun _=>b) fun _=>Qg P (fun _=>b) fun _=>Qg P (fun _=>b) fun _=>b
 intro k e;obtain ⟨g,f,h⟩:=Qpr (by simpa using m) j
 obtain ⟨p,n,o,q⟩:=Que hl h;dsimp only at e;rw [f] at e;by_cases c:(Qai l g 2).toNat=k
 ·subst c;exact ⟨p,n,by rw [o]; omega,q⟩
 ·exact absurd (List.getElem?_set_ne c) e
theorem Qxl (s:Mc) (l:List TwoD) (op d a i:Int):(exM s l op d a i).2.2.2.dn=s.dn∧((exM s l op d a i).1=true→(exM s l op d a i).2.2.2.fall=s.fall):=by
 unfold exM
 let P:Bool×Int×Int×Mc→Prop:=fun x=>x.2.2.2.dn=s.dn∧(x.1=true→x.2.2.2.fall=s.fall)
 have b: ∀{x:Bool×Int×Int×Mc},x.2.2.2.dn=s.dn→x.2.2.2.fall=s.fall→P x:=fun f g=>⟨f,fun _=>g⟩
 have e: ∀{c t:Int},P (false,0,0,s.trap c t):=⟨rfl,fun h=>by cases h⟩
 exact Qg P (fun _=>b rfl rfl) fun _=>Qg P (fun _=>b rfl rfl) fun _=>Qg P (fun _=>Qg P (fun _=>e) fun _=>Qg P (fun _=>b rfl rfl) fun _=>b rfl rfl) fun _=>
  Qg P (fun _=>Qg P (fun _=>e) fun g=>Qg P (fun _=>b rfl rfl) fun f=>b rfl rfl) fun _=>Qg P (fun _=>b rfl rfl) fun _=>Qg P (fun _=>b rfl rfl) fun _=>Qg P (fun _=>b rfl rfl) fun _=>
  Qg P (fun _=>b rfl rfl) fun _=>Qg P (fun _=>b rfl rfl) fun _=>Qg P (fun _=>e) fun _=>Qg P (fun _=>b rfl rfl) fun _=>Qg P (fun _=>b rfl rfl) fun _=>Qg P (fun _=>b rfl rfl) fun _=>b rfl rfl
structure StepP (l:List TwoD) (s s':Mc):Prop where
 mem:MemW l s.m s'.m
 dn:s.dn≤s'.dn∧s'.dn≤s.dn+1
 fl:0≤s'.fall→s'.dn=s.dn
theorem QxM (hl:l.length=8) (s:Mc) (op d a i:Int):MemW l s.m (doM s l op d a i).2.m∧(doM s l op d a i).2.dn=s.dn∧((doM s l op d a i).1=true→(doM s l op d a i).2.fall=s.fall):=by
 have c:=Qwf hl s op d a i;have b:=Qxl s l op d a i;unfold doM;dsimp only;split
 ·rename_i h;exact ⟨c,b.1,fun _=>b.2 h⟩
 ·exact ⟨c,b.1,fun h=>by cases h⟩
theorem QxF (hl:l.length=8) (s:Mc) (hf:s.fall= -1) (hd:s.dn≤1000000000):StepP l s (runM s l):=by
 have d: ∀{c t:Int},StepP l s (s.trap c t):=⟨MemW.refl l s.m,⟨Int.le_refl _,by show s.dn≤s.dn+1; omega⟩,fun _=>rfl⟩
 unfold runM;refine Qg (StepP l s) (fun _=>d) fun _=>Qg (StepP l s) (fun _=>?_) fun _=>d
 generalize (decM (s.m.getD (Qv s.cs l s.m s.pc 4).1.toNat 0))=x;obtain ⟨a,b,e⟩:=QxM hl s x.1 x.2.1 x.2.2.1 x.2.2.2.1;refine Qg (StepP l s) (fun f=>?_) fun _=>⟨a,by omega,fun _=>b⟩
 refine ⟨a,?_,fun h=>?_⟩
 ·unfold QfS;dsimp only;rw [b];split <;> omega
 ·exfalso;have:(QfS (doM s l x.1 x.2.1 x.2.2.1 x.2.2.2.1).2).fall= -1:=by rw [←hf]; exact e f
  omega
theorem QwJ (hl:l.length=8) (s:Mc) (hd:s.dn≤1000000000):StepP l s (Qac s l)∧(s.ha=true→(Qac s l).pc=s.pc):=by
 have a:StepP l s { s with ring:= -1,fall:= -1 }:=⟨MemW.refl l s.m,⟨Int.le_refl _,by show s.dn≤s.dn+1; omega⟩,fun _=>rfl⟩
 have j: ∀{c t:Int},StepP l s (Mc.trap { s with ring:= -1,fall:= -1 } c t):=⟨MemW.refl l s.m,⟨Int.le_refl _,by show s.dn≤s.dn+1; omega⟩,fun _=>rfl⟩
 have d: ∀b,StepP l s (runM { s with ring:= -1,fall:= -1,wa:=b } l):=fun b=>by
  obtain ⟨f,g,i⟩:=QxF hl { s with ring:= -1,fall:= -1,wa:=b } rfl hd
  exact ⟨f,g,i⟩
 unfold Qac;refine Qg (fun x=>StepP l s x∧(s.ha=true→x.pc=s.pc)) (fun _=>⟨a,fun _=>rfl⟩) fun h=>⟨?_,fun e=>absurd e h⟩
 exact Qg (StepP l s) (fun _=>j) fun _=>Qg (StepP l s) (fun _=>Qg (StepP l s) (fun _=>a) fun _=>d false) fun _=>d s.wa
end
def noPg:TwoD:=(-1,0,())
def QaV:List TwoD:=[noPg,noPg,noPg,noPg,noPg,noPg,noPg,noPg]
def QbK:Nat→List Int→List TwoD→List TwoD
 | _,[],l=>l
 | k,p::r,l=>QbK (k+1) r (l.set k (p,7,()))
def QcA (g:Int) (x:QJ) (l:List TwoD):List TwoD:=
 let l1:=if x.1=g then l.set x.2.2.2.1.toNat (x.2.2.1,3,()) else l
 if x.2.1=g then l1.set x.2.2.2.2.1.toNat (x.2.2.1,1,()) else l1
def QaX (g:Int):List QJ→List TwoD→List TwoD
 | [],l=>l
 | x::r,l=>QaX g r (QcA g x l)
def pgM (p:PolD) (g:Int):List TwoD:=QaX g p.2.1 (QbK 0 (p.1.getD g.toNat []) QaV)
theorem QeI: ∀(r:List Int) (k:Nat) (l:List TwoD),(QbK k r l).length=l.length
 | [],_,_=>rfl
 | p::r,k,l=>by rw [QbK,QeI r]; simp
theorem QbO (g:Int) (x:QJ) (l:List TwoD):(QcA g x l).length=l.length:=by
 unfold QcA;dsimp only
 repeat' split
 all_goals simp
theorem Qkw (g:Int): ∀(r:List QJ) (l:List TwoD),(QaX g r l).length=l.length
 | [],_=>rfl
 | x::r,l=>by rw [QaX,Qkw g r,QbO]
theorem Qbi (p:PolD) (g:Int):(pgM p g).length=8:=by unfold pgM; rw [Qkw,QeI]; rfl
theorem QmE {P:TwoD→Prop}: ∀(r:List Int) (k:Nat) (l:List TwoD),(∀x∈r,P (x,7,()))→(∀q∈l,P q)→ ∀q∈QbK k r l,P q
 | [],_,_,_,h=>h
 | p::r,k,l,h1,h=>QmE r (k+1) _ (fun x hx=>h1 x (List.mem_cons_of_mem _ hx)) fun q hq=>by
  rcases List.mem_or_eq_of_mem_set hq with hq | rfl
  ·exact h q hq
  ·exact h1 p (by simp)
theorem Qtu {P:TwoD→Prop} {g:Int} {x:QJ} {l:List TwoD} (h1:P (x.2.2.1,3,())) (h2:P (x.2.2.1,1,())) (h: ∀q∈l,P q): ∀q∈QcA g x l,P q:=by
 have s: ∀{l:List TwoD} {k:Nat} {y:TwoD},P y→(∀q∈l,P q)→ ∀q∈l.set k y,P q:=fun b h q a=>by
  rcases List.mem_or_eq_of_mem_set a with a | rfl
  ·exact h q a
  ·exact b
 unfold QcA;dsimp only;split
 ·split
  ·exact s h2 (s h1 h)
  ·exact s h2 h
 ·split
  ·exact s h1 h
  ·exact h
theorem Qkv {P:TwoD→Prop} {g:Int}: ∀(r:List QJ) (l:List TwoD),(∀x∈r,P (x.2.2.1,3,())∧P (x.2.2.1,1,()))→(∀q∈l,P q)→ ∀q∈QaX g r l,P q
 | [],_,_,h=>h
 | x::r,l,h1,h=>Qkv r _ (fun y hy=>h1 y (List.mem_cons_of_mem _ hy)) (Qtu (h1 x (by simp)).1 (h1 x (by simp)).2 h)
theorem QcX {p:PolD} {g:Int} (hok:OkPol p) (hg:isG p g=true):p.1.getD g.toNat []∈p.1:=by
 have:=Qbn.1 hg;exact QaH (by omega)
theorem QiK {p:PolD} {g:Int} (hok:OkPol p) (hg:isG p g=true): ∀q∈pgM p g,(-1≤q.1∧q.1≤23)∧0≤q.2.1∧q.2.1≤7:=by
 refine Qkv (P:=fun q=>(-1≤q.1∧q.1≤23)∧0≤q.2.1∧q.2.1≤7) _ _ (fun x a=>?_) (QmE _ _ _ (fun x a=>?_) ?_)
 ·have:=(QbI hok x a).2.1;dsimp only;omega
 ·have:=(hok.own1 _ (QcX hok hg)).2.2 x a;dsimp only;omega
 ·intro q b;simp only [QaV,List.mem_cons,List.not_mem_nil,or_false,or_self] at b;subst b;unfold noPg;decide
theorem QkG {r:List Int} {k i:Nat} {l:List TwoD} (h:i< r.length):QbK (k+i) (r.drop i) l=QbK (k+(i+1)) (r.drop (i+1)) (l.set (k+i) (r[i],7,())):=by
 rw [List.drop_eq_getElem_cons h,QbK];rfl
theorem Qjk {g:Int} {r:List QJ} {i:Nat} {l:List TwoD} (h:i< r.length):QaX g (r.drop i) l=QaX g (r.drop (i+1)) (QcA g r[i] l):=by
 rw [List.drop_eq_getElem_cons h,QaX]
theorem Qrj (p:PolD) (g:Int):L_aj_3 ((p,(g,(([]:List TwoD),((0:Int),())))),((),()))=some (.inl ((p,(g,(QaV,()))),((),()))):=by kernel_rfl
theorem Qgg {p:PolD} {g:Int} (hok:OkPol p) (hg:isG p g=true):F_aj (p,g,())=some ((pgM p g,()),()):=by
 have h:=Qbn.1 hg;have r:g.toNat< p.1.length:=by omega
 have s:=hok.own1 _ (QcX hok hg);have f:=QbI hok;have z:=hok.lanes.1;refine Dr.eq ?_;unfold F_aj;refine Dr.step (Qrj p g) ?_;dsimp only
 have t:Dr (L_aj_7 ((p,(g,(QaV,((0:Int),())))),((),()))) fun o=>o= .inl ((p,(g,(QbK 0 (p.1.getD g.toNat []) QaV,()))),((),())):=by
  refine Qab (fun n u=> ∃(i:Nat) (l:List TwoD),u=((p,(g,(l,((i:Int),())))),((),()))∧n=(p.1.getD g.toNat []).length-i∧i≤(p.1.getD g.toNat []).length∧l.length=8∧QbK (0+i) ((p.1.getD g.toNat []).drop i) l=QbK 0 (p.1.getD g.toNat []) QaV) ?_ _ _ ⟨0,QaV,rfl,rfl,Nat.zero_le _,rfl,rfl⟩ (by rw [QE]; omega)
  rintro rec n _ ⟨i,l,rfl,hn,hin,hl,he⟩ ih;have q:p.1[g.toNat]?=some (p.1.getD g.toNat []):=by rw [List.getD_eq_getElem?_getD,List.getElem?_eq_getElem r]; rfl
  unfold l_aj_7;generalize p.1.getD g.toNat []=w at*;dsimp only;rw [if_pos h.1,q,Obn];by_cases a:i< w.length
  case neg=>
   rw [if_neg (lt_f a)];rw [List.drop_of_length_le (by omega)] at he
   exact Dr.ret (by rw [←he]; rfl)
  rw [if_pos (lt_t a),if_pos h.1,Obn,if_pos nat0,Ql a,QH (by omega)]
  refine Dr.gat hl (by omega) fun _ _=>ih (n-1) _ (by omega) ⟨i+1,_,rfl,by omega,by omega,by simpa using hl,?_⟩
  rw [←he,QkG a,Int.toNat_natCast];simp only [Nat.zero_add]
 refine t.bind fun o j=>?_
 subst j;dsimp only
 have v:Dr (L_aj_11 ((p,(g,(QbK 0 (p.1.getD g.toNat []) QaV,((0:Int),())))),((),()))) fun o=>o= .inl ((pgM p g,()),((),())):=by
  refine Qab (fun n u=> ∃(i:Nat) (l:List TwoD),u=((p,(g,(l,((i:Int),())))),((),()))∧n=p.2.1.length-i∧i≤p.2.1.length∧l.length=8∧QaX g (p.2.1.drop i) l=pgM p g) ?_ _ _ ⟨0,_,rfl,rfl,Nat.zero_le _,by rw [QeI]; rfl,rfl⟩ (by rw [QE]; omega)
  rintro rec n _ ⟨i,l,rfl,hn,hin,hl,he⟩ ih;unfold l_aj_11;dsimp only;by_cases a:i< p.2.1.length
  case neg=>
   rw [if_neg (lt_f a)];rw [List.drop_of_length_le (by omega)] at he
   exact Dr.ret (by rw [←he]; rfl)
  rw [if_pos (lt_t a),if_pos nat0,Ql a,QH (by omega)]
  have y:=f _ (List.getElem_mem a);rw [Qjk a] at he;have m:=QbO g p.2.1[i] l
  have c: ∀k,k=QcA g p.2.1[i] l→Dr (rec ((p,(g,(k,(((i+1:Nat):Int),())))),((),()))) fun o=>o= .inl ((pgM p g,()),((),())):=fun k e=>by
   subst e;exact ih (n-1) _ (by omega) ⟨i+1,_,rfl,by omega,by omega,by rw [m]; exact hl,he⟩
  generalize p.2.1[i]=x at*;by_cases d:x.1=g
  ·rw [if_pos (by simpa using d)]
   refine Dr.gat hl (by omega) fun _ _=>?_
   by_cases b:x.2.1=g
   ·rw [if_pos (by simpa using b)]
    refine Dr.gat (n:=8) (by simpa using hl) (by omega) fun _ _=>c _ ?_
    unfold QcA;dsimp only;rw [if_pos d,if_pos b]
   ·rw [if_neg (by simpa using b)]
    refine c _ ?_;unfold QcA;dsimp only;rw [if_pos d,if_neg b]
  ·rw [if_neg (by simpa using d)]
   by_cases b:x.2.1=g
   ·rw [if_pos (by simpa using b)]
    refine Dr.gat hl (by omega) fun _ _=>c _ ?_
    unfold QcA;dsimp only;rw [if_neg d,if_pos b]
   ·rw [if_neg (by simpa using b)]
    refine c _ ?_;unfold QcA;dsimp only;rw [if_neg d,if_neg b]
 refine v.bind fun o j=>?_
 subst j;exact Dr.ret rfl
theorem QtI:F_dj ([noPg],8,())=some ((QaV,()),()):=by kernel_rfl
theorem QfO {p:PolD} {g:Int} (hok:OkPol p) (hg:isG p g=true):F_dk (p,g,())=some ((pgM p g,()),()):=by
 have k:=Qbn.1 hg;have r:g.toNat< p.1.length:=by omega
 have s:=hok.own1 _ (QcX hok hg);have f:=QbI hok;have z:=hok.lanes.1;refine Dr.eq ?_;unfold F_dk;refine Dr.step rfl (Dr.step QtI (Dr.guard k.1 ?_));have q:p.1[g.toNat]?=some (p.1.getD g.toNat []):=by rw [List.getD_eq_getElem?_getD,List.getElem?_eq_getElem r]; rfl
 refine Dr.step q ?_
 have t:Dr (L_dk_3 ((p,(g,(QaV,(p.1.getD g.toNat [],((((p.1.getD g.toNat []).length:Nat):Int),((0:Int),())))))),((),()))) fun o=>o= .inl ((p,(g,(QbK 0 (p.1.getD g.toNat []) QaV,()))),((),())):=by
  generalize p.1.getD g.toNat []=w at*;refine Qab (fun n u=> ∃(i:Nat) (l:List TwoD),u=((p,(g,(l,(w,(((w.length:Nat):Int),((i:Int),())))))),((),()))∧n=w.length-i∧i≤w.length∧l.length=8∧QbK (0+i) (w.drop i) l=QbK 0 w QaV) ?_ _ _ ⟨0,QaV,rfl,rfl,Nat.zero_le _,rfl,rfl⟩ (by rw [QE]; omega)
  rintro rec n _ ⟨i,l,rfl,hn,hin,hl,he⟩ ih;unfold l_dk_3;dsimp only;by_cases a:i< w.length
  case neg=>
   rw [if_neg (lt_f a)];rw [List.drop_of_length_le (by omega)] at he
   exact Dr.ret (by rw [←he]; rfl)
  rw [if_pos (lt_t a),if_pos nat0,Ql a,QH (by omega)]
  refine Dr.gat hl (by omega) fun _ _=>ih (n-1) _ (by omega) ⟨i+1,_,rfl,by omega,by omega,by simpa using hl,?_⟩
  rw [←he,QkG a,Int.toNat_natCast];simp only [Nat.zero_add]
 refine t.bind fun o h=>?_
 subst h;dsimp only
 have v:Dr (L_dk_8 ((g,(QbK 0 (p.1.getD g.toNat []) QaV,(p.2.1,(((p.2.1.length:Nat):Int),((0:Int),()))))),((),()))) fun o=>o= .inl ((pgM p g,()),((),())):=by
  refine Qab (fun n u=> ∃(i:Nat) (l:List TwoD),u=((g,(l,(p.2.1,(((p.2.1.length:Nat):Int),((i:Int),()))))),((),()))∧n=p.2.1.length-i∧i≤p.2.1.length∧l.length=8∧QaX g (p.2.1.drop i) l=pgM p g) ?_ _ _ ⟨0,_,rfl,rfl,Nat.zero_le _,by rw [QeI]; rfl,rfl⟩ (by rw [QE]; omega)
  rintro rec n _ ⟨i,l,rfl,hn,hin,hl,he⟩ ih;unfold l_dk_8;dsimp only;by_cases a:i< p.2.1.length
  case neg=>
   rw [if_neg (lt_f a)];rw [List.drop_of_length_le (by omega)] at he
   exact Dr.ret (by rw [←he]; rfl)
  rw [if_pos (lt_t a),if_pos nat0,Ql a,QH (by omega)]
  have y:=f _ (List.getElem_mem a);rw [Qjk a] at he;have m:=QbO g p.2.1[i] l
  have c: ∀j,j=QcA g p.2.1[i] l→Dr (rec ((g,(j,(p.2.1,(((p.2.1.length:Nat):Int),(((i+1:Nat):Int),()))))),((),()))) fun o=>o= .inl ((pgM p g,()),((),())):=fun j e=>by
   subst e;exact ih (n-1) _ (by omega) ⟨i+1,_,rfl,by omega,by omega,by rw [m]; exact hl,he⟩
  generalize p.2.1[i]=x at*;by_cases d:x.1=g
  ·rw [if_pos (by simpa using d)]
   refine Dr.gat hl (by omega) fun _ _=>?_
   by_cases b:x.2.1=g
   ·rw [if_pos (by simpa using b)]
    refine Dr.gat (n:=8) (by simpa using hl) (by omega) fun _ _=>c _ ?_
    unfold QcA;dsimp only;rw [if_pos d,if_pos b]
   ·rw [if_neg (by simpa using b)]
    refine c _ ?_;unfold QcA;dsimp only;rw [if_pos d,if_neg b]
  ·rw [if_neg (by simpa using d)]
   by_cases b:x.2.1=g
   ·rw [if_pos (by simpa using b)]
    refine Dr.gat hl (by omega) fun _ _=>c _ ?_
    unfold QcA;dsimp only;rw [if_neg d,if_pos b]
   ·rw [if_neg (by simpa using b)]
    refine c _ ?_;unfold QcA;dsimp only;rw [if_neg d,if_neg b]
 refine v.bind fun o h=>?_
 subst h;exact Dr.ret rfl
theorem QgJ {α:Type} {l:List α} {i:Nat} (h:i< l.length):l.take (i+1)=l.take i++[l[i]]:=by rw [List.take_add_one,List.getElem?_eq_getElem h]; rfl
theorem QvI {α:Type} {M l:List α} {i:Nat} (hM:M.length=l.length) (hi:i≤l.length):(M.take i++l.drop i).length=l.length:=by simp; omega
theorem QvH {α:Type} {M l:List α} {i:Nat} (hM:M.length=l.length) (hi:i< l.length):(M.take i++l.drop i)[i]?=some l[i]:=by
 rw [List.getElem?_append_right (by simp; omega),List.length_take,Nat.min_eq_left (by omega),Nat.sub_self,List.getElem?_drop,Nat.add_zero,List.getElem?_eq_getElem hi]
theorem QvJ {α:Type} {M l:List α} {i:Nat} (hM:M.length=l.length) (hi:i< l.length):(M.take i++l.drop i).set i (M[i]'(by omega))=M.take (i+1)++l.drop (i+1):=by
 rw [List.set_append_right _ _ (by simp; omega),List.length_take,Nat.min_eq_left (by omega),Nat.sub_self,List.drop_eq_getElem_cons hi,List.set_cons_zero,QgJ (l:=M) (by omega),List.append_assoc]
 rfl
theorem Qsu {α:Type} {M l:List α} {i:Nat} (hM:M.length=l.length) (hi:i< l.length) (he:M[i]'(by omega)=l[i]):M.take i++l.drop i=M.take (i+1)++l.drop (i+1):=by
 rw [QgJ (l:=M) (by omega),he,List.drop_eq_getElem_cons hi,List.append_assoc]
 rfl
def QaM (l:List TwoD):List TwoD:=l.mapIdx fun k p=>if 0≤p.1 then ((k:Int),p.2) else p
theorem QbE (l:List TwoD):(QaM l).length=l.length:=by unfold QaM; simp
theorem Qez {l:List TwoD} {i:Nat} (h:i< l.length):(QaM l)[i]'(by rw [QbE]; exact h)=if 0≤l[i].1 then ((i:Int),l[i].2) else l[i]:=by
 unfold QaM;rw [List.getElem_mapIdx]
theorem QpG {p:PolD} {g:Int} (hok:OkPol p) (hg:isG p g=true):F_dv (p,g,())=some ((QaM (pgM p g),()),()):=by
 refine Dr.eq ?_;unfold F_dv;refine Dr.step (Qgg hok hg) ?_;have h:=Qbi p g;generalize pgM p g=l at*;have c:=QbE l
 have f:Dr (L_dv_3 ((l,((0:Int),())),((),()))) fun o=>o= .inl ((QaM l,()),((),())):=by
  refine Qab (fun n u=> ∃(i:Nat),u=(((QaM l).take i++l.drop i,((i:Int),())),((),()))∧n=l.length-i∧i≤l.length) ?_ _ _ ⟨0,rfl,rfl,Nat.zero_le _⟩ (by rw [QE]; omega)
  rintro rec n _ ⟨i,rfl,hn,hi⟩ ih;unfold l_dv_3;dsimp only;rw [QvI c hi];by_cases a:i< l.length
  case neg=>
   rw [if_neg (lt_f a),List.take_of_length_le (by omega),List.drop_of_length_le (by omega),List.append_nil]
   exact Dr.ret rfl
  have d:0≤(i:Int)∧(i:Int)< ((l.length:Nat):Int):=by omega
  rw [if_pos (lt_t a),if_pos d,Int.toNat_natCast,QvH c a,Obn,QH (by omega)]
  by_cases b:0≤l[i].1
  ·rw [if_pos (QaB.2 b),if_pos d,Obn];refine ih (n-1) _ (by omega) ⟨i+1,?_,by omega,by omega⟩
   rw [←QvJ c a,Qez a,if_pos b]
  ·rw [if_neg (by rw [QaB]; exact b)]
   refine ih (n-1) _ (by omega) ⟨i+1,?_,by omega,by omega⟩
   rw [Qsu c a (by rw [Qez a,if_neg b])]
 refine f.bind fun o e=>?_
 subst e;exact Dr.ret rfl
theorem QoU {p:PolD} {g:Int} (hok:OkPol p) (hg:isG p g=true):F_do (p,g,())=some ((QaM (pgM p g),()),()):=by
 refine Dr.eq ?_;unfold F_do;refine Dr.step (QfO hok hg) ?_;have h:=Qbi p g;generalize pgM p g=l at*;have c:=QbE l
 have f:Dr (L_do_3 ((l,(((l.length:Nat):Int),((0:Int),()))),((),()))) fun o=>o= .inl ((QaM l,()),((),())):=by
  refine Qab (fun n u=> ∃(i:Nat),u=(((QaM l).take i++l.drop i,(((l.length:Nat):Int),((i:Int),()))),((),()))∧n=l.length-i∧i≤l.length) ?_ _ _ ⟨0,rfl,rfl,Nat.zero_le _⟩ (by rw [QE]; omega)
  rintro rec n _ ⟨i,rfl,hn,hi⟩ ih;unfold l_do_3;dsimp only;rw [QvI c hi];by_cases a:i< l.length
  case neg=>
   rw [if_neg (lt_f a),List.take_of_length_le (by omega),List.drop_of_length_le (by omega),List.append_nil]
   exact Dr.ret rfl
  have d:0≤(i:Int)∧(i:Int)< ((l.length:Nat):Int):=by omega
  rw [if_pos (lt_t a),if_pos d,Int.toNat_natCast,QvH c a,Obn,QH (by omega)]
  by_cases b:0≤l[i].1
  ·rw [if_pos (QaB.2 b),if_pos d,Obn];refine ih (n-1) _ (by omega) ⟨i+1,?_,by omega,by omega⟩
   rw [←QvJ c a,Qez a,if_pos b]
  ·rw [if_neg (by rw [QaB]; exact b)]
   refine ih (n-1) _ (by omega) ⟨i+1,?_,by omega,by omega⟩
   rw [Qsu c a (by rw [Qez a,if_neg b])]
 refine f.bind fun o e=>?_
 subst e;exact Dr.ret rfl
def Qdn (s:List Int) (k:Nat) (ws:List Int):List Int:=s.take (8*k)++(ws++s.drop (8*k+8))
theorem QbP {s ws:List Int} {k:Nat} (hs:s.length=64) (hk:k< 8) (hw:ws.length=8):(Qdn s k ws).length=64:=by unfold Qdn; simp; omega
def Qby (m:List Int):Nat→List TwoD→List Int→List Int
 | _,[],s=>s
 | k,p::r,s=>Qby m (k+1) r (if 0≤p.1 then Qdn s k (pg m p.1) else s)
theorem QcY {m:List Int} {p:Int} (h:0≤p∧8*p+8≤(m.length:Int)):(pg m p).length=8:=by unfold pg; simp; omega
abbrev QiT:=List Int×Int×List Int×Bool×Bool×Bool×Int×List Int×List Int×List TwoD×List Int×Unit
def memB (b:QiT):List Int:=b.2.2.2.2.2.2.2.2.2.2.1
def putB (b:QiT) (m:List Int):QiT:=(b.1,b.2.1,b.2.2.1,b.2.2.2.1,b.2.2.2.2.1,b.2.2.2.2.2.1,b.2.2.2.2.2.2.1,b.2.2.2.2.2.2.2.1,b.2.2.2.2.2.2.2.2.1,b.2.2.2.2.2.2.2.2.2.1,m,())
theorem QkY (b:QiT) (k:Int) (ws:List Int) (hb:(memB b).length=64) (hk:0≤k∧k< 8) (hw:ws.length=8):F_dx (b,k,ws,())=some ((),(putB b (Qdn (memB b) k.toNat ws),())):=by
 obtain ⟨K,rfl⟩: ∃K:Nat,k=(K:Int):=⟨k.toNat,by omega⟩
 refine Dr.eq ?_;unfold F_dx
 have h:Dr (L_dx_1 (((),((K:Int),(ws,((0:Int),())))),((b,()),()))) fun o=>o= .inl ((),((putB b (Qdn (memB b) K ws),()),())):=by
  refine Qab (fun n u=> ∃(i:Nat),u=(((),((K:Int),(ws,((i:Int),())))),((putB b ((memB b).take (8*K)++(ws.take i++(memB b).drop (8*K+i))),()),()))∧n=8-i∧i≤8) ?_ 8 _ ⟨0,?_,rfl,by omega⟩ (by rw [QE]; omega)
  ·rintro rec n _ ⟨i,rfl,hn,hi⟩ ih;unfold l_dx_1;dsimp only;by_cases a:i< ws.length
   case neg=>
    have:i=8:=by omega
    subst this;rw [if_neg (lt_f a),List.take_of_length_le (l:=ws) (by omega)]
    exact Dr.ret rfl
   have c:IntKind.i64.wrap ((K:Int)*8)=(K:Int)*8:=Qj (by omega) (by omega)
   have d:IntKind.i64.wrap ((K:Int)*8+(i:Int))=((8*K+i:Nat):Int):=by rw [Qj (by omega) (by omega)]; omega
   rw [if_pos (lt_t a),c,d,if_pos nat0,Ql a,QH (by omega)]
   have f:((memB b).take (8*K)++(ws.take i++(memB b).drop (8*K+i))).length=64:=by simp; omega
   refine Dr.gat (xs:=(memB b).take (8*K)++(ws.take i++(memB b).drop (8*K+i))) f (by omega) fun _ _=>ih (n-1) _ (by omega) ⟨i+1,?_,by omega,by omega⟩
   have e:((memB b).take (8*K)++(ws.take i++(memB b).drop (8*K+i))).set (8*K+i) ws[i]=(memB b).take (8*K)++(ws.take (i+1)++(memB b).drop (8*K+(i+1))):=by
    rw [List.set_append_right _ _ (by simp; omega),List.length_take,Nat.min_eq_left (by omega),Nat.add_sub_cancel_left,List.set_append_right _ _ (by simp; omega),List.length_take,Nat.min_eq_left (by omega),Nat.sub_self,
     List.drop_eq_getElem_cons (by omega),List.set_cons_zero,QgJ (l:=ws) a,List.append_assoc,Nat.add_assoc]
    rfl
   rw [Int.toNat_natCast];show (_,((putB b (((memB b).take (8*K)++(ws.take i++(memB b).drop (8*K+i))).set (8*K+i) ws[i]),()),()))=_;rw [e]
  ·simp only [List.take_zero,List.nil_append,Nat.add_zero,List.take_append_drop];rfl
 refine h.bind fun o g=>?_
 subst g;exact Dr.ret rfl
def Qsr (x:Qo) (g:Int):QiT:=
 ((x.2.2.1.getD g.toNat QO).1,(x.2.2.1.getD g.toNat QO).2.1,(x.2.2.1.getD g.toNat QO).2.2.1,(x.2.2.1.getD g.toNat QO).2.2.2.1,(x.2.2.1.getD g.toNat QO).2.2.2.2.1,(x.2.2.1.getD g.toNat QO).2.2.2.2.2.1,(x.2.2.1.getD g.toNat QO).2.2.2.2.2.2.1,
  (x.2.2.1.getD g.toNat QO).2.2.2.2.2.2.2.1,(x.2.2.1.getD g.toNat QO).2.2.2.2.2.2.2.2.1,QaM (pgM x.1 g),Qby x.2.1 0 (pgM x.1 g) (List.replicate 64 0),())
def QcR (x:Qo) (g:Int):Qoo:=if Qak x≠0 then Qnq (Qak x) else if isG x.1 g=true then (0,Qsr x g) else Qnq 4
theorem QiY {m:List Int} {l:List TwoD} {i:Nat} {s:List Int} (h:i< l.length):Qby m i (l.drop i) s=Qby m (i+1) (l.drop (i+1)) (if 0≤l[i].1 then Qdn s i (pg m l[i].1) else s):=by
 rw [List.drop_eq_getElem_cons h,Qby]
theorem Qru {x:Qo} {g:Int} (hx:Qcc 1048576 x) (hM:Qak x=0) (hg:isG x.1 g=true):F_dy (x,g,())=some ((Qsr x g,()),()):=by
 have b:=QdQ (Qdg hM);obtain ⟨t,ac⟩:=Qkn hM;have j:=Qbn.1 hg;have k:g.toNat< x.2.2.1.length:=by omega
 have q:=QiK b hg;have ad:=Qbi x.1 g;refine Dr.eq ?_;unfold F_dy Qsr;have v:x.2.2.1[g.toNat]?=some (x.2.2.1.getD g.toNat QO):=by rw [List.getD_eq_getElem?_getD,List.getElem?_eq_getElem k]; rfl
 refine Dr.guard j.1 (Dr.step v (Dr.step (Qgt _ (Qjb hx.2.2.2)) (Dr.step (QpG b hg) (Dr.step (Qgg b hg) ?_))));generalize x.2.2.1.getD g.toNat QO=h at*;generalize y:((h.1,h.2.1,h.2.2.1,h.2.2.2.1,h.2.2.2.2.1,h.2.2.2.2.2.1,h.2.2.2.2.2.2.1,h.2.2.2.2.2.2.2.1,h.2.2.2.2.2.2.2.2.1,QaM (pgM x.1 g),([]:List Int),()):QiT)=B;generalize pgM x.1 g=l at*
 have k1: ∀z,Dr (L_dy_4 ((x,((),((),(l,((0:Int),()))))),((z,(putB B (List.replicate 64 0),())),()))) fun o=>o= .inl (((),((),())),((z,(putB B (Qby x.2.1 0 l (List.replicate 64 0)),())),())):=by
  intro z;refine Qab (fun n u=> ∃(i:Nat) (s:List Int),u=((x,((),((),(l,((i:Int),()))))),((z,(putB B s,())),()))∧n=8-i∧i≤8∧s.length=64∧Qby x.2.1 i (l.drop i) s=Qby x.2.1 0 l (List.replicate 64 0)) ?_ 8 _ ⟨0,_,rfl,rfl,by omega,by simp,rfl⟩ (by rw [QE]; omega)
  rintro rec n _ ⟨i,s,rfl,hn,k,hs,he⟩ ih;unfold l_dy_4;dsimp only;by_cases m:i< 8
  case neg=>
   rw [if_neg (by rw [QB]; omega)]
   rw [List.drop_of_length_le (by omega)] at he
   exact Dr.ret (by rw [←he]; rfl)
  have a:i< l.length:=by omega
  have e:0≤(i:Int)∧(i:Int)< ((l.length:Nat):Int):=by omega
  rw [if_pos (by rw [QB]; omega),if_pos e,Ql a,QH (by omega)]
  rw [QiY a] at he;have f:=q _ (List.getElem_mem a);by_cases d:0≤l[i].1
  ·rw [if_pos (QaB.2 d),if_pos e,Ql a];rw [if_pos d] at he;have c:0≤l[i].1∧8*l[i].1+8≤(x.2.1.length:Int):=by omega
   have w:QP x.2.1 [l[i].1]=pg x.2.1 l[i].1:=by unfold QP; simp
   refine Dr.step (Qbu x.2.1 [l[i].1] (by omega) (fun p f=>by simp only [List.mem_singleton] at f; subst f; exact c) (by simp)) ?_
   rw [w];refine Dr.step (QkY (putB B s) (i:Int) (pg x.2.1 l[i].1) hs (by omega) (QcY c)) ?_
   exact ih (n-1) _ (by omega) ⟨i+1,_,rfl,by omega,by omega,QbP hs m (QcY c),he⟩
  ·rw [if_neg (by rw [QaB]; exact d)]
   rw [if_neg d] at he;exact ih (n-1) _ (by omega) ⟨i+1,_,rfl,by omega,by omega,hs,he⟩
 have r:=k1 ([],0,[],false,false,false,0,[],[],[],[],());rw [←y] at r;refine Dr.bind (o:=L_dy_4 _) r fun o ho=>?_
 subst ho;exact Dr.ret rfl
theorem QkZ (x:Qo) (g:Int) (hx:Qcc 1048576 x):F_dz (x,g,())=some ((QcR x g,()),()):=by
 refine Dr.eq ?_;unfold F_dz QcR;refine Dr.step (Qju x hx) ?_;by_cases a:Qak x=0
 case neg=>exact Dr.pos (by simpa using a) (Dr.ret (by rw [if_pos a]; rfl))
 refine Dr.neg (by simpa using a) (Dr.step (QcL x.1 g hx.1.1.1) ?_)
 rw [if_neg (c:=Qak x≠0) (by simpa using a)]
 cases b:isG x.1 g with
 | false=>exact Dr.pos (by simp) (Dr.ret (by simp; rfl))
 | true=>
  refine Dr.neg (by simp) (Dr.step (Qru hx a b) (Dr.ret ?_))
  simp
theorem QpS {s ws:List Int} {k:Nat} (hs:s.length=64) (hk:k< 8) (hw:ws.length=8):splc s ws (0+8*k) (64-8*k)=Qdn s k ws:=by
 unfold splc Qdn;rw [Nat.zero_add,List.take_of_length_le (l:=ws) (by omega),hw,Nat.min_eq_right (by omega)]
theorem QfQ (x:Qo) (g:Int) (hx:Qcc 1048576 x):F_dp (x,g,())=some ((QcR x g,()),()):=by
 refine Dr.eq ?_;unfold F_dp QcR Qsr;refine Dr.step (QfN x hx) ?_;by_cases d:Qak x=0
 case neg=>exact Dr.pos (by simpa using d) (Dr.ret (by rw [if_pos d]; rfl))
 refine Dr.neg (by simpa using d) (Dr.step (QcK x.1 g hx.1.1.1) ?_)
 rw [if_neg (c:=Qak x≠0) (by simpa using d)]
 cases h:isG x.1 g with
 | false=>exact Dr.pos (by simp) (Dr.ret (by simp; rfl))
 | true=>
  have e:=QdQ (Qdg d);obtain ⟨t,ab⟩:=Qkn d;have m:=Qbn.1 h;have p:g.toNat< x.2.2.1.length:=by omega
  have r:=QiK e h;have ac:=Qbi x.1 g;have v:x.2.2.1[g.toNat]?=some (x.2.2.1.getD g.toNat QO):=by rw [List.getD_eq_getElem?_getD,List.getElem?_eq_getElem p]; rfl
  refine Dr.neg (by simp) (Dr.step (QfO e h) ?_)
  have k:=QoU e h;generalize pgM x.1 g=l at*;dsimp only
  have k1: ∀z,Dr (L_dp_8 ((g,((),((),(List.replicate 64 (0:Int),(l,(((l.length:Nat):Int),((0:Int),()))))))),(((x.1.1,(x.1.2.1,(x.1.2.2.1,(x.1.2.2.2.1,(x.2.1,(x.2.2.1,(x.2.2.2.1,(x.2.2.2.2.1,(x.2.2.2.2.2.1,()))))))))),(z,())),())))
    fun o=>o= .inl ((g,((),((),(Qby x.2.1 0 l (List.replicate 64 0),())))),(((x.1.1,(x.1.2.1,(x.1.2.2.1,(x.1.2.2.2.1,(x.2.1,(x.2.2.1,(x.2.2.2.1,(x.2.2.2.2.1,(x.2.2.2.2.2.1,()))))))))),(z,())),())):=by
   intro z
   refine Qab (fun n u=> ∃(i:Nat) (s:List Int),u=((g,((),((),(s,(l,(((l.length:Nat):Int),((i:Int),()))))))),(((x.1.1,(x.1.2.1,(x.1.2.2.1,(x.1.2.2.2.1,(x.2.1,(x.2.2.1,(x.2.2.2.1,(x.2.2.2.2.1,(x.2.2.2.2.2.1,()))))))))),(z,())),()))∧n=8-i∧i≤8∧s.length=64∧Qby x.2.1 i (l.drop i) s=Qby x.2.1 0 l (List.replicate 64 0))
    ?_ 8 _ ⟨0,_,rfl,rfl,by omega,by simp,rfl⟩ (by rw [QE]; omega)
   rintro rec n _ ⟨i,s,rfl,hn,p,hs,he⟩ ih;unfold l_dp_8;dsimp only;by_cases j:i< 8
   case neg=>
    rw [if_neg (by rw [QB]; omega)]
    rw [List.drop_of_length_le (by omega)] at he
    exact Dr.ret (by rw [←he]; rfl)
   have a:i< l.length:=by omega
   have q:0≤(i:Int)∧(i:Int)< ((l.length:Nat):Int):=by omega
   rw [if_pos (by rw [QB]; omega),if_pos q,Ql a,QH (by omega)]
   rw [QiY a] at he;have hp:=r _ (List.getElem_mem a);by_cases f:0≤l[i].1
   ·rw [if_pos (QaB.2 f)];rw [if_pos f] at he;have b:0≤l[i].1∧8*l[i].1+8≤(x.2.1.length:Int):=by omega
    have w:IntKind.i64.wrap ((i:Int)*8)=((8*i:Nat):Int):=by rw [Qj (by omega) (by omega)]; omega
    rw [w];refine Dr.guard (by omega) (Dr.step (Qdh x.2.1 l[i].1 (by omega) b) (Dr.guard ?_ ?_))
    ·have:=QcY b;dsimp only;omega
    refine ih (n-1) _ (by omega) ⟨i+1,_,?_,by omega,by omega,QbP hs j (QcY b),he⟩
    dsimp only;rw [hs,Int.toNat_natCast,Int.toNat_natCast,QpS hs j (QcY b)]
   ·rw [if_neg (by rw [QaB]; exact f)]
    rw [if_neg f] at he;exact ih (n-1) _ (by omega) ⟨i+1,_,rfl,by omega,by omega,hs,he⟩
  refine Dr.bind (o:=L_dp_8 _) (k1 (0,[],0,[],false,false,false,0,[],[],[],[],())) fun o y=>?_
  subst y;dsimp only;refine Dr.guard m.1 (Dr.step v (Dr.step (QdK _ (Qjb hx.2.2.2)) (Dr.step k (Dr.ret ?_))));simp
theorem Qkb {m:List Int}: ∀{l:List TwoD} {k:Nat} {s:List Int},k+l.length≤8→s.length=64→(∀q∈l,0≤q.1→8*q.1+8≤(m.length:Int))→(Qby m k l s).length=64
 | [],_,_,_,h,_=>h
 | p::r,k,s,hk,h,hp=>by
  simp only [List.length_cons] at hk;rw [Qby];refine Qkb (by omega) ?_ fun q hq=>hp q (List.mem_cons_of_mem _ hq)
  split
  ·rename_i h0;exact QbP h (by omega) (QcY ⟨h0,hp p (by simp) h0⟩)
  ·exact h
theorem Qeo (s:TwoD) (r:List TwoD):Qk (-1) (s::r)=s.2.1+Qk (-1) r:=by
 simp only [Qk];rw [if_pos (.inl (by decide))]
theorem QpZ {s:TwoD} {r:List TwoD} {k:Nat} {a:Int} (h:s.2.1≤a):Qy k (s::r) a=Qy (k+1) r (a-s.2.1):=by simp only [Qy]; rw [if_pos h]
theorem Qnc {s:TwoD} {r:List TwoD} {k:Nat} {a:Int} (h: ¬s.2.1≤a):Qy k (s::r) a=(k,a,s.2.1-a):=by simp only [Qy]; rw [if_neg h]
theorem Qoe: ∀{m:List TwoD} {k:Nat} {a:Int},(∀s∈m,1≤s.2.1∧s.2.1≤50)→0≤a→a+1< Qk (-1) m→
  Qy k m (a+1)=if (Qy k m a).2.2=1 then ((Qy k m a).1+1,0,(m.getD ((Qy k m a).1+1-k) (0,0,())).2.1) else ((Qy k m a).1,(Qy k m a).2.1+1,(Qy k m a).2.2-1)
 | [],k,a,_,h0,h1=>by simp [Qk] at h1; omega
 | s::r,k,a,hs,h0,h1=>by
  rw [Qeo] at h1;have hr: ∀s∈r,1≤s.2.1∧s.2.1≤50:=fun q f=>hs q (List.mem_cons_of_mem _ f)
  by_cases h:s.2.1≤a
  ·rw [QpZ h,QpZ (by omega)]
   have e:a+1-s.2.1=(a-s.2.1)+1:=by omega
   rw [e,Qoe hr (by omega) (by omega)]
   obtain ⟨i,_⟩:=QaT (m:=r) (k:=k+1) (a:=a-s.2.1) hr (by omega) (by omega)
   have c:(Qy (k+1) r (a-s.2.1)).1+1-k=((Qy (k+1) r (a-s.2.1)).1+1-(k+1))+1:=by omega
   rw [c,List.getD_cons_succ]
  ·rw [Qnc h];have g:=hs s (by simp)
   by_cases b:s.2.1≤a+1
   ·rw [QpZ b,if_pos (by simp only; omega)]
    have e:a+1-s.2.1=0:=by omega
    rw [e];cases r with
    | nil=>simp [Qk] at h1; omega
    | cons q r=>
     have:=hr q (by simp)
     rw [Qnc (by omega)]
     have d:k+1-k=1:=by omega
     rw [d];simp
   ·rw [Qnc b,if_neg (by simp only; omega)]
    simp only;congr 2;omega
theorem Qsw: ∀{m:List TwoD} {k:Nat} {a:Int},(∀s∈m,1≤s.2.1∧s.2.1≤50)→0≤a→a+1=Qk (-1) m→(Qy k m a).1+1=k+m.length∧(Qy k m a).2.2=1
 | [],k,a,_,h0,h1=>by simp [Qk] at h1; omega
 | s::r,k,a,hs,h0,h1=>by
  rw [Qeo] at h1;have hr: ∀s∈r,1≤s.2.1∧s.2.1≤50:=fun q b=>hs q (List.mem_cons_of_mem _ b)
  by_cases h:s.2.1≤a
  ·rw [QpZ h];have:=Qsw (k:=k+1) hr (a:=a-s.2.1) (by omega) (by omega)
   simp only [List.length_cons];omega
  ·rw [Qnc h];have c:=(QaZ (g:= -1) hr).1;cases r with
   | nil=>
    have h0:Qk (-1) ([]:List TwoD)=0:=rfl;rw [h0] at h1;show k+1=k+(0+1)∧s.2.1-a=1;omega
   | cons q r=>
    have:=Qbj hr (by simp)
    omega
theorem QpY {m:List TwoD} (hs: ∀s∈m,1≤s.2.1∧s.2.1≤50) (hl:1≤m.length):Qy 0 m 0=(0,0,(m.getD 0 (0,0,())).2.1):=by
 cases m with
 | nil=>simp at hl
 | cons s r=>
  have:=hs s (by simp)
  rw [Qnc (by omega)]
  simp
def Qfr (plan:List TwoD) (slot left:Int):Int×Int:=
 if left-1=0 then ((slot+1) % (plan.length:Int),(plan.getD ((slot+1) % (plan.length:Int)).toNat (0,0,())).2.1) else (slot,left-1)
theorem QeM {p:PolD} (hok:OkPol p): ∀s∈p.2.2.2.1,1≤s.2.1∧s.2.1≤50:=fun s a=>(hok.slots s a).2
theorem QwM {p:PolD} (hok:OkPol p) (c:Int):(0≤(QaF p c).1∧(QaF p c).1< (p.2.2.2.1.length:Int))∧1≤(QaF p c).2∧(QaF p c).2≤50:=by
 have j:=Qbj (QeM hok) hok.plan.1;obtain ⟨d,s,b,e,f,g⟩:=QaT (m:=p.2.2.2.1) (k:=0) (a:=c % Qk (-1) p.2.2.2.1) (QeM hok) (Int.emod_nonneg _ (by omega)) (Int.emod_lt_of_pos _ (by omega))
 rw [Nat.sub_zero] at b;have h:=(List.getElem?_eq_some_iff.1 b).1;have i:=QeM hok s (List.mem_of_getElem? b);unfold QaF;dsimp only;omega
theorem Qni {p:PolD} (hok:OkPol p) {c:Int} (h0:0≤c):QaF p (c+1)=Qfr p.2.2.2.1 (QaF p c).1 (QaF p c).2:=by
 have hR:=Qbj (QeM hok) hok.plan.1;have f:=QeM hok;have o:=hok.plan.1;unfold QaF Qfr;dsimp only;generalize p.2.2.2.1=m at*;generalize d:Qk (-1) m=R at*;have g:=Int.emod_nonneg c (b:=R) (by omega)
 have t:=Int.emod_lt_of_pos c (b:=R) (by omega)
 have l:(c+1) % R=if c % R+1=R then 0 else c % R+1:=by
  rw [Int.add_emod];by_cases r:R=1
  ·subst r;simp
  ·rw [Int.emod_eq_of_lt (a:=1) (by omega) (by omega)]
   split
   ·rename_i e; rw [e]; exact Int.emod_self
   ·exact Int.emod_eq_of_lt (by omega) (by omega)
 rw [l];generalize c % R=a at*;by_cases n:a+1=R
 ·rw [if_pos n,QpY f o];obtain ⟨y,u⟩:=Qsw (k:=0) f g (by rw [d]; exact n)
  rw [if_pos (by rw [u]; decide)]
  have v:((Qy 0 m a).1:Int)+1=(m.length:Int):=by omega
  rw [v,Int.emod_self];rfl
 ·rw [if_neg n,Qoe f g (by rw [d]; omega)]
  obtain ⟨_,s,q,z,h4,h5⟩:=QaT (m:=m) (k:=0) (a:=a) f g (by rw [d]; exact t)
  rw [Nat.sub_zero] at q;have h6:=(List.getElem?_eq_some_iff.1 q).1;by_cases j:(Qy 0 m a).2.2=1
  ·rw [if_pos j,if_pos (by omega)]
   have x:(Qy 0 m a).1+1< m.length:=by
    have i:=Qoe (k:=0) f g (by rw [d]; omega:a+1< Qk (-1) m)
    rw [if_pos j] at i;obtain ⟨_,s',h,_⟩:=QaT (m:=m) (k:=0) (a:=a+1) f (by omega) (by rw [d]; omega)
    rw [i,Nat.sub_zero] at h;exact (List.getElem?_eq_some_iff.1 h).1
   have w:(((Qy 0 m a).1:Int)+1) % (m.length:Int)=(((Qy 0 m a).1+1:Nat):Int):=by rw [Int.emod_eq_of_lt (by omega) (by omega)]; omega
   rw [w,Int.toNat_natCast,Nat.sub_zero]
  ·rw [if_neg j,if_neg (by omega)]
structure HK (x:Qo):Prop where
 pol:polM x.1=0
 mem:QF x.2.1=0∧x.2.1.length=192
 len:x.2.2.1.length=x.1.1.length
 harts: ∀h∈x.2.2.1,hartM h=0
 clock:0≤x.2.2.2.2.2.1∧x.2.2.2.2.2.1≤1000000
 slot:x.2.2.2.1=(QaF x.1 x.2.2.2.2.2.1).1
 left:x.2.2.2.2.1=(QaF x.1 x.2.2.2.2.2.1).2
theorem HK.ok {x:Qo} (h:HK x):OkPol x.1:=QdQ h.pol
theorem Qjd: ∀{m:List QM},Qhp m=none↔ ∀h∈m,hartM h=0:=by
 have b: ∀{m:List QM} {i:Nat},scan (fun (_:Nat) h=>nz (hartM h)) i m=none↔ ∀h∈m,hartM h=0:=by
  intro m
  induction m with
  | nil=>intro i; simp [scan]
  | cons y r c=>
   intro i;simp only [scan];by_cases a:hartM y=0
   ·have:nz (hartM y)=none:=by unfold nz; rw [if_neg (by simpa using a)]
    rw [this];simp only;rw [c];simp [a]
   ·have:nz (hartM y)=some (hartM y):=by unfold nz; rw [if_pos a]
    rw [this];simp [a]
 intro m;unfold Qhp;exact b
theorem HK.of {x:Qo} (h:Qak x=0):HK x:=by
 have d:=Qdg h;unfold Qak at h;rw [if_neg (by simpa using d)] at h
 split at h
 ·rename_i g;cases b:Qhp x.2.2.1 with
  | some c=>
   rw [b] at h
   have:c≠0:=by
    have: ∀{m:List QM} {i:Nat} {c:Int},scan (fun (_:Nat) h=>nz (hartM h)) i m=some c→c≠0:=by
     intro m
     induction m with
     | nil=>intro i c h; simp [scan] at h
     | cons y r j=>
      intro i c h;simp only [scan] at h;split at h
      ·rename_i k a;obtain rfl:=Osj h;unfold nz at a;split at a
       ·obtain rfl:=Osj a; assumption
       ·cases a
      ·exact j h
    exact this b
   exact absurd h this
  | none=>
   rw [b] at h;simp only at h;split at h
   ·rename_i f;split at h
    ·rename_i e;exact ⟨d,g.1,g.2,Qjd.1 b,QbA.1 f,e.1,e.2⟩
    ·cases h
   ·cases h
 ·cases h
theorem HK.to {x:Qo} (h:HK x):Qak x=0:=by
 unfold Qak;rw [if_neg (by simpa using h.pol),if_pos ⟨h.mem,h.len⟩,Qjd.2 h.harts]
 simp only;rw [if_pos (QbA.2 h.clock),if_pos ⟨h.slot,h.left⟩]
theorem QfL {h:QM} (hh:hartM h=0):Qbz 1048576 h:=by
 unfold hartM at hh;split at hh
 ·rename_i a;split at hh
  ·split at hh
   ·rename_i b;exact ⟨by omega,by omega,by omega,by omega⟩
   ·cases hh
  ·cases hh
 ·cases hh
theorem QgB {p:PolD} (h:OkPol p):QfX 1048576 p:=by
 have b:=h.own; have c:=h.lanes.1; have d:=h.bells.1; have e:=h.plan.2;exact ⟨⟨by omega,fun l a=>by have:=(h.own1 l a).2.1; omega⟩,by omega,by omega,by omega⟩
theorem HK.le {x:Qo} (h:HK x):Qcc 1048576 x:=by
 have b:=h.mem.2; have c:=h.len; have d:=h.ok.own;exact ⟨QgB h.ok,by omega,by omega,fun y a=>QfL (h.harts y a)⟩
abbrev Qfv:=List (List Int)×List QJ×List TwoD×List TwoD×List Int×List QM×Int×Int×Int×Unit
def boxH (x:Qo):Qfv:=(x.1.1,x.1.2.1,x.1.2.2.1,x.1.2.2.2.1,x.2.1,x.2.2.1,x.2.2.2.1,x.2.2.2.2.1,x.2.2.2.2.2.1,())
def Qsm (h:QM):QM:=(h.1,h.2.1,h.2.2.1,h.2.2.2.1,h.2.2.2.2.1,true,h.2.2.2.2.2.2)
def Qbq (k:Int) (hs:List QM):List QM:=hs.set k.toNat (Qsm (hs.getD k.toNat QO))
def turnG (x:Qo):Int:=(x.1.2.2.2.1.getD x.2.2.2.1.toNat (0,0,())).1
def QT (x:Qo):Mc:=Qac (Mc.of (x.2.2.1.getD (turnG x).toNat QO) x.2.1) (pgM x.1 (turnG x))
def QS (x:Qo):List QM:=x.2.2.1.set (turnG x).toNat (QT x).hart
def Qcn (x:Qo):Bool:=x.1.2.2.1.any (Qas (turnG x,(QT x).ring,()))
def Qbm (x:Qo):Qo:=
 (x.1,(QT x).m,(if Qcn x=true then Qbq (QT x).ring (QS x) else QS x),(Qfr x.1.2.2.2.1 x.2.2.2.1 x.2.2.2.2.1).1,(Qfr x.1.2.2.2.1 x.2.2.2.1 x.2.2.2.2.1).2,x.2.2.2.2.2.1+1,())
theorem Qvl {p:PolD} (hok:OkPol p): ∀b∈p.2.2.1,isG p b.1=true∧isG p b.2.1=true∧b.1≠b.2.1:=by
 intro b c;obtain ⟨i,e⟩:=Qbt hok.bells.2 b c;have e:=QnP e;unfold Qfz at e;split at e
 ·rename_i h; exact absurd e h
 ·rename_i a;have a:Qdd p b.1 b.2.1=0:=by simpa using a
  unfold Qdd at a;split at a
  ·split at a
   ·split at a
    ·cases a
    ·exact ⟨‹_›, ‹_›, ‹_›⟩
   ·cases a
  ·cases a
theorem HK.turn {x:Qo} (h:HK x):(0≤x.2.2.2.1∧x.2.2.2.1< (x.1.2.2.2.1.length:Int))∧(1≤x.2.2.2.2.1∧x.2.2.2.2.1≤50)∧isG x.1 (turnG x)=true∧x.1.2.2.2.1[x.2.2.2.1.toNat]?=some (x.1.2.2.2.1.getD x.2.2.2.1.toNat (0,0,())):=by
 have b:=QwM h.ok x.2.2.2.2.2.1;rw [←h.slot, ←h.left] at b;have a:x.2.2.2.1.toNat< x.1.2.2.2.1.length:=by omega
 refine ⟨b.1,b.2,(h.ok.slots _ (QaH (d:=(0,0,())) a)).1,?_⟩;rw [List.getD_eq_getElem?_getD,List.getElem?_eq_getElem a];rfl
theorem HK.guest {x:Qo} (h:HK x) {g:Int} (hg:isG x.1 g=true):(0≤g∧g< (x.2.2.1.length:Int))∧x.2.2.1[g.toNat]?=some (x.2.2.1.getD g.toNat QO)∧hartM (x.2.2.1.getD g.toNat QO)=0:=by
 have b:=Qbn.1 hg;have c:=h.len;have a:g.toNat< x.2.2.1.length:=by omega
 refine ⟨by omega,?_,h.harts _ (QaH a)⟩
 rw [List.getD_eq_getElem?_getD,List.getElem?_eq_getElem a];rfl
theorem HK.okL {x:Qo} (h:HK x) {g:Int} (hg:isG x.1 g=true):OkL (pgM x.1 g) x.2.1:=by
 have d:=h.mem
 have c:allW x.2.1=true:=by
  have a:=h.mem.1;unfold QF at a;rw [if_pos (QgV h.mem.1)] at a;split at a
  ·assumption
  ·cases a
 refine ⟨Qbi _ _,fun q b=>?_,Qau.1 c,by omega⟩
 have:=QiK h.ok hg q b;omega
theorem HK.okS {x:Qo} (h:HK x):OkS (Mc.of (x.2.2.1.getD (turnG x).toNat QO) x.2.1) (pgM x.1 (turnG x)):=QwW (h.guest h.turn.2.2.1).2.2 (h.okL h.turn.2.2.1)
theorem HK.okT {x:Qo} (h:HK x):OkS (QT x) (pgM x.1 (turnG x)):=Qim h.okS
theorem Qrb {h:QM} (hh:hartM h=0):hartM (Qsm h)=0:=hh
theorem QjI {x:Qo} (h:HK x) (hr:Qcn x=true):isG x.1 (QT x).ring=true:=by
 unfold Qcn at hr;obtain ⟨b,a,e⟩:=List.any_eq_true.1 hr;unfold Qas at e;simp only [Bool.and_true,Bool.and_eq_true,beq_iff_eq] at e;rw [e.2];exact (Qvl h.ok b a).2.1
theorem Qcb (x:Qo):(QS x).length=x.2.2.1.length:=by unfold QS; simp
theorem QfM {x:Qo} (h:HK x): ∀y∈QS x,hartM y=0:=by
 intro y a;unfold QS at a;rcases List.mem_or_eq_of_mem_set a with a | rfl
 ·exact h.harts y a
 ·exact h.okT.hartM
theorem Qlf {x:Qo} (h:HK x):(QT x).m.length=192:=by unfold QT; rw [Qle]; exact h.mem.2
theorem HK.next {x:Qo} (h:HK x) (hc:x.2.2.2.2.2.1< 1000000):HK (Qbm x):=by
 have b:=h.okT.l;refine ⟨h.pol,⟨?_,Qlf h⟩,?_,?_,?_,?_,?_⟩
 ·show QF (QT x).m=0;unfold QF;rw [Qlf h,if_pos (by decide),if_pos (Qau.2 b.words)]
 ·show (if Qcn x=true then Qbq (QT x).ring (QS x) else QS x).length=_
  split
  ·unfold Qbq; rw [List.length_set,Qcb]; exact h.len
  ·rw [Qcb]; exact h.len
 ·show ∀y∈(if Qcn x=true then Qbq (QT x).ring (QS x) else QS x),hartM y=0
  split
  ·rename_i c;have d:=Qbn.1 (QjI h c);intro y a;unfold Qbq at a;rcases List.mem_or_eq_of_mem_set a with a | rfl
   ·exact QfM h y a
   ·exact Qrb (QfM h _ (QaH (by rw [Qcb,h.len]; omega)))
  ·exact QfM h
 ·have:=h.clock;show 0≤x.2.2.2.2.2.1+1∧x.2.2.2.2.2.1+1≤1000000;omega
 ·show (Qfr x.1.2.2.2.1 x.2.2.2.1 x.2.2.2.2.1).1=(QaF x.1 (x.2.2.2.2.2.1+1)).1;rw [Qni h.ok h.clock.1, ←h.slot, ←h.left]
 ·show (Qfr x.1.2.2.2.1 x.2.2.2.1 x.2.2.2.2.1).2=(QaF x.1 (x.2.2.2.2.2.1+1)).2;rw [Qni h.ok h.clock.1, ←h.slot, ←h.left]
theorem Dr.gatE {X Y:Type} {xs:List X} {i:Int} {n:Nat} {f:X→Option Y} {P:Y→Prop} (hn:xs.length=n) (h:0≤i∧i< (n:Int)) (k: ∀y,xs[i.toNat]?=some y→Dr (f y) P):Dr (if 0≤i∧i< ((xs.length:Nat):Int) then (xs[i.toNat]?).bind f else none) P:=by
 subst hn;exact Dr.guard h (Dr.get (by omega) fun y _ a=>k y a)
theorem Qpy (k:Int) (hs:List QM):Qbq k (Qbq k hs)=Qbq k hs:=by
 unfold Qbq;by_cases a:k.toNat< hs.length
 ·rw [List.set_set];congr 1;rw [List.getD_eq_getElem?_getD,List.getElem?_set_self a];rfl
 ·rw [List.set_eq_of_length_le (by simp; omega)]
def Qes (g k:Int):List TwoD→List QM→List QM
 | [],hs=>hs
 | b::r,hs=>Qes g k r (if Qas (g,k,()) b=true then Qbq k hs else hs)
theorem Qgc (g k:Int): ∀(r:List TwoD) (hs:List QM),Qes g k r (Qbq k hs)=Qbq k hs
 | [],_=>rfl
 | b::r,hs=>by
  rw [Qes];split
  ·rw [Qpy,Qgc g k r]
  ·exact Qgc g k r hs
theorem QkI (g k:Int): ∀(r:List TwoD) (hs:List QM),Qes g k r hs=if r.any (Qas (g,k,()))=true then Qbq k hs else hs
 | [],_=>rfl
 | b::r,hs=>by
  rw [Qes,List.any_cons];by_cases hb:Qas (g,k,()) b=true
  ·rw [if_pos hb,Qgc,if_pos (by simp [hb])]
  ·have hb':Qas (g,k,()) b=false:=by simpa using hb
   rw [if_neg hb,QkI g k r,hb',Bool.false_or]
def Qpu (b:Qfv) (hs:List QM):Qfv:=(b.1,b.2.1,b.2.2.1,b.2.2.2.1,b.2.2.2.2.1,hs,b.2.2.2.2.2.2.1,b.2.2.2.2.2.2.2.1,b.2.2.2.2.2.2.2.2.1,())
theorem Qrr (b:Qfv) (g k:Int) (hb:b.2.2.1.length≤1000) (hk: ∀y∈b.2.2.1,Qas (g,k,()) y=true→0≤k∧k< (b.2.2.2.2.2.1.length:Int)):
  F_bs (b,g,k,())=some ((),(Qpu b (if b.2.2.1.any (Qas (g,k,()))=true then Qbq k b.2.2.2.2.2.1 else b.2.2.2.2.2.1),())):=by
 rw [←QkI];refine Dr.eq ?_;unfold F_bs
 have p:Dr (L_bs_1 (((),(g,(k,((0:Int),())))),((b,()),()))) fun o=>o= .inl ((),((Qpu b (Qes g k b.2.2.1 b.2.2.2.2.2.1),()),())):=by
  refine Qab (fun n u=> ∃(i:Nat) (hs:List QM),u=(((),(g,(k,((i:Int),())))),((Qpu b hs,()),()))∧n=b.2.2.1.length-i∧i≤b.2.2.1.length∧hs.length=b.2.2.2.2.2.1.length∧Qes g k (b.2.2.1.drop i) hs=Qes g k b.2.2.1 b.2.2.2.2.2.1) ?_ _ _ ⟨0,_,rfl,rfl,Nat.zero_le _,rfl,rfl⟩ (by rw [QE]; omega)
  rintro rec n _ ⟨i,hs,rfl,hn,hi,hl,he⟩ ih;unfold l_bs_1 Qpu;dsimp only;by_cases a:i< b.2.2.1.length
  case neg=>
   rw [if_neg (lt_f a)];rw [List.drop_of_length_le (by omega)] at he
   exact Dr.ret (by rw [←he]; rfl)
  rw [if_pos (lt_t a),if_pos nat0,Ql a,QH (by omega)]
  rw [List.drop_eq_getElem_cons a,Qes] at he;have h:=hk _ (List.getElem_mem a);generalize b.2.2.1[i]=y at*
  have skip: ¬Qas (g,k,()) y=true→Dr (rec (((),(g,(k,(((i+1:Nat):Int),())))),(((b.1,b.2.1,b.2.2.1,b.2.2.2.1,b.2.2.2.2.1,hs,b.2.2.2.2.2.2.1,b.2.2.2.2.2.2.2.1,b.2.2.2.2.2.2.2.2.1,()),()),()))) fun o=>o= .inl ((),(((b.1,b.2.1,b.2.2.1,b.2.2.2.1,b.2.2.2.2.1,Qes g k b.2.2.1 b.2.2.2.2.2.1,b.2.2.2.2.2.2.1,b.2.2.2.2.2.2.2.1,b.2.2.2.2.2.2.2.2.1,()),()),())):=fun j=>by
   rw [if_neg j] at he;exact ih (n-1) _ (by omega) ⟨i+1,hs,rfl,by omega,by omega,hl,he⟩
  by_cases c:y.1=g
  ·rw [if_pos (by simpa using c)]
   by_cases d:y.2.1=k
   ·have f:Qas (g,k,()) y=true:=by unfold Qas; simp [c,d]
    have q:=h f;rw [if_pos f] at he;rw [if_pos (by simpa using d)]
    refine Dr.gatE (n:=hs.length) rfl (by omega) fun z m=>ih (n-1) _ (by omega) ⟨i+1,_,rfl,by omega,by omega,by simpa using hl,?_⟩
    rw [←he];unfold Qbq;rw [List.getD_eq_getElem?_getD,m];rfl
   ·rw [if_neg (by simpa using d)]
    exact skip (by unfold Qas; simp; intro _ e; exact absurd e.symm d)
  ·rw [if_neg (by simpa using c)]
   exact skip (by unfold Qas; simp; intro e; exact absurd e.symm c)
 refine p.bind fun o l=>?_
 subst l;exact Dr.ret rfl
end Go.Proofs.YtkkljegcnnfanaaGreatDoor
