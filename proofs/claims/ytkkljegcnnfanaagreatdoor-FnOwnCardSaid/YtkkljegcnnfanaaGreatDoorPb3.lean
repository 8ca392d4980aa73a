/- Plain laws: what the functions compute, and that both programs compute the same. -/
import Derived.Test.YtkkljegcnnfanaaGreatDoorPb2
set_option linter.unusedVariables false
set_option linter.unusedSimpArgs false
namespace Go.Proofs.YtkkljegcnnfanaaGreatDoor
open Go Go.RowKit S Go.Proofs
set_option maxRecDepth 100000
section
variable {l:List TwoD} {s:Mc}
theorem Qla (h:OkS s l):
  ((F_eg ((s.r,s.pc,s.cs,s.ha,s.wa,s.ru,s.dn,s.iq,s.oq,()),l,s.m,s.pc,(4:Int),())).bind fun r14=>
    if (r14.1.1.1 !=(0:Int)) then
     (F_dy (s.core l,(2:Int),s.pc,())).bind fun r15=>some (((),(r15.2.1,())):Unit×Qvy×Unit)
    else
     if 0≤r14.1.1.2.1∧r14.1.1.2.1< ((s.m.length:Nat):Int) then
      ((s.m)[(r14.1.1.2.1).toNat]?).bind fun y16=>
      (F_ei (y16,())).bind fun r17=>
      if (r17.1.1.1 !=(0:Int)) then
       if 0≤r14.1.1.2.1∧r14.1.1.2.1< ((s.m.length:Nat):Int) then
        ((s.m)[(r14.1.1.2.1).toNat]?).bind fun y18=>
        (F_dy (s.core l,(1:Int),y18,())).bind fun r19=>some ((),(r19.2.1,()))
       else none
      else
       (F_fb (s.core l,r17.1.1.2.1,())).bind fun r20=>some ((),(r20.2.1,()))
     else none)=some ((),((runM s l).core l,())):=by
 have hdo:=fun {w:Int} (hw:decF w=0)=>Qto h (QiJ hw) rfl
 rw [Qfp h.c h.l _ (.inr (.inr rfl)),Obn];dsimp only;unfold runM;have hin:=QbV h.c h.l s.pc 4;generalize Qv s.cs l s.m s.pc 4=q at*;by_cases h0:q.2=0
 ·have hlt:0≤q.1∧q.1< ((s.m.length:Nat):Int):=by
   rcases hin h0 with h | h
   ·exact absurd rfl h.2.2
   ·exact h
  have hN:q.1.toNat< s.m.length:=by omega
  have hw:WW (s.m.getD q.1.toNat 0):=h.l.words _ (Qaz hN);rw [if_neg (by simpa using h0),if_pos hlt,Qr 0 hN,QrD hw,Obn,if_pos hlt,Qr 0 hN,if_neg (c:=q.2≠0) (by simpa using h0)]
  dsimp only;generalize s.m.getD q.1.toNat 0=w at*;by_cases hd:decF w=0
  ·rw [if_pos hd,if_pos hd];dsimp only;rw [if_neg (by decide)]
   have hx:=hdo hd;have e1:((decM w).1,(decM w).2.1,(decM w).2.2.1,(decM w).2.2.2.1,())=decM w:=rfl;rw [e1] at hx;rw [hx,Obn];generalize doM s l (decM w).1 (decM w).2.1 (decM w).2.2.1 (decM w).2.2.2.1=x at*;obtain ⟨b,s1⟩:=x;cases b <;> rfl
  ·rw [if_neg hd,if_neg hd];dsimp only;rw [if_pos (by decide)]
   unfold Mc.core;rw [Qcu h.c,Obn];rfl
 ·rw [if_pos (by simpa using h0),if_pos (c:=q.2≠0) h0]
  unfold Mc.core;rw [Qcu h.c,Obn];rfl
theorem Qpd (h:OkS s l):F_fc (s.core l,())=some ((),((Qaf s l).core l,())):=by
 obtain ⟨r,pc,cs,ha,wa,ru,dn,iq,oq,m,ring,fall⟩:=s;have h0:OkS ⟨r,pc,cs,ha,wa,ru,dn,iq,oq,m, -1, -1⟩ l:=⟨h.r,h.pc,h.c,h.i,h.o,h.d,h.l⟩;have h1:OkS ⟨r,pc,cs,ha,false,ru,dn,iq,oq,m, -1, -1⟩ l:=⟨h.r,h.pc,h.c,h.i,h.o,h.d,h.l⟩;have hc:OkC cs:=h.c;have hle:=Qmj cs ru dn iq;generalize he:Qaf ⟨r,pc,cs,ha,wa,ru,dn,iq,oq,m,ring,fall⟩ l=e;unfold Qaf at he;unfold F_fc;dsimp only at he;rw [show (Mc.core ⟨r,pc,cs,ha,wa,ru,dn,iq,oq,m,ring,fall⟩ l)=(r,pc,cs,ha,wa,ru,dn,iq,oq,l,m,fall,ring,()) from rfl]
 dsimp only;cases ha
 ·rw [if_neg (by decide)] at he
  rw [if_neg (by decide),QrF hc,Obn]
  dsimp only;by_cases hk:0≤dueM cs ru dn iq
  ·rw [if_pos hk] at he;subst he;rw [if_pos (Qba.2 hk),Qx (by omega) (by omega),Qcu hc,Obn]
   rfl
  ·rw [if_neg hk] at he;rw [if_neg (by rw [Qba]; exact hk)]
   cases wa
   ·rw [if_neg (by decide)] at he
    subst he;rw [if_neg (by decide)]
    exact Qla h0
   ·rw [if_pos rfl] at he;have h7:(0:Int)≤7∧(7:Int)< ((cs.length:Nat):Int):=by rw [hc.len]; decide
    rw [if_pos rfl,QeE hc,Obn];dsimp only;rw [if_pos h7,Qr 0 (by rw [hc.len]; decide)]
    simp only [show ((7:Int)).toNat=7 from rfl]
    by_cases hz:iand .i64 (Qdz cs ru dn iq) (cs.getD 7 0)=0
    ·rw [if_pos hz] at he;subst he;rw [if_pos (by simpa using hz)]
     rfl
    ·rw [if_neg hz] at he;subst he;rw [if_neg (by simpa using hz)]
     exact Qla h1
 ·rw [if_pos rfl] at he;subst he;rw [if_pos rfl];rfl
theorem QvY (h:OkS s l) {op d a i:Int} (hi:OkI op d a i):OkS (exM s l op d a i).2.2.2 l∧WW (exM s l op d a i).2.2.1∧((exM s l op d a i).1=true→WW (exM s l op d a i).2.1):=by
 have hp: ∀x y,WW (addW x y):=QkE;have h0:WW 0:=by unfold WW; omega
 have hd:=hi.hd;have ha:=hi.ha;have hii:=hi.hi;have hra:=h.r.w (k:=a.toNat) (by omega)
 have hrd:=h.r.w (k:=d.toNat) (by omega)
 unfold exM
 let P:Bool×Int×Int×Mc→Prop:=fun x=>OkS x.2.2.2 l∧WW x.2.2.1∧(x.1=true→WW x.2.1)
 refine Qh P (fun _=>⟨h,hp _ _,fun _=>hp _ _⟩) fun _=>Qh P (fun _=>⟨h,by unfold WW; dsimp only; omega,fun _=>hp _ _⟩) fun _=>Qh P (fun _=>?_) fun _=>Qh P (fun _=>?_) fun _=>
  Qh P (fun _=>⟨h,h0,fun _=>Qh WW (fun _=>hp _ _) fun _=>hp _ _⟩) fun _=>Qh P (fun _=>⟨h,hp _ _,fun _=>hp _ _⟩) fun _=>Qh P (fun _=>⟨h,hp _ _,fun _=>hp _ _⟩) fun _=>
  Qh P (fun h21=>⟨h,Qrz h.c ⟨hii.1,hi.i21 (.inl h21)⟩ h.d,fun _=>hp _ _⟩) fun _=>Qh P (fun h22=>⟨⟨h.r,h.pc,Qvo h.c ⟨hii.1,hi.i21 (.inr h22)⟩,h.i,h.o,h.d,h.l⟩,h0,fun _=>hp _ _⟩) fun _=>
  Qh P (fun _=>⟨Qgd h (by unfold WW; omega) h0,h0,fun _=>h0⟩) fun _=>Qh P (fun _=>⟨⟨h.r,h.c.w (by decide),QsT h.c,h.i,h.o,h.d,h.l⟩,h0,fun _=>h.c.w (by decide)⟩) fun _=>
  Qh P (fun _=>⟨⟨h.r,h.pc,h.c,h.i,h.o,h.d,h.l⟩,h0,fun _=>hp _ _⟩) fun _=>Qh P (fun _=>⟨⟨h.r,h.pc,h.c,h.i,h.o,h.d,h.l⟩,h0,fun _=>h.pc⟩) fun _=>⟨h,Qrf _ _ _,fun _=>hp _ _⟩
 ·have hin:=QbV h.c h.l (addW (s.r.getD a.toNat 0) (off i)) 1;refine Qh P (fun _=>⟨Qgd h (by unfold WW; omega) (hp _ _),h0,fun _=>h0⟩) fun hq0=>Qh P (fun _=>?_) fun hq=>⟨h,?_,fun _=>hp _ _⟩
  ·have:=QtZ (ru:=s.ru) h.c h.i h.d ((Qv s.cs l s.m (addW (s.r.getD a.toNat 0) (off i)) 1).1-1000);exact ⟨⟨h.r,h.pc,h.c,this.2,h.o,h.d,h.l⟩,this.1,fun _=>hp _ _⟩
  ·have hlt:0≤(Qv s.cs l s.m (addW (s.r.getD a.toNat 0) (off i)) 1).1∧(Qv s.cs l s.m (addW (s.r.getD a.toNat 0) (off i)) 1).1< (s.m.length:Int):=by
    rcases hin (by simpa using hq0) with h | h
    ·exact absurd h.1 hq
    ·exact h
   exact h.l.words _ (Qaz (by omega))
 ·refine Qh P (fun _=>⟨Qgd h (by unfold WW; omega) (hp _ _),h0,fun _=>h0⟩) fun hq0=>Qh P (fun _=>?_) fun hq=>?_
  ·exact ⟨⟨h.r,h.pc,Qwv h.c _ _,h.i,Qww h.o _ _,h.d,h.l⟩,h0,fun _=>hp _ _⟩
  ·refine ⟨⟨h.r,h.pc,h.c,h.i,h.o,h.d,⟨h.l.len,fun p hpm=>?_,fun w hw=>?_,?_⟩⟩,h0,fun _=>hp _ _⟩
   ·have:=h.l.pgs p hpm;dsimp only;rw [List.length_set];exact this
   ·rcases List.mem_or_eq_of_mem_set hw with hw | rfl
    ·exact h.l.words w hw
    ·exact hrd
   ·dsimp only;rw [List.length_set];exact h.l.mlen
theorem OkR.set {r:List Int} (h:OkR r) {k:Nat} {w:Int} (hk:0< k) (hw:WW w):OkR (r.set k w):=
 ⟨by rw [List.length_set]; exact h.len,fun z hz=>by
  rcases List.mem_or_eq_of_mem_set hz with hz | rfl
  ·exact h.words z hz
  ·exact hw,by rw [getD_set_ne (by omega)]; exact h.zero⟩
theorem Qtd (h:OkS s l) {op d a i:Int} (hi:OkI op d a i):OkS (doM s l op d a i).2 l:=by
 have he:=QvY h hi;unfold doM;dsimp only;refine Qh (fun x:Bool×Mc=>OkS x.2 l) (fun hb=>?_) fun _=>he.1
 refine ⟨?_,he.2.2 hb,he.1.c,he.1.i,he.1.o,he.1.d,he.1.l⟩;refine Qh OkR (fun hd=>he.1.r.set (by omega) he.2.1) fun _=>he.1.r
theorem QtE (h:OkS s l):OkS (Qft s) l:=by
 have:=h.d;refine ⟨h.r,h.pc,h.c,h.i,h.o,?_,h.l⟩;unfold Qft;dsimp only;split <;> omega
theorem QqL (h:OkS s l):OkS (runM s l) l:=by
 unfold runM;have hin:=QbV h.c h.l s.pc 4;refine Qh (fun x=>OkS x l) (fun _=>Qgd h (by unfold WW; omega) h.pc) fun hq0=>?_
 have hlt:0≤(Qv s.cs l s.m s.pc 4).1∧(Qv s.cs l s.m s.pc 4).1< (s.m.length:Int):=by
  rcases hin (by simpa using hq0) with h | h
  ·exact absurd rfl h.2.2
  ·exact h
 have hw:WW (s.m.getD (Qv s.cs l s.m s.pc 4).1.toNat 0):=h.l.words _ (Qaz (by omega))
 refine Qh (fun x=>OkS x l) (fun hd=>?_) fun _=>Qgd h (by unfold WW; omega) hw
 exact Qh (fun x=>OkS x l) (fun _=>QtE (Qtd h (QiJ hd))) fun _=>Qtd h (QiJ hd)
theorem QjY (h:OkS s l):OkS (Qaf s l) l:=by
 have h0:OkS { s with ring:= -1,fall:= -1 } l:=⟨h.r,h.pc,h.c,h.i,h.o,h.d,h.l⟩
 have h1:OkS { s with ring:= -1,fall:= -1,wa:=false } l:=⟨h.r,h.pc,h.c,h.i,h.o,h.d,h.l⟩
 have hle:=Qmj s.cs s.ru s.dn s.iq;unfold Qaf;refine Qh (fun x=>OkS x l) (fun _=>h0) fun _=>Qh (fun x=>OkS x l) (fun hk=>Qgd h0 ?_ (by unfold WW; omega)) fun _=>Qh (fun x=>OkS x l) (fun _=>Qh (fun x=>OkS x l) (fun _=>h0) fun _=>QqL h1) fun _=>QqL h0
 unfold WW;dsimp only at*;omega
end
theorem QjO {α β:Type} {f:Nat→α→Option β}: ∀{m:List α} {i:Nat},scan f i m=none→ ∀x∈m, ∃j,f j x=none
 | [],_,_,_,hx=>by cases hx
 | y::r,i,h,x,hx=>by
  simp only [scan] at h;split at h
  ·cases h
  ·rename_i hn;rcases List.mem_cons.1 hx with rfl | hx
   ·exact ⟨_,hn⟩
   ·exact QjO h x hx
theorem Qpt {l:List TwoD} {top:Int} (ht:1≤top∧top≤24) (h:QhT l top=0):l.length=8∧ ∀p∈l,(-1≤p.1∧p.1≤top-1)∧(0≤p.2.1∧p.2.1≤7):=by
 unfold QhT at h;rw [if_pos (by unfold inB; simp [ht.1,ht.2])] at h
 split at h
 ·rename_i hl;refine ⟨hl,fun p hp=>?_⟩
  have key:scan (fun (_:Nat) p=>QnV top p) 0 l=none:=by
   split at h
   ·rename_i c hc;exfalso
    have: ∀{l:List TwoD} {i:Nat} {c:Int},scan (fun (_:Nat) p=>QnV top p) i l=some c→c≠0:=by
     intro l
     induction l with
     | nil=>intro i c h; simp [scan] at h
     | cons y r ih=>
      intro i c h;simp only [scan] at h;split at h
      ·rename_i c' hc';obtain rfl:=Osj h;unfold QnV nz at hc';intro e;subst e
       repeat' split at hc'
       all_goals first | (cases hc'; done) | simp_all
      ·exact ih h
    exact this hc h
   ·rename_i hn; exact hn
  obtain ⟨j,hj⟩:=QjO key p hp;unfold QnV inB at hj;split at hj
  ·rename_i h1;split at hj
   ·rename_i h2;simp only [Bool.and_eq_true,decide_eq_true_eq] at h1 h2;omega
   ·cases hj
  ·cases hj
 ·omega
def Mc.of (h:QQ) (m:List Int):Mc:=⟨h.1,h.2.1,h.2.2.1,h.2.2.2.1,h.2.2.2.2.1,h.2.2.2.2.2.1,h.2.2.2.2.2.2.1,h.2.2.2.2.2.2.2.1,h.2.2.2.2.2.2.2.2.1,m, -1, -1⟩
theorem QvG {h:QQ} {l:List TwoD} {m:List Int} (h1:hartM h=0) (hL:OkL l m):OkS (Mc.of h m) l:=by
 unfold hartM at h1;split at h1
 ·rename_i c1;split at h1
  ·rename_i c2;split at h1
   ·rename_i c3;split at h1
    ·rename_i c4;split at h1
     ·rename_i c5;simp only [inB,Bool.and_eq_true,decide_eq_true_eq] at c4;exact ⟨⟨c1.1,Qar.1 c2.1,c1.2.2⟩,QfS.1 c2.2.1,⟨c1.2.1,Qar.1 c2.2.2.1,c5.1,c5.2.1,c5.2.2.1,c5.2.2.2.1,c5.2.2.2.2⟩,⟨c3.1,Qar.1 c2.2.2.2.1⟩,⟨c3.2,Qar.1 c2.2.2.2.2⟩,c4,hL⟩
     ·omega
    ·omega
   ·omega
  ·omega
 ·omega
theorem QpL (h:QQ) (hh:Qcg 1048576 h):F_al (h,())=some ((h,()),()):=by
 obtain ⟨h1,h2,h3,h4⟩:=hh;unfold F_al;dsimp only;rw [if_pos (by simp; omega),if_pos (by simp; omega),if_pos (by simp; omega),if_pos (by simp; omega)]
 rfl
theorem QrM (h:QQ) (hh:Qcg 1048576 h):F_dm (h,())=some ((h,()),()):=by
 obtain ⟨h1,h2,h3,h4⟩:=hh;unfold F_dm;dsimp only;rw [QcV h1,Obn,QcV h2,Obn,QcV h3,Obn,QcV h4,Obn]
theorem Qsw (h:QQ) (l:List TwoD) (m:List Int) (hh:Qcg 1048576 h) (hm:m.length≤1048576):F_am (h,l,m,())=some (((Mc.of h m).bus l,()),()):=by
 unfold F_am F_ak;dsimp only;rw [if_pos (by simp; omega),Obn,QpL h hh,Obn]
 rfl
def Qcr (l:List TwoD):Nat→Int→Int→Mc→Int×Int×Mc
 | 0,c,g,s=>(c,g,s)
 | k+1,c,g,s=>Qcr l k (if 0≤(Qaf s l).fall then (Qaf s l).fall else c) (if 0≤(Qaf s l).ring then (Qaf s l).ring else g) (Qaf s l)
abbrev QsL:=Int×Int×Int×List Int×Int×List Int×Bool×Bool×Bool×Int×List Int×List Int×List Int×Unit
def QoK (c:Int):QsL:=(c,0,0,[],0,[],false,false,false,0,[],[],[],())
def Mc.res (s:Mc) (c g:Int):QsL:=(0,c,g,s.r,s.pc,s.cs,s.ha,s.wa,s.ru,s.dn,s.iq,s.oq,s.m,())
def acc (c g:Int):QsL:=(0,c,g,[],0,[],false,false,false,0,[],[],[],())
theorem Qkq (l:List TwoD) (n:Int) (h0:0≤n∧n≤500) (s0:Mc) (h:OkS s0 l): ∀(i:Nat) (x:Int×Int×Mc),i≤n.toNat→OkS x.2.2 l→
  Qc l_fd_4 lots (((),(),x.1,x.2.1,n,((i:Nat):Int),()),(QoK 0,x.2.2.core l,()),())=
   some (.inl (((),(),(Qcr l (n.toNat-i) x.1 x.2.1 x.2.2).1,(Qcr l (n.toNat-i) x.1 x.2.1 x.2.2).2.1,()),(QoK 0,(Qcr l (n.toNat-i) x.1 x.2.1 x.2.2).2.2.core l,()),())):=by
 have key:=Qfr (step:=l_fd_4) (γ:=denO o_fd_4) (fun i (x:Int×Int×Mc)=>(((),(),x.1,x.2.1,n,((i:Nat):Int),()),(QoK 0,x.2.2.core l,()),())) n.toNat (QaU (by omega)) (fun _ x=>OkS x.2.2 l)
  (fun i x=>some (.inl (((),(),(Qcr l (n.toNat-i) x.1 x.2.1 x.2.2).1,(Qcr l (n.toNat-i) x.1 x.2.1 x.2.2).2.1,()),(QoK 0,(Qcr l (n.toNat-i) x.1 x.2.1 x.2.2).2.2.core l,()),()))) ?_
 ·exact key
 ·rintro rec i ⟨c,g,s⟩ hi hok ih;unfold l_fd_4;dsimp only at*;by_cases hlt:i< n.toNat
  ·rw [if_pos (QC.2 (by omega)),Qpd hok,Obn]
   have e1:n.toNat-i=n.toNat-(i+1)+1:=by omega
   have ih2:=ih (if 0≤(Qaf s l).fall then (Qaf s l).fall else c,if 0≤(Qaf s l).ring then (Qaf s l).ring else g,Qaf s l) hlt (QjY hok)
   dsimp only;rw [QR (by omega),e1]
   simp only [Qcr];rw [←ih2];unfold Mc.core;dsimp only;by_cases hf:0≤(Qaf s l).fall
   ·rw [if_pos (Qba.2 hf),if_pos hf];by_cases hg:0≤(Qaf s l).ring
    ·rw [if_pos (Qba.2 hg),if_pos hg]
    ·rw [if_neg (by rw [Qba]; exact hg),if_neg hg]
   ·rw [if_neg (by rw [Qba]; exact hf),if_neg hf]
    by_cases hg:0≤(Qaf s l).ring
    ·rw [if_pos (Qba.2 hg),if_pos hg]
    ·rw [if_neg (by rw [Qba]; exact hg),if_neg hg]
  ·have:i=n.toNat:=by omega
   subst this;rw [if_neg (by rw [QC]; omega),Nat.sub_self]
   rfl
theorem Qpj (l:List TwoD) (a b:Int) (s:Mc): ∀(k:Nat) (c g:Int),(Qcr l k c g { s with ring:=a,fall:=b }).1=(Qcr l k c g s).1∧(Qcr l k c g { s with ring:=a,fall:=b }).2.1=(Qcr l k c g s).2.1∧
  ∀x y,(Qcr l k c g { s with ring:=a,fall:=b }).2.2.res x y=(Qcr l k c g s).2.2.res x y
 | 0,_,_=>⟨rfl,rfl,fun _ _=>rfl⟩
 | k+1,_,_=>⟨rfl,rfl,fun _ _=>rfl⟩
theorem Qkt (h:QQ) (l:List TwoD) (m:List Int) (n:Int) (hh:Qcg 1048576 h) (hm:m.length≤1048576) (ho:OkS (Mc.of h m) l) (hn:0≤n∧n≤500):F_fd (h,l,m,n,())=
  some (((Qcr l n.toNat (-1) (-1) (Mc.of h m)).2.2.res (Qcr l n.toNat (-1) (-1) (Mc.of h m)).1 (Qcr l n.toNat (-1) (-1) (Mc.of h m)).2.1,()),()):=by
 have ho2:OkS { Mc.of h m with ring:=0,fall:=0 } l:=⟨ho.r,ho.pc,ho.c,ho.i,ho.o,ho.d,ho.l⟩
 have key:=Qkq l n hn _ ho2 0 (-1, -1,{ Mc.of h m with ring:=0,fall:=0 }) (by omega) ho2
 obtain ⟨q1,q2,q3⟩:=Qpj l 0 0 (Mc.of h m) n.toNat (-1) (-1);unfold F_fd;dsimp only;rw [QrM h hh,Obn,QcV hm,Obn];show (Qc l_fd_4 lots (((),(),(-1),(-1),n,(((0:Nat):Nat):Int),()),(QoK 0,Mc.core { Mc.of h m with ring:=0,fall:=0 } l,()),())).bind _=_
 rw [key, ←q1, ←q2, ←q3];rfl
section
variable {l:List TwoD} {s:Mc}
def FR (s:Mc):Prop:=(s.fall= -1∨0≤s.fall)∧(s.ring= -1∨0≤s.ring)
theorem FR.trap (h:FR s) {cause tval:Int} (hc:0≤cause):FR (s.trap cause tval):=⟨.inr hc,h.2⟩
theorem Qub (k w:Int):Qix k w= -1∨0≤Qix k w:=by
 unfold Qix; split
 ·exact .inr (Qah w).1
 ·exact .inl rfl
theorem QvX (h:FR s) (op d a i:Int):FR (exM s l op d a i).2.2.2:=by
 unfold exM
 let P:Bool×Int×Int×Mc→Prop:=fun x=>FR x.2.2.2
 refine Qh P (fun _=>h) fun _=>Qh P (fun _=>h) fun _=>Qh P (fun _=>Qh P (fun _=>h.trap (by omega)) fun _=>Qh P (fun _=>h) fun _=>h) fun _=>
  Qh P (fun _=>Qh P (fun _=>h.trap (by omega)) fun _=>Qh P (fun _=>⟨h.1,Qub _ _⟩) fun _=>h) fun _=>Qh P (fun _=>h) fun _=>Qh P (fun _=>h) fun _=>Qh P (fun _=>h) fun _=>
  Qh P (fun _=>h) fun _=>Qh P (fun _=>h) fun _=>Qh P (fun _=>h.trap (by omega)) fun _=>Qh P (fun _=>h) fun _=>Qh P (fun _=>h) fun _=>Qh P (fun _=>h) fun _=>h
theorem Qtb (h:FR s) (op d a i:Int):FR (doM s l op d a i).2:=by
 have he:=QvX (l:=l) h op d a i;unfold doM;dsimp only;exact Qh (fun x:Bool×Mc=>FR x.2) (fun _=>he) fun _=>he
theorem QqK (h:FR s):FR (runM s l):=by
 unfold runM;refine Qh FR (fun _=>h.trap (by omega)) fun _=>Qh FR (fun _=>?_) fun _=>h.trap (by omega)
 exact Qh FR (fun _=>Qtb (l:=l) h _ _ _ _) fun _=>Qtb h _ _ _ _
theorem Qov (s:Mc) (l:List TwoD):FR (Qaf s l):=by
 have h0:FR { s with ring:= -1,fall:= -1 }:=⟨.inl rfl,.inl rfl⟩
 have h1:FR { s with ring:= -1,fall:= -1,wa:=false }:=⟨.inl rfl,.inl rfl⟩
 unfold Qaf;refine Qh FR (fun _=>h0) fun _=>Qh FR (fun hk=>h0.trap (Int.add_nonneg (by decide) hk)) fun _=>Qh FR (fun _=>Qh FR (fun _=>h0) fun _=>QqK h1) fun _=>QqK h0
end
theorem QtK {x:QbG} (h:QcR x=0):OkS (Mc.of x.1 x.2.2.1) x.2.1:=by
 obtain ⟨h1,h2,h3,h4⟩:=Qga h;obtain ⟨hl,hp⟩:=Qpt (by decide) h2
 refine QvG h1 ⟨hl,fun p hpm=>?_,?_,by omega⟩
 ·have:=hp p hpm;refine ⟨by omega,this.2,?_⟩
  rw [h4]; omega
 ·have hm:=QdU h3;unfold QA at h3;rw [if_pos hm] at h3;split at h3
  ·exact Qar.1 ‹_›
  ·omega
abbrev SrcD:=List Int×Int×Unit
def Sr (s:SrcD) (k:Int):Prop:=Byt s.1∧0≤s.2.1∧s.2.1≤k
theorem Sr.le {s:SrcD} {k k':Int} (h:Sr s k) (hk:k≤k'):Sr s k':=⟨h.1,h.2.1,Int.le_trans h.2.2 hk⟩
theorem Sr.pos {s:SrcD} {k:Int} (h:Sr s k):0≤k:=Int.le_trans h.2.1 h.2.2
def Dr {X:Type} (o:Option X) (P:X→Prop):Prop:= ∃v,o=some v∧P v
theorem Dr.bind {X Y:Type} {o:Option X} {f:X→Option Y} {Q:X→Prop} {P:Y→Prop} (h:Dr o Q) (g: ∀v,Q v→Dr (f v) P):Dr (o.bind f) P:=by
 obtain ⟨v,rfl,hv⟩:=h;exact g v hv
theorem Dr.ret {X:Type} {v:X} {P:X→Prop} (h:P v):Dr (some v) P:=⟨v,rfl,h⟩
theorem Dr.ite {X:Type} {c:Prop} [Decidable c] {a b:Option X} {P:X→Prop} (ha:c→Dr a P) (hb: ¬c→Dr b P):Dr (if c then a else b) P:=by
 split
 ·exact ha ‹_›
 ·exact hb ‹_›
theorem Dr.guard {X:Type} {c:Prop} [Decidable c] {a:Option X} {P:X→Prop} (hc:c) (ha:Dr a P):Dr (if c then a else none) P:=by rw [if_pos hc]; exact ha
theorem Dr.nguard {X:Type} {c:Prop} [Decidable c] {a:Option X} {P:X→Prop} (hc: ¬c) (ha:Dr a P):Dr (if c then none else a) P:=by rw [if_neg hc]; exact ha
theorem Dr.get {X Y:Type} {xs:List X} {i:Nat} {f:X→Option Y} {P:Y→Prop} (hi:i< xs.length) (h: ∀y,y∈xs→xs[i]?=some y→Dr (f y) P):Dr ((xs[i]?).bind f) P:=by
 rw [List.getElem?_eq_getElem hi,Obn];exact h _ (List.getElem_mem hi) (List.getElem?_eq_getElem hi)
theorem Dr.gat {X Y:Type} {xs:List X} {i:Int} {n:Nat} {f:X→Option Y} {P:Y→Prop} (hn:xs.length=n) (h:0≤i∧i< (n:Int)) (k: ∀y,y∈xs→Dr (f y) P):Dr (if 0≤i∧i< ((xs.length:Nat):Int) then (xs[i.toNat]?).bind f else none) P:=by
 subst hn;exact Dr.guard h (Dr.get (by omega) fun y hy _=>k y hy)
theorem Dr.of {X:Type} {o:Option X} {v:X} {P:X→Prop} (h:o=some v) (hv:P v):Dr o P:=⟨v,h,hv⟩
theorem Qaj {X Y:Type} {step:(X→Option Y)→X→Option Y} {Q:Y→Prop} (I:Nat→X→Prop) (h: ∀rec m x,I m x→(∀m' x',m'< m→I m' x'→Dr (rec x') Q)→Dr (step rec x) Q) (m:Nat) (x:X) (hI:I m x) (hm:m< lots):Dr (Qc step lots x) Q:=by
 have key: ∀n m x,m< n→I m x→Dr (Qc step n x) Q:=by
  intro n
  induction n with
  | zero=>intro m x h; omega
  | succ n ih=>intro m x hm hI; exact h _ m x hI fun m' x' hlt hI'=>ih m' x' (by omega) hI'
 exact key lots m x hm hI
def Bd (n x:Int):Prop:=0≤x∧(x< n∨x=0)
theorem Bd.to3 {x:Int} (h:Bd 3 x):x.toNat≤2∧0≤x∧x≤2:=by unfold Bd at h; omega
theorem Bd.e {n x:Int} (h:Bd n x):0≤x∧(x< n∨x=0):=h
def Bt (a b x:Int):Prop:=a≤x∧x≤b
theorem Bt.e {a b x:Int} (h:Bt a b x):a≤x∧x≤b:=h
theorem QX {s:SrcD} {k:Int} (h:Sr s k) (hk:k≤1099511627776) (n:Int):Dr (F_c (s,n,())) fun r=>Sr r.2.1 (k+1)∧Bd n r.1.1:=
 .of (QqA (s,n,()) h.1 ⟨h.2.1,Int.le_trans h.2.2 hk⟩) ⟨⟨h.1,by have:=h.2.1; dsimp only; omega,by have:=h.2.2; dsimp only; omega⟩,Qwh (s,n,()) h.1 ⟨h.2.1,Int.le_trans h.2.2 hk⟩⟩
theorem QbP {s:SrcD} {k:Int} (h:Sr s k) (hk:k≤1099511627776) (x:Int) (l:List Int):Dr (F_d (s,x::l,())) fun r=>Sr r.2.1 (k+1)∧(r.1.1:Int)∈x::l:=
 .of (QqH (s,x::l,()) rfl h.1 ⟨h.2.1,Int.le_trans h.2.2 hk⟩) ⟨⟨h.1,by have:=h.2.1; dsimp only; omega,by have:=h.2.2; dsimp only; omega⟩,Qwo (s,x::l,()) rfl h.1 ⟨h.2.1,Int.le_trans h.2.2 hk⟩⟩
theorem Qdm {s:SrcD} {k:Int} (h:Sr s k) (hk:k≤1099511627776) (n:Int):Dr (F_s (s,n,())) fun r=>Sr r.2.1 (k+1):=
 .of (QkN (s,n,()) h.1 ⟨h.2.1,Int.le_trans h.2.2 hk⟩) ⟨h.1,by have:=h.2.1; dsimp only; omega,by have:=h.2.2; dsimp only; omega⟩
theorem QmO {s:SrcD} {k:Int} (h:Sr s k) (hk:k≤1073741824):Dr (F_t (s,())) fun r=>Sr r.2.1 (k+5)∧Bt 0 4294967295 r.1.1:=
 .of (Qrc (s,()) h.1 ⟨h.2.1,Int.le_trans h.2.2 hk⟩) ⟨⟨h.1,by have:=h.2.1; dsimp only; omega,by have:=h.2.2; dsimp only; omega⟩,Qwu (s,()) h.1 ⟨h.2.1,Int.le_trans h.2.2 hk⟩⟩
theorem QuL {s:SrcD} {k:Int} (h:Sr s k) (hk:k≤10000000) (n:Int) (h0:0≤n) (hn:n≤1000):Dr (F_u (s,n,())) fun r=>Sr r.2.1 (k+26*n)∧(r.1.1.length:Int)=n:=by
 obtain ⟨c,a,_⟩:=s;obtain ⟨hc,h1,h2⟩:=h;dsimp only at h1 h2;obtain ⟨m,a',e,l1,l2,l3⟩:=Qtn hc n a ⟨h1,by omega⟩ hn
 rw [if_neg (by omega)] at l1 l3
 exact .of e ⟨⟨hc,by dsimp only; omega,by dsimp only; omega⟩,l1⟩
theorem Quf {c:List Int} (h:Byt c):Dr (F_b (c,())) fun r=>Sr r.1.1 0:= .of rfl ⟨h,Int.le_refl _,Int.le_refl _⟩
structure HL (h:QQ):Prop where
 r:h.1.length=16
 c:h.2.2.1.length=11
 i:h.2.2.2.2.2.2.2.1.length≤2
 o:h.2.2.2.2.2.2.2.2.1.length≤40
theorem QwI {h:QQ} (hh:HL h) {k:Int} (hk:0≤k∧k≤10) (w:Int):Dr (F_bc (h,k,w,())) fun r=>HL r.2.1:=by
 obtain ⟨h1,h2,h3,h4⟩:=hh;have hin:0≤k∧k< ((h.2.2.1.length:Nat):Int):=by omega
 have hin': ∀x,0≤k∧k< (((h.2.2.1.set k.toNat x).length:Nat):Int):=fun x=>by rw [List.length_set]; exact hin
 have hlt:k.toNat< h.2.2.1.length:=by omega
 have hlt': ∀x,k.toNat< (h.2.2.1.set k.toNat x).length:=fun x=>by rw [List.length_set]; exact hlt
 have hl: ∀x y,((h.2.2.1.set k.toNat x).set k.toNat y).length=11:=fun x y=>by simp [h2]
 have hl': ∀x,(h.2.2.1.set k.toNat x).length=11:=fun x=>by simp [h2]
 unfold F_bc;refine Dr.bind (Q:=fun _=>True) (.of (QdD _) trivial) fun r1 _=>?_
 repeat' (first
  | exact Dr.ret ⟨h1,h2,h3,h4⟩
  | exact Dr.ret ⟨h1,hl' _,h3,h4⟩
  | exact Dr.ret ⟨h1,hl _ _,h3,h4⟩
  | refine Dr.guard hin ?_
  | refine Dr.guard (hin' _) ?_
  | refine Dr.get hlt fun _ _ _=>?_
  | refine Dr.get (hlt' _) fun _ _ _=>?_
  | refine Dr.ite (fun _=>?_) fun _=>?_)
theorem QrV {l:List Int} (hl:l.length≤2) (hw:allW l=true):Dr (F_af (l,())) fun r=>HL r.1.1.2∧r.1.1.2.2.2.2.2.2.2.2.1=l:=by
 unfold F_af;refine Dr.ite (fun c=>?_) fun c=>?_
 ·rw [QC] at c; dsimp only at c; omega
 refine Dr.bind (Q:=fun r=>r.1.1=allW l) (.of (QbI l (by omega)) rfl) fun r hr=>?_
 rw [if_neg (by rw [hr,hw]; simp)]
 refine Dr.guard (by simp; omega) (Dr.ret ⟨⟨by simp,by simp,by simpa using hl,by simp⟩,by simp⟩)
theorem QrP {h:QQ} {s:SrcD} {k:Int} (z:QQ) (hh:HL h) (hs:Sr s k) (hk:k≤1000000000):Dr (L_bx_3 (((),((),((),((1:Int),())))),((z,(h,(s,()))),()))) fun o=> ∃x,o= .inl x∧HL x.2.1.2.1∧Sr x.2.1.2.2.1 (k+150):=by
 refine Qaj (fun m u=>(m:Int)=16-(u.1.2.2.2.1:Int)∧1≤(u.1.2.2.2.1:Int)∧HL u.2.1.2.1∧Sr u.2.1.2.2.1 (k+10*((u.1.2.2.2.1:Int)-1))) ?_ 15 _ ⟨by dsimp only; omega,by dsimp only; omega,hh,hs.le (by dsimp only; omega)⟩ (by rw [QI]; omega)
 intro rec m u ⟨hm,h1,hh,hs⟩ ih;unfold l_bx_3;have hk0:=hs.pos;refine Dr.ite (fun c=>?_) fun c=>?_
 ·rw [QC] at c;have e:IntKind.i64.wrap ((u.1.2.2.2.1:Int)+1)=(u.1.2.2.2.1:Int)+1:=Qw (by omega) (by omega)
  refine (Qdm hs (by omega) _).bind fun r9 h9=>Dr.ite (fun _=>?_) fun _=>?_
  ·refine (QmO h9 (by omega)).bind fun r10 h10=>(QX h10.1 (by omega) _).bind fun r11 h11=>(QX h11.1 (by omega) _).bind fun r12 h12=>(QbP h12.1 (by omega) _ _).bind fun r14 h14=>?_
   refine Dr.gat hh.r (by omega) fun _ _=>ih (m-1) _ (by omega) ?_
   rw [e];exact ⟨by dsimp only; omega,by dsimp only; omega,⟨by simpa using hh.r,hh.c,hh.i,hh.o⟩,h14.1.le (by dsimp only; omega)⟩
  ·refine ih (m-1) _ (by omega) ?_
   rw [e];exact ⟨by dsimp only; omega,by dsimp only; omega,hh,h9.le (by dsimp only; omega)⟩
 ·rw [QC] at c;exact Dr.ret ⟨_,rfl,hh,hs.le (by omega)⟩
theorem Qph {h:QQ} {s:SrcD} {k:Int} (z:QQ) (hh:HL h) (hs:Sr s k) (hk:k≤1000000000):Dr (L_bx_10 (((),((),((),((0:Int),())))),((z,(h,(s,()))),()))) fun o=> ∃x,o= .inl x∧HL x.2.1.2.1∧Sr x.2.1.2.2.1 (k+110):=by
 refine Qaj (fun m u=>(m:Int)=11-(u.1.2.2.2.1:Int)∧0≤(u.1.2.2.2.1:Int)∧HL u.2.1.2.1∧Sr u.2.1.2.2.1 (k+10*(u.1.2.2.2.1:Int))) ?_ 11 _ ⟨by dsimp only; omega,by dsimp only; omega,hh,hs.le (by dsimp only; omega)⟩ (by rw [QI]; omega)
 intro rec m u ⟨hm,h1,hh,hs⟩ ih;unfold l_bx_10;have hk0:=hs.pos;refine Dr.ite (fun c=>?_) fun c=>?_
 ·rw [QC] at c;have e:IntKind.i64.wrap ((u.1.2.2.2.1:Int)+1)=(u.1.2.2.2.1:Int)+1:=Qw (by omega) (by omega)
  refine (Qdm hs (by omega) _).bind fun r9 h9=>Dr.ite (fun _=>?_) fun _=>?_
  ·refine (QX h9 (by omega) _).bind fun r11 h11=>(QX h11.1 (by omega) _).bind fun r12 h12=>(QmO h12.1 (by omega)).bind fun r10 h10=>(QbP h10.1 (by omega) _ _).bind fun r14 h14=>?_
   refine (QwI hh ⟨h1,by omega⟩ _).bind fun r43 h43=>ih (m-1) _ (by omega) ?_
   rw [e];exact ⟨by dsimp only; omega,by dsimp only; omega,h43,h14.1.le (by dsimp only; omega)⟩
  ·refine ih (m-1) _ (by omega) ?_
   rw [e];exact ⟨by dsimp only; omega,by dsimp only; omega,hh,h9.le (by dsimp only; omega)⟩
 ·rw [QC] at c;exact Dr.ret ⟨_,rfl,hh,hs.le (by omega)⟩
theorem Qtx {s:SrcD} {k:Int} (hs:Sr s k) (hk:k≤900000000):Dr (F_bx (s,())) fun r=>Sr r.2.1 (k+300)∧HL r.1.1:=by
 have hk0:=hs.pos;unfold F_bx;refine (QX hs (by omega) _).bind fun r1 h1=>?_
 have hb:=h1.2.to3;refine Dr.guard ⟨by decide,hb.2.1,hb.2.2⟩ ?_
 have hlen:(([(7:Int),8].drop (0+((0:Int)).toNat)).take ((r1.1.1).toNat-((0:Int)).toNat)).length≤2:=by rw [List.length_take]; have:=hb.1; omega
 refine (QrV (by omega) ?_).bind fun r2 h2=>?_
 ·rw [Qar];intro w hw;have:=List.mem_of_mem_drop (List.mem_of_mem_take hw);simp at this;unfold WW;omega
 have h2':HL r2.1.1.2:=h2.1;refine (QrP _ h2' h1.1 (by omega)).bind fun z hz=>?_
 obtain ⟨x,rfl,hx,hxs⟩:=hz;dsimp only;refine (QX hxs (by omega) _).bind fun r21 h21=>(QX h21.1 (by omega) _).bind fun r22 h22=>(QmO h22.1 (by omega)).bind fun r23 h23=>(QbP h23.1 (by omega) _ _).bind fun r24 h24=>(QX h24.1 (by omega) _).bind fun r25 h25=>?_
 refine (Qph _ (h:=(x.2.1.2.1.1,(r24.1.1,(x.2.1.2.1.2.2.1,(x.2.1.2.1.2.2.2.1,(x.2.1.2.1.2.2.2.2.1,(x.2.1.2.1.2.2.2.2.2.1,(r25.1.1,(x.2.1.2.1.2.2.2.2.2.2.2.1,(x.2.1.2.1.2.2.2.2.2.2.2.2.1,())))))))))) ⟨hx.r,hx.c,hx.i,hx.o⟩ h25.1 (by omega)).bind fun z hz=>?_
 obtain ⟨x,rfl,hx,hxs⟩:=hz;dsimp only;refine (Qdm hxs (by omega) _).bind fun r h=>(Qdm h (by omega) _).bind fun r h=>(Qdm h (by omega) _).bind fun r h=>(Qdm h (by omega) _).bind fun r h=>?_
 refine Dr.ite (fun _=>Dr.ret ⟨h.le (by omega),hx.r,hx.c,hx.i,by simp⟩) fun _=>Dr.ret ⟨h.le (by omega),hx.r,hx.c,hx.i,hx.o⟩
structure HB (h:QQ):Prop where
 r:h.1.length≤16
 c:h.2.2.1.length=11
 i:h.2.2.2.2.2.2.2.1.length≤41
 o:h.2.2.2.2.2.2.2.2.1.length≤40
theorem HL.b {h:QQ} (hh:HL h):HB h:=⟨by rw [hh.r]; omega,hh.c,by have:=hh.i; omega,hh.o⟩
theorem HB.le {h:QQ} (hh:HB h):Qcg 1048576 h:=⟨by have:=hh.r; omega,by rw [hh.c]; omega,by have:=hh.i; omega,by have:=hh.o; omega⟩
theorem Qtw {s:SrcD} {k:Int} (hs:Sr s k) (hk:k≤900000000):Dr (F_by (s,())) fun r=>Sr r.2.1 (k+400)∧HB r.1.1:=by
 have hk0:=hs.pos;unfold F_by;refine (Qtx hs hk).bind fun r1 h1=>(QX h1.1 (by omega) _).bind fun r2 h2=>?_
 have hr:=h1.2.r;have hc:=h1.2.c;have hi:=h1.2.i;have ho:=h1.2.o;refine Dr.ite (fun _=>?_) fun _=>Dr.ite (fun _=>?_) fun _=>Dr.ite (fun _=>?_) fun _=>Dr.ite (fun _=>?_) fun _=>Dr.ite (fun _=>?_) fun _=>Dr.ite (fun _=>?_) fun _=>?_
 ·exact Dr.gat hr (by omega) fun _ _=>Dr.ret ⟨h2.1.le (by omega),⟨by simpa using Nat.le_of_eq hr,hc,by dsimp only; omega,ho⟩⟩
 ·refine Dr.guard ⟨by decide,by rw [hr]; decide,Int.le_refl _⟩ (Dr.ret ⟨h2.1.le (by omega),⟨by simp; omega,hc,by dsimp only; omega,ho⟩⟩)
 ·refine (QX h2.1 (by omega) _).bind fun r5 h5=>(QbP h5.1 (by omega) _ _).bind fun r6 h6=>Dr.gat hc (by have:=h5.2.e; omega) fun _ _=>Dr.ret ⟨h6.1.le (by omega),⟨by dsimp only; omega,by simpa using hc,by dsimp only; omega,ho⟩⟩
 ·exact (QbP h2.1 (by omega) _ _).bind fun r9 h9=>Dr.ret ⟨h9.1.le (by omega),⟨by dsimp only; omega,hc,by dsimp only; omega,ho⟩⟩
 ·exact Dr.ret ⟨h2.1.le (by omega),⟨by dsimp only; omega,hc,by simp,ho⟩⟩
 ·exact (QbP h2.1 (by omega) _ _).bind fun r9 h9=>Dr.ret ⟨h9.1.le (by omega),⟨by dsimp only; omega,hc,by dsimp only; omega,ho⟩⟩
 ·exact Dr.ret ⟨h2.1.le (by omega),h1.2.b⟩
theorem QtG (n:Int) (h:1≤n∧n≤24):Dr (F_bv (n,())) fun r=>((r.1.1.2.1:List Int).length:Int)=8*n:=by
 unfold F_bv;refine Dr.bind (Q:=fun r=>r.1.1=inB n 1 24) (.of (QaR n 1 24) rfl) fun r hr=>?_
 have hr2: ¬(!r.1.1)=true:=by rw [hr,Qee.2 h]; simp
 have e:IntKind.i64.wrap (n*8)=n*8:=Qw (by omega) (by omega)
 rw [if_neg hr2];dsimp only;rw [e];exact Dr.guard (by omega) (Dr.ret (by simp; omega))
theorem Qpg {s:SrcD} {k:Int} (hs:Sr s k) (hk:k≤900000000):Dr (F_bw (s,())) fun r=>Sr r.2.1 (k+2000)∧(r.1.1:List Int).length≤200:=by
 have hk0:=hs.pos;unfold F_bw;refine (QX hs (by omega) _).bind fun r1 h1=>?_
 have hr:=h1.2.e;have e:IntKind.i64.wrap (1+(r1.1.1:Int))=1+(r1.1.1:Int):=Qw (by omega) (by omega)
 dsimp only;rw [e];refine (QtG _ (by omega)).bind fun r3 h3=>?_
 have hlen:8≤(r3.1.1.2.1:List Int).length∧(r3.1.1.2.1:List Int).length≤40:=by omega
 have key: ∀(ms:List Int),8≤ms.length∧ms.length≤40→Dr (L_bw_3 (((),(ms,((0:Int),()))),((r1.2.1,()),()))) fun o=> ∃x,o= .inl x∧Sr x.2.1.1 (k+1+240)∧8≤(x.1.2.1:List Int).length∧(x.1.2.1:List Int).length≤40:=by
  intro ms hms;refine Qaj (fun m u=>(m:Int)=((u.1.2.1:List Int).length:Int)-(u.1.2.2.1:Int)∧0≤(u.1.2.2.1:Int)∧(8≤(u.1.2.1:List Int).length∧(u.1.2.1:List Int).length≤40)∧Sr u.2.1.1 (k+1+6*(u.1.2.2.1:Int))) ?_ ms.length _ ⟨by dsimp only; omega,by dsimp only; omega,hms,h1.1.le (by dsimp only; omega)⟩ (by rw [QI]; omega)
  intro rec m u ⟨hm,g1,hl,hs⟩ ih;unfold l_bw_3;have hk0:=hs.pos;refine Dr.ite (fun c=>?_) fun c=>?_
  ·rw [QC] at c;have e:IntKind.i64.wrap ((u.1.2.2.1:Int)+1)=(u.1.2.2.1:Int)+1:=Qw (by omega) (by omega)
   refine (Qdm hs (by omega) _).bind fun r8 h8=>Dr.ite (fun _=>?_) fun _=>?_
   ·refine (QmO h8 (by omega)).bind fun r9 h9=>Dr.gat rfl ⟨g1,c⟩ fun _ _=>ih (m-1) _ (by omega) ?_
    rw [e];exact ⟨by simp; omega,by dsimp only; omega,by simpa using hl,h9.1.le (by dsimp only; omega)⟩
   ·refine ih (m-1) _ (by omega) ?_
    rw [e];exact ⟨by dsimp only; omega,by dsimp only; omega,hl,h8.le (by dsimp only; omega)⟩
  ·rw [QC] at c;exact Dr.ret ⟨_,rfl,hs.le (by omega),hl⟩
 refine (key _ hlen).bind fun z hz=>?_
 obtain ⟨x,rfl,g1,g2⟩:=hz;refine (QX g1 (by omega) _).bind fun r16 h16=>Dr.ite (fun _=>?_) fun _=>Dr.ite (fun _=>?_) fun _=>Dr.ite (fun _=>?_) fun _=>?_
 ·exact Dr.guard ⟨by decide,by omega,Int.le_refl _⟩ (Dr.ret ⟨h16.1.le (by omega),by simp; omega⟩)
 ·exact (QX h16.1 (by omega) _).bind fun r18 h18=>(QbP h18.1 (by omega) _ _).bind fun r19 h19=>Dr.gat rfl (by have:=h18.2.e; omega) fun _ _=>Dr.ret ⟨h19.1.le (by omega),by simp; omega⟩
 ·exact Dr.ret ⟨h16.1.le (by omega),by simp⟩
 ·exact Dr.ret ⟨h16.1.le (by omega),by have:=g2.2; dsimp only; omega⟩
theorem Dr.step {X Y:Type} {o:Option X} {v:X} {f:X→Option Y} {P:Y→Prop} (h:o=some v) (g:Dr (f v) P):Dr (o.bind f) P:=by rw [h]; exact g
theorem Dr.pos {X:Type} {c:Prop} [Decidable c] {a b:Option X} {P:X→Prop} (hc:c) (h:Dr a P):Dr (if c then a else b) P:=by rw [if_pos hc]; exact h
theorem Dr.neg {X:Type} {c:Prop} [Decidable c] {a b:Option X} {P:X→Prop} (hc: ¬c) (h:Dr b P):Dr (if c then a else b) P:=by rw [if_neg hc]; exact h
theorem Dr.eq {X:Type} {o:Option X} {v:X} (h:Dr o fun r=>r=v):o=some v:=by
 obtain ⟨_,e,rfl⟩:=h;exact e
abbrev Yes (o:Option ((Bool×Unit)×Unit)):Prop:=Dr o fun r=>r=((true,()),())
theorem yes {b:Bool} (h:b=true):Yes (some ((b,()),())):=by subst h; exact ⟨_,rfl,rfl⟩
def Mc.hart (s:Mc):QQ:=(s.r,s.pc,s.cs,s.ha,s.wa,s.ru,s.dn,s.iq,s.oq,())
theorem Qtf (s:Mc) (l:List TwoD) (op d a i:Int):(exM s l op d a i).2.2.2.m.length=s.m.length:=by
 unfold exM
 let P:Bool×Int×Int×Mc→Prop:=fun x=>x.2.2.2.m.length=s.m.length
 exact Qh P (fun _=>rfl) fun _=>Qh P (fun _=>rfl) fun _=>Qh P (fun _=>Qh P (fun _=>rfl) fun _=>Qh P (fun _=>rfl) fun _=>rfl) fun _=>
  Qh P (fun _=>Qh P (fun _=>rfl) fun _=>Qh P (fun _=>rfl) fun _=>List.length_set) fun _=>Qh P (fun _=>rfl) fun _=>Qh P (fun _=>rfl) fun _=>Qh P (fun _=>rfl) fun _=>
  Qh P (fun _=>rfl) fun _=>Qh P (fun _=>rfl) fun _=>Qh P (fun _=>rfl) fun _=>Qh P (fun _=>rfl) fun _=>Qh P (fun _=>rfl) fun _=>Qh P (fun _=>rfl) fun _=>rfl
theorem Qnk (s:Mc) (l:List TwoD) (op d a i:Int):(doM s l op d a i).2.m.length=s.m.length:=by
 have:=Qtf s l op d a i;unfold doM;dsimp only;split <;> exact this
theorem Qlw (s:Mc) (l:List TwoD):(runM s l).m.length=s.m.length:=by
 unfold runM;dsimp only;split
 ·rfl
 ·split
  ·split
   ·exact Qnk s l _ _ _ _
   ·exact Qnk s l _ _ _ _
  ·rfl
theorem QjX (s:Mc) (l:List TwoD):(Qaf s l).m.length=s.m.length:=by
 unfold Qaf;dsimp only;split
 ·rfl
 ·split
  ·rfl
  ·split
   ·split
    ·rfl
    ·exact Qlw { s with ring:= -1,fall:= -1,wa:=false } l
   ·exact Qlw { s with ring:= -1,fall:= -1 } l
theorem OkS.hartM {s:Mc} {l:List TwoD} (h:OkS s l):hartM s.hart=0:=by
 unfold Go.Proofs.YtkkljegcnnfanaaGreatDoor.hartM Mc.hart;dsimp only
 rw [if_pos ⟨h.r.len,h.c.len,h.r.zero⟩,if_pos ⟨Qar.2 h.r.words,QfS.2 h.pc,Qar.2 h.c.words,Qar.2 h.i.words,Qar.2 h.o.words⟩,if_pos ⟨h.i.len,h.o.len⟩,
  if_pos (Qee.2 h.d),if_pos ⟨h.c.st,h.c.msk,h.c.tb,h.c.pd,h.c.tm⟩]
theorem QvT {c:List Int} (h: ¬(1048576:Int)< ((c.length:Nat):Int)) (hb: ∀b∈c,0≤b∧b≤255):Byt c:=⟨hb,by omega⟩
theorem Bd.top {n x:Int} (h:Bd (n+1) x) (hn:0≤n):0≤x∧x≤n:=by unfold Bd at h; omega
section
variable {l:List TwoD} {s s':Mc}
def MemW (l:List TwoD) (m m':List Int):Prop:= ∀i:Nat,m'[i]?≠m[i]?→ ∃p∈l,p.1=((i / 8:Nat):Int)∧iand .i64 p.2.1 2≠0
theorem MemW.refl (l:List TwoD) (m:List Int):MemW l m m:=fun i h=>absurd rfl h
theorem QsF {l:List TwoD} (hl:l.length=8) {at_ kind:Int} (h0:0≤Qag l at_ kind): ∃p∈l,p.1=Qag l at_ kind / 8∧iand .i64 p.2.1 kind≠0:=by
 unfold Qag at*;split at h0
 ·rename_i h1;rw [if_pos h1];split at h0
  ·rename_i h2;rw [if_pos h2];refine ⟨_,Qaz (l:=l) (k:=(at_ / 8).toNat) (d:=(-1,0,())) (by rw [hl]; omega),by omega,?_⟩
   simp only [mayP,Bool.and_eq_true,decide_eq_true_eq] at h2;simpa using h2.2
  ·omega
 ·omega
theorem QnX {cs:List Int} {m:List Int} {at_ kind:Int} (h0:(Qv cs l m at_ kind).2=0) (h1: ¬1000≤(Qv cs l m at_ kind).1): ∃g,(Qv cs l m at_ kind).1=Qag l g kind∧0≤Qag l g kind:=by
 unfold Qv at*;cases hs:QbR cs l m with
 | none=>rw [hs] at h0; simp at h0
 | some s=>
  rw [hs] at h0 h1;simp only at h0 h1⊢;split at h0
  ·exact absurd h0 (Qdn kind)
  ·rename_i a1;rw [if_neg a1] at h1⊢;split at h0
   ·rename_i a2;rw [if_pos a2] at h1⊢;split at h0
    ·simp at h0
    ·rename_i a3;rw [if_neg a3] at h1⊢;exfalso;simp only at h1;omega
   ·rename_i a2;rw [if_neg a2] at h1⊢;split at h0
    ·exact absurd h0 (Qdn kind)
    ·rename_i a3;rw [if_neg a3] at h1⊢;exact ⟨_,rfl,by omega⟩
theorem QuG (hl:l.length=8) (s:Mc) (op d a i:Int):MemW l s.m (exM s l op d a i).2.2.2.m:=by
 unfold exM
 let P:Bool×Int×Int×Mc→Prop:=fun x=>MemW l s.m x.2.2.2.m
 have r0:=MemW.refl l s.m
 refine Qh P (fun _=>r0) fun _=>Qh P (fun _=>r0) fun _=>Qh P (fun _=>Qh P (fun _=>r0) fun _=>Qh P (fun _=>r0) fun _=>r0) fun _=>
  Qh P (fun _=>Qh P (fun _=>r0) fun h2=>Qh P (fun _=>r0) fun h1=>?_) fun _=>Qh P (fun _=>r0) fun _=>Qh P (fun _=>r0) fun _=>Qh P (fun _=>r0) fun _=>
  Qh P (fun _=>r0) fun _=>Qh P (fun _=>r0) fun _=>Qh P (fun _=>r0) fun _=>Qh P (fun _=>r0) fun _=>Qh P (fun _=>r0) fun _=>Qh P (fun _=>r0) fun _=>r0
 intro k hk;obtain ⟨g,e1,e2⟩:=QnX (by simpa using h2) h1
 obtain ⟨p,hp,q1,q2⟩:=QsF hl e2;dsimp only at hk;rw [e1] at hk;by_cases hkk:(Qag l g 2).toNat=k
 ·subst hkk;exact ⟨p,hp,by rw [q1]; omega,q2⟩
 ·exact absurd (List.getElem?_set_ne hkk) hk
theorem QvW (s:Mc) (l:List TwoD) (op d a i:Int):(exM s l op d a i).2.2.2.dn=s.dn∧((exM s l op d a i).1=true→(exM s l op d a i).2.2.2.fall=s.fall):=by
 unfold exM
 let P:Bool×Int×Int×Mc→Prop:=fun x=>x.2.2.2.dn=s.dn∧(x.1=true→x.2.2.2.fall=s.fall)
 have r0: ∀{x:Bool×Int×Int×Mc},x.2.2.2.dn=s.dn→x.2.2.2.fall=s.fall→P x:=fun h1 h2=>⟨h1,fun _=>h2⟩
 have r1: ∀{c t:Int},P (false,0,0,s.trap c t):=⟨rfl,fun h=>by cases h⟩
 exact Qh P (fun _=>r0 rfl rfl) fun _=>Qh P (fun _=>r0 rfl rfl) fun _=>Qh P (fun _=>Qh P (fun _=>r1) fun _=>Qh P (fun _=>r0 rfl rfl) fun _=>r0 rfl rfl) fun _=>
  Qh P (fun _=>Qh P (fun _=>r1) fun h2=>Qh P (fun _=>r0 rfl rfl) fun h1=>r0 rfl rfl) fun _=>Qh P (fun _=>r0 rfl rfl) fun _=>Qh P (fun _=>r0 rfl rfl) fun _=>Qh P (fun _=>r0 rfl rfl) fun _=>
  Qh P (fun _=>r0 rfl rfl) fun _=>Qh P (fun _=>r0 rfl rfl) fun _=>Qh P (fun _=>r1) fun _=>Qh P (fun _=>r0 rfl rfl) fun _=>Qh P (fun _=>r0 rfl rfl) fun _=>Qh P (fun _=>r0 rfl rfl) fun _=>r0 rfl rfl
structure StepP (l:List TwoD) (s s':Mc):Prop where
 mem:MemW l s.m s'.m
 dn:s.dn≤s'.dn∧s'.dn≤s.dn+1
 fl:0≤s'.fall→s'.dn=s.dn
theorem QwB (hl:l.length=8) (s:Mc) (op d a i:Int):MemW l s.m (doM s l op d a i).2.m∧(doM s l op d a i).2.dn=s.dn∧((doM s l op d a i).1=true→(doM s l op d a i).2.fall=s.fall):=by
 have h1:=QuG hl s op d a i;have h2:=QvW s l op d a i;unfold doM;dsimp only;split
 ·rename_i h;exact ⟨h1,h2.1,fun _=>h2.2 h⟩
 ·exact ⟨h1,h2.1,fun h=>by cases h⟩
theorem Qws (hl:l.length=8) (s:Mc) (hf:s.fall= -1) (hd:s.dn≤1000000000):StepP l s (runM s l):=by
 have r1: ∀{c t:Int},StepP l s (s.trap c t):=⟨MemW.refl l s.m,⟨Int.le_refl _,by show s.dn≤s.dn+1; omega⟩,fun _=>rfl⟩
 unfold runM;refine Qh (StepP l s) (fun _=>r1) fun _=>Qh (StepP l s) (fun _=>?_) fun _=>r1
 generalize (decM (s.m.getD (Qv s.cs l s.m s.pc 4).1.toNat 0))=x;obtain ⟨h1,h2,h3⟩:=QwB hl s x.1 x.2.1 x.2.2.1 x.2.2.2.1;refine Qh (StepP l s) (fun ht=>?_) fun _=>⟨h1,by omega,fun _=>h2⟩
 refine ⟨h1,?_,fun h=>?_⟩
 ·unfold Qft;dsimp only;rw [h2];split <;> omega
 ·exfalso;have:(Qft (doM s l x.1 x.2.1 x.2.2.1 x.2.2.2.1).2).fall= -1:=by rw [←hf]; exact h3 ht
  omega
theorem Qvt (hl:l.length=8) (s:Mc) (hd:s.dn≤1000000000):StepP l s (Qaf s l)∧(s.ha=true→(Qaf s l).pc=s.pc):=by
 have r0:StepP l s { s with ring:= -1,fall:= -1 }:=⟨MemW.refl l s.m,⟨Int.le_refl _,by show s.dn≤s.dn+1; omega⟩,fun _=>rfl⟩
 have r1: ∀{c t:Int},StepP l s (Mc.trap { s with ring:= -1,fall:= -1 } c t):=⟨MemW.refl l s.m,⟨Int.le_refl _,by show s.dn≤s.dn+1; omega⟩,fun _=>rfl⟩
 have ra: ∀b,StepP l s (runM { s with ring:= -1,fall:= -1,wa:=b } l):=fun b=>by
  obtain ⟨h1,h2,h3⟩:=Qws hl { s with ring:= -1,fall:= -1,wa:=b } rfl hd
  exact ⟨h1,h2,h3⟩
 unfold Qaf;refine Qh (fun x=>StepP l s x∧(s.ha=true→x.pc=s.pc)) (fun _=>⟨r0,fun _=>rfl⟩) fun h=>⟨?_,fun h'=>absurd h' h⟩
 exact Qh (StepP l s) (fun _=>r1) fun _=>Qh (StepP l s) (fun _=>Qh (StepP l s) (fun _=>r0) fun _=>ra false) fun _=>ra s.wa
end
def noPg:TwoD:=(-1,0,())
def QaP:List TwoD:=[noPg,noPg,noPg,noPg,noPg,noPg,noPg,noPg]
def QbA:Nat→List Int→List TwoD→List TwoD
 | _,[],l=>l
 | k,p::r,l=>QbA (k+1) r (l.set k (p,7,()))
def Qck (g:Int) (x:QN) (l:List TwoD):List TwoD:=
 let l1:=if x.1=g then l.set x.2.2.2.1.toNat (x.2.2.1,3,()) else l
 if x.2.1=g then l1.set x.2.2.2.2.1.toNat (x.2.2.1,1,()) else l1
def QaS (g:Int):List QN→List TwoD→List TwoD
 | [],l=>l
 | x::r,l=>QaS g r (Qck g x l)
def pgM (p:PolD) (g:Int):List TwoD:=QaS g p.2.1 (QbA 0 (p.1.getD g.toNat []) QaP)
theorem Qem: ∀(r:List Int) (k:Nat) (l:List TwoD),(QbA k r l).length=l.length
 | [],_,_=>rfl
 | p::r,k,l=>by rw [QbA,Qem r]; simp
theorem QbF (g:Int) (x:QN) (l:List TwoD):(Qck g x l).length=l.length:=by
 unfold Qck;dsimp only
 repeat' split
 all_goals simp
theorem Qjx (g:Int): ∀(r:List QN) (l:List TwoD),(QaS g r l).length=l.length
 | [],_=>rfl
 | x::r,l=>by rw [QaS,Qjx g r,QbF]
theorem Qda (p:PolD) (g:Int):(pgM p g).length=8:=by unfold pgM; rw [Qjx,Qem]; rfl
theorem Qln {P:TwoD→Prop}: ∀(r:List Int) (k:Nat) (l:List TwoD),(∀x∈r,P (x,7,()))→(∀q∈l,P q)→ ∀q∈QbA k r l,P q
 | [],_,_,_,h=>h
 | p::r,k,l,h1,h=>Qln r (k+1) _ (fun x hx=>h1 x (List.mem_cons_of_mem _ hx)) fun q hq=>by
  rcases List.mem_or_eq_of_mem_set hq with hq | rfl
  ·exact h q hq
  ·exact h1 p (by simp)
theorem QrQ {P:TwoD→Prop} {g:Int} {x:QN} {l:List TwoD} (h1:P (x.2.2.1,3,())) (h2:P (x.2.2.1,1,())) (h: ∀q∈l,P q): ∀q∈Qck g x l,P q:=by
 have s: ∀{l:List TwoD} {k:Nat} {y:TwoD},P y→(∀q∈l,P q)→ ∀q∈l.set k y,P q:=fun hy h q hq=>by
  rcases List.mem_or_eq_of_mem_set hq with hq | rfl
  ·exact h q hq
  ·exact hy
 unfold Qck;dsimp only;split
 ·split
  ·exact s h2 (s h1 h)
  ·exact s h2 h
 ·split
  ·exact s h1 h
  ·exact h
theorem Qjw {P:TwoD→Prop} {g:Int}: ∀(r:List QN) (l:List TwoD),(∀x∈r,P (x.2.2.1,3,())∧P (x.2.2.1,1,()))→(∀q∈l,P q)→ ∀q∈QaS g r l,P q
 | [],_,_,h=>h
 | x::r,l,h1,h=>Qjw r _ (fun y hy=>h1 y (List.mem_cons_of_mem _ hy)) (QrQ (h1 x (by simp)).1 (h1 x (by simp)).2 h)
theorem Qcl {p:PolD} {g:Int} (hok:OkPol p) (hg:isG p g=true):p.1.getD g.toNat []∈p.1:=by
 have:=Qbi.1 hg;exact Qaz (by omega)
theorem Qpu {p:PolD} {g:Int} (hok:OkPol p) (hg:isG p g=true): ∀q∈pgM p g,(-1≤q.1∧q.1≤23)∧0≤q.2.1∧q.2.1≤7:=by
 refine Qjw (P:=fun q=>(-1≤q.1∧q.1≤23)∧0≤q.2.1∧q.2.1≤7) _ _ (fun x hx=>?_) (Qln _ _ _ (fun x hx=>?_) ?_)
 ·have:=(QbO hok x hx).2.1;dsimp only;omega
 ·have:=(hok.own1 _ (Qcl hok hg)).2.2 x hx;dsimp only;omega
 ·intro q hq;simp only [QaP,List.mem_cons,List.not_mem_nil,or_false,or_self] at hq;subst hq;unfold noPg;decide
theorem QjG {r:List Int} {k i:Nat} {l:List TwoD} (h:i< r.length):QbA (k+i) (r.drop i) l=QbA (k+(i+1)) (r.drop (i+1)) (l.set (k+i) (r[i],7,())):=by
 rw [List.drop_eq_getElem_cons h,QbA];rfl
theorem Qip {g:Int} {r:List QN} {i:Nat} {l:List TwoD} (h:i< r.length):QaS g (r.drop i) l=QaS g (r.drop (i+1)) (Qck g r[i] l):=by
 rw [List.drop_eq_getElem_cons h,QaS]
theorem QpI (p:PolD) (g:Int):L_aj_3 ((p,(g,(([]:List TwoD),((0:Int),())))),((),()))=some (.inl ((p,(g,(QaP,()))),((),()))):=by kernel_rfl
theorem Qom {p:PolD} {g:Int} (hok:OkPol p) (hg:isG p g=true):F_aj (p,g,())=some ((pgM p g,()),()):=by
 have hgi:=Qbi.1 hg;have hi:g.toNat< p.1.length:=by omega
 have hown:=hok.own1 _ (Qcl hok hg);have hlane:=QbO hok;have hll:=hok.lanes.1;refine Dr.eq ?_;unfold F_aj;refine Dr.step (QpI p g) ?_;dsimp only
 have k1:Dr (L_aj_7 ((p,(g,(QaP,((0:Int),())))),((),()))) fun o=>o= .inl ((p,(g,(QbA 0 (p.1.getD g.toNat []) QaP,()))),((),())):=by
  refine Qaj (fun n u=> ∃(i:Nat) (l:List TwoD),u=((p,(g,(l,((i:Int),())))),((),()))∧n=(p.1.getD g.toNat []).length-i∧i≤(p.1.getD g.toNat []).length∧l.length=8∧QbA (0+i) ((p.1.getD g.toNat []).drop i) l=QbA 0 (p.1.getD g.toNat []) QaP) ?_ _ _ ⟨0,QaP,rfl,rfl,Nat.zero_le _,rfl,rfl⟩ (by rw [QI]; omega)
  rintro rec n _ ⟨i,l,rfl,hn,hin,hl,he⟩ ih;have e1:p.1[g.toNat]?=some (p.1.getD g.toNat []):=by rw [List.getD_eq_getElem?_getD,List.getElem?_eq_getElem hi]; rfl
  unfold l_aj_7;generalize p.1.getD g.toNat []=w at*;dsimp only;rw [if_pos hgi.1,e1,Obn];by_cases hlt:i< w.length
  case neg=>
   rw [if_neg (lt_f hlt)];rw [List.drop_of_length_le (by omega)] at he
   exact Dr.ret (by rw [←he]; rfl)
  rw [if_pos (lt_t hlt),if_pos hgi.1,Obn,if_pos nat0,Qn hlt,QR (by omega)]
  refine Dr.gat hl (by omega) fun _ _=>ih (n-1) _ (by omega) ⟨i+1,_,rfl,by omega,by omega,by simpa using hl,?_⟩
  rw [←he,QjG hlt,Int.toNat_natCast];simp only [Nat.zero_add]
 refine k1.bind fun o ho=>?_
 subst ho;dsimp only
 have k2:Dr (L_aj_11 ((p,(g,(QbA 0 (p.1.getD g.toNat []) QaP,((0:Int),())))),((),()))) fun o=>o= .inl ((pgM p g,()),((),())):=by
  refine Qaj (fun n u=> ∃(i:Nat) (l:List TwoD),u=((p,(g,(l,((i:Int),())))),((),()))∧n=p.2.1.length-i∧i≤p.2.1.length∧l.length=8∧QaS g (p.2.1.drop i) l=pgM p g) ?_ _ _ ⟨0,_,rfl,rfl,Nat.zero_le _,by rw [Qem]; rfl,rfl⟩ (by rw [QI]; omega)
  rintro rec n _ ⟨i,l,rfl,hn,hin,hl,he⟩ ih;unfold l_aj_11;dsimp only;by_cases hlt:i< p.2.1.length
  case neg=>
   rw [if_neg (lt_f hlt)];rw [List.drop_of_length_le (by omega)] at he
   exact Dr.ret (by rw [←he]; rfl)
  rw [if_pos (lt_t hlt),if_pos nat0,Qn hlt,QR (by omega)]
  have hla:=hlane _ (List.getElem_mem hlt);rw [Qip hlt] at he;have hl1:=QbF g p.2.1[i] l
  have fin: ∀l',l'=Qck g p.2.1[i] l→Dr (rec ((p,(g,(l',(((i+1:Nat):Int),())))),((),()))) fun o=>o= .inl ((pgM p g,()),((),())):=fun l' e=>by
   subst e;exact ih (n-1) _ (by omega) ⟨i+1,_,rfl,by omega,by omega,by rw [hl1]; exact hl,he⟩
  generalize p.2.1[i]=x at*;by_cases h1:x.1=g
  ·rw [if_pos (by simpa using h1)]
   refine Dr.gat hl (by omega) fun _ _=>?_
   by_cases h2:x.2.1=g
   ·rw [if_pos (by simpa using h2)]
    refine Dr.gat (n:=8) (by simpa using hl) (by omega) fun _ _=>fin _ ?_
    unfold Qck;dsimp only;rw [if_pos h1,if_pos h2]
   ·rw [if_neg (by simpa using h2)]
    refine fin _ ?_;unfold Qck;dsimp only;rw [if_pos h1,if_neg h2]
  ·rw [if_neg (by simpa using h1)]
   by_cases h2:x.2.1=g
   ·rw [if_pos (by simpa using h2)]
    refine Dr.gat hl (by omega) fun _ _=>fin _ ?_
    unfold Qck;dsimp only;rw [if_neg h1,if_pos h2]
   ·rw [if_neg (by simpa using h2)]
    refine fin _ ?_;unfold Qck;dsimp only;rw [if_neg h1,if_neg h2]
 refine k2.bind fun o ho=>?_
 subst ho;exact Dr.ret rfl
theorem Qsf:F_ds ([noPg],8,())=some ((QaP,()),()):=by kernel_rfl
theorem Qim {p:PolD} {g:Int} (hok:OkPol p) (hg:isG p g=true):F_dt (p,g,())=some ((pgM p g,()),()):=by
 have hgi:=Qbi.1 hg;have hi:g.toNat< p.1.length:=by omega
 have hown:=hok.own1 _ (Qcl hok hg);have hlane:=QbO hok;have hll:=hok.lanes.1;refine Dr.eq ?_;unfold F_dt;refine Dr.step rfl (Dr.step Qsf (Dr.guard hgi.1 ?_));have e1:p.1[g.toNat]?=some (p.1.getD g.toNat []):=by rw [List.getD_eq_getElem?_getD,List.getElem?_eq_getElem hi]; rfl
 refine Dr.step e1 ?_
 have k1:Dr (L_dt_3 ((p,(g,(QaP,(p.1.getD g.toNat [],((((p.1.getD g.toNat []).length:Nat):Int),((0:Int),())))))),((),()))) fun o=>o= .inl ((p,(g,(QbA 0 (p.1.getD g.toNat []) QaP,()))),((),())):=by
  generalize p.1.getD g.toNat []=w at*;refine Qaj (fun n u=> ∃(i:Nat) (l:List TwoD),u=((p,(g,(l,(w,(((w.length:Nat):Int),((i:Int),())))))),((),()))∧n=w.length-i∧i≤w.length∧l.length=8∧QbA (0+i) (w.drop i) l=QbA 0 w QaP) ?_ _ _ ⟨0,QaP,rfl,rfl,Nat.zero_le _,rfl,rfl⟩ (by rw [QI]; omega)
  rintro rec n _ ⟨i,l,rfl,hn,hin,hl,he⟩ ih;unfold l_dt_3;dsimp only;by_cases hlt:i< w.length
  case neg=>
   rw [if_neg (lt_f hlt)];rw [List.drop_of_length_le (by omega)] at he
   exact Dr.ret (by rw [←he]; rfl)
  rw [if_pos (lt_t hlt),if_pos nat0,Qn hlt,QR (by omega)]
  refine Dr.gat hl (by omega) fun _ _=>ih (n-1) _ (by omega) ⟨i+1,_,rfl,by omega,by omega,by simpa using hl,?_⟩
  rw [←he,QjG hlt,Int.toNat_natCast];simp only [Nat.zero_add]
 refine k1.bind fun o ho=>?_
 subst ho;dsimp only
 have k2:Dr (L_dt_8 ((g,(QbA 0 (p.1.getD g.toNat []) QaP,(p.2.1,(((p.2.1.length:Nat):Int),((0:Int),()))))),((),()))) fun o=>o= .inl ((pgM p g,()),((),())):=by
  refine Qaj (fun n u=> ∃(i:Nat) (l:List TwoD),u=((g,(l,(p.2.1,(((p.2.1.length:Nat):Int),((i:Int),()))))),((),()))∧n=p.2.1.length-i∧i≤p.2.1.length∧l.length=8∧QaS g (p.2.1.drop i) l=pgM p g) ?_ _ _ ⟨0,_,rfl,rfl,Nat.zero_le _,by rw [Qem]; rfl,rfl⟩ (by rw [QI]; omega)
  rintro rec n _ ⟨i,l,rfl,hn,hin,hl,he⟩ ih;unfold l_dt_8;dsimp only;by_cases hlt:i< p.2.1.length
  case neg=>
   rw [if_neg (lt_f hlt)];rw [List.drop_of_length_le (by omega)] at he
   exact Dr.ret (by rw [←he]; rfl)
  rw [if_pos (lt_t hlt),if_pos nat0,Qn hlt,QR (by omega)]
  have hla:=hlane _ (List.getElem_mem hlt);rw [Qip hlt] at he;have hl1:=QbF g p.2.1[i] l
  have fin: ∀l',l'=Qck g p.2.1[i] l→Dr (rec ((g,(l',(p.2.1,(((p.2.1.length:Nat):Int),(((i+1:Nat):Int),()))))),((),()))) fun o=>o= .inl ((pgM p g,()),((),())):=fun l' e=>by
   subst e;exact ih (n-1) _ (by omega) ⟨i+1,_,rfl,by omega,by omega,by rw [hl1]; exact hl,he⟩
  generalize p.2.1[i]=x at*;by_cases h1:x.1=g
  ·rw [if_pos (by simpa using h1)]
   refine Dr.gat hl (by omega) fun _ _=>?_
   by_cases h2:x.2.1=g
   ·rw [if_pos (by simpa using h2)]
    refine Dr.gat (n:=8) (by simpa using hl) (by omega) fun _ _=>fin _ ?_
    unfold Qck;dsimp only;rw [if_pos h1,if_pos h2]
   ·rw [if_neg (by simpa using h2)]
    refine fin _ ?_;unfold Qck;dsimp only;rw [if_pos h1,if_neg h2]
  ·rw [if_neg (by simpa using h1)]
   by_cases h2:x.2.1=g
   ·rw [if_pos (by simpa using h2)]
    refine Dr.gat hl (by omega) fun _ _=>fin _ ?_
    unfold Qck;dsimp only;rw [if_neg h1,if_pos h2]
   ·rw [if_neg (by simpa using h2)]
    refine fin _ ?_;unfold Qck;dsimp only;rw [if_neg h1,if_neg h2]
 refine k2.bind fun o ho=>?_
 subst ho;exact Dr.ret rfl
theorem Qgc {α:Type} {l:List α} {i:Nat} (h:i< l.length):l.take (i+1)=l.take i++[l[i]]:=by rw [List.take_add_one,List.getElem?_eq_getElem h]; rfl
def Qdk (l:List TwoD):List TwoD:=l.mapIdx fun k p=>if 0≤p.1 then ((k:Int),p.2) else p
theorem Qgv (l:List TwoD):(Qdk l).length=l.length:=by unfold Qdk; simp
theorem Qre {l:List TwoD} {i:Nat} (h:i< l.length):(Qdk l)[i]'(by rw [Qgv]; exact h)=if 0≤l[i].1 then ((i:Int),l[i].2) else l[i]:=by
 unfold Qdk;rw [List.getElem_mapIdx]
def Qiv (s:List Int) (k:Nat) (ws:List Int):List Int:=s.take (8*k)++(ws++s.drop (8*k+8))
theorem QhU {s ws:List Int} {k:Nat} (hs:s.length=64) (hk:k< 8) (hw:ws.length=8):(Qiv s k ws).length=64:=by unfold Qiv; simp; omega
theorem Qvh {m:List Int} {p:Int} (h:0≤p∧8*p+8≤(m.length:Int)):(pg m p).length=8:=by unfold pg; simp; omega
theorem QiD (s:TwoD) (r:List TwoD):QH (-1) (s::r)=s.2.1+QH (-1) r:=by
 simp only [QH];rw [if_pos (.inl (by decide))]
theorem QqW {s:TwoD} {r:List TwoD} {k:Nat} {a:Int} (h:s.2.1≤a):QE k (s::r) a=QE (k+1) r (a-s.2.1):=by simp only [QE]; rw [if_pos h]
theorem QoA {s:TwoD} {r:List TwoD} {k:Nat} {a:Int} (h: ¬s.2.1≤a):QE k (s::r) a=(k,a,s.2.1-a):=by simp only [QE]; rw [if_neg h]
theorem QmK: ∀{m:List TwoD} {k:Nat} {a:Int},(∀s∈m,1≤s.2.1∧s.2.1≤50)→0≤a→a+1< QH (-1) m→
  QE k m (a+1)=if (QE k m a).2.2=1 then ((QE k m a).1+1,0,(m.getD ((QE k m a).1+1-k) (0,0,())).2.1) else ((QE k m a).1,(QE k m a).2.1+1,(QE k m a).2.2-1)
 | [],k,a,_,h0,h1=>by simp [QH] at h1; omega
 | s::r,k,a,hs,h0,h1=>by
  rw [QiD] at h1;have hr: ∀s∈r,1≤s.2.1∧s.2.1≤50:=fun q hq=>hs q (List.mem_cons_of_mem _ hq)
  by_cases h:s.2.1≤a
  ·rw [QqW h,QqW (by omega)]
   have e:a+1-s.2.1=(a-s.2.1)+1:=by omega
   rw [e,QmK hr (by omega) (by omega)]
   obtain ⟨g0,_⟩:=Qbf (m:=r) (k:=k+1) (a:=a-s.2.1) hr (by omega) (by omega)
   have e2:(QE (k+1) r (a-s.2.1)).1+1-k=((QE (k+1) r (a-s.2.1)).1+1-(k+1))+1:=by omega
   rw [e2,List.getD_cons_succ]
  ·rw [QoA h];have hs1:=hs s (by simp)
   by_cases h2:s.2.1≤a+1
   ·rw [QqW h2,if_pos (by simp only; omega)]
    have e:a+1-s.2.1=0:=by omega
    rw [e];cases r with
    | nil=>simp [QH] at h1; omega
    | cons q r=>
     have:=hr q (by simp)
     rw [QoA (by omega)]
     have e3:k+1-k=1:=by omega
     rw [e3];simp
   ·rw [QoA h2,if_neg (by simp only; omega)]
    simp only;congr 2;omega
theorem QqV: ∀{m:List TwoD} {k:Nat} {a:Int},(∀s∈m,1≤s.2.1∧s.2.1≤50)→0≤a→a+1=QH (-1) m→(QE k m a).1+1=k+m.length∧(QE k m a).2.2=1
 | [],k,a,_,h0,h1=>by simp [QH] at h1; omega
 | s::r,k,a,hs,h0,h1=>by
  rw [QiD] at h1;have hr: ∀s∈r,1≤s.2.1∧s.2.1≤50:=fun q hq=>hs q (List.mem_cons_of_mem _ hq)
  by_cases h:s.2.1≤a
  ·rw [QqW h];have:=QqV (k:=k+1) hr (a:=a-s.2.1) (by omega) (by omega)
   simp only [List.length_cons];omega
  ·rw [QoA h];have hp:=(Qdi (g:= -1) hr).1;cases r with
   | nil=>
    have h0:QH (-1) ([]:List TwoD)=0:=rfl;rw [h0] at h1;show k+1=k+(0+1)∧s.2.1-a=1;omega
   | cons q r=>
    have:=QdE hr (by simp)
    omega
theorem Qoz {m:List TwoD} (hs: ∀s∈m,1≤s.2.1∧s.2.1≤50) (hl:1≤m.length):QE 0 m 0=(0,0,(m.getD 0 (0,0,())).2.1):=by
 cases m with
 | nil=>simp at hl
 | cons s r=>
  have:=hs s (by simp)
  rw [QoA (by omega)]
  simp
def QeS (plan:List TwoD) (slot left:Int):Int×Int:=
 if left-1=0 then ((slot+1) % (plan.length:Int),(plan.getD ((slot+1) % (plan.length:Int)).toNat (0,0,())).2.1) else (slot,left-1)
theorem Qep {p:PolD} (hok:OkPol p): ∀s∈p.2.2.2.1,1≤s.2.1∧s.2.1≤50:=fun s hs=>(hok.slots s hs).2
theorem Qvw {p:PolD} (hok:OkPol p) (c:Int):(0≤(QaV p c).1∧(QaV p c).1< (p.2.2.2.1.length:Int))∧1≤(QaV p c).2∧(QaV p c).2≤50:=by
 have hR:=QdE (Qep hok) hok.plan.1;obtain ⟨h1,s,h2,h3,h4,h5⟩:=Qbf (m:=p.2.2.2.1) (k:=0) (a:=c % QH (-1) p.2.2.2.1) (Qep hok) (Int.emod_nonneg _ (by omega)) (Int.emod_lt_of_pos _ (by omega))
 rw [Nat.sub_zero] at h2;have h6:=(List.getElem?_eq_some_iff.1 h2).1;have h7:=Qep hok s (List.mem_of_getElem? h2);unfold QaV;dsimp only;omega
theorem QlK {p:PolD} (hok:OkPol p) {c:Int} (h0:0≤c):QaV p (c+1)=QeS p.2.2.2.1 (QaV p c).1 (QaV p c).2:=by
 have hR:=QdE (Qep hok) hok.plan.1;have hs:=Qep hok;have hlen:=hok.plan.1;unfold QaV QeS;dsimp only;generalize p.2.2.2.1=m at*;generalize hRR:QH (-1) m=R at*;have a0:=Int.emod_nonneg c (b:=R) (by omega)
 have a1:=Int.emod_lt_of_pos c (b:=R) (by omega)
 have hadd:(c+1) % R=if c % R+1=R then 0 else c % R+1:=by
  rw [Int.add_emod];by_cases hR1:R=1
  ·subst hR1;simp
  ·rw [Int.emod_eq_of_lt (a:=1) (by omega) (by omega)]
   split
   ·rename_i e; rw [e]; exact Int.emod_self
   ·exact Int.emod_eq_of_lt (by omega) (by omega)
 rw [hadd];generalize c % R=a at*;by_cases hl:a+1=R
 ·rw [if_pos hl,Qoz hs hlen];obtain ⟨e1,e2⟩:=QqV (k:=0) hs a0 (by rw [hRR]; exact hl)
  rw [if_pos (by rw [e2]; decide)]
  have e3:((QE 0 m a).1:Int)+1=(m.length:Int):=by omega
  rw [e3,Int.emod_self];rfl
 ·rw [if_neg hl,QmK hs a0 (by rw [hRR]; omega)]
  obtain ⟨_,s,h2,h3,h4,h5⟩:=Qbf (m:=m) (k:=0) (a:=a) hs a0 (by rw [hRR]; exact a1)
  rw [Nat.sub_zero] at h2;have h6:=(List.getElem?_eq_some_iff.1 h2).1;by_cases h1:(QE 0 m a).2.2=1
  ·rw [if_pos h1,if_pos (by omega)]
   have hlt:(QE 0 m a).1+1< m.length:=by
    have key:=QmK (k:=0) hs a0 (by rw [hRR]; omega:a+1< QH (-1) m)
    rw [if_pos h1] at key;obtain ⟨_,s',h2',_⟩:=Qbf (m:=m) (k:=0) (a:=a+1) hs (by omega) (by rw [hRR]; omega)
    rw [key,Nat.sub_zero] at h2';exact (List.getElem?_eq_some_iff.1 h2').1
   have e4:(((QE 0 m a).1:Int)+1) % (m.length:Int)=(((QE 0 m a).1+1:Nat):Int):=by rw [Int.emod_eq_of_lt (by omega) (by omega)]; omega
   rw [e4,Int.toNat_natCast,Nat.sub_zero]
  ·rw [if_neg h1,if_neg (by omega)]
structure HK (x:QF):Prop where
 pol:polM x.1=0
 mem:QA x.2.1=0∧x.2.1.length=192
 len:x.2.2.1.length=x.1.1.length
 harts: ∀h∈x.2.2.1,hartM h=0
 clock:0≤x.2.2.2.2.2.1∧x.2.2.2.2.2.1≤1000000
 slot:x.2.2.2.1=(QaV x.1 x.2.2.2.2.2.1).1
 left:x.2.2.2.2.1=(QaV x.1 x.2.2.2.2.2.1).2
theorem HK.ok {x:QF} (h:HK x):OkPol x.1:=QeT h.pol
theorem Qik: ∀{m:List QQ},QhI m=none↔ ∀h∈m,hartM h=0:=by
 have key: ∀{m:List QQ} {i:Nat},scan (fun (_:Nat) h=>nz (hartM h)) i m=none↔ ∀h∈m,hartM h=0:=by
  intro m
  induction m with
  | nil=>intro i; simp [scan]
  | cons y r ih=>
   intro i;simp only [scan];by_cases hy:hartM y=0
   ·have:nz (hartM y)=none:=by unfold nz; rw [if_neg (by simpa using hy)]
    rw [this];simp only;rw [ih];simp [hy]
   ·have:nz (hartM y)=some (hartM y):=by unfold nz; rw [if_pos hy]
    rw [this];simp [hy]
 intro m;unfold QhI;exact key
theorem HK.of {x:QF} (h:Qch x=0):HK x:=by
 have hp:=Qfn h;unfold Qch at h;rw [if_neg (by simpa using hp)] at h
 split at h
 ·rename_i g;cases hh:QhI x.2.2.1 with
  | some c=>
   rw [hh] at h
   have:c≠0:=by
    have: ∀{m:List QQ} {i:Nat} {c:Int},scan (fun (_:Nat) h=>nz (hartM h)) i m=some c→c≠0:=by
     intro m
     induction m with
     | nil=>intro i c h; simp [scan] at h
     | cons y r ih=>
      intro i c h;simp only [scan] at h;split at h
      ·rename_i c' hc';obtain rfl:=Osj h;unfold nz at hc';split at hc'
       ·obtain rfl:=Osj hc'; assumption
       ·cases hc'
      ·exact ih h
    exact this hh
   exact absurd h this
  | none=>
   rw [hh] at h;simp only at h;split at h
   ·rename_i hc;split at h
    ·rename_i hs;exact ⟨hp,g.1,g.2,Qik.1 hh,Qee.1 hc,hs.1,hs.2⟩
    ·cases h
   ·cases h
 ·cases h
theorem HK.to {x:QF} (h:HK x):Qch x=0:=by
 unfold Qch;rw [if_neg (by simpa using h.pol),if_pos ⟨h.mem,h.len⟩,Qik.2 h.harts]
 simp only;rw [if_pos (Qee.2 h.clock),if_pos ⟨h.slot,h.left⟩]
theorem Qjm {h:QQ} (hh:hartM h=0):Qcg 1048576 h:=by
 unfold hartM at hh;split at hh
 ·rename_i c1;split at hh
  ·split at hh
   ·rename_i c3;exact ⟨by omega,by omega,by omega,by omega⟩
   ·cases hh
  ·cases hh
 ·cases hh
theorem Qhn {p:PolD} (h:OkPol p):Qfy 1048576 p:=by
 have h1:=h.own; have h2:=h.lanes.1; have h3:=h.bells.1; have h4:=h.plan.2;exact ⟨⟨by omega,fun l hl=>by have:=(h.own1 l hl).2.1; omega⟩,by omega,by omega,by omega⟩
theorem HK.le {x:QF} (h:HK x):QdS 1048576 x:=by
 have h1:=h.mem.2; have h2:=h.len; have h3:=h.ok.own;exact ⟨Qhn h.ok,by omega,by omega,fun y hy=>Qjm (h.harts y hy)⟩
abbrev QcP:=List (List Int)×List QN×List TwoD×List TwoD×List Int×List QQ×Int×Int×Int×Unit
def boxH (x:QF):QcP:=(x.1.1,x.1.2.1,x.1.2.2.1,x.1.2.2.2.1,x.2.1,x.2.2.1,x.2.2.2.1,x.2.2.2.2.1,x.2.2.2.2.2.1,())
def QqM (h:QQ):QQ:=(h.1,h.2.1,h.2.2.1,h.2.2.2.1,h.2.2.2.2.1,true,h.2.2.2.2.2.2)
def Qbc (k:Int) (hs:List QQ):List QQ:=hs.set k.toNat (QqM (hs.getD k.toNat QY))
def turnG (x:QF):Int:=(x.1.2.2.2.1.getD x.2.2.2.1.toNat (0,0,())).1
def QS (x:QF):Mc:=Qaf (Mc.of (x.2.2.1.getD (turnG x).toNat QY) x.2.1) (pgM x.1 (turnG x))
def QU (x:QF):List QQ:=x.2.2.1.set (turnG x).toNat (QS x).hart
def QbB (x:QF):Bool:=x.1.2.2.1.any (Qao (turnG x,(QS x).ring,()))
def QP (x:QF):QF:=
 (x.1,(QS x).m,(if QbB x=true then Qbc (QS x).ring (QU x) else QU x),(QeS x.1.2.2.2.1 x.2.2.2.1 x.2.2.2.2.1).1,(QeS x.1.2.2.2.1 x.2.2.2.1 x.2.2.2.2.1).2,x.2.2.2.2.2.1+1,())
theorem QtJ {p:PolD} (hok:OkPol p): ∀b∈p.2.2.1,isG p b.1=true∧isG p b.2.1=true∧b.1≠b.2.1:=by
 intro b hb;obtain ⟨i,e⟩:=Qbm hok.bells.2 b hb;have e:=Qmr e;unfold Qfa at e;split at e
 ·rename_i h; exact absurd e h
 ·rename_i h0;have h0:QcF p b.1 b.2.1=0:=by simpa using h0
  unfold QcF at h0;split at h0
  ·split at h0
   ·split at h0
    ·cases h0
    ·exact ⟨‹_›, ‹_›, ‹_›⟩
   ·cases h0
  ·cases h0
theorem HK.turn {x:QF} (h:HK x):(0≤x.2.2.2.1∧x.2.2.2.1< (x.1.2.2.2.1.length:Int))∧(1≤x.2.2.2.2.1∧x.2.2.2.2.1≤50)∧isG x.1 (turnG x)=true∧x.1.2.2.2.1[x.2.2.2.1.toNat]?=some (x.1.2.2.2.1.getD x.2.2.2.1.toNat (0,0,())):=by
 have ht:=Qvw h.ok x.2.2.2.2.2.1;rw [←h.slot, ←h.left] at ht;have hlt:x.2.2.2.1.toNat< x.1.2.2.2.1.length:=by omega
 refine ⟨ht.1,ht.2,(h.ok.slots _ (Qaz (d:=(0,0,())) hlt)).1,?_⟩;rw [List.getD_eq_getElem?_getD,List.getElem?_eq_getElem hlt];rfl
theorem HK.guest {x:QF} (h:HK x) {g:Int} (hg:isG x.1 g=true):(0≤g∧g< (x.2.2.1.length:Int))∧x.2.2.1[g.toNat]?=some (x.2.2.1.getD g.toNat QY)∧hartM (x.2.2.1.getD g.toNat QY)=0:=by
 have hgi:=Qbi.1 hg;have hl:=h.len;have hlt:g.toNat< x.2.2.1.length:=by omega
 refine ⟨by omega,?_,h.harts _ (Qaz hlt)⟩
 rw [List.getD_eq_getElem?_getD,List.getElem?_eq_getElem hlt];rfl
theorem HK.okL {x:QF} (h:HK x) {g:Int} (hg:isG x.1 g=true):OkL (pgM x.1 g) x.2.1:=by
 have hm:=h.mem
 have hw:allW x.2.1=true:=by
  have h1:=h.mem.1;unfold QA at h1;rw [if_pos (QdU h.mem.1)] at h1;split at h1
  ·assumption
  ·cases h1
 refine ⟨Qda _ _,fun q hq=>?_,Qar.1 hw,by omega⟩
 have:=Qpu h.ok hg q hq;omega
theorem HK.okS {x:QF} (h:HK x):OkS (Mc.of (x.2.2.1.getD (turnG x).toNat QY) x.2.1) (pgM x.1 (turnG x)):=QvG (h.guest h.turn.2.2.1).2.2 (h.okL h.turn.2.2.1)
theorem HK.okT {x:QF} (h:HK x):OkS (QS x) (pgM x.1 (turnG x)):=QjY h.okS
theorem QpA {h:QQ} (hh:hartM h=0):hartM (QqM h)=0:=hh
theorem Qho {x:QF} (h:HK x) (hr:QbB x=true):isG x.1 (QS x).ring=true:=by
 unfold QbB at hr;obtain ⟨b,hb,e⟩:=List.any_eq_true.1 hr;unfold Qao at e;simp only [Bool.and_true,Bool.and_eq_true,beq_iff_eq] at e;rw [e.2];exact (QtJ h.ok b hb).2.1
theorem Qbv (x:QF):(QU x).length=x.2.2.1.length:=by unfold QU; simp
theorem Qfm {x:QF} (h:HK x): ∀y∈QU x,hartM y=0:=by
 intro y hy;unfold QU at hy;rcases List.mem_or_eq_of_mem_set hy with hy | rfl
 ·exact h.harts y hy
 ·exact h.okT.hartM
theorem QjZ {x:QF} (h:HK x):(QS x).m.length=192:=by unfold QS; rw [QjX]; exact h.mem.2
theorem HK.next {x:QF} (h:HK x) (hc:x.2.2.2.2.2.1< 1000000):HK (QP x):=by
 have hl:=h.okT.l;refine ⟨h.pol,⟨?_,QjZ h⟩,?_,?_,?_,?_,?_⟩
 ·show QA (QS x).m=0;unfold QA;rw [QjZ h,if_pos (by decide),if_pos (Qar.2 hl.words)]
 ·show (if QbB x=true then Qbc (QS x).ring (QU x) else QU x).length=_
  split
  ·unfold Qbc; rw [List.length_set,Qbv]; exact h.len
  ·rw [Qbv]; exact h.len
 ·show ∀y∈(if QbB x=true then Qbc (QS x).ring (QU x) else QU x),hartM y=0
  split
  ·rename_i hr;have hg:=Qbi.1 (Qho h hr);intro y hy;unfold Qbc at hy;rcases List.mem_or_eq_of_mem_set hy with hy | rfl
   ·exact Qfm h y hy
   ·exact QpA (Qfm h _ (Qaz (by rw [Qbv,h.len]; omega)))
  ·exact Qfm h
 ·have:=h.clock;show 0≤x.2.2.2.2.2.1+1∧x.2.2.2.2.2.1+1≤1000000;omega
 ·show (QeS x.1.2.2.2.1 x.2.2.2.1 x.2.2.2.2.1).1=(QaV x.1 (x.2.2.2.2.2.1+1)).1;rw [QlK h.ok h.clock.1, ←h.slot, ←h.left]
 ·show (QeS x.1.2.2.2.1 x.2.2.2.1 x.2.2.2.2.1).2=(QaV x.1 (x.2.2.2.2.2.1+1)).2;rw [QlK h.ok h.clock.1, ←h.slot, ←h.left]
theorem Dr.gatE {X Y:Type} {xs:List X} {i:Int} {n:Nat} {f:X→Option Y} {P:Y→Prop} (hn:xs.length=n) (h:0≤i∧i< (n:Int)) (k: ∀y,xs[i.toNat]?=some y→Dr (f y) P):Dr (if 0≤i∧i< ((xs.length:Nat):Int) then (xs[i.toNat]?).bind f else none) P:=by
 subst hn;exact Dr.guard h (Dr.get (by omega) fun y _ hy=>k y hy)
theorem Qof (k:Int) (hs:List QQ):Qbc k (Qbc k hs)=Qbc k hs:=by
 unfold Qbc;by_cases hk:k.toNat< hs.length
 ·rw [List.set_set];congr 1;rw [List.getD_eq_getElem?_getD,List.getElem?_set_self hk];rfl
 ·rw [List.set_eq_of_length_le (by simp; omega)]
def QdW (g k:Int):List TwoD→List QQ→List QQ
 | [],hs=>hs
 | b::r,hs=>QdW g k r (if Qao (g,k,()) b=true then Qbc k hs else hs)
theorem QfC (g k:Int): ∀(r:List TwoD) (hs:List QQ),QdW g k r (Qbc k hs)=Qbc k hs
 | [],_=>rfl
 | b::r,hs=>by
  rw [QdW];split
  ·rw [Qof,QfC g k r]
  ·exact QfC g k r hs
theorem QjH (g k:Int): ∀(r:List TwoD) (hs:List QQ),QdW g k r hs=if r.any (Qao (g,k,()))=true then Qbc k hs else hs
 | [],_=>rfl
 | b::r,hs=>by
  rw [QdW,List.any_cons];by_cases hb:Qao (g,k,()) b=true
  ·rw [if_pos hb,QfC,if_pos (by simp [hb])]
  ·have hb':Qao (g,k,()) b=false:=by simpa using hb
   rw [if_neg hb,QjH g k r,hb',Bool.false_or]
def QnZ (b:QcP) (hs:List QQ):QcP:=(b.1,b.2.1,b.2.2.1,b.2.2.2.1,b.2.2.2.2.1,hs,b.2.2.2.2.2.2.1,b.2.2.2.2.2.2.2.1,b.2.2.2.2.2.2.2.2.1,())
theorem QpR (b:QcP) (g k:Int) (hb:b.2.2.1.length≤1000) (hk: ∀y∈b.2.2.1,Qao (g,k,()) y=true→0≤k∧k< (b.2.2.2.2.2.1.length:Int)):
  F_bs (b,g,k,())=some ((),(QnZ b (if b.2.2.1.any (Qao (g,k,()))=true then Qbc k b.2.2.2.2.2.1 else b.2.2.2.2.2.1),())):=by
 rw [←QjH];refine Dr.eq ?_;unfold F_bs
 have k1:Dr (L_bs_1 (((),(g,(k,((0:Int),())))),((b,()),()))) fun o=>o= .inl ((),((QnZ b (QdW g k b.2.2.1 b.2.2.2.2.2.1),()),())):=by
  refine Qaj (fun n u=> ∃(i:Nat) (hs:List QQ),u=(((),(g,(k,((i:Int),())))),((QnZ b hs,()),()))∧n=b.2.2.1.length-i∧i≤b.2.2.1.length∧hs.length=b.2.2.2.2.2.1.length∧QdW g k (b.2.2.1.drop i) hs=QdW g k b.2.2.1 b.2.2.2.2.2.1) ?_ _ _ ⟨0,_,rfl,rfl,Nat.zero_le _,rfl,rfl⟩ (by rw [QI]; omega)
  rintro rec n _ ⟨i,hs,rfl,hn,hi,hl,he⟩ ih;unfold l_bs_1 QnZ;dsimp only;by_cases hlt:i< b.2.2.1.length
  case neg=>
   rw [if_neg (lt_f hlt)];rw [List.drop_of_length_le (by omega)] at he
   exact Dr.ret (by rw [←he]; rfl)
  rw [if_pos (lt_t hlt),if_pos nat0,Qn hlt,QR (by omega)]
  rw [List.drop_eq_getElem_cons hlt,QdW] at he;have hky:=hk _ (List.getElem_mem hlt);generalize b.2.2.1[i]=y at*
  have skip: ¬Qao (g,k,()) y=true→Dr (rec (((),(g,(k,(((i+1:Nat):Int),())))),(((b.1,b.2.1,b.2.2.1,b.2.2.2.1,b.2.2.2.2.1,hs,b.2.2.2.2.2.2.1,b.2.2.2.2.2.2.2.1,b.2.2.2.2.2.2.2.2.1,()),()),()))) fun o=>o= .inl ((),(((b.1,b.2.1,b.2.2.1,b.2.2.2.1,b.2.2.2.2.1,QdW g k b.2.2.1 b.2.2.2.2.2.1,b.2.2.2.2.2.2.1,b.2.2.2.2.2.2.2.1,b.2.2.2.2.2.2.2.2.1,()),()),())):=fun hn'=>by
   rw [if_neg hn'] at he;exact ih (n-1) _ (by omega) ⟨i+1,hs,rfl,by omega,by omega,hl,he⟩
  by_cases h1:y.1=g
  ·rw [if_pos (by simpa using h1)]
   by_cases h2:y.2.1=k
   ·have hs':Qao (g,k,()) y=true:=by unfold Qao; simp [h1,h2]
    have hkk:=hky hs';rw [if_pos hs'] at he;rw [if_pos (by simpa using h2)]
    refine Dr.gatE (n:=hs.length) rfl (by omega) fun z hz=>ih (n-1) _ (by omega) ⟨i+1,_,rfl,by omega,by omega,by simpa using hl,?_⟩
    rw [←he];unfold Qbc;rw [List.getD_eq_getElem?_getD,hz];rfl
   ·rw [if_neg (by simpa using h2)]
    exact skip (by unfold Qao; simp; intro _ e; exact absurd e.symm h2)
  ·rw [if_neg (by simpa using h1)]
   exact skip (by unfold Qao; simp; intro e; exact absurd e.symm h1)
 refine k1.bind fun o ho=>?_
 subst ho;exact Dr.ret rfl
theorem Qor {x:QF} (h:HK x) (hc:x.2.2.2.2.2.1< 1000000):F_bt (boxH x,())=some ((),(boxH (QP x),())):=by
 obtain ⟨h1,h2,h3,h4⟩:=h.turn;obtain ⟨g1,g2,g3⟩:=h.guest h3;have hS:=h.okS;have hfr:FR (QS x):=Qov (Mc.of (x.2.2.1.getD (turnG x).toNat QY) x.2.1) (pgM x.1 (turnG x));have hstep:F_br ((Mc.of (x.2.2.1.getD (turnG x).toNat QY) x.2.1).bus (pgM x.1 (turnG x)),())=some ((),((QS x).bus (pgM x.1 (turnG x)),())):=QpS hS;have hm:=h.mem.2;have hrang:=Qho h;have hcl:=h.clock;have hle:=Qjm g3;have hpl:=h.ok.plan;refine Dr.eq ?_;unfold F_bt;refine Dr.guard h1.1 (Dr.step h4 (Dr.guard g1 (Dr.step g2 (Dr.step (Qom h.ok h3) (Dr.step (Qsw _ _ _ hle (by show x.2.1.length≤1048576; omega)) (Dr.step hstep ?_))))))
 refine Dr.guard g1 (Dr.step g2 ?_);have e1:IntKind.i64.wrap (x.2.2.2.2.2.1+1)=x.2.2.2.2.2.1+1:=Qw (by omega) (by omega)
 have e2:IntKind.i64.wrap (x.2.2.2.2.1-1)=x.2.2.2.2.1-1:=Qw (by omega) (by omega)
 have e3:IntKind.i64.wrap (x.2.2.2.1+1)=x.2.2.2.1+1:=Qw (by omega) (by omega)
 have hpos:0< (x.1.2.2.2.1.length:Int):=by omega
 have hmod:(x.2.2.2.1+1).tmod ((x.1.2.2.2.1.length:Nat):Int)=(x.2.2.2.1+1) % (x.1.2.2.2.1.length:Int):=Int.tmod_eq_emod_of_nonneg (by omega)
 have m0:=Int.emod_nonneg (x.2.2.2.1+1) (b:=(x.1.2.2.2.1.length:Int)) (by omega)
 have m1:=Int.emod_lt_of_pos (x.2.2.2.1+1) (b:=(x.1.2.2.2.1.length:Int)) hpos;have hmi:((x.2.2.2.1+1) % (x.1.2.2.2.1.length:Int)).toNat< x.1.2.2.2.1.length:=by omega
 have hd:x.1.2.2.2.1[((x.2.2.2.1+1) % (x.1.2.2.2.1.length:Int)).toNat]?=some (x.1.2.2.2.1.getD ((x.2.2.2.1+1) % (x.1.2.2.2.1.length:Int)).toNat (0,0,())):=by
  rw [List.getD_eq_getElem?_getD,List.getElem?_eq_getElem hmi]; rfl
 --what is behind the bell
 have fin: ∀hs:List QQ,hs=(if QbB x=true then Qbc (QS x).ring (QU x) else QU x)→
   (∀(a:Int),a=x.2.2.2.2.1-1→Dr (if (a==(0:Int))=true then (if ((x.1.2.2.2.1.length:Nat):Int)=0 then none else if 0≤(x.2.2.2.1+1).tmod ((x.1.2.2.2.1.length:Nat):Int) then (x.1.2.2.2.1[((x.2.2.2.1+1).tmod ((x.1.2.2.2.1.length:Nat):Int)).toNat]?).bind fun y=>some ((),((x.1.1,x.1.2.1,x.1.2.2.1,x.1.2.2.2.1,(QS x).m,hs,(x.2.2.2.1+1).tmod ((x.1.2.2.2.1.length:Nat):Int),y.2.1,x.2.2.2.2.2.1+1,()),())) else none)
    else some ((),((x.1.1,x.1.2.1,x.1.2.2.1,x.1.2.2.2.1,(QS x).m,hs,x.2.2.2.1,a,x.2.2.2.2.2.1+1,()),()))) fun r=>r=((),(boxH (QP x),()))):=by
  rintro hs rfl a rfl;rw [hmod];by_cases hz:x.2.2.2.2.1-1=0
  ·refine Dr.pos (by simpa using hz) (Dr.nguard (by omega) (Dr.guard m0 (Dr.step hd (Dr.ret ?_))))
   unfold boxH QP QeS;dsimp only;rw [if_pos hz]
  ·refine Dr.neg (by simpa using hz) (Dr.ret ?_)
   unfold boxH QP QeS;dsimp only;rw [if_neg hz]
 by_cases hr:0≤(QS x).ring
 ·refine Dr.pos (Qba.2 hr) ?_
  have hring:=QpR (QnZ (boxH (x.1,(QS x).m,x.2.2.1,x.2.2.2.1,x.2.2.2.2.1,x.2.2.2.2.2.1,())) (QU x)) (turnG x) (QS x).ring (by have:=h.ok.bells.1; show x.1.2.2.1.length≤1000; omega) (fun y hy hs=>by
   have hin:QbB x=true:=List.any_eq_true.2 ⟨y,hy,hs⟩;have:=Qbi.1 (hrang hin);show 0≤(QS x).ring∧(QS x).ring< ((QU x).length:Int);rw [Qbv,h.len];exact this)
  refine Dr.step hring ?_;have q:=fin (if QbB x=true then Qbc (QS x).ring (QU x) else QU x) rfl (IntKind.i64.wrap (x.2.2.2.2.1-1)) e2
  rw [←e1, ←e3] at q;exact q
 ·refine Dr.neg (by rw [Qba]; exact hr) ?_
  have hno: ¬QbB x=true:=fun hin=>hr (by have:=Qbi.1 (hrang hin); omega)
  have q:=fin (QU x) (by rw [if_neg hno]) (IntKind.i64.wrap (x.2.2.2.2.1-1)) e2
  rw [←e1, ←e3] at q;exact q
theorem Qjs {h:QQ} {l:List TwoD} {m:List Int} (hh:Qcg 1048576 h) (hm:m.length≤1048576) (ho:OkS (Mc.of h m) l):F_fd (h,l,m,1,())=some (((Qaf (Mc.of h m) l).res (Qaf (Mc.of h m) l).fall (Qaf (Mc.of h m) l).ring,()),()):=by
 rw [Qkt h l m 1 hh hm ho (by decide),show (1:Int).toNat=1 from rfl]
 simp only [Qcr];obtain ⟨h1,h2⟩:=Qov (Mc.of h m) l;have e1:(if 0≤(Qaf (Mc.of h m) l).fall then (Qaf (Mc.of h m) l).fall else -1)=(Qaf (Mc.of h m) l).fall:=by split <;> omega
 have e2:(if 0≤(Qaf (Mc.of h m) l).ring then (Qaf (Mc.of h m) l).ring else -1)=(Qaf (Mc.of h m) l).ring:=by split <;> omega
 rw [e1,e2]
theorem QnD {x:QF} (h:HK x) (hc:x.2.2.2.2.2.1< 1000000):F_fe (boxH x,())=some ((),(boxH (QP x),())):=by
 obtain ⟨h1,h2,h3,h4⟩:=h.turn;obtain ⟨g1,g2,g3⟩:=h.guest h3;have hS:=h.okS;have hm:=h.mem.2;have hrang:=Qho h;have hcl:=h.clock;have hle:=Qjm g3;have hpl:=h.ok.plan
 have hturn:F_do (x,())=some ((turnG x,()),()):=by
  refine Dr.eq ?_;unfold F_do;exact Dr.guard h1.1 (Dr.step h4 (Dr.ret rfl))
 have hst:F_fd (x.2.2.1.getD (turnG x).toNat QY,pgM x.1 (turnG x),x.2.1,1,())=some (((QS x).res (QS x).fall (QS x).ring,()),()):=Qjs hle (by omega) hS
 refine Dr.eq ?_;unfold F_fe;refine Dr.step hturn (Dr.guard g1 (Dr.step g2 (Dr.step (Qim h.ok h3) (Dr.step hst ?_))));refine Dr.guard g1 (Dr.step g2 ?_);refine Dr.step (Qif (turnG x,(QS x).ring,()) x.1.2.2.1 (by have:=h.ok.bells.1; omega)) ?_
 have e1:IntKind.i64.wrap (x.2.2.2.2.2.1+1)=x.2.2.2.2.2.1+1:=Qw (by omega) (by omega)
 have e2:IntKind.i64.wrap (x.2.2.2.2.1-1)=x.2.2.2.2.1-1:=Qw (by omega) (by omega)
 have e3:IntKind.i64.wrap (x.2.2.2.1+1)=x.2.2.2.1+1:=Qw (by omega) (by omega)
 have hpos:0< (x.1.2.2.2.1.length:Int):=by omega
 have hmod:(x.2.2.2.1+1).tmod ((x.1.2.2.2.1.length:Nat):Int)=(x.2.2.2.1+1) % (x.1.2.2.2.1.length:Int):=Int.tmod_eq_emod_of_nonneg (by omega)
 have m0:=Int.emod_nonneg (x.2.2.2.1+1) (b:=(x.1.2.2.2.1.length:Int)) (by omega)
 have m1:=Int.emod_lt_of_pos (x.2.2.2.1+1) (b:=(x.1.2.2.2.1.length:Int)) hpos;have hmi:((x.2.2.2.1+1) % (x.1.2.2.2.1.length:Int)).toNat< x.1.2.2.2.1.length:=by omega
 have hd:x.1.2.2.2.1[((x.2.2.2.1+1) % (x.1.2.2.2.1.length:Int)).toNat]?=some (x.1.2.2.2.1.getD ((x.2.2.2.1+1) % (x.1.2.2.2.1.length:Int)).toNat (0,0,())):=by
  rw [List.getD_eq_getElem?_getD,List.getElem?_eq_getElem hmi]; rfl
 have fin: ∀hs:List QQ,hs=(if QbB x=true then Qbc (QS x).ring (QU x) else QU x)→
   (∀(a:Int),a=x.2.2.2.2.1-1→Dr (if (a==(0:Int))=true then (if ((x.1.2.2.2.1.length:Nat):Int)=0 then none else if 0≤(x.2.2.2.1+1).tmod ((x.1.2.2.2.1.length:Nat):Int) then (x.1.2.2.2.1[((x.2.2.2.1+1).tmod ((x.1.2.2.2.1.length:Nat):Int)).toNat]?).bind fun y=>some ((),((x.1.1,x.1.2.1,x.1.2.2.1,x.1.2.2.2.1,(QS x).m,hs,(x.2.2.2.1+1).tmod ((x.1.2.2.2.1.length:Nat):Int),y.2.1,x.2.2.2.2.2.1+1,()),())) else none)
    else some ((),((x.1.1,x.1.2.1,x.1.2.2.1,x.1.2.2.2.1,(QS x).m,hs,x.2.2.2.1,a,x.2.2.2.2.2.1+1,()),()))) fun r=>r=((),(boxH (QP x),()))):=by
  rintro hs rfl a rfl;rw [hmod];by_cases hz:x.2.2.2.2.1-1=0
  ·refine Dr.pos (by simpa using hz) (Dr.nguard (by omega) (Dr.guard m0 (Dr.step hd (Dr.ret ?_))))
   unfold boxH QP QeS;dsimp only;rw [if_pos hz]
  ·refine Dr.neg (by simpa using hz) (Dr.ret ?_)
   unfold boxH QP QeS;dsimp only;rw [if_neg hz]
 by_cases hin:QbB x=true
 ·refine Dr.pos hin ?_;have hg:=Qbi.1 (hrang hin);refine Dr.gatE (n:=(QU x).length) rfl (by rw [Qbv,h.len]; exact hg) fun z hz=>?_
  have hz':(QU x)[(QS x).ring.toNat]?=some z:=hz
  have ez:Qbc (QS x).ring (QU x)=(QU x).set (QS x).ring.toNat (QqM z):=by
   unfold Qbc;rw [List.getD_eq_getElem?_getD,hz'];rfl
  have q:=fin ((QU x).set (QS x).ring.toNat (QqM z)) (by rw [if_pos hin,ez]) (IntKind.i64.wrap (x.2.2.2.2.1-1)) e2
  rw [←e1, ←e3] at q;exact q
 ·refine Dr.neg hin ?_;have q:=fin (QU x) (by rw [if_neg hin]) (IntKind.i64.wrap (x.2.2.2.2.1-1)) e2
  rw [←e1, ←e3] at q;exact q
theorem QsB {X:Type} {xs:List X} {i:Nat} (h:i< xs.length):xs.take i++[xs[i]]=xs.take (i+1):=by
 rw [List.take_add_one,List.getElem?_eq_getElem h];rfl
theorem QfD {X:Type} {xs:List X} {i:Nat} (h:i< xs.length):xs.set i xs[i]=xs:=by
 apply List.ext_getElem (by simp)
 intro j h1 h2;rw [List.getElem_set];split
 ·rename_i e; subst e; rfl
 ·rfl
theorem Qky {p:PolD} (hok:OkPol p):F_ac (p,())=some (((p.1,p.2.1,p.2.2.1,p.2.2.2.1,()),()),()):=by
 have hle:=Qhn hok;have ho:=hok.own;have hb:=hok.bells.1;have hp:=hok.plan.2;have hl:=hok.lanes.1;refine Dr.eq ?_;unfold F_ac;dsimp only;refine Dr.pos (by simp; omega) (.pos (by simp; omega) (.pos (by simp; omega) ?_))
 have k1:Dr (L_ac_3 (((),((),((),((0:Int),())))),((p,(([],([],([],([],())))),(([],([]++p.2.1,([]++p.2.2.1,([]++p.2.2.2.1,())))),()))),()))) fun o=>o= .inl (((),((),())),((([],([],([],([],())))),((p.1,(p.2.1,(p.2.2.1,(p.2.2.2.1,())))),())),())):=by
  refine Qaj (fun n u=> ∃i:Nat,u=(((),((),((),((i:Int),())))),((p,(([],([],([],([],())))),((p.1.take i,([]++p.2.1,([]++p.2.2.1,([]++p.2.2.2.1,())))),()))),()))∧n=p.1.length-i∧i≤p.1.length) ?_ _ _ ⟨0,rfl,rfl,Nat.zero_le _⟩ (by rw [QI]; omega)
  rintro rec n _ ⟨i,rfl,hn,hi⟩ ih;unfold l_ac_3;dsimp only;by_cases hlt:i< p.1.length
  case neg=>
   rw [if_neg (lt_f hlt),List.take_of_length_le (by omega)]
   exact Dr.ret rfl
  have hy:=(hok.own1 _ (List.getElem_mem hlt)).2.1;rw [if_pos (lt_t hlt),if_pos nat0,Qn hlt,QR (by omega)]
  refine Dr.pos (by simp; omega) (.pos (by simp; omega) ?_)
  exact ih (n-1) _ (by omega) ⟨i+1,by rw [List.nil_append,QsB hlt],by omega,by omega⟩
 refine k1.bind fun o h=>?_
 subst h;exact Dr.ret rfl
theorem Qkr {p:PolD} (hok:OkPol p):F_dk (p,())=some (((p.1,p.2.1,p.2.2.1,p.2.2.2.1,()),()),()):=by
 have hle:=Qhn hok;have ho:=hok.own;have hb:=hok.bells.1;have hp:=hok.plan.2;have hl:=hok.lanes.1;refine Dr.eq ?_;unfold F_dk F_df;dsimp only;rw [if_pos (by simp; omega),Obn]
 have k1:Dr (L_dk_3 (((),((),(((p.1.length:Nat):Int),((0:Int),())))),(((p.1,(p.2.1,(p.2.2.1,(p.2.2.2.1,())))),(([],([],([],([],())))),())),()))) fun o=>o= .inl (((),((),())),(((p.1,(p.2.1,(p.2.2.1,(p.2.2.2.1,())))),(([],([],([],([],())))),())),())):=by
  refine Qaj (fun n u=> ∃i:Nat,u=(((),((),(((p.1.length:Nat):Int),((i:Int),())))),(((p.1,(p.2.1,(p.2.2.1,(p.2.2.2.1,())))),(([],([],([],([],())))),())),()))∧n=p.1.length-i∧i≤p.1.length) ?_ _ _ ⟨0,rfl,rfl,Nat.zero_le _⟩ (by rw [QI]; omega)
  rintro rec n _ ⟨i,rfl,hn,hi⟩ ih;unfold l_dk_3;dsimp only;by_cases hlt:i< p.1.length
  case neg=>
   rw [if_neg (lt_f hlt)];exact Dr.ret rfl
  have hy:=(hok.own1 _ (List.getElem_mem hlt)).2.1;rw [if_pos (lt_t hlt),if_pos ⟨nat0,Int.ofNat_lt.2 hlt⟩,Qn hlt,QR (by omega),QcV (by omega),Obn,if_pos ⟨nat0,Int.ofNat_lt.2 hlt⟩,Qn hlt,Int.toNat_natCast]
  dsimp only;rw [QfD hlt];exact ih (n-1) _ (by omega) ⟨i+1,rfl,by omega,by omega⟩
 refine k1.bind fun o h=>?_
 subst h;unfold F_dh F_di F_dj;dsimp only;rw [if_pos (by simp; omega),Obn,if_pos (by simp; omega),Obn,if_pos (by simp; omega),Obn]
 exact Dr.ret rfl
theorem Qnv {x:QF} (h:HK x):F_dn (x,())=some ((boxH x,()),()):=by
 have hle:=h.le;have hm:=h.mem.2;have hh:=hle.2.2.1;refine Dr.eq ?_;unfold F_dn;refine Dr.step (Qkr h.ok) (.step (QcV (q:=x.2.1) (by omega)) ?_)
 unfold F_dl;dsimp only;rw [if_pos (by simp; omega),Obn]
 have k1:Dr (L_dn_5 (((),((),(((x.2.2.1.length:Nat):Int),((0:Int),())))),((boxH x,(([],([],([],([],([],([],((0:Int),((0:Int),((0:Int),()))))))))),())),()))) fun o=>o= .inl (((),((),())),((boxH x,(([],([],([],([],([],([],((0:Int),((0:Int),((0:Int),()))))))))),())),())):=by
  refine Qaj (fun n u=> ∃i:Nat,u=(((),((),(((x.2.2.1.length:Nat):Int),((i:Int),())))),((boxH x,(([],([],([],([],([],([],((0:Int),((0:Int),((0:Int),()))))))))),())),()))∧n=x.2.2.1.length-i∧i≤x.2.2.1.length) ?_ _ _ ⟨0,rfl,rfl,Nat.zero_le _⟩ (by rw [QI]; omega)
  rintro rec n _ ⟨i,rfl,hn,hi⟩ ih;unfold l_dn_5 boxH;dsimp only;by_cases hlt:i< x.2.2.1.length
  case neg=>
   rw [if_neg (lt_f hlt)];exact Dr.ret rfl
  rw [if_pos (lt_t hlt),if_pos ⟨nat0,Int.ofNat_lt.2 hlt⟩,Qn hlt,QR (by omega),Qjn _ (hle.2.2.2 _ (List.getElem_mem hlt)),Obn,if_pos ⟨nat0,Int.ofNat_lt.2 hlt⟩,Qn hlt,Int.toNat_natCast]
  dsimp only;rw [QfD hlt];exact ih (n-1) _ (by omega) ⟨i+1,rfl,by omega,by omega⟩
 refine k1.bind fun o h=>?_
 subst h;exact Dr.ret rfl
abbrev QeY:=List Int×Int×List Int×Bool×Bool×Bool×Int×List Int×List Int×List Int×List Int×Unit
def QaF (x:QF) (g:Int):QeY:=(QlS 0 (x.2.2.1.getD g.toNat QY) (Qaq x.2.1 (x.1.1.getD g.toNat [])) (Qaq x.2.1 (QaM g true x.1.2.1))).2
def vD (r:QeY):QvB:=((r.1,r.2.1,r.2.2.1,r.2.2.2.1,r.2.2.2.2.1,r.2.2.2.2.2.1,r.2.2.2.2.2.2.1,r.2.2.2.2.2.2.2.1,r.2.2.2.2.2.2.2.2.1,()),r.2.2.2.2.2.2.2.2.2.1,r.2.2.2.2.2.2.2.2.2.2.1,())
theorem QoF {x:QF} {g:Int} (h:HK x) (hg:isG x.1 g=true):QlR x g=(0,QaF x g):=by
 unfold QlR QaF;rw [if_neg (by simpa using h.to),if_pos hg]
 rfl
def QqO (v w:QeY):Bool:=match F_gc (vD v,vD w,()) with
 | some r=>r.1.1
 | none=>false
theorem QmC {v w:QeY} (h:QmN maxLen (vD v)):True∧F_gc (vD v,vD w,())=some ((QqO v w,()),()):=by
 obtain ⟨b,_,e2⟩:=Qus (vD v,vD w,()) h;unfold QqO;rw [e2];exact ⟨trivial,rfl⟩
theorem Qur {x:QF} {g:Int} (h:HK x) (hg:isG x.1 g=true):QmN maxLen (vD (QaF x g)):=by
 have:=Quq x g h.le;rw [QoF h hg] at this;obtain ⟨h1,h2,h3,h4,h5,h6⟩:=this;exact ⟨⟨leM h1,leM h2,leM h3,leM h4⟩,leM h5,leM h6⟩
def Qdo (v:QeY):Bool:=v.2.2.2.2.2.1
def setF (v:QeY) (b:Bool):QeY:=(v.1,v.2.1,v.2.2.1,v.2.2.2.1,v.2.2.2.2.1,b,v.2.2.2.2.2.2)
def setM (s:QbG) (m:List Int):QbG:=(s.1,s.2.1,m,())
def QvI (s:QbG) (h:QQ):QbG:=((s.1.1,s.1.2.1,s.1.2.2.1,s.1.2.2.2.1,s.1.2.2.2.2.1,h.2.2.2.2.2.1,s.1.2.2.2.2.2.2),s.2.1,s.2.2.1,())
theorem Qkn {m:List Int} (h:QA m=0): ∀w∈m,WW w:=by
 unfold QA at h;split at h
 ·split at h
  ·exact Qar.1 ‹_›
  ·cases h
 ·cases h
theorem Qth {m:List Int} (hl:m.length=64) (h: ∀w∈m,WW w):QA m=0:=by
 unfold QA;rw [if_pos (by rw [hl]; decide),if_pos (Qar.2 h)]
theorem QjR {s:QbG} (h1:hartM s.1=0) (h2:QhT s.2.1 8=0) (h3:s.2.2.1.length=64) (h4: ∀w∈s.2.2.1,WW w):QcR s=0:=by
 unfold QcR;rw [if_neg (by simpa using h1),if_neg (by simpa using h2),if_pos ⟨Qth h3 h4,h3⟩]
theorem QpF {s:QbG} (h:QcR s=0) {m:List Int} (hl:m.length=64) (hw: ∀w∈m,WW w):QcR (setM s m)=0:=by
 obtain ⟨h1,h2,h3,h4⟩:=Qga h;exact QjR h1 h2 hl hw
theorem Qoj {s:QbG} (h:QcR s=0) (y:QQ):QcR (QvI s y)=0:=by
 obtain ⟨h1,h2,h3,h4⟩:=Qga h;exact QjR h1 h2 h4 (Qkn h3)
def Qfh (m:List Int) (g:Int):List QN→List Int→List Int
 | [],q=>q
 | l::r,q=>Qfh m g r (if l.2.1=g then Qiv q l.2.2.2.2.1.toNat (pg m l.2.2.1) else q)
theorem Qoa {s ws:List Int} {k:Nat} (h1: ∀w∈s,WW w) (h2: ∀w∈ws,WW w): ∀w∈Qiv s k ws,WW w:=by
 intro w hw;unfold Qiv at hw;rcases List.mem_append.1 hw with hw | hw
 ·exact h1 w (List.mem_of_mem_take hw)
 ·rcases List.mem_append.1 hw with hw | hw
  ·exact h2 w hw
  ·exact h1 w (List.mem_of_mem_drop hw)
theorem QtW {m:List Int} {p:Int} (h: ∀w∈m,WW w): ∀w∈pg m p,WW w:=fun w hw=>h w (List.mem_of_mem_drop (List.mem_of_mem_take hw))
theorem Qqx {x:QF} (h:HK x) {l:QN} (hl:l∈x.1.2.1):(0≤l.2.2.1∧8*l.2.2.1+8≤(x.2.1.length:Int))∧(0≤l.2.2.2.2.1∧l.2.2.2.2.1< 8)∧(pg x.2.1 l.2.2.1).length=8∧ ∀w∈pg x.2.1 l.2.2.1,WW w:=by
 have hm:=h.mem.2;obtain ⟨_,h2,h3,h4⟩:=QbO h.ok l hl;have e:0≤l.2.2.1∧8*l.2.2.1+8≤(x.2.1.length:Int):=by omega
 exact ⟨e,by omega,Qvh e,QtW (Qkn h.mem.1)⟩
theorem Qje {x:QF} (h:HK x) {g:Int}: ∀{r:List QN} {q:List Int},(∀l∈r,l∈x.1.2.1)→q.length=64→(∀w∈q,WW w)→(Qfh x.2.1 g r q).length=64∧ ∀w∈Qfh x.2.1 g r q,WW w
 | [],q,_,h1,h2=>⟨h1,h2⟩
 | l::r,q,hr,h1,h2=>by
  obtain ⟨_,l2,l3,l4⟩:=Qqx h (hr l (by simp))
  rw [Qfh];split
  ·exact Qje h (fun y hy=>hr y (List.mem_cons_of_mem _ hy)) (QhU h1 (by omega) l3) (Qoa h2 l4)
  ·exact Qje h (fun y hy=>hr y (List.mem_cons_of_mem _ hy)) h1 h2
def fedS (x:QF) (s:QbG) (g:Int):QbG:=setM s (Qfh x.2.1 g x.1.2.1 s.2.2.1)
def Qiy (x:QF) (s:QbG) (g:Int):QbG:=QvI (fedS x s g) (x.2.2.1.getD g.toNat QY)
def Qht (x:QF) (s:QbG) (g:Int):Mc:=Qaf (Mc.of (Qiy x s g).1 (Qiy x s g).2.2.1) (Qiy x s g).2.1
def QvL (x:QF) (s:QbG) (g:Int):QbG:=((Qht x s g).hart,s.2.1,(Qht x s g).m,())
theorem QuI {x:QF} {s:QbG} (g:Int) (hx:HK x) (hs:QcR s=0):QcR (fedS x s g)=0:=by
 obtain ⟨h1,h2,h3,h4⟩:=Qga hs;obtain ⟨f1,f2⟩:=Qje hx (g:=g) (r:=x.1.2.1) (q:=s.2.2.1) (fun _ h=>h) h4 (Qkn h3)
 exact QpF hs f1 f2
theorem Quc {x:QF} {s:QbG} (g:Int) (hx:HK x) (hs:QcR s=0):QcR (Qiy x s g)=0:=Qoj (QuI g hx hs) _
theorem Que {x:QF} {s:QbG} (g:Int) (hx:HK x) (hs:QcR s=0):QcR (QvL x s g)=0:=by
 have hr:=Quc g hx hs;have ho:OkS (Qht x s g) (Qiy x s g).2.1:=QjY (QtK hr);have hl:=ho.l;obtain ⟨h1,h2,h3,h4⟩:=Qga hr;exact QjR ho.hartM h2 (by show (Qht x s g).m.length=64; unfold Qht; rw [QjX]; exact h4) hl.words
abbrev pgAt (l:List TwoD) (k:Nat):TwoD:=l.getD k (-1,0,())
theorem Qed {α:Type} {l:List α} {k:Nat} {d:α}:l.getD k d=(l[k]?).getD d:=List.getD_eq_getElem?_getD
theorem QqF {m:List Int} {a:Int} {o:Nat} (ho:o< 8):(pg m a).getD o 0=m.getD (8*a.toNat+o) 0:=by
 unfold pg;rw [Qed,Qed,List.getElem?_take,if_pos ho,List.getElem?_drop]
theorem QtV {m:List Int} {a b:Int} {o:Nat} {w:Int} (ho:o< 8) (ha:0≤a) (hb:0≤b):pg (m.set (8*a.toNat+o) w) b=if a=b then (pg m b).set o w else pg m b:=by
 unfold pg;by_cases h:a=b
 ·subst h;rw [if_pos rfl];apply List.ext_getElem?;intro i;by_cases hi:i< 8
  ·simp only [List.getElem?_take,if_pos hi,List.getElem?_drop,List.getElem?_set,List.length_take,List.length_drop];by_cases e:o=i
   ·subst e;simp only [if_true];by_cases hl:8*a.toNat+o< m.length
    ·rw [if_pos hl,if_pos (by omega)]
    ·rw [if_neg hl,if_neg (by omega)]
   ·rw [if_neg (by omega),if_neg e]
  ·rw [List.getElem?_eq_none (by simp; omega),List.getElem?_eq_none (by simp; omega)]
 ·rw [if_neg h];apply List.ext_getElem?;intro i;by_cases hi:i< 8
  ·simp only [List.getElem?_take,if_pos hi,List.getElem?_drop,List.getElem?_set];rw [if_neg (by omega)]
  ·rw [List.getElem?_eq_none (by simp; omega),List.getElem?_eq_none (by simp; omega)]
structure Sim (l l':List TwoD) (m m':List Int):Prop where
 len:l.length=8∧l'.length=8
 kind: ∀k,k< 8→(pgAt l' k).2=(pgAt l k).2
 neg: ∀k,k< 8→(0≤(pgAt l k).1↔0≤(pgAt l' k).1)
 top: ∀k,k< 8→(pgAt l k).1≤23∧(pgAt l' k).1≤23
 inj: ∀i j,i< 8→j< 8→0≤(pgAt l i).1→(pgAt l i).1=(pgAt l j).1→i=j
 inj': ∀i j,i< 8→j< 8→0≤(pgAt l' i).1→(pgAt l' i).1=(pgAt l' j).1→i=j
 same: ∀k,k< 8→0≤(pgAt l k).1→pg m (pgAt l k).1=pg m' (pgAt l' k).1
section
variable {l l':List TwoD} {m m' cs:List Int}
def Spot (l l':List TwoD) (kind:Int) (x y:Int):Prop:= ∃k o:Nat,k< 8∧o< 8∧0≤(pgAt l k).1∧mayP (pgAt l k) kind=true∧x=(pgAt l k).1*8+(o:Int)∧y=(pgAt l' k).1*8+(o:Int)
theorem Sim.walk (h:Sim l l' m m') (at_ kind:Int):(Qag l at_ kind= -1∧Qag l' at_ kind= -1)∨
  ∃k o:Nat,k< 8∧o< 8∧at_=8*(k:Int)+(o:Int)∧0≤(pgAt l k).1∧mayP (pgAt l k) kind=true∧Qag l at_ kind=(pgAt l k).1*8+(o:Int)∧Qag l' at_ kind=(pgAt l' k).1*8+(o:Int):=by
 unfold Qag;by_cases ha:0≤at_∧at_≤63
 ·rw [if_pos ha,if_pos ha];have hk:(at_ / 8).toNat< 8:=by omega
  have e:mayP (l'.getD (at_ / 8).toNat (-1,0,())) kind=mayP (l.getD (at_ / 8).toNat (-1,0,())) kind:=by
   unfold mayP;rw [show (l'.getD (at_ / 8).toNat (-1,0,())).2.1=(l.getD (at_ / 8).toNat (-1,0,())).2.1 from congrArg (·.1) (h.kind _ hk),decide_eq_decide.2 (h.neg _ hk)]
  rw [e];by_cases hm:mayP (l.getD (at_ / 8).toNat (-1,0,())) kind=true
  ·rw [if_pos hm,if_pos hm];refine .inr ⟨(at_ / 8).toNat,(at_ % 8).toNat,hk,by omega,by omega,?_,hm,by dsimp only [pgAt]; omega,by dsimp only [pgAt]; omega⟩
   simp only [mayP,Bool.and_eq_true,decide_eq_true_eq] at hm;exact hm.1
  ·rw [if_neg hm,if_neg hm]; exact .inl ⟨rfl,rfl⟩
 ·rw [if_neg ha,if_neg ha]; exact .inl ⟨rfl,rfl⟩
theorem Sim.space (h:Sim l l' m m') (cs:List Int):QbR cs l m=QbR cs l' m':=by
 unfold QbR;by_cases h0:cs.getD 10 0=0
 ·rw [if_pos h0,if_pos h0]
 by_cases h8:cs.getD 10 0=8
 ·rw [if_neg h0,if_neg h0,if_pos h8,if_pos h8]
 rw [if_neg h0,if_neg h0,if_neg h8,if_neg h8];rcases h.walk ((cs.getD 10 0-1)*8) 1 with ⟨e1,e2⟩ | ⟨k,o,hk,ho,ha,hp,_,e1,e2⟩
 ·rw [e1,e2]; rfl
 ·have hp':=(h.neg k hk).1 hp;have o0:o=0:=by omega
  subst o0;rw [if_neg (by omega),if_neg (by omega),e1,e2]
  have:=h.same k hk hp;unfold pg at this;rw [show ((pgAt l k).1*8+((0:Nat):Int)).toNat=8*(pgAt l k).1.toNat by omega,show ((pgAt l' k).1*8+((0:Nat):Int)).toNat=8*(pgAt l' k).1.toNat by omega,this]
theorem Sim.place (h:Sim l l' m m') (cs:List Int) (at_ kind:Int):
  (Qv cs l m at_ kind=Qv cs l' m' at_ kind∧((Qv cs l m at_ kind).2=0→1000≤(Qv cs l m at_ kind).1∧kind≠4))∨
  ((Qv cs l m at_ kind).2=0∧(Qv cs l' m' at_ kind).2=0∧Spot l l' kind (Qv cs l m at_ kind).1 (Qv cs l' m' at_ kind).1):=by
 unfold Qv;rw [←h.space cs];cases QbR cs l m with
 | none=>exact .inl ⟨rfl,fun h=>by simp at h⟩
 | some s=>
  dsimp only;by_cases c1:Qag s at_ kind< 0
  ·rw [if_pos c1,if_pos c1]; exact .inl ⟨rfl,fun h=>absurd h (Qdn kind)⟩
  rw [if_neg c1,if_neg c1];by_cases c2:Qag s at_ kind / 8=7
  ·rw [if_pos c2,if_pos c2];refine .inl ⟨rfl,fun hz=>?_⟩
   by_cases c3:kind=4
   ·rw [if_pos c3] at hz; simp at hz
   ·rw [if_neg c3]; dsimp only; omega
  rw [if_neg c2,if_neg c2];rcases h.walk (Qag s at_ kind) kind with ⟨e1,e2⟩ | ⟨k,o,hk,ho,ha,hp,hm,e1,e2⟩
  ·rw [e1,e2]; exact .inl ⟨rfl,fun h=>absurd h (Qdn kind)⟩
  ·have hp':=(h.neg k hk).1 hp;rw [e1,e2,if_neg (by omega),if_neg (by omega)]
   exact .inr ⟨rfl,rfl,k,o,hk,ho,hp,hm,rfl,rfl⟩
theorem Sim.spot {kind x y:Int} (h:Sim l l' m m') (hs:Spot l l' kind x y):(0≤x∧x< 1000)∧(0≤y∧y< 1000)∧m.getD x.toNat 0=m'.getD y.toNat 0∧ ∀w,Sim l l' (m.set x.toNat w) (m'.set y.toNat w):=by
 obtain ⟨k,o,hk,ho,hp,_,rfl,rfl⟩:=hs;have hp':=(h.neg k hk).1 hp;have ht:=h.top k hk;have ex:((pgAt l k).1*8+(o:Int)).toNat=8*(pgAt l k).1.toNat+o:=by omega
 have ey:((pgAt l' k).1*8+(o:Int)).toNat=8*(pgAt l' k).1.toNat+o:=by omega
 rw [ex,ey];refine ⟨by omega,by omega,?_,fun w=>?_⟩
 ·rw [←QqF ho, ←QqF ho,h.same k hk hp]
 ·refine { h with same:=fun j hj hq=>?_ }
  have hq':=(h.neg j hj).1 hq;rw [QtV ho hp hq,QtV ho hp' hq',h.same j hj hq];by_cases e:k=j
  ·subst e; rw [if_pos rfl,if_pos rfl]
  ·rw [if_neg fun c=>e (h.inj k j hk hj hp c),if_neg fun c=>e (h.inj' k j hk hj hp' c)]
def Like (l l':List TwoD) (s t:Mc):Prop:=t={ s with m:=t.m }∧Sim l l' s.m t.m
def QeP (l l':List TwoD) (x y:Bool×Int×Int×Mc):Prop:=x.1=y.1∧x.2.1=y.2.1∧x.2.2.1=y.2.2.1∧Like l l' x.2.2.2 y.2.2.2
theorem Qhe {b:Bool} {n r:Int} {s t:Mc} (h:Like l l' s t):QeP l l' (b,n,r,s) (b,n,r,t):=⟨rfl,rfl,rfl,h⟩
theorem QaA {α:Type} {R:α→α→Prop} {c:Prop} [Decidable c] {a b x y:α} (h1:c→R a x) (h2: ¬c→R b y):R (if c then a else b) (if c then x else y):=by
 by_cases h:c
 ·rw [if_pos h,if_pos h]; exact h1 h
 ·rw [if_neg h,if_neg h]; exact h2 h
theorem Qte {s:Mc} (h:Sim l l' s.m m') (op d a i:Int):QeP l l' (exM s l op d a i) (exM { s with m:=m' } l' op d a i):=by
 unfold exM;dsimp only;have t: ∀{c v:Int},QeP l l' (false,0,0,s.trap c v) (false,0,0,Mc.trap { s with m:=m' } c v):=Qhe ⟨rfl,h⟩
 refine QaA (R:=QeP l l') (fun _=>Qhe ⟨rfl,h⟩) fun _=>QaA (R:=QeP l l') (fun _=>Qhe ⟨rfl,h⟩) fun _=>QaA (R:=QeP l l') (fun _=>?_) fun _=>QaA (R:=QeP l l') (fun _=>?_) fun _=>?_
 ·rcases h.place s.cs (addW (s.r.getD a.toNat 0) (off i)) 1 with ⟨e,hd⟩ | ⟨e1,e2,hs⟩
  ·rw [←e];exact QaA (R:=QeP l l') (fun _=>t) fun c=>QaA (R:=QeP l l') (fun _=>Qhe ⟨rfl,h⟩) fun c2=>absurd (hd (by simpa using c)).1 c2
  ·obtain ⟨hx,hy,e3,_⟩:=h.spot hs;rw [if_neg (c:=(Qv s.cs l s.m (addW (s.r.getD a.toNat 0) (off i)) 1).2≠0) (by rw [e1]; simp),if_neg (c:=(Qv s.cs l' m' (addW (s.r.getD a.toNat 0) (off i)) 1).2≠0) (by rw [e2]; simp),if_neg (c:=1000≤(Qv s.cs l s.m (addW (s.r.getD a.toNat 0) (off i)) 1).1) (by omega),if_neg (c:=1000≤(Qv s.cs l' m' (addW (s.r.getD a.toNat 0) (off i)) 1).1) (by omega),e3]
   exact Qhe ⟨rfl,h⟩
 ·rcases h.place s.cs (addW (s.r.getD a.toNat 0) (off i)) 2 with ⟨e,hd⟩ | ⟨e1,e2,hs⟩
  ·rw [←e];exact QaA (R:=QeP l l') (fun _=>t) fun c=>QaA (R:=QeP l l') (fun _=>Qhe ⟨rfl,h⟩) fun c2=>absurd (hd (by simpa using c)).1 c2
  ·generalize Qv s.cs l s.m (addW (s.r.getD a.toNat 0) (off i)) 2=P at e1 hs⊢;generalize Qv s.cs l' m' (addW (s.r.getD a.toNat 0) (off i)) 2=Q at e2 hs⊢;obtain ⟨hx,hy,_,e3⟩:=h.spot hs;rw [if_neg (c:=P.2≠0) (by rw [e1]; simp),if_neg (c:=Q.2≠0) (by rw [e2]; simp),if_neg (c:=1000≤P.1) (by omega),if_neg (c:=1000≤Q.1) (by omega)]
   exact Qhe ⟨rfl,e3 _⟩
 repeat' (refine QaA (R:=QeP l l') (fun _=>Qhe ⟨rfl,h⟩) fun _=>?_)
 exact Qhe ⟨rfl,h⟩
theorem Qtc {s:Mc} (h:Sim l l' s.m m') (op d a i:Int):(doM s l op d a i).1=(doM { s with m:=m' } l' op d a i).1∧Like l l' (doM s l op d a i).2 (doM { s with m:=m' } l' op d a i).2:=by
 have hx:=Qte h op d a i;unfold doM;dsimp only;generalize exM s l op d a i=x at hx;generalize exM { s with m:=m' } l' op d a i=y at hx
 obtain ⟨x1,x2,x3,x4⟩:=x;obtain ⟨y1,y2,y3,y4⟩:=y;obtain ⟨e1,e2,e3,e4,e5⟩:=hx;dsimp only at e1 e2 e3 e4 e5⊢;subst e1 e2 e3;rw [e4];dsimp only;split
 ·exact ⟨rfl,rfl,e5⟩
 ·exact ⟨rfl,rfl,e5⟩
theorem Qlv {s:Mc} (h:Sim l l' s.m m'):Like l l' (runM s l) (runM { s with m:=m' } l'):=by
 have t: ∀{c v:Int},Like l l' (s.trap c v) (Mc.trap { s with m:=m' } c v):=⟨rfl,h⟩
 unfold runM;dsimp only
 have k: ∀w:Int,Like l l' (if decF w=0 then (if (doM s l (decM w).1 (decM w).2.1 (decM w).2.2.1 (decM w).2.2.2.1).1=true then Qft (doM s l (decM w).1 (decM w).2.1 (decM w).2.2.1 (decM w).2.2.2.1).2 else (doM s l (decM w).1 (decM w).2.1 (decM w).2.2.1 (decM w).2.2.2.1).2) else s.trap 1 w)
   (if decF w=0 then (if (doM { s with m:=m' } l' (decM w).1 (decM w).2.1 (decM w).2.2.1 (decM w).2.2.2.1).1=true then Qft (doM { s with m:=m' } l' (decM w).1 (decM w).2.1 (decM w).2.2.1 (decM w).2.2.2.1).2 else (doM { s with m:=m' } l' (decM w).1 (decM w).2.1 (decM w).2.2.1 (decM w).2.2.2.1).2) else Mc.trap { s with m:=m' } 1 w):=fun w=>by
  refine QaA (R:=Like l l') (fun _=>?_) fun _=>t
  obtain ⟨e1,e2,e3⟩:=Qtc h (decM w).1 (decM w).2.1 (decM w).2.2.1 (decM w).2.2.2.1;rw [←e1];refine QaA (R:=Like l l') (fun _=>⟨?_,e3⟩) fun _=>⟨e2,e3⟩
  unfold Qft;rw [e2]
 rcases h.place s.cs s.pc 4 with ⟨e,hd⟩ | ⟨e1,e2,hs⟩
 ·rw [←e];refine QaA (R:=Like l l') (fun _=>t) fun c=>?_
  have c:(Qv s.cs l s.m s.pc 4).2=0:=by simpa using c
  exact absurd rfl (hd c).2
 ·obtain ⟨hx,hy,e3,_⟩:=h.spot hs;rw [if_neg (c:=(Qv s.cs l s.m s.pc 4).2≠0) (by rw [e1]; simp),if_neg (c:=(Qv s.cs l' m' s.pc 4).2≠0) (by rw [e2]; simp), ←e3]
  exact k _
theorem QjW {s:Mc} (h:Sim l l' s.m m'):Like l l' (Qaf s l) (Qaf { s with m:=m' } l'):=by
 unfold Qaf;dsimp only;refine QaA (R:=Like l l') (fun _=>⟨rfl,h⟩) fun _=>QaA (R:=Like l l') (fun _=>⟨rfl,h⟩) fun _=>QaA (R:=Like l l') (fun _=>QaA (R:=Like l l') (fun _=>⟨rfl,h⟩) fun _=>?_) fun _=>?_
 ·exact Qlv (s:={ s with ring:= -1,fall:= -1,wa:=false }) h
 ·exact Qlv (s:={ s with ring:= -1,fall:= -1 }) h
end
theorem QcX {α:Type} {l:List α} {i j:Nat} {y d:α} (h:i≠j):(l.set i y).getD j d=l.getD j d:=by rw [Qed,Qed,List.getElem?_set_ne h]
theorem QcW {α:Type} {l:List α} {i:Nat} {y d:α} (h:i< l.length):(l.set i y).getD i d=y:=by rw [Qed,List.getElem?_set_self h]; rfl
theorem gget {α:Type} {l:List α} {i:Nat} {d:α} (h:i< l.length):l.getD i d=l[i]:=by rw [Qed,List.getElem?_eq_getElem h]; rfl
theorem Qjc: ∀{l seen:List Int},dupM seen l=false→l.Nodup∧ ∀x∈l,x∉seen
 | [],_,_=>⟨List.nodup_nil,by simp⟩
 | x::r,seen,h=>by
  simp only [dupM,Bool.or_eq_false_iff] at h;obtain ⟨h1,h2⟩:=Qjc h.2;have hx:x∉seen:=by simpa using h.1
  refine ⟨List.nodup_cons.2 ⟨fun hm=>h2 x hm (by simp),h1⟩,fun y hy=>?_⟩
  rcases List.mem_cons.1 hy with rfl | hy
  ·exact hx
  ·exact fun hm=>h2 y hy (List.mem_append_left _ hm)
theorem Qlo {p:PolD} (hok:OkPol p):(∀l∈p.1,l.Nodup)∧p.1.Pairwise fun a b=> ∀x∈a, ∀y∈b,x≠y:=by
 have:=(Qjc hok.nodup).1;unfold List.Nodup at this;rw [List.pairwise_flatten] at this;exact this
abbrev ownL (p:PolD) (g:Int):List Int:=p.1.getD g.toNat []
theorem Qsb {p:PolD} (hok:OkPol p) {g t:Int} (hg:isG p g=true) (ht:isG p t=true) (hne:t≠g) {x:Int} (h1:x∈ownL p g) (h2:x∈ownL p t):False:=by
 have a:=Qbi.1 hg;have b:=Qbi.1 ht;have hp:=List.pairwise_iff_getElem.1 (Qlo hok).2;rw [ownL,gget (by omega)] at h1 h2
 rcases Nat.lt_or_gt_of_ne (show g.toNat≠t.toNat by omega) with c | c
 ·exact hp g.toNat t.toNat (by omega) (by omega) c x h1 x h2 rfl
 ·exact hp t.toNat g.toNat (by omega) (by omega) c x h2 x h1 rfl
theorem Qle {p:PolD} (hok:OkPol p) {j:Nat} (hj:j< p.2.1.length):Qeg p p.2.1[j] (p.2.1.take j)=0:=by
 have e:=hok.lanes.2;unfold QbL at e;have:=Qmr (QfX e j hj);rw [Nat.zero_add] at this;exact this
theorem Qhd {p:PolD} (hok:OkPol p):p.2.1.Pairwise fun o l=>clash l o=false:=by
 rw [List.pairwise_iff_getElem];intro i j hi hj hij;have e:=Qle hok hj;unfold Qeg at e;split at e
 ·rename_i h; exact absurd e h
 split at e
 ·split at e
  ·cases e
  ·split at e
   ·cases e
   ·rename_i h;have h:(p.2.1.take j).any (clash p.2.1[j])=false:=by simpa using h
    rw [List.any_eq_false] at h
    have:=h p.2.1[i] (by
     rw [←List.getElem_take (j:=j) (h:=by rw [List.length_take]; omega)]
     exact List.getElem_mem _)
    simpa using this
 ·cases e
theorem QhM {p:PolD} (hok:OkPol p) {x:QN} (hx:x∈p.2.1) {l:List Int} (hl:l∈p.1):x.2.2.1∉l:=by
 obtain ⟨j,hj,rfl⟩:=List.mem_iff_getElem.1 hx;have e:=Qle hok hj;unfold Qeg at e;split at e
 ·rename_i h; exact absurd e h
 split at e
 ·split at e
  ·cases e
  ·rename_i h;intro hm;apply h;rw [Qap,decide_eq_true_eq];unfold Qfv;cases hs:scan (fun i (l:List Int)=>if l.contains p.2.1[j].2.2.1=true then some ((i:Nat):Int) else none) 0 p.1 with
   | none=>
    obtain ⟨i,hi⟩:=Qbm hs l hl;rw [if_pos (by simpa using hm)] at hi
    cases hi
   | some k=>
    refine Qdc (P:=fun c:Int=>0≤c) (fun i hi c hc=>?_) _ hs
    split at hc
    ·obtain rfl:=Osj hc; omega
    ·cases hc
 ·cases e
theorem Qeh {p:PolD} (hok:OkPol p) {x y:QN} (hx:x∈p.2.1) (hy:y∈p.2.1) (h:x.2.2.1=y.2.2.1):x=y:=by
 obtain ⟨i,hi,rfl⟩:=List.mem_iff_getElem.1 hx;obtain ⟨j,hj,rfl⟩:=List.mem_iff_getElem.1 hy;have hp:=List.pairwise_iff_getElem.1 (Qhd hok)
 have key: ∀{i j:Nat} (hi:i< p.2.1.length) (hj:j< p.2.1.length),i< j→p.2.1[i].2.2.1=p.2.1[j].2.2.1→False:=fun hi hj hij e=>by
  have:=hp _ _ hi hj hij;unfold clash at this;rw [e] at this;simp at this
 rcases Nat.lt_trichotomy i j with c | c | c
 ·exact (key hi hj c h).elim
 ·subst c; rfl
 ·exact (key hj hi c h.symm).elim
theorem Qhh: ∀(r:List Int) (k:Nat) (l:List TwoD) (j:Nat),k+r.length≤l.length→pgAt (QbA k r l) j=if k≤j∧j< k+r.length then (r.getD (j-k) 0,7,()) else pgAt l j
 | [],k,l,j,_=>by rw [if_neg (by simp only [List.length_nil]; omega)]; rfl
 | p::r,k,l,j,h=>by
  simp only [List.length_cons] at h;rw [QbA,Qhh r (k+1) _ j (by rw [List.length_set]; omega)]
  simp only [List.length_cons];by_cases e:j=k
  ·subst e;rw [if_neg (by omega),if_pos (by omega),Nat.sub_self]
   exact QcW (by omega)
  ·by_cases c:k+1≤j∧j< k+1+r.length
   ·rw [if_pos c,if_pos (by omega),show j-k=(j-(k+1))+1 by omega]; rfl
   ·rw [if_neg c,if_neg (by omega)]; exact QcX (Ne.symm e)
theorem Qql (j:Nat):pgAt QaP j=(-1,0,()):=by
 match j with
 | 0 | 1 | 2 | 3 | 4 | 5 | 6 | 7=>rfl
 | n+8=>rfl
theorem Qdr {x:QN} {g k:Int}:Qbx x g k=true↔(x.1=g∧x.2.2.2.1=k)∨(x.2.1=g∧x.2.2.2.2.1=k):=by
 unfold Qbx;simp
theorem QuC {l o:QN}:clash l o=false↔o.2.2.1≠l.2.2.1∧ ¬(Qbx o l.1 l.2.2.2.1=true)∧ ¬(Qbx o l.2.1 l.2.2.2.2.1=true):=by
 unfold clash;simp [Bool.or_eq_false_iff]
theorem QhC {z x:QN} (h:clash z x=false) {g k:Int} (hx:Qbx x g k=true):Qbx z g k=false:=by
 obtain ⟨_,h1,h2⟩:=QuC.1 h;rw [←Bool.not_eq_true];intro hz;rcases Qdr.1 hz with ⟨a,b⟩ | ⟨a,b⟩
 ·exact h1 (by rw [a,b]; exact hx)
 ·exact h2 (by rw [a,b]; exact hx)
def Qev (x:QN):Prop:=x.1≠x.2.1∧(5≤x.2.2.2.1∧x.2.2.2.1≤6)∧(5≤x.2.2.2.2.1∧x.2.2.2.2.1≤6)
theorem Qhc {g:Int} {x:QN} (hx:Qev x) {l:List TwoD} (hl:l.length=8) (k:Nat):pgAt (Qck g x l) k=if x.1=g∧x.2.2.2.1=(k:Int) then (x.2.2.1,3,()) else if x.2.1=g∧x.2.2.2.2.1=(k:Int) then (x.2.2.1,1,()) else pgAt l k:=by
 obtain ⟨h0,h1,h2⟩:=hx;unfold Qck;dsimp only;by_cases a:x.1=g
 ·have b: ¬x.2.1=g:=fun b=>h0 (a.trans b.symm)
  rw [if_neg b,if_pos a,if_neg (c:=x.2.1=g∧_) (fun c=>b c.1)]
  by_cases c:x.2.2.2.1=(k:Int)
  ·rw [if_pos ⟨a,c⟩,show x.2.2.2.1.toNat=k by omega]; exact QcW (by omega)
  ·rw [if_neg (fun d=>c d.2)]; exact QcX (by omega)
 ·rw [if_neg a,if_neg (c:=x.1=g∧_) (fun c=>a c.1)]
  by_cases b:x.2.1=g
  ·rw [if_pos b];by_cases c:x.2.2.2.2.1=(k:Int)
   ·rw [if_pos ⟨b,c⟩,show x.2.2.2.2.1.toNat=k by omega]; exact QcW (by omega)
   ·rw [if_neg (fun d=>c d.2)]; exact QcX (by omega)
  ·rw [if_neg b,if_neg (fun c=>b c.1)]
theorem QdN {g:Int} {k:Nat}: ∀(r:List QN) (l:List TwoD),l.length=8→(∀x∈r,Qev x)→(∀x∈r,Qbx x g (k:Int)=false)→pgAt (QaS g r l) k=pgAt l k
 | [],_,_,_,_=>rfl
 | x::r,l,hl,h1,h2=>by
  rw [QaS,QdN r _ (by rw [QbF]; exact hl) (fun y hy=>h1 y (List.mem_cons_of_mem _ hy)) (fun y hy=>h2 y (List.mem_cons_of_mem _ hy)),Qhc (h1 x (by simp)) hl]
  have:=h2 x (by simp)
  have: ¬Qbx x g (k:Int)=true:=by rw [this]; simp
  rw [Qdr] at this;rw [if_neg fun c=>this (.inl c),if_neg fun c=>this (.inr c)]
theorem Qio {g:Int} {x:QN}: ∀(r:List QN) (l:List TwoD),l.length=8→(∀y∈r,Qev y)→r.Pairwise (fun o l=>clash l o=false)→x∈r→x.1=g→pgAt (QaS g r l) x.2.2.2.1.toNat=(x.2.2.1,3,())
 | y::r,l,hl,h1,h2,hx,hg=>by
  rw [List.pairwise_cons] at h2;rw [QaS];rcases List.mem_cons.1 hx with rfl | hx
  ·have b:=h1 x (by simp)
   have e:((x.2.2.2.1.toNat:Nat):Int)=x.2.2.2.1:=by have:=b.2.1; omega
   rw [QdN r _ (by rw [QbF]; exact hl) (fun y hy=>h1 y (List.mem_cons_of_mem _ hy)) (fun z hz=>QhC (h2.1 z hz) (Qdr.2 (.inl ⟨hg,e.symm⟩))),Qhc b hl,if_pos ⟨hg,e.symm⟩]
  ·exact Qio r _ (by rw [QbF]; exact hl) (fun y hy=>h1 y (List.mem_cons_of_mem _ hy)) h2.2 hx hg
theorem Qld {g:Int} {x:QN}: ∀(r:List QN) (l:List TwoD),l.length=8→(∀y∈r,Qev y)→r.Pairwise (fun o l=>clash l o=false)→x∈r→x.2.1=g→pgAt (QaS g r l) x.2.2.2.2.1.toNat=(x.2.2.1,1,())
 | y::r,l,hl,h1,h2,hx,hg=>by
  rw [List.pairwise_cons] at h2;rw [QaS];rcases List.mem_cons.1 hx with rfl | hx
  ·have b:=h1 x (by simp)
   have e:((x.2.2.2.2.1.toNat:Nat):Int)=x.2.2.2.2.1:=by have:=b.2.2; omega
   rw [QdN r _ (by rw [QbF]; exact hl) (fun y hy=>h1 y (List.mem_cons_of_mem _ hy)) (fun z hz=>QhC (h2.1 z hz) (Qdr.2 (.inr ⟨hg,e.symm⟩))),Qhc b hl,if_neg (fun c=>b.1 (c.1.trans hg.symm)),if_pos ⟨hg,e.symm⟩]
  ·exact Qld r _ (by rw [QbF]; exact hl) (fun y hy=>h1 y (List.mem_cons_of_mem _ hy)) h2.2 hx hg
theorem QeH {g:Int} {k:Nat}: ∀(r:List QN) (l:List TwoD),l.length=8→(∀y∈r,Qev y)→pgAt (QaS g r l) k=pgAt l k∨
  (∃x∈r,x.1=g∧x.2.2.2.1=(k:Int)∧pgAt (QaS g r l) k=(x.2.2.1,3,()))∨(∃x∈r,x.2.1=g∧x.2.2.2.2.1=(k:Int)∧pgAt (QaS g r l) k=(x.2.2.1,1,()))
 | [],_,_,_=> .inl rfl
 | y::r,l,hl,h1=>by
  rw [QaS];rcases QeH (k:=k) r (Qck g y l) (by rw [QbF]; exact hl) (fun y hy=>h1 y (List.mem_cons_of_mem _ hy)) with e | ⟨x,hx,e⟩ | ⟨x,hx,e⟩
  ·rw [e,Qhc (h1 y (by simp)) hl]
   by_cases a:y.1=g∧y.2.2.2.1=(k:Int)
   ·rw [if_pos a]; exact .inr (.inl ⟨y,by simp,a.1,a.2,rfl⟩)
   ·rw [if_neg a];by_cases b:y.2.1=g∧y.2.2.2.2.1=(k:Int)
    ·rw [if_pos b]; exact .inr (.inr ⟨y,by simp,b.1,b.2,rfl⟩)
    ·rw [if_neg b]; exact .inl rfl
  ·exact .inr (.inl ⟨x,List.mem_cons_of_mem _ hx,e⟩)
  ·exact .inr (.inr ⟨x,List.mem_cons_of_mem _ hx,e⟩)
theorem QbJ {p:PolD} (hok:OkPol p): ∀x∈p.2.1,Qev x:=fun x hx=>by
 have:=QbO hok x hx;exact ⟨this.1.2.2,this.2.2.1,this.2.2.2⟩
end Go.Proofs.YtkkljegcnnfanaaGreatDoor
