/- Plain laws: what the functions compute, and that both programs compute the same. -/
import Derived.Test.YtkkljegcnnfanaaGreatDoorPb2
set_option linter.unusedVariables false
set_option linter.unusedSimpArgs false
namespace Go.Proofs.YtkkljegcnnfanaaGreatDoor
open Go Go.RowKit S Go.Proofs
set_option maxRecDepth 100000
section
variable {l:List TwoD} {s:Mc}
theorem QwA (h:OkS s l) {op d a i:Int} (hi:OkI op d a i):OkS (exM s l op d a i).2.2.2 l∧WW (exM s l op d a i).2.2.1∧((exM s l op d a i).1=true→WW (exM s l op d a i).2.1):=by
 have hp: ∀x y,WW (addW x y):=Qla;have h0:WW 0:=by unfold WW; omega
 have hd:=hi.hd;have ha:=hi.ha;have hii:=hi.hi;have hra:=h.r.w (k:=a.toNat) (by omega)
 have hrd:=h.r.w (k:=d.toNat) (by omega)
 unfold exM
 let P:Bool×Int×Int×Mc→Prop:=fun x=>OkS x.2.2.2 l∧WW x.2.2.1∧(x.1=true→WW x.2.1)
 refine Qi P (fun _=>⟨h,hp _ _,fun _=>hp _ _⟩) fun _=>Qi P (fun _=>⟨h,by unfold WW; dsimp only; omega,fun _=>hp _ _⟩) fun _=>Qi P (fun _=>?_) fun _=>Qi P (fun _=>?_) fun _=>
  Qi P (fun _=>⟨h,h0,fun _=>Qi WW (fun _=>hp _ _) fun _=>hp _ _⟩) fun _=>Qi P (fun _=>⟨h,hp _ _,fun _=>hp _ _⟩) fun _=>Qi P (fun _=>⟨h,hp _ _,fun _=>hp _ _⟩) fun _=>
  Qi P (fun h21=>⟨h,QrZ h.c ⟨hii.1,hi.i21 (.inl h21)⟩ h.d,fun _=>hp _ _⟩) fun _=>Qi P (fun h22=>⟨⟨h.r,h.pc,QvQ h.c ⟨hii.1,hi.i21 (.inr h22)⟩,h.i,h.o,h.d,h.l⟩,h0,fun _=>hp _ _⟩) fun _=>
  Qi P (fun _=>⟨Qgp h (by unfold WW; omega) h0,h0,fun _=>h0⟩) fun _=>Qi P (fun _=>⟨⟨h.r,h.c.w (by decide),Qtv h.c,h.i,h.o,h.d,h.l⟩,h0,fun _=>h.c.w (by decide)⟩) fun _=>
  Qi P (fun _=>⟨⟨h.r,h.pc,h.c,h.i,h.o,h.d,h.l⟩,h0,fun _=>hp _ _⟩) fun _=>Qi P (fun _=>⟨⟨h.r,h.pc,h.c,h.i,h.o,h.d,h.l⟩,h0,fun _=>h.pc⟩) fun _=>⟨h,QrC _ _ _,fun _=>hp _ _⟩
 ·have hin:=QbZ h.c h.l (addW (s.r.getD a.toNat 0) (off i)) 1;refine Qi P (fun _=>⟨Qgp h (by unfold WW; omega) (hp _ _),h0,fun _=>h0⟩) fun hq0=>Qi P (fun _=>?_) fun hq=>⟨h,?_,fun _=>hp _ _⟩
  ·have:=QuG (ru:=s.ru) h.c h.i h.d ((Qx s.cs l s.m (addW (s.r.getD a.toNat 0) (off i)) 1).1-1000);exact ⟨⟨h.r,h.pc,h.c,this.2,h.o,h.d,h.l⟩,this.1,fun _=>hp _ _⟩
  ·have hlt:0≤(Qx s.cs l s.m (addW (s.r.getD a.toNat 0) (off i)) 1).1∧(Qx s.cs l s.m (addW (s.r.getD a.toNat 0) (off i)) 1).1< (s.m.length:Int):=by
    rcases hin (by simpa using hq0) with h | h
    ·exact absurd h.1 hq
    ·exact h
   exact h.l.words _ (QaG (by omega))
 ·refine Qi P (fun _=>⟨Qgp h (by unfold WW; omega) (hp _ _),h0,fun _=>h0⟩) fun hq0=>Qi P (fun _=>?_) fun hq=>?_
  ·exact ⟨⟨h.r,h.pc,QwY h.c _ _,h.i,QwZ h.o _ _,h.d,h.l⟩,h0,fun _=>hp _ _⟩
  ·refine ⟨⟨h.r,h.pc,h.c,h.i,h.o,h.d,⟨h.l.len,fun p hpm=>?_,fun w hw=>?_,?_⟩⟩,h0,fun _=>hp _ _⟩
   ·have:=h.l.pgs p hpm;dsimp only;rw [List.length_set];exact this
   ·rcases List.mem_or_eq_of_mem_set hw with hw | rfl
    ·exact h.l.words w hw
    ·exact hrd
   ·dsimp only;rw [List.length_set];exact h.l.mlen
theorem OkR.set {r:List Int} (h:OkR r) {k:Nat} {w:Int} (hk:0< k) (hw:WW w):OkR (r.set k w):=
 ⟨by rw [List.length_set]; exact h.len,fun z hz=>by
  rcases List.mem_or_eq_of_mem_set hz with hz | rfl
  ·exact h.words z hz
  ·exact hw,by rw [getD_set_ne (by omega)]; exact h.zero⟩
theorem QtF (h:OkS s l) {op d a i:Int} (hi:OkI op d a i):OkS (doM s l op d a i).2 l:=by
 have he:=QwA h hi;unfold doM;dsimp only;refine Qi (fun x:Bool×Mc=>OkS x.2 l) (fun hb=>?_) fun _=>he.1
 refine ⟨?_,he.2.2 hb,he.1.c,he.1.i,he.1.o,he.1.d,he.1.l⟩;refine Qi OkR (fun hd=>he.1.r.set (by omega) he.2.1) fun _=>he.1.r
theorem Qul (h:OkS s l):OkS (QfE s) l:=by
 have:=h.d;refine ⟨h.r,h.pc,h.c,h.i,h.o,?_,h.l⟩;unfold QfE;dsimp only;split <;> omega
theorem Qrk (h:OkS s l):OkS (runM s l) l:=by
 unfold runM;have hin:=QbZ h.c h.l s.pc 4;refine Qi (fun x=>OkS x l) (fun _=>Qgp h (by unfold WW; omega) h.pc) fun hq0=>?_
 have hlt:0≤(Qx s.cs l s.m s.pc 4).1∧(Qx s.cs l s.m s.pc 4).1< (s.m.length:Int):=by
  rcases hin (by simpa using hq0) with h | h
  ·exact absurd rfl h.2.2
  ·exact h
 have hw:WW (s.m.getD (Qx s.cs l s.m s.pc 4).1.toNat 0):=h.l.words _ (QaG (by omega))
 refine Qi (fun x=>OkS x l) (fun hd=>?_) fun _=>Qgp h (by unfold WW; omega) hw
 exact Qi (fun x=>OkS x l) (fun _=>Qul (QtF h (QiW hd))) fun _=>QtF h (QiW hd)
theorem Qkt (h:OkS s l):OkS (Qak s l) l:=by
 have h0:OkS { s with ring:= -1,fall:= -1 } l:=⟨h.r,h.pc,h.c,h.i,h.o,h.d,h.l⟩
 have h1:OkS { s with ring:= -1,fall:= -1,wa:=false } l:=⟨h.r,h.pc,h.c,h.i,h.o,h.d,h.l⟩
 have hle:=QmL s.cs s.ru s.dn s.iq;unfold Qak;refine Qi (fun x=>OkS x l) (fun _=>h0) fun _=>Qi (fun x=>OkS x l) (fun hk=>Qgp h0 ?_ (by unfold WW; omega)) fun _=>Qi (fun x=>OkS x l) (fun _=>Qi (fun x=>OkS x l) (fun _=>h0) fun _=>Qrk h1) fun _=>Qrk h0
 unfold WW;dsimp only at*;omega
end
theorem Qki {α β:Type} {f:Nat→α→Option β}: ∀{m:List α} {i:Nat},scan f i m=none→ ∀x∈m, ∃j,f j x=none
 | [],_,_,_,hx=>by cases hx
 | y::r,i,h,x,hx=>by
  simp only [scan] at h;split at h
  ·cases h
  ·rename_i hn;rcases List.mem_cons.1 hx with rfl | hx
   ·exact ⟨_,hn⟩
   ·exact Qki h x hx
theorem QpT {l:List TwoD} {top:Int} (ht:1≤top∧top≤24) (h:Qik l top=0):l.length=8∧ ∀p∈l,(-1≤p.1∧p.1≤top-1)∧(0≤p.2.1∧p.2.1≤7):=by
 unfold Qik at h;rw [if_pos (by unfold inB; simp [ht.1,ht.2])] at h
 split at h
 ·rename_i hl;refine ⟨hl,fun p hp=>?_⟩
  have key:scan (fun (_:Nat) p=>Qou top p) 0 l=none:=by
   split at h
   ·rename_i c hc;exfalso
    have: ∀{l:List TwoD} {i:Nat} {c:Int},scan (fun (_:Nat) p=>Qou top p) i l=some c→c≠0:=by
     intro l
     induction l with
     | nil=>intro i c h; simp [scan] at h
     | cons y r ih=>
      intro i c h;simp only [scan] at h;split at h
      ·rename_i c' hc';obtain rfl:=Osj h;unfold Qou nz at hc';intro e;subst e
       repeat' split at hc'
       all_goals first | (cases hc'; done) | simp_all
      ·exact ih h
    exact this hc h
   ·rename_i hn; exact hn
  obtain ⟨j,hj⟩:=Qki key p hp;unfold Qou inB at hj;split at hj
  ·rename_i h1;split at hj
   ·rename_i h2;simp only [Bool.and_eq_true,decide_eq_true_eq] at h1 h2;omega
   ·cases hj
  ·cases hj
 ·omega
def Mc.of (h:QH) (m:List Int):Mc:=⟨h.1,h.2.1,h.2.2.1,h.2.2.2.1,h.2.2.2.2.1,h.2.2.2.2.2.1,h.2.2.2.2.2.2.1,h.2.2.2.2.2.2.2.1,h.2.2.2.2.2.2.2.2.1,m, -1, -1⟩
theorem Qwi {h:QH} {l:List TwoD} {m:List Int} (h1:hartM h=0) (hL:OkL l m):OkS (Mc.of h m) l:=by
 unfold hartM at h1;split at h1
 ·rename_i c1;split at h1
  ·rename_i c2;split at h1
   ·rename_i c3;split at h1
    ·rename_i c4;split at h1
     ·rename_i c5;simp only [inB,Bool.and_eq_true,decide_eq_true_eq] at c4;exact ⟨⟨c1.1,Qah.1 c2.1,c1.2.2⟩,Qgg.1 c2.2.1,⟨c1.2.1,Qah.1 c2.2.2.1,c5.1,c5.2.1,c5.2.2.1,c5.2.2.2.1,c5.2.2.2.2⟩,⟨c3.1,Qah.1 c2.2.2.2.1⟩,⟨c3.2,Qah.1 c2.2.2.2.2⟩,c4,hL⟩
     ·omega
    ·omega
   ·omega
  ·omega
 ·omega
theorem Qqk (h:QH) (hh:QbQ 1048576 h):F_al (h,())=some ((h,()),()):=by
 obtain ⟨h1,h2,h3,h4⟩:=hh;unfold F_al;dsimp only;rw [if_pos (by simp; omega),if_pos (by simp; omega),if_pos (by simp; omega),if_pos (by simp; omega)]
 rfl
theorem Qsl (h:QH) (hh:QbQ 1048576 h):F_di (h,())=some ((h,()),()):=by
 obtain ⟨h1,h2,h3,h4⟩:=hh;unfold F_di;dsimp only;rw [Qdc h1,Obn,Qdc h2,Obn,Qdc h3,Obn,Qdc h4,Obn]
theorem QsZ (h:QH) (l:List TwoD) (m:List Int) (hh:QbQ 1048576 h) (hm:m.length≤1048576):F_am (h,l,m,())=some (((Mc.of h m).bus l,()),()):=by
 unfold F_am F_ak;dsimp only;rw [if_pos (by simp; omega),Obn,Qqk h hh,Obn]
 rfl
def Qcu (l:List TwoD):Nat→Int→Int→Mc→Int×Int×Mc
 | 0,c,g,s=>(c,g,s)
 | k+1,c,g,s=>Qcu l k (if 0≤(Qak s l).fall then (Qak s l).fall else c) (if 0≤(Qak s l).ring then (Qak s l).ring else g) (Qak s l)
abbrev Qtn:=Int×Int×Int×List Int×Int×List Int×Bool×Bool×Bool×Int×List Int×List Int×List Int×Unit
def Qpj (c:Int):Qtn:=(c,0,0,[],0,[],false,false,false,0,[],[],[],())
def Mc.res (s:Mc) (c g:Int):Qtn:=(0,c,g,s.r,s.pc,s.cs,s.ha,s.wa,s.ru,s.dn,s.iq,s.oq,s.m,())
def acc (c g:Int):Qtn:=(0,c,g,[],0,[],false,false,false,0,[],[],[],())
theorem QkM (l:List TwoD) (n:Int) (h0:0≤n∧n≤500) (s0:Mc) (h:OkS s0 l): ∀(i:Nat) (x:Int×Int×Mc),i≤n.toNat→OkS x.2.2 l→
  Qd l_ga_4 lots (((),(),x.1,x.2.1,n,((i:Nat):Int),()),(Qpj 0,x.2.2.core l,()),())=
   some (.inl (((),(),(Qcu l (n.toNat-i) x.1 x.2.1 x.2.2).1,(Qcu l (n.toNat-i) x.1 x.2.1 x.2.2).2.1,()),(Qpj 0,(Qcu l (n.toNat-i) x.1 x.2.1 x.2.2).2.2.core l,()),())):=by
 have key:=Qfa (step:=l_ga_4) (γ:=denO o_ga_4) (fun i (x:Int×Int×Mc)=>(((),(),x.1,x.2.1,n,((i:Nat):Int),()),(Qpj 0,x.2.2.core l,()),())) n.toNat (QaM (by omega)) (fun _ x=>OkS x.2.2 l)
  (fun i x=>some (.inl (((),(),(Qcu l (n.toNat-i) x.1 x.2.1 x.2.2).1,(Qcu l (n.toNat-i) x.1 x.2.1 x.2.2).2.1,()),(Qpj 0,(Qcu l (n.toNat-i) x.1 x.2.1 x.2.2).2.2.core l,()),()))) ?_
 ·exact key
 ·rintro rec i ⟨c,g,s⟩ hi hok ih;unfold l_ga_4;dsimp only at*;by_cases hlt:i< n.toNat
  ·rw [if_pos (QB.2 (by omega)),QpE hok,Obn]
   have e1:n.toNat-i=n.toNat-(i+1)+1:=by omega
   have ih2:=ih (if 0≤(Qak s l).fall then (Qak s l).fall else c,if 0≤(Qak s l).ring then (Qak s l).ring else g,Qak s l) hlt (Qkt hok)
   dsimp only;rw [QQ (by omega),e1]
   simp only [Qcu];rw [←ih2];unfold Mc.core;dsimp only;by_cases hf:0≤(Qak s l).fall
   ·rw [if_pos (QaW.2 hf),if_pos hf];by_cases hg:0≤(Qak s l).ring
    ·rw [if_pos (QaW.2 hg),if_pos hg]
    ·rw [if_neg (by rw [QaW]; exact hg),if_neg hg]
   ·rw [if_neg (by rw [QaW]; exact hf),if_neg hf]
    by_cases hg:0≤(Qak s l).ring
    ·rw [if_pos (QaW.2 hg),if_pos hg]
    ·rw [if_neg (by rw [QaW]; exact hg),if_neg hg]
  ·have:i=n.toNat:=by omega
   subst this;rw [if_neg (by rw [QB]; omega),Nat.sub_self]
   rfl
theorem QpK (l:List TwoD) (a b:Int) (s:Mc): ∀(k:Nat) (c g:Int),(Qcu l k c g { s with ring:=a,fall:=b }).1=(Qcu l k c g s).1∧(Qcu l k c g { s with ring:=a,fall:=b }).2.1=(Qcu l k c g s).2.1∧
  ∀x y,(Qcu l k c g { s with ring:=a,fall:=b }).2.2.res x y=(Qcu l k c g s).2.2.res x y
 | 0,_,_=>⟨rfl,rfl,fun _ _=>rfl⟩
 | k+1,_,_=>⟨rfl,rfl,fun _ _=>rfl⟩
theorem QkP (h:QH) (l:List TwoD) (m:List Int) (n:Int) (hh:QbQ 1048576 h) (hm:m.length≤1048576) (ho:OkS (Mc.of h m) l) (hn:0≤n∧n≤500):F_ga (h,l,m,n,())=
  some (((Qcu l n.toNat (-1) (-1) (Mc.of h m)).2.2.res (Qcu l n.toNat (-1) (-1) (Mc.of h m)).1 (Qcu l n.toNat (-1) (-1) (Mc.of h m)).2.1,()),()):=by
 have ho2:OkS { Mc.of h m with ring:=0,fall:=0 } l:=⟨ho.r,ho.pc,ho.c,ho.i,ho.o,ho.d,ho.l⟩
 have key:=QkM l n hn _ ho2 0 (-1, -1,{ Mc.of h m with ring:=0,fall:=0 }) (by omega) ho2
 obtain ⟨q1,q2,q3⟩:=QpK l 0 0 (Mc.of h m) n.toNat (-1) (-1);unfold F_ga;dsimp only;rw [Qsl h hh,Obn,Qdc hm,Obn];show (Qd l_ga_4 lots (((),(),(-1),(-1),n,(((0:Nat):Nat):Int),()),(Qpj 0,Mc.core { Mc.of h m with ring:=0,fall:=0 } l,()),())).bind _=_
 rw [key, ←q1, ←q2, ←q3];rfl
section
variable {l:List TwoD} {s:Mc}
def FR (s:Mc):Prop:=(s.fall= -1∨0≤s.fall)∧(s.ring= -1∨0≤s.ring)
theorem FR.trap (h:FR s) {cause tval:Int} (hc:0≤cause):FR (s.trap cause tval):=⟨.inr hc,h.2⟩
theorem QuI (k w:Int):QiM k w= -1∨0≤QiM k w:=by
 unfold QiM; split
 ·exact .inr (Qag w).1
 ·exact .inl rfl
theorem Qwz (h:FR s) (op d a i:Int):FR (exM s l op d a i).2.2.2:=by
 unfold exM
 let P:Bool×Int×Int×Mc→Prop:=fun x=>FR x.2.2.2
 refine Qi P (fun _=>h) fun _=>Qi P (fun _=>h) fun _=>Qi P (fun _=>Qi P (fun _=>h.trap (by omega)) fun _=>Qi P (fun _=>h) fun _=>h) fun _=>
  Qi P (fun _=>Qi P (fun _=>h.trap (by omega)) fun _=>Qi P (fun _=>⟨h.1,QuI _ _⟩) fun _=>h) fun _=>Qi P (fun _=>h) fun _=>Qi P (fun _=>h) fun _=>Qi P (fun _=>h) fun _=>
  Qi P (fun _=>h) fun _=>Qi P (fun _=>h) fun _=>Qi P (fun _=>h.trap (by omega)) fun _=>Qi P (fun _=>h) fun _=>Qi P (fun _=>h) fun _=>Qi P (fun _=>h) fun _=>h
theorem QtD (h:FR s) (op d a i:Int):FR (doM s l op d a i).2:=by
 have he:=Qwz (l:=l) h op d a i;unfold doM;dsimp only;exact Qi (fun x:Bool×Mc=>FR x.2) (fun _=>he) fun _=>he
theorem Qrj (h:FR s):FR (runM s l):=by
 unfold runM;refine Qi FR (fun _=>h.trap (by omega)) fun _=>Qi FR (fun _=>?_) fun _=>h.trap (by omega)
 exact Qi FR (fun _=>QtD (l:=l) h _ _ _ _) fun _=>QtD h _ _ _ _
theorem QoU (s:Mc) (l:List TwoD):FR (Qak s l):=by
 have h0:FR { s with ring:= -1,fall:= -1 }:=⟨.inl rfl,.inl rfl⟩
 have h1:FR { s with ring:= -1,fall:= -1,wa:=false }:=⟨.inl rfl,.inl rfl⟩
 unfold Qak;refine Qi FR (fun _=>h0) fun _=>Qi FR (fun hk=>h0.trap (Int.add_nonneg (by decide) hk)) fun _=>Qi FR (fun _=>Qi FR (fun _=>h0) fun _=>Qrj h1) fun _=>Qrj h0
end
theorem Qur {x:Qbu} (h:QcY x=0):OkS (Mc.of x.1 x.2.2.1) x.2.1:=by
 obtain ⟨h1,h2,h3,h4⟩:=QeU h;obtain ⟨hl,hp⟩:=QpT (by decide) h2
 refine Qwi h1 ⟨hl,fun p hpm=>?_,?_,by omega⟩
 ·have:=hp p hpm;refine ⟨by omega,this.2,?_⟩
  rw [h4]; omega
 ·have hm:=Qgx h3;unfold QN at h3;rw [if_pos hm] at h3;split at h3
  ·exact Qah.1 ‹_›
  ·omega
abbrev SrcD:=List Int×Int×Unit
def Sr (s:SrcD) (k:Int):Prop:=Byt s.1∧0≤s.2.1∧s.2.1≤k
theorem Sr.le {s:SrcD} {k k':Int} (h:Sr s k) (hk:k≤k'):Sr s k':=⟨h.1,h.2.1,Int.le_trans h.2.2 hk⟩
theorem Sr.pos {s:SrcD} {k:Int} (h:Sr s k):0≤k:=Int.le_trans h.2.1 h.2.2
def Dr {X:Type} (o:Option X) (P:X→Prop):Prop:= ∃v,o=some v∧P v
theorem Dr.bind {X Y:Type} {o:Option X} {f:X→Option Y} {Q:X→Prop} {P:Y→Prop} (h:Dr o Q) (g: ∀v,Q v→Dr (f v) P):Dr (o.bind f) P:=by
 obtain ⟨v,rfl,hv⟩:=h;exact g v hv
theorem Dr.ret {X:Type} {v:X} {P:X→Prop} (h:P v):Dr (some v) P:=⟨v,rfl,h⟩
theorem Dr.ite {X:Type} {c:Prop} [Decidable c] {a b:Option X} {P:X→Prop} (ha:c→Dr a P) (hb: ¬c→Dr b P):Dr (if c then a else b) P:=by
 split
 ·exact ha ‹_›
 ·exact hb ‹_›
theorem Dr.guard {X:Type} {c:Prop} [Decidable c] {a:Option X} {P:X→Prop} (hc:c) (ha:Dr a P):Dr (if c then a else none) P:=by rw [if_pos hc]; exact ha
theorem Dr.nguard {X:Type} {c:Prop} [Decidable c] {a:Option X} {P:X→Prop} (hc: ¬c) (ha:Dr a P):Dr (if c then none else a) P:=by rw [if_neg hc]; exact ha
theorem Dr.get {X Y:Type} {xs:List X} {i:Nat} {f:X→Option Y} {P:Y→Prop} (hi:i< xs.length) (h: ∀y,y∈xs→xs[i]?=some y→Dr (f y) P):Dr ((xs[i]?).bind f) P:=by
 rw [List.getElem?_eq_getElem hi,Obn];exact h _ (List.getElem_mem hi) (List.getElem?_eq_getElem hi)
theorem Dr.gat {X Y:Type} {xs:List X} {i:Int} {n:Nat} {f:X→Option Y} {P:Y→Prop} (hn:xs.length=n) (h:0≤i∧i< (n:Int)) (k: ∀y,y∈xs→Dr (f y) P):Dr (if 0≤i∧i< ((xs.length:Nat):Int) then (xs[i.toNat]?).bind f else none) P:=by
 subst hn;exact Dr.guard h (Dr.get (by omega) fun y hy _=>k y hy)
theorem Dr.of {X:Type} {o:Option X} {v:X} {P:X→Prop} (h:o=some v) (hv:P v):Dr o P:=⟨v,h,hv⟩
theorem Qab {X Y:Type} {step:(X→Option Y)→X→Option Y} {Q:Y→Prop} (I:Nat→X→Prop) (h: ∀rec m x,I m x→(∀m' x',m'< m→I m' x'→Dr (rec x') Q)→Dr (step rec x) Q) (m:Nat) (x:X) (hI:I m x) (hm:m< lots):Dr (Qd step lots x) Q:=by
 have key: ∀n m x,m< n→I m x→Dr (Qd step n x) Q:=by
  intro n
  induction n with
  | zero=>intro m x h; omega
  | succ n ih=>intro m x hm hI; exact h _ m x hI fun m' x' hlt hI'=>ih m' x' (by omega) hI'
 exact key lots m x hm hI
def Bd (n x:Int):Prop:=0≤x∧(x< n∨x=0)
theorem Bd.to3 {x:Int} (h:Bd 3 x):x.toNat≤2∧0≤x∧x≤2:=by unfold Bd at h; omega
theorem Bd.e {n x:Int} (h:Bd n x):0≤x∧(x< n∨x=0):=h
def Bt (a b x:Int):Prop:=a≤x∧x≤b
theorem Bt.e {a b x:Int} (h:Bt a b x):a≤x∧x≤b:=h
theorem QW {s:SrcD} {k:Int} (h:Sr s k) (hk:k≤1099511627776) (n:Int):Dr (F_c (s,n,())) fun r=>Sr r.2.1 (k+1)∧Bd n r.1.1:=
 .of (QqZ (s,n,()) h.1 ⟨h.2.1,Int.le_trans h.2.2 hk⟩) ⟨⟨h.1,by have:=h.2.1; dsimp only; omega,by have:=h.2.2; dsimp only; omega⟩,QwH (s,n,()) h.1 ⟨h.2.1,Int.le_trans h.2.2 hk⟩⟩
theorem Qbt {s:SrcD} {k:Int} (h:Sr s k) (hk:k≤1099511627776) (x:Int) (l:List Int):Dr (F_d (s,x::l,())) fun r=>Sr r.2.1 (k+1)∧(r.1.1:Int)∈x::l:=
 .of (Qrf (s,x::l,()) rfl h.1 ⟨h.2.1,Int.le_trans h.2.2 hk⟩) ⟨⟨h.1,by have:=h.2.1; dsimp only; omega,by have:=h.2.2; dsimp only; omega⟩,QwP (s,x::l,()) rfl h.1 ⟨h.2.1,Int.le_trans h.2.2 hk⟩⟩
theorem QcK {s:SrcD} {k:Int} (h:Sr s k) (hk:k≤1099511627776) (n:Int):Dr (F_s (s,n,())) fun r=>Sr r.2.1 (k+1):=
 .of (Qlj (s,n,()) h.1 ⟨h.2.1,Int.le_trans h.2.2 hk⟩) ⟨h.1,by have:=h.2.1; dsimp only; omega,by have:=h.2.2; dsimp only; omega⟩
theorem QfU {s:SrcD} {k:Int} (h:Sr s k) (hk:k≤1073741824):Dr (F_t (s,())) fun r=>Sr r.2.1 (k+5)∧Bt 0 4294967295 r.1.1:=
 .of (QrA (s,()) h.1 ⟨h.2.1,Int.le_trans h.2.2 hk⟩) ⟨⟨h.1,by have:=h.2.1; dsimp only; omega,by have:=h.2.2; dsimp only; omega⟩,QwX (s,()) h.1 ⟨h.2.1,Int.le_trans h.2.2 hk⟩⟩
theorem Qvs {s:SrcD} {k:Int} (h:Sr s k) (hk:k≤10000000) (n:Int) (h0:0≤n) (hn:n≤1000):Dr (F_u (s,n,())) fun r=>Sr r.2.1 (k+26*n)∧(r.1.1.length:Int)=n:=by
 obtain ⟨c,a,_⟩:=s;obtain ⟨hc,h1,h2⟩:=h;dsimp only at h1 h2;obtain ⟨m,a',e,l1,l2,l3⟩:=QtS hc n a ⟨h1,by omega⟩ hn
 rw [if_neg (by omega)] at l1 l3
 exact .of e ⟨⟨hc,by dsimp only; omega,by dsimp only; omega⟩,l1⟩
theorem QoH {c:List Int} (h:Byt c):Dr (F_b (c,())) fun r=>Sr r.1.1 0:= .of rfl ⟨h,Int.le_refl _,Int.le_refl _⟩
structure HL (h:QH):Prop where
 r:h.1.length=16
 c:h.2.2.1.length=11
 i:h.2.2.2.2.2.2.2.1.length≤2
 o:h.2.2.2.2.2.2.2.2.1.length≤40
theorem Qxm {h:QH} (hh:HL h) {k:Int} (hk:0≤k∧k≤10) (w:Int):Dr (F_bc (h,k,w,())) fun r=>HL r.2.1:=by
 obtain ⟨h1,h2,h3,h4⟩:=hh;have hin:0≤k∧k< ((h.2.2.1.length:Nat):Int):=by omega
 have hin': ∀x,0≤k∧k< (((h.2.2.1.set k.toNat x).length:Nat):Int):=fun x=>by rw [List.length_set]; exact hin
 have hlt:k.toNat< h.2.2.1.length:=by omega
 have hlt': ∀x,k.toNat< (h.2.2.1.set k.toNat x).length:=fun x=>by rw [List.length_set]; exact hlt
 have hl: ∀x y,((h.2.2.1.set k.toNat x).set k.toNat y).length=11:=fun x y=>by simp [h2]
 have hl': ∀x,(h.2.2.1.set k.toNat x).length=11:=fun x=>by simp [h2]
 unfold F_bc;refine Dr.bind (Q:=fun _=>True) (.of (QdI _) trivial) fun r1 _=>?_
 repeat' (first
  | exact Dr.ret ⟨h1,h2,h3,h4⟩
  | exact Dr.ret ⟨h1,hl' _,h3,h4⟩
  | exact Dr.ret ⟨h1,hl _ _,h3,h4⟩
  | refine Dr.guard hin ?_
  | refine Dr.guard (hin' _) ?_
  | refine Dr.get hlt fun _ _ _=>?_
  | refine Dr.get (hlt' _) fun _ _ _=>?_
  | refine Dr.ite (fun _=>?_) fun _=>?_)
theorem Qsy {l:List Int} (hl:l.length≤2) (hw:allW l=true):Dr (F_af (l,())) fun r=>HL r.1.1.2∧r.1.1.2.2.2.2.2.2.2.2.1=l:=by
 unfold F_af;refine Dr.ite (fun c=>?_) fun c=>?_
 ·rw [QB] at c; dsimp only at c; omega
 refine Dr.bind (Q:=fun r=>r.1.1=allW l) (.of (QbE l (by omega)) rfl) fun r hr=>?_
 rw [if_neg (by rw [hr,hw]; simp)]
 refine Dr.guard (by simp; omega) (Dr.ret ⟨⟨by simp,by simp,by simpa using hl,by simp⟩,by simp⟩)
theorem Qsq {h:QH} {s:SrcD} {k:Int} (z:QH) (hh:HL h) (hs:Sr s k) (hk:k≤1000000000):Dr (L_bx_3 (((),((),((),((1:Int),())))),((z,(h,(s,()))),()))) fun o=> ∃x,o= .inl x∧HL x.2.1.2.1∧Sr x.2.1.2.2.1 (k+150):=by
 refine Qab (fun m u=>(m:Int)=16-(u.1.2.2.2.1:Int)∧1≤(u.1.2.2.2.1:Int)∧HL u.2.1.2.1∧Sr u.2.1.2.2.1 (k+10*((u.1.2.2.2.1:Int)-1))) ?_ 15 _ ⟨by dsimp only; omega,by dsimp only; omega,hh,hs.le (by dsimp only; omega)⟩ (by rw [QG]; omega)
 intro rec m u ⟨hm,h1,hh,hs⟩ ih;unfold l_bx_3;have hk0:=hs.pos;refine Dr.ite (fun c=>?_) fun c=>?_
 ·rw [QB] at c;have e:IntKind.i64.wrap ((u.1.2.2.2.1:Int)+1)=(u.1.2.2.2.1:Int)+1:=Qq (by omega) (by omega)
  refine (QcK hs (by omega) _).bind fun r9 h9=>Dr.ite (fun _=>?_) fun _=>?_
  ·refine (QfU h9 (by omega)).bind fun r10 h10=>(QW h10.1 (by omega) _).bind fun r11 h11=>(QW h11.1 (by omega) _).bind fun r12 h12=>(Qbt h12.1 (by omega) _ _).bind fun r14 h14=>?_
   refine Dr.gat hh.r (by omega) fun _ _=>ih (m-1) _ (by omega) ?_
   rw [e];exact ⟨by dsimp only; omega,by dsimp only; omega,⟨by simpa using hh.r,hh.c,hh.i,hh.o⟩,h14.1.le (by dsimp only; omega)⟩
  ·refine ih (m-1) _ (by omega) ?_
   rw [e];exact ⟨by dsimp only; omega,by dsimp only; omega,hh,h9.le (by dsimp only; omega)⟩
 ·rw [QB] at c;exact Dr.ret ⟨_,rfl,hh,hs.le (by omega)⟩
theorem QpI {h:QH} {s:SrcD} {k:Int} (z:QH) (hh:HL h) (hs:Sr s k) (hk:k≤1000000000):Dr (L_bx_10 (((),((),((),((0:Int),())))),((z,(h,(s,()))),()))) fun o=> ∃x,o= .inl x∧HL x.2.1.2.1∧Sr x.2.1.2.2.1 (k+110):=by
 refine Qab (fun m u=>(m:Int)=11-(u.1.2.2.2.1:Int)∧0≤(u.1.2.2.2.1:Int)∧HL u.2.1.2.1∧Sr u.2.1.2.2.1 (k+10*(u.1.2.2.2.1:Int))) ?_ 11 _ ⟨by dsimp only; omega,by dsimp only; omega,hh,hs.le (by dsimp only; omega)⟩ (by rw [QG]; omega)
 intro rec m u ⟨hm,h1,hh,hs⟩ ih;unfold l_bx_10;have hk0:=hs.pos;refine Dr.ite (fun c=>?_) fun c=>?_
 ·rw [QB] at c;have e:IntKind.i64.wrap ((u.1.2.2.2.1:Int)+1)=(u.1.2.2.2.1:Int)+1:=Qq (by omega) (by omega)
  refine (QcK hs (by omega) _).bind fun r9 h9=>Dr.ite (fun _=>?_) fun _=>?_
  ·refine (QW h9 (by omega) _).bind fun r11 h11=>(QW h11.1 (by omega) _).bind fun r12 h12=>(QfU h12.1 (by omega)).bind fun r10 h10=>(Qbt h10.1 (by omega) _ _).bind fun r14 h14=>?_
   refine (Qxm hh ⟨h1,by omega⟩ _).bind fun r43 h43=>ih (m-1) _ (by omega) ?_
   rw [e];exact ⟨by dsimp only; omega,by dsimp only; omega,h43,h14.1.le (by dsimp only; omega)⟩
  ·refine ih (m-1) _ (by omega) ?_
   rw [e];exact ⟨by dsimp only; omega,by dsimp only; omega,hh,h9.le (by dsimp only; omega)⟩
 ·rw [QB] at c;exact Dr.ret ⟨_,rfl,hh,hs.le (by omega)⟩
theorem Que {s:SrcD} {k:Int} (hs:Sr s k) (hk:k≤900000000):Dr (F_bx (s,())) fun r=>Sr r.2.1 (k+300)∧HL r.1.1:=by
 have hk0:=hs.pos;unfold F_bx;refine (QW hs (by omega) _).bind fun r1 h1=>?_
 have hb:=h1.2.to3;refine Dr.guard ⟨by decide,hb.2.1,hb.2.2⟩ ?_
 have hlen:(([(7:Int),8].drop (0+((0:Int)).toNat)).take ((r1.1.1).toNat-((0:Int)).toNat)).length≤2:=by rw [List.length_take]; have:=hb.1; omega
 refine (Qsy (by omega) ?_).bind fun r2 h2=>?_
 ·rw [Qah];intro w hw;have:=List.mem_of_mem_drop (List.mem_of_mem_take hw);simp at this;unfold WW;omega
 have h2':HL r2.1.1.2:=h2.1;refine (Qsq _ h2' h1.1 (by omega)).bind fun z hz=>?_
 obtain ⟨x,rfl,hx,hxs⟩:=hz;dsimp only;refine (QW hxs (by omega) _).bind fun r21 h21=>(QW h21.1 (by omega) _).bind fun r22 h22=>(QfU h22.1 (by omega)).bind fun r23 h23=>(Qbt h23.1 (by omega) _ _).bind fun r24 h24=>(QW h24.1 (by omega) _).bind fun r25 h25=>?_
 refine (QpI _ (h:=(x.2.1.2.1.1,(r24.1.1,(x.2.1.2.1.2.2.1,(x.2.1.2.1.2.2.2.1,(x.2.1.2.1.2.2.2.2.1,(x.2.1.2.1.2.2.2.2.2.1,(r25.1.1,(x.2.1.2.1.2.2.2.2.2.2.2.1,(x.2.1.2.1.2.2.2.2.2.2.2.2.1,())))))))))) ⟨hx.r,hx.c,hx.i,hx.o⟩ h25.1 (by omega)).bind fun z hz=>?_
 obtain ⟨x,rfl,hx,hxs⟩:=hz;dsimp only;refine (QcK hxs (by omega) _).bind fun r h=>(QcK h (by omega) _).bind fun r h=>(QcK h (by omega) _).bind fun r h=>(QcK h (by omega) _).bind fun r h=>?_
 refine Dr.ite (fun _=>Dr.ret ⟨h.le (by omega),hx.r,hx.c,hx.i,by simp⟩) fun _=>Dr.ret ⟨h.le (by omega),hx.r,hx.c,hx.i,hx.o⟩
structure HB (h:QH):Prop where
 r:h.1.length≤16
 c:h.2.2.1.length=11
 i:h.2.2.2.2.2.2.2.1.length≤41
 o:h.2.2.2.2.2.2.2.2.1.length≤40
theorem HL.b {h:QH} (hh:HL h):HB h:=⟨by rw [hh.r]; omega,hh.c,by have:=hh.i; omega,hh.o⟩
theorem HB.le {h:QH} (hh:HB h):QbQ 1048576 h:=⟨by have:=hh.r; omega,by rw [hh.c]; omega,by have:=hh.i; omega,by have:=hh.o; omega⟩
theorem Qud {s:SrcD} {k:Int} (hs:Sr s k) (hk:k≤900000000):Dr (F_by (s,())) fun r=>Sr r.2.1 (k+400)∧HB r.1.1:=by
 have hk0:=hs.pos;unfold F_by;refine (Que hs hk).bind fun r1 h1=>(QW h1.1 (by omega) _).bind fun r2 h2=>?_
 have hr:=h1.2.r;have hc:=h1.2.c;have hi:=h1.2.i;have ho:=h1.2.o;refine Dr.ite (fun _=>?_) fun _=>Dr.ite (fun _=>?_) fun _=>Dr.ite (fun _=>?_) fun _=>Dr.ite (fun _=>?_) fun _=>Dr.ite (fun _=>?_) fun _=>Dr.ite (fun _=>?_) fun _=>?_
 ·exact Dr.gat hr (by omega) fun _ _=>Dr.ret ⟨h2.1.le (by omega),⟨by simpa using Nat.le_of_eq hr,hc,by dsimp only; omega,ho⟩⟩
 ·refine Dr.guard ⟨by decide,by rw [hr]; decide,Int.le_refl _⟩ (Dr.ret ⟨h2.1.le (by omega),⟨by simp; omega,hc,by dsimp only; omega,ho⟩⟩)
 ·refine (QW h2.1 (by omega) _).bind fun r5 h5=>(Qbt h5.1 (by omega) _ _).bind fun r6 h6=>Dr.gat hc (by have:=h5.2.e; omega) fun _ _=>Dr.ret ⟨h6.1.le (by omega),⟨by dsimp only; omega,by simpa using hc,by dsimp only; omega,ho⟩⟩
 ·exact (Qbt h2.1 (by omega) _ _).bind fun r9 h9=>Dr.ret ⟨h9.1.le (by omega),⟨by dsimp only; omega,hc,by dsimp only; omega,ho⟩⟩
 ·exact Dr.ret ⟨h2.1.le (by omega),⟨by dsimp only; omega,hc,by simp,ho⟩⟩
 ·exact (Qbt h2.1 (by omega) _ _).bind fun r9 h9=>Dr.ret ⟨h9.1.le (by omega),⟨by dsimp only; omega,hc,by dsimp only; omega,ho⟩⟩
 ·exact Dr.ret ⟨h2.1.le (by omega),h1.2.b⟩
theorem Qun (n:Int) (h:1≤n∧n≤24):Dr (F_bv (n,())) fun r=>((r.1.1.2.1:List Int).length:Int)=8*n:=by
 unfold F_bv;refine Dr.bind (Q:=fun r=>r.1.1=inB n 1 24) (.of (QaU n 1 24) rfl) fun r hr=>?_
 have hr2: ¬(!r.1.1)=true:=by rw [hr,Qdt.2 h]; simp
 have e:IntKind.i64.wrap (n*8)=n*8:=Qq (by omega) (by omega)
 rw [if_neg hr2];dsimp only;rw [e];exact Dr.guard (by omega) (Dr.ret (by simp; omega))
theorem QpH {s:SrcD} {k:Int} (hs:Sr s k) (hk:k≤900000000):Dr (F_bw (s,())) fun r=>Sr r.2.1 (k+2000)∧(r.1.1:List Int).length≤200:=by
 have hk0:=hs.pos;unfold F_bw;refine (QW hs (by omega) _).bind fun r1 h1=>?_
 have hr:=h1.2.e;have e:IntKind.i64.wrap (1+(r1.1.1:Int))=1+(r1.1.1:Int):=Qq (by omega) (by omega)
 dsimp only;rw [e];refine (Qun _ (by omega)).bind fun r3 h3=>?_
 have hlen:8≤(r3.1.1.2.1:List Int).length∧(r3.1.1.2.1:List Int).length≤40:=by omega
 have key: ∀(ms:List Int),8≤ms.length∧ms.length≤40→Dr (L_bw_3 (((),(ms,((0:Int),()))),((r1.2.1,()),()))) fun o=> ∃x,o= .inl x∧Sr x.2.1.1 (k+1+240)∧8≤(x.1.2.1:List Int).length∧(x.1.2.1:List Int).length≤40:=by
  intro ms hms;refine Qab (fun m u=>(m:Int)=((u.1.2.1:List Int).length:Int)-(u.1.2.2.1:Int)∧0≤(u.1.2.2.1:Int)∧(8≤(u.1.2.1:List Int).length∧(u.1.2.1:List Int).length≤40)∧Sr u.2.1.1 (k+1+6*(u.1.2.2.1:Int))) ?_ ms.length _ ⟨by dsimp only; omega,by dsimp only; omega,hms,h1.1.le (by dsimp only; omega)⟩ (by rw [QG]; omega)
  intro rec m u ⟨hm,g1,hl,hs⟩ ih;unfold l_bw_3;have hk0:=hs.pos;refine Dr.ite (fun c=>?_) fun c=>?_
  ·rw [QB] at c;have e:IntKind.i64.wrap ((u.1.2.2.1:Int)+1)=(u.1.2.2.1:Int)+1:=Qq (by omega) (by omega)
   refine (QcK hs (by omega) _).bind fun r8 h8=>Dr.ite (fun _=>?_) fun _=>?_
   ·refine (QfU h8 (by omega)).bind fun r9 h9=>Dr.gat rfl ⟨g1,c⟩ fun _ _=>ih (m-1) _ (by omega) ?_
    rw [e];exact ⟨by simp; omega,by dsimp only; omega,by simpa using hl,h9.1.le (by dsimp only; omega)⟩
   ·refine ih (m-1) _ (by omega) ?_
    rw [e];exact ⟨by dsimp only; omega,by dsimp only; omega,hl,h8.le (by dsimp only; omega)⟩
  ·rw [QB] at c;exact Dr.ret ⟨_,rfl,hs.le (by omega),hl⟩
 refine (key _ hlen).bind fun z hz=>?_
 obtain ⟨x,rfl,g1,g2⟩:=hz;refine (QW g1 (by omega) _).bind fun r16 h16=>Dr.ite (fun _=>?_) fun _=>Dr.ite (fun _=>?_) fun _=>Dr.ite (fun _=>?_) fun _=>?_
 ·exact Dr.guard ⟨by decide,by omega,Int.le_refl _⟩ (Dr.ret ⟨h16.1.le (by omega),by simp; omega⟩)
 ·exact (QW h16.1 (by omega) _).bind fun r18 h18=>(Qbt h18.1 (by omega) _ _).bind fun r19 h19=>Dr.gat rfl (by have:=h18.2.e; omega) fun _ _=>Dr.ret ⟨h19.1.le (by omega),by simp; omega⟩
 ·exact Dr.ret ⟨h16.1.le (by omega),by simp⟩
 ·exact Dr.ret ⟨h16.1.le (by omega),by have:=g2.2; dsimp only; omega⟩
theorem Dr.step {X Y:Type} {o:Option X} {v:X} {f:X→Option Y} {P:Y→Prop} (h:o=some v) (g:Dr (f v) P):Dr (o.bind f) P:=by rw [h]; exact g
theorem Dr.pos {X:Type} {c:Prop} [Decidable c] {a b:Option X} {P:X→Prop} (hc:c) (h:Dr a P):Dr (if c then a else b) P:=by rw [if_pos hc]; exact h
theorem Dr.neg {X:Type} {c:Prop} [Decidable c] {a b:Option X} {P:X→Prop} (hc: ¬c) (h:Dr b P):Dr (if c then a else b) P:=by rw [if_neg hc]; exact h
theorem Dr.eq {X:Type} {o:Option X} {v:X} (h:Dr o fun r=>r=v):o=some v:=by
 obtain ⟨_,e,rfl⟩:=h;exact e
abbrev Yes (o:Option ((Bool×Unit)×Unit)):Prop:=Dr o fun r=>r=((true,()),())
theorem yes {b:Bool} (h:b=true):Yes (some ((b,()),())):=by subst h; exact ⟨_,rfl,rfl⟩
theorem Qsz (m:List Int) (hm:m.length≤9223372036854775000):F_gv (m,m,())=some ((true,()),()):=by
 have key:=QY (step:=l_gv_4) (γ:=denO o_f_2) (fun i=>((m,(m,(((i:Nat):Int),()))),((),()))) m (fun (_:Nat) (_:Int)=>(none:Option Unit)) (fun _=>none) (some (.inl ((),((),())))) (by omega) ?_ ?_
 ·unfold F_gv;dsimp only;rw [if_neg (by simp)]
  show (Qd l_gv_4 lots ((m,(m,(((0:Nat):Int),()))),((),()))).bind _=_;rw [key]
  have: ∀{l:List Int} {i:Nat},scan (fun (_:Nat) (_:Int)=>(none:Option Unit)) i l=none:=by
   intro l
   induction l with
   | nil=>intro i; rfl
   | cons y r ih=>intro i; simp only [scan]; exact ih
  rw [this];rfl
 ·intro rec i hi;unfold l_gv_4;dsimp only;rw [if_pos (lt_t hi),if_pos nat0,Qn hi,if_pos nat0,Qn hi,if_neg (by simp),QQ (by omega)]
 ·intro rec;unfold l_gv_4;dsimp only;rw [if_neg Qat]
def Mc.hart (s:Mc):QH:=(s.r,s.pc,s.cs,s.ha,s.wa,s.ru,s.dn,s.iq,s.oq,())
theorem QtH (s:Mc) (l:List TwoD) (op d a i:Int):(exM s l op d a i).2.2.2.m.length=s.m.length:=by
 unfold exM
 let P:Bool×Int×Int×Mc→Prop:=fun x=>x.2.2.2.m.length=s.m.length
 exact Qi P (fun _=>rfl) fun _=>Qi P (fun _=>rfl) fun _=>Qi P (fun _=>Qi P (fun _=>rfl) fun _=>Qi P (fun _=>rfl) fun _=>rfl) fun _=>
  Qi P (fun _=>Qi P (fun _=>rfl) fun _=>Qi P (fun _=>rfl) fun _=>List.length_set) fun _=>Qi P (fun _=>rfl) fun _=>Qi P (fun _=>rfl) fun _=>Qi P (fun _=>rfl) fun _=>
  Qi P (fun _=>rfl) fun _=>Qi P (fun _=>rfl) fun _=>Qi P (fun _=>rfl) fun _=>Qi P (fun _=>rfl) fun _=>Qi P (fun _=>rfl) fun _=>Qi P (fun _=>rfl) fun _=>rfl
theorem QnJ (s:Mc) (l:List TwoD) (op d a i:Int):(doM s l op d a i).2.m.length=s.m.length:=by
 have:=QtH s l op d a i;unfold doM;dsimp only;split <;> exact this
theorem QlZ (s:Mc) (l:List TwoD):(runM s l).m.length=s.m.length:=by
 unfold runM;dsimp only;split
 ·rfl
 ·split
  ·split
   ·exact QnJ s l _ _ _ _
   ·exact QnJ s l _ _ _ _
  ·rfl
theorem Qks (s:Mc) (l:List TwoD):(Qak s l).m.length=s.m.length:=by
 unfold Qak;dsimp only;split
 ·rfl
 ·split
  ·rfl
  ·split
   ·split
    ·rfl
    ·exact QlZ { s with ring:= -1,fall:= -1,wa:=false } l
   ·exact QlZ { s with ring:= -1,fall:= -1 } l
theorem OkS.hartM {s:Mc} {l:List TwoD} (h:OkS s l):hartM s.hart=0:=by
 unfold Go.Proofs.YtkkljegcnnfanaaGreatDoor.hartM Mc.hart;dsimp only
 rw [if_pos ⟨h.r.len,h.c.len,h.r.zero⟩,if_pos ⟨Qah.2 h.r.words,Qgg.2 h.pc,Qah.2 h.c.words,Qah.2 h.i.words,Qah.2 h.o.words⟩,if_pos ⟨h.i.len,h.o.len⟩,
  if_pos (Qdt.2 h.d),if_pos ⟨h.c.st,h.c.msk,h.c.tb,h.c.pd,h.c.tm⟩]
theorem Qwv {c:List Int} (h: ¬(1048576:Int)< ((c.length:Nat):Int)) (hb: ∀b∈c,0≤b∧b≤255):Byt c:=⟨hb,by omega⟩
theorem Bd.top {n x:Int} (h:Bd (n+1) x) (hn:0≤n):0≤x∧x≤n:=by unfold Bd at h; omega
section
variable {l:List TwoD} {s s':Mc}
def MemW (l:List TwoD) (m m':List Int):Prop:= ∀i:Nat,m'[i]?≠m[i]?→ ∃p∈l,p.1=((i / 8:Nat):Int)∧iand .i64 p.2.1 2≠0
theorem MemW.refl (l:List TwoD) (m:List Int):MemW l m m:=fun i h=>absurd rfl h
theorem Qth {l:List TwoD} (hl:l.length=8) {at_ kind:Int} (h0:0≤Qaf l at_ kind): ∃p∈l,p.1=Qaf l at_ kind / 8∧iand .i64 p.2.1 kind≠0:=by
 unfold Qaf at*;split at h0
 ·rename_i h1;rw [if_pos h1];split at h0
  ·rename_i h2;rw [if_pos h2];refine ⟨_,QaG (l:=l) (k:=(at_ / 8).toNat) (d:=(-1,0,())) (by rw [hl]; omega),by omega,?_⟩
   simp only [mayP,Bool.and_eq_true,decide_eq_true_eq] at h2;simpa using h2.2
  ·omega
 ·omega
theorem Qow {cs:List Int} {m:List Int} {at_ kind:Int} (h0:(Qx cs l m at_ kind).2=0) (h1: ¬1000≤(Qx cs l m at_ kind).1): ∃g,(Qx cs l m at_ kind).1=Qaf l g kind∧0≤Qaf l g kind:=by
 unfold Qx at*;cases hs:QbW cs l m with
 | none=>rw [hs] at h0; simp at h0
 | some s=>
  rw [hs] at h0 h1;simp only at h0 h1⊢;split at h0
  ·exact absurd h0 (Qds kind)
  ·rename_i a1;rw [if_neg a1] at h1⊢;split at h0
   ·rename_i a2;rw [if_pos a2] at h1⊢;split at h0
    ·simp at h0
    ·rename_i a3;rw [if_neg a3] at h1⊢;exfalso;simp only at h1;omega
   ·rename_i a2;rw [if_neg a2] at h1⊢;split at h0
    ·exact absurd h0 (Qds kind)
    ·rename_i a3;rw [if_neg a3] at h1⊢;exact ⟨_,rfl,by omega⟩
theorem Qvl (hl:l.length=8) (s:Mc) (op d a i:Int):MemW l s.m (exM s l op d a i).2.2.2.m:=by
 unfold exM
 let P:Bool×Int×Int×Mc→Prop:=fun x=>MemW l s.m x.2.2.2.m
 have r0:=MemW.refl l s.m
 refine Qi P (fun _=>r0) fun _=>Qi P (fun _=>r0) fun _=>Qi P (fun _=>Qi P (fun _=>r0) fun _=>Qi P (fun _=>r0) fun _=>r0) fun _=>
  Qi P (fun _=>Qi P (fun _=>r0) fun h2=>Qi P (fun _=>r0) fun h1=>?_) fun _=>Qi P (fun _=>r0) fun _=>Qi P (fun _=>r0) fun _=>Qi P (fun _=>r0) fun _=>
  Qi P (fun _=>r0) fun _=>Qi P (fun _=>r0) fun _=>Qi P (fun _=>r0) fun _=>Qi P (fun _=>r0) fun _=>Qi P (fun _=>r0) fun _=>Qi P (fun _=>r0) fun _=>r0
 intro k hk;obtain ⟨g,e1,e2⟩:=Qow (by simpa using h2) h1
 obtain ⟨p,hp,q1,q2⟩:=Qth hl e2;dsimp only at hk;rw [e1] at hk;by_cases hkk:(Qaf l g 2).toNat=k
 ·subst hkk;exact ⟨p,hp,by rw [q1]; omega,q2⟩
 ·exact absurd (List.getElem?_set_ne hkk) hk
theorem Qwy (s:Mc) (l:List TwoD) (op d a i:Int):(exM s l op d a i).2.2.2.dn=s.dn∧((exM s l op d a i).1=true→(exM s l op d a i).2.2.2.fall=s.fall):=by
 unfold exM
 let P:Bool×Int×Int×Mc→Prop:=fun x=>x.2.2.2.dn=s.dn∧(x.1=true→x.2.2.2.fall=s.fall)
 have r0: ∀{x:Bool×Int×Int×Mc},x.2.2.2.dn=s.dn→x.2.2.2.fall=s.fall→P x:=fun h1 h2=>⟨h1,fun _=>h2⟩
 have r1: ∀{c t:Int},P (false,0,0,s.trap c t):=⟨rfl,fun h=>by cases h⟩
 exact Qi P (fun _=>r0 rfl rfl) fun _=>Qi P (fun _=>r0 rfl rfl) fun _=>Qi P (fun _=>Qi P (fun _=>r1) fun _=>Qi P (fun _=>r0 rfl rfl) fun _=>r0 rfl rfl) fun _=>
  Qi P (fun _=>Qi P (fun _=>r1) fun h2=>Qi P (fun _=>r0 rfl rfl) fun h1=>r0 rfl rfl) fun _=>Qi P (fun _=>r0 rfl rfl) fun _=>Qi P (fun _=>r0 rfl rfl) fun _=>Qi P (fun _=>r0 rfl rfl) fun _=>
  Qi P (fun _=>r0 rfl rfl) fun _=>Qi P (fun _=>r0 rfl rfl) fun _=>Qi P (fun _=>r1) fun _=>Qi P (fun _=>r0 rfl rfl) fun _=>Qi P (fun _=>r0 rfl rfl) fun _=>Qi P (fun _=>r0 rfl rfl) fun _=>r0 rfl rfl
structure StepP (l:List TwoD) (s s':Mc):Prop where
 mem:MemW l s.m s'.m
 dn:s.dn≤s'.dn∧s'.dn≤s.dn+1
 fl:0≤s'.fall→s'.dn=s.dn
theorem Qxe (hl:l.length=8) (s:Mc) (op d a i:Int):MemW l s.m (doM s l op d a i).2.m∧(doM s l op d a i).2.dn=s.dn∧((doM s l op d a i).1=true→(doM s l op d a i).2.fall=s.fall):=by
 have h1:=Qvl hl s op d a i;have h2:=Qwy s l op d a i;unfold doM;dsimp only;split
 ·rename_i h;exact ⟨h1,h2.1,fun _=>h2.2 h⟩
 ·exact ⟨h1,h2.1,fun h=>by cases h⟩
theorem QwT (hl:l.length=8) (s:Mc) (hf:s.fall= -1) (hd:s.dn≤1000000000):StepP l s (runM s l):=by
 have r1: ∀{c t:Int},StepP l s (s.trap c t):=⟨MemW.refl l s.m,⟨Int.le_refl _,by show s.dn≤s.dn+1; omega⟩,fun _=>rfl⟩
 unfold runM;refine Qi (StepP l s) (fun _=>r1) fun _=>Qi (StepP l s) (fun _=>?_) fun _=>r1
 generalize (decM (s.m.getD (Qx s.cs l s.m s.pc 4).1.toNat 0))=x;obtain ⟨h1,h2,h3⟩:=Qxe hl s x.1 x.2.1 x.2.2.1 x.2.2.2.1;refine Qi (StepP l s) (fun ht=>?_) fun _=>⟨h1,by omega,fun _=>h2⟩
 refine ⟨h1,?_,fun h=>?_⟩
 ·unfold QfE;dsimp only;rw [h2];split <;> omega
 ·exfalso;have:(QfE (doM s l x.1 x.2.1 x.2.2.1 x.2.2.2.1).2).fall= -1:=by rw [←hf]; exact h3 ht
  omega
theorem QvV (hl:l.length=8) (s:Mc) (hd:s.dn≤1000000000):StepP l s (Qak s l)∧(s.ha=true→(Qak s l).pc=s.pc):=by
 have r0:StepP l s { s with ring:= -1,fall:= -1 }:=⟨MemW.refl l s.m,⟨Int.le_refl _,by show s.dn≤s.dn+1; omega⟩,fun _=>rfl⟩
 have r1: ∀{c t:Int},StepP l s (Mc.trap { s with ring:= -1,fall:= -1 } c t):=⟨MemW.refl l s.m,⟨Int.le_refl _,by show s.dn≤s.dn+1; omega⟩,fun _=>rfl⟩
 have ra: ∀b,StepP l s (runM { s with ring:= -1,fall:= -1,wa:=b } l):=fun b=>by
  obtain ⟨h1,h2,h3⟩:=QwT hl { s with ring:= -1,fall:= -1,wa:=b } rfl hd
  exact ⟨h1,h2,h3⟩
 unfold Qak;refine Qi (fun x=>StepP l s x∧(s.ha=true→x.pc=s.pc)) (fun _=>⟨r0,fun _=>rfl⟩) fun h=>⟨?_,fun h'=>absurd h' h⟩
 exact Qi (StepP l s) (fun _=>r1) fun _=>Qi (StepP l s) (fun _=>Qi (StepP l s) (fun _=>r0) fun _=>ra false) fun _=>ra s.wa
end
def noPg:TwoD:=(-1,0,())
def Qbs:List TwoD:=[noPg,noPg,noPg,noPg,noPg,noPg,noPg,noPg]
def QbO:Nat→List Int→List TwoD→List TwoD
 | _,[],l=>l
 | k,p::r,l=>QbO (k+1) r (l.set k (p,7,()))
def Qcn (g:Int) (x:QI) (l:List TwoD):List TwoD:=
 let l1:=if x.1=g then l.set x.2.2.2.1.toNat (x.2.2.1,3,()) else l
 if x.2.1=g then l1.set x.2.2.2.2.1.toNat (x.2.2.1,1,()) else l1
def QaV (g:Int):List QI→List TwoD→List TwoD
 | [],l=>l
 | x::r,l=>QaV g r (Qcn g x l)
def pgM (p:PolD) (g:Int):List TwoD:=QaV g p.2.1 (QbO 0 (p.1.getD g.toNat []) Qbs)
theorem Qer: ∀(r:List Int) (k:Nat) (l:List TwoD),(QbO k r l).length=l.length
 | [],_,_=>rfl
 | p::r,k,l=>by rw [QbO,Qer r]; simp
theorem QbL (g:Int) (x:QI) (l:List TwoD):(Qcn g x l).length=l.length:=by
 unfold Qcn;dsimp only
 repeat' split
 all_goals simp
theorem QjN (g:Int): ∀(r:List QI) (l:List TwoD),(QaV g r l).length=l.length
 | [],_=>rfl
 | x::r,l=>by rw [QaV,QjN g r,QbL]
theorem QeQ (p:PolD) (g:Int):(pgM p g).length=8:=by unfold pgM; rw [QjN,Qer]; rfl
theorem QlO {P:TwoD→Prop}: ∀(r:List Int) (k:Nat) (l:List TwoD),(∀x∈r,P (x,7,()))→(∀q∈l,P q)→ ∀q∈QbO k r l,P q
 | [],_,_,_,h=>h
 | p::r,k,l,h1,h=>QlO r (k+1) _ (fun x hx=>h1 x (List.mem_cons_of_mem _ hx)) fun q hq=>by
  rcases List.mem_or_eq_of_mem_set hq with hq | rfl
  ·exact h q hq
  ·exact h1 p (by simp)
theorem Qsr {P:TwoD→Prop} {g:Int} {x:QI} {l:List TwoD} (h1:P (x.2.2.1,3,())) (h2:P (x.2.2.1,1,())) (h: ∀q∈l,P q): ∀q∈Qcn g x l,P q:=by
 have s: ∀{l:List TwoD} {k:Nat} {y:TwoD},P y→(∀q∈l,P q)→ ∀q∈l.set k y,P q:=fun hy h q hq=>by
  rcases List.mem_or_eq_of_mem_set hq with hq | rfl
  ·exact h q hq
  ·exact hy
 unfold Qcn;dsimp only;split
 ·split
  ·exact s h2 (s h1 h)
  ·exact s h2 h
 ·split
  ·exact s h1 h
  ·exact h
theorem QjM {P:TwoD→Prop} {g:Int}: ∀(r:List QI) (l:List TwoD),(∀x∈r,P (x.2.2.1,3,())∧P (x.2.2.1,1,()))→(∀q∈l,P q)→ ∀q∈QaV g r l,P q
 | [],_,_,h=>h
 | x::r,l,h1,h=>QjM r _ (fun y hy=>h1 y (List.mem_cons_of_mem _ hy)) (Qsr (h1 x (by simp)).1 (h1 x (by simp)).2 h)
theorem Qdf {p:PolD} {g:Int} (hok:OkPol p) (hg:isG p g=true):p.1.getD g.toNat []∈p.1:=by
 have:=QaP.1 hg;exact QaG (by omega)
theorem QpU {p:PolD} {g:Int} (hok:OkPol p) (hg:isG p g=true): ∀q∈pgM p g,(-1≤q.1∧q.1≤23)∧0≤q.2.1∧q.2.1≤7:=by
 refine QjM (P:=fun q=>(-1≤q.1∧q.1≤23)∧0≤q.2.1∧q.2.1≤7) _ _ (fun x hx=>?_) (QlO _ _ _ (fun x hx=>?_) ?_)
 ·have:=(QcA hok x hx).2.1;dsimp only;omega
 ·have:=(hok.own1 _ (Qdf hok hg)).2.2 x hx;dsimp only;omega
 ·intro q hq;simp only [Qbs,List.mem_cons,List.not_mem_nil,or_false,or_self] at hq;subst hq;unfold noPg;decide
theorem QjX {r:List Int} {k i:Nat} {l:List TwoD} (h:i< r.length):QbO (k+i) (r.drop i) l=QbO (k+(i+1)) (r.drop (i+1)) (l.set (k+i) (r[i],7,())):=by
 rw [List.drop_eq_getElem_cons h,QbO];rfl
theorem QiF {g:Int} {r:List QI} {i:Nat} {l:List TwoD} (h:i< r.length):QaV g (r.drop i) l=QaV g (r.drop (i+1)) (Qcn g r[i] l):=by
 rw [List.drop_eq_getElem_cons h,QaV]
theorem Qqh (p:PolD) (g:Int):L_aj_3 ((p,(g,(([]:List TwoD),((0:Int),())))),((),()))=some (.inl ((p,(g,(Qbs,()))),((),()))):=by kernel_rfl
theorem QoL {p:PolD} {g:Int} (hok:OkPol p) (hg:isG p g=true):F_aj (p,g,())=some ((pgM p g,()),()):=by
 have hgi:=QaP.1 hg;have hi:g.toNat< p.1.length:=by omega
 have hown:=hok.own1 _ (Qdf hok hg);have hlane:=QcA hok;have hll:=hok.lanes.1;refine Dr.eq ?_;unfold F_aj;refine Dr.step (Qqh p g) ?_;dsimp only
 have k1:Dr (L_aj_7 ((p,(g,(Qbs,((0:Int),())))),((),()))) fun o=>o= .inl ((p,(g,(QbO 0 (p.1.getD g.toNat []) Qbs,()))),((),())):=by
  refine Qab (fun n u=> ∃(i:Nat) (l:List TwoD),u=((p,(g,(l,((i:Int),())))),((),()))∧n=(p.1.getD g.toNat []).length-i∧i≤(p.1.getD g.toNat []).length∧l.length=8∧QbO (0+i) ((p.1.getD g.toNat []).drop i) l=QbO 0 (p.1.getD g.toNat []) Qbs) ?_ _ _ ⟨0,Qbs,rfl,rfl,Nat.zero_le _,rfl,rfl⟩ (by rw [QG]; omega)
  rintro rec n _ ⟨i,l,rfl,hn,hin,hl,he⟩ ih;have e1:p.1[g.toNat]?=some (p.1.getD g.toNat []):=by rw [List.getD_eq_getElem?_getD,List.getElem?_eq_getElem hi]; rfl
  unfold l_aj_7;generalize p.1.getD g.toNat []=w at*;dsimp only;rw [if_pos hgi.1,e1,Obn];by_cases hlt:i< w.length
  case neg=>
   rw [if_neg (lt_f hlt)];rw [List.drop_of_length_le (by omega)] at he
   exact Dr.ret (by rw [←he]; rfl)
  rw [if_pos (lt_t hlt),if_pos hgi.1,Obn,if_pos nat0,Qn hlt,QQ (by omega)]
  refine Dr.gat hl (by omega) fun _ _=>ih (n-1) _ (by omega) ⟨i+1,_,rfl,by omega,by omega,by simpa using hl,?_⟩
  rw [←he,QjX hlt,Int.toNat_natCast];simp only [Nat.zero_add]
 refine k1.bind fun o ho=>?_
 subst ho;dsimp only
 have k2:Dr (L_aj_11 ((p,(g,(QbO 0 (p.1.getD g.toNat []) Qbs,((0:Int),())))),((),()))) fun o=>o= .inl ((pgM p g,()),((),())):=by
  refine Qab (fun n u=> ∃(i:Nat) (l:List TwoD),u=((p,(g,(l,((i:Int),())))),((),()))∧n=p.2.1.length-i∧i≤p.2.1.length∧l.length=8∧QaV g (p.2.1.drop i) l=pgM p g) ?_ _ _ ⟨0,_,rfl,rfl,Nat.zero_le _,by rw [Qer]; rfl,rfl⟩ (by rw [QG]; omega)
  rintro rec n _ ⟨i,l,rfl,hn,hin,hl,he⟩ ih;unfold l_aj_11;dsimp only;by_cases hlt:i< p.2.1.length
  case neg=>
   rw [if_neg (lt_f hlt)];rw [List.drop_of_length_le (by omega)] at he
   exact Dr.ret (by rw [←he]; rfl)
  rw [if_pos (lt_t hlt),if_pos nat0,Qn hlt,QQ (by omega)]
  have hla:=hlane _ (List.getElem_mem hlt);rw [QiF hlt] at he;have hl1:=QbL g p.2.1[i] l
  have fin: ∀l',l'=Qcn g p.2.1[i] l→Dr (rec ((p,(g,(l',(((i+1:Nat):Int),())))),((),()))) fun o=>o= .inl ((pgM p g,()),((),())):=fun l' e=>by
   subst e;exact ih (n-1) _ (by omega) ⟨i+1,_,rfl,by omega,by omega,by rw [hl1]; exact hl,he⟩
  generalize p.2.1[i]=x at*;by_cases h1:x.1=g
  ·rw [if_pos (by simpa using h1)]
   refine Dr.gat hl (by omega) fun _ _=>?_
   by_cases h2:x.2.1=g
   ·rw [if_pos (by simpa using h2)]
    refine Dr.gat (n:=8) (by simpa using hl) (by omega) fun _ _=>fin _ ?_
    unfold Qcn;dsimp only;rw [if_pos h1,if_pos h2]
   ·rw [if_neg (by simpa using h2)]
    refine fin _ ?_;unfold Qcn;dsimp only;rw [if_pos h1,if_neg h2]
  ·rw [if_neg (by simpa using h1)]
   by_cases h2:x.2.1=g
   ·rw [if_pos (by simpa using h2)]
    refine Dr.gat hl (by omega) fun _ _=>fin _ ?_
    unfold Qcn;dsimp only;rw [if_neg h1,if_pos h2]
   ·rw [if_neg (by simpa using h2)]
    refine fin _ ?_;unfold Qcn;dsimp only;rw [if_neg h1,if_neg h2]
 refine k2.bind fun o ho=>?_
 subst ho;exact Dr.ret rfl
theorem QsJ:F_eq ([noPg],8,())=some ((Qbs,()),()):=by kernel_rfl
theorem QnX {p:PolD} {g:Int} (hok:OkPol p) (hg:isG p g=true):F_er (p,g,())=some ((pgM p g,()),()):=by
 have hgi:=QaP.1 hg;have hi:g.toNat< p.1.length:=by omega
 have hown:=hok.own1 _ (Qdf hok hg);have hlane:=QcA hok;have hll:=hok.lanes.1;refine Dr.eq ?_;unfold F_er;refine Dr.step rfl (Dr.step QsJ (Dr.guard hgi.1 ?_));have e1:p.1[g.toNat]?=some (p.1.getD g.toNat []):=by rw [List.getD_eq_getElem?_getD,List.getElem?_eq_getElem hi]; rfl
 refine Dr.step e1 ?_
 have k1:Dr (L_er_3 ((p,(g,(Qbs,(p.1.getD g.toNat [],((((p.1.getD g.toNat []).length:Nat):Int),((0:Int),())))))),((),()))) fun o=>o= .inl ((p,(g,(QbO 0 (p.1.getD g.toNat []) Qbs,()))),((),())):=by
  generalize p.1.getD g.toNat []=w at*;refine Qab (fun n u=> ∃(i:Nat) (l:List TwoD),u=((p,(g,(l,(w,(((w.length:Nat):Int),((i:Int),())))))),((),()))∧n=w.length-i∧i≤w.length∧l.length=8∧QbO (0+i) (w.drop i) l=QbO 0 w Qbs) ?_ _ _ ⟨0,Qbs,rfl,rfl,Nat.zero_le _,rfl,rfl⟩ (by rw [QG]; omega)
  rintro rec n _ ⟨i,l,rfl,hn,hin,hl,he⟩ ih;unfold l_er_3;dsimp only;by_cases hlt:i< w.length
  case neg=>
   rw [if_neg (lt_f hlt)];rw [List.drop_of_length_le (by omega)] at he
   exact Dr.ret (by rw [←he]; rfl)
  rw [if_pos (lt_t hlt),if_pos nat0,Qn hlt,QQ (by omega)]
  refine Dr.gat hl (by omega) fun _ _=>ih (n-1) _ (by omega) ⟨i+1,_,rfl,by omega,by omega,by simpa using hl,?_⟩
  rw [←he,QjX hlt,Int.toNat_natCast];simp only [Nat.zero_add]
 refine k1.bind fun o ho=>?_
 subst ho;dsimp only
 have k2:Dr (L_er_8 ((g,(QbO 0 (p.1.getD g.toNat []) Qbs,(p.2.1,(((p.2.1.length:Nat):Int),((0:Int),()))))),((),()))) fun o=>o= .inl ((pgM p g,()),((),())):=by
  refine Qab (fun n u=> ∃(i:Nat) (l:List TwoD),u=((g,(l,(p.2.1,(((p.2.1.length:Nat):Int),((i:Int),()))))),((),()))∧n=p.2.1.length-i∧i≤p.2.1.length∧l.length=8∧QaV g (p.2.1.drop i) l=pgM p g) ?_ _ _ ⟨0,_,rfl,rfl,Nat.zero_le _,by rw [Qer]; rfl,rfl⟩ (by rw [QG]; omega)
  rintro rec n _ ⟨i,l,rfl,hn,hin,hl,he⟩ ih;unfold l_er_8;dsimp only;by_cases hlt:i< p.2.1.length
  case neg=>
   rw [if_neg (lt_f hlt)];rw [List.drop_of_length_le (by omega)] at he
   exact Dr.ret (by rw [←he]; rfl)
  rw [if_pos (lt_t hlt),if_pos nat0,Qn hlt,QQ (by omega)]
  have hla:=hlane _ (List.getElem_mem hlt);rw [QiF hlt] at he;have hl1:=QbL g p.2.1[i] l
  have fin: ∀l',l'=Qcn g p.2.1[i] l→Dr (rec ((g,(l',(p.2.1,(((p.2.1.length:Nat):Int),(((i+1:Nat):Int),()))))),((),()))) fun o=>o= .inl ((pgM p g,()),((),())):=fun l' e=>by
   subst e;exact ih (n-1) _ (by omega) ⟨i+1,_,rfl,by omega,by omega,by rw [hl1]; exact hl,he⟩
  generalize p.2.1[i]=x at*;by_cases h1:x.1=g
  ·rw [if_pos (by simpa using h1)]
   refine Dr.gat hl (by omega) fun _ _=>?_
   by_cases h2:x.2.1=g
   ·rw [if_pos (by simpa using h2)]
    refine Dr.gat (n:=8) (by simpa using hl) (by omega) fun _ _=>fin _ ?_
    unfold Qcn;dsimp only;rw [if_pos h1,if_pos h2]
   ·rw [if_neg (by simpa using h2)]
    refine fin _ ?_;unfold Qcn;dsimp only;rw [if_pos h1,if_neg h2]
  ·rw [if_neg (by simpa using h1)]
   by_cases h2:x.2.1=g
   ·rw [if_pos (by simpa using h2)]
    refine Dr.gat hl (by omega) fun _ _=>fin _ ?_
    unfold Qcn;dsimp only;rw [if_neg h1,if_pos h2]
   ·rw [if_neg (by simpa using h2)]
    refine fin _ ?_;unfold Qcn;dsimp only;rw [if_neg h1,if_neg h2]
 refine k2.bind fun o ho=>?_
 subst ho;exact Dr.ret rfl
theorem Qgo {α:Type} {l:List α} {i:Nat} (h:i< l.length):l.take (i+1)=l.take i++[l[i]]:=by rw [List.take_add_one,List.getElem?_eq_getElem h]; rfl
def Qdq (l:List TwoD):List TwoD:=l.mapIdx fun k p=>if 0≤p.1 then ((k:Int),p.2) else p
theorem QgJ (l:List TwoD):(Qdq l).length=l.length:=by unfold Qdq; simp
theorem QrB {l:List TwoD} {i:Nat} (h:i< l.length):(Qdq l)[i]'(by rw [QgJ]; exact h)=if 0≤l[i].1 then ((i:Int),l[i].2) else l[i]:=by
 unfold Qdq;rw [List.getElem_mapIdx]
def QiK (s:List Int) (k:Nat) (ws:List Int):List Int:=s.take (8*k)++(ws++s.drop (8*k+8))
theorem Qil {s ws:List Int} {k:Nat} (hs:s.length=64) (hk:k< 8) (hw:ws.length=8):(QiK s k ws).length=64:=by unfold QiK; simp; omega
theorem QvK {m:List Int} {p:Int} (h:0≤p∧8*p+8≤(m.length:Int)):(pg m p).length=8:=by unfold pg; simp; omega
theorem QiQ (s:TwoD) (r:List TwoD):QK (-1) (s::r)=s.2.1+QK (-1) r:=by
 simp only [QK];rw [if_pos (.inl (by decide))]
theorem Qru {s:TwoD} {r:List TwoD} {k:Nat} {a:Int} (h:s.2.1≤a):QE k (s::r) a=QE (k+1) r (a-s.2.1):=by simp only [QE]; rw [if_pos h]
theorem QoZ {s:TwoD} {r:List TwoD} {k:Nat} {a:Int} (h: ¬s.2.1≤a):QE k (s::r) a=(k,a,s.2.1-a):=by simp only [QE]; rw [if_neg h]
theorem Qnm: ∀{m:List TwoD} {k:Nat} {a:Int},(∀s∈m,1≤s.2.1∧s.2.1≤50)→0≤a→a+1< QK (-1) m→
  QE k m (a+1)=if (QE k m a).2.2=1 then ((QE k m a).1+1,0,(m.getD ((QE k m a).1+1-k) (0,0,())).2.1) else ((QE k m a).1,(QE k m a).2.1+1,(QE k m a).2.2-1)
 | [],k,a,_,h0,h1=>by simp [QK] at h1; omega
 | s::r,k,a,hs,h0,h1=>by
  rw [QiQ] at h1;have hr: ∀s∈r,1≤s.2.1∧s.2.1≤50:=fun q hq=>hs q (List.mem_cons_of_mem _ hq)
  by_cases h:s.2.1≤a
  ·rw [Qru h,Qru (by omega)]
   have e:a+1-s.2.1=(a-s.2.1)+1:=by omega
   rw [e,Qnm hr (by omega) (by omega)]
   obtain ⟨g0,_⟩:=Qbi (m:=r) (k:=k+1) (a:=a-s.2.1) hr (by omega) (by omega)
   have e2:(QE (k+1) r (a-s.2.1)).1+1-k=((QE (k+1) r (a-s.2.1)).1+1-(k+1))+1:=by omega
   rw [e2,List.getD_cons_succ]
  ·rw [QoZ h];have hs1:=hs s (by simp)
   by_cases h2:s.2.1≤a+1
   ·rw [Qru h2,if_pos (by simp only; omega)]
    have e:a+1-s.2.1=0:=by omega
    rw [e];cases r with
    | nil=>simp [QK] at h1; omega
    | cons q r=>
     have:=hr q (by simp)
     rw [QoZ (by omega)]
     have e3:k+1-k=1:=by omega
     rw [e3];simp
   ·rw [QoZ h2,if_neg (by simp only; omega)]
    simp only;congr 2;omega
theorem Qrt: ∀{m:List TwoD} {k:Nat} {a:Int},(∀s∈m,1≤s.2.1∧s.2.1≤50)→0≤a→a+1=QK (-1) m→(QE k m a).1+1=k+m.length∧(QE k m a).2.2=1
 | [],k,a,_,h0,h1=>by simp [QK] at h1; omega
 | s::r,k,a,hs,h0,h1=>by
  rw [QiQ] at h1;have hr: ∀s∈r,1≤s.2.1∧s.2.1≤50:=fun q hq=>hs q (List.mem_cons_of_mem _ hq)
  by_cases h:s.2.1≤a
  ·rw [Qru h];have:=Qrt (k:=k+1) hr (a:=a-s.2.1) (by omega) (by omega)
   simp only [List.length_cons];omega
  ·rw [QoZ h];have hp:=(Qdo (g:= -1) hr).1;cases r with
   | nil=>
    have h0:QK (-1) ([]:List TwoD)=0:=rfl;rw [h0] at h1;show k+1=k+(0+1)∧s.2.1-a=1;omega
   | cons q r=>
    have:=QdJ hr (by simp)
    omega
theorem QoY {m:List TwoD} (hs: ∀s∈m,1≤s.2.1∧s.2.1≤50) (hl:1≤m.length):QE 0 m 0=(0,0,(m.getD 0 (0,0,())).2.1):=by
 cases m with
 | nil=>simp at hl
 | cons s r=>
  have:=hs s (by simp)
  rw [QoZ (by omega)]
  simp
def Qfc (plan:List TwoD) (slot left:Int):Int×Int:=
 if left-1=0 then ((slot+1) % (plan.length:Int),(plan.getD ((slot+1) % (plan.length:Int)).toNat (0,0,())).2.1) else (slot,left-1)
theorem Qev {p:PolD} (hok:OkPol p): ∀s∈p.2.2.2.1,1≤s.2.1∧s.2.1≤50:=fun s hs=>(hok.slots s hs).2
theorem QvY {p:PolD} (hok:OkPol p) (c:Int):(0≤(QaZ p c).1∧(QaZ p c).1< (p.2.2.2.1.length:Int))∧1≤(QaZ p c).2∧(QaZ p c).2≤50:=by
 have hR:=QdJ (Qev hok) hok.plan.1;obtain ⟨h1,s,h2,h3,h4,h5⟩:=Qbi (m:=p.2.2.2.1) (k:=0) (a:=c % QK (-1) p.2.2.2.1) (Qev hok) (Int.emod_nonneg _ (by omega)) (Int.emod_lt_of_pos _ (by omega))
 rw [Nat.sub_zero] at h2;have h6:=(List.getElem?_eq_some_iff.1 h2).1;have h7:=Qev hok s (List.mem_of_getElem? h2);unfold QaZ;dsimp only;omega
theorem Qmo {p:PolD} (hok:OkPol p) {c:Int} (h0:0≤c):QaZ p (c+1)=Qfc p.2.2.2.1 (QaZ p c).1 (QaZ p c).2:=by
 have hR:=QdJ (Qev hok) hok.plan.1;have hs:=Qev hok;have hlen:=hok.plan.1;unfold QaZ Qfc;dsimp only;generalize p.2.2.2.1=m at*;generalize hRR:QK (-1) m=R at*;have a0:=Int.emod_nonneg c (b:=R) (by omega)
 have a1:=Int.emod_lt_of_pos c (b:=R) (by omega)
 have hadd:(c+1) % R=if c % R+1=R then 0 else c % R+1:=by
  rw [Int.add_emod];by_cases hR1:R=1
  ·subst hR1;simp
  ·rw [Int.emod_eq_of_lt (a:=1) (by omega) (by omega)]
   split
   ·rename_i e; rw [e]; exact Int.emod_self
   ·exact Int.emod_eq_of_lt (by omega) (by omega)
 rw [hadd];generalize c % R=a at*;by_cases hl:a+1=R
 ·rw [if_pos hl,QoY hs hlen];obtain ⟨e1,e2⟩:=Qrt (k:=0) hs a0 (by rw [hRR]; exact hl)
  rw [if_pos (by rw [e2]; decide)]
  have e3:((QE 0 m a).1:Int)+1=(m.length:Int):=by omega
  rw [e3,Int.emod_self];rfl
 ·rw [if_neg hl,Qnm hs a0 (by rw [hRR]; omega)]
  obtain ⟨_,s,h2,h3,h4,h5⟩:=Qbi (m:=m) (k:=0) (a:=a) hs a0 (by rw [hRR]; exact a1)
  rw [Nat.sub_zero] at h2;have h6:=(List.getElem?_eq_some_iff.1 h2).1;by_cases h1:(QE 0 m a).2.2=1
  ·rw [if_pos h1,if_pos (by omega)]
   have hlt:(QE 0 m a).1+1< m.length:=by
    have key:=Qnm (k:=0) hs a0 (by rw [hRR]; omega:a+1< QK (-1) m)
    rw [if_pos h1] at key;obtain ⟨_,s',h2',_⟩:=Qbi (m:=m) (k:=0) (a:=a+1) hs (by omega) (by rw [hRR]; omega)
    rw [key,Nat.sub_zero] at h2';exact (List.getElem?_eq_some_iff.1 h2').1
   have e4:(((QE 0 m a).1:Int)+1) % (m.length:Int)=(((QE 0 m a).1+1:Nat):Int):=by rw [Int.emod_eq_of_lt (by omega) (by omega)]; omega
   rw [e4,Int.toNat_natCast,Nat.sub_zero]
  ·rw [if_neg h1,if_neg (by omega)]
structure HK (x:Qw):Prop where
 pol:polM x.1=0
 mem:QN x.2.1=0∧x.2.1.length=192
 len:x.2.2.1.length=x.1.1.length
 harts: ∀h∈x.2.2.1,hartM h=0
 clock:0≤x.2.2.2.2.2.1∧x.2.2.2.2.2.1≤1000000
 slot:x.2.2.2.1=(QaZ x.1 x.2.2.2.2.2.1).1
 left:x.2.2.2.2.1=(QaZ x.1 x.2.2.2.2.2.1).2
theorem HK.ok {x:Qw} (h:HK x):OkPol x.1:=Qep h.pol
theorem Qiz: ∀{m:List QH},QhZ m=none↔ ∀h∈m,hartM h=0:=by
 have key: ∀{m:List QH} {i:Nat},scan (fun (_:Nat) h=>nz (hartM h)) i m=none↔ ∀h∈m,hartM h=0:=by
  intro m
  induction m with
  | nil=>intro i; simp [scan]
  | cons y r ih=>
   intro i;simp only [scan];by_cases hy:hartM y=0
   ·have:nz (hartM y)=none:=by unfold nz; rw [if_neg (by simpa using hy)]
    rw [this];simp only;rw [ih];simp [hy]
   ·have:nz (hartM y)=some (hartM y):=by unfold nz; rw [if_pos hy]
    rw [this];simp [hy]
 intro m;unfold QhZ;exact key
theorem HK.of {x:Qw} (h:QaH x=0):HK x:=by
 have hp:=Qfy h;unfold QaH at h;rw [if_neg (by simpa using hp)] at h
 split at h
 ·rename_i g;cases hh:QhZ x.2.2.1 with
  | some c=>
   rw [hh] at h
   have:c≠0:=by
    have: ∀{m:List QH} {i:Nat} {c:Int},scan (fun (_:Nat) h=>nz (hartM h)) i m=some c→c≠0:=by
     intro m
     induction m with
     | nil=>intro i c h; simp [scan] at h
     | cons y r ih=>
      intro i c h;simp only [scan] at h;split at h
      ·rename_i c' hc';obtain rfl:=Osj h;unfold nz at hc';split at hc'
       ·obtain rfl:=Osj hc'; assumption
       ·cases hc'
      ·exact ih h
    exact this hh
   exact absurd h this
  | none=>
   rw [hh] at h;simp only at h;split at h
   ·rename_i hc;split at h
    ·rename_i hs;exact ⟨hp,g.1,g.2,Qiz.1 hh,Qdt.1 hc,hs.1,hs.2⟩
    ·cases h
   ·cases h
 ·cases h
theorem HK.to {x:Qw} (h:HK x):QaH x=0:=by
 unfold QaH;rw [if_neg (by simpa using h.pol),if_pos ⟨h.mem,h.len⟩,Qiz.2 h.harts]
 simp only;rw [if_pos (Qdt.2 h.clock),if_pos ⟨h.slot,h.left⟩]
theorem Qfv {h:QH} (hh:hartM h=0):QbQ 1048576 h:=by
 unfold hartM at hh;split at hh
 ·rename_i c1;split at hh
  ·split at hh
   ·rename_i c3;exact ⟨by omega,by omega,by omega,by omega⟩
   ·cases hh
  ·cases hh
 ·cases hh
theorem QhD {p:PolD} (h:OkPol p):QfJ 1048576 p:=by
 have h1:=h.own; have h2:=h.lanes.1; have h3:=h.bells.1; have h4:=h.plan.2;exact ⟨⟨by omega,fun l hl=>by have:=(h.own1 l hl).2.1; omega⟩,by omega,by omega,by omega⟩
theorem HK.le {x:Qw} (h:HK x):QcU 1048576 x:=by
 have h1:=h.mem.2; have h2:=h.len; have h3:=h.ok.own;exact ⟨QhD h.ok,by omega,by omega,fun y hy=>Qfv (h.harts y hy)⟩
abbrev QeX:=List (List Int)×List QI×List TwoD×List TwoD×List Int×List QH×Int×Int×Int×Unit
def boxH (x:Qw):QeX:=(x.1.1,x.1.2.1,x.1.2.2.1,x.1.2.2.2.1,x.2.1,x.2.2.1,x.2.2.2.1,x.2.2.2.2.1,x.2.2.2.2.2.1,())
def Qrl (h:QH):QH:=(h.1,h.2.1,h.2.2.1,h.2.2.2.1,h.2.2.2.2.1,true,h.2.2.2.2.2.2)
def Qbl (k:Int) (hs:List QH):List QH:=hs.set k.toNat (Qrl (hs.getD k.toNat QU))
def turnG (x:Qw):Int:=(x.1.2.2.2.1.getD x.2.2.2.1.toNat (0,0,())).1
def QT (x:Qw):Mc:=Qak (Mc.of (x.2.2.1.getD (turnG x).toNat QU) x.2.1) (pgM x.1 (turnG x))
def QS (x:Qw):List QH:=x.2.2.1.set (turnG x).toNat (QT x).hart
def Qca (x:Qw):Bool:=x.1.2.2.1.any (Qaq (turnG x,(QT x).ring,()))
def Qbv (x:Qw):Qw:=
 (x.1,(QT x).m,(if Qca x=true then Qbl (QT x).ring (QS x) else QS x),(Qfc x.1.2.2.2.1 x.2.2.2.1 x.2.2.2.2.1).1,(Qfc x.1.2.2.2.1 x.2.2.2.1 x.2.2.2.2.1).2,x.2.2.2.2.2.1+1,())
theorem Quq {p:PolD} (hok:OkPol p): ∀b∈p.2.2.1,isG p b.1=true∧isG p b.2.1=true∧b.1≠b.2.1:=by
 intro b hb;obtain ⟨i,e⟩:=Qbo hok.bells.2 b hb;have e:=QmX e;unfold Qfi at e;split at e
 ·rename_i h; exact absurd e h
 ·rename_i h0;have h0:QcL p b.1 b.2.1=0:=by simpa using h0
  unfold QcL at h0;split at h0
  ·split at h0
   ·split at h0
    ·cases h0
    ·exact ⟨‹_›, ‹_›, ‹_›⟩
   ·cases h0
  ·cases h0
theorem HK.turn {x:Qw} (h:HK x):(0≤x.2.2.2.1∧x.2.2.2.1< (x.1.2.2.2.1.length:Int))∧(1≤x.2.2.2.2.1∧x.2.2.2.2.1≤50)∧isG x.1 (turnG x)=true∧x.1.2.2.2.1[x.2.2.2.1.toNat]?=some (x.1.2.2.2.1.getD x.2.2.2.1.toNat (0,0,())):=by
 have ht:=QvY h.ok x.2.2.2.2.2.1;rw [←h.slot, ←h.left] at ht;have hlt:x.2.2.2.1.toNat< x.1.2.2.2.1.length:=by omega
 refine ⟨ht.1,ht.2,(h.ok.slots _ (QaG (d:=(0,0,())) hlt)).1,?_⟩;rw [List.getD_eq_getElem?_getD,List.getElem?_eq_getElem hlt];rfl
theorem HK.guest {x:Qw} (h:HK x) {g:Int} (hg:isG x.1 g=true):(0≤g∧g< (x.2.2.1.length:Int))∧x.2.2.1[g.toNat]?=some (x.2.2.1.getD g.toNat QU)∧hartM (x.2.2.1.getD g.toNat QU)=0:=by
 have hgi:=QaP.1 hg;have hl:=h.len;have hlt:g.toNat< x.2.2.1.length:=by omega
 refine ⟨by omega,?_,h.harts _ (QaG hlt)⟩
 rw [List.getD_eq_getElem?_getD,List.getElem?_eq_getElem hlt];rfl
theorem HK.okL {x:Qw} (h:HK x) {g:Int} (hg:isG x.1 g=true):OkL (pgM x.1 g) x.2.1:=by
 have hm:=h.mem
 have hw:allW x.2.1=true:=by
  have h1:=h.mem.1;unfold QN at h1;rw [if_pos (Qgx h.mem.1)] at h1;split at h1
  ·assumption
  ·cases h1
 refine ⟨QeQ _ _,fun q hq=>?_,Qah.1 hw,by omega⟩
 have:=QpU h.ok hg q hq;omega
theorem HK.okS {x:Qw} (h:HK x):OkS (Mc.of (x.2.2.1.getD (turnG x).toNat QU) x.2.1) (pgM x.1 (turnG x)):=Qwi (h.guest h.turn.2.2.1).2.2 (h.okL h.turn.2.2.1)
theorem HK.okT {x:Qw} (h:HK x):OkS (QT x) (pgM x.1 (turnG x)):=Qkt h.okS
theorem Qqb {h:QH} (hh:hartM h=0):hartM (Qrl h)=0:=hh
theorem QiY {x:Qw} (h:HK x) (hr:Qca x=true):isG x.1 (QT x).ring=true:=by
 unfold Qca at hr;obtain ⟨b,hb,e⟩:=List.any_eq_true.1 hr;unfold Qaq at e;simp only [Bool.and_true,Bool.and_eq_true,beq_iff_eq] at e;rw [e.2];exact (Quq h.ok b hb).2.1
theorem QbR (x:Qw):(QS x).length=x.2.2.1.length:=by unfold QS; simp
theorem Qfw {x:Qw} (h:HK x): ∀y∈QS x,hartM y=0:=by
 intro y hy;unfold QS at hy;rcases List.mem_or_eq_of_mem_set hy with hy | rfl
 ·exact h.harts y hy
 ·exact h.okT.hartM
theorem Qku {x:Qw} (h:HK x):(QT x).m.length=192:=by unfold QT; rw [Qks]; exact h.mem.2
theorem HK.next {x:Qw} (h:HK x) (hc:x.2.2.2.2.2.1< 1000000):HK (Qbv x):=by
 have hl:=h.okT.l;refine ⟨h.pol,⟨?_,Qku h⟩,?_,?_,?_,?_,?_⟩
 ·show QN (QT x).m=0;unfold QN;rw [Qku h,if_pos (by decide),if_pos (Qah.2 hl.words)]
 ·show (if Qca x=true then Qbl (QT x).ring (QS x) else QS x).length=_
  split
  ·unfold Qbl; rw [List.length_set,QbR]; exact h.len
  ·rw [QbR]; exact h.len
 ·show ∀y∈(if Qca x=true then Qbl (QT x).ring (QS x) else QS x),hartM y=0
  split
  ·rename_i hr;have hg:=QaP.1 (QiY h hr);intro y hy;unfold Qbl at hy;rcases List.mem_or_eq_of_mem_set hy with hy | rfl
   ·exact Qfw h y hy
   ·exact Qqb (Qfw h _ (QaG (by rw [QbR,h.len]; omega)))
  ·exact Qfw h
 ·have:=h.clock;show 0≤x.2.2.2.2.2.1+1∧x.2.2.2.2.2.1+1≤1000000;omega
 ·show (Qfc x.1.2.2.2.1 x.2.2.2.1 x.2.2.2.2.1).1=(QaZ x.1 (x.2.2.2.2.2.1+1)).1;rw [Qmo h.ok h.clock.1, ←h.slot, ←h.left]
 ·show (Qfc x.1.2.2.2.1 x.2.2.2.1 x.2.2.2.2.1).2=(QaZ x.1 (x.2.2.2.2.2.1+1)).2;rw [Qmo h.ok h.clock.1, ←h.slot, ←h.left]
theorem Dr.gatE {X Y:Type} {xs:List X} {i:Int} {n:Nat} {f:X→Option Y} {P:Y→Prop} (hn:xs.length=n) (h:0≤i∧i< (n:Int)) (k: ∀y,xs[i.toNat]?=some y→Dr (f y) P):Dr (if 0≤i∧i< ((xs.length:Nat):Int) then (xs[i.toNat]?).bind f else none) P:=by
 subst hn;exact Dr.guard h (Dr.get (by omega) fun y _ hy=>k y hy)
theorem QoD (k:Int) (hs:List QH):Qbl k (Qbl k hs)=Qbl k hs:=by
 unfold Qbl;by_cases hk:k.toNat< hs.length
 ·rw [List.set_set];congr 1;rw [List.getD_eq_getElem?_getD,List.getElem?_set_self hk];rfl
 ·rw [List.set_eq_of_length_le (by simp; omega)]
def Qeb (g k:Int):List TwoD→List QH→List QH
 | [],hs=>hs
 | b::r,hs=>Qeb g k r (if Qaq (g,k,()) b=true then Qbl k hs else hs)
theorem QfN (g k:Int): ∀(r:List TwoD) (hs:List QH),Qeb g k r (Qbl k hs)=Qbl k hs
 | [],_=>rfl
 | b::r,hs=>by
  rw [Qeb];split
  ·rw [QoD,QfN g k r]
  ·exact QfN g k r hs
theorem QjZ (g k:Int): ∀(r:List TwoD) (hs:List QH),Qeb g k r hs=if r.any (Qaq (g,k,()))=true then Qbl k hs else hs
 | [],_=>rfl
 | b::r,hs=>by
  rw [Qeb,List.any_cons];by_cases hb:Qaq (g,k,()) b=true
  ·rw [if_pos hb,QfN,if_pos (by simp [hb])]
  ·have hb':Qaq (g,k,()) b=false:=by simpa using hb
   rw [if_neg hb,QjZ g k r,hb',Bool.false_or]
def Qoy (b:QeX) (hs:List QH):QeX:=(b.1,b.2.1,b.2.2.1,b.2.2.2.1,b.2.2.2.2.1,hs,b.2.2.2.2.2.2.1,b.2.2.2.2.2.2.2.1,b.2.2.2.2.2.2.2.2.1,())
theorem Qqq (b:QeX) (g k:Int) (hb:b.2.2.1.length≤1000) (hk: ∀y∈b.2.2.1,Qaq (g,k,()) y=true→0≤k∧k< (b.2.2.2.2.2.1.length:Int)):
  F_bs (b,g,k,())=some ((),(Qoy b (if b.2.2.1.any (Qaq (g,k,()))=true then Qbl k b.2.2.2.2.2.1 else b.2.2.2.2.2.1),())):=by
 rw [←QjZ];refine Dr.eq ?_;unfold F_bs
 have k1:Dr (L_bs_1 (((),(g,(k,((0:Int),())))),((b,()),()))) fun o=>o= .inl ((),((Qoy b (Qeb g k b.2.2.1 b.2.2.2.2.2.1),()),())):=by
  refine Qab (fun n u=> ∃(i:Nat) (hs:List QH),u=(((),(g,(k,((i:Int),())))),((Qoy b hs,()),()))∧n=b.2.2.1.length-i∧i≤b.2.2.1.length∧hs.length=b.2.2.2.2.2.1.length∧Qeb g k (b.2.2.1.drop i) hs=Qeb g k b.2.2.1 b.2.2.2.2.2.1) ?_ _ _ ⟨0,_,rfl,rfl,Nat.zero_le _,rfl,rfl⟩ (by rw [QG]; omega)
  rintro rec n _ ⟨i,hs,rfl,hn,hi,hl,he⟩ ih;unfold l_bs_1 Qoy;dsimp only;by_cases hlt:i< b.2.2.1.length
  case neg=>
   rw [if_neg (lt_f hlt)];rw [List.drop_of_length_le (by omega)] at he
   exact Dr.ret (by rw [←he]; rfl)
  rw [if_pos (lt_t hlt),if_pos nat0,Qn hlt,QQ (by omega)]
  rw [List.drop_eq_getElem_cons hlt,Qeb] at he;have hky:=hk _ (List.getElem_mem hlt);generalize b.2.2.1[i]=y at*
  have skip: ¬Qaq (g,k,()) y=true→Dr (rec (((),(g,(k,(((i+1:Nat):Int),())))),(((b.1,b.2.1,b.2.2.1,b.2.2.2.1,b.2.2.2.2.1,hs,b.2.2.2.2.2.2.1,b.2.2.2.2.2.2.2.1,b.2.2.2.2.2.2.2.2.1,()),()),()))) fun o=>o= .inl ((),(((b.1,b.2.1,b.2.2.1,b.2.2.2.1,b.2.2.2.2.1,Qeb g k b.2.2.1 b.2.2.2.2.2.1,b.2.2.2.2.2.2.1,b.2.2.2.2.2.2.2.1,b.2.2.2.2.2.2.2.2.1,()),()),())):=fun hn'=>by
   rw [if_neg hn'] at he;exact ih (n-1) _ (by omega) ⟨i+1,hs,rfl,by omega,by omega,hl,he⟩
  by_cases h1:y.1=g
  ·rw [if_pos (by simpa using h1)]
   by_cases h2:y.2.1=k
   ·have hs':Qaq (g,k,()) y=true:=by unfold Qaq; simp [h1,h2]
    have hkk:=hky hs';rw [if_pos hs'] at he;rw [if_pos (by simpa using h2)]
    refine Dr.gatE (n:=hs.length) rfl (by omega) fun z hz=>ih (n-1) _ (by omega) ⟨i+1,_,rfl,by omega,by omega,by simpa using hl,?_⟩
    rw [←he];unfold Qbl;rw [List.getD_eq_getElem?_getD,hz];rfl
   ·rw [if_neg (by simpa using h2)]
    exact skip (by unfold Qaq; simp; intro _ e; exact absurd e.symm h2)
  ·rw [if_neg (by simpa using h1)]
   exact skip (by unfold Qaq; simp; intro e; exact absurd e.symm h1)
 refine k1.bind fun o ho=>?_
 subst ho;exact Dr.ret rfl
theorem QoQ {x:Qw} (h:HK x) (hc:x.2.2.2.2.2.1< 1000000):F_bt (boxH x,())=some ((),(boxH (Qbv x),())):=by
 obtain ⟨h1,h2,h3,h4⟩:=h.turn;obtain ⟨g1,g2,g3⟩:=h.guest h3;have hS:=h.okS;have hfr:FR (QT x):=QoU (Mc.of (x.2.2.1.getD (turnG x).toNat QU) x.2.1) (pgM x.1 (turnG x));have hstep:F_br ((Mc.of (x.2.2.1.getD (turnG x).toNat QU) x.2.1).bus (pgM x.1 (turnG x)),())=some ((),((QT x).bus (pgM x.1 (turnG x)),())):=Qqr hS;have hm:=h.mem.2;have hrang:=QiY h;have hcl:=h.clock;have hle:=Qfv g3;have hpl:=h.ok.plan;refine Dr.eq ?_;unfold F_bt;refine Dr.guard h1.1 (Dr.step h4 (Dr.guard g1 (Dr.step g2 (Dr.step (QoL h.ok h3) (Dr.step (QsZ _ _ _ hle (by show x.2.1.length≤1048576; omega)) (Dr.step hstep ?_))))))
 refine Dr.guard g1 (Dr.step g2 ?_);have e1:IntKind.i64.wrap (x.2.2.2.2.2.1+1)=x.2.2.2.2.2.1+1:=Qq (by omega) (by omega)
 have e2:IntKind.i64.wrap (x.2.2.2.2.1-1)=x.2.2.2.2.1-1:=Qq (by omega) (by omega)
 have e3:IntKind.i64.wrap (x.2.2.2.1+1)=x.2.2.2.1+1:=Qq (by omega) (by omega)
 have hpos:0< (x.1.2.2.2.1.length:Int):=by omega
 have hmod:(x.2.2.2.1+1).tmod ((x.1.2.2.2.1.length:Nat):Int)=(x.2.2.2.1+1) % (x.1.2.2.2.1.length:Int):=Int.tmod_eq_emod_of_nonneg (by omega)
 have m0:=Int.emod_nonneg (x.2.2.2.1+1) (b:=(x.1.2.2.2.1.length:Int)) (by omega)
 have m1:=Int.emod_lt_of_pos (x.2.2.2.1+1) (b:=(x.1.2.2.2.1.length:Int)) hpos;have hmi:((x.2.2.2.1+1) % (x.1.2.2.2.1.length:Int)).toNat< x.1.2.2.2.1.length:=by omega
 have hd:x.1.2.2.2.1[((x.2.2.2.1+1) % (x.1.2.2.2.1.length:Int)).toNat]?=some (x.1.2.2.2.1.getD ((x.2.2.2.1+1) % (x.1.2.2.2.1.length:Int)).toNat (0,0,())):=by
  rw [List.getD_eq_getElem?_getD,List.getElem?_eq_getElem hmi]; rfl
 --what is behind the bell
 have fin: ∀hs:List QH,hs=(if Qca x=true then Qbl (QT x).ring (QS x) else QS x)→
   (∀(a:Int),a=x.2.2.2.2.1-1→Dr (if (a==(0:Int))=true then (if ((x.1.2.2.2.1.length:Nat):Int)=0 then none else if 0≤(x.2.2.2.1+1).tmod ((x.1.2.2.2.1.length:Nat):Int) then (x.1.2.2.2.1[((x.2.2.2.1+1).tmod ((x.1.2.2.2.1.length:Nat):Int)).toNat]?).bind fun y=>some ((),((x.1.1,x.1.2.1,x.1.2.2.1,x.1.2.2.2.1,(QT x).m,hs,(x.2.2.2.1+1).tmod ((x.1.2.2.2.1.length:Nat):Int),y.2.1,x.2.2.2.2.2.1+1,()),())) else none)
    else some ((),((x.1.1,x.1.2.1,x.1.2.2.1,x.1.2.2.2.1,(QT x).m,hs,x.2.2.2.1,a,x.2.2.2.2.2.1+1,()),()))) fun r=>r=((),(boxH (Qbv x),()))):=by
  rintro hs rfl a rfl;rw [hmod];by_cases hz:x.2.2.2.2.1-1=0
  ·refine Dr.pos (by simpa using hz) (Dr.nguard (by omega) (Dr.guard m0 (Dr.step hd (Dr.ret ?_))))
   unfold boxH Qbv Qfc;dsimp only;rw [if_pos hz]
  ·refine Dr.neg (by simpa using hz) (Dr.ret ?_)
   unfold boxH Qbv Qfc;dsimp only;rw [if_neg hz]
 by_cases hr:0≤(QT x).ring
 ·refine Dr.pos (QaW.2 hr) ?_
  have hring:=Qqq (Qoy (boxH (x.1,(QT x).m,x.2.2.1,x.2.2.2.1,x.2.2.2.2.1,x.2.2.2.2.2.1,())) (QS x)) (turnG x) (QT x).ring (by have:=h.ok.bells.1; show x.1.2.2.1.length≤1000; omega) (fun y hy hs=>by
   have hin:Qca x=true:=List.any_eq_true.2 ⟨y,hy,hs⟩;have:=QaP.1 (hrang hin);show 0≤(QT x).ring∧(QT x).ring< ((QS x).length:Int);rw [QbR,h.len];exact this)
  refine Dr.step hring ?_;have q:=fin (if Qca x=true then Qbl (QT x).ring (QS x) else QS x) rfl (IntKind.i64.wrap (x.2.2.2.2.1-1)) e2
  rw [←e1, ←e3] at q;exact q
 ·refine Dr.neg (by rw [QaW]; exact hr) ?_
  have hno: ¬Qca x=true:=fun hin=>hr (by have:=QaP.1 (hrang hin); omega)
  have q:=fin (QS x) (by rw [if_neg hno]) (IntKind.i64.wrap (x.2.2.2.2.1-1)) e2
  rw [←e1, ←e3] at q;exact q
theorem QjI {h:QH} {l:List TwoD} {m:List Int} (hh:QbQ 1048576 h) (hm:m.length≤1048576) (ho:OkS (Mc.of h m) l):F_ga (h,l,m,1,())=some (((Qak (Mc.of h m) l).res (Qak (Mc.of h m) l).fall (Qak (Mc.of h m) l).ring,()),()):=by
 rw [QkP h l m 1 hh hm ho (by decide),show (1:Int).toNat=1 from rfl]
 simp only [Qcu];obtain ⟨h1,h2⟩:=QoU (Mc.of h m) l;have e1:(if 0≤(Qak (Mc.of h m) l).fall then (Qak (Mc.of h m) l).fall else -1)=(Qak (Mc.of h m) l).fall:=by split <;> omega
 have e2:(if 0≤(Qak (Mc.of h m) l).ring then (Qak (Mc.of h m) l).ring else -1)=(Qak (Mc.of h m) l).ring:=by split <;> omega
 rw [e1,e2]
theorem QiB {x:Qw} (h:HK x) (hc:x.2.2.2.2.2.1< 1000000):F_gb (boxH x,())=some ((),(boxH (Qbv x),())):=by
 obtain ⟨h1,h2,h3,h4⟩:=h.turn;obtain ⟨g1,g2,g3⟩:=h.guest h3;have hS:=h.okS;have hm:=h.mem.2;have hrang:=QiY h;have hcl:=h.clock;have hle:=Qfv g3;have hpl:=h.ok.plan
 have hturn:F_em (x,())=some ((turnG x,()),()):=by
  refine Dr.eq ?_;unfold F_em;exact Dr.guard h1.1 (Dr.step h4 (Dr.ret rfl))
 have hst:F_ga (x.2.2.1.getD (turnG x).toNat QU,pgM x.1 (turnG x),x.2.1,1,())=some (((QT x).res (QT x).fall (QT x).ring,()),()):=QjI hle (by omega) hS
 refine Dr.eq ?_;unfold F_gb;refine Dr.step hturn (Dr.guard g1 (Dr.step g2 (Dr.step (QnX h.ok h3) (Dr.step hst ?_))));refine Dr.guard g1 (Dr.step g2 ?_);refine Dr.step (Qfj (turnG x,(QT x).ring,()) x.1.2.2.1 (by have:=h.ok.bells.1; omega)) ?_
 have e1:IntKind.i64.wrap (x.2.2.2.2.2.1+1)=x.2.2.2.2.2.1+1:=Qq (by omega) (by omega)
 have e2:IntKind.i64.wrap (x.2.2.2.2.1-1)=x.2.2.2.2.1-1:=Qq (by omega) (by omega)
 have e3:IntKind.i64.wrap (x.2.2.2.1+1)=x.2.2.2.1+1:=Qq (by omega) (by omega)
 have hpos:0< (x.1.2.2.2.1.length:Int):=by omega
 have hmod:(x.2.2.2.1+1).tmod ((x.1.2.2.2.1.length:Nat):Int)=(x.2.2.2.1+1) % (x.1.2.2.2.1.length:Int):=Int.tmod_eq_emod_of_nonneg (by omega)
 have m0:=Int.emod_nonneg (x.2.2.2.1+1) (b:=(x.1.2.2.2.1.length:Int)) (by omega)
 have m1:=Int.emod_lt_of_pos (x.2.2.2.1+1) (b:=(x.1.2.2.2.1.length:Int)) hpos;have hmi:((x.2.2.2.1+1) % (x.1.2.2.2.1.length:Int)).toNat< x.1.2.2.2.1.length:=by omega
 have hd:x.1.2.2.2.1[((x.2.2.2.1+1) % (x.1.2.2.2.1.length:Int)).toNat]?=some (x.1.2.2.2.1.getD ((x.2.2.2.1+1) % (x.1.2.2.2.1.length:Int)).toNat (0,0,())):=by
  rw [List.getD_eq_getElem?_getD,List.getElem?_eq_getElem hmi]; rfl
 have fin: ∀hs:List QH,hs=(if Qca x=true then Qbl (QT x).ring (QS x) else QS x)→
   (∀(a:Int),a=x.2.2.2.2.1-1→Dr (if (a==(0:Int))=true then (if ((x.1.2.2.2.1.length:Nat):Int)=0 then none else if 0≤(x.2.2.2.1+1).tmod ((x.1.2.2.2.1.length:Nat):Int) then (x.1.2.2.2.1[((x.2.2.2.1+1).tmod ((x.1.2.2.2.1.length:Nat):Int)).toNat]?).bind fun y=>some ((),((x.1.1,x.1.2.1,x.1.2.2.1,x.1.2.2.2.1,(QT x).m,hs,(x.2.2.2.1+1).tmod ((x.1.2.2.2.1.length:Nat):Int),y.2.1,x.2.2.2.2.2.1+1,()),())) else none)
    else some ((),((x.1.1,x.1.2.1,x.1.2.2.1,x.1.2.2.2.1,(QT x).m,hs,x.2.2.2.1,a,x.2.2.2.2.2.1+1,()),()))) fun r=>r=((),(boxH (Qbv x),()))):=by
  rintro hs rfl a rfl;rw [hmod];by_cases hz:x.2.2.2.2.1-1=0
  ·refine Dr.pos (by simpa using hz) (Dr.nguard (by omega) (Dr.guard m0 (Dr.step hd (Dr.ret ?_))))
   unfold boxH Qbv Qfc;dsimp only;rw [if_pos hz]
  ·refine Dr.neg (by simpa using hz) (Dr.ret ?_)
   unfold boxH Qbv Qfc;dsimp only;rw [if_neg hz]
 by_cases hin:Qca x=true
 ·refine Dr.pos hin ?_;have hg:=QaP.1 (hrang hin);refine Dr.gatE (n:=(QS x).length) rfl (by rw [QbR,h.len]; exact hg) fun z hz=>?_
  have hz':(QS x)[(QT x).ring.toNat]?=some z:=hz
  have ez:Qbl (QT x).ring (QS x)=(QS x).set (QT x).ring.toNat (Qrl z):=by
   unfold Qbl;rw [List.getD_eq_getElem?_getD,hz'];rfl
  have q:=fin ((QS x).set (QT x).ring.toNat (Qrl z)) (by rw [if_pos hin,ez]) (IntKind.i64.wrap (x.2.2.2.2.1-1)) e2
  rw [←e1, ←e3] at q;exact q
 ·refine Dr.neg hin ?_;have q:=fin (QS x) (by rw [if_neg hin]) (IntKind.i64.wrap (x.2.2.2.2.1-1)) e2
  rw [←e1, ←e3] at q;exact q
theorem Qtd {X:Type} {xs:List X} {i:Nat} (h:i< xs.length):xs.take i++[xs[i]]=xs.take (i+1):=by
 rw [List.take_add_one,List.getElem?_eq_getElem h];rfl
theorem QfP {X:Type} {xs:List X} {i:Nat} (h:i< xs.length):xs.set i xs[i]=xs:=by
 apply List.ext_getElem (by simp)
 intro j h1 h2;rw [List.getElem_set];split
 ·rename_i e; subst e; rfl
 ·rfl
theorem QkU {p:PolD} (hok:OkPol p):F_ac (p,())=some (((p.1,p.2.1,p.2.2.1,p.2.2.2.1,()),()),()):=by
 have hle:=QhD hok;have ho:=hok.own;have hb:=hok.bells.1;have hp:=hok.plan.2;have hl:=hok.lanes.1;refine Dr.eq ?_;unfold F_ac;dsimp only;refine Dr.pos (by simp; omega) (.pos (by simp; omega) (.pos (by simp; omega) ?_))
 have k1:Dr (L_ac_3 (((),((),((),((0:Int),())))),((p,(([],([],([],([],())))),(([],([]++p.2.1,([]++p.2.2.1,([]++p.2.2.2.1,())))),()))),()))) fun o=>o= .inl (((),((),())),((([],([],([],([],())))),((p.1,(p.2.1,(p.2.2.1,(p.2.2.2.1,())))),())),())):=by
  refine Qab (fun n u=> ∃i:Nat,u=(((),((),((),((i:Int),())))),((p,(([],([],([],([],())))),((p.1.take i,([]++p.2.1,([]++p.2.2.1,([]++p.2.2.2.1,())))),()))),()))∧n=p.1.length-i∧i≤p.1.length) ?_ _ _ ⟨0,rfl,rfl,Nat.zero_le _⟩ (by rw [QG]; omega)
  rintro rec n _ ⟨i,rfl,hn,hi⟩ ih;unfold l_ac_3;dsimp only;by_cases hlt:i< p.1.length
  case neg=>
   rw [if_neg (lt_f hlt),List.take_of_length_le (by omega)]
   exact Dr.ret rfl
  have hy:=(hok.own1 _ (List.getElem_mem hlt)).2.1;rw [if_pos (lt_t hlt),if_pos nat0,Qn hlt,QQ (by omega)]
  refine Dr.pos (by simp; omega) (.pos (by simp; omega) ?_)
  exact ih (n-1) _ (by omega) ⟨i+1,by rw [List.nil_append,Qtd hlt],by omega,by omega⟩
 refine k1.bind fun o h=>?_
 subst h;exact Dr.ret rfl
theorem QkN {p:PolD} (hok:OkPol p):F_do (p,())=some (((p.1,p.2.1,p.2.2.1,p.2.2.2.1,()),()),()):=by
 have hle:=QhD hok;have ho:=hok.own;have hb:=hok.bells.1;have hp:=hok.plan.2;have hl:=hok.lanes.1;refine Dr.eq ?_;unfold F_do F_dk;dsimp only;rw [if_pos (by simp; omega),Obn]
 have k1:Dr (L_do_3 (((),((),(((p.1.length:Nat):Int),((0:Int),())))),(((p.1,(p.2.1,(p.2.2.1,(p.2.2.2.1,())))),(([],([],([],([],())))),())),()))) fun o=>o= .inl (((),((),())),(((p.1,(p.2.1,(p.2.2.1,(p.2.2.2.1,())))),(([],([],([],([],())))),())),())):=by
  refine Qab (fun n u=> ∃i:Nat,u=(((),((),(((p.1.length:Nat):Int),((i:Int),())))),(((p.1,(p.2.1,(p.2.2.1,(p.2.2.2.1,())))),(([],([],([],([],())))),())),()))∧n=p.1.length-i∧i≤p.1.length) ?_ _ _ ⟨0,rfl,rfl,Nat.zero_le _⟩ (by rw [QG]; omega)
  rintro rec n _ ⟨i,rfl,hn,hi⟩ ih;unfold l_do_3;dsimp only;by_cases hlt:i< p.1.length
  case neg=>
   rw [if_neg (lt_f hlt)];exact Dr.ret rfl
  have hy:=(hok.own1 _ (List.getElem_mem hlt)).2.1;rw [if_pos (lt_t hlt),if_pos ⟨nat0,Int.ofNat_lt.2 hlt⟩,Qn hlt,QQ (by omega),Qdc (by omega),Obn,if_pos ⟨nat0,Int.ofNat_lt.2 hlt⟩,Qn hlt,Int.toNat_natCast]
  dsimp only;rw [QfP hlt];exact ih (n-1) _ (by omega) ⟨i+1,rfl,by omega,by omega⟩
 refine k1.bind fun o h=>?_
 subst h;unfold F_dl F_dm F_dn;dsimp only;rw [if_pos (by simp; omega),Obn,if_pos (by simp; omega),Obn,if_pos (by simp; omega),Obn]
 exact Dr.ret rfl
theorem Qfx {x:Qw} (h:HK x):F_dq (x,())=some ((boxH x,()),()):=by
 have hle:=h.le;have hm:=h.mem.2;have hh:=hle.2.2.1;refine Dr.eq ?_;unfold F_dq;refine Dr.step (QkN h.ok) (.step (Qdc (q:=x.2.1) (by omega)) ?_)
 unfold F_dp;dsimp only;rw [if_pos (by simp; omega),Obn]
 have k1:Dr (L_dq_5 (((),((),(((x.2.2.1.length:Nat):Int),((0:Int),())))),((boxH x,(([],([],([],([],([],([],((0:Int),((0:Int),((0:Int),()))))))))),())),()))) fun o=>o= .inl (((),((),())),((boxH x,(([],([],([],([],([],([],((0:Int),((0:Int),((0:Int),()))))))))),())),())):=by
  refine Qab (fun n u=> ∃i:Nat,u=(((),((),(((x.2.2.1.length:Nat):Int),((i:Int),())))),((boxH x,(([],([],([],([],([],([],((0:Int),((0:Int),((0:Int),()))))))))),())),()))∧n=x.2.2.1.length-i∧i≤x.2.2.1.length) ?_ _ _ ⟨0,rfl,rfl,Nat.zero_le _⟩ (by rw [QG]; omega)
  rintro rec n _ ⟨i,rfl,hn,hi⟩ ih;unfold l_dq_5 boxH;dsimp only;by_cases hlt:i< x.2.2.1.length
  case neg=>
   rw [if_neg (lt_f hlt)];exact Dr.ret rfl
  rw [if_pos (lt_t hlt),if_pos ⟨nat0,Int.ofNat_lt.2 hlt⟩,Qn hlt,QQ (by omega),QeI _ (hle.2.2.2 _ (List.getElem_mem hlt)),Obn,if_pos ⟨nat0,Int.ofNat_lt.2 hlt⟩,Qn hlt,Int.toNat_natCast]
  dsimp only;rw [QfP hlt];exact ih (n-1) _ (by omega) ⟨i+1,rfl,by omega,by omega⟩
 refine k1.bind fun o h=>?_
 subst h;exact Dr.ret rfl
abbrev Qhg:=List Int×Int×List Int×Bool×Bool×Bool×Int×List Int×List Int×List Int×List Int×Unit
def QaQ (x:Qw) (g:Int):Qhg:=(QkE 0 (x.2.2.1.getD g.toNat QU) (Qai x.2.1 (x.1.1.getD g.toNat [])) (Qai x.2.1 (Qar g true x.1.2.1))).2
def vD (r:Qhg):Qwd:=((r.1,r.2.1,r.2.2.1,r.2.2.2.1,r.2.2.2.2.1,r.2.2.2.2.2.1,r.2.2.2.2.2.2.1,r.2.2.2.2.2.2.2.1,r.2.2.2.2.2.2.2.2.1,()),r.2.2.2.2.2.2.2.2.2.1,r.2.2.2.2.2.2.2.2.2.2.1,())
theorem Qpe {x:Qw} {g:Int} (h:HK x) (hg:isG x.1 g=true):Qmv x g=(0,QaQ x g):=by
 unfold Qmv QaQ;rw [if_neg (by simpa using h.to),if_pos hg]
 rfl
theorem QiD {x:Qw} {g:Int} (hk:HK x) (hg:isG x.1 g=true):F_ec (x,g,())=some ((QaQ x g,()),()):=by
 obtain ⟨⟨g0,e1,e2⟩,a1,⟨a2,a3⟩,a4⟩:=QjD hk.le hk.to hg;have hok:=hk.ok;have hm:=hk.mem.2;have hll:=hok.lanes.1;unfold QaQ;unfold F_ec;dsimp only;rw [if_pos g0,e1,Obn,QeI _ a1,Obn,if_pos g0,e2,Obn,Qhr _ _ (by omega) a3 (by omega),Obn]
 generalize x.2.2.1.getD g.toNat QU=h at*;generalize Qai x.2.1 (x.1.1.getD g.toNat [])=ow at*;dsimp only
 have key:=Qfa (step:=l_ec_3) (γ:=denO o_ec_3)
  (fun k (out:List Int)=>((x,g,(),(),x.1.2.1,((x.1.2.1.length:Nat):Int),((k:Nat):Int),()),(([],0,[],false,false,false,0,[],[],[],[],()),(h.1,h.2.1,h.2.2.1,h.2.2.2.1,h.2.2.2.2.1,h.2.2.2.2.2.1,h.2.2.2.2.2.2.1,h.2.2.2.2.2.2.2.1,h.2.2.2.2.2.2.2.2.1,ow,out,()),()),()))
  x.1.2.1.length (QaM (by omega)) (fun k out=>out.length≤8*k)
  (fun k out=>some (.inl (((),(),()),(([],0,[],false,false,false,0,[],[],[],[],()),(h.1,h.2.1,h.2.2.1,h.2.2.2.1,h.2.2.2.2.1,h.2.2.2.2.2.1,h.2.2.2.2.2.2.1,h.2.2.2.2.2.2.2.1,h.2.2.2.2.2.2.2.2.1,ow,out++Qai x.2.1 (Qar g true (x.1.2.1.drop k)),()),()),()))) ?_ 0 [] (by omega) (by simp)
 ·have e0:((0:Nat):Int)=0:=rfl;rw [e0,List.drop_zero,List.nil_append] at key;show (Qd l_ec_3 lots _).bind _=_;rw [key,Obn];rfl
 ·rintro rec k out hk' ho ih;unfold l_ec_3;dsimp only;by_cases hlt:k< x.1.2.1.length
  ·have hln:=(QcA hok _ (List.getElem_mem hlt)).2.1;rw [if_pos (lt_t hlt),if_pos nat0,Qn hlt,QaT hlt,Qar,QQ (by omega)]
   by_cases hq:(x.1.2.1[k]).1=g
   ·rw [if_pos (by simpa using hq),if_pos hq,Qfz x.2.1 _ (by omega) (by omega),Obn]
    dsimp only;have:=QjY x.2.1 (x.1.2.1[k]).2.2.1;rw [if_pos (by omega),ih _ hlt (by rw [List.length_append]; omega),List.append_assoc]
    rfl
   ·rw [if_neg (by simpa using hq),if_neg hq]
    exact ih _ hlt (by omega)
  ·rw [if_neg (lt_f hlt),QbN hlt];simp only [Qar,Qai,List.flatMap_nil,List.append_nil]
def Qkh (v w:Qhg):Bool:=match F_eg (vD v,vD w,()) with
 | some r=>r.1.1
 | none=>false
theorem Qrm {v w:Qhg} (h:Qnp maxLen (vD v)):True∧F_eg (vD v,vD w,())=some ((Qkh v w,()),()):=by
 obtain ⟨b,_,e2⟩:=QuW (vD v,vD w,()) h;unfold Qkh;rw [e2];exact ⟨trivial,rfl⟩
theorem QhN {x:Qw} {g:Int} (h:HK x) (hg:isG x.1 g=true):Qnp maxLen (vD (QaQ x g)):=by
 have:=QuV x g h.le;rw [Qpe h hg] at this;obtain ⟨h1,h2,h3,h4,h5,h6⟩:=this;exact ⟨⟨leM h1,leM h2,leM h3,leM h4⟩,leM h5,leM h6⟩
abbrev Qwb:=Int×Int×Bool×Unit
def QcT (g:Int):Nat→Int→Qw→Qw→Qwb
 | 0,k,x,y=>if Qkh (QaQ x g) (QaQ y g)=true then (0,0,true,()) else (0,k,false,())
 | r+1,k,x,y=>if Qkh (QaQ x g) (QaQ y g)=true then QcT g r (k+1) (Qbv x) (Qbv y) else (0,k,false,())
theorem QmP {g n:Int} {x y:Qw} (hx:HK x) (hy:HK y) (gx:isG x.1 g=true) (gy:isG y.1 g=true) (hn:0≤n∧n≤200) (cx:x.2.2.2.2.2.1+n≤1000000) (cy:y.2.2.2.2.2.1+n≤1000000):
  L_gc_10 ((g,(n,((),((),((),((0:Int),())))))),((((0:Int),((0:Int),(false,()))),(boxH x,(boxH y,()))),()))=some (.inl (((),()),((QcT g n.toNat 0 x y,()),()))):=by
 refine Dr.eq ?_;refine Qab (fun m u=> ∃(k:Int) (x' y':Qw),u=((g,(n,((),((),((),(k,())))))),((((0:Int),((0:Int),(false,()))),(boxH x',(boxH y',()))),()))∧k+(m:Int)=n∧0≤k∧HK x'∧HK y'∧isG x'.1 g=true∧isG y'.1 g=true∧x'.2.2.2.2.2.1+(m:Int)≤1000000∧y'.2.2.2.2.2.1+(m:Int)≤1000000∧QcT g m k x' y'=QcT g n.toNat 0 x y) ?_ n.toNat _ ⟨0,x,y,rfl,by omega,by omega,hx,hy,gx,gy,by omega,by omega,rfl⟩ (by rw [QG]; omega)
 rintro rec m _ ⟨k,x,y,rfl,hk,h0,hx,hy,gx,gy,cx,cy,he⟩ ih;unfold l_gc_10;refine Dr.step (QiD hx gx) (.step (QiD hy gy) (.step (Qrm (w:=QaQ y g) (QhN hx gx)).2 ?_));cases hs:Qkh (QaQ x g) (QaQ y g) with
 | false=>
  refine Dr.pos rfl (.ret ?_);cases m with
  | zero=>rw [←he,QcT,hs]; rfl
  | succ m=>rw [←he,QcT,hs]; rfl
 | true=>
  refine Dr.neg (by simp) ?_
  cases m with
  | zero=>
   have e:k=n:=by omega
   refine Dr.pos (by simpa using e) (.ret ?_)
   rw [←he,QcT,hs]; rfl
  | succ m=>
   have e: ¬k=n:=by omega
   refine Dr.neg (by simpa using e) (.step (QiB hx (by omega)) (.step (QiB hy (by omega)) ?_))
   dsimp only;rw [Qq (n:=k+1) (by omega) (by omega)]
   refine ih m _ (by omega) ⟨k+1,Qbv x,Qbv y,rfl,by omega,by omega,hx.next (by omega),hy.next (by omega),gx,gy,?_,?_,?_⟩
   ·show x.2.2.2.2.2.1+1+(m:Int)≤1000000; omega
   ·show y.2.2.2.2.2.1+1+(m:Int)≤1000000; omega
   ·rw [←he,QcT,hs,if_pos rfl]
theorem Qss (m:List Qw) (hm:m.length≤1000) (n:Int):F_el_1 (m,(n,()),())=some ((m.any (fun x=>!leI (IntKind.i64.wrap (x.2.2.2.2.2.1+n)) 1000000),()),()):=by
 refine Dr.eq ?_;unfold F_el_1 F_ej_1
 have k1:Dr (L_ek_2 ((m,((n,()),(((m.length:Nat):Int),((0:Int),())))),((),()))) fun o=>(m.any (fun x=>!leI (IntKind.i64.wrap (x.2.2.2.2.2.1+n)) 1000000)=true∧ ∃i:Int,0≤i∧o= .inr (.inl ((i,()),((),()))))∨(m.any (fun x=>!leI (IntKind.i64.wrap (x.2.2.2.2.2.1+n)) 1000000)=false∧o= .inl ((),((),()))):=by
  refine Qab (fun k u=> ∃i:Nat,u=((m,((n,()),(((m.length:Nat):Int),((i:Int),())))),((),()))∧k=m.length-i∧i≤m.length∧(m.drop i).any (fun x=>!leI (IntKind.i64.wrap (x.2.2.2.2.2.1+n)) 1000000)=m.any (fun x=>!leI (IntKind.i64.wrap (x.2.2.2.2.2.1+n)) 1000000)) ?_ _ _ ⟨0,rfl,rfl,Nat.zero_le _,rfl⟩ (by rw [QG]; omega)
  rintro rec k _ ⟨i,rfl,hk,hi,he⟩ ih;unfold l_ek_2;dsimp only;by_cases hlt:i< m.length
  case neg=>
   rw [if_neg (lt_f hlt)];rw [List.drop_of_length_le (by omega)] at he
   exact Dr.ret (.inr ⟨by rw [←he]; rfl,rfl⟩)
  rw [if_pos (lt_t hlt),if_pos nat0,Qn hlt];rw [List.drop_eq_getElem_cons hlt,List.any_cons] at he
  have e1:F_ei_1 (m[i],n,())=some ((!leI (IntKind.i64.wrap ((m[i]).2.2.2.2.2.1+n)) 1000000,()),()):=by
   have e2:(!leI (IntKind.i64.wrap ((m[i]).2.2.2.2.2.1+n)) 1000000)=ltI 1000000 (IntKind.i64.wrap ((m[i]).2.2.2.2.2.1+n)):=by
    unfold leI; cases ltI 1000000 (IntKind.i64.wrap ((m[i]).2.2.2.2.2.1+n)) <;> rfl
   rw [e2];rfl
  refine Dr.step e1 ?_;dsimp only;cases hb:(!leI (IntKind.i64.wrap ((m[i]).2.2.2.2.2.1+n)) 1000000) with
  | true=>
   rw [hb,Bool.true_or] at he;exact Dr.pos rfl (.ret (.inl ⟨he.symm,i,by omega,rfl⟩))
  | false=>
   rw [hb,Bool.false_or] at he;rw [QQ (by omega)]
   exact Dr.neg (by simp) (ih (k-1) _ (by omega) ⟨i+1,rfl,by omega,by omega,he⟩)
 refine Dr.bind (Q:=fun r=>r=((if m.any (fun x=>!leI (IntKind.i64.wrap (x.2.2.2.2.2.1+n)) 1000000)=true then r.1.1 else -1,()),())∧(m.any (fun x=>!leI (IntKind.i64.wrap (x.2.2.2.2.2.1+n)) 1000000)=true→0≤r.1.1)) (k1.bind fun o ho=>?_) fun r hr=>Dr.ret ?_
 ·rcases ho with ⟨h1,i,h2,rfl⟩ | ⟨h1,rfl⟩
  ·exact Dr.ret ⟨by rw [if_pos h1],fun _=>h2⟩
  ·exact Dr.ret ⟨by rw [if_neg (by rw [h1]; decide)],fun h=>by rw [h1] at h; cases h⟩
 ·obtain ⟨h1,h2⟩:=hr;cases hb:m.any (fun x=>!leI (IntKind.i64.wrap (x.2.2.2.2.2.1+n)) 1000000) with
  | true=>
   have:=h2 hb;have:leI 0 r.1.1=true:=by rw [Qal]; exact decide_eq_true this
   rw [this]
  | false=>
   rw [hb] at h1;rw [h1];rfl
theorem Qck (x y:Qw) (n:Int):F_ei (n,[x,y],())=some ((if QaE x n=true then (if QaE y n=true then 0 else 3) else 3,()),()):=by
 unfold F_ei QaE;dsimp only;rw [QaA,Obn];dsimp only;cases inB n 0 200
 ·rw [if_neg (by simp),if_neg (by simp)]
 ·rw [if_pos (show (!true)=false from rfl),Qss _ (by simp),Obn]
  dsimp only;rw [List.any_cons,List.any_cons,List.any_nil];cases leI (IntKind.i64.wrap (x.2.2.2.2.2.1+n)) 1000000
  ·rfl
  ·cases leI (IntKind.i64.wrap (y.2.2.2.2.2.1+n)) 1000000 <;> rfl
theorem Qmh {x:Qw} {n:Int} (h:HK x) (hs:QaE x n=true):(0≤n∧n≤200)∧x.2.2.2.2.2.1+n≤1000000:=by
 unfold QaE at hs;obtain ⟨h1,h2⟩:=Bool.and_eq_true_iff.1 hs;have h1:=Qdt.1 h1;have hc:=h.clock;rw [Qq (by omega) (by omega)] at h2
 refine ⟨h1,?_⟩;rw [Qal] at h2;have:=of_decide_eq_true h2;omega
def Qlm (x y:Qw) (g n:Int):Qwb:=
 if QaH x≠0 then (QaH x,0,false,())
 else if QaH y≠0 then (QaH y,0,false,())
 else if isG x.1 g=true then
  if isG y.1 g=true then
   if QaE x n=true then
    if QaE y n=true then QcT g n.toNat 0 x y else (3,0,false,())
   else (3,0,false,())
  else (4,0,false,())
 else (4,0,false,())
theorem Qpy (x y:Qw) (g n:Int) (lx:QcU 1048576 x) (ly:QcU 1048576 y):F_gc (x,y,g,n,())=some ((Qlm x y g n,()),()):=by
 refine Dr.eq ?_;unfold F_gc Qlm;have f1:=Qcw (QaH x) (QaH y);refine Dr.step (Qbe x lx) (.step (Qbe y ly) ?_);by_cases h1:QaH x=0
 case neg=>
  rw [if_pos h1] at f1;refine Dr.step f1 ?_;dsimp only;rw [if_neg (by simpa using h1)]
  have f2:=Qcw (QaH x) (if QaE x n=true then (if QaE y n=true then 0 else 3) else 3)
  rw [if_pos h1] at f2;refine Dr.step (Qck x y n) (.step f2 ?_);dsimp only;rw [if_pos (by simpa using h1),if_pos h1]
  exact Dr.ret rfl
 rw [if_neg (by simpa using h1)] at f1
 refine Dr.step f1 ?_;dsimp only;by_cases h2:QaH y=0
 case neg=>
  rw [if_neg (by simpa using h2)]
  have f2:=Qcw (QaH y) (if QaE x n=true then (if QaE y n=true then 0 else 3) else 3)
  rw [if_pos h2] at f2;refine Dr.step (Qck x y n) (.step f2 ?_);dsimp only;rw [if_pos (by simpa using h2),if_neg (by simpa using h1),if_pos h2]
  exact Dr.ret rfl
 rw [if_pos (by simpa using h2),if_neg (by simpa using h1),if_neg (by simpa using h2)]
 have hx:=HK.of h1;have hy:=HK.of h2;refine Dr.step (QaO x.1 g lx.1.1.1) ?_;dsimp only;by_cases h3:isG x.1 g=true
 case neg=>
  rw [if_neg h3,if_neg h3];refine Dr.step (Qck x y n) (.step (Qcw _ _) ?_);dsimp only;rw [if_pos (show (4:Int)≠0 by decide),if_pos (by decide)]
  exact Dr.ret rfl
 rw [if_pos h3,if_pos h3];refine Dr.step (QaO y.1 g ly.1.1.1) ?_;dsimp only;by_cases h4:isG y.1 g=true
 case neg=>
  rw [if_pos (by simpa using h4),if_neg h4]
  refine Dr.step (Qck x y n) (.step (Qcw _ _) ?_);dsimp only;rw [if_pos (show (4:Int)≠0 by decide),if_pos (by decide)]
  exact Dr.ret rfl
 rw [if_neg (by simpa using h4),if_pos h4]
 have f2:=Qcw (QaH y) (if QaE x n=true then (if QaE y n=true then 0 else 3) else 3)
 rw [if_neg (show ¬QaH y≠0 by simpa using h2)] at f2
 refine Dr.step (Qck x y n) (.step f2 ?_);dsimp only;by_cases h5:QaE x n=true
 case neg=>
  rw [if_neg h5,if_neg h5,if_pos (by decide)]
  exact Dr.ret rfl
 rw [if_pos h5,if_pos h5];by_cases h6:QaE y n=true
 case neg=>
  rw [if_neg h6,if_neg h6,if_pos (by decide)]
  exact Dr.ret rfl
 rw [if_pos h6,if_pos h6,if_neg (by decide)]
 have s1:=Qmh hx h5;have s2:=Qmh hy h6;exact Dr.step (Qfx hx) (.step (Qfx hy) (.step (QmP hx hy h3 h4 s1.1 s1.2 s2.2) (.ret rfl)))
def Qxg (v:Qhg):Bool:=v.2.2.2.2.2.1
def setF (v:Qhg) (b:Bool):Qhg:=(v.1,v.2.1,v.2.2.1,v.2.2.2.1,v.2.2.2.2.1,b,v.2.2.2.2.2.2)
def setM (s:Qbu) (m:List Int):Qbu:=(s.1,s.2.1,m,())
def Qwk (s:Qbu) (h:QH):Qbu:=((s.1.1,s.1.2.1,s.1.2.2.1,s.1.2.2.2.1,s.1.2.2.2.2.1,h.2.2.2.2.2.1,s.1.2.2.2.2.2.2),s.2.1,s.2.2.1,())
theorem QkJ {m:List Int} (h:QN m=0): ∀w∈m,WW w:=by
 unfold QN at h;split at h
 ·split at h
  ·exact Qah.1 ‹_›
  ·cases h
 ·cases h
theorem QtJ {m:List Int} (hl:m.length=64) (h: ∀w∈m,WW w):QN m=0:=by
 unfold QN;rw [if_pos (by rw [hl]; decide),if_pos (Qah.2 h)]
theorem Qkm {s:Qbu} (h1:hartM s.1=0) (h2:Qik s.2.1 8=0) (h3:s.2.2.1.length=64) (h4: ∀w∈s.2.2.1,WW w):QcY s=0:=by
 unfold QcY;rw [if_neg (by simpa using h1),if_neg (by simpa using h2),if_pos ⟨QtJ h3 h4,h3⟩]
theorem Qqe {s:Qbu} (h:QcY s=0) {m:List Int} (hl:m.length=64) (hw: ∀w∈m,WW w):QcY (setM s m)=0:=by
 obtain ⟨h1,h2,h3,h4⟩:=QeU h;exact Qkm h1 h2 hl hw
theorem QoG {s:Qbu} (h:QcY s=0) (y:QH):QcY (Qwk s y)=0:=by
 obtain ⟨h1,h2,h3,h4⟩:=QeU h;exact Qkm h1 h2 h4 (QkJ h3)
def Qfq (m:List Int) (g:Int):List QI→List Int→List Int
 | [],q=>q
 | l::r,q=>Qfq m g r (if l.2.1=g then QiK q l.2.2.2.2.1.toNat (pg m l.2.2.1) else q)
theorem Qoz {s ws:List Int} {k:Nat} (h1: ∀w∈s,WW w) (h2: ∀w∈ws,WW w): ∀w∈QiK s k ws,WW w:=by
 intro w hw;unfold QiK at hw;rcases List.mem_append.1 hw with hw | hw
 ·exact h1 w (List.mem_of_mem_take hw)
 ·rcases List.mem_append.1 hw with hw | hw
  ·exact h2 w hw
  ·exact h1 w (List.mem_of_mem_drop hw)
theorem QuD {m:List Int} {p:Int} (h: ∀w∈m,WW w): ∀w∈pg m p,WW w:=fun w hw=>h w (List.mem_of_mem_drop (List.mem_of_mem_take hw))
theorem QqW {x:Qw} (h:HK x) {l:QI} (hl:l∈x.1.2.1):(0≤l.2.2.1∧8*l.2.2.1+8≤(x.2.1.length:Int))∧(0≤l.2.2.2.2.1∧l.2.2.2.2.1< 8)∧(pg x.2.1 l.2.2.1).length=8∧ ∀w∈pg x.2.1 l.2.2.1,WW w:=by
 have hm:=h.mem.2;obtain ⟨_,h2,h3,h4⟩:=QcA h.ok l hl;have e:0≤l.2.2.1∧8*l.2.2.1+8≤(x.2.1.length:Int):=by omega
 exact ⟨e,by omega,QvK e,QuD (QkJ h.mem.1)⟩
theorem Qjt {x:Qw} (h:HK x) {g:Int}: ∀{r:List QI} {q:List Int},(∀l∈r,l∈x.1.2.1)→q.length=64→(∀w∈q,WW w)→(Qfq x.2.1 g r q).length=64∧ ∀w∈Qfq x.2.1 g r q,WW w
 | [],q,_,h1,h2=>⟨h1,h2⟩
 | l::r,q,hr,h1,h2=>by
  obtain ⟨_,l2,l3,l4⟩:=QqW h (hr l (by simp))
  rw [Qfq];split
  ·exact Qjt h (fun y hy=>hr y (List.mem_cons_of_mem _ hy)) (Qil h1 (by omega) l3) (Qoz h2 l4)
  ·exact Qjt h (fun y hy=>hr y (List.mem_cons_of_mem _ hy)) h1 h2
def fedS (x:Qw) (s:Qbu) (g:Int):Qbu:=setM s (Qfq x.2.1 g x.1.2.1 s.2.2.1)
def QiN (x:Qw) (s:Qbu) (g:Int):Qbu:=Qwk (fedS x s g) (x.2.2.1.getD g.toNat QU)
def QhI (x:Qw) (s:Qbu) (g:Int):Mc:=Qak (Mc.of (QiN x s g).1 (QiN x s g).2.2.1) (QiN x s g).2.1
def Qwn (x:Qw) (s:Qbu) (g:Int):Qbu:=((QhI x s g).hart,s.2.1,(QhI x s g).m,())
theorem Qvm {x:Qw} {s:Qbu} (g:Int) (hx:HK x) (hs:QcY s=0):QcY (fedS x s g)=0:=by
 obtain ⟨h1,h2,h3,h4⟩:=QeU hs;obtain ⟨f1,f2⟩:=Qjt hx (g:=g) (r:=x.1.2.1) (q:=s.2.2.1) (fun _ h=>h) h4 (QkJ h3)
 exact Qqe hs f1 f2
theorem QuJ {x:Qw} {s:Qbu} (g:Int) (hx:HK x) (hs:QcY s=0):QcY (QiN x s g)=0:=QoG (Qvm g hx hs) _
theorem QuL {x:Qw} {s:Qbu} (g:Int) (hx:HK x) (hs:QcY s=0):QcY (Qwn x s g)=0:=by
 have hr:=QuJ g hx hs;have ho:OkS (QhI x s g) (QiN x s g).2.1:=Qkt (Qur hr);have hl:=ho.l;obtain ⟨h1,h2,h3,h4⟩:=QeU hr;exact Qkm ho.hartM h2 (by show (QhI x s g).m.length=64; unfold QhI; rw [Qks]; exact h4) hl.words
def Qwo (p:PolD) (s:Qbu) (g:Int):Qhg:=(QkE 0 s.1 (s.2.2.1.take (8*(p.1.getD g.toNat []).length)) (Qai s.2.2.1 (Qar g false p.2.1))).2
abbrev pgAt (l:List TwoD) (k:Nat):TwoD:=l.getD k (-1,0,())
theorem Qei {α:Type} {l:List α} {k:Nat} {d:α}:l.getD k d=(l[k]?).getD d:=List.getD_eq_getElem?_getD
theorem Qre {m:List Int} {a:Int} {o:Nat} (ho:o< 8):(pg m a).getD o 0=m.getD (8*a.toNat+o) 0:=by
 unfold pg;rw [Qei,Qei,List.getElem?_take,if_pos ho,List.getElem?_drop]
theorem QuC {m:List Int} {a b:Int} {o:Nat} {w:Int} (ho:o< 8) (ha:0≤a) (hb:0≤b):pg (m.set (8*a.toNat+o) w) b=if a=b then (pg m b).set o w else pg m b:=by
 unfold pg;by_cases h:a=b
 ·subst h;rw [if_pos rfl];apply List.ext_getElem?;intro i;by_cases hi:i< 8
  ·simp only [List.getElem?_take,if_pos hi,List.getElem?_drop,List.getElem?_set,List.length_take,List.length_drop];by_cases e:o=i
   ·subst e;simp only [if_true];by_cases hl:8*a.toNat+o< m.length
    ·rw [if_pos hl,if_pos (by omega)]
    ·rw [if_neg hl,if_neg (by omega)]
   ·rw [if_neg (by omega),if_neg e]
  ·rw [List.getElem?_eq_none (by simp; omega),List.getElem?_eq_none (by simp; omega)]
 ·rw [if_neg h];apply List.ext_getElem?;intro i;by_cases hi:i< 8
  ·simp only [List.getElem?_take,if_pos hi,List.getElem?_drop,List.getElem?_set];rw [if_neg (by omega)]
  ·rw [List.getElem?_eq_none (by simp; omega),List.getElem?_eq_none (by simp; omega)]
structure Sim (l l':List TwoD) (m m':List Int):Prop where
 len:l.length=8∧l'.length=8
 kind: ∀k,k< 8→(pgAt l' k).2=(pgAt l k).2
 neg: ∀k,k< 8→(0≤(pgAt l k).1↔0≤(pgAt l' k).1)
 top: ∀k,k< 8→(pgAt l k).1≤23∧(pgAt l' k).1≤23
 inj: ∀i j,i< 8→j< 8→0≤(pgAt l i).1→(pgAt l i).1=(pgAt l j).1→i=j
 inj': ∀i j,i< 8→j< 8→0≤(pgAt l' i).1→(pgAt l' i).1=(pgAt l' j).1→i=j
 same: ∀k,k< 8→0≤(pgAt l k).1→pg m (pgAt l k).1=pg m' (pgAt l' k).1
section
variable {l l':List TwoD} {m m' cs:List Int}
def Spot (l l':List TwoD) (kind:Int) (x y:Int):Prop:= ∃k o:Nat,k< 8∧o< 8∧0≤(pgAt l k).1∧mayP (pgAt l k) kind=true∧x=(pgAt l k).1*8+(o:Int)∧y=(pgAt l' k).1*8+(o:Int)
theorem Sim.walk (h:Sim l l' m m') (at_ kind:Int):(Qaf l at_ kind= -1∧Qaf l' at_ kind= -1)∨
  ∃k o:Nat,k< 8∧o< 8∧at_=8*(k:Int)+(o:Int)∧0≤(pgAt l k).1∧mayP (pgAt l k) kind=true∧Qaf l at_ kind=(pgAt l k).1*8+(o:Int)∧Qaf l' at_ kind=(pgAt l' k).1*8+(o:Int):=by
 unfold Qaf;by_cases ha:0≤at_∧at_≤63
 ·rw [if_pos ha,if_pos ha];have hk:(at_ / 8).toNat< 8:=by omega
  have e:mayP (l'.getD (at_ / 8).toNat (-1,0,())) kind=mayP (l.getD (at_ / 8).toNat (-1,0,())) kind:=by
   unfold mayP;rw [show (l'.getD (at_ / 8).toNat (-1,0,())).2.1=(l.getD (at_ / 8).toNat (-1,0,())).2.1 from congrArg (·.1) (h.kind _ hk),decide_eq_decide.2 (h.neg _ hk)]
  rw [e];by_cases hm:mayP (l.getD (at_ / 8).toNat (-1,0,())) kind=true
  ·rw [if_pos hm,if_pos hm];refine .inr ⟨(at_ / 8).toNat,(at_ % 8).toNat,hk,by omega,by omega,?_,hm,by dsimp only [pgAt]; omega,by dsimp only [pgAt]; omega⟩
   simp only [mayP,Bool.and_eq_true,decide_eq_true_eq] at hm;exact hm.1
  ·rw [if_neg hm,if_neg hm]; exact .inl ⟨rfl,rfl⟩
 ·rw [if_neg ha,if_neg ha]; exact .inl ⟨rfl,rfl⟩
theorem Sim.space (h:Sim l l' m m') (cs:List Int):QbW cs l m=QbW cs l' m':=by
 unfold QbW;by_cases h0:cs.getD 10 0=0
 ·rw [if_pos h0,if_pos h0]
 by_cases h8:cs.getD 10 0=8
 ·rw [if_neg h0,if_neg h0,if_pos h8,if_pos h8]
 rw [if_neg h0,if_neg h0,if_neg h8,if_neg h8];rcases h.walk ((cs.getD 10 0-1)*8) 1 with ⟨e1,e2⟩ | ⟨k,o,hk,ho,ha,hp,_,e1,e2⟩
 ·rw [e1,e2]; rfl
 ·have hp':=(h.neg k hk).1 hp;have o0:o=0:=by omega
  subst o0;rw [if_neg (by omega),if_neg (by omega),e1,e2]
  have:=h.same k hk hp;unfold pg at this;rw [show ((pgAt l k).1*8+((0:Nat):Int)).toNat=8*(pgAt l k).1.toNat by omega,show ((pgAt l' k).1*8+((0:Nat):Int)).toNat=8*(pgAt l' k).1.toNat by omega,this]
theorem Sim.place (h:Sim l l' m m') (cs:List Int) (at_ kind:Int):
  (Qx cs l m at_ kind=Qx cs l' m' at_ kind∧((Qx cs l m at_ kind).2=0→1000≤(Qx cs l m at_ kind).1∧kind≠4))∨
  ((Qx cs l m at_ kind).2=0∧(Qx cs l' m' at_ kind).2=0∧Spot l l' kind (Qx cs l m at_ kind).1 (Qx cs l' m' at_ kind).1):=by
 unfold Qx;rw [←h.space cs];cases QbW cs l m with
 | none=>exact .inl ⟨rfl,fun h=>by simp at h⟩
 | some s=>
  dsimp only;by_cases c1:Qaf s at_ kind< 0
  ·rw [if_pos c1,if_pos c1]; exact .inl ⟨rfl,fun h=>absurd h (Qds kind)⟩
  rw [if_neg c1,if_neg c1];by_cases c2:Qaf s at_ kind / 8=7
  ·rw [if_pos c2,if_pos c2];refine .inl ⟨rfl,fun hz=>?_⟩
   by_cases c3:kind=4
   ·rw [if_pos c3] at hz; simp at hz
   ·rw [if_neg c3]; dsimp only; omega
  rw [if_neg c2,if_neg c2];rcases h.walk (Qaf s at_ kind) kind with ⟨e1,e2⟩ | ⟨k,o,hk,ho,ha,hp,hm,e1,e2⟩
  ·rw [e1,e2]; exact .inl ⟨rfl,fun h=>absurd h (Qds kind)⟩
  ·have hp':=(h.neg k hk).1 hp;rw [e1,e2,if_neg (by omega),if_neg (by omega)]
   exact .inr ⟨rfl,rfl,k,o,hk,ho,hp,hm,rfl,rfl⟩
theorem Sim.spot {kind x y:Int} (h:Sim l l' m m') (hs:Spot l l' kind x y):(0≤x∧x< 1000)∧(0≤y∧y< 1000)∧m.getD x.toNat 0=m'.getD y.toNat 0∧ ∀w,Sim l l' (m.set x.toNat w) (m'.set y.toNat w):=by
 obtain ⟨k,o,hk,ho,hp,_,rfl,rfl⟩:=hs;have hp':=(h.neg k hk).1 hp;have ht:=h.top k hk;have ex:((pgAt l k).1*8+(o:Int)).toNat=8*(pgAt l k).1.toNat+o:=by omega
 have ey:((pgAt l' k).1*8+(o:Int)).toNat=8*(pgAt l' k).1.toNat+o:=by omega
 rw [ex,ey];refine ⟨by omega,by omega,?_,fun w=>?_⟩
 ·rw [←Qre ho, ←Qre ho,h.same k hk hp]
 ·refine { h with same:=fun j hj hq=>?_ }
  have hq':=(h.neg j hj).1 hq;rw [QuC ho hp hq,QuC ho hp' hq',h.same j hj hq];by_cases e:k=j
  ·subst e; rw [if_pos rfl,if_pos rfl]
  ·rw [if_neg fun c=>e (h.inj k j hk hj hp c),if_neg fun c=>e (h.inj' k j hk hj hp' c)]
def Like (l l':List TwoD) (s t:Mc):Prop:=t={ s with m:=t.m }∧Sim l l' s.m t.m
def QeY (l l':List TwoD) (x y:Bool×Int×Int×Mc):Prop:=x.1=y.1∧x.2.1=y.2.1∧x.2.2.1=y.2.2.1∧Like l l' x.2.2.2 y.2.2.2
theorem Qhv {b:Bool} {n r:Int} {s t:Mc} (h:Like l l' s t):QeY l l' (b,n,r,s) (b,n,r,t):=⟨rfl,rfl,rfl,h⟩
theorem QaB {α:Type} {R:α→α→Prop} {c:Prop} [Decidable c] {a b x y:α} (h1:c→R a x) (h2: ¬c→R b y):R (if c then a else b) (if c then x else y):=by
 by_cases h:c
 ·rw [if_pos h,if_pos h]; exact h1 h
 ·rw [if_neg h,if_neg h]; exact h2 h
theorem QtG {s:Mc} (h:Sim l l' s.m m') (op d a i:Int):QeY l l' (exM s l op d a i) (exM { s with m:=m' } l' op d a i):=by
 unfold exM;dsimp only;have t: ∀{c v:Int},QeY l l' (false,0,0,s.trap c v) (false,0,0,Mc.trap { s with m:=m' } c v):=Qhv ⟨rfl,h⟩
 refine QaB (R:=QeY l l') (fun _=>Qhv ⟨rfl,h⟩) fun _=>QaB (R:=QeY l l') (fun _=>Qhv ⟨rfl,h⟩) fun _=>QaB (R:=QeY l l') (fun _=>?_) fun _=>QaB (R:=QeY l l') (fun _=>?_) fun _=>?_
 ·rcases h.place s.cs (addW (s.r.getD a.toNat 0) (off i)) 1 with ⟨e,hd⟩ | ⟨e1,e2,hs⟩
  ·rw [←e];exact QaB (R:=QeY l l') (fun _=>t) fun c=>QaB (R:=QeY l l') (fun _=>Qhv ⟨rfl,h⟩) fun c2=>absurd (hd (by simpa using c)).1 c2
  ·obtain ⟨hx,hy,e3,_⟩:=h.spot hs;rw [if_neg (c:=(Qx s.cs l s.m (addW (s.r.getD a.toNat 0) (off i)) 1).2≠0) (by rw [e1]; simp),if_neg (c:=(Qx s.cs l' m' (addW (s.r.getD a.toNat 0) (off i)) 1).2≠0) (by rw [e2]; simp),if_neg (c:=1000≤(Qx s.cs l s.m (addW (s.r.getD a.toNat 0) (off i)) 1).1) (by omega),if_neg (c:=1000≤(Qx s.cs l' m' (addW (s.r.getD a.toNat 0) (off i)) 1).1) (by omega),e3]
   exact Qhv ⟨rfl,h⟩
 ·rcases h.place s.cs (addW (s.r.getD a.toNat 0) (off i)) 2 with ⟨e,hd⟩ | ⟨e1,e2,hs⟩
  ·rw [←e];exact QaB (R:=QeY l l') (fun _=>t) fun c=>QaB (R:=QeY l l') (fun _=>Qhv ⟨rfl,h⟩) fun c2=>absurd (hd (by simpa using c)).1 c2
  ·generalize Qx s.cs l s.m (addW (s.r.getD a.toNat 0) (off i)) 2=P at e1 hs⊢;generalize Qx s.cs l' m' (addW (s.r.getD a.toNat 0) (off i)) 2=Q at e2 hs⊢;obtain ⟨hx,hy,_,e3⟩:=h.spot hs;rw [if_neg (c:=P.2≠0) (by rw [e1]; simp),if_neg (c:=Q.2≠0) (by rw [e2]; simp),if_neg (c:=1000≤P.1) (by omega),if_neg (c:=1000≤Q.1) (by omega)]
   exact Qhv ⟨rfl,e3 _⟩
 repeat' (refine QaB (R:=QeY l l') (fun _=>Qhv ⟨rfl,h⟩) fun _=>?_)
 exact Qhv ⟨rfl,h⟩
theorem QtE {s:Mc} (h:Sim l l' s.m m') (op d a i:Int):(doM s l op d a i).1=(doM { s with m:=m' } l' op d a i).1∧Like l l' (doM s l op d a i).2 (doM { s with m:=m' } l' op d a i).2:=by
 have hx:=QtG h op d a i;unfold doM;dsimp only;generalize exM s l op d a i=x at hx;generalize exM { s with m:=m' } l' op d a i=y at hx
 obtain ⟨x1,x2,x3,x4⟩:=x;obtain ⟨y1,y2,y3,y4⟩:=y;obtain ⟨e1,e2,e3,e4,e5⟩:=hx;dsimp only at e1 e2 e3 e4 e5⊢;subst e1 e2 e3;rw [e4];dsimp only;split
 ·exact ⟨rfl,rfl,e5⟩
 ·exact ⟨rfl,rfl,e5⟩
theorem QlY {s:Mc} (h:Sim l l' s.m m'):Like l l' (runM s l) (runM { s with m:=m' } l'):=by
 have t: ∀{c v:Int},Like l l' (s.trap c v) (Mc.trap { s with m:=m' } c v):=⟨rfl,h⟩
 unfold runM;dsimp only
 have k: ∀w:Int,Like l l' (if decF w=0 then (if (doM s l (decM w).1 (decM w).2.1 (decM w).2.2.1 (decM w).2.2.2.1).1=true then QfE (doM s l (decM w).1 (decM w).2.1 (decM w).2.2.1 (decM w).2.2.2.1).2 else (doM s l (decM w).1 (decM w).2.1 (decM w).2.2.1 (decM w).2.2.2.1).2) else s.trap 1 w)
   (if decF w=0 then (if (doM { s with m:=m' } l' (decM w).1 (decM w).2.1 (decM w).2.2.1 (decM w).2.2.2.1).1=true then QfE (doM { s with m:=m' } l' (decM w).1 (decM w).2.1 (decM w).2.2.1 (decM w).2.2.2.1).2 else (doM { s with m:=m' } l' (decM w).1 (decM w).2.1 (decM w).2.2.1 (decM w).2.2.2.1).2) else Mc.trap { s with m:=m' } 1 w):=fun w=>by
  refine QaB (R:=Like l l') (fun _=>?_) fun _=>t
  obtain ⟨e1,e2,e3⟩:=QtE h (decM w).1 (decM w).2.1 (decM w).2.2.1 (decM w).2.2.2.1;rw [←e1];refine QaB (R:=Like l l') (fun _=>⟨?_,e3⟩) fun _=>⟨e2,e3⟩
  unfold QfE;rw [e2]
 rcases h.place s.cs s.pc 4 with ⟨e,hd⟩ | ⟨e1,e2,hs⟩
 ·rw [←e];refine QaB (R:=Like l l') (fun _=>t) fun c=>?_
  have c:(Qx s.cs l s.m s.pc 4).2=0:=by simpa using c
  exact absurd rfl (hd c).2
 ·obtain ⟨hx,hy,e3,_⟩:=h.spot hs;rw [if_neg (c:=(Qx s.cs l s.m s.pc 4).2≠0) (by rw [e1]; simp),if_neg (c:=(Qx s.cs l' m' s.pc 4).2≠0) (by rw [e2]; simp), ←e3]
  exact k _
theorem Qkr {s:Mc} (h:Sim l l' s.m m'):Like l l' (Qak s l) (Qak { s with m:=m' } l'):=by
 unfold Qak;dsimp only;refine QaB (R:=Like l l') (fun _=>⟨rfl,h⟩) fun _=>QaB (R:=Like l l') (fun _=>⟨rfl,h⟩) fun _=>QaB (R:=Like l l') (fun _=>QaB (R:=Like l l') (fun _=>⟨rfl,h⟩) fun _=>?_) fun _=>?_
 ·exact QlY (s:={ s with ring:= -1,fall:= -1,wa:=false }) h
 ·exact QlY (s:={ s with ring:= -1,fall:= -1 }) h
end
theorem QcG {α:Type} {l:List α} {i j:Nat} {y d:α} (h:i≠j):(l.set i y).getD j d=l.getD j d:=by rw [Qei,Qei,List.getElem?_set_ne h]
theorem QdT {α:Type} {l:List α} {i:Nat} {y d:α} (h:i< l.length):(l.set i y).getD i d=y:=by rw [Qei,List.getElem?_set_self h]; rfl
theorem gget {α:Type} {l:List α} {i:Nat} {d:α} (h:i< l.length):l.getD i d=l[i]:=by rw [Qei,List.getElem?_eq_getElem h]; rfl
theorem Qjr: ∀{l seen:List Int},dupM seen l=false→l.Nodup∧ ∀x∈l,x∉seen
 | [],_,_=>⟨List.nodup_nil,by simp⟩
 | x::r,seen,h=>by
  simp only [dupM,Bool.or_eq_false_iff] at h;obtain ⟨h1,h2⟩:=Qjr h.2;have hx:x∉seen:=by simpa using h.1
  refine ⟨List.nodup_cons.2 ⟨fun hm=>h2 x hm (by simp),h1⟩,fun y hy=>?_⟩
  rcases List.mem_cons.1 hy with rfl | hy
  ·exact hx
  ·exact fun hm=>h2 y hy (List.mem_append_left _ hm)
theorem QlP {p:PolD} (hok:OkPol p):(∀l∈p.1,l.Nodup)∧p.1.Pairwise fun a b=> ∀x∈a, ∀y∈b,x≠y:=by
 have:=(Qjr hok.nodup).1;unfold List.Nodup at this;rw [List.pairwise_flatten] at this;exact this
abbrev ownL (p:PolD) (g:Int):List Int:=p.1.getD g.toNat []
end Go.Proofs.YtkkljegcnnfanaaGreatDoor
