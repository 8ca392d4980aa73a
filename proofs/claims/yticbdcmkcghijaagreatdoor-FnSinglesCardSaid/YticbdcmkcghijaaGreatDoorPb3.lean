/- Plain laws: what the functions compute, and that both programs compute the same. -/
import Derived.Test.YticbdcmkcghijaaGreatDoorPb2
namespace Go.Proofs.YticbdcmkcghijaaGreatDoor
open Go Go.RowKit S Go.Proofs
set_option maxRecDepth 100000
section
variable {l:List TwoD} {s:Mc}
theorem Qqr (h:OkS s l):OkS (runM s l) l:=by
 unfold runM
 have hin:=QbQ h.c h.l s.pc 4
 refine Qi (fun x=>OkS x l) (fun _=>QfO h (by unfold WW; omega) h.pc) fun hq0=>?_
 have hlt:0≤(Qv s.cs l s.m s.pc 4).1∧(Qv s.cs l s.m s.pc 4).1< (s.m.length:Int):=by
  rcases hin (by simpa using hq0) with h | h
  ·exact absurd rfl h.2.2
  ·exact h
 have hw:WW (s.m.getD (Qv s.cs l s.m s.pc 4).1.toNat 0):=h.l.words _ (QaC (by omega))
 refine Qi (fun x=>OkS x l) (fun hd=>?_) fun _=>QfO h (by unfold WW; omega) hw
 exact Qi (fun x=>OkS x l) (fun _=>Qth (QsG h (Qit hd))) fun _=>QsG h (Qit hd)
theorem QjJ (h:OkS s l):OkS (Qag s l) l:=by
 have h0:OkS { s with ring:= -1,fall:= -1 } l:=⟨h.r,h.pc,h.c,h.i,h.o,h.d,h.l⟩
 have h1:OkS { s with ring:= -1,fall:= -1,wa:=false } l:=⟨h.r,h.pc,h.c,h.i,h.o,h.d,h.l⟩
 have hle:=QlV s.cs s.ru s.dn s.iq
 unfold Qag
 refine Qi (fun x=>OkS x l) (fun _=>h0) fun _=>Qi (fun x=>OkS x l) (fun hk=>QfO h0 ?_ (by unfold WW; omega)) fun _=>Qi (fun x=>OkS x l) (fun _=>Qi (fun x=>OkS x l) (fun _=>h0) fun _=>Qqr h1) fun _=>Qqr h0
 unfold WW
 dsimp only at*
 omega
end
theorem Qjz {α β:Type} {f:Nat→α→Option β}: ∀{m:List α} {i:Nat},scan f i m=none→ ∀x∈m, ∃j,f j x=none
 | [],_,_,_,hx=>by cases hx
 | y::r,i,h,x,hx=>by
  simp only [scan] at h
  split at h
  ·cases h
  ·rename_i hn
   rcases List.mem_cons.1 hx with rfl | hx
   ·exact ⟨_,hn⟩
   ·exact Qjz h x hx
theorem Qpb {l:List TwoD} {top:Int} (ht:1≤top∧top≤24) (h:QhD l top=0):l.length=8∧ ∀p∈l,(-1≤p.1∧p.1≤top-1)∧(0≤p.2.1∧p.2.1≤7):=by
 unfold QhD at h
 rw [if_pos (by unfold inB; simp [ht.1,ht.2])] at h
 split at h
 ·rename_i hl
  refine ⟨hl,fun p hp=>?_⟩
  have key:scan (fun (_:Nat) p=>QnG top p) 0 l=none:=by
   split at h
   ·rename_i c hc
    exfalso
    have: ∀{l:List TwoD} {i:Nat} {c:Int},scan (fun (_:Nat) p=>QnG top p) i l=some c→c≠0:=by
     intro l
     induction l with
     | nil=>intro i c h; simp [scan] at h
     | cons y r ih=>
      intro i c h
      simp only [scan] at h
      split at h
      ·rename_i c' hc'
       obtain rfl:=Osj h
       unfold QnG nz at hc'
       intro e
       subst e
       repeat' split at hc'
       all_goals first | (cases hc'; done) | simp_all
      ·exact ih h
    exact this hc h
   ·rename_i hn; exact hn
  obtain ⟨j,hj⟩:=Qjz key p hp
  unfold QnG inB at hj
  split at hj
  ·rename_i h1
   split at hj
   ·rename_i h2
    simp only [Bool.and_eq_true,decide_eq_true_eq] at h1 h2
    omega
   ·cases hj
  ·cases hj
 ·omega
def Mc.of (h:QO) (m:List Int):Mc:=⟨h.1,h.2.1,h.2.2.1,h.2.2.2.1,h.2.2.2.2.1,h.2.2.2.2.2.1,h.2.2.2.2.2.2.1,h.2.2.2.2.2.2.2.1,h.2.2.2.2.2.2.2.2.1,m, -1, -1⟩
theorem QuZ {h:QO} {l:List TwoD} {m:List Int} (h1:hartM h=0) (hL:OkL l m):OkS (Mc.of h m) l:=by
 unfold hartM at h1
 split at h1
 ·rename_i c1
  split at h1
  ·rename_i c2
   split at h1
   ·rename_i c3
    split at h1
    ·rename_i c4
     split at h1
     ·rename_i c5
      simp only [inB,Bool.and_eq_true,decide_eq_true_eq] at c4
      exact ⟨⟨c1.1,Qao.1 c2.1,c1.2.2⟩,QfF.1 c2.2.1,⟨c1.2.1,Qao.1 c2.2.2.1,c5.1,c5.2.1,c5.2.2.1,c5.2.2.2.1,c5.2.2.2.2⟩,⟨c3.1,Qao.1 c2.2.2.2.1⟩,⟨c3.2,Qao.1 c2.2.2.2.2⟩,c4,hL⟩
     ·omega
    ·omega
   ·omega
  ·omega
 ·omega
theorem Qpt (h:QO) (hh:Qcc 1048576 h):F_al (h,())=some ((h,()),()):=by
 obtain ⟨h1,h2,h3,h4⟩:=hh
 unfold F_al
 dsimp only
 rw [if_pos (by simp; omega),if_pos (by simp; omega),if_pos (by simp; omega),if_pos (by simp; omega)]
 rfl
theorem Qro (h:QO) (hh:Qcc 1048576 h):F_dn (h,())=some ((h,()),()):=by
 obtain ⟨h1,h2,h3,h4⟩:=hh
 unfold F_dn
 dsimp only
 rw [QcR h1,Obn,QcR h2,Obn,QcR h3,Obn,QcR h4,Obn]
theorem QrZ (h:QO) (l:List TwoD) (m:List Int) (hh:Qcc 1048576 h) (hm:m.length≤1048576):F_am (h,l,m,())=some (((Mc.of h m).bus l,()),()):=by
 unfold F_am F_ak
 dsimp only
 rw [if_pos (by simp; omega),Obn,Qpt h hh,Obn]
 rfl
def Qcn (l:List TwoD):Nat→Int→Int→Mc→Int×Int×Mc
 | 0,c,g,s=>(c,g,s)
 | k+1,c,g,s=>Qcn l k (if 0≤(Qag s l).fall then (Qag s l).fall else c) (if 0≤(Qag s l).ring then (Qag s l).ring else g) (Qag s l)
abbrev QuT:=Int×Int×Int×List Int×Int×List Int×Bool×Bool×Bool×Int×List Int×List Int×List Int×Unit
def Qot (c:Int):QuT:=(c,0,0,[],0,[],false,false,false,0,[],[],[],())
def Mc.res (s:Mc) (c g:Int):QuT:=(0,c,g,s.r,s.pc,s.cs,s.ha,s.wa,s.ru,s.dn,s.iq,s.oq,s.m,())
theorem Qka (l:List TwoD) (n:Int) (h0:0≤n∧n≤500) (s0:Mc) (h:OkS s0 l): ∀(i:Nat) (x:Int×Int×Mc),i≤n.toNat→OkS x.2.2 l→
  Qd l_fe_4 lots (((),(),x.1,x.2.1,n,((i:Nat):Int),()),(Qot 0,x.2.2.core l,()),())=
   some (.inl (((),(),(Qcn l (n.toNat-i) x.1 x.2.1 x.2.2).1,(Qcn l (n.toNat-i) x.1 x.2.1 x.2.2).2.1,()),(Qot 0,(Qcn l (n.toNat-i) x.1 x.2.1 x.2.2).2.2.core l,()),())):=by
 have key:=Qff (step:=l_fe_4) (γ:=denO o_fe_4) (fun i (x:Int×Int×Mc)=>(((),(),x.1,x.2.1,n,((i:Nat):Int),()),(Qot 0,x.2.2.core l,()),())) n.toNat (QaO (by omega)) (fun _ x=>OkS x.2.2 l)
  (fun i x=>some (.inl (((),(),(Qcn l (n.toNat-i) x.1 x.2.1 x.2.2).1,(Qcn l (n.toNat-i) x.1 x.2.1 x.2.2).2.1,()),(Qot 0,(Qcn l (n.toNat-i) x.1 x.2.1 x.2.2).2.2.core l,()),()))) ?_
 ·exact key
 ·rintro rec i ⟨c,g,s⟩ hi hok ih
  unfold l_fe_4
  dsimp only at*
  by_cases hlt:i< n.toNat
  ·rw [if_pos (QB.2 (by omega)),QoM hok,Obn]
   have e1:n.toNat-i=n.toNat-(i+1)+1:=by omega
   have ih2:=ih (if 0≤(Qag s l).fall then (Qag s l).fall else c,if 0≤(Qag s l).ring then (Qag s l).ring else g,Qag s l) hlt (QjJ hok)
   dsimp only
   rw [QY (by omega),e1]
   simp only [Qcn]
   rw [←ih2]
   unfold Mc.core
   dsimp only
   by_cases hf:0≤(Qag s l).fall
   ·rw [if_pos (Qbb.2 hf),if_pos hf]
    by_cases hg:0≤(Qag s l).ring
    ·rw [if_pos (Qbb.2 hg),if_pos hg]
    ·rw [if_neg (by rw [Qbb]; exact hg),if_neg hg]
   ·rw [if_neg (by rw [Qbb]; exact hf),if_neg hf]
    by_cases hg:0≤(Qag s l).ring
    ·rw [if_pos (Qbb.2 hg),if_pos hg]
    ·rw [if_neg (by rw [Qbb]; exact hg),if_neg hg]
  ·have:i=n.toNat:=by omega
   subst this
   rw [if_neg (by rw [QB]; omega),Nat.sub_self]
   rfl
theorem QoS (l:List TwoD) (a b:Int) (s:Mc): ∀(k:Nat) (c g:Int),(Qcn l k c g { s with ring:=a,fall:=b }).1=(Qcn l k c g s).1∧(Qcn l k c g { s with ring:=a,fall:=b }).2.1=(Qcn l k c g s).2.1∧
  ∀x y,(Qcn l k c g { s with ring:=a,fall:=b }).2.2.res x y=(Qcn l k c g s).2.2.res x y
 | 0,_,_=>⟨rfl,rfl,fun _ _=>rfl⟩
 | k+1,_,_=>⟨rfl,rfl,fun _ _=>rfl⟩
theorem Qke (h:QO) (l:List TwoD) (m:List Int) (n:Int) (hh:Qcc 1048576 h) (hm:m.length≤1048576) (ho:OkS (Mc.of h m) l) (hn:0≤n∧n≤500):F_fe (h,l,m,n,())=
  some (((Qcn l n.toNat (-1) (-1) (Mc.of h m)).2.2.res (Qcn l n.toNat (-1) (-1) (Mc.of h m)).1 (Qcn l n.toNat (-1) (-1) (Mc.of h m)).2.1,()),()):=by
 have ho2:OkS { Mc.of h m with ring:=0,fall:=0 } l:=⟨ho.r,ho.pc,ho.c,ho.i,ho.o,ho.d,ho.l⟩
 have key:=Qka l n hn _ ho2 0 (-1, -1,{ Mc.of h m with ring:=0,fall:=0 }) (by omega) ho2
 obtain ⟨q1,q2,q3⟩:=QoS l 0 0 (Mc.of h m) n.toNat (-1) (-1)
 unfold F_fe
 dsimp only
 rw [Qro h hh,Obn,QcR hm,Obn]
 show (Qd l_fe_4 lots (((),(),(-1),(-1),n,(((0:Nat):Nat):Int),()),(Qot 0,Mc.core { Mc.of h m with ring:=0,fall:=0 } l,()),())).bind _=_
 rw [key, ←q1, ←q2, ←q3]
 rfl
section
variable {l:List TwoD} {s:Mc}
def FR (s:Mc):Prop:=(s.fall= -1∨0≤s.fall)∧(s.ring= -1∨0≤s.ring)
theorem FR.trap (h:FR s) {cause tval:Int} (hc:0≤cause):FR (s.trap cause tval):=⟨.inr hc,h.2⟩
theorem QtE (k w:Int):Qih k w= -1∨0≤Qih k w:=by
 unfold Qih; split
 ·exact .inr (Qae w).1
 ·exact .inl rfl
theorem Qvn (h:FR s) (op d a i:Int):FR (exM s l op d a i).2.2.2:=by
 unfold exM
 let P:Bool×Int×Int×Mc→Prop:=fun x=>FR x.2.2.2
 refine Qi P (fun _=>h) fun _=>Qi P (fun _=>h) fun _=>Qi P (fun _=>Qi P (fun _=>h.trap (by omega)) fun _=>Qi P (fun _=>h) fun _=>h) fun _=>
  Qi P (fun _=>Qi P (fun _=>h.trap (by omega)) fun _=>Qi P (fun _=>⟨h.1,QtE _ _⟩) fun _=>h) fun _=>Qi P (fun _=>h) fun _=>Qi P (fun _=>h) fun _=>Qi P (fun _=>h) fun _=>
  Qi P (fun _=>h) fun _=>Qi P (fun _=>h) fun _=>Qi P (fun _=>h.trap (by omega)) fun _=>Qi P (fun _=>h) fun _=>Qi P (fun _=>h) fun _=>Qi P (fun _=>h) fun _=>h
theorem QsE (h:FR s) (op d a i:Int):FR (doM s l op d a i).2:=by
 have he:=Qvn (l:=l) h op d a i
 unfold doM
 dsimp only
 exact Qi (fun x:Bool×Mc=>FR x.2) (fun _=>he) fun _=>he
theorem Qqq (h:FR s):FR (runM s l):=by
 unfold runM
 refine Qi FR (fun _=>h.trap (by omega)) fun _=>Qi FR (fun _=>?_) fun _=>h.trap (by omega)
 exact Qi FR (fun _=>QsE (l:=l) h _ _ _ _) fun _=>QsE h _ _ _ _
theorem Qoe (s:Mc) (l:List TwoD):FR (Qag s l):=by
 have h0:FR { s with ring:= -1,fall:= -1 }:=⟨.inl rfl,.inl rfl⟩
 have h1:FR { s with ring:= -1,fall:= -1,wa:=false }:=⟨.inl rfl,.inl rfl⟩
 unfold Qag
 refine Qi FR (fun _=>h0) fun _=>Qi FR (fun hk=>h0.trap (Int.add_nonneg (by decide) hk)) fun _=>Qi FR (fun _=>Qi FR (fun _=>h0) fun _=>Qqq h1) fun _=>Qqq h0
end
theorem Qtn {x:QbA} (h:QcN x=0):OkS (Mc.of x.1 x.2.2.1) x.2.1:=by
 obtain ⟨h1,h2,h3,h4⟩:=QfM h
 obtain ⟨hl,hp⟩:=Qpb (by decide) h2
 refine QuZ h1 ⟨hl,fun p hpm=>?_,?_,by omega⟩
 ·have:=hp p hpm
  refine ⟨by omega,this.2,?_⟩
  rw [h4]; omega
 ·have hm:=QfW h3
  unfold QJ at h3
  rw [if_pos hm] at h3
  split at h3
  ·exact Qao.1 ‹_›
  ·omega
abbrev SrcD:=List Int×Int×Unit
def Sr (s:SrcD) (k:Int):Prop:=Byt s.1∧0≤s.2.1∧s.2.1≤k
theorem Sr.le {s:SrcD} {k k':Int} (h:Sr s k) (hk:k≤k'):Sr s k':=⟨h.1,h.2.1,Int.le_trans h.2.2 hk⟩
theorem Sr.pos {s:SrcD} {k:Int} (h:Sr s k):0≤k:=Int.le_trans h.2.1 h.2.2
def Dr {X:Type} (o:Option X) (P:X→Prop):Prop:= ∃v,o=some v∧P v
theorem Dr.bind {X Y:Type} {o:Option X} {f:X→Option Y} {Q:X→Prop} {P:Y→Prop} (h:Dr o Q) (g: ∀v,Q v→Dr (f v) P):Dr (o.bind f) P:=by
 obtain ⟨v,rfl,hv⟩:=h
 exact g v hv
theorem Dr.ret {X:Type} {v:X} {P:X→Prop} (h:P v):Dr (some v) P:=⟨v,rfl,h⟩
theorem Dr.ite {X:Type} {c:Prop} [Decidable c] {a b:Option X} {P:X→Prop} (ha:c→Dr a P) (hb: ¬c→Dr b P):Dr (if c then a else b) P:=by
 split
 ·exact ha ‹_›
 ·exact hb ‹_›
theorem Dr.guard {X:Type} {c:Prop} [Decidable c] {a:Option X} {P:X→Prop} (hc:c) (ha:Dr a P):Dr (if c then a else none) P:=by rw [if_pos hc]; exact ha
theorem Dr.nguard {X:Type} {c:Prop} [Decidable c] {a:Option X} {P:X→Prop} (hc: ¬c) (ha:Dr a P):Dr (if c then none else a) P:=by rw [if_neg hc]; exact ha
theorem Dr.get {X Y:Type} {xs:List X} {i:Nat} {f:X→Option Y} {P:Y→Prop} (hi:i< xs.length) (h: ∀y,y∈xs→xs[i]?=some y→Dr (f y) P):Dr ((xs[i]?).bind f) P:=by
 rw [List.getElem?_eq_getElem hi,Obn]
 exact h _ (List.getElem_mem hi) (List.getElem?_eq_getElem hi)
theorem Dr.gat {X Y:Type} {xs:List X} {i:Int} {n:Nat} {f:X→Option Y} {P:Y→Prop} (hn:xs.length=n) (h:0≤i∧i< (n:Int)) (k: ∀y,y∈xs→Dr (f y) P):Dr (if 0≤i∧i< ((xs.length:Nat):Int) then (xs[i.toNat]?).bind f else none) P:=by
 subst hn
 exact Dr.guard h (Dr.get (by omega) fun y hy _=>k y hy)
theorem Dr.of {X:Type} {o:Option X} {v:X} {P:X→Prop} (h:o=some v) (hv:P v):Dr o P:=⟨v,h,hv⟩
theorem Qat {X Y:Type} {step:(X→Option Y)→X→Option Y} {Q:Y→Prop} (I:Nat→X→Prop) (h: ∀rec m x,I m x→(∀m' x',m'< m→I m' x'→Dr (rec x') Q)→Dr (step rec x) Q) (m:Nat) (x:X) (hI:I m x) (hm:m< lots):Dr (Qd step lots x) Q:=by
 have key: ∀n m x,m< n→I m x→Dr (Qd step n x) Q:=by
  intro n
  induction n with
  | zero=>intro m x h; omega
  | succ n ih=>intro m x hm hI; exact h _ m x hI fun m' x' hlt hI'=>ih m' x' (by omega) hI'
 exact key lots m x hm hI
def Bd (n x:Int):Prop:=0≤x∧(x< n∨x=0)
theorem Bd.to3 {x:Int} (h:Bd 3 x):x.toNat≤2∧0≤x∧x≤2:=by unfold Bd at h; omega
theorem Bd.e {n x:Int} (h:Bd n x):0≤x∧(x< n∨x=0):=h
def Bt (a b x:Int):Prop:=a≤x∧x≤b
theorem Bt.e {a b x:Int} (h:Bt a b x):a≤x∧x≤b:=h
theorem QV {s:SrcD} {k:Int} (h:Sr s k) (hk:k≤1099511627776) (n:Int):Dr (F_c (s,n,())) fun r=>Sr r.2.1 (k+1)∧Bd n r.1.1:=
 .of (Qqh (s,n,()) h.1 ⟨h.2.1,Int.le_trans h.2.2 hk⟩) ⟨⟨h.1,by have:=h.2.1; dsimp only; omega,by have:=h.2.2; dsimp only; omega⟩,Qvx (s,n,()) h.1 ⟨h.2.1,Int.le_trans h.2.2 hk⟩⟩
theorem QbK {s:SrcD} {k:Int} (h:Sr s k) (hk:k≤1099511627776) (x:Int) (l:List Int):Dr (F_d (s,x::l,())) fun r=>Sr r.2.1 (k+1)∧(r.1.1:Int)∈x::l:=
 .of (Qqn (s,x::l,()) rfl h.1 ⟨h.2.1,Int.le_trans h.2.2 hk⟩) ⟨⟨h.1,by have:=h.2.1; dsimp only; omega,by have:=h.2.2; dsimp only; omega⟩,QvE (s,x::l,()) rfl h.1 ⟨h.2.1,Int.le_trans h.2.2 hk⟩⟩
theorem Qdi {s:SrcD} {k:Int} (h:Sr s k) (hk:k≤1099511627776) (n:Int):Dr (F_s (s,n,())) fun r=>Sr r.2.1 (k+1):=
 .of (Qky (s,n,()) h.1 ⟨h.2.1,Int.le_trans h.2.2 hk⟩) ⟨h.1,by have:=h.2.1; dsimp only; omega,by have:=h.2.2; dsimp only; omega⟩
theorem Qmz {s:SrcD} {k:Int} (h:Sr s k) (hk:k≤1073741824):Dr (F_t (s,())) fun r=>Sr r.2.1 (k+5)∧Bt 0 4294967295 r.1.1:=
 .of (QqG (s,()) h.1 ⟨h.2.1,Int.le_trans h.2.2 hk⟩) ⟨⟨h.1,by have:=h.2.1; dsimp only; omega,by have:=h.2.2; dsimp only; omega⟩,QvJ (s,()) h.1 ⟨h.2.1,Int.le_trans h.2.2 hk⟩⟩
theorem Quk {s:SrcD} {k:Int} (h:Sr s k) (hk:k≤10000000) (n:Int) (h0:0≤n) (hn:n≤1000):Dr (F_u (s,n,())) fun r=>Sr r.2.1 (k+26*n)∧(r.1.1.length:Int)=n:=by
 obtain ⟨c,a,_⟩:=s
 obtain ⟨hc,h1,h2⟩:=h
 dsimp only at h1 h2
 obtain ⟨m,a',e,l1,l2,l3⟩:=QsQ hc n a ⟨h1,by omega⟩ hn
 rw [if_neg (by omega)] at l1 l3
 exact .of e ⟨⟨hc,by dsimp only; omega,by dsimp only; omega⟩,l1⟩
theorem QtI {c:List Int} (h:Byt c):Dr (F_b (c,())) fun r=>Sr r.1.1 0:= .of rfl ⟨h,Int.le_refl _,Int.le_refl _⟩
structure HL (h:QO):Prop where
 r:h.1.length=16
 c:h.2.2.1.length=11
 i:h.2.2.2.2.2.2.2.1.length≤2
 o:h.2.2.2.2.2.2.2.2.1.length≤40
theorem QvV {h:QO} (hh:HL h) {k:Int} (hk:0≤k∧k≤10) (w:Int):Dr (F_bc (h,k,w,())) fun r=>HL r.2.1:=by
 obtain ⟨h1,h2,h3,h4⟩:=hh
 have hin:0≤k∧k< ((h.2.2.1.length:Nat):Int):=by omega
 have hin': ∀x,0≤k∧k< (((h.2.2.1.set k.toNat x).length:Nat):Int):=fun x=>by rw [List.length_set]; exact hin
 have hlt:k.toNat< h.2.2.1.length:=by omega
 have hlt': ∀x,k.toNat< (h.2.2.1.set k.toNat x).length:=fun x=>by rw [List.length_set]; exact hlt
 have hl: ∀x y,((h.2.2.1.set k.toNat x).set k.toNat y).length=11:=fun x y=>by simp [h2]
 have hl': ∀x,(h.2.2.1.set k.toNat x).length=11:=fun x=>by simp [h2]
 unfold F_bc
 refine Dr.bind (Q:=fun _=>True) (.of (Qdw _) trivial) fun r1 _=>?_
 repeat' (first
  | exact Dr.ret ⟨h1,h2,h3,h4⟩
  | exact Dr.ret ⟨h1,hl' _,h3,h4⟩
  | exact Dr.ret ⟨h1,hl _ _,h3,h4⟩
  | refine Dr.guard hin ?_
  | refine Dr.guard (hin' _) ?_
  | refine Dr.get hlt fun _ _ _=>?_
  | refine Dr.get (hlt' _) fun _ _ _=>?_
  | refine Dr.ite (fun _=>?_) fun _=>?_)
theorem Qrx {l:List Int} (hl:l.length≤2) (hw:allW l=true):Dr (F_af (l,())) fun r=>HL r.1.1.2∧r.1.1.2.2.2.2.2.2.2.2.1=l:=by
 unfold F_af
 refine Dr.ite (fun c=>?_) fun c=>?_
 ·rw [QB] at c; dsimp only at c; omega
 refine Dr.bind (Q:=fun r=>r.1.1=allW l) (.of (QbC l (by omega)) rfl) fun r hr=>?_
 rw [if_neg (by rw [hr,hw]; simp)]
 refine Dr.guard (by simp; omega) (Dr.ret ⟨⟨by simp,by simp,by simpa using hl,by simp⟩,by simp⟩)
theorem Qrr {h:QO} {s:SrcD} {k:Int} (z:QO) (hh:HL h) (hs:Sr s k) (hk:k≤1000000000):Dr (L_bx_3 (((),((),((),((1:Int),())))),((z,(h,(s,()))),()))) fun o=> ∃x,o= .inl x∧HL x.2.1.2.1∧Sr x.2.1.2.2.1 (k+150):=by
 refine Qat (fun m u=>(m:Int)=16-(u.1.2.2.2.1:Int)∧1≤(u.1.2.2.2.1:Int)∧HL u.2.1.2.1∧Sr u.2.1.2.2.1 (k+10*((u.1.2.2.2.1:Int)-1))) ?_ 15 _ ⟨by dsimp only; omega,by dsimp only; omega,hh,hs.le (by dsimp only; omega)⟩ (by rw [QS]; omega)
 intro rec m u ⟨hm,h1,hh,hs⟩ ih
 unfold l_bx_3
 have hk0:=hs.pos
 refine Dr.ite (fun c=>?_) fun c=>?_
 ·rw [QB] at c
  have e:IntKind.i64.wrap ((u.1.2.2.2.1:Int)+1)=(u.1.2.2.2.1:Int)+1:=Qn (by omega) (by omega)
  refine (Qdi hs (by omega) _).bind fun r9 h9=>Dr.ite (fun _=>?_) fun _=>?_
  ·refine (Qmz h9 (by omega)).bind fun r10 h10=>(QV h10.1 (by omega) _).bind fun r11 h11=>(QV h11.1 (by omega) _).bind fun r12 h12=>(QbK h12.1 (by omega) _ _).bind fun r14 h14=>?_
   refine Dr.gat hh.r (by omega) fun _ _=>ih (m-1) _ (by omega) ?_
   rw [e]
   exact ⟨by dsimp only; omega,by dsimp only; omega,⟨by simpa using hh.r,hh.c,hh.i,hh.o⟩,h14.1.le (by dsimp only; omega)⟩
  ·refine ih (m-1) _ (by omega) ?_
   rw [e]
   exact ⟨by dsimp only; omega,by dsimp only; omega,hh,h9.le (by dsimp only; omega)⟩
 ·rw [QB] at c
  exact Dr.ret ⟨_,rfl,hh,hs.le (by omega)⟩
theorem QoQ {h:QO} {s:SrcD} {k:Int} (z:QO) (hh:HL h) (hs:Sr s k) (hk:k≤1000000000):Dr (L_bx_10 (((),((),((),((0:Int),())))),((z,(h,(s,()))),()))) fun o=> ∃x,o= .inl x∧HL x.2.1.2.1∧Sr x.2.1.2.2.1 (k+110):=by
 refine Qat (fun m u=>(m:Int)=11-(u.1.2.2.2.1:Int)∧0≤(u.1.2.2.2.1:Int)∧HL u.2.1.2.1∧Sr u.2.1.2.2.1 (k+10*(u.1.2.2.2.1:Int))) ?_ 11 _ ⟨by dsimp only; omega,by dsimp only; omega,hh,hs.le (by dsimp only; omega)⟩ (by rw [QS]; omega)
 intro rec m u ⟨hm,h1,hh,hs⟩ ih
 unfold l_bx_10
 have hk0:=hs.pos
 refine Dr.ite (fun c=>?_) fun c=>?_
 ·rw [QB] at c
  have e:IntKind.i64.wrap ((u.1.2.2.2.1:Int)+1)=(u.1.2.2.2.1:Int)+1:=Qn (by omega) (by omega)
  refine (Qdi hs (by omega) _).bind fun r9 h9=>Dr.ite (fun _=>?_) fun _=>?_
  ·refine (QV h9 (by omega) _).bind fun r11 h11=>(QV h11.1 (by omega) _).bind fun r12 h12=>(Qmz h12.1 (by omega)).bind fun r10 h10=>(QbK h10.1 (by omega) _ _).bind fun r14 h14=>?_
   refine (QvV hh ⟨h1,by omega⟩ _).bind fun r43 h43=>ih (m-1) _ (by omega) ?_
   rw [e]
   exact ⟨by dsimp only; omega,by dsimp only; omega,h43,h14.1.le (by dsimp only; omega)⟩
  ·refine ih (m-1) _ (by omega) ?_
   rw [e]
   exact ⟨by dsimp only; omega,by dsimp only; omega,hh,h9.le (by dsimp only; omega)⟩
 ·rw [QB] at c
  exact Dr.ret ⟨_,rfl,hh,hs.le (by omega)⟩
theorem Qta {s:SrcD} {k:Int} (hs:Sr s k) (hk:k≤900000000):Dr (F_bx (s,())) fun r=>Sr r.2.1 (k+300)∧HL r.1.1:=by
 have hk0:=hs.pos
 unfold F_bx
 refine (QV hs (by omega) _).bind fun r1 h1=>?_
 have hb:=h1.2.to3
 refine Dr.guard ⟨by decide,hb.2.1,hb.2.2⟩ ?_
 have hlen:(([(7:Int),8].drop (0+((0:Int)).toNat)).take ((r1.1.1).toNat-((0:Int)).toNat)).length≤2:=by rw [List.length_take]; have:=hb.1; omega
 refine (Qrx (by omega) ?_).bind fun r2 h2=>?_
 ·rw [Qao]
  intro w hw
  have:=List.mem_of_mem_drop (List.mem_of_mem_take hw)
  simp at this
  unfold WW
  omega
 have h2':HL r2.1.1.2:=h2.1
 refine (Qrr _ h2' h1.1 (by omega)).bind fun z hz=>?_
 obtain ⟨x,rfl,hx,hxs⟩:=hz
 dsimp only
 refine (QV hxs (by omega) _).bind fun r21 h21=>(QV h21.1 (by omega) _).bind fun r22 h22=>(Qmz h22.1 (by omega)).bind fun r23 h23=>(QbK h23.1 (by omega) _ _).bind fun r24 h24=>(QV h24.1 (by omega) _).bind fun r25 h25=>?_
 refine (QoQ _ (h:=(x.2.1.2.1.1,(r24.1.1,(x.2.1.2.1.2.2.1,(x.2.1.2.1.2.2.2.1,(x.2.1.2.1.2.2.2.2.1,(x.2.1.2.1.2.2.2.2.2.1,(r25.1.1,(x.2.1.2.1.2.2.2.2.2.2.2.1,(x.2.1.2.1.2.2.2.2.2.2.2.2.1,())))))))))) ⟨hx.r,hx.c,hx.i,hx.o⟩ h25.1 (by omega)).bind fun z hz=>?_
 obtain ⟨x,rfl,hx,hxs⟩:=hz
 dsimp only
 refine (Qdi hxs (by omega) _).bind fun r h=>(Qdi h (by omega) _).bind fun r h=>(Qdi h (by omega) _).bind fun r h=>(Qdi h (by omega) _).bind fun r h=>?_
 refine Dr.ite (fun _=>Dr.ret ⟨h.le (by omega),hx.r,hx.c,hx.i,by simp⟩) fun _=>Dr.ret ⟨h.le (by omega),hx.r,hx.c,hx.i,hx.o⟩
structure HB (h:QO):Prop where
 r:h.1.length≤16
 c:h.2.2.1.length=11
 i:h.2.2.2.2.2.2.2.1.length≤41
 o:h.2.2.2.2.2.2.2.2.1.length≤40
theorem HL.b {h:QO} (hh:HL h):HB h:=⟨by rw [hh.r]; omega,hh.c,by have:=hh.i; omega,hh.o⟩
theorem HB.le {h:QO} (hh:HB h):Qcc 1048576 h:=⟨by have:=hh.r; omega,by rw [hh.c]; omega,by have:=hh.i; omega,by have:=hh.o; omega⟩
theorem QsZ {s:SrcD} {k:Int} (hs:Sr s k) (hk:k≤900000000):Dr (F_by (s,())) fun r=>Sr r.2.1 (k+400)∧HB r.1.1:=by
 have hk0:=hs.pos
 unfold F_by
 refine (Qta hs hk).bind fun r1 h1=>(QV h1.1 (by omega) _).bind fun r2 h2=>?_
 have hr:=h1.2.r
 have hc:=h1.2.c
 have hi:=h1.2.i
 have ho:=h1.2.o
 refine Dr.ite (fun _=>?_) fun _=>Dr.ite (fun _=>?_) fun _=>Dr.ite (fun _=>?_) fun _=>Dr.ite (fun _=>?_) fun _=>Dr.ite (fun _=>?_) fun _=>Dr.ite (fun _=>?_) fun _=>?_
 ·exact Dr.gat hr (by omega) fun _ _=>Dr.ret ⟨h2.1.le (by omega),⟨by simpa using Nat.le_of_eq hr,hc,by dsimp only; omega,ho⟩⟩
 ·refine Dr.guard ⟨by decide,by rw [hr]; decide,Int.le_refl _⟩ (Dr.ret ⟨h2.1.le (by omega),⟨by simp; omega,hc,by dsimp only; omega,ho⟩⟩)
 ·refine (QV h2.1 (by omega) _).bind fun r5 h5=>(QbK h5.1 (by omega) _ _).bind fun r6 h6=>Dr.gat hc (by have:=h5.2.e; omega) fun _ _=>Dr.ret ⟨h6.1.le (by omega),⟨by dsimp only; omega,by simpa using hc,by dsimp only; omega,ho⟩⟩
 ·exact (QbK h2.1 (by omega) _ _).bind fun r9 h9=>Dr.ret ⟨h9.1.le (by omega),⟨by dsimp only; omega,hc,by dsimp only; omega,ho⟩⟩
 ·exact Dr.ret ⟨h2.1.le (by omega),⟨by dsimp only; omega,hc,by simp,ho⟩⟩
 ·exact (QbK h2.1 (by omega) _ _).bind fun r9 h9=>Dr.ret ⟨h9.1.le (by omega),⟨by dsimp only; omega,hc,by dsimp only; omega,ho⟩⟩
 ·exact Dr.ret ⟨h2.1.le (by omega),h1.2.b⟩
theorem Qtj (n:Int) (h:1≤n∧n≤24):Dr (F_bv (n,())) fun r=>((r.1.1.2.1:List Int).length:Int)=8*n:=by
 unfold F_bv
 refine Dr.bind (Q:=fun r=>r.1.1=inB n 1 24) (.of (QaI n 1 24) rfl) fun r hr=>?_
 have hr2: ¬(!r.1.1)=true:=by rw [hr,QcM.2 h]; simp
 have e:IntKind.i64.wrap (n*8)=n*8:=Qn (by omega) (by omega)
 rw [if_neg hr2]
 dsimp only
 rw [e]
 exact Dr.guard (by omega) (Dr.ret (by simp; omega))
theorem QoP {s:SrcD} {k:Int} (hs:Sr s k) (hk:k≤900000000):Dr (F_bw (s,())) fun r=>Sr r.2.1 (k+2000)∧(r.1.1:List Int).length≤200:=by
 have hk0:=hs.pos
 unfold F_bw
 refine (QV hs (by omega) _).bind fun r1 h1=>?_
 have hr:=h1.2.e
 have e:IntKind.i64.wrap (1+(r1.1.1:Int))=1+(r1.1.1:Int):=Qn (by omega) (by omega)
 dsimp only
 rw [e]
 refine (Qtj _ (by omega)).bind fun r3 h3=>?_
 have hlen:8≤(r3.1.1.2.1:List Int).length∧(r3.1.1.2.1:List Int).length≤40:=by omega
 have key: ∀(ms:List Int),8≤ms.length∧ms.length≤40→Dr (L_bw_3 (((),(ms,((0:Int),()))),((r1.2.1,()),()))) fun o=> ∃x,o= .inl x∧Sr x.2.1.1 (k+1+240)∧8≤(x.1.2.1:List Int).length∧(x.1.2.1:List Int).length≤40:=by
  intro ms hms
  refine Qat (fun m u=>(m:Int)=((u.1.2.1:List Int).length:Int)-(u.1.2.2.1:Int)∧0≤(u.1.2.2.1:Int)∧(8≤(u.1.2.1:List Int).length∧(u.1.2.1:List Int).length≤40)∧Sr u.2.1.1 (k+1+6*(u.1.2.2.1:Int))) ?_ ms.length _ ⟨by dsimp only; omega,by dsimp only; omega,hms,h1.1.le (by dsimp only; omega)⟩ (by rw [QS]; omega)
  intro rec m u ⟨hm,g1,hl,hs⟩ ih
  unfold l_bw_3
  have hk0:=hs.pos
  refine Dr.ite (fun c=>?_) fun c=>?_
  ·rw [QB] at c
   have e:IntKind.i64.wrap ((u.1.2.2.1:Int)+1)=(u.1.2.2.1:Int)+1:=Qn (by omega) (by omega)
   refine (Qdi hs (by omega) _).bind fun r8 h8=>Dr.ite (fun _=>?_) fun _=>?_
   ·refine (Qmz h8 (by omega)).bind fun r9 h9=>Dr.gat rfl ⟨g1,c⟩ fun _ _=>ih (m-1) _ (by omega) ?_
    rw [e]
    exact ⟨by simp; omega,by dsimp only; omega,by simpa using hl,h9.1.le (by dsimp only; omega)⟩
   ·refine ih (m-1) _ (by omega) ?_
    rw [e]
    exact ⟨by dsimp only; omega,by dsimp only; omega,hl,h8.le (by dsimp only; omega)⟩
  ·rw [QB] at c
   exact Dr.ret ⟨_,rfl,hs.le (by omega),hl⟩
 refine (key _ hlen).bind fun z hz=>?_
 obtain ⟨x,rfl,g1,g2⟩:=hz
 refine (QV g1 (by omega) _).bind fun r16 h16=>Dr.ite (fun _=>?_) fun _=>Dr.ite (fun _=>?_) fun _=>Dr.ite (fun _=>?_) fun _=>?_
 ·exact Dr.guard ⟨by decide,by omega,Int.le_refl _⟩ (Dr.ret ⟨h16.1.le (by omega),by simp; omega⟩)
 ·exact (QV h16.1 (by omega) _).bind fun r18 h18=>(QbK h18.1 (by omega) _ _).bind fun r19 h19=>Dr.gat rfl (by have:=h18.2.e; omega) fun _ _=>Dr.ret ⟨h19.1.le (by omega),by simp; omega⟩
 ·exact Dr.ret ⟨h16.1.le (by omega),by simp⟩
 ·exact Dr.ret ⟨h16.1.le (by omega),by have:=g2.2; dsimp only; omega⟩
theorem Dr.step {X Y:Type} {o:Option X} {v:X} {f:X→Option Y} {P:Y→Prop} (h:o=some v) (g:Dr (f v) P):Dr (o.bind f) P:=by rw [h]; exact g
theorem Dr.pos {X:Type} {c:Prop} [Decidable c] {a b:Option X} {P:X→Prop} (hc:c) (h:Dr a P):Dr (if c then a else b) P:=by rw [if_pos hc]; exact h
theorem Dr.neg {X:Type} {c:Prop} [Decidable c] {a b:Option X} {P:X→Prop} (hc: ¬c) (h:Dr b P):Dr (if c then a else b) P:=by rw [if_neg hc]; exact h
theorem Dr.eq {X:Type} {o:Option X} {v:X} (h:Dr o fun r=>r=v):o=some v:=by
 obtain ⟨_,e,rfl⟩:=h
 exact e
abbrev Yes (o:Option ((Bool×Unit)×Unit)):Prop:=Dr o fun r=>r=((true,()),())
theorem yes {b:Bool} (h:b=true):Yes (some ((b,()),())):=by subst h; exact ⟨_,rfl,rfl⟩
theorem Qry (m:List Int) (hm:m.length≤9223372036854775000):F_fv (m,m,())=some ((true,()),()):=by
 have key:=QX (step:=l_fv_4) (γ:=denO o_f_2) (fun i=>((m,(m,(((i:Nat):Int),()))),((),()))) m (fun (_:Nat) (_:Int)=>(none:Option Unit)) (fun _=>none) (some (.inl ((),((),())))) (by omega) ?_ ?_
 ·unfold F_fv
  dsimp only
  rw [if_neg (by simp)]
  show (Qd l_fv_4 lots ((m,(m,(((0:Nat):Int),()))),((),()))).bind _=_
  rw [key]
  have: ∀{l:List Int} {i:Nat},scan (fun (_:Nat) (_:Int)=>(none:Option Unit)) i l=none:=by
   intro l
   induction l with
   | nil=>intro i; rfl
   | cons y r ih=>intro i; simp only [scan]; exact ih
  rw [this]
  rfl
 ·intro rec i hi
  unfold l_fv_4
  dsimp only
  rw [if_pos (lt_t hi),if_pos nat0,Qu hi,if_pos nat0,Qu hi,if_neg (by simp),QY (by omega)]
 ·intro rec
  unfold l_fv_4
  dsimp only
  rw [if_neg Qax]
theorem Qvu {c:List Int} (hc:Byt c) (i n:Int) (hi:0≤i∧i≤100) (hn:n≤100000):Dr (F_cb (c,i,n,())) fun r=>Bd n r.1.1:=by
 unfold F_cb
 obtain ⟨hb,hl⟩:=hc
 refine Dr.ite (fun h=>Dr.ret ⟨Int.le_refl _,.inr rfl⟩) fun h=>?_
 rw [Qbb] at h
 dsimp only at h
 have hn0: ¬n=0:=by omega
 have tm: ∀z:Int,0≤z→Bd n (z.tmod n):=fun z hz=>by
  rw [Int.tmod_eq_emod_of_nonneg hz]
  exact ⟨Int.emod_nonneg _ (by omega),.inl (Int.emod_lt_of_pos _ (by omega))⟩
 refine Dr.ite (fun h0=>?_) fun h0=>?_
 ·have e:IntKind.i64.wrap (i*7)=i*7:=Qn (by omega) (by omega)
  dsimp only
  rw [e]
  exact Dr.nguard hn0 (Dr.ret (tm _ (by omega)))
 have hpos:0< c.length:=by
  simp only [beq_iff_eq] at h0
  omega
 have hl0: ¬((c.length:Nat):Int)=0:=by omega
 have hq: ∀z:Int,0≤z→0≤z.tmod ((c.length:Nat):Int)∧(z.tmod ((c.length:Nat):Int)).toNat< c.length:=fun z hz=>by
  rw [Int.tmod_eq_emod_of_nonneg hz]
  have h1:=Int.emod_nonneg z (b:=(c.length:Int)) (by omega)
  have h2:=Int.emod_lt_of_pos z (b:=(c.length:Int)) (by omega)
  omega
 have hd:0≤i.tdiv ((c.length:Nat):Int)∧i.tdiv ((c.length:Nat):Int)≤100:=by
  rw [Int.tdiv_eq_ediv_of_nonneg hi.1]
  have h1:=Int.ediv_nonneg hi.1 (b:=(c.length:Int)) (by omega)
  have h2:=Int.ediv_le_self (c.length:Int) hi.1
  omega
 have e7:IntKind.i64.wrap (i.tdiv ((c.length:Nat):Int))=i.tdiv ((c.length:Nat):Int):=Qn (by omega) (by omega)
 have e8:IntKind.i64.wrap (i.tdiv ((c.length:Nat):Int)*3)=i.tdiv ((c.length:Nat):Int)*3:=Qn (by omega) (by omega)
 refine Dr.nguard hl0 (Dr.guard (hq i hi.1).1 (Dr.get (hq i hi.1).2 fun y5 hy5 _=>Dr.nguard hl0 ?_))
 have b5:=(show Bt 0 255 y5 from hb y5 hy5).e
 have e6:IntKind.i64.wrap y5=y5:=Qn (by omega) (by omega)
 have e9:IntKind.i64.wrap (y5+i.tdiv ((c.length:Nat):Int)*3)=y5+i.tdiv ((c.length:Nat):Int)*3:=Qn (by omega) (by omega)
 dsimp only
 rw [e6,e7,e8,e9]
 refine Dr.ite (fun _=>?_) fun _=>Dr.nguard hn0 (Dr.ret (tm _ (by omega)))
 have e10:IntKind.i64.wrap ((y5+i.tdiv ((c.length:Nat):Int)*3)*251)=(y5+i.tdiv ((c.length:Nat):Int)*3)*251:=Qn (by omega) (by omega)
 have e11:IntKind.i64.wrap (i+1)=i+1:=Qn (by omega) (by omega)
 rw [e10,e11]
 refine Dr.nguard hl0 (Dr.guard (hq (i+1) (by omega)).1 (Dr.get (hq (i+1) (by omega)).2 fun y13 hy13 _=>?_))
 have b13:=(show Bt 0 255 y13 from hb y13 hy13).e
 have e14:IntKind.i64.wrap y13=y13:=Qn (by omega) (by omega)
 have e15:IntKind.i64.wrap ((y5+i.tdiv ((c.length:Nat):Int)*3)*251+y13)=(y5+i.tdiv ((c.length:Nat):Int)*3)*251+y13:=Qn (by omega) (by omega)
 rw [e14,e15]
 exact Dr.nguard hn0 (Dr.ret (tm _ (by omega)))
def Mc.hart (s:Mc):QO:=(s.r,s.pc,s.cs,s.ha,s.wa,s.ru,s.dn,s.iq,s.oq,())
theorem QsI (s:Mc) (l:List TwoD) (op d a i:Int):(exM s l op d a i).2.2.2.m.length=s.m.length:=by
 unfold exM
 let P:Bool×Int×Int×Mc→Prop:=fun x=>x.2.2.2.m.length=s.m.length
 exact Qi P (fun _=>rfl) fun _=>Qi P (fun _=>rfl) fun _=>Qi P (fun _=>Qi P (fun _=>rfl) fun _=>Qi P (fun _=>rfl) fun _=>rfl) fun _=>
  Qi P (fun _=>Qi P (fun _=>rfl) fun _=>Qi P (fun _=>rfl) fun _=>List.length_set) fun _=>Qi P (fun _=>rfl) fun _=>Qi P (fun _=>rfl) fun _=>Qi P (fun _=>rfl) fun _=>
  Qi P (fun _=>rfl) fun _=>Qi P (fun _=>rfl) fun _=>Qi P (fun _=>rfl) fun _=>Qi P (fun _=>rfl) fun _=>Qi P (fun _=>rfl) fun _=>Qi P (fun _=>rfl) fun _=>rfl
theorem QmV (s:Mc) (l:List TwoD) (op d a i:Int):(doM s l op d a i).2.m.length=s.m.length:=by
 have:=QsI s l op d a i
 unfold doM
 dsimp only
 split <;> exact this
theorem Qlk (s:Mc) (l:List TwoD):(runM s l).m.length=s.m.length:=by
 unfold runM
 dsimp only
 split
 ·rfl
 ·split
  ·split
   ·exact QmV s l _ _ _ _
   ·exact QmV s l _ _ _ _
  ·rfl
theorem QjI (s:Mc) (l:List TwoD):(Qag s l).m.length=s.m.length:=by
 unfold Qag
 dsimp only
 split
 ·rfl
 ·split
  ·rfl
  ·split
   ·split
    ·rfl
    ·exact Qlk { s with ring:= -1,fall:= -1,wa:=false } l
   ·exact Qlk { s with ring:= -1,fall:= -1 } l
theorem OkS.hartM {s:Mc} {l:List TwoD} (h:OkS s l):hartM s.hart=0:=by
 unfold Go.Proofs.YticbdcmkcghijaaGreatDoor.hartM Mc.hart
 dsimp only
 rw [if_pos ⟨h.r.len,h.c.len,h.r.zero⟩,if_pos ⟨Qao.2 h.r.words,QfF.2 h.pc,Qao.2 h.c.words,Qao.2 h.i.words,Qao.2 h.o.words⟩,if_pos ⟨h.i.len,h.o.len⟩,
  if_pos (QcM.2 h.d),if_pos ⟨h.c.st,h.c.msk,h.c.tb,h.c.pd,h.c.tm⟩]
theorem Qsx {c:List Int} (h: ¬(1048576:Int)< ((c.length:Nat):Int)) (hb: ∀b∈c,0≤b∧b≤255):Byt c:=⟨hb,by omega⟩
theorem Bd.top {n x:Int} (h:Bd (n+1) x) (hn:0≤n):0≤x∧x≤n:=by unfold Bd at h; omega
section
variable {l:List TwoD} {s s':Mc}
def MemW (l:List TwoD) (m m':List Int):Prop:= ∀i:Nat,m'[i]?≠m[i]?→ ∃p∈l,p.1=((i / 8:Nat):Int)∧iand .i64 p.2.1 2≠0
theorem MemW.refl (l:List TwoD) (m:List Int):MemW l m m:=fun i h=>absurd rfl h
theorem Qsi {l:List TwoD} (hl:l.length=8) {at_ kind:Int} (h0:0≤Qad l at_ kind): ∃p∈l,p.1=Qad l at_ kind / 8∧iand .i64 p.2.1 kind≠0:=by
 unfold Qad at*
 split at h0
 ·rename_i h1
  rw [if_pos h1]
  split at h0
  ·rename_i h2
   rw [if_pos h2]
   refine ⟨_,QaC (l:=l) (k:=(at_ / 8).toNat) (d:=(-1,0,())) (by rw [hl]; omega),by omega,?_⟩
   simp only [mayP,Bool.and_eq_true,decide_eq_true_eq] at h2
   simpa using h2.2
  ·omega
 ·omega
theorem QnI {cs:List Int} {m:List Int} {at_ kind:Int} (h0:(Qv cs l m at_ kind).2=0) (h1: ¬1000≤(Qv cs l m at_ kind).1): ∃g,(Qv cs l m at_ kind).1=Qad l g kind∧0≤Qad l g kind:=by
 unfold Qv at*
 cases hs:QbM cs l m with
 | none=>rw [hs] at h0; simp at h0
 | some s=>
  rw [hs] at h0 h1
  simp only at h0 h1⊢
  split at h0
  ·exact absurd h0 (Qdj kind)
  ·rename_i a1
   rw [if_neg a1] at h1⊢
   split at h0
   ·rename_i a2
    rw [if_pos a2] at h1⊢
    split at h0
    ·simp at h0
    ·rename_i a3
     rw [if_neg a3] at h1⊢
     exfalso
     simp only at h1
     omega
   ·rename_i a2
    rw [if_neg a2] at h1⊢
    split at h0
    ·exact absurd h0 (Qdj kind)
    ·rename_i a3
     rw [if_neg a3] at h1⊢
     exact ⟨_,rfl,by omega⟩
theorem Qug (hl:l.length=8) (s:Mc) (op d a i:Int):MemW l s.m (exM s l op d a i).2.2.2.m:=by
 unfold exM
 let P:Bool×Int×Int×Mc→Prop:=fun x=>MemW l s.m x.2.2.2.m
 have r0:=MemW.refl l s.m
 refine Qi P (fun _=>r0) fun _=>Qi P (fun _=>r0) fun _=>Qi P (fun _=>Qi P (fun _=>r0) fun _=>Qi P (fun _=>r0) fun _=>r0) fun _=>
  Qi P (fun _=>Qi P (fun _=>r0) fun h2=>Qi P (fun _=>r0) fun h1=>?_) fun _=>Qi P (fun _=>r0) fun _=>Qi P (fun _=>r0) fun _=>Qi P (fun _=>r0) fun _=>
  Qi P (fun _=>r0) fun _=>Qi P (fun _=>r0) fun _=>Qi P (fun _=>r0) fun _=>Qi P (fun _=>r0) fun _=>Qi P (fun _=>r0) fun _=>Qi P (fun _=>r0) fun _=>r0
 intro k hk
 obtain ⟨g,e1,e2⟩:=QnI (by simpa using h2) h1
 obtain ⟨p,hp,q1,q2⟩:=Qsi hl e2
 dsimp only at hk
 rw [e1] at hk
 by_cases hkk:(Qad l g 2).toNat=k
 ·subst hkk
  exact ⟨p,hp,by rw [q1]; omega,q2⟩
 ·exact absurd (List.getElem?_set_ne hkk) hk
theorem Qvm (s:Mc) (l:List TwoD) (op d a i:Int):(exM s l op d a i).2.2.2.dn=s.dn∧((exM s l op d a i).1=true→(exM s l op d a i).2.2.2.fall=s.fall):=by
 unfold exM
 let P:Bool×Int×Int×Mc→Prop:=fun x=>x.2.2.2.dn=s.dn∧(x.1=true→x.2.2.2.fall=s.fall)
 have r0: ∀{x:Bool×Int×Int×Mc},x.2.2.2.dn=s.dn→x.2.2.2.fall=s.fall→P x:=fun h1 h2=>⟨h1,fun _=>h2⟩
 have r1: ∀{c t:Int},P (false,0,0,s.trap c t):=⟨rfl,fun h=>by cases h⟩
 exact Qi P (fun _=>r0 rfl rfl) fun _=>Qi P (fun _=>r0 rfl rfl) fun _=>Qi P (fun _=>Qi P (fun _=>r1) fun _=>Qi P (fun _=>r0 rfl rfl) fun _=>r0 rfl rfl) fun _=>
  Qi P (fun _=>Qi P (fun _=>r1) fun h2=>Qi P (fun _=>r0 rfl rfl) fun h1=>r0 rfl rfl) fun _=>Qi P (fun _=>r0 rfl rfl) fun _=>Qi P (fun _=>r0 rfl rfl) fun _=>Qi P (fun _=>r0 rfl rfl) fun _=>
  Qi P (fun _=>r0 rfl rfl) fun _=>Qi P (fun _=>r0 rfl rfl) fun _=>Qi P (fun _=>r1) fun _=>Qi P (fun _=>r0 rfl rfl) fun _=>Qi P (fun _=>r0 rfl rfl) fun _=>Qi P (fun _=>r0 rfl rfl) fun _=>r0 rfl rfl
structure StepP (l:List TwoD) (s s':Mc):Prop where
 mem:MemW l s.m s'.m
 dn:s.dn≤s'.dn∧s'.dn≤s.dn+1
 fl:0≤s'.fall→s'.dn=s.dn
theorem QvP (hl:l.length=8) (s:Mc) (op d a i:Int):MemW l s.m (doM s l op d a i).2.m∧(doM s l op d a i).2.dn=s.dn∧((doM s l op d a i).1=true→(doM s l op d a i).2.fall=s.fall):=by
 have h1:=Qug hl s op d a i
 have h2:=Qvm s l op d a i
 unfold doM
 dsimp only
 split
 ·rename_i h
  exact ⟨h1,h2.1,fun _=>h2.2 h⟩
 ·exact ⟨h1,h2.1,fun h=>by cases h⟩
theorem QvI (hl:l.length=8) (s:Mc) (hf:s.fall= -1) (hd:s.dn≤1000000000):StepP l s (runM s l):=by
 have r1: ∀{c t:Int},StepP l s (s.trap c t):=⟨MemW.refl l s.m,⟨Int.le_refl _,by show s.dn≤s.dn+1; omega⟩,fun _=>rfl⟩
 unfold runM
 refine Qi (StepP l s) (fun _=>r1) fun _=>Qi (StepP l s) (fun _=>?_) fun _=>r1
 generalize (decM (s.m.getD (Qv s.cs l s.m s.pc 4).1.toNat 0))=x
 obtain ⟨h1,h2,h3⟩:=QvP hl s x.1 x.2.1 x.2.2.1 x.2.2.2.1
 refine Qi (StepP l s) (fun ht=>?_) fun _=>⟨h1,by omega,fun _=>h2⟩
 refine ⟨h1,?_,fun h=>?_⟩
 ·unfold Qfh
  dsimp only
  rw [h2]
  split <;> omega
 ·exfalso
  have:(Qfh (doM s l x.1 x.2.1 x.2.2.1 x.2.2.2.1).2).fall= -1:=by rw [←hf]; exact h3 ht
  omega
theorem QuM (hl:l.length=8) (s:Mc) (hd:s.dn≤1000000000):StepP l s (Qag s l)∧(s.ha=true→(Qag s l).pc=s.pc):=by
 have r0:StepP l s { s with ring:= -1,fall:= -1 }:=⟨MemW.refl l s.m,⟨Int.le_refl _,by show s.dn≤s.dn+1; omega⟩,fun _=>rfl⟩
 have r1: ∀{c t:Int},StepP l s (Mc.trap { s with ring:= -1,fall:= -1 } c t):=⟨MemW.refl l s.m,⟨Int.le_refl _,by show s.dn≤s.dn+1; omega⟩,fun _=>rfl⟩
 have ra: ∀b,StepP l s (runM { s with ring:= -1,fall:= -1,wa:=b } l):=fun b=>by
  obtain ⟨h1,h2,h3⟩:=QvI hl { s with ring:= -1,fall:= -1,wa:=b } rfl hd
  exact ⟨h1,h2,h3⟩
 unfold Qag
 refine Qi (fun x=>StepP l s x∧(s.ha=true→x.pc=s.pc)) (fun _=>⟨r0,fun _=>rfl⟩) fun h=>⟨?_,fun h'=>absurd h' h⟩
 exact Qi (StepP l s) (fun _=>r1) fun _=>Qi (StepP l s) (fun _=>Qi (StepP l s) (fun _=>r0) fun _=>ra false) fun _=>ra s.wa
end
def noPg:TwoD:=(-1,0,())
def Qbk:List TwoD:=[noPg,noPg,noPg,noPg,noPg,noPg,noPg,noPg]
def QbD:Nat→List Int→List TwoD→List TwoD
 | _,[],l=>l
 | k,p::r,l=>QbD (k+1) r (l.set k (p,7,()))
def Qcg (g:Int) (x:QL) (l:List TwoD):List TwoD:=
 let l1:=if x.1=g then l.set x.2.2.2.1.toNat (x.2.2.1,3,()) else l
 if x.2.1=g then l1.set x.2.2.2.2.1.toNat (x.2.2.1,1,()) else l1
def QaM (g:Int):List QL→List TwoD→List TwoD
 | [],l=>l
 | x::r,l=>QaM g r (Qcg g x l)
def pgM (p:PolD) (g:Int):List TwoD:=QaM g p.2.1 (QbD 0 (p.1.getD g.toNat []) Qbk)
theorem Qee: ∀(r:List Int) (k:Nat) (l:List TwoD),(QbD k r l).length=l.length
 | [],_,_=>rfl
 | p::r,k,l=>by rw [QbD,Qee r]; simp
theorem Qbz (g:Int) (x:QL) (l:List TwoD):(Qcg g x l).length=l.length:=by
 unfold Qcg
 dsimp only
 repeat' split
 all_goals simp
theorem Qjh (g:Int): ∀(r:List QL) (l:List TwoD),(QaM g r l).length=l.length
 | [],_=>rfl
 | x::r,l=>by rw [QaM,Qjh g r,Qbz]
theorem QeC (p:PolD) (g:Int):(pgM p g).length=8:=by unfold pgM; rw [Qjh,Qee]; rfl
theorem Qla {P:TwoD→Prop}: ∀(r:List Int) (k:Nat) (l:List TwoD),(∀x∈r,P (x,7,()))→(∀q∈l,P q)→ ∀q∈QbD k r l,P q
 | [],_,_,_,h=>h
 | p::r,k,l,h1,h=>Qla r (k+1) _ (fun x hx=>h1 x (List.mem_cons_of_mem _ hx)) fun q hq=>by
  rcases List.mem_or_eq_of_mem_set hq with hq | rfl
  ·exact h q hq
  ·exact h1 p (by simp)
theorem Qrs {P:TwoD→Prop} {g:Int} {x:QL} {l:List TwoD} (h1:P (x.2.2.1,3,())) (h2:P (x.2.2.1,1,())) (h: ∀q∈l,P q): ∀q∈Qcg g x l,P q:=by
 have s: ∀{l:List TwoD} {k:Nat} {y:TwoD},P y→(∀q∈l,P q)→ ∀q∈l.set k y,P q:=fun hy h q hq=>by
  rcases List.mem_or_eq_of_mem_set hq with hq | rfl
  ·exact h q hq
  ·exact hy
 unfold Qcg
 dsimp only
 split
 ·split
  ·exact s h2 (s h1 h)
  ·exact s h2 h
 ·split
  ·exact s h1 h
  ·exact h
theorem Qjg {P:TwoD→Prop} {g:Int}: ∀(r:List QL) (l:List TwoD),(∀x∈r,P (x.2.2.1,3,())∧P (x.2.2.1,1,()))→(∀q∈l,P q)→ ∀q∈QaM g r l,P q
 | [],_,_,h=>h
 | x::r,l,h1,h=>Qjg r _ (fun y hy=>h1 y (List.mem_cons_of_mem _ hy)) (Qrs (h1 x (by simp)).1 (h1 x (by simp)).2 h)
theorem QcV {p:PolD} {g:Int} (hok:OkPol p) (hg:isG p g=true):p.1.getD g.toNat []∈p.1:=by
 have:=Qbr.1 hg
 exact QaC (by omega)
theorem Qpc {p:PolD} {g:Int} (hok:OkPol p) (hg:isG p g=true): ∀q∈pgM p g,(-1≤q.1∧q.1≤23)∧0≤q.2.1∧q.2.1≤7:=by
 refine Qjg (P:=fun q=>(-1≤q.1∧q.1≤23)∧0≤q.2.1∧q.2.1≤7) _ _ (fun x hx=>?_) (Qla _ _ _ (fun x hx=>?_) ?_)
 ·have:=(QcI hok x hx).2.1
  dsimp only
  omega
 ·have:=(hok.own1 _ (QcV hok hg)).2.2 x hx
  dsimp only
  omega
 ·intro q hq
  simp only [Qbk,List.mem_cons,List.not_mem_nil,or_false,or_self] at hq
  subst hq
  unfold noPg
  decide
theorem Qjr {r:List Int} {k i:Nat} {l:List TwoD} (h:i< r.length):QbD (k+i) (r.drop i) l=QbD (k+(i+1)) (r.drop (i+1)) (l.set (k+i) (r[i],7,())):=by
 rw [List.drop_eq_getElem_cons h,QbD]
 rfl
theorem QhZ {g:Int} {r:List QL} {i:Nat} {l:List TwoD} (h:i< r.length):QaM g (r.drop i) l=QaM g (r.drop (i+1)) (Qcg g r[i] l):=by
 rw [List.drop_eq_getElem_cons h,QaM]
theorem Qpq (p:PolD) (g:Int):L_aj_3 ((p,(g,(([]:List TwoD),((0:Int),())))),((),()))=some (.inl ((p,(g,(Qbk,()))),((),()))):=by kernel_rfl
theorem QnV {p:PolD} {g:Int} (hok:OkPol p) (hg:isG p g=true):F_aj (p,g,())=some ((pgM p g,()),()):=by
 have hgi:=Qbr.1 hg
 have hi:g.toNat< p.1.length:=by omega
 have hown:=hok.own1 _ (QcV hok hg)
 have hlane:=QcI hok
 have hll:=hok.lanes.1
 refine Dr.eq ?_
 unfold F_aj
 refine Dr.step (Qpq p g) ?_
 dsimp only
 have k1:Dr (L_aj_7 ((p,(g,(Qbk,((0:Int),())))),((),()))) fun o=>o= .inl ((p,(g,(QbD 0 (p.1.getD g.toNat []) Qbk,()))),((),())):=by
  refine Qat (fun n u=> ∃(i:Nat) (l:List TwoD),u=((p,(g,(l,((i:Int),())))),((),()))∧n=(p.1.getD g.toNat []).length-i∧i≤(p.1.getD g.toNat []).length∧l.length=8∧QbD (0+i) ((p.1.getD g.toNat []).drop i) l=QbD 0 (p.1.getD g.toNat []) Qbk) ?_ _ _ ⟨0,Qbk,rfl,rfl,Nat.zero_le _,rfl,rfl⟩ (by rw [QS]; omega)
  rintro rec n _ ⟨i,l,rfl,hn,hin,hl,he⟩ ih
  have e1:p.1[g.toNat]?=some (p.1.getD g.toNat []):=by rw [List.getD_eq_getElem?_getD,List.getElem?_eq_getElem hi]; rfl
  unfold l_aj_7
  generalize p.1.getD g.toNat []=w at*
  dsimp only
  rw [if_pos hgi.1,e1,Obn]
  by_cases hlt:i< w.length
  case neg=>
   rw [if_neg (lt_f hlt)]
   rw [List.drop_of_length_le (by omega)] at he
   exact Dr.ret (by rw [←he]; rfl)
  rw [if_pos (lt_t hlt),if_pos hgi.1,Obn,if_pos nat0,Qu hlt,QY (by omega)]
  refine Dr.gat hl (by omega) fun _ _=>ih (n-1) _ (by omega) ⟨i+1,_,rfl,by omega,by omega,by simpa using hl,?_⟩
  rw [←he,Qjr hlt,Int.toNat_natCast]
  simp only [Nat.zero_add]
 refine k1.bind fun o ho=>?_
 subst ho
 dsimp only
 have k2:Dr (L_aj_11 ((p,(g,(QbD 0 (p.1.getD g.toNat []) Qbk,((0:Int),())))),((),()))) fun o=>o= .inl ((pgM p g,()),((),())):=by
  refine Qat (fun n u=> ∃(i:Nat) (l:List TwoD),u=((p,(g,(l,((i:Int),())))),((),()))∧n=p.2.1.length-i∧i≤p.2.1.length∧l.length=8∧QaM g (p.2.1.drop i) l=pgM p g) ?_ _ _ ⟨0,_,rfl,rfl,Nat.zero_le _,by rw [Qee]; rfl,rfl⟩ (by rw [QS]; omega)
  rintro rec n _ ⟨i,l,rfl,hn,hin,hl,he⟩ ih
  unfold l_aj_11
  dsimp only
  by_cases hlt:i< p.2.1.length
  case neg=>
   rw [if_neg (lt_f hlt)]
   rw [List.drop_of_length_le (by omega)] at he
   exact Dr.ret (by rw [←he]; rfl)
  rw [if_pos (lt_t hlt),if_pos nat0,Qu hlt,QY (by omega)]
  have hla:=hlane _ (List.getElem_mem hlt)
  rw [QhZ hlt] at he
  have hl1:=Qbz g p.2.1[i] l
  have fin: ∀l',l'=Qcg g p.2.1[i] l→Dr (rec ((p,(g,(l',(((i+1:Nat):Int),())))),((),()))) fun o=>o= .inl ((pgM p g,()),((),())):=fun l' e=>by
   subst e
   exact ih (n-1) _ (by omega) ⟨i+1,_,rfl,by omega,by omega,by rw [hl1]; exact hl,he⟩
  generalize p.2.1[i]=x at*
  by_cases h1:x.1=g
  ·rw [if_pos (by simpa using h1)]
   refine Dr.gat hl (by omega) fun _ _=>?_
   by_cases h2:x.2.1=g
   ·rw [if_pos (by simpa using h2)]
    refine Dr.gat (n:=8) (by simpa using hl) (by omega) fun _ _=>fin _ ?_
    unfold Qcg
    dsimp only
    rw [if_pos h1,if_pos h2]
   ·rw [if_neg (by simpa using h2)]
    refine fin _ ?_
    unfold Qcg
    dsimp only
    rw [if_pos h1,if_neg h2]
  ·rw [if_neg (by simpa using h1)]
   by_cases h2:x.2.1=g
   ·rw [if_pos (by simpa using h2)]
    refine Dr.gat hl (by omega) fun _ _=>fin _ ?_
    unfold Qcg
    dsimp only
    rw [if_neg h1,if_pos h2]
   ·rw [if_neg (by simpa using h2)]
    refine fin _ ?_
    unfold Qcg
    dsimp only
    rw [if_neg h1,if_neg h2]
 refine k2.bind fun o ho=>?_
 subst ho
 exact Dr.ret rfl
theorem QrI:F_dt ([noPg],8,())=some ((Qbk,()),()):=by kernel_rfl
theorem Qnk {p:PolD} {g:Int} (hok:OkPol p) (hg:isG p g=true):F_du (p,g,())=some ((pgM p g,()),()):=by
 have hgi:=Qbr.1 hg
 have hi:g.toNat< p.1.length:=by omega
 have hown:=hok.own1 _ (QcV hok hg)
 have hlane:=QcI hok
 have hll:=hok.lanes.1
 refine Dr.eq ?_
 unfold F_du
 refine Dr.step rfl (Dr.step QrI (Dr.guard hgi.1 ?_))
 have e1:p.1[g.toNat]?=some (p.1.getD g.toNat []):=by rw [List.getD_eq_getElem?_getD,List.getElem?_eq_getElem hi]; rfl
 refine Dr.step e1 ?_
 have k1:Dr (L_du_3 ((p,(g,(Qbk,(p.1.getD g.toNat [],((((p.1.getD g.toNat []).length:Nat):Int),((0:Int),())))))),((),()))) fun o=>o= .inl ((p,(g,(QbD 0 (p.1.getD g.toNat []) Qbk,()))),((),())):=by
  generalize p.1.getD g.toNat []=w at*
  refine Qat (fun n u=> ∃(i:Nat) (l:List TwoD),u=((p,(g,(l,(w,(((w.length:Nat):Int),((i:Int),())))))),((),()))∧n=w.length-i∧i≤w.length∧l.length=8∧QbD (0+i) (w.drop i) l=QbD 0 w Qbk) ?_ _ _ ⟨0,Qbk,rfl,rfl,Nat.zero_le _,rfl,rfl⟩ (by rw [QS]; omega)
  rintro rec n _ ⟨i,l,rfl,hn,hin,hl,he⟩ ih
  unfold l_du_3
  dsimp only
  by_cases hlt:i< w.length
  case neg=>
   rw [if_neg (lt_f hlt)]
   rw [List.drop_of_length_le (by omega)] at he
   exact Dr.ret (by rw [←he]; rfl)
  rw [if_pos (lt_t hlt),if_pos nat0,Qu hlt,QY (by omega)]
  refine Dr.gat hl (by omega) fun _ _=>ih (n-1) _ (by omega) ⟨i+1,_,rfl,by omega,by omega,by simpa using hl,?_⟩
  rw [←he,Qjr hlt,Int.toNat_natCast]
  simp only [Nat.zero_add]
 refine k1.bind fun o ho=>?_
 subst ho
 dsimp only
 have k2:Dr (L_du_8 ((g,(QbD 0 (p.1.getD g.toNat []) Qbk,(p.2.1,(((p.2.1.length:Nat):Int),((0:Int),()))))),((),()))) fun o=>o= .inl ((pgM p g,()),((),())):=by
  refine Qat (fun n u=> ∃(i:Nat) (l:List TwoD),u=((g,(l,(p.2.1,(((p.2.1.length:Nat):Int),((i:Int),()))))),((),()))∧n=p.2.1.length-i∧i≤p.2.1.length∧l.length=8∧QaM g (p.2.1.drop i) l=pgM p g) ?_ _ _ ⟨0,_,rfl,rfl,Nat.zero_le _,by rw [Qee]; rfl,rfl⟩ (by rw [QS]; omega)
  rintro rec n _ ⟨i,l,rfl,hn,hin,hl,he⟩ ih
  unfold l_du_8
  dsimp only
  by_cases hlt:i< p.2.1.length
  case neg=>
   rw [if_neg (lt_f hlt)]
   rw [List.drop_of_length_le (by omega)] at he
   exact Dr.ret (by rw [←he]; rfl)
  rw [if_pos (lt_t hlt),if_pos nat0,Qu hlt,QY (by omega)]
  have hla:=hlane _ (List.getElem_mem hlt)
  rw [QhZ hlt] at he
  have hl1:=Qbz g p.2.1[i] l
  have fin: ∀l',l'=Qcg g p.2.1[i] l→Dr (rec ((g,(l',(p.2.1,(((p.2.1.length:Nat):Int),(((i+1:Nat):Int),()))))),((),()))) fun o=>o= .inl ((pgM p g,()),((),())):=fun l' e=>by
   subst e
   exact ih (n-1) _ (by omega) ⟨i+1,_,rfl,by omega,by omega,by rw [hl1]; exact hl,he⟩
  generalize p.2.1[i]=x at*
  by_cases h1:x.1=g
  ·rw [if_pos (by simpa using h1)]
   refine Dr.gat hl (by omega) fun _ _=>?_
   by_cases h2:x.2.1=g
   ·rw [if_pos (by simpa using h2)]
    refine Dr.gat (n:=8) (by simpa using hl) (by omega) fun _ _=>fin _ ?_
    unfold Qcg
    dsimp only
    rw [if_pos h1,if_pos h2]
   ·rw [if_neg (by simpa using h2)]
    refine fin _ ?_
    unfold Qcg
    dsimp only
    rw [if_pos h1,if_neg h2]
  ·rw [if_neg (by simpa using h1)]
   by_cases h2:x.2.1=g
   ·rw [if_pos (by simpa using h2)]
    refine Dr.gat hl (by omega) fun _ _=>fin _ ?_
    unfold Qcg
    dsimp only
    rw [if_neg h1,if_pos h2]
   ·rw [if_neg (by simpa using h2)]
    refine fin _ ?_
    unfold Qcg
    dsimp only
    rw [if_neg h1,if_neg h2]
 refine k2.bind fun o ho=>?_
 subst ho
 exact Dr.ret rfl
theorem Qse {α:Type} {l:List α} {i:Nat} (h:i< l.length):l.take (i+1)=l.take i++[l[i]]:=by rw [List.take_add_one,List.getElem?_eq_getElem h]; rfl
def Qdg (l:List TwoD):List TwoD:=l.mapIdx fun k p=>if 0≤p.1 then ((k:Int),p.2) else p
theorem Qgh (l:List TwoD):(Qdg l).length=l.length:=by unfold Qdg; simp
theorem QqH {l:List TwoD} {i:Nat} (h:i< l.length):(Qdg l)[i]'(by rw [Qgh]; exact h)=if 0≤l[i].1 then ((i:Int),l[i].2) else l[i]:=by
 unfold Qdg
 rw [List.getElem_mapIdx]
def Qif (s:List Int) (k:Nat) (ws:List Int):List Int:=s.take (8*k)++(ws++s.drop (8*k+8))
theorem QhE {s ws:List Int} {k:Nat} (hs:s.length=64) (hk:k< 8) (hw:ws.length=8):(Qif s k ws).length=64:=by unfold Qif; simp; omega
theorem QuA {m:List Int} {p:Int} (h:0≤p∧8*p+8≤(m.length:Int)):(pg m p).length=8:=by unfold pg; simp; omega
theorem Qin (s:TwoD) (r:List TwoD):QG (-1) (s::r)=s.2.1+QG (-1) r:=by
 simp only [QG]
 rw [if_pos (.inl (by decide))]
theorem QqA {s:TwoD} {r:List TwoD} {k:Nat} {a:Int} (h:s.2.1≤a):QE k (s::r) a=QE (k+1) r (a-s.2.1):=by simp only [QE]; rw [if_pos h]
theorem Qoj {s:TwoD} {r:List TwoD} {k:Nat} {a:Int} (h: ¬s.2.1≤a):QE k (s::r) a=(k,a,s.2.1-a):=by simp only [QE]; rw [if_neg h]
theorem Qmv: ∀{m:List TwoD} {k:Nat} {a:Int},(∀s∈m,1≤s.2.1∧s.2.1≤50)→0≤a→a+1< QG (-1) m→
  QE k m (a+1)=if (QE k m a).2.2=1 then ((QE k m a).1+1,0,(m.getD ((QE k m a).1+1-k) (0,0,())).2.1) else ((QE k m a).1,(QE k m a).2.1+1,(QE k m a).2.2-1)
 | [],k,a,_,h0,h1=>by simp [QG] at h1; omega
 | s::r,k,a,hs,h0,h1=>by
  rw [Qin] at h1
  have hr: ∀s∈r,1≤s.2.1∧s.2.1≤50:=fun q hq=>hs q (List.mem_cons_of_mem _ hq)
  by_cases h:s.2.1≤a
  ·rw [QqA h,QqA (by omega)]
   have e:a+1-s.2.1=(a-s.2.1)+1:=by omega
   rw [e,Qmv hr (by omega) (by omega)]
   obtain ⟨g0,_⟩:=QaY (m:=r) (k:=k+1) (a:=a-s.2.1) hr (by omega) (by omega)
   have e2:(QE (k+1) r (a-s.2.1)).1+1-k=((QE (k+1) r (a-s.2.1)).1+1-(k+1))+1:=by omega
   rw [e2,List.getD_cons_succ]
  ·rw [Qoj h]
   have hs1:=hs s (by simp)
   by_cases h2:s.2.1≤a+1
   ·rw [QqA h2,if_pos (by simp only; omega)]
    have e:a+1-s.2.1=0:=by omega
    rw [e]
    cases r with
    | nil=>simp [QG] at h1; omega
    | cons q r=>
     have:=hr q (by simp)
     rw [Qoj (by omega)]
     have e3:k+1-k=1:=by omega
     rw [e3]
     simp
   ·rw [Qoj h2,if_neg (by simp only; omega)]
    simp only
    congr 2
    omega
theorem Qqz: ∀{m:List TwoD} {k:Nat} {a:Int},(∀s∈m,1≤s.2.1∧s.2.1≤50)→0≤a→a+1=QG (-1) m→(QE k m a).1+1=k+m.length∧(QE k m a).2.2=1
 | [],k,a,_,h0,h1=>by simp [QG] at h1; omega
 | s::r,k,a,hs,h0,h1=>by
  rw [Qin] at h1
  have hr: ∀s∈r,1≤s.2.1∧s.2.1≤50:=fun q hq=>hs q (List.mem_cons_of_mem _ hq)
  by_cases h:s.2.1≤a
  ·rw [QqA h]
   have:=Qqz (k:=k+1) hr (a:=a-s.2.1) (by omega) (by omega)
   simp only [List.length_cons]
   omega
  ·rw [Qoj h]
   have hp:=(Qde (g:= -1) hr).1
   cases r with
   | nil=>
    have h0:QG (-1) ([]:List TwoD)=0:=rfl
    rw [h0] at h1
    show k+1=k+(0+1)∧s.2.1-a=1
    omega
   | cons q r=>
    have:=Qdx hr (by simp)
    omega
theorem Qoi {m:List TwoD} (hs: ∀s∈m,1≤s.2.1∧s.2.1≤50) (hl:1≤m.length):QE 0 m 0=(0,0,(m.getD 0 (0,0,())).2.1):=by
 cases m with
 | nil=>simp at hl
 | cons s r=>
  have:=hs s (by simp)
  rw [Qoj (by omega)]
  simp
def QeK (plan:List TwoD) (slot left:Int):Int×Int:=
 if left-1=0 then ((slot+1) % (plan.length:Int),(plan.getD ((slot+1) % (plan.length:Int)).toNat (0,0,())).2.1) else (slot,left-1)
theorem Qeh {p:PolD} (hok:OkPol p): ∀s∈p.2.2.2.1,1≤s.2.1∧s.2.1≤50:=fun s hs=>(hok.slots s hs).2
theorem QuP {p:PolD} (hok:OkPol p) (c:Int):(0≤(QaP p c).1∧(QaP p c).1< (p.2.2.2.1.length:Int))∧1≤(QaP p c).2∧(QaP p c).2≤50:=by
 have hR:=Qdx (Qeh hok) hok.plan.1
 obtain ⟨h1,s,h2,h3,h4,h5⟩:=QaY (m:=p.2.2.2.1) (k:=0) (a:=c % QG (-1) p.2.2.2.1) (Qeh hok) (Int.emod_nonneg _ (by omega)) (Int.emod_lt_of_pos _ (by omega))
 rw [Nat.sub_zero] at h2
 have h6:=(List.getElem?_eq_some_iff.1 h2).1
 have h7:=Qeh hok s (List.mem_of_getElem? h2)
 unfold QaP
 dsimp only
 omega
theorem Qlx {p:PolD} (hok:OkPol p) {c:Int} (h0:0≤c):QaP p (c+1)=QeK p.2.2.2.1 (QaP p c).1 (QaP p c).2:=by
 have hR:=Qdx (Qeh hok) hok.plan.1
 have hs:=Qeh hok
 have hlen:=hok.plan.1
 unfold QaP QeK
 dsimp only
 generalize p.2.2.2.1=m at*
 generalize hRR:QG (-1) m=R at*
 have a0:=Int.emod_nonneg c (b:=R) (by omega)
 have a1:=Int.emod_lt_of_pos c (b:=R) (by omega)
 have hadd:(c+1) % R=if c % R+1=R then 0 else c % R+1:=by
  rw [Int.add_emod]
  by_cases hR1:R=1
  ·subst hR1
   simp
  ·rw [Int.emod_eq_of_lt (a:=1) (by omega) (by omega)]
   split
   ·rename_i e; rw [e]; exact Int.emod_self
   ·exact Int.emod_eq_of_lt (by omega) (by omega)
 rw [hadd]
 generalize c % R=a at*
 by_cases hl:a+1=R
 ·rw [if_pos hl,Qoi hs hlen]
  obtain ⟨e1,e2⟩:=Qqz (k:=0) hs a0 (by rw [hRR]; exact hl)
  rw [if_pos (by rw [e2]; decide)]
  have e3:((QE 0 m a).1:Int)+1=(m.length:Int):=by omega
  rw [e3,Int.emod_self]
  rfl
 ·rw [if_neg hl,Qmv hs a0 (by rw [hRR]; omega)]
  obtain ⟨_,s,h2,h3,h4,h5⟩:=QaY (m:=m) (k:=0) (a:=a) hs a0 (by rw [hRR]; exact a1)
  rw [Nat.sub_zero] at h2
  have h6:=(List.getElem?_eq_some_iff.1 h2).1
  by_cases h1:(QE 0 m a).2.2=1
  ·rw [if_pos h1,if_pos (by omega)]
   have hlt:(QE 0 m a).1+1< m.length:=by
    have key:=Qmv (k:=0) hs a0 (by rw [hRR]; omega:a+1< QG (-1) m)
    rw [if_pos h1] at key
    obtain ⟨_,s',h2',_⟩:=QaY (m:=m) (k:=0) (a:=a+1) hs (by omega) (by rw [hRR]; omega)
    rw [key,Nat.sub_zero] at h2'
    exact (List.getElem?_eq_some_iff.1 h2').1
   have e4:(((QE 0 m a).1:Int)+1) % (m.length:Int)=(((QE 0 m a).1+1:Nat):Int):=by rw [Int.emod_eq_of_lt (by omega) (by omega)]; omega
   rw [e4,Int.toNat_natCast,Nat.sub_zero]
  ·rw [if_neg h1,if_neg (by omega)]
structure HK (x:QC):Prop where
 pol:polM x.1=0
 mem:QJ x.2.1=0∧x.2.1.length=192
 len:x.2.2.1.length=x.1.1.length
 harts: ∀h∈x.2.2.1,hartM h=0
 clock:0≤x.2.2.2.2.2.1∧x.2.2.2.2.2.1≤1000000
 slot:x.2.2.2.1=(QaP x.1 x.2.2.2.2.2.1).1
 left:x.2.2.2.2.1=(QaP x.1 x.2.2.2.2.2.1).2
theorem HK.ok {x:QC} (h:HK x):OkPol x.1:=Qfi h.pol
theorem QhT: ∀{m:List QO},Qhs m=none↔ ∀h∈m,hartM h=0:=by
 have key: ∀{m:List QO} {i:Nat},scan (fun (_:Nat) h=>nz (hartM h)) i m=none↔ ∀h∈m,hartM h=0:=by
  intro m
  induction m with
  | nil=>intro i; simp [scan]
  | cons y r ih=>
   intro i
   simp only [scan]
   by_cases hy:hartM y=0
   ·have:nz (hartM y)=none:=by unfold nz; rw [if_neg (by simpa using hy)]
    rw [this]
    simp only
    rw [ih]
    simp [hy]
   ·have:nz (hartM y)=some (hartM y):=by unfold nz; rw [if_pos hy]
    rw [this]
    simp [hy]
 intro m
 unfold Qhs
 exact key
theorem HK.of {x:QC} (h:Qcd x=0):HK x:=by
 have hp:=Qfd h
 unfold Qcd at h
 rw [if_neg (by simpa using hp)] at h
 split at h
 ·rename_i g
  cases hh:Qhs x.2.2.1 with
  | some c=>
   rw [hh] at h
   have:c≠0:=by
    have: ∀{m:List QO} {i:Nat} {c:Int},scan (fun (_:Nat) h=>nz (hartM h)) i m=some c→c≠0:=by
     intro m
     induction m with
     | nil=>intro i c h; simp [scan] at h
     | cons y r ih=>
      intro i c h
      simp only [scan] at h
      split at h
      ·rename_i c' hc'
       obtain rfl:=Osj h
       unfold nz at hc'
       split at hc'
       ·obtain rfl:=Osj hc'; assumption
       ·cases hc'
      ·exact ih h
    exact this hh
   exact absurd h this
  | none=>
   rw [hh] at h
   simp only at h
   split at h
   ·rename_i hc
    split at h
    ·rename_i hs
     exact ⟨hp,g.1,g.2,QhT.1 hh,QcM.1 hc,hs.1,hs.2⟩
    ·cases h
   ·cases h
 ·cases h
theorem HK.to {x:QC} (h:HK x):Qcd x=0:=by
 unfold Qcd
 rw [if_neg (by simpa using h.pol),if_pos ⟨h.mem,h.len⟩,QhT.2 h.harts]
 simp only
 rw [if_pos (QcM.2 h.clock),if_pos ⟨h.slot,h.left⟩]
theorem QiX {h:QO} (hh:hartM h=0):Qcc 1048576 h:=by
 unfold hartM at hh
 split at hh
 ·rename_i c1
  split at hh
  ·split at hh
   ·rename_i c3
    exact ⟨by omega,by omega,by omega,by omega⟩
   ·cases hh
  ·cases hh
 ·cases hh
theorem Qiv {p:PolD} (h:OkPol p):QgZ 1048576 p:=by
 have h1:=h.own; have h2:=h.lanes.1; have h3:=h.bells.1; have h4:=h.plan.2
 exact ⟨⟨by omega,fun l hl=>by have:=(h.own1 l hl).2.1; omega⟩,by omega,by omega,by omega⟩
theorem HK.le {x:QC} (h:HK x):QdM 1048576 x:=by
 have h1:=h.mem.2; have h2:=h.len; have h3:=h.ok.own
 exact ⟨Qiv h.ok,by omega,by omega,fun y hy=>QiX (h.harts y hy)⟩
abbrev QdU:=List (List Int)×List QL×List TwoD×List TwoD×List Int×List QO×Int×Int×Int×Unit
def boxH (x:QC):QdU:=(x.1.1,x.1.2.1,x.1.2.2.1,x.1.2.2.2.1,x.2.1,x.2.2.1,x.2.2.2.1,x.2.2.2.2.1,x.2.2.2.2.2.1,())
def Qqs (h:QO):QO:=(h.1,h.2.1,h.2.2.1,h.2.2.2.1,h.2.2.2.2.1,true,h.2.2.2.2.2.2)
def Qbd (k:Int) (hs:List QO):List QO:=hs.set k.toNat (Qqs (hs.getD k.toNat Qam))
def turnG (x:QC):Int:=(x.1.2.2.2.1.getD x.2.2.2.1.toNat (0,0,())).1
def QR (x:QC):Mc:=Qag (Mc.of (x.2.2.1.getD (turnG x).toNat Qam) x.2.1) (pgM x.1 (turnG x))
def QQ (x:QC):List QO:=x.2.2.1.set (turnG x).toNat (QR x).hart
def QbR (x:QC):Bool:=x.1.2.2.1.any (Qal (turnG x,(QR x).ring,()))
def QaU (x:QC):QC:=
 (x.1,(QR x).m,(if QbR x=true then Qbd (QR x).ring (QQ x) else QQ x),(QeK x.1.2.2.2.1 x.2.2.2.1 x.2.2.2.2.1).1,(QeK x.1.2.2.2.1 x.2.2.2.1 x.2.2.2.2.1).2,x.2.2.2.2.2.1+1,())
theorem Qtm {p:PolD} (hok:OkPol p): ∀b∈p.2.2.1,isG p b.1=true∧isG p b.2.1=true∧b.1≠b.2.1:=by
 intro b hb
 obtain ⟨i,e⟩:=Qbg hok.bells.2 b hb
 have e:=Qmg e
 unfold QeQ at e
 split at e
 ·rename_i h; exact absurd e h
 ·rename_i h0
  have h0:QcA p b.1 b.2.1=0:=by simpa using h0
  unfold QcA at h0
  split at h0
  ·split at h0
   ·split at h0
    ·cases h0
    ·exact ⟨‹_›, ‹_›, ‹_›⟩
   ·cases h0
  ·cases h0
theorem HK.turn {x:QC} (h:HK x):(0≤x.2.2.2.1∧x.2.2.2.1< (x.1.2.2.2.1.length:Int))∧(1≤x.2.2.2.2.1∧x.2.2.2.2.1≤50)∧isG x.1 (turnG x)=true∧x.1.2.2.2.1[x.2.2.2.1.toNat]?=some (x.1.2.2.2.1.getD x.2.2.2.1.toNat (0,0,())):=by
 have ht:=QuP h.ok x.2.2.2.2.2.1
 rw [←h.slot, ←h.left] at ht
 have hlt:x.2.2.2.1.toNat< x.1.2.2.2.1.length:=by omega
 refine ⟨ht.1,ht.2,(h.ok.slots _ (QaC (d:=(0,0,())) hlt)).1,?_⟩
 rw [List.getD_eq_getElem?_getD,List.getElem?_eq_getElem hlt]
 rfl
theorem HK.guest {x:QC} (h:HK x) {g:Int} (hg:isG x.1 g=true):(0≤g∧g< (x.2.2.1.length:Int))∧x.2.2.1[g.toNat]?=some (x.2.2.1.getD g.toNat Qam)∧hartM (x.2.2.1.getD g.toNat Qam)=0:=by
 have hgi:=Qbr.1 hg
 have hl:=h.len
 have hlt:g.toNat< x.2.2.1.length:=by omega
 refine ⟨by omega,?_,h.harts _ (QaC hlt)⟩
 rw [List.getD_eq_getElem?_getD,List.getElem?_eq_getElem hlt]
 rfl
theorem HK.okL {x:QC} (h:HK x) {g:Int} (hg:isG x.1 g=true):OkL (pgM x.1 g) x.2.1:=by
 have hm:=h.mem
 have hw:allW x.2.1=true:=by
  have h1:=h.mem.1
  unfold QJ at h1
  rw [if_pos (QfW h.mem.1)] at h1
  split at h1
  ·assumption
  ·cases h1
 refine ⟨QeC _ _,fun q hq=>?_,Qao.1 hw,by omega⟩
 have:=Qpc h.ok hg q hq
 omega
theorem HK.okS {x:QC} (h:HK x):OkS (Mc.of (x.2.2.1.getD (turnG x).toNat Qam) x.2.1) (pgM x.1 (turnG x)):=QuZ (h.guest h.turn.2.2.1).2.2 (h.okL h.turn.2.2.1)
theorem HK.okT {x:QC} (h:HK x):OkS (QR x) (pgM x.1 (turnG x)):=QjJ h.okS
theorem Qpj {h:QO} (hh:hartM h=0):hartM (Qqs h)=0:=hh
theorem Qiw {x:QC} (h:HK x) (hr:QbR x=true):isG x.1 (QR x).ring=true:=by
 unfold QbR at hr
 obtain ⟨b,hb,e⟩:=List.any_eq_true.1 hr
 unfold Qal at e
 simp only [Bool.and_true,Bool.and_eq_true,beq_iff_eq] at e
 rw [e.2]
 exact (Qtm h.ok b hb).2.1
theorem QbG (x:QC):(QQ x).length=x.2.2.1.length:=by unfold QQ; simp
theorem Qfc {x:QC} (h:HK x): ∀y∈QQ x,hartM y=0:=by
 intro y hy
 unfold QQ at hy
 rcases List.mem_or_eq_of_mem_set hy with hy | rfl
 ·exact h.harts y hy
 ·exact h.okT.hartM
theorem QjK {x:QC} (h:HK x):(QR x).m.length=192:=by unfold QR; rw [QjI]; exact h.mem.2
theorem HK.next {x:QC} (h:HK x) (hc:x.2.2.2.2.2.1< 1000000):HK (QaU x):=by
 have hl:=h.okT.l
 refine ⟨h.pol,⟨?_,QjK h⟩,?_,?_,?_,?_,?_⟩
 ·show QJ (QR x).m=0
  unfold QJ
  rw [QjK h,if_pos (by decide),if_pos (Qao.2 hl.words)]
 ·show (if QbR x=true then Qbd (QR x).ring (QQ x) else QQ x).length=_
  split
  ·unfold Qbd; rw [List.length_set,QbG]; exact h.len
  ·rw [QbG]; exact h.len
 ·show ∀y∈(if QbR x=true then Qbd (QR x).ring (QQ x) else QQ x),hartM y=0
  split
  ·rename_i hr
   have hg:=Qbr.1 (Qiw h hr)
   intro y hy
   unfold Qbd at hy
   rcases List.mem_or_eq_of_mem_set hy with hy | rfl
   ·exact Qfc h y hy
   ·exact Qpj (Qfc h _ (QaC (by rw [QbG,h.len]; omega)))
  ·exact Qfc h
 ·have:=h.clock
  show 0≤x.2.2.2.2.2.1+1∧x.2.2.2.2.2.1+1≤1000000
  omega
 ·show (QeK x.1.2.2.2.1 x.2.2.2.1 x.2.2.2.2.1).1=(QaP x.1 (x.2.2.2.2.2.1+1)).1
  rw [Qlx h.ok h.clock.1, ←h.slot, ←h.left]
 ·show (QeK x.1.2.2.2.1 x.2.2.2.1 x.2.2.2.2.1).2=(QaP x.1 (x.2.2.2.2.2.1+1)).2
  rw [Qlx h.ok h.clock.1, ←h.slot, ←h.left]
theorem Dr.gatE {X Y:Type} {xs:List X} {i:Int} {n:Nat} {f:X→Option Y} {P:Y→Prop} (hn:xs.length=n) (h:0≤i∧i< (n:Int)) (k: ∀y,xs[i.toNat]?=some y→Dr (f y) P):Dr (if 0≤i∧i< ((xs.length:Nat):Int) then (xs[i.toNat]?).bind f else none) P:=by
 subst hn
 exact Dr.guard h (Dr.get (by omega) fun y _ hy=>k y hy)
theorem QnP (k:Int) (hs:List QO):Qbd k (Qbd k hs)=Qbd k hs:=by
 unfold Qbd
 by_cases hk:k.toNat< hs.length
 ·rw [List.set_set]
  congr 1
  rw [List.getD_eq_getElem?_getD,List.getElem?_set_self hk]
  rfl
 ·rw [List.set_eq_of_length_le (by simp; omega)]
def QdP (g k:Int):List TwoD→List QO→List QO
 | [],hs=>hs
 | b::r,hs=>QdP g k r (if Qal (g,k,()) b=true then Qbd k hs else hs)
theorem Qfr (g k:Int): ∀(r:List TwoD) (hs:List QO),QdP g k r (Qbd k hs)=Qbd k hs
 | [],_=>rfl
 | b::r,hs=>by
  rw [QdP]
  split
  ·rw [QnP,Qfr g k r]
  ·exact Qfr g k r hs
theorem Qjs (g k:Int): ∀(r:List TwoD) (hs:List QO),QdP g k r hs=if r.any (Qal (g,k,()))=true then Qbd k hs else hs
 | [],_=>rfl
 | b::r,hs=>by
  rw [QdP,List.any_cons]
  by_cases hb:Qal (g,k,()) b=true
  ·rw [if_pos hb,Qfr,if_pos (by simp [hb])]
  ·have hb':Qal (g,k,()) b=false:=by simpa using hb
   rw [if_neg hb,Qjs g k r,hb',Bool.false_or]
def QnK (b:QdU) (hs:List QO):QdU:=(b.1,b.2.1,b.2.2.1,b.2.2.2.1,b.2.2.2.2.1,hs,b.2.2.2.2.2.2.1,b.2.2.2.2.2.2.2.1,b.2.2.2.2.2.2.2.2.1,())
theorem Qpz (b:QdU) (g k:Int) (hb:b.2.2.1.length≤1000) (hk: ∀y∈b.2.2.1,Qal (g,k,()) y=true→0≤k∧k< (b.2.2.2.2.2.1.length:Int)):
  F_bs (b,g,k,())=some ((),(QnK b (if b.2.2.1.any (Qal (g,k,()))=true then Qbd k b.2.2.2.2.2.1 else b.2.2.2.2.2.1),())):=by
 rw [←Qjs]
 refine Dr.eq ?_
 unfold F_bs
 have k1:Dr (L_bs_1 (((),(g,(k,((0:Int),())))),((b,()),()))) fun o=>o= .inl ((),((QnK b (QdP g k b.2.2.1 b.2.2.2.2.2.1),()),())):=by
  refine Qat (fun n u=> ∃(i:Nat) (hs:List QO),u=(((),(g,(k,((i:Int),())))),((QnK b hs,()),()))∧n=b.2.2.1.length-i∧i≤b.2.2.1.length∧hs.length=b.2.2.2.2.2.1.length∧QdP g k (b.2.2.1.drop i) hs=QdP g k b.2.2.1 b.2.2.2.2.2.1) ?_ _ _ ⟨0,_,rfl,rfl,Nat.zero_le _,rfl,rfl⟩ (by rw [QS]; omega)
  rintro rec n _ ⟨i,hs,rfl,hn,hi,hl,he⟩ ih
  unfold l_bs_1 QnK
  dsimp only
  by_cases hlt:i< b.2.2.1.length
  case neg=>
   rw [if_neg (lt_f hlt)]
   rw [List.drop_of_length_le (by omega)] at he
   exact Dr.ret (by rw [←he]; rfl)
  rw [if_pos (lt_t hlt),if_pos nat0,Qu hlt,QY (by omega)]
  rw [List.drop_eq_getElem_cons hlt,QdP] at he
  have hky:=hk _ (List.getElem_mem hlt)
  generalize b.2.2.1[i]=y at*
  have skip: ¬Qal (g,k,()) y=true→Dr (rec (((),(g,(k,(((i+1:Nat):Int),())))),(((b.1,b.2.1,b.2.2.1,b.2.2.2.1,b.2.2.2.2.1,hs,b.2.2.2.2.2.2.1,b.2.2.2.2.2.2.2.1,b.2.2.2.2.2.2.2.2.1,()),()),()))) fun o=>o= .inl ((),(((b.1,b.2.1,b.2.2.1,b.2.2.2.1,b.2.2.2.2.1,QdP g k b.2.2.1 b.2.2.2.2.2.1,b.2.2.2.2.2.2.1,b.2.2.2.2.2.2.2.1,b.2.2.2.2.2.2.2.2.1,()),()),())):=fun hn'=>by
   rw [if_neg hn'] at he
   exact ih (n-1) _ (by omega) ⟨i+1,hs,rfl,by omega,by omega,hl,he⟩
  by_cases h1:y.1=g
  ·rw [if_pos (by simpa using h1)]
   by_cases h2:y.2.1=k
   ·have hs':Qal (g,k,()) y=true:=by unfold Qal; simp [h1,h2]
    have hkk:=hky hs'
    rw [if_pos hs'] at he
    rw [if_pos (by simpa using h2)]
    refine Dr.gatE (n:=hs.length) rfl (by omega) fun z hz=>ih (n-1) _ (by omega) ⟨i+1,_,rfl,by omega,by omega,by simpa using hl,?_⟩
    rw [←he]
    unfold Qbd
    rw [List.getD_eq_getElem?_getD,hz]
    rfl
   ·rw [if_neg (by simpa using h2)]
    exact skip (by unfold Qal; simp; intro _ e; exact absurd e.symm h2)
  ·rw [if_neg (by simpa using h1)]
   exact skip (by unfold Qal; simp; intro e; exact absurd e.symm h1)
 refine k1.bind fun o ho=>?_
 subst ho
 exact Dr.ret rfl
theorem Qoa {x:QC} (h:HK x) (hc:x.2.2.2.2.2.1< 1000000):F_bt (boxH x,())=some ((),(boxH (QaU x),())):=by
 obtain ⟨h1,h2,h3,h4⟩:=h.turn
 obtain ⟨g1,g2,g3⟩:=h.guest h3
 have hS:=h.okS
 have hfr:FR (QR x):=Qoe (Mc.of (x.2.2.1.getD (turnG x).toNat Qam) x.2.1) (pgM x.1 (turnG x))
 have hstep:F_br ((Mc.of (x.2.2.1.getD (turnG x).toNat Qam) x.2.1).bus (pgM x.1 (turnG x)),())=some ((),((QR x).bus (pgM x.1 (turnG x)),())):=QpA hS
 have hm:=h.mem.2
 have hrang:=Qiw h
 have hcl:=h.clock
 have hle:=QiX g3
 have hpl:=h.ok.plan
 refine Dr.eq ?_
 unfold F_bt
 refine Dr.guard h1.1 (Dr.step h4 (Dr.guard g1 (Dr.step g2 (Dr.step (QnV h.ok h3) (Dr.step (QrZ _ _ _ hle (by show x.2.1.length≤1048576; omega)) (Dr.step hstep ?_))))))
 refine Dr.guard g1 (Dr.step g2 ?_)
 have e1:IntKind.i64.wrap (x.2.2.2.2.2.1+1)=x.2.2.2.2.2.1+1:=Qn (by omega) (by omega)
 have e2:IntKind.i64.wrap (x.2.2.2.2.1-1)=x.2.2.2.2.1-1:=Qn (by omega) (by omega)
 have e3:IntKind.i64.wrap (x.2.2.2.1+1)=x.2.2.2.1+1:=Qn (by omega) (by omega)
 have hpos:0< (x.1.2.2.2.1.length:Int):=by omega
 have hmod:(x.2.2.2.1+1).tmod ((x.1.2.2.2.1.length:Nat):Int)=(x.2.2.2.1+1) % (x.1.2.2.2.1.length:Int):=Int.tmod_eq_emod_of_nonneg (by omega)
 have m0:=Int.emod_nonneg (x.2.2.2.1+1) (b:=(x.1.2.2.2.1.length:Int)) (by omega)
 have m1:=Int.emod_lt_of_pos (x.2.2.2.1+1) (b:=(x.1.2.2.2.1.length:Int)) hpos
 have hmi:((x.2.2.2.1+1) % (x.1.2.2.2.1.length:Int)).toNat< x.1.2.2.2.1.length:=by omega
 have hd:x.1.2.2.2.1[((x.2.2.2.1+1) % (x.1.2.2.2.1.length:Int)).toNat]?=some (x.1.2.2.2.1.getD ((x.2.2.2.1+1) % (x.1.2.2.2.1.length:Int)).toNat (0,0,())):=by
  rw [List.getD_eq_getElem?_getD,List.getElem?_eq_getElem hmi]; rfl
 --what is behind the bell
 have fin: ∀hs:List QO,hs=(if QbR x=true then Qbd (QR x).ring (QQ x) else QQ x)→
   (∀(a:Int),a=x.2.2.2.2.1-1→Dr (if (a==(0:Int))=true then (if ((x.1.2.2.2.1.length:Nat):Int)=0 then none else if 0≤(x.2.2.2.1+1).tmod ((x.1.2.2.2.1.length:Nat):Int) then (x.1.2.2.2.1[((x.2.2.2.1+1).tmod ((x.1.2.2.2.1.length:Nat):Int)).toNat]?).bind fun y=>some ((),((x.1.1,x.1.2.1,x.1.2.2.1,x.1.2.2.2.1,(QR x).m,hs,(x.2.2.2.1+1).tmod ((x.1.2.2.2.1.length:Nat):Int),y.2.1,x.2.2.2.2.2.1+1,()),())) else none)
    else some ((),((x.1.1,x.1.2.1,x.1.2.2.1,x.1.2.2.2.1,(QR x).m,hs,x.2.2.2.1,a,x.2.2.2.2.2.1+1,()),()))) fun r=>r=((),(boxH (QaU x),()))):=by
  rintro hs rfl a rfl
  rw [hmod]
  by_cases hz:x.2.2.2.2.1-1=0
  ·refine Dr.pos (by simpa using hz) (Dr.nguard (by omega) (Dr.guard m0 (Dr.step hd (Dr.ret ?_))))
   unfold boxH QaU QeK
   dsimp only
   rw [if_pos hz]
  ·refine Dr.neg (by simpa using hz) (Dr.ret ?_)
   unfold boxH QaU QeK
   dsimp only
   rw [if_neg hz]
 by_cases hr:0≤(QR x).ring
 ·refine Dr.pos (Qbb.2 hr) ?_
  have hring:=Qpz (QnK (boxH (x.1,(QR x).m,x.2.2.1,x.2.2.2.1,x.2.2.2.2.1,x.2.2.2.2.2.1,())) (QQ x)) (turnG x) (QR x).ring (by have:=h.ok.bells.1; show x.1.2.2.1.length≤1000; omega) (fun y hy hs=>by
   have hin:QbR x=true:=List.any_eq_true.2 ⟨y,hy,hs⟩
   have:=Qbr.1 (hrang hin)
   show 0≤(QR x).ring∧(QR x).ring< ((QQ x).length:Int)
   rw [QbG,h.len]
   exact this)
  refine Dr.step hring ?_
  have q:=fin (if QbR x=true then Qbd (QR x).ring (QQ x) else QQ x) rfl (IntKind.i64.wrap (x.2.2.2.2.1-1)) e2
  rw [←e1, ←e3] at q
  exact q
 ·refine Dr.neg (by rw [Qbb]; exact hr) ?_
  have hno: ¬QbR x=true:=fun hin=>hr (by have:=Qbr.1 (hrang hin); omega)
  have q:=fin (QQ x) (by rw [if_neg hno]) (IntKind.i64.wrap (x.2.2.2.2.1-1)) e2
  rw [←e1, ←e3] at q
  exact q
theorem Qjc {h:QO} {l:List TwoD} {m:List Int} (hh:Qcc 1048576 h) (hm:m.length≤1048576) (ho:OkS (Mc.of h m) l):F_fe (h,l,m,1,())=some (((Qag (Mc.of h m) l).res (Qag (Mc.of h m) l).fall (Qag (Mc.of h m) l).ring,()),()):=by
 rw [Qke h l m 1 hh hm ho (by decide),show (1:Int).toNat=1 from rfl]
 simp only [Qcn]
 obtain ⟨h1,h2⟩:=Qoe (Mc.of h m) l
 have e1:(if 0≤(Qag (Mc.of h m) l).fall then (Qag (Mc.of h m) l).fall else -1)=(Qag (Mc.of h m) l).fall:=by split <;> omega
 have e2:(if 0≤(Qag (Mc.of h m) l).ring then (Qag (Mc.of h m) l).ring else -1)=(Qag (Mc.of h m) l).ring:=by split <;> omega
 rw [e1,e2]
theorem QhW {x:QC} (h:HK x) (hc:x.2.2.2.2.2.1< 1000000):F_ff (boxH x,())=some ((),(boxH (QaU x),())):=by
 obtain ⟨h1,h2,h3,h4⟩:=h.turn
 obtain ⟨g1,g2,g3⟩:=h.guest h3
 have hS:=h.okS
 have hm:=h.mem.2
 have hrang:=Qiw h
 have hcl:=h.clock
 have hle:=QiX g3
 have hpl:=h.ok.plan
 have hturn:F_dp (x,())=some ((turnG x,()),()):=by
  refine Dr.eq ?_
  unfold F_dp
  exact Dr.guard h1.1 (Dr.step h4 (Dr.ret rfl))
 have hst:F_fe (x.2.2.1.getD (turnG x).toNat Qam,pgM x.1 (turnG x),x.2.1,1,())=some (((QR x).res (QR x).fall (QR x).ring,()),()):=Qjc hle (by omega) hS
 refine Dr.eq ?_
 unfold F_ff
 refine Dr.step hturn (Dr.guard g1 (Dr.step g2 (Dr.step (Qnk h.ok h3) (Dr.step hst ?_))))
 refine Dr.guard g1 (Dr.step g2 ?_)
 refine Dr.step (QhO (turnG x,(QR x).ring,()) x.1.2.2.1 (by have:=h.ok.bells.1; omega)) ?_
 have e1:IntKind.i64.wrap (x.2.2.2.2.2.1+1)=x.2.2.2.2.2.1+1:=Qn (by omega) (by omega)
 have e2:IntKind.i64.wrap (x.2.2.2.2.1-1)=x.2.2.2.2.1-1:=Qn (by omega) (by omega)
 have e3:IntKind.i64.wrap (x.2.2.2.1+1)=x.2.2.2.1+1:=Qn (by omega) (by omega)
 have hpos:0< (x.1.2.2.2.1.length:Int):=by omega
 have hmod:(x.2.2.2.1+1).tmod ((x.1.2.2.2.1.length:Nat):Int)=(x.2.2.2.1+1) % (x.1.2.2.2.1.length:Int):=Int.tmod_eq_emod_of_nonneg (by omega)
 have m0:=Int.emod_nonneg (x.2.2.2.1+1) (b:=(x.1.2.2.2.1.length:Int)) (by omega)
 have m1:=Int.emod_lt_of_pos (x.2.2.2.1+1) (b:=(x.1.2.2.2.1.length:Int)) hpos
 have hmi:((x.2.2.2.1+1) % (x.1.2.2.2.1.length:Int)).toNat< x.1.2.2.2.1.length:=by omega
 have hd:x.1.2.2.2.1[((x.2.2.2.1+1) % (x.1.2.2.2.1.length:Int)).toNat]?=some (x.1.2.2.2.1.getD ((x.2.2.2.1+1) % (x.1.2.2.2.1.length:Int)).toNat (0,0,())):=by
  rw [List.getD_eq_getElem?_getD,List.getElem?_eq_getElem hmi]; rfl
 have fin: ∀hs:List QO,hs=(if QbR x=true then Qbd (QR x).ring (QQ x) else QQ x)→
   (∀(a:Int),a=x.2.2.2.2.1-1→Dr (if (a==(0:Int))=true then (if ((x.1.2.2.2.1.length:Nat):Int)=0 then none else if 0≤(x.2.2.2.1+1).tmod ((x.1.2.2.2.1.length:Nat):Int) then (x.1.2.2.2.1[((x.2.2.2.1+1).tmod ((x.1.2.2.2.1.length:Nat):Int)).toNat]?).bind fun y=>some ((),((x.1.1,x.1.2.1,x.1.2.2.1,x.1.2.2.2.1,(QR x).m,hs,(x.2.2.2.1+1).tmod ((x.1.2.2.2.1.length:Nat):Int),y.2.1,x.2.2.2.2.2.1+1,()),())) else none)
    else some ((),((x.1.1,x.1.2.1,x.1.2.2.1,x.1.2.2.2.1,(QR x).m,hs,x.2.2.2.1,a,x.2.2.2.2.2.1+1,()),()))) fun r=>r=((),(boxH (QaU x),()))):=by
  rintro hs rfl a rfl
  rw [hmod]
  by_cases hz:x.2.2.2.2.1-1=0
  ·refine Dr.pos (by simpa using hz) (Dr.nguard (by omega) (Dr.guard m0 (Dr.step hd (Dr.ret ?_))))
   unfold boxH QaU QeK
   dsimp only
   rw [if_pos hz]
  ·refine Dr.neg (by simpa using hz) (Dr.ret ?_)
   unfold boxH QaU QeK
   dsimp only
   rw [if_neg hz]
 by_cases hin:QbR x=true
 ·refine Dr.pos hin ?_
  have hg:=Qbr.1 (hrang hin)
  refine Dr.gatE (n:=(QQ x).length) rfl (by rw [QbG,h.len]; exact hg) fun z hz=>?_
  have hz':(QQ x)[(QR x).ring.toNat]?=some z:=hz
  have ez:Qbd (QR x).ring (QQ x)=(QQ x).set (QR x).ring.toNat (Qqs z):=by
   unfold Qbd
   rw [List.getD_eq_getElem?_getD,hz']
   rfl
  have q:=fin ((QQ x).set (QR x).ring.toNat (Qqs z)) (by rw [if_pos hin,ez]) (IntKind.i64.wrap (x.2.2.2.2.1-1)) e2
  rw [←e1, ←e3] at q
  exact q
 ·refine Dr.neg hin ?_
  have q:=fin (QQ x) (by rw [if_neg hin]) (IntKind.i64.wrap (x.2.2.2.2.1-1)) e2
  rw [←e1, ←e3] at q
  exact q
theorem Qsd {X:Type} {xs:List X} {i:Nat} (h:i< xs.length):xs.take i++[xs[i]]=xs.take (i+1):=by
 rw [List.take_add_one,List.getElem?_eq_getElem h]
 rfl
theorem Qfs {X:Type} {xs:List X} {i:Nat} (h:i< xs.length):xs.set i xs[i]=xs:=by
 apply List.ext_getElem (by simp)
 intro j h1 h2
 rw [List.getElem_set]
 split
 ·rename_i e; subst e; rfl
 ·rfl
theorem Qkj {p:PolD} (hok:OkPol p):F_ac (p,())=some (((p.1,p.2.1,p.2.2.1,p.2.2.2.1,()),()),()):=by
 have hle:=Qiv hok
 have ho:=hok.own
 have hb:=hok.bells.1
 have hp:=hok.plan.2
 have hl:=hok.lanes.1
 refine Dr.eq ?_
 unfold F_ac
 dsimp only
 refine Dr.pos (by simp; omega) (.pos (by simp; omega) (.pos (by simp; omega) ?_))
 have k1:Dr (L_ac_3 (((),((),((),((0:Int),())))),((p,(([],([],([],([],())))),(([],([]++p.2.1,([]++p.2.2.1,([]++p.2.2.2.1,())))),()))),()))) fun o=>o= .inl (((),((),())),((([],([],([],([],())))),((p.1,(p.2.1,(p.2.2.1,(p.2.2.2.1,())))),())),())):=by
  refine Qat (fun n u=> ∃i:Nat,u=(((),((),((),((i:Int),())))),((p,(([],([],([],([],())))),((p.1.take i,([]++p.2.1,([]++p.2.2.1,([]++p.2.2.2.1,())))),()))),()))∧n=p.1.length-i∧i≤p.1.length) ?_ _ _ ⟨0,rfl,rfl,Nat.zero_le _⟩ (by rw [QS]; omega)
  rintro rec n _ ⟨i,rfl,hn,hi⟩ ih
  unfold l_ac_3
  dsimp only
  by_cases hlt:i< p.1.length
  case neg=>
   rw [if_neg (lt_f hlt),List.take_of_length_le (by omega)]
   exact Dr.ret rfl
  have hy:=(hok.own1 _ (List.getElem_mem hlt)).2.1
  rw [if_pos (lt_t hlt),if_pos nat0,Qu hlt,QY (by omega)]
  refine Dr.pos (by simp; omega) (.pos (by simp; omega) ?_)
  exact ih (n-1) _ (by omega) ⟨i+1,by rw [List.nil_append,Qsd hlt],by omega,by omega⟩
 refine k1.bind fun o h=>?_
 subst h
 exact Dr.ret rfl
theorem Qkb {p:PolD} (hok:OkPol p):F_dl (p,())=some (((p.1,p.2.1,p.2.2.1,p.2.2.2.1,()),()),()):=by
 have hle:=Qiv hok
 have ho:=hok.own
 have hb:=hok.bells.1
 have hp:=hok.plan.2
 have hl:=hok.lanes.1
 refine Dr.eq ?_
 unfold F_dl F_dg
 dsimp only
 rw [if_pos (by simp; omega),Obn]
 have k1:Dr (L_dl_3 (((),((),(((p.1.length:Nat):Int),((0:Int),())))),(((p.1,(p.2.1,(p.2.2.1,(p.2.2.2.1,())))),(([],([],([],([],())))),())),()))) fun o=>o= .inl (((),((),())),(((p.1,(p.2.1,(p.2.2.1,(p.2.2.2.1,())))),(([],([],([],([],())))),())),())):=by
  refine Qat (fun n u=> ∃i:Nat,u=(((),((),(((p.1.length:Nat):Int),((i:Int),())))),(((p.1,(p.2.1,(p.2.2.1,(p.2.2.2.1,())))),(([],([],([],([],())))),())),()))∧n=p.1.length-i∧i≤p.1.length) ?_ _ _ ⟨0,rfl,rfl,Nat.zero_le _⟩ (by rw [QS]; omega)
  rintro rec n _ ⟨i,rfl,hn,hi⟩ ih
  unfold l_dl_3
  dsimp only
  by_cases hlt:i< p.1.length
  case neg=>
   rw [if_neg (lt_f hlt)]
   exact Dr.ret rfl
  have hy:=(hok.own1 _ (List.getElem_mem hlt)).2.1
  rw [if_pos (lt_t hlt),if_pos ⟨nat0,Int.ofNat_lt.2 hlt⟩,Qu hlt,QY (by omega),QcR (by omega),Obn,if_pos ⟨nat0,Int.ofNat_lt.2 hlt⟩,Qu hlt,Int.toNat_natCast]
  dsimp only
  rw [Qfs hlt]
  exact ih (n-1) _ (by omega) ⟨i+1,rfl,by omega,by omega⟩
 refine k1.bind fun o h=>?_
 subst h
 unfold F_di F_dj F_dk
 dsimp only
 rw [if_pos (by simp; omega),Obn,if_pos (by simp; omega),Obn,if_pos (by simp; omega),Obn]
 exact Dr.ret rfl
theorem QhU {x:QC} (h:HK x):F_do (x,())=some ((boxH x,()),()):=by
 have hle:=h.le
 have hm:=h.mem.2
 have hh:=hle.2.2.1
 refine Dr.eq ?_
 unfold F_do
 refine Dr.step (Qkb h.ok) (.step (QcR (q:=x.2.1) (by omega)) ?_)
 unfold F_dm
 dsimp only
 rw [if_pos (by simp; omega),Obn]
 have k1:Dr (L_do_5 (((),((),(((x.2.2.1.length:Nat):Int),((0:Int),())))),((boxH x,(([],([],([],([],([],([],((0:Int),((0:Int),((0:Int),()))))))))),())),()))) fun o=>o= .inl (((),((),())),((boxH x,(([],([],([],([],([],([],((0:Int),((0:Int),((0:Int),()))))))))),())),())):=by
  refine Qat (fun n u=> ∃i:Nat,u=(((),((),(((x.2.2.1.length:Nat):Int),((i:Int),())))),((boxH x,(([],([],([],([],([],([],((0:Int),((0:Int),((0:Int),()))))))))),())),()))∧n=x.2.2.1.length-i∧i≤x.2.2.1.length) ?_ _ _ ⟨0,rfl,rfl,Nat.zero_le _⟩ (by rw [QS]; omega)
  rintro rec n _ ⟨i,rfl,hn,hi⟩ ih
  unfold l_do_5 boxH
  dsimp only
  by_cases hlt:i< x.2.2.1.length
  case neg=>
   rw [if_neg (lt_f hlt)]
   exact Dr.ret rfl
  rw [if_pos (lt_t hlt),if_pos ⟨nat0,Int.ofNat_lt.2 hlt⟩,Qu hlt,QY (by omega),QiY _ (hle.2.2.2 _ (List.getElem_mem hlt)),Obn,if_pos ⟨nat0,Int.ofNat_lt.2 hlt⟩,Qu hlt,Int.toNat_natCast]
  dsimp only
  rw [Qfs hlt]
  exact ih (n-1) _ (by omega) ⟨i+1,rfl,by omega,by omega⟩
 refine k1.bind fun o h=>?_
 subst h
 exact Dr.ret rfl
abbrev QmF:=List Int×Int×List Int×Bool×Bool×Bool×Int×List Int×List Int×List Int×List Int×Unit
def QlG (x:QC) (g:Int):QmF:=(QlF 0 (x.2.2.1.getD g.toNat Qam) (Qbx x.2.1 (x.1.1.getD g.toNat [])) (Qbx x.2.1 (QbF g true x.1.2.1))).2
def vD (r:QmF):QuU:=((r.1,r.2.1,r.2.2.1,r.2.2.2.1,r.2.2.2.2.1,r.2.2.2.2.2.1,r.2.2.2.2.2.2.1,r.2.2.2.2.2.2.2.1,r.2.2.2.2.2.2.2.2.1,()),r.2.2.2.2.2.2.2.2.2.1,r.2.2.2.2.2.2.2.2.2.2.1,())
theorem Qoo {x:QC} {g:Int} (h:HK x) (hg:isG x.1 g=true):QlE x g=(0,QlG x g):=by
 unfold QlE QlG
 rw [if_neg (by simpa using h.to),if_pos hg]
 rfl
def Qqt (v w:QmF):Bool:=match F_fu (vD v,vD w,()) with
 | some r=>r.1.1
 | none=>false
theorem QuH {v w:QmF} (h:Qmy maxLen (vD v)):True∧F_fu (vD v,vD w,())=some ((Qqt v w,()),()):=by
 obtain ⟨b,_,e2⟩:=QtT (vD v,vD w,()) h
 unfold Qqt
 rw [e2]
 exact ⟨trivial,rfl⟩
theorem QtS {x:QC} {g:Int} (h:HK x) (hg:isG x.1 g=true):Qmy maxLen (vD (QlG x g)):=by
 have:=QtR x g h.le
 rw [Qoo h hg] at this
 obtain ⟨h1,h2,h3,h4,h5,h6⟩:=this
 exact ⟨⟨leM h1,leM h2,leM h3,leM h4⟩,leM h5,leM h6⟩
def setM (s:QbA) (m:List Int):QbA:=(s.1,s.2.1,m,())
def Qvb (s:QbA) (h:QO):QbA:=((s.1.1,s.1.2.1,s.1.2.2.1,s.1.2.2.2.1,s.1.2.2.2.2.1,h.2.2.2.2.2.1,s.1.2.2.2.2.2.2),s.2.1,s.2.2.1,())
theorem QjY {m:List Int} (h:QJ m=0): ∀w∈m,WW w:=by
 unfold QJ at h
 split at h
 ·split at h
  ·exact Qao.1 ‹_›
  ·cases h
 ·cases h
theorem QsK {m:List Int} (hl:m.length=64) (h: ∀w∈m,WW w):QJ m=0:=by
 unfold QJ
 rw [if_pos (by rw [hl]; decide),if_pos (Qao.2 h)]
theorem QjC {s:QbA} (h1:hartM s.1=0) (h2:QhD s.2.1 8=0) (h3:s.2.2.1.length=64) (h4: ∀w∈s.2.2.1,WW w):QcN s=0:=by
 unfold QcN
 rw [if_neg (by simpa using h1),if_neg (by simpa using h2),if_pos ⟨QsK h3 h4,h3⟩]
theorem Qpn {s:QbA} (h:QcN s=0) {m:List Int} (hl:m.length=64) (hw: ∀w∈m,WW w):QcN (setM s m)=0:=by
 obtain ⟨h1,h2,h3,h4⟩:=QfM h
 exact QjC h1 h2 hl hw
theorem QnS {s:QbA} (h:QcN s=0) (y:QO):QcN (Qvb s y)=0:=by
 obtain ⟨h1,h2,h3,h4⟩:=QfM h
 exact QjC h1 h2 h4 (QjY h3)
def QeX (m:List Int) (g:Int):List QL→List Int→List Int
 | [],q=>q
 | l::r,q=>QeX m g r (if l.2.1=g then Qif q l.2.2.2.2.1.toNat (pg m l.2.2.1) else q)
theorem QnL {s ws:List Int} {k:Nat} (h1: ∀w∈s,WW w) (h2: ∀w∈ws,WW w): ∀w∈Qif s k ws,WW w:=by
 intro w hw
 unfold Qif at hw
 rcases List.mem_append.1 hw with hw | hw
 ·exact h1 w (List.mem_of_mem_take hw)
 ·rcases List.mem_append.1 hw with hw | hw
  ·exact h2 w hw
  ·exact h1 w (List.mem_of_mem_drop hw)
theorem Qtz {m:List Int} {p:Int} (h: ∀w∈m,WW w): ∀w∈pg m p,WW w:=fun w hw=>h w (List.mem_of_mem_drop (List.mem_of_mem_take hw))
theorem Qqe {x:QC} (h:HK x) {l:QL} (hl:l∈x.1.2.1):(0≤l.2.2.1∧8*l.2.2.1+8≤(x.2.1.length:Int))∧(0≤l.2.2.2.2.1∧l.2.2.2.2.1< 8)∧(pg x.2.1 l.2.2.1).length=8∧ ∀w∈pg x.2.1 l.2.2.1,WW w:=by
 have hm:=h.mem.2
 obtain ⟨_,h2,h3,h4⟩:=QcI h.ok l hl
 have e:0≤l.2.2.1∧8*l.2.2.1+8≤(x.2.1.length:Int):=by omega
 exact ⟨e,by omega,QuA e,Qtz (QjY h.mem.1)⟩
theorem QiQ {x:QC} (h:HK x) {g:Int}: ∀{r:List QL} {q:List Int},(∀l∈r,l∈x.1.2.1)→q.length=64→(∀w∈q,WW w)→(QeX x.2.1 g r q).length=64∧ ∀w∈QeX x.2.1 g r q,WW w
 | [],q,_,h1,h2=>⟨h1,h2⟩
 | l::r,q,hr,h1,h2=>by
  obtain ⟨_,l2,l3,l4⟩:=Qqe h (hr l (by simp))
  rw [QeX]
  split
  ·exact QiQ h (fun y hy=>hr y (List.mem_cons_of_mem _ hy)) (QhE h1 (by omega) l3) (QnL h2 l4)
  ·exact QiQ h (fun y hy=>hr y (List.mem_cons_of_mem _ hy)) h1 h2
def fedS (x:QC) (s:QbA) (g:Int):QbA:=setM s (QeX x.2.1 g x.1.2.1 s.2.2.1)
def Qii (x:QC) (s:QbA) (g:Int):QbA:=Qvb (fedS x s g) (x.2.2.1.getD g.toNat Qam)
def Qhd (x:QC) (s:QbA) (g:Int):Mc:=Qag (Mc.of (Qii x s g).1 (Qii x s g).2.2.1) (Qii x s g).2.1
def Qve (x:QC) (s:QbA) (g:Int):QbA:=((Qhd x s g).hart,s.2.1,(Qhd x s g).m,())
theorem Quh {x:QC} {s:QbA} (g:Int) (hx:HK x) (hs:QcN s=0):QcN (fedS x s g)=0:=by
 obtain ⟨h1,h2,h3,h4⟩:=QfM hs
 obtain ⟨f1,f2⟩:=QiQ hx (g:=g) (r:=x.1.2.1) (q:=s.2.2.1) (fun _ h=>h) h4 (QjY h3)
 exact Qpn hs f1 f2
theorem QtF {x:QC} {s:QbA} (g:Int) (hx:HK x) (hs:QcN s=0):QcN (Qii x s g)=0:=QnS (Quh g hx hs) _
theorem QtH {x:QC} {s:QbA} (g:Int) (hx:HK x) (hs:QcN s=0):QcN (Qve x s g)=0:=by
 have hr:=QtF g hx hs
 have ho:OkS (Qhd x s g) (Qii x s g).2.1:=QjJ (Qtn hr)
 have hl:=ho.l
 obtain ⟨h1,h2,h3,h4⟩:=QfM hr
 exact QjC ho.hartM h2 (by show (Qhd x s g).m.length=64; unfold Qhd; rw [QjI]; exact h4) hl.words
abbrev pgAt (l:List TwoD) (k:Nat):TwoD:=l.getD k (-1,0,())
theorem QdX {α:Type} {l:List α} {k:Nat} {d:α}:l.getD k d=(l[k]?).getD d:=List.getD_eq_getElem?_getD
theorem Qqm {m:List Int} {a:Int} {o:Nat} (ho:o< 8):(pg m a).getD o 0=m.getD (8*a.toNat+o) 0:=by
 unfold pg
 rw [QdX,QdX,List.getElem?_take,if_pos ho,List.getElem?_drop]
theorem Qty {m:List Int} {a b:Int} {o:Nat} {w:Int} (ho:o< 8) (ha:0≤a) (hb:0≤b):pg (m.set (8*a.toNat+o) w) b=if a=b then (pg m b).set o w else pg m b:=by
 unfold pg
 by_cases h:a=b
 ·subst h
  rw [if_pos rfl]
  apply List.ext_getElem?
  intro i
  by_cases hi:i< 8
  ·simp only [List.getElem?_take,if_pos hi,List.getElem?_drop,List.getElem?_set,List.length_take,List.length_drop]
   by_cases e:o=i
   ·subst e
    simp only [if_true]
    by_cases hl:8*a.toNat+o< m.length
    ·rw [if_pos hl,if_pos (by omega)]
    ·rw [if_neg hl,if_neg (by omega)]
   ·rw [if_neg (by omega),if_neg e]
  ·rw [List.getElem?_eq_none (by simp; omega),List.getElem?_eq_none (by simp; omega)]
 ·rw [if_neg h]
  apply List.ext_getElem?
  intro i
  by_cases hi:i< 8
  ·simp only [List.getElem?_take,if_pos hi,List.getElem?_drop,List.getElem?_set]
   rw [if_neg (by omega)]
  ·rw [List.getElem?_eq_none (by simp; omega),List.getElem?_eq_none (by simp; omega)]
structure Sim (l l':List TwoD) (m m':List Int):Prop where
 len:l.length=8∧l'.length=8
 kind: ∀k,k< 8→(pgAt l' k).2=(pgAt l k).2
 neg: ∀k,k< 8→(0≤(pgAt l k).1↔0≤(pgAt l' k).1)
 top: ∀k,k< 8→(pgAt l k).1≤23∧(pgAt l' k).1≤23
 inj: ∀i j,i< 8→j< 8→0≤(pgAt l i).1→(pgAt l i).1=(pgAt l j).1→i=j
 inj': ∀i j,i< 8→j< 8→0≤(pgAt l' i).1→(pgAt l' i).1=(pgAt l' j).1→i=j
 same: ∀k,k< 8→0≤(pgAt l k).1→pg m (pgAt l k).1=pg m' (pgAt l' k).1
section
variable {l l':List TwoD} {m m' cs:List Int}
def Spot (l l':List TwoD) (kind:Int) (x y:Int):Prop:= ∃k o:Nat,k< 8∧o< 8∧0≤(pgAt l k).1∧mayP (pgAt l k) kind=true∧x=(pgAt l k).1*8+(o:Int)∧y=(pgAt l' k).1*8+(o:Int)
theorem Sim.walk (h:Sim l l' m m') (at_ kind:Int):(Qad l at_ kind= -1∧Qad l' at_ kind= -1)∨
  ∃k o:Nat,k< 8∧o< 8∧at_=8*(k:Int)+(o:Int)∧0≤(pgAt l k).1∧mayP (pgAt l k) kind=true∧Qad l at_ kind=(pgAt l k).1*8+(o:Int)∧Qad l' at_ kind=(pgAt l' k).1*8+(o:Int):=by
 unfold Qad
 by_cases ha:0≤at_∧at_≤63
 ·rw [if_pos ha,if_pos ha]
  have hk:(at_ / 8).toNat< 8:=by omega
  have e:mayP (l'.getD (at_ / 8).toNat (-1,0,())) kind=mayP (l.getD (at_ / 8).toNat (-1,0,())) kind:=by
   unfold mayP
   rw [show (l'.getD (at_ / 8).toNat (-1,0,())).2.1=(l.getD (at_ / 8).toNat (-1,0,())).2.1 from congrArg (·.1) (h.kind _ hk),decide_eq_decide.2 (h.neg _ hk)]
  rw [e]
  by_cases hm:mayP (l.getD (at_ / 8).toNat (-1,0,())) kind=true
  ·rw [if_pos hm,if_pos hm]
   refine .inr ⟨(at_ / 8).toNat,(at_ % 8).toNat,hk,by omega,by omega,?_,hm,by dsimp only [pgAt]; omega,by dsimp only [pgAt]; omega⟩
   simp only [mayP,Bool.and_eq_true,decide_eq_true_eq] at hm
   exact hm.1
  ·rw [if_neg hm,if_neg hm]; exact .inl ⟨rfl,rfl⟩
 ·rw [if_neg ha,if_neg ha]; exact .inl ⟨rfl,rfl⟩
theorem Sim.space (h:Sim l l' m m') (cs:List Int):QbM cs l m=QbM cs l' m':=by
 unfold QbM
 by_cases h0:cs.getD 10 0=0
 ·rw [if_pos h0,if_pos h0]
 by_cases h8:cs.getD 10 0=8
 ·rw [if_neg h0,if_neg h0,if_pos h8,if_pos h8]
 rw [if_neg h0,if_neg h0,if_neg h8,if_neg h8]
 rcases h.walk ((cs.getD 10 0-1)*8) 1 with ⟨e1,e2⟩ | ⟨k,o,hk,ho,ha,hp,_,e1,e2⟩
 ·rw [e1,e2]; rfl
 ·have hp':=(h.neg k hk).1 hp
  have o0:o=0:=by omega
  subst o0
  rw [if_neg (by omega),if_neg (by omega),e1,e2]
  have:=h.same k hk hp
  unfold pg at this
  rw [show ((pgAt l k).1*8+((0:Nat):Int)).toNat=8*(pgAt l k).1.toNat by omega,show ((pgAt l' k).1*8+((0:Nat):Int)).toNat=8*(pgAt l' k).1.toNat by omega,this]
theorem Sim.place (h:Sim l l' m m') (cs:List Int) (at_ kind:Int):
  (Qv cs l m at_ kind=Qv cs l' m' at_ kind∧((Qv cs l m at_ kind).2=0→1000≤(Qv cs l m at_ kind).1∧kind≠4))∨
  ((Qv cs l m at_ kind).2=0∧(Qv cs l' m' at_ kind).2=0∧Spot l l' kind (Qv cs l m at_ kind).1 (Qv cs l' m' at_ kind).1):=by
 unfold Qv
 rw [←h.space cs]
 cases QbM cs l m with
 | none=>exact .inl ⟨rfl,fun h=>by simp at h⟩
 | some s=>
  dsimp only
  by_cases c1:Qad s at_ kind< 0
  ·rw [if_pos c1,if_pos c1]; exact .inl ⟨rfl,fun h=>absurd h (Qdj kind)⟩
  rw [if_neg c1,if_neg c1]
  by_cases c2:Qad s at_ kind / 8=7
  ·rw [if_pos c2,if_pos c2]
   refine .inl ⟨rfl,fun hz=>?_⟩
   by_cases c3:kind=4
   ·rw [if_pos c3] at hz; simp at hz
   ·rw [if_neg c3]; dsimp only; omega
  rw [if_neg c2,if_neg c2]
  rcases h.walk (Qad s at_ kind) kind with ⟨e1,e2⟩ | ⟨k,o,hk,ho,ha,hp,hm,e1,e2⟩
  ·rw [e1,e2]; exact .inl ⟨rfl,fun h=>absurd h (Qdj kind)⟩
  ·have hp':=(h.neg k hk).1 hp
   rw [e1,e2,if_neg (by omega),if_neg (by omega)]
   exact .inr ⟨rfl,rfl,k,o,hk,ho,hp,hm,rfl,rfl⟩
theorem Sim.spot {kind x y:Int} (h:Sim l l' m m') (hs:Spot l l' kind x y):(0≤x∧x< 1000)∧(0≤y∧y< 1000)∧m.getD x.toNat 0=m'.getD y.toNat 0∧ ∀w,Sim l l' (m.set x.toNat w) (m'.set y.toNat w):=by
 obtain ⟨k,o,hk,ho,hp,_,rfl,rfl⟩:=hs
 have hp':=(h.neg k hk).1 hp
 have ht:=h.top k hk
 have ex:((pgAt l k).1*8+(o:Int)).toNat=8*(pgAt l k).1.toNat+o:=by omega
 have ey:((pgAt l' k).1*8+(o:Int)).toNat=8*(pgAt l' k).1.toNat+o:=by omega
 rw [ex,ey]
 refine ⟨by omega,by omega,?_,fun w=>?_⟩
 ·rw [←Qqm ho, ←Qqm ho,h.same k hk hp]
 ·refine { h with same:=fun j hj hq=>?_ }
  have hq':=(h.neg j hj).1 hq
  rw [Qty ho hp hq,Qty ho hp' hq',h.same j hj hq]
  by_cases e:k=j
  ·subst e; rw [if_pos rfl,if_pos rfl]
  ·rw [if_neg fun c=>e (h.inj k j hk hj hp c),if_neg fun c=>e (h.inj' k j hk hj hp' c)]
def Like (l l':List TwoD) (s t:Mc):Prop:=t={ s with m:=t.m }∧Sim l l' s.m t.m
def QeH (l l':List TwoD) (x y:Bool×Int×Int×Mc):Prop:=x.1=y.1∧x.2.1=y.2.1∧x.2.2.1=y.2.2.1∧Like l l' x.2.2.2 y.2.2.2
theorem QgQ {b:Bool} {n r:Int} {s t:Mc} (h:Like l l' s t):QeH l l' (b,n,r,s) (b,n,r,t):=⟨rfl,rfl,rfl,h⟩
theorem Qay {α:Type} {R:α→α→Prop} {c:Prop} [Decidable c] {a b x y:α} (h1:c→R a x) (h2: ¬c→R b y):R (if c then a else b) (if c then x else y):=by
 by_cases h:c
 ·rw [if_pos h,if_pos h]; exact h1 h
 ·rw [if_neg h,if_neg h]; exact h2 h
theorem QsH {s:Mc} (h:Sim l l' s.m m') (op d a i:Int):QeH l l' (exM s l op d a i) (exM { s with m:=m' } l' op d a i):=by
 unfold exM
 dsimp only
 have t: ∀{c v:Int},QeH l l' (false,0,0,s.trap c v) (false,0,0,Mc.trap { s with m:=m' } c v):=QgQ ⟨rfl,h⟩
 refine Qay (R:=QeH l l') (fun _=>QgQ ⟨rfl,h⟩) fun _=>Qay (R:=QeH l l') (fun _=>QgQ ⟨rfl,h⟩) fun _=>Qay (R:=QeH l l') (fun _=>?_) fun _=>Qay (R:=QeH l l') (fun _=>?_) fun _=>?_
 ·rcases h.place s.cs (addW (s.r.getD a.toNat 0) (off i)) 1 with ⟨e,hd⟩ | ⟨e1,e2,hs⟩
  ·rw [←e]
   exact Qay (R:=QeH l l') (fun _=>t) fun c=>Qay (R:=QeH l l') (fun _=>QgQ ⟨rfl,h⟩) fun c2=>absurd (hd (by simpa using c)).1 c2
  ·obtain ⟨hx,hy,e3,_⟩:=h.spot hs
   rw [if_neg (c:=(Qv s.cs l s.m (addW (s.r.getD a.toNat 0) (off i)) 1).2≠0) (by rw [e1]; simp),if_neg (c:=(Qv s.cs l' m' (addW (s.r.getD a.toNat 0) (off i)) 1).2≠0) (by rw [e2]; simp),if_neg (c:=1000≤(Qv s.cs l s.m (addW (s.r.getD a.toNat 0) (off i)) 1).1) (by omega),if_neg (c:=1000≤(Qv s.cs l' m' (addW (s.r.getD a.toNat 0) (off i)) 1).1) (by omega),e3]
   exact QgQ ⟨rfl,h⟩
 ·rcases h.place s.cs (addW (s.r.getD a.toNat 0) (off i)) 2 with ⟨e,hd⟩ | ⟨e1,e2,hs⟩
  ·rw [←e]
   exact Qay (R:=QeH l l') (fun _=>t) fun c=>Qay (R:=QeH l l') (fun _=>QgQ ⟨rfl,h⟩) fun c2=>absurd (hd (by simpa using c)).1 c2
  ·generalize Qv s.cs l s.m (addW (s.r.getD a.toNat 0) (off i)) 2=P at e1 hs⊢
   generalize Qv s.cs l' m' (addW (s.r.getD a.toNat 0) (off i)) 2=Q at e2 hs⊢
   obtain ⟨hx,hy,_,e3⟩:=h.spot hs
   rw [if_neg (c:=P.2≠0) (by rw [e1]; simp),if_neg (c:=Q.2≠0) (by rw [e2]; simp),if_neg (c:=1000≤P.1) (by omega),if_neg (c:=1000≤Q.1) (by omega)]
   exact QgQ ⟨rfl,e3 _⟩
 repeat' (refine Qay (R:=QeH l l') (fun _=>QgQ ⟨rfl,h⟩) fun _=>?_)
 exact QgQ ⟨rfl,h⟩
theorem QsF {s:Mc} (h:Sim l l' s.m m') (op d a i:Int):(doM s l op d a i).1=(doM { s with m:=m' } l' op d a i).1∧Like l l' (doM s l op d a i).2 (doM { s with m:=m' } l' op d a i).2:=by
 have hx:=QsH h op d a i
 unfold doM
 dsimp only
 generalize exM s l op d a i=x at hx
 generalize exM { s with m:=m' } l' op d a i=y at hx
 obtain ⟨x1,x2,x3,x4⟩:=x
 obtain ⟨y1,y2,y3,y4⟩:=y
 obtain ⟨e1,e2,e3,e4,e5⟩:=hx
 dsimp only at e1 e2 e3 e4 e5⊢
 subst e1 e2 e3
 rw [e4]
 dsimp only
 split
 ·exact ⟨rfl,rfl,e5⟩
 ·exact ⟨rfl,rfl,e5⟩
theorem Qlj {s:Mc} (h:Sim l l' s.m m'):Like l l' (runM s l) (runM { s with m:=m' } l'):=by
 have t: ∀{c v:Int},Like l l' (s.trap c v) (Mc.trap { s with m:=m' } c v):=⟨rfl,h⟩
 unfold runM
 dsimp only
 have k: ∀w:Int,Like l l' (if decF w=0 then (if (doM s l (decM w).1 (decM w).2.1 (decM w).2.2.1 (decM w).2.2.2.1).1=true then Qfh (doM s l (decM w).1 (decM w).2.1 (decM w).2.2.1 (decM w).2.2.2.1).2 else (doM s l (decM w).1 (decM w).2.1 (decM w).2.2.1 (decM w).2.2.2.1).2) else s.trap 1 w)
   (if decF w=0 then (if (doM { s with m:=m' } l' (decM w).1 (decM w).2.1 (decM w).2.2.1 (decM w).2.2.2.1).1=true then Qfh (doM { s with m:=m' } l' (decM w).1 (decM w).2.1 (decM w).2.2.1 (decM w).2.2.2.1).2 else (doM { s with m:=m' } l' (decM w).1 (decM w).2.1 (decM w).2.2.1 (decM w).2.2.2.1).2) else Mc.trap { s with m:=m' } 1 w):=fun w=>by
  refine Qay (R:=Like l l') (fun _=>?_) fun _=>t
  obtain ⟨e1,e2,e3⟩:=QsF h (decM w).1 (decM w).2.1 (decM w).2.2.1 (decM w).2.2.2.1
  rw [←e1]
  refine Qay (R:=Like l l') (fun _=>⟨?_,e3⟩) fun _=>⟨e2,e3⟩
  unfold Qfh
  rw [e2]
 rcases h.place s.cs s.pc 4 with ⟨e,hd⟩ | ⟨e1,e2,hs⟩
 ·rw [←e]
  refine Qay (R:=Like l l') (fun _=>t) fun c=>?_
  have c:(Qv s.cs l s.m s.pc 4).2=0:=by simpa using c
  exact absurd rfl (hd c).2
 ·obtain ⟨hx,hy,e3,_⟩:=h.spot hs
  rw [if_neg (c:=(Qv s.cs l s.m s.pc 4).2≠0) (by rw [e1]; simp),if_neg (c:=(Qv s.cs l' m' s.pc 4).2≠0) (by rw [e2]; simp), ←e3]
  exact k _
theorem QjH {s:Mc} (h:Sim l l' s.m m'):Like l l' (Qag s l) (Qag { s with m:=m' } l'):=by
 unfold Qag
 dsimp only
 refine Qay (R:=Like l l') (fun _=>⟨rfl,h⟩) fun _=>Qay (R:=Like l l') (fun _=>⟨rfl,h⟩) fun _=>Qay (R:=Like l l') (fun _=>Qay (R:=Like l l') (fun _=>⟨rfl,h⟩) fun _=>?_) fun _=>?_
 ·exact Qlj (s:={ s with ring:= -1,fall:= -1,wa:=false }) h
 ·exact Qlj (s:={ s with ring:= -1,fall:= -1 }) h
end
theorem QcS {α:Type} {l:List α} {i j:Nat} {y d:α} (h:i≠j):(l.set i y).getD j d=l.getD j d:=by rw [QdX,QdX,List.getElem?_set_ne h]
theorem QdG {α:Type} {l:List α} {i:Nat} {y d:α} (h:i< l.length):(l.set i y).getD i d=y:=by rw [QdX,List.getElem?_set_self h]; rfl
theorem gget {α:Type} {l:List α} {i:Nat} {d:α} (h:i< l.length):l.getD i d=l[i]:=by rw [QdX,List.getElem?_eq_getElem h]; rfl
theorem QiO: ∀{l seen:List Int},dupM seen l=false→l.Nodup∧ ∀x∈l,x∉seen
 | [],_,_=>⟨List.nodup_nil,by simp⟩
 | x::r,seen,h=>by
  simp only [dupM,Bool.or_eq_false_iff] at h
  obtain ⟨h1,h2⟩:=QiO h.2
  have hx:x∉seen:=by simpa using h.1
  refine ⟨List.nodup_cons.2 ⟨fun hm=>h2 x hm (by simp),h1⟩,fun y hy=>?_⟩
  rcases List.mem_cons.1 hy with rfl | hy
  ·exact hx
  ·exact fun hm=>h2 y hy (List.mem_append_left _ hm)
theorem Qlb {p:PolD} (hok:OkPol p):(∀l∈p.1,l.Nodup)∧p.1.Pairwise fun a b=> ∀x∈a, ∀y∈b,x≠y:=by
 have:=(QiO hok.nodup).1
 unfold List.Nodup at this
 rw [List.pairwise_flatten] at this
 exact this
abbrev ownL (p:PolD) (g:Int):List Int:=p.1.getD g.toNat []
theorem QrE {p:PolD} (hok:OkPol p) {g t:Int} (hg:isG p g=true) (ht:isG p t=true) (hne:t≠g) {x:Int} (h1:x∈ownL p g) (h2:x∈ownL p t):False:=by
 have a:=Qbr.1 hg
 have b:=Qbr.1 ht
 have hp:=List.pairwise_iff_getElem.1 (Qlb hok).2
 rw [ownL,gget (by omega)] at h1 h2
 rcases Nat.lt_or_gt_of_ne (show g.toNat≠t.toNat by omega) with c | c
 ·exact hp g.toNat t.toNat (by omega) (by omega) c x h1 x h2 rfl
 ·exact hp t.toNat g.toNat (by omega) (by omega) c x h2 x h1 rfl
theorem QkR {p:PolD} (hok:OkPol p) {j:Nat} (hj:j< p.2.1.length):QdZ p p.2.1[j] (p.2.1.take j)=0:=by
 have e:=hok.lanes.2
 unfold QbH at e
 have:=Qmg (QfJ e j hj)
 rw [Nat.zero_add] at this
 exact this
theorem QgP {p:PolD} (hok:OkPol p):p.2.1.Pairwise fun o l=>clash l o=false:=by
 rw [List.pairwise_iff_getElem]
 intro i j hi hj hij
 have e:=QkR hok hj
 unfold QdZ at e
 split at e
 ·rename_i h; exact absurd e h
 split at e
 ·split at e
  ·cases e
  ·split at e
   ·cases e
   ·rename_i h
    have h:(p.2.1.take j).any (clash p.2.1[j])=false:=by simpa using h
    rw [List.any_eq_false] at h
    have:=h p.2.1[i] (by
     rw [←List.getElem_take (j:=j) (h:=by rw [List.length_take]; omega)]
     exact List.getElem_mem _)
    simpa using this
 ·cases e
theorem Qhw {p:PolD} (hok:OkPol p) {x:QL} (hx:x∈p.2.1) {l:List Int} (hl:l∈p.1):x.2.2.1∉l:=by
 obtain ⟨j,hj,rfl⟩:=List.mem_iff_getElem.1 hx
 have e:=QkR hok hj
 unfold QdZ at e
 split at e
 ·rename_i h; exact absurd e h
 split at e
 ·split at e
  ·cases e
  ·rename_i h
   intro hm
   apply h
   rw [Qan,decide_eq_true_eq]
   unfold Qfl
   cases hs:scan (fun i (l:List Int)=>if l.contains p.2.1[j].2.2.1=true then some ((i:Nat):Int) else none) 0 p.1 with
   | none=>
    obtain ⟨i,hi⟩:=Qbg hs l hl
    rw [if_pos (by simpa using hm)] at hi
    cases hi
   | some k=>
    refine QcX (P:=fun c:Int=>0≤c) (fun i hi c hc=>?_) _ hs
    split at hc
    ·obtain rfl:=Osj hc; omega
    ·cases hc
 ·cases e
theorem Qea {p:PolD} (hok:OkPol p) {x y:QL} (hx:x∈p.2.1) (hy:y∈p.2.1) (h:x.2.2.1=y.2.2.1):x=y:=by
 obtain ⟨i,hi,rfl⟩:=List.mem_iff_getElem.1 hx
 obtain ⟨j,hj,rfl⟩:=List.mem_iff_getElem.1 hy
 have hp:=List.pairwise_iff_getElem.1 (QgP hok)
 have key: ∀{i j:Nat} (hi:i< p.2.1.length) (hj:j< p.2.1.length),i< j→p.2.1[i].2.2.1=p.2.1[j].2.2.1→False:=fun hi hj hij e=>by
  have:=hp _ _ hi hj hij
  unfold clash at this
  rw [e] at this
  simp at this
 rcases Nat.lt_trichotomy i j with c | c | c
 ·exact (key hi hj c h).elim
 ·subst c; rfl
 ·exact (key hj hi c h.symm).elim
theorem Qjq: ∀(r:List Int) (k:Nat) (l:List TwoD) (j:Nat),k+r.length≤l.length→pgAt (QbD k r l) j=if k≤j∧j< k+r.length then (r.getD (j-k) 0,7,()) else pgAt l j
 | [],k,l,j,_=>by rw [if_neg (by simp only [List.length_nil]; omega)]; rfl
 | p::r,k,l,j,h=>by
  simp only [List.length_cons] at h
  rw [QbD,Qjq r (k+1) _ j (by rw [List.length_set]; omega)]
  simp only [List.length_cons]
  by_cases e:j=k
  ·subst e
   rw [if_neg (by omega),if_pos (by omega),Nat.sub_self]
   exact QdG (by omega)
  ·by_cases c:k+1≤j∧j< k+1+r.length
   ·rw [if_pos c,if_pos (by omega),show j-k=(j-(k+1))+1 by omega]; rfl
   ·rw [if_neg c,if_neg (by omega)]; exact QcS (Ne.symm e)
theorem Qub (j:Nat):pgAt Qbk j=(-1,0,()):=by
 match j with
 | 0 | 1 | 2 | 3 | 4 | 5 | 6 | 7=>rfl
 | n+8=>rfl
theorem Qdk {x:QL} {g k:Int}:Qbs x g k=true↔(x.1=g∧x.2.2.2.1=k)∨(x.2.1=g∧x.2.2.2.2.1=k):=by
 unfold Qbs
 simp
theorem Qud {l o:QL}:clash l o=false↔o.2.2.1≠l.2.2.1∧ ¬(Qbs o l.1 l.2.2.2.1=true)∧ ¬(Qbs o l.2.1 l.2.2.2.2.1=true):=by
 unfold clash
 simp [Bool.or_eq_false_iff]
theorem Qhm {z x:QL} (h:clash z x=false) {g k:Int} (hx:Qbs x g k=true):Qbs z g k=false:=by
 obtain ⟨_,h1,h2⟩:=Qud.1 h
 rw [←Bool.not_eq_true]
 intro hz
 rcases Qdk.1 hz with ⟨a,b⟩ | ⟨a,b⟩
 ·exact h1 (by rw [a,b]; exact hx)
 ·exact h2 (by rw [a,b]; exact hx)
def Qen (x:QL):Prop:=x.1≠x.2.1∧(5≤x.2.2.2.1∧x.2.2.2.1≤6)∧(5≤x.2.2.2.2.1∧x.2.2.2.2.1≤6)
theorem QgN {g:Int} {x:QL} (hx:Qen x) {l:List TwoD} (hl:l.length=8) (k:Nat):pgAt (Qcg g x l) k=if x.1=g∧x.2.2.2.1=(k:Int) then (x.2.2.1,3,()) else if x.2.1=g∧x.2.2.2.2.1=(k:Int) then (x.2.2.1,1,()) else pgAt l k:=by
 obtain ⟨h0,h1,h2⟩:=hx
 unfold Qcg
 dsimp only
 by_cases a:x.1=g
 ·have b: ¬x.2.1=g:=fun b=>h0 (a.trans b.symm)
  rw [if_neg b,if_pos a,if_neg (c:=x.2.1=g∧_) (fun c=>b c.1)]
  by_cases c:x.2.2.2.1=(k:Int)
  ·rw [if_pos ⟨a,c⟩,show x.2.2.2.1.toNat=k by omega]; exact QdG (by omega)
  ·rw [if_neg (fun d=>c d.2)]; exact QcS (by omega)
 ·rw [if_neg a,if_neg (c:=x.1=g∧_) (fun c=>a c.1)]
  by_cases b:x.2.1=g
  ·rw [if_pos b]
   by_cases c:x.2.2.2.2.1=(k:Int)
   ·rw [if_pos ⟨b,c⟩,show x.2.2.2.2.1.toNat=k by omega]; exact QdG (by omega)
   ·rw [if_neg (fun d=>c d.2)]; exact QcS (by omega)
  ·rw [if_neg b,if_neg (fun c=>b c.1)]
theorem QdH {g:Int} {k:Nat}: ∀(r:List QL) (l:List TwoD),l.length=8→(∀x∈r,Qen x)→(∀x∈r,Qbs x g (k:Int)=false)→pgAt (QaM g r l) k=pgAt l k
 | [],_,_,_,_=>rfl
 | x::r,l,hl,h1,h2=>by
  rw [QaM,QdH r _ (by rw [Qbz]; exact hl) (fun y hy=>h1 y (List.mem_cons_of_mem _ hy)) (fun y hy=>h2 y (List.mem_cons_of_mem _ hy)),QgN (h1 x (by simp)) hl]
  have:=h2 x (by simp)
  have: ¬Qbs x g (k:Int)=true:=by rw [this]; simp
  rw [Qdk] at this
  rw [if_neg fun c=>this (.inl c),if_neg fun c=>this (.inr c)]
theorem QhY {g:Int} {x:QL}: ∀(r:List QL) (l:List TwoD),l.length=8→(∀y∈r,Qen y)→r.Pairwise (fun o l=>clash l o=false)→x∈r→x.1=g→pgAt (QaM g r l) x.2.2.2.1.toNat=(x.2.2.1,3,())
 | y::r,l,hl,h1,h2,hx,hg=>by
  rw [List.pairwise_cons] at h2
  rw [QaM]
  rcases List.mem_cons.1 hx with rfl | hx
  ·have b:=h1 x (by simp)
   have e:((x.2.2.2.1.toNat:Nat):Int)=x.2.2.2.1:=by have:=b.2.1; omega
   rw [QdH r _ (by rw [Qbz]; exact hl) (fun y hy=>h1 y (List.mem_cons_of_mem _ hy)) (fun z hz=>Qhm (h2.1 z hz) (Qdk.2 (.inl ⟨hg,e.symm⟩))),QgN b hl,if_pos ⟨hg,e.symm⟩]
  ·exact QhY r _ (by rw [Qbz]; exact hl) (fun y hy=>h1 y (List.mem_cons_of_mem _ hy)) h2.2 hx hg
theorem QkQ {g:Int} {x:QL}: ∀(r:List QL) (l:List TwoD),l.length=8→(∀y∈r,Qen y)→r.Pairwise (fun o l=>clash l o=false)→x∈r→x.2.1=g→pgAt (QaM g r l) x.2.2.2.2.1.toNat=(x.2.2.1,1,())
 | y::r,l,hl,h1,h2,hx,hg=>by
  rw [List.pairwise_cons] at h2
  rw [QaM]
  rcases List.mem_cons.1 hx with rfl | hx
  ·have b:=h1 x (by simp)
   have e:((x.2.2.2.2.1.toNat:Nat):Int)=x.2.2.2.2.1:=by have:=b.2.2; omega
   rw [QdH r _ (by rw [Qbz]; exact hl) (fun y hy=>h1 y (List.mem_cons_of_mem _ hy)) (fun z hz=>Qhm (h2.1 z hz) (Qdk.2 (.inr ⟨hg,e.symm⟩))),QgN b hl,if_neg (fun c=>b.1 (c.1.trans hg.symm)),if_pos ⟨hg,e.symm⟩]
  ·exact QkQ r _ (by rw [Qbz]; exact hl) (fun y hy=>h1 y (List.mem_cons_of_mem _ hy)) h2.2 hx hg
theorem QgO {g:Int} {k:Nat}: ∀(r:List QL) (l:List TwoD),l.length=8→(∀y∈r,Qen y)→pgAt (QaM g r l) k=pgAt l k∨
  (∃x∈r,x.1=g∧x.2.2.2.1=(k:Int)∧pgAt (QaM g r l) k=(x.2.2.1,3,()))∨(∃x∈r,x.2.1=g∧x.2.2.2.2.1=(k:Int)∧pgAt (QaM g r l) k=(x.2.2.1,1,()))
 | [],_,_,_=> .inl rfl
 | y::r,l,hl,h1=>by
  rw [QaM]
  rcases QgO (k:=k) r (Qcg g y l) (by rw [Qbz]; exact hl) (fun y hy=>h1 y (List.mem_cons_of_mem _ hy)) with e | ⟨x,hx,e⟩ | ⟨x,hx,e⟩
  ·rw [e,QgN (h1 y (by simp)) hl]
   by_cases a:y.1=g∧y.2.2.2.1=(k:Int)
   ·rw [if_pos a]; exact .inr (.inl ⟨y,by simp,a.1,a.2,rfl⟩)
   ·rw [if_neg a]
    by_cases b:y.2.1=g∧y.2.2.2.2.1=(k:Int)
    ·rw [if_pos b]; exact .inr (.inr ⟨y,by simp,b.1,b.2,rfl⟩)
    ·rw [if_neg b]; exact .inl rfl
  ·exact .inr (.inl ⟨x,List.mem_cons_of_mem _ hx,e⟩)
  ·exact .inr (.inr ⟨x,List.mem_cons_of_mem _ hx,e⟩)
theorem Qch {p:PolD} (hok:OkPol p): ∀x∈p.2.1,Qen x:=fun x hx=>by
 have:=QcI hok x hx
 exact ⟨this.1.2.2,this.2.2.1,this.2.2.2⟩
theorem Qfj {p:PolD} {g:Int} (hok:OkPol p) (hg:isG p g=true):1≤(ownL p g).length∧(ownL p g).length≤5:=by
 have:=hok.own1 _ (QcV hok hg)
 exact ⟨this.1,this.2.1⟩
theorem own8 (p:PolD) (g:Int):(QbD 0 (ownL p g) Qbk).length=8:=by rw [Qee]; rfl
theorem Qmm {p:PolD} {g:Int} (hok:OkPol p) (hg:isG p g=true) {k:Nat} (hk:k< (ownL p g).length):pgAt (pgM p g) k=((ownL p g).getD k 0,7,()):=by
 have h5:=(Qfj hok hg).2
 unfold pgM
 rw [QdH _ _ (own8 p g) (Qch hok) (fun x hx=>?_),Qjq _ _ _ _ (by show 0+(ownL p g).length≤8; omega),if_pos (by omega),Nat.sub_zero]
 have hx:=Qch hok x hx
 rw [←Bool.not_eq_true,Qdk]
 have:=hx.2
 omega
theorem QgX {p:PolD} {g:Int} (hok:OkPol p) (hg:isG p g=true) {x:QL} (hx:x∈p.2.1) (h:x.1=g):pgAt (pgM p g) x.2.2.2.1.toNat=(x.2.2.1,3,()):=QhY _ _ (own8 p g) (Qch hok) (QgP hok) hx h
theorem QvS {p:PolD} {g:Int} (hok:OkPol p) (hg:isG p g=true) {x:QL} (hx:x∈p.2.1) (h:x.2.1=g):pgAt (pgM p g) x.2.2.2.2.1.toNat=(x.2.2.1,1,()):=QkQ _ _ (own8 p g) (Qch hok) (QgP hok) hx h
theorem Qfn {p:PolD} {g:Int} (hok:OkPol p) (hg:isG p g=true) {k:Nat} (h0:0≤(pgAt (pgM p g) k).1):(k< (ownL p g).length∧pgAt (pgM p g) k=((ownL p g).getD k 0,7,()))∨
  (∃x∈p.2.1,x.1=g∧x.2.2.2.1=(k:Int)∧pgAt (pgM p g) k=(x.2.2.1,3,()))∨(∃x∈p.2.1,x.2.1=g∧x.2.2.2.2.1=(k:Int)∧pgAt (pgM p g) k=(x.2.2.1,1,())):=by
 have h5:=(Qfj hok hg).2
 rcases QgO (g:=g) (k:=k) p.2.1 (QbD 0 (ownL p g) Qbk) (own8 p g) (Qch hok) with e | e | e
 ·refine .inl ?_
  have e:pgAt (pgM p g) k=pgAt (QbD 0 (ownL p g) Qbk) k:=e
  rw [e,Qjq _ _ _ _ (by show 0+(ownL p g).length≤8; omega)] at h0⊢
  by_cases c:0≤k∧k< 0+(ownL p g).length
  ·rw [if_pos c] at h0⊢
   exact ⟨by omega,by rw [Nat.sub_zero]⟩
  ·rw [if_neg c,Qub] at h0
   exact absurd h0 (by decide)
 ·exact .inr (.inl e)
 ·exact .inr (.inr e)
theorem Qfk {p:PolD} {g:Int} {k:Nat} (hk:k< (ownL p g).length):(ownL p g).getD k 0∈ownL p g:=QaC hk
theorem Qpd {p:PolD} {g:Int} (hok:OkPol p) (hg:isG p g=true) (i j:Nat) (h0:0≤(pgAt (pgM p g) i).1) (he:(pgAt (pgM p g) i).1=(pgAt (pgM p g) j).1):i=j:=by
 have hm:=QcV hok hg
 have nd:=List.pairwise_iff_getElem.1 ((Qlb hok).1 _ hm)
 have lf:=fun {x:QL} (hx:x∈p.2.1)=>Qhw hok hx hm
 have sep:=fun {x:QL} (hx:x∈p.2.1)=>(Qch hok x hx).1
 rcases Qfn hok hg h0 with ⟨a1,a2⟩ | ⟨x,hx,a1,a2,a3⟩ | ⟨x,hx,a1,a2,a3⟩ <;> rcases Qfn hok hg (k:=j) (by omega) with ⟨b1,b2⟩ | ⟨y,hy,b1,b2,b3⟩ | ⟨y,hy,b1,b2,b3⟩
 ·rw [a2,b2] at he
  dsimp only at he
  rw [gget a1,gget b1] at he
  rcases Nat.lt_trichotomy i j with c | c | c
  ·exact (nd i j a1 b1 c he).elim
  ·exact c
  ·exact (nd j i b1 a1 c he.symm).elim
 ·rw [a2,b3] at he; exact (lf hy (he▸Qfk a1)).elim
 ·rw [a2,b3] at he; exact (lf hy (he▸Qfk a1)).elim
 ·rw [a3,b2] at he; exact (lf hx (he.symm▸Qfk b1)).elim
 ·rw [a3,b3] at he
  obtain rfl:=Qea hok hx hy he
  omega
 ·rw [a3,b3] at he
  obtain rfl:=Qea hok hx hy he
  exact (sep hx (a1.trans b1.symm)).elim
 ·rw [a3,b2] at he; exact (lf hx (he.symm▸Qfk b1)).elim
 ·rw [a3,b3] at he
  obtain rfl:=Qea hok hx hy he
  exact (sep hx (b1.trans a1.symm)).elim
 ·rw [a3,b3] at he
  obtain rfl:=Qea hok hx hy he
  omega
theorem QvD (p:PolD) (g:Int) {k:Nat} (hk:k< 8):pgAt (pgM p g) k∈pgM p g:=QaC (by rw [QeC]; exact hk)
theorem Qmn {p:PolD} {g:Int} (hok:OkPol p) (hg:isG p g=true) {k:Nat} (hk:k< 8): -1≤(pgAt (pgM p g) k).1∧(pgAt (pgM p g) k).1≤23:=(Qpc hok hg _ (QvD p g hk)).1
end Go.Proofs.YticbdcmkcghijaaGreatDoor
