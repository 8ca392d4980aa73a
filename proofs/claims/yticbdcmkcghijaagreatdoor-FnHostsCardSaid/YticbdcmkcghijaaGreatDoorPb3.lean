/- Plain laws: what the functions compute, and that both programs compute the same. -/
import Derived.Test.YticbdcmkcghijaaGreatDoorPb2
namespace Go.Proofs.YticbdcmkcghijaaGreatDoor
open Go Go.RowKit S Go.Proofs
set_option maxRecDepth 100000
theorem Dr.ite {X:Type} {c:Prop} [Decidable c] {a b:Option X} {P:X→Prop} (ha:c→Dr a P) (hb: ¬c→Dr b P):Dr (if c then a else b) P:=by
 split
 ·exact ha ‹_›
 ·exact hb ‹_›
theorem Dr.guard {X:Type} {c:Prop} [Decidable c] {a:Option X} {P:X→Prop} (hc:c) (ha:Dr a P):Dr (if c then a else none) P:=by rw [if_pos hc]; exact ha
theorem Dr.nguard {X:Type} {c:Prop} [Decidable c] {a:Option X} {P:X→Prop} (hc: ¬c) (ha:Dr a P):Dr (if c then none else a) P:=by rw [if_neg hc]; exact ha
theorem Dr.get {X Y:Type} {xs:List X} {i:Nat} {f:X→Option Y} {P:Y→Prop} (hi:i< xs.length) (h: ∀y,y∈xs→xs[i]?=some y→Dr (f y) P):Dr ((xs[i]?).bind f) P:=by
 rw [List.getElem?_eq_getElem hi,Obn];exact h _ (List.getElem_mem hi) (List.getElem?_eq_getElem hi)
theorem Dr.gat {X Y:Type} {xs:List X} {i:Int} {n:Nat} {f:X→Option Y} {P:Y→Prop} (hn:xs.length=n) (h:0≤i∧i< (n:Int)) (k: ∀y,y∈xs→Dr (f y) P):Dr (if 0≤i∧i< ((xs.length:Nat):Int) then (xs[i.toNat]?).bind f else none) P:=by
 subst hn;exact Dr.guard h (Dr.get (by omega) fun y hy _=>k y hy)
theorem Dr.of {X:Type} {o:Option X} {v:X} {P:X→Prop} (h:o=some v) (hv:P v):Dr o P:=⟨v,h,hv⟩
theorem Qau {X Y:Type} {step:(X→Option Y)→X→Option Y} {Q:Y→Prop} (I:Nat→X→Prop) (h: ∀rec m x,I m x→(∀m' x',m'< m→I m' x'→Dr (rec x') Q)→Dr (step rec x) Q) (m:Nat) (x:X) (hI:I m x) (hm:m< lots):Dr (Qd step lots x) Q:=by
 have key: ∀n m x,m< n→I m x→Dr (Qd step n x) Q:=by
  intro n
  induction n with
  | zero=>intro m x h; omega
  | succ n ih=>intro m x hm hI; exact h _ m x hI fun m' x' hlt hI'=>ih m' x' (by omega) hI'
 exact key lots m x hm hI
def Bd (n x:Int):Prop:=0≤x∧(x< n∨x=0)
theorem Bd.to3 {x:Int} (h:Bd 3 x):x.toNat≤2∧0≤x∧x≤2:=by unfold Bd at h; omega
theorem Bd.e {n x:Int} (h:Bd n x):0≤x∧(x< n∨x=0):=h
def Bt (a b x:Int):Prop:=a≤x∧x≤b
theorem Bt.e {a b x:Int} (h:Bt a b x):a≤x∧x≤b:=h
theorem QT {s:SrcD} {k:Int} (h:Sr s k) (hk:k≤1099511627776) (n:Int):Dr (F_c (s,n,())) fun r=>Sr r.2.1 (k+1)∧Bd n r.1.1:=
 .of (QpS (s,n,()) h.1 ⟨h.2.1,Int.le_trans h.2.2 hk⟩) ⟨⟨h.1,by have:=h.2.1; dsimp only; omega,by have:=h.2.2; dsimp only; omega⟩,Qvi (s,n,()) h.1 ⟨h.2.1,Int.le_trans h.2.2 hk⟩⟩
theorem QbD {s:SrcD} {k:Int} (h:Sr s k) (hk:k≤1099511627776) (x:Int) (l:List Int):Dr (F_d (s,x::l,())) fun r=>Sr r.2.1 (k+1)∧(r.1.1:Int)∈x::l:=
 .of (QpY (s,x::l,()) rfl h.1 ⟨h.2.1,Int.le_trans h.2.2 hk⟩) ⟨⟨h.1,by have:=h.2.1; dsimp only; omega,by have:=h.2.2; dsimp only; omega⟩,Qvp (s,x::l,()) rfl h.1 ⟨h.2.1,Int.le_trans h.2.2 hk⟩⟩
theorem Qdf {s:SrcD} {k:Int} (h:Sr s k) (hk:k≤1099511627776) (n:Int):Dr (F_s (s,n,())) fun r=>Sr r.2.1 (k+1):=
 .of (Qku (s,n,()) h.1 ⟨h.2.1,Int.le_trans h.2.2 hk⟩) ⟨h.1,by have:=h.2.1; dsimp only; omega,by have:=h.2.2; dsimp only; omega⟩
theorem Qmo {s:SrcD} {k:Int} (h:Sr s k) (hk:k≤1073741824):Dr (F_t (s,())) fun r=>Sr r.2.1 (k+5)∧Bt 0 4294967295 r.1.1:=
 .of (Qqq (s,()) h.1 ⟨h.2.1,Int.le_trans h.2.2 hk⟩) ⟨⟨h.1,by have:=h.2.1; dsimp only; omega,by have:=h.2.2; dsimp only; omega⟩,Qvu (s,()) h.1 ⟨h.2.1,Int.le_trans h.2.2 hk⟩⟩
theorem QtV {s:SrcD} {k:Int} (h:Sr s k) (hk:k≤10000000) (n:Int) (h0:0≤n) (hn:n≤1000):Dr (F_u (s,n,())) fun r=>Sr r.2.1 (k+26*n)∧(r.1.1.length:Int)=n:=by
 obtain ⟨c,a,_⟩:=s;obtain ⟨hc,h1,h2⟩:=h;dsimp only at h1 h2;obtain ⟨m,a',e,l1,l2,l3⟩:=QsC hc n a ⟨h1,by omega⟩ hn
 rw [if_neg (by omega)] at l1 l3
 exact .of e ⟨⟨hc,by dsimp only; omega,by dsimp only; omega⟩,l1⟩
theorem Qtu {c:List Int} (h:Byt c):Dr (F_b (c,())) fun r=>Sr r.1.1 0:= .of rfl ⟨h,Int.le_refl _,Int.le_refl _⟩
structure HL (h:QO):Prop where
 r:h.1.length=16
 c:h.2.2.1.length=11
 i:h.2.2.2.2.2.2.2.1.length≤2
 o:h.2.2.2.2.2.2.2.2.1.length≤40
theorem QvH {h:QO} (hh:HL h) {k:Int} (hk:0≤k∧k≤10) (w:Int):Dr (F_bc (h,k,w,())) fun r=>HL r.2.1:=by
 obtain ⟨h1,h2,h3,h4⟩:=hh;have hin:0≤k∧k< ((h.2.2.1.length:Nat):Int):=by omega
 have hin': ∀x,0≤k∧k< (((h.2.2.1.set k.toNat x).length:Nat):Int):=fun x=>by rw [List.length_set]; exact hin
 have hlt:k.toNat< h.2.2.1.length:=by omega
 have hlt': ∀x,k.toNat< (h.2.2.1.set k.toNat x).length:=fun x=>by rw [List.length_set]; exact hlt
 have hl: ∀x y,((h.2.2.1.set k.toNat x).set k.toNat y).length=11:=fun x y=>by simp [h2]
 have hl': ∀x,(h.2.2.1.set k.toNat x).length=11:=fun x=>by simp [h2]
 unfold F_bc;refine Dr.bind (Q:=fun _=>True) (.of (Qdv _) trivial) fun r1 _=>?_
 repeat' (first
  | exact Dr.ret ⟨h1,h2,h3,h4⟩
  | exact Dr.ret ⟨h1,hl' _,h3,h4⟩
  | exact Dr.ret ⟨h1,hl _ _,h3,h4⟩
  | refine Dr.guard hin ?_
  | refine Dr.guard (hin' _) ?_
  | refine Dr.get hlt fun _ _ _=>?_
  | refine Dr.get (hlt' _) fun _ _ _=>?_
  | refine Dr.ite (fun _=>?_) fun _=>?_)
theorem Qrj {l:List Int} (hl:l.length≤2) (hw:allW l=true):Dr (F_af (l,())) fun r=>HL r.1.1.2∧r.1.1.2.2.2.2.2.2.2.2.1=l:=by
 unfold F_af;refine Dr.ite (fun c=>?_) fun c=>?_
 ·rw [QD] at c; dsimp only at c; omega
 refine Dr.bind (Q:=fun r=>r.1.1=allW l) (.of (QbG l (by omega)) rfl) fun r hr=>?_
 rw [if_neg (by rw [hr,hw]; simp)]
 refine Dr.guard (by simp; omega) (Dr.ret ⟨⟨by simp,by simp,by simpa using hl,by simp⟩,by simp⟩)
theorem Qrd {h:QO} {s:SrcD} {k:Int} (z:QO) (hh:HL h) (hs:Sr s k) (hk:k≤1000000000):Dr (L_bx_3 (((),((),((),((1:Int),())))),((z,(h,(s,()))),()))) fun o=> ∃x,o= .inl x∧HL x.2.1.2.1∧Sr x.2.1.2.2.1 (k+150):=by
 refine Qau (fun m u=>(m:Int)=16-(u.1.2.2.2.1:Int)∧1≤(u.1.2.2.2.1:Int)∧HL u.2.1.2.1∧Sr u.2.1.2.2.1 (k+10*((u.1.2.2.2.1:Int)-1))) ?_ 15 _ ⟨by dsimp only; omega,by dsimp only; omega,hh,hs.le (by dsimp only; omega)⟩ (by rw [QW]; omega)
 intro rec m u ⟨hm,h1,hh,hs⟩ ih;unfold l_bx_3;have hk0:=hs.pos;refine Dr.ite (fun c=>?_) fun c=>?_
 ·rw [QD] at c;have e:IntKind.i64.wrap ((u.1.2.2.2.1:Int)+1)=(u.1.2.2.2.1:Int)+1:=Qm (by omega) (by omega)
  refine (Qdf hs (by omega) _).bind fun r9 h9=>Dr.ite (fun _=>?_) fun _=>?_
  ·refine (Qmo h9 (by omega)).bind fun r10 h10=>(QT h10.1 (by omega) _).bind fun r11 h11=>(QT h11.1 (by omega) _).bind fun r12 h12=>(QbD h12.1 (by omega) _ _).bind fun r14 h14=>?_
   refine Dr.gat hh.r (by omega) fun _ _=>ih (m-1) _ (by omega) ?_
   rw [e];exact ⟨by dsimp only; omega,by dsimp only; omega,⟨by simpa using hh.r,hh.c,hh.i,hh.o⟩,h14.1.le (by dsimp only; omega)⟩
  ·refine ih (m-1) _ (by omega) ?_
   rw [e];exact ⟨by dsimp only; omega,by dsimp only; omega,hh,h9.le (by dsimp only; omega)⟩
 ·rw [QD] at c;exact Dr.ret ⟨_,rfl,hh,hs.le (by omega)⟩
theorem QoD {h:QO} {s:SrcD} {k:Int} (z:QO) (hh:HL h) (hs:Sr s k) (hk:k≤1000000000):Dr (L_bx_10 (((),((),((),((0:Int),())))),((z,(h,(s,()))),()))) fun o=> ∃x,o= .inl x∧HL x.2.1.2.1∧Sr x.2.1.2.2.1 (k+110):=by
 refine Qau (fun m u=>(m:Int)=11-(u.1.2.2.2.1:Int)∧0≤(u.1.2.2.2.1:Int)∧HL u.2.1.2.1∧Sr u.2.1.2.2.1 (k+10*(u.1.2.2.2.1:Int))) ?_ 11 _ ⟨by dsimp only; omega,by dsimp only; omega,hh,hs.le (by dsimp only; omega)⟩ (by rw [QW]; omega)
 intro rec m u ⟨hm,h1,hh,hs⟩ ih;unfold l_bx_10;have hk0:=hs.pos;refine Dr.ite (fun c=>?_) fun c=>?_
 ·rw [QD] at c;have e:IntKind.i64.wrap ((u.1.2.2.2.1:Int)+1)=(u.1.2.2.2.1:Int)+1:=Qm (by omega) (by omega)
  refine (Qdf hs (by omega) _).bind fun r9 h9=>Dr.ite (fun _=>?_) fun _=>?_
  ·refine (QT h9 (by omega) _).bind fun r11 h11=>(QT h11.1 (by omega) _).bind fun r12 h12=>(Qmo h12.1 (by omega)).bind fun r10 h10=>(QbD h10.1 (by omega) _ _).bind fun r14 h14=>?_
   refine (QvH hh ⟨h1,by omega⟩ _).bind fun r43 h43=>ih (m-1) _ (by omega) ?_
   rw [e];exact ⟨by dsimp only; omega,by dsimp only; omega,h43,h14.1.le (by dsimp only; omega)⟩
  ·refine ih (m-1) _ (by omega) ?_
   rw [e];exact ⟨by dsimp only; omega,by dsimp only; omega,hh,h9.le (by dsimp only; omega)⟩
 ·rw [QD] at c;exact Dr.ret ⟨_,rfl,hh,hs.le (by omega)⟩
theorem QsM {s:SrcD} {k:Int} (hs:Sr s k) (hk:k≤900000000):Dr (F_bx (s,())) fun r=>Sr r.2.1 (k+300)∧HL r.1.1:=by
 have hk0:=hs.pos;unfold F_bx;refine (QT hs (by omega) _).bind fun r1 h1=>?_
 have hb:=h1.2.to3;refine Dr.guard ⟨by decide,hb.2.1,hb.2.2⟩ ?_
 have hlen:(([(7:Int),8].drop (0+((0:Int)).toNat)).take ((r1.1.1).toNat-((0:Int)).toNat)).length≤2:=by rw [List.length_take]; have:=hb.1; omega
 refine (Qrj (by omega) ?_).bind fun r2 h2=>?_
 ·rw [Qao];intro w hw;have:=List.mem_of_mem_drop (List.mem_of_mem_take hw);simp at this;unfold WW;omega
 have h2':HL r2.1.1.2:=h2.1;refine (Qrd _ h2' h1.1 (by omega)).bind fun z hz=>?_
 obtain ⟨x,rfl,hx,hxs⟩:=hz;dsimp only;refine (QT hxs (by omega) _).bind fun r21 h21=>(QT h21.1 (by omega) _).bind fun r22 h22=>(Qmo h22.1 (by omega)).bind fun r23 h23=>(QbD h23.1 (by omega) _ _).bind fun r24 h24=>(QT h24.1 (by omega) _).bind fun r25 h25=>?_
 refine (QoD _ (h:=(x.2.1.2.1.1,(r24.1.1,(x.2.1.2.1.2.2.1,(x.2.1.2.1.2.2.2.1,(x.2.1.2.1.2.2.2.2.1,(x.2.1.2.1.2.2.2.2.2.1,(r25.1.1,(x.2.1.2.1.2.2.2.2.2.2.2.1,(x.2.1.2.1.2.2.2.2.2.2.2.2.1,())))))))))) ⟨hx.r,hx.c,hx.i,hx.o⟩ h25.1 (by omega)).bind fun z hz=>?_
 obtain ⟨x,rfl,hx,hxs⟩:=hz;dsimp only;refine (Qdf hxs (by omega) _).bind fun r h=>(Qdf h (by omega) _).bind fun r h=>(Qdf h (by omega) _).bind fun r h=>(Qdf h (by omega) _).bind fun r h=>?_
 refine Dr.ite (fun _=>Dr.ret ⟨h.le (by omega),hx.r,hx.c,hx.i,by simp⟩) fun _=>Dr.ret ⟨h.le (by omega),hx.r,hx.c,hx.i,hx.o⟩
structure HB (h:QO):Prop where
 r:h.1.length≤16
 c:h.2.2.1.length=11
 i:h.2.2.2.2.2.2.2.1.length≤41
 o:h.2.2.2.2.2.2.2.2.1.length≤40
theorem HL.b {h:QO} (hh:HL h):HB h:=⟨by rw [hh.r]; omega,hh.c,by have:=hh.i; omega,hh.o⟩
theorem HB.le {h:QO} (hh:HB h):Qdi 1048576 h:=⟨by have:=hh.r; omega,by rw [hh.c]; omega,by have:=hh.i; omega,by have:=hh.o; omega⟩
theorem QsL {s:SrcD} {k:Int} (hs:Sr s k) (hk:k≤900000000):Dr (F_by (s,())) fun r=>Sr r.2.1 (k+400)∧HB r.1.1:=by
 have hk0:=hs.pos;unfold F_by;refine (QsM hs hk).bind fun r1 h1=>(QT h1.1 (by omega) _).bind fun r2 h2=>?_
 have hr:=h1.2.r;have hc:=h1.2.c;have hi:=h1.2.i;have ho:=h1.2.o;refine Dr.ite (fun _=>?_) fun _=>Dr.ite (fun _=>?_) fun _=>Dr.ite (fun _=>?_) fun _=>Dr.ite (fun _=>?_) fun _=>Dr.ite (fun _=>?_) fun _=>Dr.ite (fun _=>?_) fun _=>?_
 ·exact Dr.gat hr (by omega) fun _ _=>Dr.ret ⟨h2.1.le (by omega),⟨by simpa using Nat.le_of_eq hr,hc,by dsimp only; omega,ho⟩⟩
 ·refine Dr.guard ⟨by decide,by rw [hr]; decide,Int.le_refl _⟩ (Dr.ret ⟨h2.1.le (by omega),⟨by simp; omega,hc,by dsimp only; omega,ho⟩⟩)
 ·refine (QT h2.1 (by omega) _).bind fun r5 h5=>(QbD h5.1 (by omega) _ _).bind fun r6 h6=>Dr.gat hc (by have:=h5.2.e; omega) fun _ _=>Dr.ret ⟨h6.1.le (by omega),⟨by dsimp only; omega,by simpa using hc,by dsimp only; omega,ho⟩⟩
 ·exact (QbD h2.1 (by omega) _ _).bind fun r9 h9=>Dr.ret ⟨h9.1.le (by omega),⟨by dsimp only; omega,hc,by dsimp only; omega,ho⟩⟩
 ·exact Dr.ret ⟨h2.1.le (by omega),⟨by dsimp only; omega,hc,by simp,ho⟩⟩
 ·exact (QbD h2.1 (by omega) _ _).bind fun r9 h9=>Dr.ret ⟨h9.1.le (by omega),⟨by dsimp only; omega,hc,by dsimp only; omega,ho⟩⟩
 ·exact Dr.ret ⟨h2.1.le (by omega),h1.2.b⟩
theorem QsV (n:Int) (h:1≤n∧n≤24):Dr (F_bv (n,())) fun r=>((r.1.1.2.1:List Int).length:Int)=8*n:=by
 unfold F_bv;refine Dr.bind (Q:=fun r=>r.1.1=inB n 1 24) (.of (QaE n 1 24) rfl) fun r hr=>?_
 have hr2: ¬(!r.1.1)=true:=by rw [hr,QbR.2 h]; simp
 have e:IntKind.i64.wrap (n*8)=n*8:=Qm (by omega) (by omega)
 rw [if_neg hr2];dsimp only;rw [e];exact Dr.guard (by omega) (Dr.ret (by simp; omega))
theorem QoC {s:SrcD} {k:Int} (hs:Sr s k) (hk:k≤900000000):Dr (F_bw (s,())) fun r=>Sr r.2.1 (k+2000)∧(r.1.1:List Int).length≤200:=by
 have hk0:=hs.pos;unfold F_bw;refine (QT hs (by omega) _).bind fun r1 h1=>?_
 have hr:=h1.2.e;have e:IntKind.i64.wrap (1+(r1.1.1:Int))=1+(r1.1.1:Int):=Qm (by omega) (by omega)
 dsimp only;rw [e];refine (QsV _ (by omega)).bind fun r3 h3=>?_
 have hlen:8≤(r3.1.1.2.1:List Int).length∧(r3.1.1.2.1:List Int).length≤40:=by omega
 have key: ∀(ms:List Int),8≤ms.length∧ms.length≤40→Dr (L_bw_3 (((),(ms,((0:Int),()))),((r1.2.1,()),()))) fun o=> ∃x,o= .inl x∧Sr x.2.1.1 (k+1+240)∧8≤(x.1.2.1:List Int).length∧(x.1.2.1:List Int).length≤40:=by
  intro ms hms;refine Qau (fun m u=>(m:Int)=((u.1.2.1:List Int).length:Int)-(u.1.2.2.1:Int)∧0≤(u.1.2.2.1:Int)∧(8≤(u.1.2.1:List Int).length∧(u.1.2.1:List Int).length≤40)∧Sr u.2.1.1 (k+1+6*(u.1.2.2.1:Int))) ?_ ms.length _ ⟨by dsimp only; omega,by dsimp only; omega,hms,h1.1.le (by dsimp only; omega)⟩ (by rw [QW]; omega)
  intro rec m u ⟨hm,g1,hl,hs⟩ ih;unfold l_bw_3;have hk0:=hs.pos;refine Dr.ite (fun c=>?_) fun c=>?_
  ·rw [QD] at c;have e:IntKind.i64.wrap ((u.1.2.2.1:Int)+1)=(u.1.2.2.1:Int)+1:=Qm (by omega) (by omega)
   refine (Qdf hs (by omega) _).bind fun r8 h8=>Dr.ite (fun _=>?_) fun _=>?_
   ·refine (Qmo h8 (by omega)).bind fun r9 h9=>Dr.gat rfl ⟨g1,c⟩ fun _ _=>ih (m-1) _ (by omega) ?_
    rw [e];exact ⟨by simp; omega,by dsimp only; omega,by simpa using hl,h9.1.le (by dsimp only; omega)⟩
   ·refine ih (m-1) _ (by omega) ?_
    rw [e];exact ⟨by dsimp only; omega,by dsimp only; omega,hl,h8.le (by dsimp only; omega)⟩
  ·rw [QD] at c;exact Dr.ret ⟨_,rfl,hs.le (by omega),hl⟩
 refine (key _ hlen).bind fun z hz=>?_
 obtain ⟨x,rfl,g1,g2⟩:=hz;refine (QT g1 (by omega) _).bind fun r16 h16=>Dr.ite (fun _=>?_) fun _=>Dr.ite (fun _=>?_) fun _=>Dr.ite (fun _=>?_) fun _=>?_
 ·exact Dr.guard ⟨by decide,by omega,Int.le_refl _⟩ (Dr.ret ⟨h16.1.le (by omega),by simp; omega⟩)
 ·exact (QT h16.1 (by omega) _).bind fun r18 h18=>(QbD h18.1 (by omega) _ _).bind fun r19 h19=>Dr.gat rfl (by have:=h18.2.e; omega) fun _ _=>Dr.ret ⟨h19.1.le (by omega),by simp; omega⟩
 ·exact Dr.ret ⟨h16.1.le (by omega),by simp⟩
 ·exact Dr.ret ⟨h16.1.le (by omega),by have:=g2.2; dsimp only; omega⟩
theorem Dr.step {X Y:Type} {o:Option X} {v:X} {f:X→Option Y} {P:Y→Prop} (h:o=some v) (g:Dr (f v) P):Dr (o.bind f) P:=by rw [h]; exact g
theorem Dr.pos {X:Type} {c:Prop} [Decidable c] {a b:Option X} {P:X→Prop} (hc:c) (h:Dr a P):Dr (if c then a else b) P:=by rw [if_pos hc]; exact h
theorem Dr.neg {X:Type} {c:Prop} [Decidable c] {a b:Option X} {P:X→Prop} (hc: ¬c) (h:Dr b P):Dr (if c then a else b) P:=by rw [if_neg hc]; exact h
theorem Dr.eq {X:Type} {o:Option X} {v:X} (h:Dr o fun r=>r=v):o=some v:=by
 obtain ⟨_,e,rfl⟩:=h;exact e
abbrev Yes (o:Option ((Bool×Unit)×Unit)):Prop:=Dr o fun r=>r=((true,()),())
theorem yes {b:Bool} (h:b=true):Yes (some ((b,()),())):=by subst h; exact ⟨_,rfl,rfl⟩
theorem Qrk (m:List Int) (hm:m.length≤9223372036854775000):F_fq (m,m,())=some ((true,()),()):=by
 have key:=QY (step:=l_fq_4) (γ:=denO o_f_2) (fun i=>((m,(m,(((i:Nat):Int),()))),((),()))) m (fun (_:Nat) (_:Int)=>(none:Option Unit)) (fun _=>none) (some (.inl ((),((),())))) (by omega) ?_ ?_
 ·unfold F_fq;dsimp only;rw [if_neg (by simp)]
  show (Qd l_fq_4 lots ((m,(m,(((0:Nat):Int),()))),((),()))).bind _=_;rw [key]
  have: ∀{l:List Int} {i:Nat},scan (fun (_:Nat) (_:Int)=>(none:Option Unit)) i l=none:=by
   intro l
   induction l with
   | nil=>intro i; rfl
   | cons y r ih=>intro i; simp only [scan]; exact ih
  rw [this];rfl
 ·intro rec i hi;unfold l_fq_4;dsimp only;rw [if_pos (lt_t hi),if_pos nat0,Qw hi,if_pos nat0,Qw hi,if_neg (by simp),Qaa (by omega)]
 ·intro rec;unfold l_fq_4;dsimp only;rw [if_neg Qay]
theorem Qvf {c:List Int} (hc:Byt c) (i n:Int) (hi:0≤i∧i≤100) (hn:n≤100000):Dr (F_fp (c,i,n,())) fun r=>Bd n r.1.1:=by
 unfold F_fp;obtain ⟨hb,hl⟩:=hc;refine Dr.ite (fun h=>Dr.ret ⟨Int.le_refl _,.inr rfl⟩) fun h=>?_
 rw [Qba] at h;dsimp only at h;have hn0: ¬n=0:=by omega
 have tm: ∀z:Int,0≤z→Bd n (z.tmod n):=fun z hz=>by
  rw [Int.tmod_eq_emod_of_nonneg hz];exact ⟨Int.emod_nonneg _ (by omega),.inl (Int.emod_lt_of_pos _ (by omega))⟩
 refine Dr.ite (fun h0=>?_) fun h0=>?_
 ·have e:IntKind.i64.wrap (i*7)=i*7:=Qm (by omega) (by omega)
  dsimp only;rw [e];exact Dr.nguard hn0 (Dr.ret (tm _ (by omega)))
 have hpos:0< c.length:=by
  simp only [beq_iff_eq] at h0;omega
 have hl0: ¬((c.length:Nat):Int)=0:=by omega
 have hq: ∀z:Int,0≤z→0≤z.tmod ((c.length:Nat):Int)∧(z.tmod ((c.length:Nat):Int)).toNat< c.length:=fun z hz=>by
  rw [Int.tmod_eq_emod_of_nonneg hz];have h1:=Int.emod_nonneg z (b:=(c.length:Int)) (by omega)
  have h2:=Int.emod_lt_of_pos z (b:=(c.length:Int)) (by omega)
  omega
 have hd:0≤i.tdiv ((c.length:Nat):Int)∧i.tdiv ((c.length:Nat):Int)≤100:=by
  rw [Int.tdiv_eq_ediv_of_nonneg hi.1];have h1:=Int.ediv_nonneg hi.1 (b:=(c.length:Int)) (by omega)
  have h2:=Int.ediv_le_self (c.length:Int) hi.1;omega
 have e7:IntKind.i64.wrap (i.tdiv ((c.length:Nat):Int))=i.tdiv ((c.length:Nat):Int):=Qm (by omega) (by omega)
 have e8:IntKind.i64.wrap (i.tdiv ((c.length:Nat):Int)*3)=i.tdiv ((c.length:Nat):Int)*3:=Qm (by omega) (by omega)
 refine Dr.nguard hl0 (Dr.guard (hq i hi.1).1 (Dr.get (hq i hi.1).2 fun y5 hy5 _=>Dr.nguard hl0 ?_))
 have b5:=(show Bt 0 255 y5 from hb y5 hy5).e
 have e6:IntKind.i64.wrap y5=y5:=Qm (by omega) (by omega)
 have e9:IntKind.i64.wrap (y5+i.tdiv ((c.length:Nat):Int)*3)=y5+i.tdiv ((c.length:Nat):Int)*3:=Qm (by omega) (by omega)
 dsimp only;rw [e6,e7,e8,e9];refine Dr.ite (fun _=>?_) fun _=>Dr.nguard hn0 (Dr.ret (tm _ (by omega)))
 have e10:IntKind.i64.wrap ((y5+i.tdiv ((c.length:Nat):Int)*3)*251)=(y5+i.tdiv ((c.length:Nat):Int)*3)*251:=Qm (by omega) (by omega)
 have e11:IntKind.i64.wrap (i+1)=i+1:=Qm (by omega) (by omega)
 rw [e10,e11];refine Dr.nguard hl0 (Dr.guard (hq (i+1) (by omega)).1 (Dr.get (hq (i+1) (by omega)).2 fun y13 hy13 _=>?_))
 have b13:=(show Bt 0 255 y13 from hb y13 hy13).e
 have e14:IntKind.i64.wrap y13=y13:=Qm (by omega) (by omega)
 have e15:IntKind.i64.wrap ((y5+i.tdiv ((c.length:Nat):Int)*3)*251+y13)=(y5+i.tdiv ((c.length:Nat):Int)*3)*251+y13:=Qm (by omega) (by omega)
 rw [e14,e15];exact Dr.nguard hn0 (Dr.ret (tm _ (by omega)))
def Mc.hart (s:Mc):QO:=(s.r,s.pc,s.cs,s.ha,s.wa,s.ru,s.dn,s.iq,s.oq,())
theorem Qsu (s:Mc) (l:List TwoD) (op d a i:Int):(exM s l op d a i).2.2.2.m.length=s.m.length:=by
 unfold exM
 let P:Bool×Int×Int×Mc→Prop:=fun x=>x.2.2.2.m.length=s.m.length
 exact Qj P (fun _=>rfl) fun _=>Qj P (fun _=>rfl) fun _=>Qj P (fun _=>Qj P (fun _=>rfl) fun _=>Qj P (fun _=>rfl) fun _=>rfl) fun _=>
  Qj P (fun _=>Qj P (fun _=>rfl) fun _=>Qj P (fun _=>rfl) fun _=>List.length_set) fun _=>Qj P (fun _=>rfl) fun _=>Qj P (fun _=>rfl) fun _=>Qj P (fun _=>rfl) fun _=>
  Qj P (fun _=>rfl) fun _=>Qj P (fun _=>rfl) fun _=>Qj P (fun _=>rfl) fun _=>Qj P (fun _=>rfl) fun _=>Qj P (fun _=>rfl) fun _=>Qj P (fun _=>rfl) fun _=>rfl
theorem QmJ (s:Mc) (l:List TwoD) (op d a i:Int):(doM s l op d a i).2.m.length=s.m.length:=by
 have:=Qsu s l op d a i;unfold doM;dsimp only;split <;> exact this
theorem Qlf (s:Mc) (l:List TwoD):(runM s l).m.length=s.m.length:=by
 unfold runM;dsimp only;split
 ·rfl
 ·split
  ·split
   ·exact QmJ s l _ _ _ _
   ·exact QmJ s l _ _ _ _
  ·rfl
theorem QjF (s:Mc) (l:List TwoD):(Qai s l).m.length=s.m.length:=by
 unfold Qai;dsimp only;split
 ·rfl
 ·split
  ·rfl
  ·split
   ·split
    ·rfl
    ·exact Qlf { s with ring:= -1,fall:= -1,wa:=false } l
   ·exact Qlf { s with ring:= -1,fall:= -1 } l
theorem OkS.hartM {s:Mc} {l:List TwoD} (h:OkS s l):hartM s.hart=0:=by
 unfold Go.Proofs.YticbdcmkcghijaaGreatDoor.hartM Mc.hart;dsimp only
 rw [if_pos ⟨h.r.len,h.c.len,h.r.zero⟩,if_pos ⟨Qao.2 h.r.words,QfI.2 h.pc,Qao.2 h.c.words,Qao.2 h.i.words,Qao.2 h.o.words⟩,if_pos ⟨h.i.len,h.o.len⟩,
  if_pos (QbR.2 h.d),if_pos ⟨h.c.st,h.c.msk,h.c.tb,h.c.pd,h.c.tm⟩]
theorem Qsi {c:List Int} (h: ¬(1048576:Int)< ((c.length:Nat):Int)) (hb: ∀b∈c,0≤b∧b≤255):Byt c:=⟨hb,by omega⟩
theorem Bd.top {n x:Int} (h:Bd (n+1) x) (hn:0≤n):0≤x∧x≤n:=by unfold Bd at h; omega
section
variable {l:List TwoD} {s s':Mc}
def MemW (l:List TwoD) (m m':List Int):Prop:= ∀i:Nat,m'[i]?≠m[i]?→ ∃p∈l,p.1=((i / 8:Nat):Int)∧iand .i64 p.2.1 2≠0
theorem MemW.refl (l:List TwoD) (m:List Int):MemW l m m:=fun i h=>absurd rfl h
theorem QrU {l:List TwoD} (hl:l.length=8) {at_ kind:Int} (h0:0≤Qaf l at_ kind): ∃p∈l,p.1=Qaf l at_ kind / 8∧iand .i64 p.2.1 kind≠0:=by
 unfold Qaf at*;split at h0
 ·rename_i h1;rw [if_pos h1];split at h0
  ·rename_i h2;rw [if_pos h2];refine ⟨_,Qat (l:=l) (k:=(at_ / 8).toNat) (d:=(-1,0,())) (by rw [hl]; omega),by omega,?_⟩
   simp only [mayP,Bool.and_eq_true,decide_eq_true_eq] at h2;simpa using h2.2
  ·omega
 ·omega
theorem Qnv {cs:List Int} {m:List Int} {at_ kind:Int} (h0:(Qx cs l m at_ kind).2=0) (h1: ¬1000≤(Qx cs l m at_ kind).1): ∃g,(Qx cs l m at_ kind).1=Qaf l g kind∧0≤Qaf l g kind:=by
 unfold Qx at*;cases hs:QbO cs l m with
 | none=>rw [hs] at h0; simp at h0
 | some s=>
  rw [hs] at h0 h1;simp only at h0 h1⊢;split at h0
  ·exact absurd h0 (Qdg kind)
  ·rename_i a1;rw [if_neg a1] at h1⊢;split at h0
   ·rename_i a2;rw [if_pos a2] at h1⊢;split at h0
    ·simp at h0
    ·rename_i a3;rw [if_neg a3] at h1⊢;exfalso;simp only at h1;omega
   ·rename_i a2;rw [if_neg a2] at h1⊢;split at h0
    ·exact absurd h0 (Qdg kind)
    ·rename_i a3;rw [if_neg a3] at h1⊢;exact ⟨_,rfl,by omega⟩
theorem QtQ (hl:l.length=8) (s:Mc) (op d a i:Int):MemW l s.m (exM s l op d a i).2.2.2.m:=by
 unfold exM
 let P:Bool×Int×Int×Mc→Prop:=fun x=>MemW l s.m x.2.2.2.m
 have r0:=MemW.refl l s.m
 refine Qj P (fun _=>r0) fun _=>Qj P (fun _=>r0) fun _=>Qj P (fun _=>Qj P (fun _=>r0) fun _=>Qj P (fun _=>r0) fun _=>r0) fun _=>
  Qj P (fun _=>Qj P (fun _=>r0) fun h2=>Qj P (fun _=>r0) fun h1=>?_) fun _=>Qj P (fun _=>r0) fun _=>Qj P (fun _=>r0) fun _=>Qj P (fun _=>r0) fun _=>
  Qj P (fun _=>r0) fun _=>Qj P (fun _=>r0) fun _=>Qj P (fun _=>r0) fun _=>Qj P (fun _=>r0) fun _=>Qj P (fun _=>r0) fun _=>Qj P (fun _=>r0) fun _=>r0
 intro k hk;obtain ⟨g,e1,e2⟩:=Qnv (by simpa using h2) h1
 obtain ⟨p,hp,q1,q2⟩:=QrU hl e2;dsimp only at hk;rw [e1] at hk;by_cases hkk:(Qaf l g 2).toNat=k
 ·subst hkk;exact ⟨p,hp,by rw [q1]; omega,q2⟩
 ·exact absurd (List.getElem?_set_ne hkk) hk
theorem QuX (s:Mc) (l:List TwoD) (op d a i:Int):(exM s l op d a i).2.2.2.dn=s.dn∧((exM s l op d a i).1=true→(exM s l op d a i).2.2.2.fall=s.fall):=by
 unfold exM
 let P:Bool×Int×Int×Mc→Prop:=fun x=>x.2.2.2.dn=s.dn∧(x.1=true→x.2.2.2.fall=s.fall)
 have r0: ∀{x:Bool×Int×Int×Mc},x.2.2.2.dn=s.dn→x.2.2.2.fall=s.fall→P x:=fun h1 h2=>⟨h1,fun _=>h2⟩
 have r1: ∀{c t:Int},P (false,0,0,s.trap c t):=⟨rfl,fun h=>by cases h⟩
 exact Qj P (fun _=>r0 rfl rfl) fun _=>Qj P (fun _=>r0 rfl rfl) fun _=>Qj P (fun _=>Qj P (fun _=>r1) fun _=>Qj P (fun _=>r0 rfl rfl) fun _=>r0 rfl rfl) fun _=>
  Qj P (fun _=>Qj P (fun _=>r1) fun h2=>Qj P (fun _=>r0 rfl rfl) fun h1=>r0 rfl rfl) fun _=>Qj P (fun _=>r0 rfl rfl) fun _=>Qj P (fun _=>r0 rfl rfl) fun _=>Qj P (fun _=>r0 rfl rfl) fun _=>
  Qj P (fun _=>r0 rfl rfl) fun _=>Qj P (fun _=>r0 rfl rfl) fun _=>Qj P (fun _=>r1) fun _=>Qj P (fun _=>r0 rfl rfl) fun _=>Qj P (fun _=>r0 rfl rfl) fun _=>Qj P (fun _=>r0 rfl rfl) fun _=>r0 rfl rfl
structure StepP (l:List TwoD) (s s':Mc):Prop where
 mem:MemW l s.m s'.m
 dn:s.dn≤s'.dn∧s'.dn≤s.dn+1
 fl:0≤s'.fall→s'.dn=s.dn
theorem QvA (hl:l.length=8) (s:Mc) (op d a i:Int):MemW l s.m (doM s l op d a i).2.m∧(doM s l op d a i).2.dn=s.dn∧((doM s l op d a i).1=true→(doM s l op d a i).2.fall=s.fall):=by
 have h1:=QtQ hl s op d a i;have h2:=QuX s l op d a i;unfold doM;dsimp only;split
 ·rename_i h;exact ⟨h1,h2.1,fun _=>h2.2 h⟩
 ·exact ⟨h1,h2.1,fun h=>by cases h⟩
theorem Qvt (hl:l.length=8) (s:Mc) (hf:s.fall= -1) (hd:s.dn≤1000000000):StepP l s (runM s l):=by
 have r1: ∀{c t:Int},StepP l s (s.trap c t):=⟨MemW.refl l s.m,⟨Int.le_refl _,by show s.dn≤s.dn+1; omega⟩,fun _=>rfl⟩
 unfold runM;refine Qj (StepP l s) (fun _=>r1) fun _=>Qj (StepP l s) (fun _=>?_) fun _=>r1
 generalize (decM (s.m.getD (Qx s.cs l s.m s.pc 4).1.toNat 0))=x;obtain ⟨h1,h2,h3⟩:=QvA hl s x.1 x.2.1 x.2.2.1 x.2.2.2.1;refine Qj (StepP l s) (fun ht=>?_) fun _=>⟨h1,by omega,fun _=>h2⟩
 refine ⟨h1,?_,fun h=>?_⟩
 ·unfold Qfk;dsimp only;rw [h2];split <;> omega
 ·exfalso;have:(Qfk (doM s l x.1 x.2.1 x.2.2.1 x.2.2.2.1).2).fall= -1:=by rw [←hf]; exact h3 ht
  omega
theorem Qux (hl:l.length=8) (s:Mc) (hd:s.dn≤1000000000):StepP l s (Qai s l)∧(s.ha=true→(Qai s l).pc=s.pc):=by
 have r0:StepP l s { s with ring:= -1,fall:= -1 }:=⟨MemW.refl l s.m,⟨Int.le_refl _,by show s.dn≤s.dn+1; omega⟩,fun _=>rfl⟩
 have r1: ∀{c t:Int},StepP l s (Mc.trap { s with ring:= -1,fall:= -1 } c t):=⟨MemW.refl l s.m,⟨Int.le_refl _,by show s.dn≤s.dn+1; omega⟩,fun _=>rfl⟩
 have ra: ∀b,StepP l s (runM { s with ring:= -1,fall:= -1,wa:=b } l):=fun b=>by
  obtain ⟨h1,h2,h3⟩:=Qvt hl { s with ring:= -1,fall:= -1,wa:=b } rfl hd
  exact ⟨h1,h2,h3⟩
 unfold Qai;refine Qj (fun x=>StepP l s x∧(s.ha=true→x.pc=s.pc)) (fun _=>⟨r0,fun _=>rfl⟩) fun h=>⟨?_,fun h'=>absurd h' h⟩
 exact Qj (StepP l s) (fun _=>r1) fun _=>Qj (StepP l s) (fun _=>Qj (StepP l s) (fun _=>r0) fun _=>ra false) fun _=>ra s.wa
end
def noPg:TwoD:=(-1,0,())
def Qbj:List TwoD:=[noPg,noPg,noPg,noPg,noPg,noPg,noPg,noPg]
def QbH:Nat→List Int→List TwoD→List TwoD
 | _,[],l=>l
 | k,p::r,l=>QbH (k+1) r (l.set k (p,7,()))
def Qcg (g:Int) (x:QP) (l:List TwoD):List TwoD:=
 let l1:=if x.1=g then l.set x.2.2.2.1.toNat (x.2.2.1,3,()) else l
 if x.2.1=g then l1.set x.2.2.2.2.1.toNat (x.2.2.1,1,()) else l1
def QaP (g:Int):List QP→List TwoD→List TwoD
 | [],l=>l
 | x::r,l=>QaP g r (Qcg g x l)
def pgM (p:PolD) (g:Int):List TwoD:=QaP g p.2.1 (QbH 0 (p.1.getD g.toNat []) Qbj)
theorem Qeg: ∀(r:List Int) (k:Nat) (l:List TwoD),(QbH k r l).length=l.length
 | [],_,_=>rfl
 | p::r,k,l=>by rw [QbH,Qeg r]; simp
theorem QbB (g:Int) (x:QP) (l:List TwoD):(Qcg g x l).length=l.length:=by
 unfold Qcg;dsimp only
 repeat' split
 all_goals simp
theorem Qje (g:Int): ∀(r:List QP) (l:List TwoD),(QaP g r l).length=l.length
 | [],_=>rfl
 | x::r,l=>by rw [QaP,Qje g r,QbB]
theorem QeF (p:PolD) (g:Int):(pgM p g).length=8:=by unfold pgM; rw [Qje,Qeg]; rfl
theorem QkV {P:TwoD→Prop}: ∀(r:List Int) (k:Nat) (l:List TwoD),(∀x∈r,P (x,7,()))→(∀q∈l,P q)→ ∀q∈QbH k r l,P q
 | [],_,_,_,h=>h
 | p::r,k,l,h1,h=>QkV r (k+1) _ (fun x hx=>h1 x (List.mem_cons_of_mem _ hx)) fun q hq=>by
  rcases List.mem_or_eq_of_mem_set hq with hq | rfl
  ·exact h q hq
  ·exact h1 p (by simp)
theorem Qre {P:TwoD→Prop} {g:Int} {x:QP} {l:List TwoD} (h1:P (x.2.2.1,3,())) (h2:P (x.2.2.1,1,())) (h: ∀q∈l,P q): ∀q∈Qcg g x l,P q:=by
 have s: ∀{l:List TwoD} {k:Nat} {y:TwoD},P y→(∀q∈l,P q)→ ∀q∈l.set k y,P q:=fun hy h q hq=>by
  rcases List.mem_or_eq_of_mem_set hq with hq | rfl
  ·exact h q hq
  ·exact hy
 unfold Qcg;dsimp only;split
 ·split
  ·exact s h2 (s h1 h)
  ·exact s h2 h
 ·split
  ·exact s h1 h
  ·exact h
theorem Qjd {P:TwoD→Prop} {g:Int}: ∀(r:List QP) (l:List TwoD),(∀x∈r,P (x.2.2.1,3,())∧P (x.2.2.1,1,()))→(∀q∈l,P q)→ ∀q∈QaP g r l,P q
 | [],_,_,h=>h
 | x::r,l,h1,h=>Qjd r _ (fun y hy=>h1 y (List.mem_cons_of_mem _ hy)) (Qre (h1 x (by simp)).1 (h1 x (by simp)).2 h)
theorem QcU {p:PolD} {g:Int} (hok:OkPol p) (hg:isG p g=true):p.1.getD g.toNat []∈p.1:=by
 have:=Qbs.1 hg;exact Qat (by omega)
theorem QoP {p:PolD} {g:Int} (hok:OkPol p) (hg:isG p g=true): ∀q∈pgM p g,(-1≤q.1∧q.1≤23)∧0≤q.2.1∧q.2.1≤7:=by
 refine Qjd (P:=fun q=>(-1≤q.1∧q.1≤23)∧0≤q.2.1∧q.2.1≤7) _ _ (fun x hx=>?_) (QkV _ _ _ (fun x hx=>?_) ?_)
 ·have:=(QdP hok x hx).2.1;dsimp only;omega
 ·have:=(hok.own1 _ (QcU hok hg)).2.2 x hx;dsimp only;omega
 ·intro q hq;simp only [Qbj,List.mem_cons,List.not_mem_nil,or_false,or_self] at hq;subst hq;unfold noPg;decide
theorem Qjo {r:List Int} {k i:Nat} {l:List TwoD} (h:i< r.length):QbH (k+i) (r.drop i) l=QbH (k+(i+1)) (r.drop (i+1)) (l.set (k+i) (r[i],7,())):=by
 rw [List.drop_eq_getElem_cons h,QbH];rfl
theorem Qic {g:Int} {r:List QP} {i:Nat} {l:List TwoD} (h:i< r.length):QaP g (r.drop i) l=QaP g (r.drop (i+1)) (Qcg g r[i] l):=by
 rw [List.drop_eq_getElem_cons h,QaP]
theorem Qpc (p:PolD) (g:Int):L_aj_3 ((p,(g,(([]:List TwoD),((0:Int),())))),((),()))=some (.inl ((p,(g,(Qbj,()))),((),()))):=by kernel_rfl
theorem QnI {p:PolD} {g:Int} (hok:OkPol p) (hg:isG p g=true):F_aj (p,g,())=some ((pgM p g,()),()):=by
 have hgi:=Qbs.1 hg;have hi:g.toNat< p.1.length:=by omega
 have hown:=hok.own1 _ (QcU hok hg);have hlane:=QdP hok;have hll:=hok.lanes.1;refine Dr.eq ?_;unfold F_aj;refine Dr.step (Qpc p g) ?_;dsimp only
 have k1:Dr (L_aj_7 ((p,(g,(Qbj,((0:Int),())))),((),()))) fun o=>o= .inl ((p,(g,(QbH 0 (p.1.getD g.toNat []) Qbj,()))),((),())):=by
  refine Qau (fun n u=> ∃(i:Nat) (l:List TwoD),u=((p,(g,(l,((i:Int),())))),((),()))∧n=(p.1.getD g.toNat []).length-i∧i≤(p.1.getD g.toNat []).length∧l.length=8∧QbH (0+i) ((p.1.getD g.toNat []).drop i) l=QbH 0 (p.1.getD g.toNat []) Qbj) ?_ _ _ ⟨0,Qbj,rfl,rfl,Nat.zero_le _,rfl,rfl⟩ (by rw [QW]; omega)
  rintro rec n _ ⟨i,l,rfl,hn,hin,hl,he⟩ ih;have e1:p.1[g.toNat]?=some (p.1.getD g.toNat []):=by rw [List.getD_eq_getElem?_getD,List.getElem?_eq_getElem hi]; rfl
  unfold l_aj_7;generalize p.1.getD g.toNat []=w at*;dsimp only;rw [if_pos hgi.1,e1,Obn];by_cases hlt:i< w.length
  case neg=>
   rw [if_neg (lt_f hlt)];rw [List.drop_of_length_le (by omega)] at he
   exact Dr.ret (by rw [←he]; rfl)
  rw [if_pos (lt_t hlt),if_pos hgi.1,Obn,if_pos nat0,Qw hlt,Qaa (by omega)]
  refine Dr.gat hl (by omega) fun _ _=>ih (n-1) _ (by omega) ⟨i+1,_,rfl,by omega,by omega,by simpa using hl,?_⟩
  rw [←he,Qjo hlt,Int.toNat_natCast];simp only [Nat.zero_add]
 refine k1.bind fun o ho=>?_
 subst ho;dsimp only
 have k2:Dr (L_aj_11 ((p,(g,(QbH 0 (p.1.getD g.toNat []) Qbj,((0:Int),())))),((),()))) fun o=>o= .inl ((pgM p g,()),((),())):=by
  refine Qau (fun n u=> ∃(i:Nat) (l:List TwoD),u=((p,(g,(l,((i:Int),())))),((),()))∧n=p.2.1.length-i∧i≤p.2.1.length∧l.length=8∧QaP g (p.2.1.drop i) l=pgM p g) ?_ _ _ ⟨0,_,rfl,rfl,Nat.zero_le _,by rw [Qeg]; rfl,rfl⟩ (by rw [QW]; omega)
  rintro rec n _ ⟨i,l,rfl,hn,hin,hl,he⟩ ih;unfold l_aj_11;dsimp only;by_cases hlt:i< p.2.1.length
  case neg=>
   rw [if_neg (lt_f hlt)];rw [List.drop_of_length_le (by omega)] at he
   exact Dr.ret (by rw [←he]; rfl)
  rw [if_pos (lt_t hlt),if_pos nat0,Qw hlt,Qaa (by omega)]
  have hla:=hlane _ (List.getElem_mem hlt);rw [Qic hlt] at he;have hl1:=QbB g p.2.1[i] l
  have fin: ∀l',l'=Qcg g p.2.1[i] l→Dr (rec ((p,(g,(l',(((i+1:Nat):Int),())))),((),()))) fun o=>o= .inl ((pgM p g,()),((),())):=fun l' e=>by
   subst e;exact ih (n-1) _ (by omega) ⟨i+1,_,rfl,by omega,by omega,by rw [hl1]; exact hl,he⟩
  generalize p.2.1[i]=x at*;by_cases h1:x.1=g
  ·rw [if_pos (by simpa using h1)]
   refine Dr.gat hl (by omega) fun _ _=>?_
   by_cases h2:x.2.1=g
   ·rw [if_pos (by simpa using h2)]
    refine Dr.gat (n:=8) (by simpa using hl) (by omega) fun _ _=>fin _ ?_
    unfold Qcg;dsimp only;rw [if_pos h1,if_pos h2]
   ·rw [if_neg (by simpa using h2)]
    refine fin _ ?_;unfold Qcg;dsimp only;rw [if_pos h1,if_neg h2]
  ·rw [if_neg (by simpa using h1)]
   by_cases h2:x.2.1=g
   ·rw [if_pos (by simpa using h2)]
    refine Dr.gat hl (by omega) fun _ _=>fin _ ?_
    unfold Qcg;dsimp only;rw [if_neg h1,if_pos h2]
   ·rw [if_neg (by simpa using h2)]
    refine fin _ ?_;unfold Qcg;dsimp only;rw [if_neg h1,if_neg h2]
 refine k2.bind fun o ho=>?_
 subst ho;exact Dr.ret rfl
theorem Qrv:F_ds ([noPg],8,())=some ((Qbj,()),()):=by kernel_rfl
theorem QmY {p:PolD} {g:Int} (hok:OkPol p) (hg:isG p g=true):F_dt (p,g,())=some ((pgM p g,()),()):=by
 have hgi:=Qbs.1 hg;have hi:g.toNat< p.1.length:=by omega
 have hown:=hok.own1 _ (QcU hok hg);have hlane:=QdP hok;have hll:=hok.lanes.1;refine Dr.eq ?_;unfold F_dt;refine Dr.step rfl (Dr.step Qrv (Dr.guard hgi.1 ?_));have e1:p.1[g.toNat]?=some (p.1.getD g.toNat []):=by rw [List.getD_eq_getElem?_getD,List.getElem?_eq_getElem hi]; rfl
 refine Dr.step e1 ?_
 have k1:Dr (L_dt_3 ((p,(g,(Qbj,(p.1.getD g.toNat [],((((p.1.getD g.toNat []).length:Nat):Int),((0:Int),())))))),((),()))) fun o=>o= .inl ((p,(g,(QbH 0 (p.1.getD g.toNat []) Qbj,()))),((),())):=by
  generalize p.1.getD g.toNat []=w at*;refine Qau (fun n u=> ∃(i:Nat) (l:List TwoD),u=((p,(g,(l,(w,(((w.length:Nat):Int),((i:Int),())))))),((),()))∧n=w.length-i∧i≤w.length∧l.length=8∧QbH (0+i) (w.drop i) l=QbH 0 w Qbj) ?_ _ _ ⟨0,Qbj,rfl,rfl,Nat.zero_le _,rfl,rfl⟩ (by rw [QW]; omega)
  rintro rec n _ ⟨i,l,rfl,hn,hin,hl,he⟩ ih;unfold l_dt_3;dsimp only;by_cases hlt:i< w.length
  case neg=>
   rw [if_neg (lt_f hlt)];rw [List.drop_of_length_le (by omega)] at he
   exact Dr.ret (by rw [←he]; rfl)
  rw [if_pos (lt_t hlt),if_pos nat0,Qw hlt,Qaa (by omega)]
  refine Dr.gat hl (by omega) fun _ _=>ih (n-1) _ (by omega) ⟨i+1,_,rfl,by omega,by omega,by simpa using hl,?_⟩
  rw [←he,Qjo hlt,Int.toNat_natCast];simp only [Nat.zero_add]
 refine k1.bind fun o ho=>?_
 subst ho;dsimp only
 have k2:Dr (L_dt_8 ((g,(QbH 0 (p.1.getD g.toNat []) Qbj,(p.2.1,(((p.2.1.length:Nat):Int),((0:Int),()))))),((),()))) fun o=>o= .inl ((pgM p g,()),((),())):=by
  refine Qau (fun n u=> ∃(i:Nat) (l:List TwoD),u=((g,(l,(p.2.1,(((p.2.1.length:Nat):Int),((i:Int),()))))),((),()))∧n=p.2.1.length-i∧i≤p.2.1.length∧l.length=8∧QaP g (p.2.1.drop i) l=pgM p g) ?_ _ _ ⟨0,_,rfl,rfl,Nat.zero_le _,by rw [Qeg]; rfl,rfl⟩ (by rw [QW]; omega)
  rintro rec n _ ⟨i,l,rfl,hn,hin,hl,he⟩ ih;unfold l_dt_8;dsimp only;by_cases hlt:i< p.2.1.length
  case neg=>
   rw [if_neg (lt_f hlt)];rw [List.drop_of_length_le (by omega)] at he
   exact Dr.ret (by rw [←he]; rfl)
  rw [if_pos (lt_t hlt),if_pos nat0,Qw hlt,Qaa (by omega)]
  have hla:=hlane _ (List.getElem_mem hlt);rw [Qic hlt] at he;have hl1:=QbB g p.2.1[i] l
  have fin: ∀l',l'=Qcg g p.2.1[i] l→Dr (rec ((g,(l',(p.2.1,(((p.2.1.length:Nat):Int),(((i+1:Nat):Int),()))))),((),()))) fun o=>o= .inl ((pgM p g,()),((),())):=fun l' e=>by
   subst e;exact ih (n-1) _ (by omega) ⟨i+1,_,rfl,by omega,by omega,by rw [hl1]; exact hl,he⟩
  generalize p.2.1[i]=x at*;by_cases h1:x.1=g
  ·rw [if_pos (by simpa using h1)]
   refine Dr.gat hl (by omega) fun _ _=>?_
   by_cases h2:x.2.1=g
   ·rw [if_pos (by simpa using h2)]
    refine Dr.gat (n:=8) (by simpa using hl) (by omega) fun _ _=>fin _ ?_
    unfold Qcg;dsimp only;rw [if_pos h1,if_pos h2]
   ·rw [if_neg (by simpa using h2)]
    refine fin _ ?_;unfold Qcg;dsimp only;rw [if_pos h1,if_neg h2]
  ·rw [if_neg (by simpa using h1)]
   by_cases h2:x.2.1=g
   ·rw [if_pos (by simpa using h2)]
    refine Dr.gat hl (by omega) fun _ _=>fin _ ?_
    unfold Qcg;dsimp only;rw [if_neg h1,if_pos h2]
   ·rw [if_neg (by simpa using h2)]
    refine fin _ ?_;unfold Qcg;dsimp only;rw [if_neg h1,if_neg h2]
 refine k2.bind fun o ho=>?_
 subst ho;exact Dr.ret rfl
theorem QrQ {α:Type} {l:List α} {i:Nat} (h:i< l.length):l.take (i+1)=l.take i++[l[i]]:=by rw [List.take_add_one,List.getElem?_eq_getElem h]; rfl
def Qdd (l:List TwoD):List TwoD:=l.mapIdx fun k p=>if 0≤p.1 then ((k:Int),p.2) else p
theorem Qgl (l:List TwoD):(Qdd l).length=l.length:=by unfold Qdd; simp
theorem Qqr {l:List TwoD} {i:Nat} (h:i< l.length):(Qdd l)[i]'(by rw [Qgl]; exact h)=if 0≤l[i].1 then ((i:Int),l[i].2) else l[i]:=by
 unfold Qdd;rw [List.getElem_mapIdx]
def Qii (s:List Int) (k:Nat) (ws:List Int):List Int:=s.take (8*k)++(ws++s.drop (8*k+8))
theorem QhJ {s ws:List Int} {k:Nat} (hs:s.length=64) (hk:k< 8) (hw:ws.length=8):(Qii s k ws).length=64:=by unfold Qii; simp; omega
theorem Qul {m:List Int} {p:Int} (h:0≤p∧8*p+8≤(m.length:Int)):(pg m p).length=8:=by unfold pg; simp; omega
theorem QcI (s:TwoD) (r:List TwoD):Qi (-1) (s::r)=s.2.1+Qi (-1) r:=by
 simp only [Qi];rw [if_pos (.inl (by decide))]
theorem Qln {s:TwoD} {r:List TwoD} {k:Nat} {a:Int} (h:s.2.1≤a):Qu k (s::r) a=Qu (k+1) r (a-s.2.1):=by simp only [Qu]; rw [if_pos h]
theorem QjK {s:TwoD} {r:List TwoD} {k:Nat} {a:Int} (h: ¬s.2.1≤a):Qu k (s::r) a=(k,a,s.2.1-a):=by simp only [Qu]; rw [if_neg h]
theorem Qml: ∀{m:List TwoD} {k:Nat} {a:Int},(∀s∈m,1≤s.2.1∧s.2.1≤50)→0≤a→a+1< Qi (-1) m→
  Qu k m (a+1)=if (Qu k m a).2.2=1 then ((Qu k m a).1+1,0,(m.getD ((Qu k m a).1+1-k) (0,0,())).2.1) else ((Qu k m a).1,(Qu k m a).2.1+1,(Qu k m a).2.2-1)
 | [],k,a,_,h0,h1=>by simp [Qi] at h1; omega
 | s::r,k,a,hs,h0,h1=>by
  rw [QcI] at h1;have hr: ∀s∈r,1≤s.2.1∧s.2.1≤50:=fun q hq=>hs q (List.mem_cons_of_mem _ hq)
  by_cases h:s.2.1≤a
  ·rw [Qln h,Qln (by omega)]
   have e:a+1-s.2.1=(a-s.2.1)+1:=by omega
   rw [e,Qml hr (by omega) (by omega)]
   obtain ⟨g0,_⟩:=QaY (m:=r) (k:=k+1) (a:=a-s.2.1) hr (by omega) (by omega)
   have e2:(Qu (k+1) r (a-s.2.1)).1+1-k=((Qu (k+1) r (a-s.2.1)).1+1-(k+1))+1:=by omega
   rw [e2,List.getD_cons_succ]
  ·rw [QjK h];have hs1:=hs s (by simp)
   by_cases h2:s.2.1≤a+1
   ·rw [Qln h2,if_pos (by simp only; omega)]
    have e:a+1-s.2.1=0:=by omega
    rw [e];cases r with
    | nil=>simp [Qi] at h1; omega
    | cons q r=>
     have:=hr q (by simp)
     rw [QjK (by omega)]
     have e3:k+1-k=1:=by omega
     rw [e3];simp
   ·rw [QjK h2,if_neg (by simp only; omega)]
    simp only;congr 2;omega
theorem Qqk: ∀{m:List TwoD} {k:Nat} {a:Int},(∀s∈m,1≤s.2.1∧s.2.1≤50)→0≤a→a+1=Qi (-1) m→(Qu k m a).1+1=k+m.length∧(Qu k m a).2.2=1
 | [],k,a,_,h0,h1=>by simp [Qi] at h1; omega
 | s::r,k,a,hs,h0,h1=>by
  rw [QcI] at h1;have hr: ∀s∈r,1≤s.2.1∧s.2.1≤50:=fun q hq=>hs q (List.mem_cons_of_mem _ hq)
  by_cases h:s.2.1≤a
  ·rw [Qln h];have:=Qqk (k:=k+1) hr (a:=a-s.2.1) (by omega) (by omega)
   simp only [List.length_cons];omega
  ·rw [QjK h];have hp:=(QaJ (g:= -1) hr).1;cases r with
   | nil=>
    have h0:Qi (-1) ([]:List TwoD)=0:=rfl;rw [h0] at h1;show k+1=k+(0+1)∧s.2.1-a=1;omega
   | cons q r=>
    have:=QaM hr (by simp)
    omega
theorem QnV {m:List TwoD} (hs: ∀s∈m,1≤s.2.1∧s.2.1≤50) (hl:1≤m.length):Qu 0 m 0=(0,0,(m.getD 0 (0,0,())).2.1):=by
 cases m with
 | nil=>simp at hl
 | cons s r=>
  have:=hs s (by simp)
  rw [QjK (by omega)]
  simp
def QeO (plan:List TwoD) (slot left:Int):Int×Int:=
 if left-1=0 then ((slot+1) % (plan.length:Int),(plan.getD ((slot+1) % (plan.length:Int)).toNat (0,0,())).2.1) else (slot,left-1)
theorem Qej {p:PolD} (hok:OkPol p): ∀s∈p.2.2.2.1,1≤s.2.1∧s.2.1≤50:=fun s hs=>(hok.slots s hs).2
theorem QuA {p:PolD} (hok:OkPol p) (c:Int):(0≤(Qap p c).1∧(Qap p c).1< (p.2.2.2.1.length:Int))∧1≤(Qap p c).2∧(Qap p c).2≤50:=by
 have hR:=QaM (Qej hok) hok.plan.1;obtain ⟨h1,s,h2,h3,h4,h5⟩:=QaY (m:=p.2.2.2.1) (k:=0) (a:=c % Qi (-1) p.2.2.2.1) (Qej hok) (Int.emod_nonneg _ (by omega)) (Int.emod_lt_of_pos _ (by omega))
 rw [Nat.sub_zero] at h2;have h6:=(List.getElem?_eq_some_iff.1 h2).1;have h7:=Qej hok s (List.mem_of_getElem? h2);unfold Qap;dsimp only;omega
theorem Qlt {p:PolD} (hok:OkPol p) {c:Int} (h0:0≤c):Qap p (c+1)=QeO p.2.2.2.1 (Qap p c).1 (Qap p c).2:=by
 have hR:=QaM (Qej hok) hok.plan.1;have hs:=Qej hok;have hlen:=hok.plan.1;unfold Qap QeO;dsimp only;generalize p.2.2.2.1=m at*;generalize hRR:Qi (-1) m=R at*;have a0:=Int.emod_nonneg c (b:=R) (by omega)
 have a1:=Int.emod_lt_of_pos c (b:=R) (by omega)
 have hadd:(c+1) % R=if c % R+1=R then 0 else c % R+1:=by
  rw [Int.add_emod];by_cases hR1:R=1
  ·subst hR1;simp
  ·rw [Int.emod_eq_of_lt (a:=1) (by omega) (by omega)]
   split
   ·rename_i e; rw [e]; exact Int.emod_self
   ·exact Int.emod_eq_of_lt (by omega) (by omega)
 rw [hadd];generalize c % R=a at*;by_cases hl:a+1=R
 ·rw [if_pos hl,QnV hs hlen];obtain ⟨e1,e2⟩:=Qqk (k:=0) hs a0 (by rw [hRR]; exact hl)
  rw [if_pos (by rw [e2]; decide)]
  have e3:((Qu 0 m a).1:Int)+1=(m.length:Int):=by omega
  rw [e3,Int.emod_self];rfl
 ·rw [if_neg hl,Qml hs a0 (by rw [hRR]; omega)]
  obtain ⟨_,s,h2,h3,h4,h5⟩:=QaY (m:=m) (k:=0) (a:=a) hs a0 (by rw [hRR]; exact a1)
  rw [Nat.sub_zero] at h2;have h6:=(List.getElem?_eq_some_iff.1 h2).1;by_cases h1:(Qu 0 m a).2.2=1
  ·rw [if_pos h1,if_pos (by omega)]
   have hlt:(Qu 0 m a).1+1< m.length:=by
    have key:=Qml (k:=0) hs a0 (by rw [hRR]; omega:a+1< Qi (-1) m)
    rw [if_pos h1] at key;obtain ⟨_,s',h2',_⟩:=QaY (m:=m) (k:=0) (a:=a+1) hs (by omega) (by rw [hRR]; omega)
    rw [key,Nat.sub_zero] at h2';exact (List.getElem?_eq_some_iff.1 h2').1
   have e4:(((Qu 0 m a).1:Int)+1) % (m.length:Int)=(((Qu 0 m a).1+1:Nat):Int):=by rw [Int.emod_eq_of_lt (by omega) (by omega)]; omega
   rw [e4,Int.toNat_natCast,Nat.sub_zero]
  ·rw [if_neg h1,if_neg (by omega)]
structure HK (x:QF):Prop where
 pol:polM x.1=0
 mem:QJ x.2.1=0∧x.2.1.length=192
 len:x.2.2.1.length=x.1.1.length
 harts: ∀h∈x.2.2.1,hartM h=0
 clock:0≤x.2.2.2.2.2.1∧x.2.2.2.2.2.1≤1000000
 slot:x.2.2.2.1=(Qap x.1 x.2.2.2.2.2.1).1
 left:x.2.2.2.2.1=(Qap x.1 x.2.2.2.2.2.1).2
theorem HK.ok {x:QF} (h:HK x):OkPol x.1:=Qgb h.pol
theorem QhY: ∀{m:List QO},Qhw m=none↔ ∀h∈m,hartM h=0:=by
 have key: ∀{m:List QO} {i:Nat},scan (fun (_:Nat) h=>nz (hartM h)) i m=none↔ ∀h∈m,hartM h=0:=by
  intro m
  induction m with
  | nil=>intro i; simp [scan]
  | cons y r ih=>
   intro i;simp only [scan];by_cases hy:hartM y=0
   ·have:nz (hartM y)=none:=by unfold nz; rw [if_neg (by simpa using hy)]
    rw [this];simp only;rw [ih];simp [hy]
   ·have:nz (hartM y)=some (hartM y):=by unfold nz; rw [if_pos hy]
    rw [this];simp [hy]
 intro m;unfold Qhw;exact key
theorem HK.of {x:QF} (h:QdG x=0):HK x:=by
 have hp:=QsA h;unfold QdG at h;rw [if_neg (by simpa using hp)] at h
 split at h
 ·rename_i g;cases hh:Qhw x.2.2.1 with
  | some c=>
   rw [hh] at h
   have:c≠0:=by
    have: ∀{m:List QO} {i:Nat} {c:Int},scan (fun (_:Nat) h=>nz (hartM h)) i m=some c→c≠0:=by
     intro m
     induction m with
     | nil=>intro i c h; simp [scan] at h
     | cons y r ih=>
      intro i c h;simp only [scan] at h;split at h
      ·rename_i c' hc';obtain rfl:=Osj h;unfold nz at hc';split at hc'
       ·obtain rfl:=Osj hc'; assumption
       ·cases hc'
      ·exact ih h
    exact this hh
   exact absurd h this
  | none=>
   rw [hh] at h;simp only at h;split at h
   ·rename_i hc;split at h
    ·rename_i hs;exact ⟨hp,g.1,g.2,QhY.1 hh,QbR.1 hc,hs.1,hs.2⟩
    ·cases h
   ·cases h
 ·cases h
theorem HK.to {x:QF} (h:HK x):QdG x=0:=by
 unfold QdG;rw [if_neg (by simpa using h.pol),if_pos ⟨h.mem,h.len⟩,QhY.2 h.harts]
 simp only;rw [if_pos (QbR.2 h.clock),if_pos ⟨h.slot,h.left⟩]
theorem QiW {h:QO} (hh:hartM h=0):Qdi 1048576 h:=by
 unfold hartM at hh;split at hh
 ·rename_i c1;split at hh
  ·split at hh
   ·rename_i c3;exact ⟨by omega,by omega,by omega,by omega⟩
   ·cases hh
  ·cases hh
 ·cases hh
theorem QeH {p:PolD} (h:OkPol p):Qhc 1048576 p:=by
 have h1:=h.own; have h2:=h.lanes.1; have h3:=h.bells.1; have h4:=h.plan.2;exact ⟨⟨by omega,fun l hl=>by have:=(h.own1 l hl).2.1; omega⟩,by omega,by omega,by omega⟩
theorem HK.le {x:QF} (h:HK x):Qfh 1048576 x:=by
 have h1:=h.mem.2; have h2:=h.len; have h3:=h.ok.own;exact ⟨QeH h.ok,by omega,by omega,fun y hy=>QiW (h.harts y hy)⟩
abbrev QdA:=List (List Int)×List QP×List TwoD×List TwoD×List Int×List QO×Int×Int×Int×Unit
def boxH (x:QF):QdA:=(x.1.1,x.1.2.1,x.1.2.2.1,x.1.2.2.2.1,x.2.1,x.2.2.1,x.2.2.2.1,x.2.2.2.2.1,x.2.2.2.2.2.1,())
def Qqe (h:QO):QO:=(h.1,h.2.1,h.2.2.1,h.2.2.2.1,h.2.2.2.2.1,true,h.2.2.2.2.2.2)
def Qbc (k:Int) (hs:List QO):List QO:=hs.set k.toNat (Qqe (hs.getD k.toNat QU))
def turnG (x:QF):Int:=(x.1.2.2.2.1.getD x.2.2.2.1.toNat (0,0,())).1
def QR (x:QF):Mc:=Qai (Mc.of (x.2.2.1.getD (turnG x).toNat QU) x.2.1) (pgM x.1 (turnG x))
def QN (x:QF):List QO:=x.2.2.1.set (turnG x).toNat (QR x).hart
def QbU (x:QF):Bool:=x.1.2.2.1.any (Qam (turnG x,(QR x).ring,()))
def QaC (x:QF):QF:=
 (x.1,(QR x).m,(if QbU x=true then Qbc (QR x).ring (QN x) else QN x),(QeO x.1.2.2.2.1 x.2.2.2.1 x.2.2.2.2.1).1,(QeO x.1.2.2.2.1 x.2.2.2.1 x.2.2.2.2.1).2,x.2.2.2.2.2.1+1,())
theorem QsY {p:PolD} (hok:OkPol p): ∀b∈p.2.2.1,isG p b.1=true∧isG p b.2.1=true∧b.1≠b.2.1:=by
 intro b hb;obtain ⟨i,e⟩:=Qbf hok.bells.2 b hb;have e:=QlX e;unfold QeU at e;split at e
 ·rename_i h; exact absurd e h
 ·rename_i h0;have h0:QcB p b.1 b.2.1=0:=by simpa using h0
  unfold QcB at h0;split at h0
  ·split at h0
   ·split at h0
    ·cases h0
    ·exact ⟨‹_›, ‹_›, ‹_›⟩
   ·cases h0
  ·cases h0
theorem HK.turn {x:QF} (h:HK x):(0≤x.2.2.2.1∧x.2.2.2.1< (x.1.2.2.2.1.length:Int))∧(1≤x.2.2.2.2.1∧x.2.2.2.2.1≤50)∧isG x.1 (turnG x)=true∧x.1.2.2.2.1[x.2.2.2.1.toNat]?=some (x.1.2.2.2.1.getD x.2.2.2.1.toNat (0,0,())):=by
 have ht:=QuA h.ok x.2.2.2.2.2.1;rw [←h.slot, ←h.left] at ht;have hlt:x.2.2.2.1.toNat< x.1.2.2.2.1.length:=by omega
 refine ⟨ht.1,ht.2,(h.ok.slots _ (Qat (d:=(0,0,())) hlt)).1,?_⟩;rw [List.getD_eq_getElem?_getD,List.getElem?_eq_getElem hlt];rfl
theorem HK.guest {x:QF} (h:HK x) {g:Int} (hg:isG x.1 g=true):(0≤g∧g< (x.2.2.1.length:Int))∧x.2.2.1[g.toNat]?=some (x.2.2.1.getD g.toNat QU)∧hartM (x.2.2.1.getD g.toNat QU)=0:=by
 have hgi:=Qbs.1 hg;have hl:=h.len;have hlt:g.toNat< x.2.2.1.length:=by omega
 refine ⟨by omega,?_,h.harts _ (Qat hlt)⟩
 rw [List.getD_eq_getElem?_getD,List.getElem?_eq_getElem hlt];rfl
theorem HK.okL {x:QF} (h:HK x) {g:Int} (hg:isG x.1 g=true):OkL (pgM x.1 g) x.2.1:=by
 have hm:=h.mem
 have hw:allW x.2.1=true:=by
  have h1:=h.mem.1;unfold QJ at h1;rw [if_pos (QfZ h.mem.1)] at h1;split at h1
  ·assumption
  ·cases h1
 refine ⟨QeF _ _,fun q hq=>?_,Qao.1 hw,by omega⟩
 have:=QoP h.ok hg q hq;omega
theorem HK.okS {x:QF} (h:HK x):OkS (Mc.of (x.2.2.1.getD (turnG x).toNat QU) x.2.1) (pgM x.1 (turnG x)):=QuK (h.guest h.turn.2.2.1).2.2 (h.okL h.turn.2.2.1)
theorem HK.okT {x:QF} (h:HK x):OkS (QR x) (pgM x.1 (turnG x)):=QjG h.okS
theorem QoW {h:QO} (hh:hartM h=0):hartM (Qqe h)=0:=hh
theorem Qiw {x:QF} (h:HK x) (hr:QbU x=true):isG x.1 (QR x).ring=true:=by
 unfold QbU at hr;obtain ⟨b,hb,e⟩:=List.any_eq_true.1 hr;unfold Qam at e;simp only [Bool.and_true,Bool.and_eq_true,beq_iff_eq] at e;rw [e.2];exact (QsY h.ok b hb).2.1
theorem QbJ (x:QF):(QN x).length=x.2.2.1.length:=by unfold QN; simp
theorem Qfg {x:QF} (h:HK x): ∀y∈QN x,hartM y=0:=by
 intro y hy;unfold QN at hy;rcases List.mem_or_eq_of_mem_set hy with hy | rfl
 ·exact h.harts y hy
 ·exact h.okT.hartM
theorem QjH {x:QF} (h:HK x):(QR x).m.length=192:=by unfold QR; rw [QjF]; exact h.mem.2
theorem HK.next {x:QF} (h:HK x) (hc:x.2.2.2.2.2.1< 1000000):HK (QaC x):=by
 have hl:=h.okT.l;refine ⟨h.pol,⟨?_,QjH h⟩,?_,?_,?_,?_,?_⟩
 ·show QJ (QR x).m=0;unfold QJ;rw [QjH h,if_pos (by decide),if_pos (Qao.2 hl.words)]
 ·show (if QbU x=true then Qbc (QR x).ring (QN x) else QN x).length=_
  split
  ·unfold Qbc; rw [List.length_set,QbJ]; exact h.len
  ·rw [QbJ]; exact h.len
 ·show ∀y∈(if QbU x=true then Qbc (QR x).ring (QN x) else QN x),hartM y=0
  split
  ·rename_i hr;have hg:=Qbs.1 (Qiw h hr);intro y hy;unfold Qbc at hy;rcases List.mem_or_eq_of_mem_set hy with hy | rfl
   ·exact Qfg h y hy
   ·exact QoW (Qfg h _ (Qat (by rw [QbJ,h.len]; omega)))
  ·exact Qfg h
 ·have:=h.clock;show 0≤x.2.2.2.2.2.1+1∧x.2.2.2.2.2.1+1≤1000000;omega
 ·show (QeO x.1.2.2.2.1 x.2.2.2.1 x.2.2.2.2.1).1=(Qap x.1 (x.2.2.2.2.2.1+1)).1;rw [Qlt h.ok h.clock.1, ←h.slot, ←h.left]
 ·show (QeO x.1.2.2.2.1 x.2.2.2.1 x.2.2.2.2.1).2=(Qap x.1 (x.2.2.2.2.2.1+1)).2;rw [Qlt h.ok h.clock.1, ←h.slot, ←h.left]
theorem Dr.gatE {X Y:Type} {xs:List X} {i:Int} {n:Nat} {f:X→Option Y} {P:Y→Prop} (hn:xs.length=n) (h:0≤i∧i< (n:Int)) (k: ∀y,xs[i.toNat]?=some y→Dr (f y) P):Dr (if 0≤i∧i< ((xs.length:Nat):Int) then (xs[i.toNat]?).bind f else none) P:=by
 subst hn;exact Dr.guard h (Dr.get (by omega) fun y _ hy=>k y hy)
theorem QnD (k:Int) (hs:List QO):Qbc k (Qbc k hs)=Qbc k hs:=by
 unfold Qbc;by_cases hk:k.toNat< hs.length
 ·rw [List.set_set];congr 1;rw [List.getD_eq_getElem?_getD,List.getElem?_set_self hk];rfl
 ·rw [List.set_eq_of_length_le (by simp; omega)]
def QdR (g k:Int):List TwoD→List QO→List QO
 | [],hs=>hs
 | b::r,hs=>QdR g k r (if Qam (g,k,()) b=true then Qbc k hs else hs)
theorem Qft (g k:Int): ∀(r:List TwoD) (hs:List QO),QdR g k r (Qbc k hs)=Qbc k hs
 | [],_=>rfl
 | b::r,hs=>by
  rw [QdR];split
  ·rw [QnD,Qft g k r]
  ·exact Qft g k r hs
theorem Qjp (g k:Int): ∀(r:List TwoD) (hs:List QO),QdR g k r hs=if r.any (Qam (g,k,()))=true then Qbc k hs else hs
 | [],_=>rfl
 | b::r,hs=>by
  rw [QdR,List.any_cons];by_cases hb:Qam (g,k,()) b=true
  ·rw [if_pos hb,Qft,if_pos (by simp [hb])]
  ·have hb':Qam (g,k,()) b=false:=by simpa using hb
   rw [if_neg hb,Qjp g k r,hb',Bool.false_or]
def Qny (b:QdA) (hs:List QO):QdA:=(b.1,b.2.1,b.2.2.1,b.2.2.2.1,b.2.2.2.2.1,hs,b.2.2.2.2.2.2.1,b.2.2.2.2.2.2.2.1,b.2.2.2.2.2.2.2.2.1,())
theorem Qpl (b:QdA) (g k:Int) (hb:b.2.2.1.length≤1000) (hk: ∀y∈b.2.2.1,Qam (g,k,()) y=true→0≤k∧k< (b.2.2.2.2.2.1.length:Int)):
  F_bs (b,g,k,())=some ((),(Qny b (if b.2.2.1.any (Qam (g,k,()))=true then Qbc k b.2.2.2.2.2.1 else b.2.2.2.2.2.1),())):=by
 rw [←Qjp];refine Dr.eq ?_;unfold F_bs
 have k1:Dr (L_bs_1 (((),(g,(k,((0:Int),())))),((b,()),()))) fun o=>o= .inl ((),((Qny b (QdR g k b.2.2.1 b.2.2.2.2.2.1),()),())):=by
  refine Qau (fun n u=> ∃(i:Nat) (hs:List QO),u=(((),(g,(k,((i:Int),())))),((Qny b hs,()),()))∧n=b.2.2.1.length-i∧i≤b.2.2.1.length∧hs.length=b.2.2.2.2.2.1.length∧QdR g k (b.2.2.1.drop i) hs=QdR g k b.2.2.1 b.2.2.2.2.2.1) ?_ _ _ ⟨0,_,rfl,rfl,Nat.zero_le _,rfl,rfl⟩ (by rw [QW]; omega)
  rintro rec n _ ⟨i,hs,rfl,hn,hi,hl,he⟩ ih;unfold l_bs_1 Qny;dsimp only;by_cases hlt:i< b.2.2.1.length
  case neg=>
   rw [if_neg (lt_f hlt)];rw [List.drop_of_length_le (by omega)] at he
   exact Dr.ret (by rw [←he]; rfl)
  rw [if_pos (lt_t hlt),if_pos nat0,Qw hlt,Qaa (by omega)]
  rw [List.drop_eq_getElem_cons hlt,QdR] at he;have hky:=hk _ (List.getElem_mem hlt);generalize b.2.2.1[i]=y at*
  have skip: ¬Qam (g,k,()) y=true→Dr (rec (((),(g,(k,(((i+1:Nat):Int),())))),(((b.1,b.2.1,b.2.2.1,b.2.2.2.1,b.2.2.2.2.1,hs,b.2.2.2.2.2.2.1,b.2.2.2.2.2.2.2.1,b.2.2.2.2.2.2.2.2.1,()),()),()))) fun o=>o= .inl ((),(((b.1,b.2.1,b.2.2.1,b.2.2.2.1,b.2.2.2.2.1,QdR g k b.2.2.1 b.2.2.2.2.2.1,b.2.2.2.2.2.2.1,b.2.2.2.2.2.2.2.1,b.2.2.2.2.2.2.2.2.1,()),()),())):=fun hn'=>by
   rw [if_neg hn'] at he;exact ih (n-1) _ (by omega) ⟨i+1,hs,rfl,by omega,by omega,hl,he⟩
  by_cases h1:y.1=g
  ·rw [if_pos (by simpa using h1)]
   by_cases h2:y.2.1=k
   ·have hs':Qam (g,k,()) y=true:=by unfold Qam; simp [h1,h2]
    have hkk:=hky hs';rw [if_pos hs'] at he;rw [if_pos (by simpa using h2)]
    refine Dr.gatE (n:=hs.length) rfl (by omega) fun z hz=>ih (n-1) _ (by omega) ⟨i+1,_,rfl,by omega,by omega,by simpa using hl,?_⟩
    rw [←he];unfold Qbc;rw [List.getD_eq_getElem?_getD,hz];rfl
   ·rw [if_neg (by simpa using h2)]
    exact skip (by unfold Qam; simp; intro _ e; exact absurd e.symm h2)
  ·rw [if_neg (by simpa using h1)]
   exact skip (by unfold Qam; simp; intro e; exact absurd e.symm h1)
 refine k1.bind fun o ho=>?_
 subst ho;exact Dr.ret rfl
theorem QnN {x:QF} (h:HK x) (hc:x.2.2.2.2.2.1< 1000000):F_bt (boxH x,())=some ((),(boxH (QaC x),())):=by
 obtain ⟨h1,h2,h3,h4⟩:=h.turn;obtain ⟨g1,g2,g3⟩:=h.guest h3;have hS:=h.okS;have hfr:FR (QR x):=QnR (Mc.of (x.2.2.1.getD (turnG x).toNat QU) x.2.1) (pgM x.1 (turnG x));have hstep:F_br ((Mc.of (x.2.2.1.getD (turnG x).toNat QU) x.2.1).bus (pgM x.1 (turnG x)),())=some ((),((QR x).bus (pgM x.1 (turnG x)),())):=Qpm hS;have hm:=h.mem.2;have hrang:=Qiw h;have hcl:=h.clock;have hle:=QiW g3;have hpl:=h.ok.plan;refine Dr.eq ?_;unfold F_bt;refine Dr.guard h1.1 (Dr.step h4 (Dr.guard g1 (Dr.step g2 (Dr.step (QnI h.ok h3) (Dr.step (QrL _ _ _ hle (by show x.2.1.length≤1048576; omega)) (Dr.step hstep ?_))))))
 refine Dr.guard g1 (Dr.step g2 ?_);have e1:IntKind.i64.wrap (x.2.2.2.2.2.1+1)=x.2.2.2.2.2.1+1:=Qm (by omega) (by omega)
 have e2:IntKind.i64.wrap (x.2.2.2.2.1-1)=x.2.2.2.2.1-1:=Qm (by omega) (by omega)
 have e3:IntKind.i64.wrap (x.2.2.2.1+1)=x.2.2.2.1+1:=Qm (by omega) (by omega)
 have hpos:0< (x.1.2.2.2.1.length:Int):=by omega
 have hmod:(x.2.2.2.1+1).tmod ((x.1.2.2.2.1.length:Nat):Int)=(x.2.2.2.1+1) % (x.1.2.2.2.1.length:Int):=Int.tmod_eq_emod_of_nonneg (by omega)
 have m0:=Int.emod_nonneg (x.2.2.2.1+1) (b:=(x.1.2.2.2.1.length:Int)) (by omega)
 have m1:=Int.emod_lt_of_pos (x.2.2.2.1+1) (b:=(x.1.2.2.2.1.length:Int)) hpos;have hmi:((x.2.2.2.1+1) % (x.1.2.2.2.1.length:Int)).toNat< x.1.2.2.2.1.length:=by omega
 have hd:x.1.2.2.2.1[((x.2.2.2.1+1) % (x.1.2.2.2.1.length:Int)).toNat]?=some (x.1.2.2.2.1.getD ((x.2.2.2.1+1) % (x.1.2.2.2.1.length:Int)).toNat (0,0,())):=by
  rw [List.getD_eq_getElem?_getD,List.getElem?_eq_getElem hmi]; rfl
 --what is behind the bell
 have fin: ∀hs:List QO,hs=(if QbU x=true then Qbc (QR x).ring (QN x) else QN x)→
   (∀(a:Int),a=x.2.2.2.2.1-1→Dr (if (a==(0:Int))=true then (if ((x.1.2.2.2.1.length:Nat):Int)=0 then none else if 0≤(x.2.2.2.1+1).tmod ((x.1.2.2.2.1.length:Nat):Int) then (x.1.2.2.2.1[((x.2.2.2.1+1).tmod ((x.1.2.2.2.1.length:Nat):Int)).toNat]?).bind fun y=>some ((),((x.1.1,x.1.2.1,x.1.2.2.1,x.1.2.2.2.1,(QR x).m,hs,(x.2.2.2.1+1).tmod ((x.1.2.2.2.1.length:Nat):Int),y.2.1,x.2.2.2.2.2.1+1,()),())) else none)
    else some ((),((x.1.1,x.1.2.1,x.1.2.2.1,x.1.2.2.2.1,(QR x).m,hs,x.2.2.2.1,a,x.2.2.2.2.2.1+1,()),()))) fun r=>r=((),(boxH (QaC x),()))):=by
  rintro hs rfl a rfl;rw [hmod];by_cases hz:x.2.2.2.2.1-1=0
  ·refine Dr.pos (by simpa using hz) (Dr.nguard (by omega) (Dr.guard m0 (Dr.step hd (Dr.ret ?_))))
   unfold boxH QaC QeO;dsimp only;rw [if_pos hz]
  ·refine Dr.neg (by simpa using hz) (Dr.ret ?_)
   unfold boxH QaC QeO;dsimp only;rw [if_neg hz]
 by_cases hr:0≤(QR x).ring
 ·refine Dr.pos (Qba.2 hr) ?_
  have hring:=Qpl (Qny (boxH (x.1,(QR x).m,x.2.2.1,x.2.2.2.1,x.2.2.2.2.1,x.2.2.2.2.2.1,())) (QN x)) (turnG x) (QR x).ring (by have:=h.ok.bells.1; show x.1.2.2.1.length≤1000; omega) (fun y hy hs=>by
   have hin:QbU x=true:=List.any_eq_true.2 ⟨y,hy,hs⟩;have:=Qbs.1 (hrang hin);show 0≤(QR x).ring∧(QR x).ring< ((QN x).length:Int);rw [QbJ,h.len];exact this)
  refine Dr.step hring ?_;have q:=fin (if QbU x=true then Qbc (QR x).ring (QN x) else QN x) rfl (IntKind.i64.wrap (x.2.2.2.2.1-1)) e2
  rw [←e1, ←e3] at q;exact q
 ·refine Dr.neg (by rw [Qba]; exact hr) ?_
  have hno: ¬QbU x=true:=fun hin=>hr (by have:=Qbs.1 (hrang hin); omega)
  have q:=fin (QN x) (by rw [if_neg hno]) (IntKind.i64.wrap (x.2.2.2.2.1-1)) e2
  rw [←e1, ←e3] at q;exact q
theorem QiZ {h:QO} {l:List TwoD} {m:List Int} (hh:Qdi 1048576 h) (hm:m.length≤1048576) (ho:OkS (Mc.of h m) l):F_fd (h,l,m,1,())=some (((Qai (Mc.of h m) l).res (Qai (Mc.of h m) l).fall (Qai (Mc.of h m) l).ring,()),()):=by
 rw [Qka h l m 1 hh hm ho (by decide),show (1:Int).toNat=1 from rfl]
 simp only [Qcn];obtain ⟨h1,h2⟩:=QnR (Mc.of h m) l;have e1:(if 0≤(Qai (Mc.of h m) l).fall then (Qai (Mc.of h m) l).fall else -1)=(Qai (Mc.of h m) l).fall:=by split <;> omega
 have e2:(if 0≤(Qai (Mc.of h m) l).ring then (Qai (Mc.of h m) l).ring else -1)=(Qai (Mc.of h m) l).ring:=by split <;> omega
 rw [e1,e2]
theorem Qnc {x:QF} (h:HK x) (hc:x.2.2.2.2.2.1< 1000000):F_fe (boxH x,())=some ((),(boxH (QaC x),())):=by
 obtain ⟨h1,h2,h3,h4⟩:=h.turn;obtain ⟨g1,g2,g3⟩:=h.guest h3;have hS:=h.okS;have hm:=h.mem.2;have hrang:=Qiw h;have hcl:=h.clock;have hle:=QiW g3;have hpl:=h.ok.plan
 have hturn:F_do (x,())=some ((turnG x,()),()):=by
  refine Dr.eq ?_;unfold F_do;exact Dr.guard h1.1 (Dr.step h4 (Dr.ret rfl))
 have hst:F_fd (x.2.2.1.getD (turnG x).toNat QU,pgM x.1 (turnG x),x.2.1,1,())=some (((QR x).res (QR x).fall (QR x).ring,()),()):=QiZ hle (by omega) hS
 refine Dr.eq ?_;unfold F_fe;refine Dr.step hturn (Dr.guard g1 (Dr.step g2 (Dr.step (QmY h.ok h3) (Dr.step hst ?_))));refine Dr.guard g1 (Dr.step g2 ?_);refine Dr.step (QhT (turnG x,(QR x).ring,()) x.1.2.2.1 (by have:=h.ok.bells.1; omega)) ?_
 have e1:IntKind.i64.wrap (x.2.2.2.2.2.1+1)=x.2.2.2.2.2.1+1:=Qm (by omega) (by omega)
 have e2:IntKind.i64.wrap (x.2.2.2.2.1-1)=x.2.2.2.2.1-1:=Qm (by omega) (by omega)
 have e3:IntKind.i64.wrap (x.2.2.2.1+1)=x.2.2.2.1+1:=Qm (by omega) (by omega)
 have hpos:0< (x.1.2.2.2.1.length:Int):=by omega
 have hmod:(x.2.2.2.1+1).tmod ((x.1.2.2.2.1.length:Nat):Int)=(x.2.2.2.1+1) % (x.1.2.2.2.1.length:Int):=Int.tmod_eq_emod_of_nonneg (by omega)
 have m0:=Int.emod_nonneg (x.2.2.2.1+1) (b:=(x.1.2.2.2.1.length:Int)) (by omega)
 have m1:=Int.emod_lt_of_pos (x.2.2.2.1+1) (b:=(x.1.2.2.2.1.length:Int)) hpos;have hmi:((x.2.2.2.1+1) % (x.1.2.2.2.1.length:Int)).toNat< x.1.2.2.2.1.length:=by omega
 have hd:x.1.2.2.2.1[((x.2.2.2.1+1) % (x.1.2.2.2.1.length:Int)).toNat]?=some (x.1.2.2.2.1.getD ((x.2.2.2.1+1) % (x.1.2.2.2.1.length:Int)).toNat (0,0,())):=by
  rw [List.getD_eq_getElem?_getD,List.getElem?_eq_getElem hmi]; rfl
 have fin: ∀hs:List QO,hs=(if QbU x=true then Qbc (QR x).ring (QN x) else QN x)→
   (∀(a:Int),a=x.2.2.2.2.1-1→Dr (if (a==(0:Int))=true then (if ((x.1.2.2.2.1.length:Nat):Int)=0 then none else if 0≤(x.2.2.2.1+1).tmod ((x.1.2.2.2.1.length:Nat):Int) then (x.1.2.2.2.1[((x.2.2.2.1+1).tmod ((x.1.2.2.2.1.length:Nat):Int)).toNat]?).bind fun y=>some ((),((x.1.1,x.1.2.1,x.1.2.2.1,x.1.2.2.2.1,(QR x).m,hs,(x.2.2.2.1+1).tmod ((x.1.2.2.2.1.length:Nat):Int),y.2.1,x.2.2.2.2.2.1+1,()),())) else none)
    else some ((),((x.1.1,x.1.2.1,x.1.2.2.1,x.1.2.2.2.1,(QR x).m,hs,x.2.2.2.1,a,x.2.2.2.2.2.1+1,()),()))) fun r=>r=((),(boxH (QaC x),()))):=by
  rintro hs rfl a rfl;rw [hmod];by_cases hz:x.2.2.2.2.1-1=0
  ·refine Dr.pos (by simpa using hz) (Dr.nguard (by omega) (Dr.guard m0 (Dr.step hd (Dr.ret ?_))))
   unfold boxH QaC QeO;dsimp only;rw [if_pos hz]
  ·refine Dr.neg (by simpa using hz) (Dr.ret ?_)
   unfold boxH QaC QeO;dsimp only;rw [if_neg hz]
 by_cases hin:QbU x=true
 ·refine Dr.pos hin ?_;have hg:=Qbs.1 (hrang hin);refine Dr.gatE (n:=(QN x).length) rfl (by rw [QbJ,h.len]; exact hg) fun z hz=>?_
  have hz':(QN x)[(QR x).ring.toNat]?=some z:=hz
  have ez:Qbc (QR x).ring (QN x)=(QN x).set (QR x).ring.toNat (Qqe z):=by
   unfold Qbc;rw [List.getD_eq_getElem?_getD,hz'];rfl
  have q:=fin ((QN x).set (QR x).ring.toNat (Qqe z)) (by rw [if_pos hin,ez]) (IntKind.i64.wrap (x.2.2.2.2.1-1)) e2
  rw [←e1, ←e3] at q;exact q
 ·refine Dr.neg hin ?_;have q:=fin (QN x) (by rw [if_neg hin]) (IntKind.i64.wrap (x.2.2.2.2.1-1)) e2
  rw [←e1, ←e3] at q;exact q
theorem QrP {X:Type} {xs:List X} {i:Nat} (h:i< xs.length):xs.take i++[xs[i]]=xs.take (i+1):=by
 rw [List.take_add_one,List.getElem?_eq_getElem h];rfl
theorem Qfu {X:Type} {xs:List X} {i:Nat} (h:i< xs.length):xs.set i xs[i]=xs:=by
 apply List.ext_getElem (by simp)
 intro j h1 h2;rw [List.getElem_set];split
 ·rename_i e; subst e; rfl
 ·rfl
theorem Qkf {p:PolD} (hok:OkPol p):F_ac (p,())=some (((p.1,p.2.1,p.2.2.1,p.2.2.2.1,()),()),()):=by
 have hle:=QeH hok;have ho:=hok.own;have hb:=hok.bells.1;have hp:=hok.plan.2;have hl:=hok.lanes.1;refine Dr.eq ?_;unfold F_ac;dsimp only;refine Dr.pos (by simp; omega) (.pos (by simp; omega) (.pos (by simp; omega) ?_))
 have k1:Dr (L_ac_3 (((),((),((),((0:Int),())))),((p,(([],([],([],([],())))),(([],([]++p.2.1,([]++p.2.2.1,([]++p.2.2.2.1,())))),()))),()))) fun o=>o= .inl (((),((),())),((([],([],([],([],())))),((p.1,(p.2.1,(p.2.2.1,(p.2.2.2.1,())))),())),())):=by
  refine Qau (fun n u=> ∃i:Nat,u=(((),((),((),((i:Int),())))),((p,(([],([],([],([],())))),((p.1.take i,([]++p.2.1,([]++p.2.2.1,([]++p.2.2.2.1,())))),()))),()))∧n=p.1.length-i∧i≤p.1.length) ?_ _ _ ⟨0,rfl,rfl,Nat.zero_le _⟩ (by rw [QW]; omega)
  rintro rec n _ ⟨i,rfl,hn,hi⟩ ih;unfold l_ac_3;dsimp only;by_cases hlt:i< p.1.length
  case neg=>
   rw [if_neg (lt_f hlt),List.take_of_length_le (by omega)]
   exact Dr.ret rfl
  have hy:=(hok.own1 _ (List.getElem_mem hlt)).2.1;rw [if_pos (lt_t hlt),if_pos nat0,Qw hlt,Qaa (by omega)]
  refine Dr.pos (by simp; omega) (.pos (by simp; omega) ?_)
  exact ih (n-1) _ (by omega) ⟨i+1,by rw [List.nil_append,QrP hlt],by omega,by omega⟩
 refine k1.bind fun o h=>?_
 subst h;exact Dr.ret rfl
theorem QjZ {p:PolD} (hok:OkPol p):F_dk (p,())=some (((p.1,p.2.1,p.2.2.1,p.2.2.2.1,()),()),()):=by
 have hle:=QeH hok;have ho:=hok.own;have hb:=hok.bells.1;have hp:=hok.plan.2;have hl:=hok.lanes.1;refine Dr.eq ?_;unfold F_dk F_df;dsimp only;rw [if_pos (by simp; omega),Obn]
 have k1:Dr (L_dk_3 (((),((),(((p.1.length:Nat):Int),((0:Int),())))),(((p.1,(p.2.1,(p.2.2.1,(p.2.2.2.1,())))),(([],([],([],([],())))),())),()))) fun o=>o= .inl (((),((),())),(((p.1,(p.2.1,(p.2.2.1,(p.2.2.2.1,())))),(([],([],([],([],())))),())),())):=by
  refine Qau (fun n u=> ∃i:Nat,u=(((),((),(((p.1.length:Nat):Int),((i:Int),())))),(((p.1,(p.2.1,(p.2.2.1,(p.2.2.2.1,())))),(([],([],([],([],())))),())),()))∧n=p.1.length-i∧i≤p.1.length) ?_ _ _ ⟨0,rfl,rfl,Nat.zero_le _⟩ (by rw [QW]; omega)
  rintro rec n _ ⟨i,rfl,hn,hi⟩ ih;unfold l_dk_3;dsimp only;by_cases hlt:i< p.1.length
  case neg=>
   rw [if_neg (lt_f hlt)];exact Dr.ret rfl
  have hy:=(hok.own1 _ (List.getElem_mem hlt)).2.1;rw [if_pos (lt_t hlt),if_pos ⟨nat0,Int.ofNat_lt.2 hlt⟩,Qw hlt,Qaa (by omega),QcQ (by omega),Obn,if_pos ⟨nat0,Int.ofNat_lt.2 hlt⟩,Qw hlt,Int.toNat_natCast]
  dsimp only;rw [Qfu hlt];exact ih (n-1) _ (by omega) ⟨i+1,rfl,by omega,by omega⟩
 refine k1.bind fun o h=>?_
 subst h;unfold F_dh F_di F_dj;dsimp only;rw [if_pos (by simp; omega),Obn,if_pos (by simp; omega),Obn,if_pos (by simp; omega),Obn]
 exact Dr.ret rfl
theorem QmV {x:QF} (h:HK x):F_dn (x,())=some ((boxH x,()),()):=by
 have hle:=h.le;have hm:=h.mem.2;have hh:=hle.2.2.1;refine Dr.eq ?_;unfold F_dn;refine Dr.step (QjZ h.ok) (.step (QcQ (q:=x.2.1) (by omega)) ?_)
 unfold F_dl;dsimp only;rw [if_pos (by simp; omega),Obn]
 have k1:Dr (L_dn_5 (((),((),(((x.2.2.1.length:Nat):Int),((0:Int),())))),((boxH x,(([],([],([],([],([],([],((0:Int),((0:Int),((0:Int),()))))))))),())),()))) fun o=>o= .inl (((),((),())),((boxH x,(([],([],([],([],([],([],((0:Int),((0:Int),((0:Int),()))))))))),())),())):=by
  refine Qau (fun n u=> ∃i:Nat,u=(((),((),(((x.2.2.1.length:Nat):Int),((i:Int),())))),((boxH x,(([],([],([],([],([],([],((0:Int),((0:Int),((0:Int),()))))))))),())),()))∧n=x.2.2.1.length-i∧i≤x.2.2.1.length) ?_ _ _ ⟨0,rfl,rfl,Nat.zero_le _⟩ (by rw [QW]; omega)
  rintro rec n _ ⟨i,rfl,hn,hi⟩ ih;unfold l_dn_5 boxH;dsimp only;by_cases hlt:i< x.2.2.1.length
  case neg=>
   rw [if_neg (lt_f hlt)];exact Dr.ret rfl
  rw [if_pos (lt_t hlt),if_pos ⟨nat0,Int.ofNat_lt.2 hlt⟩,Qw hlt,Qaa (by omega),Qop _ (hle.2.2.2 _ (List.getElem_mem hlt)),Obn,if_pos ⟨nat0,Int.ofNat_lt.2 hlt⟩,Qw hlt,Int.toNat_natCast]
  dsimp only;rw [Qfu hlt];exact ih (n-1) _ (by omega) ⟨i+1,rfl,by omega,by omega⟩
 refine k1.bind fun o h=>?_
 subst h;exact Dr.ret rfl
def setM (s:QbC) (m:List Int):QbC:=(s.1,s.2.1,m,())
def QuM (s:QbC) (h:QO):QbC:=((s.1.1,s.1.2.1,s.1.2.2.1,s.1.2.2.2.1,s.1.2.2.2.2.1,h.2.2.2.2.2.1,s.1.2.2.2.2.2.2),s.2.1,s.2.2.1,())
theorem QjW {m:List Int} (h:QJ m=0): ∀w∈m,WW w:=by
 unfold QJ at h;split at h
 ·split at h
  ·exact Qao.1 ‹_›
  ·cases h
 ·cases h
theorem Qsw {m:List Int} (hl:m.length=64) (h: ∀w∈m,WW w):QJ m=0:=by
 unfold QJ;rw [if_pos (by rw [hl]; decide),if_pos (Qao.2 h)]
theorem Qjz {s:QbC} (h1:hartM s.1=0) (h2:QhH s.2.1 8=0) (h3:s.2.2.1.length=64) (h4: ∀w∈s.2.2.1,WW w):QcM s=0:=by
 unfold QcM;rw [if_neg (by simpa using h1),if_neg (by simpa using h2),if_pos ⟨Qsw h3 h4,h3⟩]
theorem QoZ {s:QbC} (h:QcM s=0) {m:List Int} (hl:m.length=64) (hw: ∀w∈m,WW w):QcM (setM s m)=0:=by
 obtain ⟨h1,h2,h3,h4⟩:=QfP h;exact Qjz h1 h2 hl hw
theorem QnF {s:QbC} (h:QcM s=0) (y:QO):QcM (QuM s y)=0:=by
 obtain ⟨h1,h2,h3,h4⟩:=QfP h;exact Qjz h1 h2 h4 (QjW h3)
def Qfb (m:List Int) (g:Int):List QP→List Int→List Int
 | [],q=>q
 | l::r,q=>Qfb m g r (if l.2.1=g then Qii q l.2.2.2.2.1.toNat (pg m l.2.2.1) else q)
theorem Qnz {s ws:List Int} {k:Nat} (h1: ∀w∈s,WW w) (h2: ∀w∈ws,WW w): ∀w∈Qii s k ws,WW w:=by
 intro w hw;unfold Qii at hw;rcases List.mem_append.1 hw with hw | hw
 ·exact h1 w (List.mem_of_mem_take hw)
 ·rcases List.mem_append.1 hw with hw | hw
  ·exact h2 w hw
  ·exact h1 w (List.mem_of_mem_drop hw)
theorem Qtl {m:List Int} {p:Int} (h: ∀w∈m,WW w): ∀w∈pg m p,WW w:=fun w hw=>h w (List.mem_of_mem_drop (List.mem_of_mem_take hw))
theorem QpP {x:QF} (h:HK x) {l:QP} (hl:l∈x.1.2.1):(0≤l.2.2.1∧8*l.2.2.1+8≤(x.2.1.length:Int))∧(0≤l.2.2.2.2.1∧l.2.2.2.2.1< 8)∧(pg x.2.1 l.2.2.1).length=8∧ ∀w∈pg x.2.1 l.2.2.1,WW w:=by
 have hm:=h.mem.2;obtain ⟨_,h2,h3,h4⟩:=QdP h.ok l hl;have e:0≤l.2.2.1∧8*l.2.2.1+8≤(x.2.1.length:Int):=by omega
 exact ⟨e,by omega,Qul e,Qtl (QjW h.mem.1)⟩
theorem QiQ {x:QF} (h:HK x) {g:Int}: ∀{r:List QP} {q:List Int},(∀l∈r,l∈x.1.2.1)→q.length=64→(∀w∈q,WW w)→(Qfb x.2.1 g r q).length=64∧ ∀w∈Qfb x.2.1 g r q,WW w
 | [],q,_,h1,h2=>⟨h1,h2⟩
 | l::r,q,hr,h1,h2=>by
  obtain ⟨_,l2,l3,l4⟩:=QpP h (hr l (by simp))
  rw [Qfb];split
  ·exact QiQ h (fun y hy=>hr y (List.mem_cons_of_mem _ hy)) (QhJ h1 (by omega) l3) (Qnz h2 l4)
  ·exact QiQ h (fun y hy=>hr y (List.mem_cons_of_mem _ hy)) h1 h2
def fedS (x:QF) (s:QbC) (g:Int):QbC:=setM s (Qfb x.2.1 g x.1.2.1 s.2.2.1)
def Qil (x:QF) (s:QbC) (g:Int):QbC:=QuM (fedS x s g) (x.2.2.1.getD g.toNat QU)
def Qhg (x:QF) (s:QbC) (g:Int):Mc:=Qai (Mc.of (Qil x s g).1 (Qil x s g).2.2.1) (Qil x s g).2.1
def QuP (x:QF) (s:QbC) (g:Int):QbC:=((Qhg x s g).hart,s.2.1,(Qhg x s g).m,())
theorem QtR {x:QF} {s:QbC} (g:Int) (hx:HK x) (hs:QcM s=0):QcM (fedS x s g)=0:=by
 obtain ⟨h1,h2,h3,h4⟩:=QfP hs;obtain ⟨f1,f2⟩:=QiQ hx (g:=g) (r:=x.1.2.1) (q:=s.2.2.1) (fun _ h=>h) h4 (QjW h3)
 exact QoZ hs f1 f2
theorem Qtr {x:QF} {s:QbC} (g:Int) (hx:HK x) (hs:QcM s=0):QcM (Qil x s g)=0:=QnF (QtR g hx hs) _
theorem Qtt {x:QF} {s:QbC} (g:Int) (hx:HK x) (hs:QcM s=0):QcM (QuP x s g)=0:=by
 have hr:=Qtr g hx hs;have ho:OkS (Qhg x s g) (Qil x s g).2.1:=QjG (QsZ hr);have hl:=ho.l;obtain ⟨h1,h2,h3,h4⟩:=QfP hr;exact Qjz ho.hartM h2 (by show (Qhg x s g).m.length=64; unfold Qhg; rw [QjF]; exact h4) hl.words
abbrev pgAt (l:List TwoD) (k:Nat):TwoD:=l.getD k (-1,0,())
theorem QdY {α:Type} {l:List α} {k:Nat} {d:α}:l.getD k d=(l[k]?).getD d:=List.getD_eq_getElem?_getD
theorem QpX {m:List Int} {a:Int} {o:Nat} (ho:o< 8):(pg m a).getD o 0=m.getD (8*a.toNat+o) 0:=by
 unfold pg;rw [QdY,QdY,List.getElem?_take,if_pos ho,List.getElem?_drop]
theorem Qtk {m:List Int} {a b:Int} {o:Nat} {w:Int} (ho:o< 8) (ha:0≤a) (hb:0≤b):pg (m.set (8*a.toNat+o) w) b=if a=b then (pg m b).set o w else pg m b:=by
 unfold pg;by_cases h:a=b
 ·subst h;rw [if_pos rfl];apply List.ext_getElem?;intro i;by_cases hi:i< 8
  ·simp only [List.getElem?_take,if_pos hi,List.getElem?_drop,List.getElem?_set,List.length_take,List.length_drop];by_cases e:o=i
   ·subst e;simp only [if_true];by_cases hl:8*a.toNat+o< m.length
    ·rw [if_pos hl,if_pos (by omega)]
    ·rw [if_neg hl,if_neg (by omega)]
   ·rw [if_neg (by omega),if_neg e]
  ·rw [List.getElem?_eq_none (by simp; omega),List.getElem?_eq_none (by simp; omega)]
 ·rw [if_neg h];apply List.ext_getElem?;intro i;by_cases hi:i< 8
  ·simp only [List.getElem?_take,if_pos hi,List.getElem?_drop,List.getElem?_set];rw [if_neg (by omega)]
  ·rw [List.getElem?_eq_none (by simp; omega),List.getElem?_eq_none (by simp; omega)]
structure Sim (l l':List TwoD) (m m':List Int):Prop where
 len:l.length=8∧l'.length=8
 kind: ∀k,k< 8→(pgAt l' k).2=(pgAt l k).2
 neg: ∀k,k< 8→(0≤(pgAt l k).1↔0≤(pgAt l' k).1)
 top: ∀k,k< 8→(pgAt l k).1≤23∧(pgAt l' k).1≤23
 inj: ∀i j,i< 8→j< 8→0≤(pgAt l i).1→(pgAt l i).1=(pgAt l j).1→i=j
 inj': ∀i j,i< 8→j< 8→0≤(pgAt l' i).1→(pgAt l' i).1=(pgAt l' j).1→i=j
 same: ∀k,k< 8→0≤(pgAt l k).1→pg m (pgAt l k).1=pg m' (pgAt l' k).1
section
variable {l l':List TwoD} {m m' cs:List Int}
def Spot (l l':List TwoD) (kind:Int) (x y:Int):Prop:= ∃k o:Nat,k< 8∧o< 8∧0≤(pgAt l k).1∧mayP (pgAt l k) kind=true∧x=(pgAt l k).1*8+(o:Int)∧y=(pgAt l' k).1*8+(o:Int)
theorem Sim.walk (h:Sim l l' m m') (at_ kind:Int):(Qaf l at_ kind= -1∧Qaf l' at_ kind= -1)∨
  ∃k o:Nat,k< 8∧o< 8∧at_=8*(k:Int)+(o:Int)∧0≤(pgAt l k).1∧mayP (pgAt l k) kind=true∧Qaf l at_ kind=(pgAt l k).1*8+(o:Int)∧Qaf l' at_ kind=(pgAt l' k).1*8+(o:Int):=by
 unfold Qaf;by_cases ha:0≤at_∧at_≤63
 ·rw [if_pos ha,if_pos ha];have hk:(at_ / 8).toNat< 8:=by omega
  have e:mayP (l'.getD (at_ / 8).toNat (-1,0,())) kind=mayP (l.getD (at_ / 8).toNat (-1,0,())) kind:=by
   unfold mayP;rw [show (l'.getD (at_ / 8).toNat (-1,0,())).2.1=(l.getD (at_ / 8).toNat (-1,0,())).2.1 from congrArg (·.1) (h.kind _ hk),decide_eq_decide.2 (h.neg _ hk)]
  rw [e];by_cases hm:mayP (l.getD (at_ / 8).toNat (-1,0,())) kind=true
  ·rw [if_pos hm,if_pos hm];refine .inr ⟨(at_ / 8).toNat,(at_ % 8).toNat,hk,by omega,by omega,?_,hm,by dsimp only [pgAt]; omega,by dsimp only [pgAt]; omega⟩
   simp only [mayP,Bool.and_eq_true,decide_eq_true_eq] at hm;exact hm.1
  ·rw [if_neg hm,if_neg hm]; exact .inl ⟨rfl,rfl⟩
 ·rw [if_neg ha,if_neg ha]; exact .inl ⟨rfl,rfl⟩
theorem Sim.space (h:Sim l l' m m') (cs:List Int):QbO cs l m=QbO cs l' m':=by
 unfold QbO;by_cases h0:cs.getD 10 0=0
 ·rw [if_pos h0,if_pos h0]
 by_cases h8:cs.getD 10 0=8
 ·rw [if_neg h0,if_neg h0,if_pos h8,if_pos h8]
 rw [if_neg h0,if_neg h0,if_neg h8,if_neg h8];rcases h.walk ((cs.getD 10 0-1)*8) 1 with ⟨e1,e2⟩ | ⟨k,o,hk,ho,ha,hp,_,e1,e2⟩
 ·rw [e1,e2]; rfl
 ·have hp':=(h.neg k hk).1 hp;have o0:o=0:=by omega
  subst o0;rw [if_neg (by omega),if_neg (by omega),e1,e2]
  have:=h.same k hk hp;unfold pg at this;rw [show ((pgAt l k).1*8+((0:Nat):Int)).toNat=8*(pgAt l k).1.toNat by omega,show ((pgAt l' k).1*8+((0:Nat):Int)).toNat=8*(pgAt l' k).1.toNat by omega,this]
theorem Sim.place (h:Sim l l' m m') (cs:List Int) (at_ kind:Int):
  (Qx cs l m at_ kind=Qx cs l' m' at_ kind∧((Qx cs l m at_ kind).2=0→1000≤(Qx cs l m at_ kind).1∧kind≠4))∨
  ((Qx cs l m at_ kind).2=0∧(Qx cs l' m' at_ kind).2=0∧Spot l l' kind (Qx cs l m at_ kind).1 (Qx cs l' m' at_ kind).1):=by
 unfold Qx;rw [←h.space cs];cases QbO cs l m with
 | none=>exact .inl ⟨rfl,fun h=>by simp at h⟩
 | some s=>
  dsimp only;by_cases c1:Qaf s at_ kind< 0
  ·rw [if_pos c1,if_pos c1]; exact .inl ⟨rfl,fun h=>absurd h (Qdg kind)⟩
  rw [if_neg c1,if_neg c1];by_cases c2:Qaf s at_ kind / 8=7
  ·rw [if_pos c2,if_pos c2];refine .inl ⟨rfl,fun hz=>?_⟩
   by_cases c3:kind=4
   ·rw [if_pos c3] at hz; simp at hz
   ·rw [if_neg c3]; dsimp only; omega
  rw [if_neg c2,if_neg c2];rcases h.walk (Qaf s at_ kind) kind with ⟨e1,e2⟩ | ⟨k,o,hk,ho,ha,hp,hm,e1,e2⟩
  ·rw [e1,e2]; exact .inl ⟨rfl,fun h=>absurd h (Qdg kind)⟩
  ·have hp':=(h.neg k hk).1 hp;rw [e1,e2,if_neg (by omega),if_neg (by omega)]
   exact .inr ⟨rfl,rfl,k,o,hk,ho,hp,hm,rfl,rfl⟩
theorem Sim.spot {kind x y:Int} (h:Sim l l' m m') (hs:Spot l l' kind x y):(0≤x∧x< 1000)∧(0≤y∧y< 1000)∧m.getD x.toNat 0=m'.getD y.toNat 0∧ ∀w,Sim l l' (m.set x.toNat w) (m'.set y.toNat w):=by
 obtain ⟨k,o,hk,ho,hp,_,rfl,rfl⟩:=hs;have hp':=(h.neg k hk).1 hp;have ht:=h.top k hk;have ex:((pgAt l k).1*8+(o:Int)).toNat=8*(pgAt l k).1.toNat+o:=by omega
 have ey:((pgAt l' k).1*8+(o:Int)).toNat=8*(pgAt l' k).1.toNat+o:=by omega
 rw [ex,ey];refine ⟨by omega,by omega,?_,fun w=>?_⟩
 ·rw [←QpX ho, ←QpX ho,h.same k hk hp]
 ·refine { h with same:=fun j hj hq=>?_ }
  have hq':=(h.neg j hj).1 hq;rw [Qtk ho hp hq,Qtk ho hp' hq',h.same j hj hq];by_cases e:k=j
  ·subst e; rw [if_pos rfl,if_pos rfl]
  ·rw [if_neg fun c=>e (h.inj k j hk hj hp c),if_neg fun c=>e (h.inj' k j hk hj hp' c)]
def Like (l l':List TwoD) (s t:Mc):Prop:=t={ s with m:=t.m }∧Sim l l' s.m t.m
def QeL (l l':List TwoD) (x y:Bool×Int×Int×Mc):Prop:=x.1=y.1∧x.2.1=y.2.1∧x.2.2.1=y.2.2.1∧Like l l' x.2.2.2 y.2.2.2
theorem QgS {b:Bool} {n r:Int} {s t:Mc} (h:Like l l' s t):QeL l l' (b,n,r,s) (b,n,r,t):=⟨rfl,rfl,rfl,h⟩
theorem Qaz {α:Type} {R:α→α→Prop} {c:Prop} [Decidable c] {a b x y:α} (h1:c→R a x) (h2: ¬c→R b y):R (if c then a else b) (if c then x else y):=by
 by_cases h:c
 ·rw [if_pos h,if_pos h]; exact h1 h
 ·rw [if_neg h,if_neg h]; exact h2 h
theorem Qst {s:Mc} (h:Sim l l' s.m m') (op d a i:Int):QeL l l' (exM s l op d a i) (exM { s with m:=m' } l' op d a i):=by
 unfold exM;dsimp only;have t: ∀{c v:Int},QeL l l' (false,0,0,s.trap c v) (false,0,0,Mc.trap { s with m:=m' } c v):=QgS ⟨rfl,h⟩
 refine Qaz (R:=QeL l l') (fun _=>QgS ⟨rfl,h⟩) fun _=>Qaz (R:=QeL l l') (fun _=>QgS ⟨rfl,h⟩) fun _=>Qaz (R:=QeL l l') (fun _=>?_) fun _=>Qaz (R:=QeL l l') (fun _=>?_) fun _=>?_
 ·rcases h.place s.cs (addW (s.r.getD a.toNat 0) (off i)) 1 with ⟨e,hd⟩ | ⟨e1,e2,hs⟩
  ·rw [←e];exact Qaz (R:=QeL l l') (fun _=>t) fun c=>Qaz (R:=QeL l l') (fun _=>QgS ⟨rfl,h⟩) fun c2=>absurd (hd (by simpa using c)).1 c2
  ·obtain ⟨hx,hy,e3,_⟩:=h.spot hs;rw [if_neg (c:=(Qx s.cs l s.m (addW (s.r.getD a.toNat 0) (off i)) 1).2≠0) (by rw [e1]; simp),if_neg (c:=(Qx s.cs l' m' (addW (s.r.getD a.toNat 0) (off i)) 1).2≠0) (by rw [e2]; simp),if_neg (c:=1000≤(Qx s.cs l s.m (addW (s.r.getD a.toNat 0) (off i)) 1).1) (by omega),if_neg (c:=1000≤(Qx s.cs l' m' (addW (s.r.getD a.toNat 0) (off i)) 1).1) (by omega),e3]
   exact QgS ⟨rfl,h⟩
 ·rcases h.place s.cs (addW (s.r.getD a.toNat 0) (off i)) 2 with ⟨e,hd⟩ | ⟨e1,e2,hs⟩
  ·rw [←e];exact Qaz (R:=QeL l l') (fun _=>t) fun c=>Qaz (R:=QeL l l') (fun _=>QgS ⟨rfl,h⟩) fun c2=>absurd (hd (by simpa using c)).1 c2
  ·generalize Qx s.cs l s.m (addW (s.r.getD a.toNat 0) (off i)) 2=P at e1 hs⊢;generalize Qx s.cs l' m' (addW (s.r.getD a.toNat 0) (off i)) 2=Q at e2 hs⊢;obtain ⟨hx,hy,_,e3⟩:=h.spot hs;rw [if_neg (c:=P.2≠0) (by rw [e1]; simp),if_neg (c:=Q.2≠0) (by rw [e2]; simp),if_neg (c:=1000≤P.1) (by omega),if_neg (c:=1000≤Q.1) (by omega)]
   exact QgS ⟨rfl,e3 _⟩
 repeat' (refine Qaz (R:=QeL l l') (fun _=>QgS ⟨rfl,h⟩) fun _=>?_)
 exact QgS ⟨rfl,h⟩
theorem Qsq {s:Mc} (h:Sim l l' s.m m') (op d a i:Int):(doM s l op d a i).1=(doM { s with m:=m' } l' op d a i).1∧Like l l' (doM s l op d a i).2 (doM { s with m:=m' } l' op d a i).2:=by
 have hx:=Qst h op d a i;unfold doM;dsimp only;generalize exM s l op d a i=x at hx;generalize exM { s with m:=m' } l' op d a i=y at hx
 obtain ⟨x1,x2,x3,x4⟩:=x;obtain ⟨y1,y2,y3,y4⟩:=y;obtain ⟨e1,e2,e3,e4,e5⟩:=hx;dsimp only at e1 e2 e3 e4 e5⊢;subst e1 e2 e3;rw [e4];dsimp only;split
 ·exact ⟨rfl,rfl,e5⟩
 ·exact ⟨rfl,rfl,e5⟩
theorem Qle {s:Mc} (h:Sim l l' s.m m'):Like l l' (runM s l) (runM { s with m:=m' } l'):=by
 have t: ∀{c v:Int},Like l l' (s.trap c v) (Mc.trap { s with m:=m' } c v):=⟨rfl,h⟩
 unfold runM;dsimp only
 have k: ∀w:Int,Like l l' (if decF w=0 then (if (doM s l (decM w).1 (decM w).2.1 (decM w).2.2.1 (decM w).2.2.2.1).1=true then Qfk (doM s l (decM w).1 (decM w).2.1 (decM w).2.2.1 (decM w).2.2.2.1).2 else (doM s l (decM w).1 (decM w).2.1 (decM w).2.2.1 (decM w).2.2.2.1).2) else s.trap 1 w)
   (if decF w=0 then (if (doM { s with m:=m' } l' (decM w).1 (decM w).2.1 (decM w).2.2.1 (decM w).2.2.2.1).1=true then Qfk (doM { s with m:=m' } l' (decM w).1 (decM w).2.1 (decM w).2.2.1 (decM w).2.2.2.1).2 else (doM { s with m:=m' } l' (decM w).1 (decM w).2.1 (decM w).2.2.1 (decM w).2.2.2.1).2) else Mc.trap { s with m:=m' } 1 w):=fun w=>by
  refine Qaz (R:=Like l l') (fun _=>?_) fun _=>t
  obtain ⟨e1,e2,e3⟩:=Qsq h (decM w).1 (decM w).2.1 (decM w).2.2.1 (decM w).2.2.2.1;rw [←e1];refine Qaz (R:=Like l l') (fun _=>⟨?_,e3⟩) fun _=>⟨e2,e3⟩
  unfold Qfk;rw [e2]
 rcases h.place s.cs s.pc 4 with ⟨e,hd⟩ | ⟨e1,e2,hs⟩
 ·rw [←e];refine Qaz (R:=Like l l') (fun _=>t) fun c=>?_
  have c:(Qx s.cs l s.m s.pc 4).2=0:=by simpa using c
  exact absurd rfl (hd c).2
 ·obtain ⟨hx,hy,e3,_⟩:=h.spot hs;rw [if_neg (c:=(Qx s.cs l s.m s.pc 4).2≠0) (by rw [e1]; simp),if_neg (c:=(Qx s.cs l' m' s.pc 4).2≠0) (by rw [e2]; simp), ←e3]
  exact k _
theorem QjE {s:Mc} (h:Sim l l' s.m m'):Like l l' (Qai s l) (Qai { s with m:=m' } l'):=by
 unfold Qai;dsimp only;refine Qaz (R:=Like l l') (fun _=>⟨rfl,h⟩) fun _=>Qaz (R:=Like l l') (fun _=>⟨rfl,h⟩) fun _=>Qaz (R:=Like l l') (fun _=>Qaz (R:=Like l l') (fun _=>⟨rfl,h⟩) fun _=>?_) fun _=>?_
 ·exact Qle (s:={ s with ring:= -1,fall:= -1,wa:=false }) h
 ·exact Qle (s:={ s with ring:= -1,fall:= -1 }) h
end
theorem Qcx {α:Type} {l:List α} {i j:Nat} {y d:α} (h:i≠j):(l.set i y).getD j d=l.getD j d:=by rw [QdY,QdY,List.getElem?_set_ne h]
theorem QcR {α:Type} {l:List α} {i:Nat} {y d:α} (h:i< l.length):(l.set i y).getD i d=y:=by rw [QdY,List.getElem?_set_self h]; rfl
theorem gget {α:Type} {l:List α} {i:Nat} {d:α} (h:i< l.length):l.getD i d=l[i]:=by rw [QdY,List.getElem?_eq_getElem h]; rfl
theorem QiO: ∀{l seen:List Int},dupM seen l=false→l.Nodup∧ ∀x∈l,x∉seen
 | [],_,_=>⟨List.nodup_nil,by simp⟩
 | x::r,seen,h=>by
  simp only [dupM,Bool.or_eq_false_iff] at h;obtain ⟨h1,h2⟩:=QiO h.2;have hx:x∉seen:=by simpa using h.1
  refine ⟨List.nodup_cons.2 ⟨fun hm=>h2 x hm (by simp),h1⟩,fun y hy=>?_⟩
  rcases List.mem_cons.1 hy with rfl | hy
  ·exact hx
  ·exact fun hm=>h2 y hy (List.mem_append_left _ hm)
theorem QkW {p:PolD} (hok:OkPol p):(∀l∈p.1,l.Nodup)∧p.1.Pairwise fun a b=> ∀x∈a, ∀y∈b,x≠y:=by
 have:=(QiO hok.nodup).1;unfold List.Nodup at this;rw [List.pairwise_flatten] at this;exact this
abbrev ownL (p:PolD) (g:Int):List Int:=p.1.getD g.toNat []
theorem Qrq {p:PolD} (hok:OkPol p) {g t:Int} (hg:isG p g=true) (ht:isG p t=true) (hne:t≠g) {x:Int} (h1:x∈ownL p g) (h2:x∈ownL p t):False:=by
 have a:=Qbs.1 hg;have b:=Qbs.1 ht;have hp:=List.pairwise_iff_getElem.1 (QkW hok).2;rw [ownL,gget (by omega)] at h1 h2
 rcases Nat.lt_or_gt_of_ne (show g.toNat≠t.toNat by omega) with c | c
 ·exact hp g.toNat t.toNat (by omega) (by omega) c x h1 x h2 rfl
 ·exact hp t.toNat g.toNat (by omega) (by omega) c x h2 x h1 rfl
theorem QkM {p:PolD} (hok:OkPol p) {j:Nat} (hj:j< p.2.1.length):Qea p p.2.1[j] (p.2.1.take j)=0:=by
 have e:=hok.lanes.2;unfold QbK at e;have:=QlX (QfM e j hj);rw [Nat.zero_add] at this;exact this
theorem QgR {p:PolD} (hok:OkPol p):p.2.1.Pairwise fun o l=>clash l o=false:=by
 rw [List.pairwise_iff_getElem];intro i j hi hj hij;have e:=QkM hok hj;unfold Qea at e;split at e
 ·rename_i h; exact absurd e h
 split at e
 ·split at e
  ·cases e
  ·split at e
   ·cases e
   ·rename_i h;have h:(p.2.1.take j).any (clash p.2.1[j])=false:=by simpa using h
    rw [List.any_eq_false] at h
    have:=h p.2.1[i] (by
     rw [←List.getElem_take (j:=j) (h:=by rw [List.length_take]; omega)]
     exact List.getElem_mem _)
    simpa using this
 ·cases e
theorem QhA {p:PolD} (hok:OkPol p) {x:QP} (hx:x∈p.2.1) {l:List Int} (hl:l∈p.1):x.2.2.1∉l:=by
 obtain ⟨j,hj,rfl⟩:=List.mem_iff_getElem.1 hx;have e:=QkM hok hj;unfold Qea at e;split at e
 ·rename_i h; exact absurd e h
 split at e
 ·split at e
  ·cases e
  ·rename_i h;intro hm;apply h;rw [Qan,decide_eq_true_eq];unfold Qfn;cases hs:scan (fun i (l:List Int)=>if l.contains p.2.1[j].2.2.1=true then some ((i:Nat):Int) else none) 0 p.1 with
   | none=>
    obtain ⟨i,hi⟩:=Qbf hs l hl;rw [if_pos (by simpa using hm)] at hi
    cases hi
   | some k=>
    refine QcW (P:=fun c:Int=>0≤c) (fun i hi c hc=>?_) _ hs
    split at hc
    ·obtain rfl:=Osj hc; omega
    ·cases hc
 ·cases e
theorem Qeb {p:PolD} (hok:OkPol p) {x y:QP} (hx:x∈p.2.1) (hy:y∈p.2.1) (h:x.2.2.1=y.2.2.1):x=y:=by
 obtain ⟨i,hi,rfl⟩:=List.mem_iff_getElem.1 hx;obtain ⟨j,hj,rfl⟩:=List.mem_iff_getElem.1 hy;have hp:=List.pairwise_iff_getElem.1 (QgR hok)
 have key: ∀{i j:Nat} (hi:i< p.2.1.length) (hj:j< p.2.1.length),i< j→p.2.1[i].2.2.1=p.2.1[j].2.2.1→False:=fun hi hj hij e=>by
  have:=hp _ _ hi hj hij;unfold clash at this;rw [e] at this;simp at this
 rcases Nat.lt_trichotomy i j with c | c | c
 ·exact (key hi hj c h).elim
 ·subst c; rfl
 ·exact (key hj hi c h.symm).elim
theorem Qjn: ∀(r:List Int) (k:Nat) (l:List TwoD) (j:Nat),k+r.length≤l.length→pgAt (QbH k r l) j=if k≤j∧j< k+r.length then (r.getD (j-k) 0,7,()) else pgAt l j
 | [],k,l,j,_=>by rw [if_neg (by simp only [List.length_nil]; omega)]; rfl
 | p::r,k,l,j,h=>by
  simp only [List.length_cons] at h;rw [QbH,Qjn r (k+1) _ j (by rw [List.length_set]; omega)]
  simp only [List.length_cons];by_cases e:j=k
  ·subst e;rw [if_neg (by omega),if_pos (by omega),Nat.sub_self]
   exact QcR (by omega)
  ·by_cases c:k+1≤j∧j< k+1+r.length
   ·rw [if_pos c,if_pos (by omega),show j-k=(j-(k+1))+1 by omega]; rfl
   ·rw [if_neg c,if_neg (by omega)]; exact Qcx (Ne.symm e)
theorem QtL (j:Nat):pgAt Qbj j=(-1,0,()):=by
 match j with
 | 0 | 1 | 2 | 3 | 4 | 5 | 6 | 7=>rfl
 | n+8=>rfl
theorem Qdj {x:QP} {g k:Int}:Qbt x g k=true↔(x.1=g∧x.2.2.2.1=k)∨(x.2.1=g∧x.2.2.2.2.1=k):=by
 unfold Qbt;simp
theorem QtN {l o:QP}:clash l o=false↔o.2.2.1≠l.2.2.1∧ ¬(Qbt o l.1 l.2.2.2.1=true)∧ ¬(Qbt o l.2.1 l.2.2.2.2.1=true):=by
 unfold clash;simp [Bool.or_eq_false_iff]
theorem Qhp {z x:QP} (h:clash z x=false) {g k:Int} (hx:Qbt x g k=true):Qbt z g k=false:=by
 obtain ⟨_,h1,h2⟩:=QtN.1 h;rw [←Bool.not_eq_true];intro hz;rcases Qdj.1 hz with ⟨a,b⟩ | ⟨a,b⟩
 ·exact h1 (by rw [a,b]; exact hx)
 ·exact h2 (by rw [a,b]; exact hx)
def Qep (x:QP):Prop:=x.1≠x.2.1∧(5≤x.2.2.2.1∧x.2.2.2.1≤6)∧(5≤x.2.2.2.2.1∧x.2.2.2.2.1≤6)
theorem QgP {g:Int} {x:QP} (hx:Qep x) {l:List TwoD} (hl:l.length=8) (k:Nat):pgAt (Qcg g x l) k=if x.1=g∧x.2.2.2.1=(k:Int) then (x.2.2.1,3,()) else if x.2.1=g∧x.2.2.2.2.1=(k:Int) then (x.2.2.1,1,()) else pgAt l k:=by
 obtain ⟨h0,h1,h2⟩:=hx;unfold Qcg;dsimp only;by_cases a:x.1=g
 ·have b: ¬x.2.1=g:=fun b=>h0 (a.trans b.symm)
  rw [if_neg b,if_pos a,if_neg (c:=x.2.1=g∧_) (fun c=>b c.1)]
  by_cases c:x.2.2.2.1=(k:Int)
  ·rw [if_pos ⟨a,c⟩,show x.2.2.2.1.toNat=k by omega]; exact QcR (by omega)
  ·rw [if_neg (fun d=>c d.2)]; exact Qcx (by omega)
 ·rw [if_neg a,if_neg (c:=x.1=g∧_) (fun c=>a c.1)]
  by_cases b:x.2.1=g
  ·rw [if_pos b];by_cases c:x.2.2.2.2.1=(k:Int)
   ·rw [if_pos ⟨b,c⟩,show x.2.2.2.2.1.toNat=k by omega]; exact QcR (by omega)
   ·rw [if_neg (fun d=>c d.2)]; exact Qcx (by omega)
  ·rw [if_neg b,if_neg (fun c=>b c.1)]
theorem QdH {g:Int} {k:Nat}: ∀(r:List QP) (l:List TwoD),l.length=8→(∀x∈r,Qep x)→(∀x∈r,Qbt x g (k:Int)=false)→pgAt (QaP g r l) k=pgAt l k
 | [],_,_,_,_=>rfl
 | x::r,l,hl,h1,h2=>by
  rw [QaP,QdH r _ (by rw [QbB]; exact hl) (fun y hy=>h1 y (List.mem_cons_of_mem _ hy)) (fun y hy=>h2 y (List.mem_cons_of_mem _ hy)),QgP (h1 x (by simp)) hl]
  have:=h2 x (by simp)
  have: ¬Qbt x g (k:Int)=true:=by rw [this]; simp
  rw [Qdj] at this;rw [if_neg fun c=>this (.inl c),if_neg fun c=>this (.inr c)]
theorem Qib {g:Int} {x:QP}: ∀(r:List QP) (l:List TwoD),l.length=8→(∀y∈r,Qep y)→r.Pairwise (fun o l=>clash l o=false)→x∈r→x.1=g→pgAt (QaP g r l) x.2.2.2.1.toNat=(x.2.2.1,3,())
 | y::r,l,hl,h1,h2,hx,hg=>by
  rw [List.pairwise_cons] at h2;rw [QaP];rcases List.mem_cons.1 hx with rfl | hx
  ·have b:=h1 x (by simp)
   have e:((x.2.2.2.1.toNat:Nat):Int)=x.2.2.2.1:=by have:=b.2.1; omega
   rw [QdH r _ (by rw [QbB]; exact hl) (fun y hy=>h1 y (List.mem_cons_of_mem _ hy)) (fun z hz=>Qhp (h2.1 z hz) (Qdj.2 (.inl ⟨hg,e.symm⟩))),QgP b hl,if_pos ⟨hg,e.symm⟩]
  ·exact Qib r _ (by rw [QbB]; exact hl) (fun y hy=>h1 y (List.mem_cons_of_mem _ hy)) h2.2 hx hg
theorem QkL {g:Int} {x:QP}: ∀(r:List QP) (l:List TwoD),l.length=8→(∀y∈r,Qep y)→r.Pairwise (fun o l=>clash l o=false)→x∈r→x.2.1=g→pgAt (QaP g r l) x.2.2.2.2.1.toNat=(x.2.2.1,1,())
 | y::r,l,hl,h1,h2,hx,hg=>by
  rw [List.pairwise_cons] at h2;rw [QaP];rcases List.mem_cons.1 hx with rfl | hx
  ·have b:=h1 x (by simp)
   have e:((x.2.2.2.2.1.toNat:Nat):Int)=x.2.2.2.2.1:=by have:=b.2.2; omega
   rw [QdH r _ (by rw [QbB]; exact hl) (fun y hy=>h1 y (List.mem_cons_of_mem _ hy)) (fun z hz=>Qhp (h2.1 z hz) (Qdj.2 (.inr ⟨hg,e.symm⟩))),QgP b hl,if_neg (fun c=>b.1 (c.1.trans hg.symm)),if_pos ⟨hg,e.symm⟩]
  ·exact QkL r _ (by rw [QbB]; exact hl) (fun y hy=>h1 y (List.mem_cons_of_mem _ hy)) h2.2 hx hg
theorem QgQ {g:Int} {k:Nat}: ∀(r:List QP) (l:List TwoD),l.length=8→(∀y∈r,Qep y)→pgAt (QaP g r l) k=pgAt l k∨
  (∃x∈r,x.1=g∧x.2.2.2.1=(k:Int)∧pgAt (QaP g r l) k=(x.2.2.1,3,()))∨(∃x∈r,x.2.1=g∧x.2.2.2.2.1=(k:Int)∧pgAt (QaP g r l) k=(x.2.2.1,1,()))
 | [],_,_,_=> .inl rfl
 | y::r,l,hl,h1=>by
  rw [QaP];rcases QgQ (k:=k) r (Qcg g y l) (by rw [QbB]; exact hl) (fun y hy=>h1 y (List.mem_cons_of_mem _ hy)) with e | ⟨x,hx,e⟩ | ⟨x,hx,e⟩
  ·rw [e,QgP (h1 y (by simp)) hl]
   by_cases a:y.1=g∧y.2.2.2.1=(k:Int)
   ·rw [if_pos a]; exact .inr (.inl ⟨y,by simp,a.1,a.2,rfl⟩)
   ·rw [if_neg a];by_cases b:y.2.1=g∧y.2.2.2.2.1=(k:Int)
    ·rw [if_pos b]; exact .inr (.inr ⟨y,by simp,b.1,b.2,rfl⟩)
    ·rw [if_neg b]; exact .inl rfl
  ·exact .inr (.inl ⟨x,List.mem_cons_of_mem _ hx,e⟩)
  ·exact .inr (.inr ⟨x,List.mem_cons_of_mem _ hx,e⟩)
theorem Qch {p:PolD} (hok:OkPol p): ∀x∈p.2.1,Qep x:=fun x hx=>by
 have:=QdP hok x hx;exact ⟨this.1.2.2,this.2.2.1,this.2.2.2⟩
theorem Qfl {p:PolD} {g:Int} (hok:OkPol p) (hg:isG p g=true):1≤(ownL p g).length∧(ownL p g).length≤5:=by
 have:=hok.own1 _ (QcU hok hg);exact ⟨this.1,this.2.1⟩
theorem own8 (p:PolD) (g:Int):(QbH 0 (ownL p g) Qbj).length=8:=by rw [Qeg]; rfl
theorem Qmc {p:PolD} {g:Int} (hok:OkPol p) (hg:isG p g=true) {k:Nat} (hk:k< (ownL p g).length):pgAt (pgM p g) k=((ownL p g).getD k 0,7,()):=by
 have h5:=(Qfl hok hg).2;unfold pgM;rw [QdH _ _ (own8 p g) (Qch hok) (fun x hx=>?_),Qjn _ _ _ _ (by show 0+(ownL p g).length≤8; omega),if_pos (by omega),Nat.sub_zero]
 have hx:=Qch hok x hx;rw [←Bool.not_eq_true,Qdj];have:=hx.2;omega
theorem Qha {p:PolD} {g:Int} (hok:OkPol p) (hg:isG p g=true) {x:QP} (hx:x∈p.2.1) (h:x.1=g):pgAt (pgM p g) x.2.2.2.1.toNat=(x.2.2.1,3,()):=Qib _ _ (own8 p g) (Qch hok) (QgR hok) hx h
theorem QvE {p:PolD} {g:Int} (hok:OkPol p) (hg:isG p g=true) {x:QP} (hx:x∈p.2.1) (h:x.2.1=g):pgAt (pgM p g) x.2.2.2.2.1.toNat=(x.2.2.1,1,()):=QkL _ _ (own8 p g) (Qch hok) (QgR hok) hx h
theorem Qfp {p:PolD} {g:Int} (hok:OkPol p) (hg:isG p g=true) {k:Nat} (h0:0≤(pgAt (pgM p g) k).1):(k< (ownL p g).length∧pgAt (pgM p g) k=((ownL p g).getD k 0,7,()))∨
  (∃x∈p.2.1,x.1=g∧x.2.2.2.1=(k:Int)∧pgAt (pgM p g) k=(x.2.2.1,3,()))∨(∃x∈p.2.1,x.2.1=g∧x.2.2.2.2.1=(k:Int)∧pgAt (pgM p g) k=(x.2.2.1,1,())):=by
 have h5:=(Qfl hok hg).2;rcases QgQ (g:=g) (k:=k) p.2.1 (QbH 0 (ownL p g) Qbj) (own8 p g) (Qch hok) with e | e | e
 ·refine .inl ?_;have e:pgAt (pgM p g) k=pgAt (QbH 0 (ownL p g) Qbj) k:=e;rw [e,Qjn _ _ _ _ (by show 0+(ownL p g).length≤8; omega)] at h0⊢
  by_cases c:0≤k∧k< 0+(ownL p g).length
  ·rw [if_pos c] at h0⊢;exact ⟨by omega,by rw [Nat.sub_zero]⟩
  ·rw [if_neg c,QtL] at h0;exact absurd h0 (by decide)
 ·exact .inr (.inl e)
 ·exact .inr (.inr e)
theorem Qfm {p:PolD} {g:Int} {k:Nat} (hk:k< (ownL p g).length):(ownL p g).getD k 0∈ownL p g:=Qat hk
theorem QoQ {p:PolD} {g:Int} (hok:OkPol p) (hg:isG p g=true) (i j:Nat) (h0:0≤(pgAt (pgM p g) i).1) (he:(pgAt (pgM p g) i).1=(pgAt (pgM p g) j).1):i=j:=by
 have hm:=QcU hok hg;have nd:=List.pairwise_iff_getElem.1 ((QkW hok).1 _ hm);have lf:=fun {x:QP} (hx:x∈p.2.1)=>QhA hok hx hm
 have sep:=fun {x:QP} (hx:x∈p.2.1)=>(Qch hok x hx).1
 rcases Qfp hok hg h0 with ⟨a1,a2⟩ | ⟨x,hx,a1,a2,a3⟩ | ⟨x,hx,a1,a2,a3⟩ <;> rcases Qfp hok hg (k:=j) (by omega) with ⟨b1,b2⟩ | ⟨y,hy,b1,b2,b3⟩ | ⟨y,hy,b1,b2,b3⟩
 ·rw [a2,b2] at he;dsimp only at he;rw [gget a1,gget b1] at he;rcases Nat.lt_trichotomy i j with c | c | c
  ·exact (nd i j a1 b1 c he).elim
  ·exact c
  ·exact (nd j i b1 a1 c he.symm).elim
 ·rw [a2,b3] at he; exact (lf hy (he▸Qfm a1)).elim
 ·rw [a2,b3] at he; exact (lf hy (he▸Qfm a1)).elim
 ·rw [a3,b2] at he; exact (lf hx (he.symm▸Qfm b1)).elim
 ·rw [a3,b3] at he;obtain rfl:=Qeb hok hx hy he;omega
 ·rw [a3,b3] at he;obtain rfl:=Qeb hok hx hy he;exact (sep hx (a1.trans b1.symm)).elim
 ·rw [a3,b2] at he; exact (lf hx (he.symm▸Qfm b1)).elim
 ·rw [a3,b3] at he;obtain rfl:=Qeb hok hx hy he;exact (sep hx (b1.trans a1.symm)).elim
 ·rw [a3,b3] at he;obtain rfl:=Qeb hok hx hy he;omega
theorem Qvo (p:PolD) (g:Int) {k:Nat} (hk:k< 8):pgAt (pgM p g) k∈pgM p g:=Qat (by rw [QeF]; exact hk)
theorem Qmd {p:PolD} {g:Int} (hok:OkPol p) (hg:isG p g=true) {k:Nat} (hk:k< 8): -1≤(pgAt (pgM p g) k).1∧(pgAt (pgM p g) k).1≤23:=(QoP hok hg _ (Qvo p g hk)).1
theorem QsX {p:PolD} {g t:Int} (hok:OkPol p) (hg:isG p g=true) (ht:isG p t=true) (hne:t≠g) {P:Int} (h0:0≤P) (hP:P∈ownL p g∨ ∃y∈p.2.1,y.1=g∧y.2.2.1=P): ∀q∈pgM p t,q.1=P→iand .i64 q.2.1 2=0:=by
 intro q hq e;obtain ⟨k,hk,rfl⟩:=List.mem_iff_getElem.1 hq;have ek:(pgM p t)[k]=pgAt (pgM p t) k:=(gget hk).symm;rw [ek] at e⊢;rcases Qfp hok ht (k:=k) (by omega) with ⟨a1,a2⟩ | ⟨x,hx,a1,a2,a3⟩ | ⟨x,hx,a1,a2,a3⟩
 ·rw [a2] at e;have hm:P∈ownL p t:=e▸Qfm a1;rcases hP with hP | ⟨y,hy,c1,c2⟩
  ·exact (Qrq hok hg ht hne hP hm).elim
  ·exact (QhA hok hy (QcU hok ht) (c2▸hm)).elim
 ·rw [a3] at e;dsimp only at e;rcases hP with hP | ⟨y,hy,c1,c2⟩
  ·exact (QhA hok hx (QcU hok hg) (e▸hP)).elim
  ·obtain rfl:=Qeb hok hx hy (e.trans c2.symm);exact (hne (a1.symm.trans c1)).elim
 ·rw [a3]; show iand .i64 1 2=0; decide
theorem Quc {l:List TwoD} {m m':List Int} (h:MemW l m m') {P:Int} (h0:0≤P) (hq: ∀q∈l,q.1=P→iand .i64 q.2.1 2=0):pg m' P=pg m P:=by
 unfold pg;apply List.ext_getElem?;intro i;by_cases hi:i< 8
 ·simp only [List.getElem?_take,if_pos hi,List.getElem?_drop];apply Decidable.byContradiction;intro hne;obtain ⟨q,hm,e1,e2⟩:=h _ hne;exact e2 (hq q hm (by rw [e1]; omega))
 ·rw [List.getElem?_eq_none (by simp; omega),List.getElem?_eq_none (by simp; omega)]
theorem QiC {l:List TwoD} (hl:l.length=8) {k:Nat} (hk:k< 8):pgAt (Qdd l) k=if 0≤(pgAt l k).1 then ((k:Int),(pgAt l k).2) else pgAt l k:=by
 have h1:k< l.length:=by omega
 rw [pgAt,gget (by rw [Qgl]; exact h1),Qqr h1,pgAt,gget h1]
theorem QrB {p:PolD} {g:Int} (hok:OkPol p) (hg:isG p g=true) {m m':List Int} (h: ∀k,k< 8→0≤(pgAt (pgM p g) k).1→pg m (pgAt (pgM p g) k).1=pg m' (k:Nat)):Sim (pgM p g) (Qdd (pgM p g)) m m':=by
 have hl:=QeF p g;have ha:=fun {k:Nat} (hk:k< 8)=>QiC hl hk
 refine ⟨⟨hl,by rw [Qgl]; exact hl⟩,fun k hk=>?_,fun k hk=>?_,fun k hk=>⟨(Qmd hok hg hk).2,?_⟩,fun i j _ _=>QoQ hok hg i j,fun i j hi hj h0 he=>?_,fun k hk h0=>?_⟩
 ·rw [ha hk]; split <;> rfl
 ·rw [ha hk]; split
  ·rename_i c; exact ⟨fun _=>by dsimp only; omega,fun _=>c⟩
  ·exact Iff.rfl
 ·have:=(Qmd hok hg hk).2;rw [ha hk]; split
  ·dsimp only; omega
  ·exact this
 ·rw [ha hi] at h0 he;rw [ha hj] at he;split at h0
  ·rename_i c;rw [if_pos c] at he;split at he
   ·dsimp only at he; omega
   ·dsimp only at he; omega
  ·rename_i c; exact absurd h0 c
 ·rw [ha hk,if_pos h0]; exact h k hk h0
theorem Qtj {s ws:List Int} {k:Nat} {j:Int} (hs:s.length=64) (hk:k< 8) (hw:ws.length=8) (hj:0≤j∧j< 8):pg (Qii s k ws) j=if j=(k:Int) then ws else pg s j:=by
 obtain ⟨J,rfl⟩: ∃J:Nat,j=(J:Int):=⟨j.toNat,by omega⟩
 unfold pg Qii;rw [Int.toNat_natCast];apply List.ext_getElem?;intro i;by_cases hi:i< 8
 ·rw [List.getElem?_take,if_pos hi,List.getElem?_drop];by_cases c:J=k
  ·subst c;rw [if_pos rfl,List.getElem?_append_right (by simp; omega),List.length_take,Nat.min_eq_left (by omega),Nat.add_sub_cancel_left,List.getElem?_append_left (by omega)]
  ·rw [if_neg (by omega),List.getElem?_take,if_pos hi,List.getElem?_drop]
   by_cases d:J< k
   ·rw [List.getElem?_append_left (by simp; omega),List.getElem?_take,if_pos (by omega)]
   ·rw [List.getElem?_append_right (by simp; omega),List.length_take,Nat.min_eq_left (by omega),List.getElem?_append_right (by omega),List.getElem?_drop,hw]
    congr 1;omega
 ·rw [List.getElem?_eq_none (by simp; omega)]
  split
  ·rw [List.getElem?_eq_none (by omega)]
  ·rw [List.getElem?_eq_none (by simp; omega)]
def calm (h:QO):QO:=(h.1,h.2.1,h.2.2.1,h.2.2.2.1,h.2.2.2.2.1,false,h.2.2.2.2.2.2)
theorem QtM {h k:QO} (e:calm h=calm k) (er:h.2.2.2.2.2.1=k.2.2.2.2.2.1):h=k:=by
 obtain ⟨a1,a2,a3,a4,a5,a6,a7⟩:=h;obtain ⟨b1,b2,b3,b4,b5,b6,b7⟩:=k;unfold calm at e;simp only [Pmi] at e er;obtain ⟨rfl,rfl,rfl,rfl,rfl,_,rfl⟩:=e;rw [er]
structure Rl (x:QF) (s:QbC) (g:Int):Prop where
 hk:HK x
 hs:QcM s=0
 hg:isG x.1 g=true
 pages:s.2.1=Qdd (pgM x.1 g)
 hart:calm s.1=calm (x.2.2.1.getD g.toNat QU)
 own: ∀k,k< (ownL x.1 g).length→pg x.2.1 ((ownL x.1 g).getD k 0)=pg s.2.2.1 (k:Nat)
 gives: ∀y∈x.1.2.1,y.1=g→pg x.2.1 y.2.2.1=pg s.2.2.1 y.2.2.2.1
theorem QfA {m:List Int} {g:Int} {j:Int}: ∀{r:List QP} {q:List Int},q.length=64→(∀y∈r,Qep y∧(pg m y.2.2.1).length=8)→0≤j∧j< 8→(∀y∈r,y.2.1=g→y.2.2.2.2.1≠j)→pg (Qfb m g r q) j=pg q j
 | [],_,_,_,_,_=>rfl
 | y::r,q,hq,h1,hj,h2=>by
  have b:=h1 y (by simp)
  rw [Qfb];by_cases c:y.2.1=g
  ·rw [if_pos c,QfA (QhJ hq (by have:=b.1.2.2; omega) b.2) (fun z hz=>h1 z (List.mem_cons_of_mem _ hz)) hj (fun z hz=>h2 z (List.mem_cons_of_mem _ hz)),Qtj hq (by have:=b.1.2.2; omega) b.2 hj,if_neg (by have:=h2 y (by simp) c; have:=b.1.2.2; omega)]
  ·rw [if_neg c];exact QfA hq (fun z hz=>h1 z (List.mem_cons_of_mem _ hz)) hj (fun z hz=>h2 z (List.mem_cons_of_mem _ hz))
theorem QpH {m:List Int} {g:Int} {x:QP}: ∀{r:List QP} {q:List Int},q.length=64→(∀y∈r,Qep y∧(pg m y.2.2.1).length=8)→r.Pairwise (fun o l=>clash l o=false)→x∈r→x.2.1=g→pg (Qfb m g r q) x.2.2.2.2.1=pg m x.2.2.1
 | y::r,q,hq,h1,h2,hx,hg=>by
  have b:=h1 y (by simp)
  rw [List.pairwise_cons] at h2;have hp:(Qii q y.2.2.2.2.1.toNat (pg m y.2.2.1)).length=64:=QhJ hq (by have:=b.1.2.2; omega) b.2
  rw [Qfb];rcases List.mem_cons.1 hx with rfl | hx
  ·have:=b.1.2.2;rw [if_pos hg,QfA hp (fun z hz=>h1 z (List.mem_cons_of_mem _ hz)) (by omega) (fun z hz zg ze=>?_),Qtj hq (by omega) b.2 (by omega),if_pos (by omega)]
   have:=Qhp (h2.1 z hz) (Qdj (x:=x) (g:=g) (k:=x.2.2.2.2.1).2 (.inr ⟨hg,rfl⟩));rw [Qdj.2 (.inr ⟨zg,ze⟩)] at this;cases this
  ·exact QpH (by split; exact hp; exact hq) (fun z hz=>h1 z (List.mem_cons_of_mem _ hz)) h2.2 hx hg
section
variable {x:QF} {s:QbC} {g:Int}
theorem Rl.lanes (h:Rl x s g): ∀y∈x.1.2.1,Qep y∧(pg x.2.1 y.2.2.1).length=8:=fun y hy=>⟨Qch h.hk.ok y hy,(QpP h.hk hy).2.2.1⟩
theorem Rl.sim (h:Rl x s g):Sim (pgM x.1 g) (Qdd (pgM x.1 g)) x.2.1 (Qfb x.2.1 g x.1.2.1 s.2.2.1):=by
 have hok:=h.hk.ok;have hm:s.2.2.1.length=64:=(QfP h.hs).2.2.2;refine QrB hok h.hg fun k hk h0=>?_
 have keep:(∀y∈x.1.2.1,y.2.1=g→y.2.2.2.2.1≠(k:Int))→pg (Qfb x.2.1 g x.1.2.1 s.2.2.1) ((k:Nat):Int)=pg s.2.2.1 (k:Nat):=fun c=>QfA hm h.lanes (by omega) c
 rcases Qfp hok h.hg h0 with ⟨a1,a2⟩ | ⟨y,hy,a1,a2,a3⟩ | ⟨y,hy,a1,a2,a3⟩
 ·have h5:=(Qfl hok h.hg).2;rw [a2,keep fun y hy _=>by have:=(Qch hok y hy).2.2; omega]
  exact h.own k a1
 ·rw [a3,keep fun z hz zg ze=>?_]
  ·rw [←a2]; exact h.gives y hy a1
  ·have q1:=Qha hok h.hg hy a1;have q2:=QvE hok h.hg hz zg;rw [a2] at q1;rw [ze,q1] at q2;exact absurd (congrArg (fun w:TwoD=>w.2.1) q2) (by dsimp only; decide)
 ·rw [a3, ←a2];exact (QpH hm h.lanes (QgR hok) hy a1).symm
theorem Qgr (x:QF) (g:Int):calm ((QaC x).2.2.1.getD g.toNat QU)=calm ((QN x).getD g.toNat QU):=by
 unfold QaC;dsimp only;split
 ·unfold Qbc;by_cases e:(QR x).ring.toNat=g.toNat
  ·rw [e];by_cases hl:g.toNat< (QN x).length
   ·rw [QcR hl]; rfl
   ·rw [List.set_eq_of_length_le (by omega)]
  ·rw [Qcx e]
 ·rfl
theorem HK.stepP (h:HK x):StepP (pgM x.1 (turnG x)) { (Mc.of (x.2.2.1.getD (turnG x).toNat QU) x.2.1) with ring:= -1,fall:= -1 } (QR x):=by
 have:=(Qux (QeF x.1 (turnG x)) (Mc.of (x.2.2.1.getD (turnG x).toNat QU) x.2.1) (h.okS.d.2)).1;exact this
theorem HK.stays (h:HK x) (hg:isG x.1 g=true) (hne:turnG x≠g) {P:Int} (h0:0≤P) (hP:P∈ownL x.1 g∨ ∃y∈x.1.2.1,y.1=g∧y.2.2.1=P):pg (QaC x).2.1 P=pg x.2.1 P:=
 Quc (l:=pgM x.1 (turnG x)) (m:=x.2.1) (m':=(QR x).m) h.stepP.mem h0 (QsX h.ok hg h.turn.2.2.1 hne h0 hP)
theorem HK.ownP (h:HK x) (hg:isG x.1 g=true) {k:Nat} (hk:k< (ownL x.1 g).length):0≤(ownL x.1 g).getD k 0:=((h.ok.own1 _ (QcU h.ok hg)).2.2 _ (Qfm hk)).1
theorem Rl.next (h:Rl x s g) (hc:x.2.2.2.2.2.1< 1000000):Rl (QaC x) (if turnG x=g then QuP x s g else s) g:=by
 have hok:=h.hk.ok;by_cases ht:turnG x=g
 ·rw [if_pos ht];have e1:(Qil x s g).1=x.2.2.1.getD g.toNat QU:=QtM h.hart rfl;have e2:(Qil x s g).2.1=Qdd (pgM x.1 g):=h.pages;have hsim:Sim (pgM x.1 g) (Qdd (pgM x.1 g)) x.2.1 (Qil x s g).2.2.1:=h.sim
  have key:Like (pgM x.1 g) (Qdd (pgM x.1 g)) (QR x) (Qhg x s g):=by
   unfold QR Qhg;rw [e1,e2,ht];exact QjE (s:=Mc.of (x.2.2.1.getD g.toNat QU) x.2.1) hsim
  obtain ⟨k1,k2⟩:=key;have eh:(Qhg x s g).hart=(QR x).hart:=by rw [k1]; rfl
  refine ⟨h.hk.next hc,Qtt g h.hk h.hs,h.hg,h.pages,?_,fun k hk=>?_,fun y hy hyg=>?_⟩
  ·rw [Qgr];have:=(h.hk.guest h.hg).1;show calm (Qhg x s g).hart=_;rw [eh];unfold QN;rw [ht,QcR (by omega)]
  ·have h5:=(Qfl hok h.hg).2;have hk:k< (ownL x.1 g).length:=hk;have q:=k2.same k (by omega) (by rw [Qmc hok h.hg hk]; exact h.hk.ownP h.hg hk)
   rw [QiC (QeF x.1 g) (by omega),Qmc hok h.hg hk,if_pos (by exact h.hk.ownP h.hg hk)] at q
   exact q
  ·have hy:y∈x.1.2.1:=hy;have b:=Qch hok y hy;have e5:((y.2.2.2.1.toNat:Nat):Int)=y.2.2.2.1:=by have:=b.2.1; omega
   have p0:=(QdP hok y hy).2.1.1;have q:=k2.same y.2.2.2.1.toNat (by have:=b.2.1; omega) (by rw [Qha hok h.hg hy hyg]; exact p0)
   rw [QiC (QeF x.1 g) (by have:=b.2.1; omega),Qha hok h.hg hy hyg,if_pos (by exact p0)] at q
   rw [e5] at q;exact q
 ·rw [if_neg ht];refine ⟨h.hk.next hc,h.hs,h.hg,h.pages,?_,fun k hk=>?_,fun y hy hyg=>?_⟩
  ·rw [Qgr];unfold QN;have a:=Qbs.1 h.hg;have b:=Qbs.1 h.hk.turn.2.2.1;rw [Qcx (by omega)]
   exact h.hart
  ·have hk:k< (ownL x.1 g).length:=hk;rw [←h.own k hk];exact h.hk.stays h.hg ht (h.hk.ownP h.hg hk) (.inl (Qfm hk))
  ·rw [←h.gives y hy hyg];exact h.hk.stays h.hg ht (QdP hok y hy).2.1.1 (.inr ⟨y,hy,hyg,rfl⟩)
end
structure Shut (p:PolD) (A:Int→Prop):Prop where
 lane: ∀y∈p.2.1,A y.2.1→A y.1
 bell: ∀b∈p.2.2.1,A b.2.1→A b.1
structure Tw (x y:QF) (A:Int→Prop):Prop where
 hx:HK x
 hy:HK y
 pol:x.1=y.1
 slot:x.2.2.2.1=y.2.2.2.1
 left:x.2.2.2.2.1=y.2.2.2.2.1
 clock:x.2.2.2.2.2.1=y.2.2.2.2.2.1
 shut:Shut x.1 A
 hart: ∀g,isG x.1 g=true→A g→x.2.2.1.getD g.toNat QU=y.2.2.1.getD g.toNat QU
 own: ∀g,isG x.1 g=true→A g→ ∀P∈ownL x.1 g,pg x.2.1 P=pg y.2.1 P
 gives: ∀l∈x.1.2.1,A l.1→pg x.2.1 l.2.2.1=pg y.2.1 l.2.2.1
section
variable {x y:QF} {A:Int→Prop} {g:Int}
theorem Tw.turnEq (h:Tw x y A):turnG y=turnG x:=by
 unfold turnG;rw [←h.pol, ←h.slot]
theorem QkH (x:QF) (g:Int) (hne:QbU x=true→(QR x).ring.toNat≠g.toNat):(QaC x).2.2.1.getD g.toNat QU=(QN x).getD g.toNat QU:=by
 unfold QaC;dsimp only;split
 ·rename_i hr;unfold Qbc;rw [Qcx (hne hr)]
 ·rfl
theorem QgN {g:Int} (h:HK x) (hg:isG x.1 g=true) (hne:turnG x≠g):(QN x).getD g.toNat QU=x.2.2.1.getD g.toNat QU:=by
 have a:=Qbs.1 hg;have b:=Qbs.1 h.turn.2.2.1;unfold QN;rw [Qcx (by omega)]
theorem QmU (h:HK x):(QN x).getD (turnG x).toNat QU=(QR x).hart:=by
 have:=(h.guest h.turn.2.2.1).1;unfold QN;rw [QcR (by omega)]
theorem Tw.sim (h:Tw x y A) (ha:A (turnG x)):Sim (pgM x.1 (turnG x)) (pgM x.1 (turnG x)) x.2.1 y.2.1:=by
 have hok:=h.hx.ok;have ht:=h.hx.turn.2.2.1;have hl:=QeF x.1 (turnG x);refine ⟨⟨hl,hl⟩,fun _ _=>rfl,fun _ _=>Iff.rfl,fun k hk=>⟨(Qmd hok ht hk).2,(Qmd hok ht hk).2⟩,fun i j _ _=>QoQ hok ht i j,fun i j _ _=>QoQ hok ht i j,fun k hk h0=>?_⟩
 rcases Qfp hok ht h0 with ⟨a1,a2⟩ | ⟨l,hl,a1,a2,a3⟩ | ⟨l,hl,a1,a2,a3⟩
 ·rw [a2]; exact h.own _ ht ha _ (Qfm a1)
 ·rw [a3]; exact h.gives l hl (a1▸ha)
 ·rw [a3]; exact h.gives l hl (h.shut.lane l hl (a1▸ha))
end
end Go.Proofs.YticbdcmkcghijaaGreatDoor
