/- Plain laws: what the functions compute, and that both programs compute the same. -/
import Derived.Test.YtkkljegcnnfanaaGreatDoorPb4
set_option linter.unusedVariables false
set_option linter.unusedSimpArgs false
namespace Go.Proofs.YtkkljegcnnfanaaGreatDoor
open Go Go.RowKit S Go.Proofs
set_option maxRecDepth 100000
theorem QtW {h:QH} (hh:hartM h=0):h.2.2.2.2.2.2.2.1.length≤40:=by
 unfold hartM at hh;split at hh
 ·split at hh
  ·split at hh
   ·rename_i c3;exact c3.1
   ·cases hh
  ·cases hh
 ·cases hh
theorem QnU {h:QH} {w:List Int} (hh:hartM h=0) (hw:w.length≤1048576): ∃z:QH,F_dj (h,w,())=some (((fedC h w,if fedC h w=0 then fedW h w else z),()),()):=by
 have hl:=Qfv hh;have h8:=QtW hh;refine ⟨([],0,[],false,false,false,0,[],[],()),Dr.eq ?_⟩;unfold F_dj fedC;refine Dr.step (QiA h hl) (Dr.neg (by rw [hh]; simp) (Dr.step (QbB w (leM hw)) ?_))
 cases hc:allW w with
 | false=>exact Dr.pos (by simp) (Dr.ret rfl)
 | true=>
  refine Dr.neg (by simp) ?_
  dsimp only;rw [Qq (by omega) (by omega)]
  by_cases c:h.2.2.2.2.2.2.2.1.length+w.length≤40
  ·refine Dr.neg (by rw [QB]; omega) (Dr.step (QeI h hl) (Dr.guard (by show (h.2.2.2.2.2.2.2.1.length+w.length)*8≤_; omega) (Dr.ret ?_)))
   rw [if_pos c];rfl
  ·refine Dr.pos (by rw [QB]; omega) (Dr.ret ?_)
   rw [if_neg c];rfl
theorem QoI {h:QH} {w:List Int} (hh:hartM h=0) (hw:w.length≤1048576): ∃z:QH,F_dx (h,w,())=some (((fedC h w,if fedC h w=0 then fedW h w else z),()),()):=by
 have hl:=Qfv hh;have h8:=QtW hh;refine ⟨([],0,[],false,false,false,0,[],[],()),Dr.eq ?_⟩;unfold F_dx fedC;refine Dr.step (QfQ h hl) (Dr.neg (by rw [hh]; simp) (Dr.step (QbE w hw) ?_))
 cases hc:allW w with
 | false=>exact Dr.pos (by simp) (Dr.ret rfl)
 | true=>
  refine Dr.neg (by simp) ?_
  dsimp only;rw [Qq (by omega) (by omega)]
  by_cases c:h.2.2.2.2.2.2.2.1.length+w.length≤40
  ·refine Dr.neg (by rw [QB]; omega) (Dr.step (Qsp h hl) (Dr.guard (by show (h.2.2.2.2.2.2.2.1.length+w.length)*8≤_; omega) (Dr.ret ?_)))
   rw [if_pos c];rfl
  ·refine Dr.pos (by rw [QB]; omega) (Dr.ret ?_)
   rw [if_neg c];rfl
theorem QtK {x:Qw} {g:Int} {w:List Int} (hx:QcU 1048576 x) (hw:w.length≤1048576):
  (HK x∧isG x.1 g=true∧fedC (x.2.2.1.getD g.toNat QU) w=0∧F_dr (x,g,w,())=some (((0,boxH (fedX x g w)),()),()))∨
  ∃(c:Int) (z z':QeX),c≠0∧F_dr (x,g,w,())=some (((c,z),()),())∧F_dz (x,g,w,())=some (((c,z'),()),()):=by
 by_cases h0:QaH x=0
 case neg=>
  refine .inr ⟨QaH x,zH,zH,h0,?_,?_⟩
  ·refine Dr.eq ?_;unfold F_dr;exact Dr.step (Qbe x hx) (Dr.pos (by simpa using h0) (Dr.ret rfl))
  ·refine Dr.eq ?_;unfold F_dz;exact Dr.step (QfR x hx) (Dr.pos (by simpa using h0) (Dr.ret rfl))
 have h:=HK.of h0;by_cases hg:isG x.1 g=true
 case neg=>
  refine .inr ⟨4,zH,zH,by decide,?_,?_⟩
  ·refine Dr.eq ?_;unfold F_dr;exact Dr.step (Qbe x hx) (Dr.neg (by rw [h0]; simp) (Dr.step (QaO x.1 g hx.1.1.1) (Dr.pos (by simpa using hg) (Dr.ret rfl))))
  ·refine Dr.eq ?_;unfold F_dz;exact Dr.step (QfR x hx) (Dr.neg (by rw [h0]; simp) (Dr.step (Qdu x.1 g hx.1.1.1) (Dr.pos (by simpa using hg) (Dr.ret rfl))))
 obtain ⟨gi,ge,gh⟩:=h.guest hg;obtain ⟨z1,e1⟩:=QnU gh hw;obtain ⟨z2,e2⟩:=QoI gh hw;by_cases hc:fedC (x.2.2.1.getD g.toNat QU) w=0
 ·refine .inl ⟨h,hg,hc,?_⟩;rw [if_pos hc,hc] at e1;refine Dr.eq ?_;unfold F_dr;refine Dr.step (Qbe x hx) (Dr.neg (by rw [h0]; simp) (Dr.step (QaO x.1 g hx.1.1.1) (Dr.neg (by rw [hg]; simp) (Dr.guard gi.1 (Dr.step ge (Dr.step e1 (Dr.neg (by simp) (Dr.step (Qfx h) (Dr.guard ?_ (Dr.step ge (Dr.ret rfl)))))))))))
  show 0≤g∧g< ((x.2.2.1.length:Nat):Int);exact gi
 ·rw [if_neg hc] at e1 e2;refine .inr ⟨fedC (x.2.2.1.getD g.toNat QU) w,zH,zH,hc,?_,?_⟩
  ·refine Dr.eq ?_;unfold F_dr;exact Dr.step (Qbe x hx) (Dr.neg (by rw [h0]; simp) (Dr.step (QaO x.1 g hx.1.1.1) (Dr.neg (by rw [hg]; simp) (Dr.guard gi.1 (Dr.step ge (Dr.step e1 (Dr.pos (by simpa using hc) (Dr.ret rfl))))))))
  ·refine Dr.eq ?_;unfold F_dz;exact Dr.step (QfR x hx) (Dr.neg (by rw [h0]; simp) (Dr.step (Qdu x.1 g hx.1.1.1) (Dr.neg (by rw [hg]; simp) (Dr.guard gi.1 (Dr.step ge (Dr.step e2 (Dr.pos (by simpa using hc) (Dr.ret rfl))))))))
theorem QmM {x:Qw} {g:Int} {w:List Int} (h:HK x) (hg:isG x.1 g=true) (hc:fedC (x.2.2.1.getD g.toNat QU) w=0):HK (fedX x g w):=by
 refine ⟨h.pol,h.mem,?_,?_,h.clock,h.slot,h.left⟩
 ·show (x.2.2.1.set _ _).length=_;rw [List.length_set]; exact h.len
 ·intro y hy;have hy:y∈x.2.2.1.set g.toNat (fedW (x.2.2.1.getD g.toNat QU) w):=hy;rcases List.mem_or_eq_of_mem_set hy with hy | rfl
  ·exact h.harts y hy
  ·exact Qvn (h.guest hg).2.2 hc
theorem Qlq {x:Qw} {g k:Int} {w:List Int} (hne:g.toNat≠k.toNat):(fedX x g w).2.2.1.getD k.toNat QU=x.2.2.1.getD k.toNat QU:=by
 show (x.2.2.1.set _ _).getD _ _=_;rw [QcG hne]
theorem QrS {x:Qw} {g k:Int} {w:List Int} (hne:g.toNat≠k.toNat):QaQ (fedX x g w) k=QaQ x k:=by
 unfold QaQ;rw [Qlq hne];rfl
theorem Qvo {x:Qw} {g:Int} {w:List Int} {A:Int→Prop} (h:HK x) (hg:isG x.1 g=true) (hc:fedC (x.2.2.1.getD g.toNat QU) w=0) (hs:Shut x.1 A) (hn: ¬A g):Tw x (fedX x g w) A:=by
 refine ⟨h,QmM h hg hc,rfl,rfl,rfl,rfl,hs,fun k hk ha=>?_,fun _ _ _ _ _=>rfl,fun _ _ _=>rfl⟩
 have a:=QaP.1 hg;have b:=QaP.1 hk;rw [Qlq];intro e;exact hn (show g=k by omega▸ha)
theorem QwO {a b x:Int} (ha:0≤a∧(a< 5∨a=0)) (hb:0≤b∧(b< 5∨b=0)) (h:x∈[a,b,40,41]):x≤41:=by
 simp only [List.mem_cons,List.not_mem_nil,or_false] at h;omega
theorem QwW {s:SrcD} {k:Int} (h:Sr s k) (hk:k≤1000000):Dr (F_ca (s,())) fun r=>True:=by
 unfold F_ca;exact (QfU h (by omega)).bind fun r1 h1=>(QfU h1.1 (by omega)).bind fun r2 h2=>(QfU h2.1 (by omega)).bind fun r3 h3=>(Qbt h3.1 (by omega) _ _).bind fun r4 h4=>Dr.ret trivial
theorem QrP {c:List Int} (hc:Byt c):Dr (F_cb (c,())) fun r=>r.1.1.length≤1000:=by
 unfold F_cb;refine (QoH hc).bind fun r1 h1=>(QW h1 (by omega) _).bind fun r2 h2=>(QW h2.1 (by omega) _).bind fun r3 h3=>(Qbt h3.1 (by omega) _ _).bind fun r4 h4=>?_
 have hb:(r4.1.1:Int)≤41:=by
  have a:=h2.2.e;have b:=h3.2.e;exact QwO a b h4.2
 have key:Dr (L_cb_4 (((),(([]:List Int),(r4.1.1,()))),((r4.2.1,()),()))) fun o=> ∃(l:List Int) (s:SrcD),o= .inl (((),(l,())),((s,()),()))∧l.length≤1000∧Sr s 1000:=by
  refine Qab (fun m u=> ∃(l:List Int) (s:SrcD) (n:Int),u=(((),(l,(n,()))),((s,()),()))∧n≤(m:Int)∧l.length+m≤41∧Sr s (10+5*(l.length:Int))) ?_ 41 _ ⟨[],r4.2.1,r4.1.1,rfl,hb,by simp,h4.1.le (by simp)⟩ (by rw [QG]; omega)
  rintro rec m _ ⟨l,s,n,rfl,hn,hl,hs⟩ ih;unfold l_cb_4;dsimp only;by_cases c:0< n
  ·rw [if_pos (by rw [QB]; exact c)]
   refine (QfU hs (by omega)).bind fun r6 h6=>Dr.guard (by simp only [List.length_singleton]; omega) ?_
   rw [Qq (n:=n-1) (by omega) (by omega)]
   refine ih (m-1) _ (by omega) ⟨_,_,_,rfl,by omega,by rw [List.length_append,List.length_singleton]; omega,h6.1.le (by rw [List.length_append,List.length_singleton]; omega)⟩
  ·rw [if_neg (by rw [QB]; exact c)]
   exact Dr.ret ⟨l,s,rfl,by omega,hs.le (by omega)⟩
 refine key.bind fun o ho=>?_
 obtain ⟨l,s,rfl,hl,hs⟩:=ho;dsimp only;refine Dr.ite (fun hp=>?_) fun _=>Dr.ret hl
 refine (QcK hs (by omega) _).bind fun r12 h12=>Dr.ite (fun _=>?_) fun _=>Dr.ret hl
 have hp:0< l.length:=by rw [QB] at hp; omega
 refine (QwW h12 (by omega)).bind fun r13 h13=>(Dr.guard (by show (0:Int)≤0∧(0:Int)< ((l.length:Nat):Int); omega) (Dr.step (List.getElem?_eq_getElem hp) (Dr.ret ?_)))
 show (l.set _ _).length≤1000;rw [List.length_set]; exact hl
theorem Qps {c:List Int} (hc:Byt c):Dr (F_cc (c,())) fun r=>QcU 1048576 r.1.1∧r.1.2.2.1.length≤1000:=by
 unfold F_cc;exact (QoH hc).bind fun r1 h1=>(QwC h1 (by omega)).bind fun r2 h2=>(Qbt h2.1 (by omega) _ _).bind fun r3 h3=>(QrP hc).bind fun r4 h4=>Dr.ret ⟨h2.2,h4⟩
theorem QtL {x:Qw} {g:Int} {w:List Int} (h:HK x) (hg:isG x.1 g=true) (hc:fedC (x.2.2.1.getD g.toNat QU) w=0):
  Dr (L_gw_8 (((),(g,(w,((),((0:Int),()))))),((boxH x,(((0:Int),boxH (fedX x g w)),())),()))) fun o=>o= .inl (((),(g,(w,((),())))),((boxH x,(((0:Int),boxH (fedX x g w)),())),())):=by
 have hy:=QmM h hg hc;have hlen:=h.len;have h3:=h.ok.own;have hcl:=h.clock;refine Qab (fun m u=> ∃i:Nat,u=(((),(g,(w,((),((i:Int),()))))),((boxH x,(((0:Int),boxH (fedX x g w)),())),()))∧m+i=x.2.2.1.length) ?_ x.2.2.1.length _ ⟨0,rfl,by omega⟩ (by rw [QG]; omega)
 rintro rec m _ ⟨i,rfl,hm⟩ ih;unfold l_gw_8;dsimp only;by_cases ci:i< x.2.2.1.length
 ·rw [if_pos (show ltI (i:Int) (((boxH x).2.2.2.2.2.1.length:Nat):Int)=true from lt_t ci)]
  have go:=ih (m-1) _ (by omega) ⟨i+1,rfl,by omega⟩
  have ew:=QQ (i:=i) (by omega)
  by_cases ct:(i:Int)=g
  ·refine Dr.pos (by simpa using ct) ?_
   rw [ew]; exact go
  ·refine Dr.neg (by simpa using ct) ?_
   have ho:isG x.1 (i:Int)=true:=QaP.2 (by omega)
   have gi:=QaP.1 hg;have vl:=QhN h ho;have ev:QaQ (fedX x g w) (i:Int)=QaQ x (i:Int):=QrS (by omega)
   have e14:=QiC hy (g:=(i:Int)) ho
   have e15:F_eg (vD (QaQ x (i:Int)),vD (QaQ (fedX x g w) (i:Int)),())=some ((true,()),()):=by
    rw [ev,(Qrm (v:=QaQ x (i:Int)) (w:=QaQ x (i:Int)) vl).2,QgX vl]
   refine Dr.step (QiC h ho) (Dr.step e14 (Dr.step e15 (Dr.neg (by simp) ?_)))
   refine Dr.step (Qpy x (fedX x g w) (i:Int) 30 h.le hy.le) (Dr.step (QwV h.pol ho) (Dr.step (QvA (gL x.1.1.length (fun y=>y !=(i:Int) && !(QeS x.1 (i:Int)).contains y)) g (Nat.le_trans (Qjz _ _) (by omega))) ?_))
   dsimp only;rw [ew];refine Dr.ite (fun hin=>?_) fun _=>go
   have hin:g∈gL x.1.1.length (fun y=>y !=(i:Int) && !(QeS x.1 (i:Int)).contains y):=of_decide_eq_true hin
   have nk: ¬Kin x.1 (i:Int) g:=by
    rw [QhY,Bool.and_eq_true] at hin;obtain ⟨h1,h2,h3⟩:=hin;rintro (rfl | hr)
    ·simp at h2
    ·rw [←QlU h.ok, ←List.contains_iff_mem] at hr;rw [hr] at h3;cases h3
   refine Dr.ite (fun hz=>?_) fun _=>go
   have tw:=Qvo h hg hc (Qua x.1 (i:Int)) nk;by_cases ck:x.2.2.2.2.2.1+30≤1000000
   ·rw [Qpr tw ho (.inl rfl) (by omega) ck]
    exact Dr.neg (by simp) go
   ·exfalso
    have hst:QaE x 30=false:=by
     unfold QaE;rw [Qq (by omega) (by omega)]
     have:leI (x.2.2.2.2.2.1+30) 1000000=false:=by rw [←Bool.not_eq_true,QaW]; omega
     rw [this]; simp
    have:Qlm x (fedX x g w) (i:Int) 30=(3,0,false,()):=by
     unfold Qlm;rw [if_neg (by simpa using h.to),if_neg (by simpa using hy.to),if_pos ho,if_pos (show isG (fedX x g w).1 (i:Int)=true from ho),if_neg (by rw [hst]; decide)]
    rw [this] at hz;exact absurd hz (by decide)
 ·rw [if_neg (show ¬ltI (i:Int) (((boxH x).2.2.2.2.2.1.length:Nat):Int)=true from lt_f ci)]
  exact Dr.ret rfl
theorem QrT (c:List Int) (hb: ∀b∈c,0≤b∧b≤255):Yes (F_gw (c,())):=by
 unfold F_gw F_a;refine Dr.step rfl (Dr.ite (fun _=>yes rfl) fun h0=>?_)
 have h0: ¬(1048576:Int)< ((c.length:Nat):Int):=by rw [QB] at h0; exact h0
 refine (Qps (Qwv h0 hb)).bind fun r2 h2=>?_
 obtain ⟨⟨x,g,w,xu⟩,x2⟩:=r2;have hx:QcU 1048576 x:=h2.1;have hw:List.length w≤1000:=h2.2;clear h2;obtain ⟨x,rfl⟩: ∃y:Qw,y=x:=⟨x,rfl⟩;obtain ⟨g,rfl⟩: ∃k:Int,k=g:=⟨g,rfl⟩;obtain ⟨w,rfl⟩: ∃k:List Int,k=w:=⟨w,rfl⟩;rcases QtK (g:=g) (w:=w) hx (by omega) with ⟨h,hg,hc,e⟩ | ⟨cd,z,z',hcd,e1,e2⟩
 case inr=>exact Dr.step e1 (Dr.pos (by simpa using hcd) (Dr.step e2 (yes (by simp))))
 have hy:=QmM h hg hc;obtain ⟨gi,ge,gh⟩:=h.guest hg;refine Dr.step e (Dr.neg (by simp) ((QtL h hg hc).bind fun o ho=>?_))
 subst ho;dsimp only;have hm:=h.mem.2
 have g2:(fedX x g w).2.2.1[g.toNat]?=some (fedW (x.2.2.1.getD g.toNat QU) w):=by
  show (x.2.2.1.set _ _)[_]?=_;rw [List.getElem?_set_self (by omega)]
 have gi2:0≤g∧g< (((fedX x g w).2.2.1.length:Nat):Int):=by
  show 0≤g∧g< (((x.2.2.1.set _ _).length:Nat):Int);rw [List.length_set]; exact gi
 have h8:=QtW gh;refine Dr.step (Qbe (fedX x g w) hy.le) (Dr.pos (by rw [hy.to]; rfl) (Dr.step (Qsz x.2.1 (by omega)) (Dr.pos rfl (Dr.guard gi2 (Dr.step g2 (Dr.guard gi.1 (Dr.step ge (yes ?_))))))))
 show ((((x.2.2.1.getD g.toNat QU).2.2.2.2.2.2.2.1++w).length:Nat):Int)==IntKind.i64.wrap ((((x.2.2.1.getD g.toNat QU).2.2.2.2.2.2.2.1.length:Nat):Int)+((w.length:Nat):Int));rw [Qq (by omega) (by omega),List.length_append,beq_iff_eq]
 omega
theorem Qvp: ∀x,inRP P_a x→F_gw x=some ((true,()),()):=by
 rintro ⟨c,_⟩ ⟨hc,_⟩
 exact (QrT c fun b hb=>by
  have:=hc.2 b hb;have h1:IntKind.u8.min=0:=by decide
  have h2:IntKind.u8.max=255:=by decide
  simp only [inR,h1,h2] at this;exact this).eq
end Go.Proofs.YtkkljegcnnfanaaGreatDoor
