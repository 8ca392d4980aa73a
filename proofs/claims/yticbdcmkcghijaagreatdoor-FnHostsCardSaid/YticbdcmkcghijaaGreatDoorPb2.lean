/- Plain laws: what the functions compute, and that both programs compute the same. -/
import Derived.Test.YticbdcmkcghijaaGreatDoorPb1
namespace Go.Proofs.YticbdcmkcghijaaGreatDoor
open Go Go.RowKit S Go.Proofs
set_option maxRecDepth 100000
theorem Qna (a b:Int) (l:Bool):F_ey (a,b,l,())=some ((shW a b l,()),()):=by
 unfold F_ey shW;simp only [Qbr,Obn,Qtx (Qag b)];have hw:=Qag a;have hb:0≤wd b % 32∧wd b % 32< 32:=by omega
 have e2:min (wd b % 32).toNat 64=(wd b % 32).toNat:=by omega
 rw [e2];cases l
 ·rw [if_neg (by decide),if_neg (by omega),if_neg (by decide),QcC hw.1]
 ·rw [if_pos rfl,if_neg (by omega),if_pos rfl]
  have h1:=Qtm (k:=(wd b % 32).toNat) (by omega)
  have h0:(0:Int)< 2 ^ (wd b % 32).toNat:=Int.pow_pos (by omega)
  unfold WW at hw;generalize (2:Int) ^ (wd b % 32).toNat=p at*;have q0:0≤wd a*p:=Int.mul_nonneg hw.1 (by omega)
  have q1:wd a*p≤4294967295*2147483648:=Int.mul_le_mul hw.2 h1 (by omega) (by omega)
  rw [Qy (by omega) (by omega)]
theorem QlT (x):F_ey x=some ((shW x.1 x.2.1 x.2.2.1,()),()):=Qna x.1 x.2.1 x.2.2.1
def aluW (op a b:Int):Int:=
 if op=1 then addW a b else if op=2 then wd (wd a-wd b) else if op=3 then mulW a b else if op=4 then divW a b else if op=5 then remW a b
 else if op=6 then bitW 1 a b else if op=7 then bitW 2 a b else if op=8 then bitW 3 a b else if op=9 then shW a b true else if op=10 then shW a b false
 else if sg a< sg b then 1 else 0
theorem Qqs (op a b:Int):WW (aluW op a b):=by
 unfold aluW;have hd:WW (divW a b):=by unfold divW; split; unfold WW; omega; exact Qag _
 have hr:WW (remW a b):=by unfold remW; split <;> exact Qag _
 repeat' split
 all_goals first | exact Qkl _ _ | exact Qag _ | exact hd | exact hr | exact Qqy _ _ _ | exact Qts _ _ _ | (unfold WW; omega)
theorem QrC (op a b:Int):F_bo (op,a,b,())=some ((aluW op a b,()),()):=by
 unfold F_bo aluW;simp only [Qpa,Qph,Qpg,Qpk,Qmj,QdT,Obn,Qdy,Qew];by_cases h1:op=1
 ·subst h1; rfl
 rw [if_neg (by simpa using h1),if_neg h1]
 by_cases h2:op=2
 ·subst h2; rfl
 rw [if_neg (by simpa using h2),if_neg h2]
 by_cases h3:op=3
 ·subst h3; rfl
 rw [if_neg (by simpa using h3),if_neg h3]
 by_cases h4:op=4
 ·subst h4; rfl
 rw [if_neg (by simpa using h4),if_neg h4]
 by_cases h5:op=5
 ·subst h5; rfl
 rw [if_neg (by simpa using h5),if_neg h5]
 by_cases h6:op=6
 ·subst h6;rw [if_pos (by decide),if_pos rfl,show IntKind.i64.wrap (IntKind.i64.wrap ((6:Int)-6)+1)=1 from by decide+kernel,QhM 1 a b (by omega)]; rfl
 rw [if_neg (by simpa using h6),if_neg h6]
 by_cases h7:op=7
 ·subst h7;rw [if_pos (by decide),if_pos rfl,show IntKind.i64.wrap (IntKind.i64.wrap ((7:Int)-6)+1)=2 from by decide+kernel,QhM 2 a b (by omega)]; rfl
 rw [if_neg (by simpa using h7),if_neg h7]
 by_cases h8:op=8
 ·subst h8;rw [if_pos (by decide),if_pos rfl,show IntKind.i64.wrap (IntKind.i64.wrap ((8:Int)-6)+1)=3 from by decide+kernel,QhM 3 a b (by omega)]; rfl
 rw [if_neg (by simpa using h8),if_neg h8]
 by_cases h9:op=9
 ·subst h9; rfl
 rw [if_neg (by simpa using h9),if_neg h9]
 by_cases h10:op=10
 ·subst h10; rfl
 rw [if_neg (by simpa using h10),if_neg h10]
 by_cases h:sg a< sg b
 ·rw [if_pos (QD.2 h),if_pos h]
 ·rw [if_neg (by rw [QD]; exact h),if_neg h]
theorem QqR (op a b:Int) (ha:WW a) (hb:WW b) (h:1≤op∧op≤11):F_ez (op,a,b,())=some (((0,aluW op a b,()),()),()):=by
 unfold F_ez aluW;simp only [Qbr,Obn,QfS ha,QfS hb,Qor,Qow,Qou,Qoy,QlT,QdO];by_cases h1:op=1
 ·subst h1; rfl
 rw [if_neg (by simpa using h1),if_neg h1]
 by_cases h2:op=2
 ·subst h2;unfold WW at ha hb;rw [if_pos (by decide),if_pos rfl,Qy (by omega) (by omega)]
 rw [if_neg (by simpa using h2),if_neg h2]
 by_cases h3:op=3
 ·subst h3; rfl
 rw [if_neg (by simpa using h3),if_neg h3]
 by_cases h4:op=4
 ·subst h4; rfl
 rw [if_neg (by simpa using h4),if_neg h4]
 by_cases h5:op=5
 ·subst h5; rfl
 rw [if_neg (by simpa using h5),if_neg h5]
 by_cases h6:op=6
 ·subst h6;rw [if_pos (by decide),if_pos rfl,show IntKind.i64.wrap (IntKind.i64.wrap ((6:Int)-6)+1)=1 from by decide+kernel,Qhx 1 a b (by omega)]; rfl
 rw [if_neg (by simpa using h6),if_neg h6]
 by_cases h7:op=7
 ·subst h7;rw [if_pos (by decide),if_pos rfl,show IntKind.i64.wrap (IntKind.i64.wrap ((7:Int)-6)+1)=2 from by decide+kernel,Qhx 2 a b (by omega)]; rfl
 rw [if_neg (by simpa using h7),if_neg h7]
 by_cases h8:op=8
 ·subst h8;rw [if_pos (by decide),if_pos rfl,show IntKind.i64.wrap (IntKind.i64.wrap ((8:Int)-6)+1)=3 from by decide+kernel,Qhx 3 a b (by omega)]; rfl
 rw [if_neg (by simpa using h8),if_neg h8]
 by_cases h9:op=9
 ·subst h9; rfl
 rw [if_neg (by simpa using h9),if_neg h9]
 by_cases h10:op=10
 ·subst h10; rfl
 rw [if_neg (by simpa using h10),if_neg h10,if_pos (by simpa using (show op=11 by omega))]
 by_cases h:sg a< sg b
 ·rw [if_pos (QD.2 h),if_pos h]
 ·rw [if_neg (by rw [QD]; exact h),if_neg h]
structure OkC (cs:List Int):Prop where
 len:cs.length=11
 words: ∀w∈cs,WW w
 st:cs.getD 0 0≤3
 msk:cs.getD 7 0≤7
 tb:cs.getD 10 0≤8
 pd:cs.getD 6 0=0
 tm:cs.getD 8 0=0
structure OkR (r:List Int):Prop where
 len:r.length=16
 words: ∀w∈r,WW w
 zero:r.getD 0 0=0
structure OkQ (q:List Int):Prop where
 len:q.length≤40
 words: ∀w∈q,WW w
structure OkL (l:List TwoD) (m:List Int):Prop where
 len:l.length=8
 pgs: ∀p∈l,(-1≤p.1∧p.1≤23)∧(0≤p.2.1∧p.2.1≤7)∧8*p.1+8≤(m.length:Int)
 words: ∀w∈m,WW w
 mlen:m.length≤192
theorem Qat {α:Type} {l:List α} {k:Nat} {d:α} (h:k< l.length):l.getD k d∈l:=by
 rw [List.getD_eq_getElem?_getD,List.getElem?_eq_getElem h]; exact List.getElem_mem h
theorem Qcp {α:Type} {l:List α} {k:Nat} (d:α) (h:k< l.length):l[k]?=some (l.getD k d):=by
 rw [List.getD_eq_getElem?_getD,List.getElem?_eq_getElem h]; rfl
theorem Qs {α γ:Type} {l:List α} {i:Int} (d:α) (h:i.toNat< l.length) (K:α→Option γ):(l[i.toNat]?).bind K=K (l.getD i.toNat d):=by
 rw [Qcp d h]; rfl
theorem OkC.w {cs:List Int} (h:OkC cs) {k:Nat} (hk:k< 11):WW (cs.getD k 0):=h.words _ (Qat (by rw [h.len]; exact hk))
theorem OkR.w {cs:List Int} (h:OkR cs) {k:Nat} (hk:k< 16):WW (cs.getD k 0):=h.words _ (Qat (by rw [h.len]; exact hk))
def Qdr (cs:List Int) (ru:Bool) (dn:Int) (iq:List Int):Int:=
 (if cs.getD 9 0≠0∧cs.getD 9 0≤dn then 1 else 0)+(if ru=true then 2 else 0)+(if 0< iq.length then 4 else 0)
theorem QgZ (cs:List Int) (ru:Bool) (dn:Int) (iq:List Int):0≤Qdr cs ru dn iq∧Qdr cs ru dn iq≤7:=by
 unfold Qdr; repeat' split
 all_goals omega
section
variable {r cs iq oq:List Int} {pc dn:Int} {ha wa ru:Bool}
theorem QeJ (hc:OkC cs):F_an ((r,pc,cs,ha,wa,ru,dn,iq,oq,()),())=some ((Qdr cs ru dn iq,()),()):=by
 unfold F_an Qdr;dsimp only
 have e3:ltI 0 ((iq.length:Nat):Int)=decide (0< iq.length):=by
  have:=ltN (a:=0) (b:=iq.length);simpa using this
 rw [Qs 0 (by rw [hc.len]; decide)]
 simp only [e3,show ((9:Int)).toNat=9 from rfl,Qcp (l:=cs) (k:=9) 0 (by rw [hc.len]; decide),Obn]
 generalize cs.getD 9 0=a;by_cases h1:a=0
 ·cases ru <;> by_cases h3:0< iq.length <;> simp [h1,h3]
 ·by_cases h2:a≤dn <;> cases ru <;> by_cases h3:0< iq.length <;> simp [h1,h2,h3,Qan]
theorem Qex (hc:OkC cs):F_du ((r,pc,cs,ha,wa,ru,dn,iq,oq,()),())=some ((Qdr cs ru dn iq,()),()):=by
 have o1:ior .i64 0 1=1:=by decide+kernel
 have o2:ior .i64 1 2=3:=by decide+kernel
 have o3:ior .i64 3 4=7:=by decide+kernel
 have o4:ior .i64 1 4=5:=by decide+kernel
 have o5:ior .i64 0 2=2:=by decide+kernel
 have o6:ior .i64 2 4=6:=by decide+kernel
 have o7:ior .i64 0 4=4:=by decide+kernel
 unfold F_du Qdr;dsimp only
 have e3:ltI 0 ((iq.length:Nat):Int)=decide (0< iq.length):=by
  have:=ltN (a:=0) (b:=iq.length);simpa using this
 rw [Qs 0 (by rw [hc.len]; decide)]
 simp only [e3,show ((9:Int)).toNat=9 from rfl,Qcp (l:=cs) (k:=9) 0 (by rw [hc.len]; decide),Obn,o1,o2,o3,o4,o5,o6,o7]
 generalize cs.getD 9 0=a;by_cases h1:a=0
 ·cases ru <;> by_cases h3:0< iq.length <;> simp [h1,h3]
 ·by_cases h2:a≤dn <;> cases ru <;> by_cases h3:0< iq.length <;> simp [h1,h2,h3,Qan]
def lowB (v:Int):Int:=if v % 2=1 then 0 else if v / 2 % 2=1 then 1 else if v / 4 % 2=1 then 2 else -1
def dueM (cs:List Int) (ru:Bool) (dn:Int) (iq:List Int):Int:=if cs.getD 0 0 % 2=0 then -1 else lowB (iand .i64 (Qdr cs ru dn iq) (cs.getD 7 0))
theorem Qqt: ∀p:Fin 8, ∀m:Fin 8,0≤iand .i64 ((p.val:Nat):Int) ((m.val:Nat):Int)∧iand .i64 ((p.val:Nat):Int) ((m.val:Nat):Int)≤7:=by decide+kernel
theorem Qpy {p m:Int} (h:0≤p∧p≤7) (h2:0≤m∧m≤7):0≤iand .i64 p m∧iand .i64 p m≤7:=by
 have:=Qqt ⟨p.toNat,by omega⟩ ⟨m.toNat,by omega⟩
 simp only [show ((p.toNat:Nat):Int)=p from by omega,show ((m.toNat:Nat):Int)=m from by omega] at this
 exact this
def lowT (v:Int):Option (denO o_l_4):=if lowB v= -1 then some (.inl ((),((),()))) else some (.inr (.inl ((lowB v,()),((),()))))
theorem low0:L_ao_5 (((0:Int),(0,())),((),()))=lowT 0:=by kernel_rfl
theorem low1:L_ao_5 (((1:Int),(0,())),((),()))=lowT 1:=by kernel_rfl
theorem low2:L_ao_5 (((2:Int),(0,())),((),()))=lowT 2:=by kernel_rfl
theorem low3:L_ao_5 (((3:Int),(0,())),((),()))=lowT 3:=by kernel_rfl
theorem low4:L_ao_5 (((4:Int),(0,())),((),()))=lowT 4:=by kernel_rfl
theorem low5:L_ao_5 (((5:Int),(0,())),((),()))=lowT 5:=by kernel_rfl
theorem low6:L_ao_5 (((6:Int),(0,())),((),()))=lowT 6:=by kernel_rfl
theorem low7:L_ao_5 (((7:Int),(0,())),((),()))=lowT 7:=by kernel_rfl
theorem Qub {v:Int} (h:0≤v∧v≤7):L_ao_5 ((v,(0,())),((),()))=lowT v:=by
 have:v=0∨v=1∨v=2∨v=3∨v=4∨v=5∨v=6∨v=7:=by omega
 rcases this with rfl | rfl | rfl | rfl | rfl | rfl | rfl | rfl
 ·exact low0
 ·exact low1
 ·exact low2
 ·exact low3
 ·exact low4
 ·exact low5
 ·exact low6
 ·exact low7
theorem Qua: ∀v:Fin 8,v.val≠0→tzF (IntKind.u64.wrap ((v.val:Nat):Int))=some (lowB ((v.val:Nat):Int))∧lowB ((v.val:Nat):Int)≠ -1:=by decide+kernel
theorem QtZ (v:Int): -1≤lowB v∧lowB v≤2:=by
 unfold lowB; repeat' split
 all_goals omega
theorem QrF (hc:OkC cs):F_ao ((r,pc,cs,ha,wa,ru,dn,iq,oq,()),())=some ((dueM cs ru dn iq,()),()):=by
 unfold F_ao dueM;dsimp only;rw [QeJ hc,Obn];dsimp only;rw [Qs 0 (by rw [hc.len]; decide),Qs 0 (by rw [hc.len]; decide)]
 have hst:=hc.w (k:=0) (by decide)
 have hmk:=hc.w (k:=7) (by decide)
 have hmk2:=hc.msk;have hb:=Qpy (QgZ cs ru dn iq) ⟨hmk.1,hmk2⟩;simp only [show ((7:Int)).toNat=7 from rfl,show ((0:Int)).toNat=0 from rfl,Int.tmod_eq_emod_of_nonneg hst.1]
 generalize iand .i64 (Qdr cs ru dn iq) (cs.getD 7 0)=v at*;by_cases h:cs.getD 0 0 % 2=0
 ·rw [if_pos (by simpa using h),if_pos h]
 ·rw [if_neg (by simpa using h),if_neg h]
  rw [Qub hb];unfold lowT;by_cases hl:lowB v= -1
  ·rw [if_pos hl,hl]; rfl
  ·rw [if_neg hl]; rfl
theorem QqU (hc:OkC cs):F_dw ((r,pc,cs,ha,wa,ru,dn,iq,oq,()),())=some ((dueM cs ru dn iq,()),()):=by
 unfold F_dw dueM;dsimp only;rw [Qex hc,Obn];dsimp only;rw [Qs 0 (by rw [hc.len]; decide),Qs 0 (by rw [hc.len]; decide)]
 have hst:=hc.w (k:=0) (by decide)
 have hmk:=hc.w (k:=7) (by decide)
 have hmk2:=hc.msk;have hb:=Qpy (QgZ cs ru dn iq) ⟨hmk.1,hmk2⟩;simp only [show ((7:Int)).toNat=7 from rfl,show ((0:Int)).toNat=0 from rfl,Int.tmod_eq_emod_of_nonneg hst.1]
 generalize iand .i64 (Qdr cs ru dn iq) (cs.getD 7 0)=v at*;by_cases h:cs.getD 0 0 % 2=0
 ·rw [if_neg (by simpa using h),if_pos h]
 ·rw [if_pos (by simpa using h),if_neg h]
  by_cases hv:v=0
  ·subst hv; rfl
  ·rw [if_neg (by simpa using hv)]
   have:=Qua ⟨v.toNat,by omega⟩ (by simp only; omega)
   simp only [show ((v.toNat:Nat):Int)=v from by omega] at this
   unfold F_dv;dsimp only;rw [this.1];rfl
def Qgh (cs:List Int) (pc cause tval:Int):List Int:=(((cs.set 2 pc).set 3 cause).set 4 tval).set 0 (cs.getD 0 0 % 2*2)
theorem getD_set_ne {l:List Int} {i j:Nat} {y d:Int} (h:i≠j):(l.set i y).getD j d=l.getD j d:=by
 simp [List.getD_eq_getElem?_getD,List.getElem?_set_ne h]
theorem Qff {l:List Int} {i:Nat} {y d:Int} (h:i< l.length):(l.set i y).getD i d=y:=by
 simp [List.getD_eq_getElem?_getD,List.getElem?_set_self h]
theorem OkC.set {cs:List Int} (h:OkC cs) {k:Nat} {w:Int} (hw:WW w) (hk:k≠6∧k≠8) (h0:k=0→w≤3) (h7:k=7→w≤7) (h10:k=10→w≤8):OkC (cs.set k w):=by
 by_cases hlt:k< 11
 ·refine ⟨by simp [h.len],fun z hz=>?_,?_,?_,?_,?_,?_⟩
  ·rcases List.mem_or_eq_of_mem_set hz with hz | rfl
   ·exact h.words z hz
   ·exact hw
  ·by_cases e:k=0
   ·subst e; rw [Qff (by rw [h.len]; decide)]; exact h0 rfl
   ·rw [getD_set_ne e]; exact h.st
  ·by_cases e:k=7
   ·subst e; rw [Qff (by rw [h.len]; decide)]; exact h7 rfl
   ·rw [getD_set_ne e]; exact h.msk
  ·by_cases e:k=10
   ·subst e; rw [Qff (by rw [h.len]; decide)]; exact h10 rfl
   ·rw [getD_set_ne e]; exact h.tb
  ·rw [getD_set_ne hk.1]; exact h.pd
  ·rw [getD_set_ne hk.2]; exact h.tm
 ·rw [List.set_eq_of_length_le (by rw [h.len]; omega)]; exact h
theorem Qtz (hc:OkC cs) (hp:WW pc) {cause tval:Int} (h1:WW cause) (h2:WW tval):OkC (Qgh cs pc cause tval):=by
 unfold Qgh;have:=hc.w (k:=0) (by decide)
 unfold WW at this
 exact (((hc.set hp (by decide) (fun e=>absurd e (by decide)) (fun e=>absurd e (by decide)) (fun e=>absurd e (by decide))).set h1 (by decide) (fun e=>absurd e (by decide)) (fun e=>absurd e (by decide)) (fun e=>absurd e (by decide))).set h2 (by decide) (fun e=>absurd e (by decide)) (fun e=>absurd e (by decide)) (fun e=>absurd e (by decide))).set
  (by unfold WW; omega) (by decide) (fun _=>by omega) (fun e=>absurd e (by decide)) (fun e=>absurd e (by decide))
theorem QjC (hc:OkC cs) (cause tval:Int):F_ap ((r,pc,cs,ha,wa,ru,dn,iq,oq,()),cause,tval,())=
  some ((),((r,cs.getD 1 0,Qgh cs pc cause tval,ha,false,ru,dn,iq,oq,()),())):=by
 have hst:=hc.w (k:=0) (by decide)
 have hl:=hc.len;have hw:IntKind.i64.wrap (cs.getD 0 0 % 2*2)=cs.getD 0 0 % 2*2:=Qy (by omega) (by omega)
 unfold F_ap Qgh
 simp only [show ((2:Int)).toNat=2 from rfl,show ((3:Int)).toNat=3 from rfl,show ((4:Int)).toNat=4 from rfl,show ((0:Int)).toNat=0 from rfl,show ((1:Int)).toNat=1 from rfl,
  List.length_set,hl,show (0:Int)≤2∧(2:Int)< ((11:Nat):Int) from by decide,show (0:Int)≤3∧(3:Int)< ((11:Nat):Int) from by decide,show (0:Int)≤4∧(4:Int)< ((11:Nat):Int) from by decide,
  show (0:Int)≤0∧(0:Int)< ((11:Nat):Int) from by decide,show (0:Int)≤1∧(1:Int)< ((11:Nat):Int) from by decide,and_self,if_true]
 rw [Qcp (l:=cs) (k:=2) 0 (by omega),Obn,Qcp (k:=3) 0 (by simp [hl]),Obn,Qcp (k:=4) 0 (by simp [hl]),Obn]
 rw [Qcp (l:=((cs.set 2 pc).set 3 cause).set 4 tval) (k:=0) 0 (by simp [hl]),Obn,Obn]
 rw [getD_set_ne (by decide),getD_set_ne (by decide),getD_set_ne (by decide),Int.tmod_eq_emod_of_nonneg hst.1,hw]
 rw [Qcp (k:=1) 0 (by simp [hl]),Obn]
 rw [getD_set_ne (by decide),getD_set_ne (by decide),getD_set_ne (by decide),getD_set_ne (by decide)]
theorem QoA (hc:OkC cs) (cause tval:Int):F_dx ((r,pc,cs,ha,wa,ru,dn,iq,oq,()),cause,tval,())=
  some ((),((r,cs.getD 1 0,Qgh cs pc cause tval,ha,false,ru,dn,iq,oq,()),())):=QjC hc cause tval
def QiG (cs:List Int):List Int:=cs.set 0 (2+cs.getD 0 0 / 2)
theorem Qsg (hc:OkC cs):OkC (QiG cs):=by
 have:=hc.w (k:=0) (by decide)
 have h3:=hc.st;unfold WW at this;exact hc.set (by unfold WW; omega) (by decide) (fun _=>by omega) (fun e=>absurd e (by decide)) (fun e=>absurd e (by decide))
theorem QjA (hc:OkC cs):F_bi ((r,pc,cs,ha,wa,ru,dn,iq,oq,()),())=some ((),((r,cs.getD 2 0,QiG cs,ha,wa,ru,dn,iq,oq,()),())):=by
 have hst:=hc.w (k:=0) (by decide)
 have hl:=hc.len;unfold WW at hst;unfold F_bi QiG;simp only [show ((2:Int)).toNat=2 from rfl,show ((0:Int)).toNat=0 from rfl,hl,show (0:Int)≤2∧(2:Int)< ((11:Nat):Int) from by decide,show (0:Int)≤0∧(0:Int)< ((11:Nat):Int) from by decide,and_self,if_true]
 rw [Qcp (l:=cs) (k:=2) 0 (by omega),Obn,Qcp (l:=cs) (k:=0) 0 (by omega),Obn,Obn]
 rw [Int.tdiv_eq_ediv_of_nonneg hst.1,Qy (n:=cs.getD 0 0 / 2) (by omega) (by omega),Qy (by omega) (by omega)]
theorem Qos (hc:OkC cs):F_et ((r,pc,cs,ha,wa,ru,dn,iq,oq,()),())=some ((),((r,cs.getD 2 0,QiG cs,ha,wa,ru,dn,iq,oq,()),())):=QjA hc
def getM (cs:List Int) (ru:Bool) (dn:Int) (iq:List Int) (k:Int):Int:=if k=6 then Qdr cs ru dn iq else if k=8 then dn else cs.getD k.toNat 0
theorem QrH (hc:OkC cs) {k:Int} (hk:0≤k∧k≤10):F_bh ((r,pc,cs,ha,wa,ru,dn,iq,oq,()),k,())=some ((getM cs ru dn iq k,()),()):=by
 unfold F_bh getM;dsimp only;rw [QeJ hc,Obn];by_cases h6:k=6
 ·rw [if_pos (by simpa using h6),if_pos h6]
 rw [if_neg (by simpa using h6),if_neg h6]
 by_cases h8:k=8
 ·rw [if_pos (by simpa using h8),if_pos h8]
 rw [if_neg (by simpa using h8),if_neg h8,if_pos hk.1,Qs 0 (by rw [hc.len]; omega)]
theorem QqW (hc:OkC cs) {k:Int} (hk:0≤k∧k≤10):F_es ((r,pc,cs,ha,wa,ru,dn,iq,oq,()),k,())=some ((getM cs ru dn iq k,()),()):=by
 unfold F_es getM;dsimp only;rw [Qex hc,Obn];by_cases h6:k=6
 ·rw [if_pos (by simpa using h6),if_pos h6]
 rw [if_neg (by simpa using h6),if_neg h6]
 by_cases h8:k=8
 ·rw [if_pos (by simpa using h8),if_pos h8]
 rw [if_neg (by simpa using h8),if_neg h8,if_pos hk.1,Qs 0 (by rw [hc.len]; omega)]
theorem QqN (hc:OkC cs) {k:Int} (hk:0≤k∧k≤10) (hd:0≤dn∧dn≤1000000000):WW (getM cs ru dn iq k):=by
 unfold getM;have:=QgZ cs ru dn iq;split
 ·unfold WW; omega
 ·split
  ·unfold WW; omega
  ·exact hc.w (by omega)
def setC (cs:List Int) (k w:Int):List Int:=
 if k=0 then cs.set 0 (wd w % 4) else if k=7 then cs.set 7 (wd w % 8) else if k=10 then cs.set 10 (if wd w≤8 then wd w else 0) else if k=6∨k=8 then cs else cs.set k.toNat (wd w)
def setR (ru:Bool) (k w:Int):Bool:=if k=6∧2≤wd w % 4 then false else ru
theorem Quu (hc:OkC cs) {k w:Int} (hk:0≤k∧k≤10):OkC (setC cs k w):=by
 have h:=Qag w;have h':=h;unfold WW at h';unfold setC;split
 ·exact hc.set (by unfold WW; omega) (by decide) (fun _=>by omega) (fun e=>absurd e (by decide)) (fun e=>absurd e (by decide))
 split
 ·exact hc.set (by unfold WW; omega) (by decide) (fun e=>absurd e (by decide)) (fun _=>by omega) (fun e=>absurd e (by decide))
 split
 ·exact hc.set (by split; exact h; unfold WW; omega) (by decide) (fun e=>absurd e (by decide)) (fun e=>absurd e (by decide)) (fun _=>by split <;> omega)
 split
 ·exact hc
 ·exact hc.set h (by omega) (by omega) (by omega) (by omega)
theorem Qll (hc:OkC cs) {k:Int} (hk:0≤k∧k≤10) (w:Int):F_bc ((r,pc,cs,ha,wa,ru,dn,iq,oq,()),k,w,())=
  some ((),((r,pc,setC cs k w,ha,wa,setR ru k w,dn,iq,oq,()),())):=by
 have h:=Qag w;unfold WW at h;have hin:0≤k∧k< ((cs.length:Nat):Int):=by rw [hc.len]; omega
 have e1:cs[k.toNat]?=some (cs.getD k.toNat 0):=Qcp 0 (by rw [hc.len]; omega)
 unfold F_bc setC setR;dsimp only;rw [Qdv,Obn];dsimp only;generalize wd w=v at*;rw [Int.tmod_eq_emod_of_nonneg h.1,Int.tmod_eq_emod_of_nonneg h.1,e1];by_cases h0:k=0
 ·subst h0; simp [hc.len]
 by_cases h7:k=7
 ·subst h7; simp [hc.len]
 by_cases h10:k=10
 ·subst h10;by_cases h8:v≤8 <;> simp [hc.len,Qan,h8]
 by_cases h6:k=6
 ·subst h6;cases ru <;> by_cases h2:2≤v % 4 <;> simp [h2,QaH,Qan] <;> omega
 by_cases h8:k=8
 ·subst h8; simp
 have hk11:k< 11:=by omega
 simp [h0,h7,h10,h6,h8,hc.len,hk.1,hk11]
theorem Qhy (hc:OkC cs) {k:Int} (hk:0≤k∧k≤10) (w:Int):F_eo ((r,pc,cs,ha,wa,ru,dn,iq,oq,()),k,w,())=
  some ((),((r,pc,setC cs k w,ha,wa,setR ru k w,dn,iq,oq,()),())):=by
 have h:=Qag w;unfold WW at h;have hin:0≤k∧k< ((cs.length:Nat):Int):=by rw [hc.len]; omega
 have e1:cs[k.toNat]?=some (cs.getD k.toNat 0):=Qcp 0 (by rw [hc.len]; omega)
 unfold F_eo setC setR;dsimp only;rw [Qgs,Obn];dsimp only;generalize wd w=v at*;rw [Int.tmod_eq_emod_of_nonneg h.1,Int.tmod_eq_emod_of_nonneg h.1,e1];by_cases h0:k=0
 ·subst h0; simp [hc.len]
 by_cases h7:k=7
 ·subst h7; simp [hc.len]
 by_cases h10:k=10
 ·subst h10;by_cases h8:v≤8 <;> simp [hc.len,Qan,h8]
 by_cases h6:k=6
 ·subst h6;cases ru <;> by_cases h2:2≤v % 4 <;> simp [h2,QaH,Qan] <;> omega
 by_cases h8:k=8
 ·subst h8; simp
 have hk11:k< 11:=by omega
 simp [h0,h7,h10,h6,h8,hc.len,hk.1,hk11]
end
def mayP (p:TwoD) (kind:Int):Bool:=decide (0≤p.1) && !(iand .i64 p.2.1 kind==0)
def Qaf (l:List TwoD) (at_ kind:Int):Int:=
 if 0≤at_∧at_≤63 then (if mayP (l.getD (at_ / 8).toNat (-1,0,())) kind=true then (l.getD (at_ / 8).toNat (-1,0,())).1*8+at_ % 8 else -1) else -1
def QhU (kind:Int):Int:=if kind=1 then 7 else if kind=2 then 8 else 9
structure OkP (l:List TwoD):Prop where
 len:l.length=8
 pgs: ∀p∈l, -1≤p.1∧p.1≤23
theorem OkP.at {l:List TwoD} (h:OkP l) {k:Nat} (hk:k< 8): -1≤(l.getD k (-1,0,())).1∧(l.getD k (-1,0,())).1≤23:=h.pgs _ (Qat (by rw [h.len]; exact hk))
theorem OkL.p {l:List TwoD} {m:List Int} (h:OkL l m):OkP l:=⟨h.len,fun p hp=>(h.pgs p hp).1⟩
theorem QjU {l:List TwoD} (h:OkP l) (at_ kind:Int): -1≤Qaf l at_ kind∧Qaf l at_ kind≤191:=by
 unfold Qaf;split
 ·have:=h.at (k:=(at_ / 8).toNat) (by omega)
  split
  ·rename_i hm;simp only [mayP,Bool.and_eq_true,decide_eq_true_eq] at hm;omega
  ·omega
 ·omega
theorem Qpe (kind:Int):F_av (kind,())=some ((QhU kind,()),()):=by
 unfold F_av QhU;by_cases h1:kind=1
 ·simp [h1]
 ·by_cases h2:kind=2 <;> simp [h1,h2]
theorem Qot {kind:Int} (h:kind=1∨kind=2∨kind=4):F_ee (kind,())=some ((QhU kind,()),()):=by
 rcases h with rfl | rfl | rfl <;> rfl
theorem Qdg (kind:Int):QhU kind≠0:=by
 unfold QhU; repeat' split
 all_goals omega
theorem Qgz {l:List TwoD} (h:OkP l) (at_ kind:Int):F_ar (l,at_,kind,())=some ((Qaf l at_ kind,()),()):=by
 unfold F_ar Qaf;dsimp only;rw [Qcf,Obn];dsimp only;by_cases hin:0≤at_∧at_≤63
 ·rw [if_neg (by simp [hin.1,hin.2]),if_pos hin,Int.tdiv_eq_ediv_of_nonneg hin.1,Qy (by omega) (by omega),if_pos (by omega)]
  rw [Qs ((-1,0,()):TwoD) (by rw [h.len]; omega)]
  have hp:=h.at (k:=(at_ / 8).toNat) (by omega)
  generalize l.getD (at_ / 8).toNat (-1,0,())=p at*;unfold mayP;by_cases h0:0≤p.1
  ·rw [if_pos (QaR.2 (by omega))]
   by_cases hk:iand .i64 p.2.1 kind=0
   ·rw [if_pos (by simpa using hk),if_neg (by simp [hk])]
   ·rw [if_neg (by simpa using hk),if_pos (by simp [hk,h0]),Int.tmod_eq_emod_of_nonneg hin.1,Qy (n:=p.1*8) (by omega) (by omega),Qy (by omega) (by omega)]
  ·rw [if_neg (by rw [QaR]; omega),if_neg (by simp [h0])]
 ·rw [if_pos (by simp; omega),if_neg hin]
theorem Qjb {l:List TwoD} (h:OkP l) (at_:Int) {kind:Int} (hkd:kind=1∨kind=2∨kind=4):
  F_ef (l,at_,kind,())=some ((if Qaf l at_ kind< 0 then (QhU kind,0,()) else (0,Qaf l at_ kind,()),()),()):=by
 unfold F_ef F_ed Qaf;dsimp only;rw [Qbh,Obn,Obn,Qot hkd,Obn];dsimp only;by_cases hin:0≤at_∧at_≤63
 ·rw [if_pos (by simp [hin.1,hin.2]),if_pos hin,Int.tdiv_eq_ediv_of_nonneg hin.1,Qy (by omega) (by omega),if_pos (by omega)]
  rw [Qs ((-1,0,()):TwoD) (by rw [h.len]; omega),Qs ((-1,0,()):TwoD) (by rw [h.len]; omega),Qs ((-1,0,()):TwoD) (by rw [h.len]; omega)]
  have hp:=h.at (k:=(at_ / 8).toNat) (by omega)
  have h8:0≤at_ / 8:=by omega
  generalize l.getD (at_ / 8).toNat (-1,0,())=p at*;unfold mayP;by_cases h0:0≤p.1
  ·rw [if_pos (QaR.2 (by omega)),if_pos h8]
   by_cases hk:iand .i64 p.2.1 kind=0
   ·rw [if_pos (by simpa using hk),if_neg (c:=(decide (0≤p.1) && !(iand .i64 p.2.1 kind==0))=true) (by simp [hk]),if_pos (by decide)]
   ·rw [if_neg (by simpa using hk),if_pos h8,if_pos (c:=(decide (0≤p.1) && !(iand .i64 p.2.1 kind==0))=true) (by simp [hk,h0]),Int.tmod_eq_emod_of_nonneg hin.1,
     Qy (n:=p.1*8) (by omega) (by omega),Qy (by omega) (by omega),if_neg (by omega)]
  ·rw [if_neg (by rw [QaR]; omega),if_neg (c:=(decide (0≤p.1) && !(iand .i64 p.2.1 kind==0))=true) (by simp [h0]),if_pos (by decide)]
 ·rw [if_neg (by simp; omega),if_neg hin,if_pos (by decide)]
def entM (w:Int):TwoD:=if w % 8≠0∧w / 8< 8 then (w / 8,w % 8,()) else (-1,0,())
theorem QrG {w:Int} (h:WW w):F_as (w,())=some ((entM w,()),()):=by
 unfold WW at h;unfold F_as entM F_ai;dsimp only;rw [Int.tdiv_eq_ediv_of_nonneg h.1,Int.tmod_eq_emod_of_nonneg h.1,Qy (by omega) (by omega)]
 by_cases h1:w % 8=0
 ·simp [h1]
 ·by_cases h2:w / 8< 8
  ·have: ¬(8:Int)≤w / 8:=by omega
   simp [h1,h2,Qan,this]
  ·have:(8:Int)≤w / 8:=by omega
   simp [h1,h2,Qan,this]
theorem QqV {w:Int} (h:WW w):F_ea (w,())=some ((entM w,()),()):=by
 unfold WW at h;unfold F_ea entM F_dp;dsimp only;rw [Int.tdiv_eq_ediv_of_nonneg h.1,Int.tmod_eq_emod_of_nonneg h.1,Qy (by omega) (by omega)]
 by_cases h1:w % 8=0
 ·simp [h1]
 ·by_cases h2:w / 8< 8
  ·have: ¬(8:Int)≤w / 8:=by omega
   simp [h1,h2,Qan,this]
  ·have:(8:Int)≤w / 8:=by omega
   simp [h1,h2,Qan,this]
theorem QtP {w:Int} (h:WW w): -1≤(entM w).1∧(entM w).1≤7:=by
 unfold WW at h;unfold entM; split
 ·simp only; omega
 ·simp only; omega
theorem QfI {w:Int}:okW w=true↔WW w:=by unfold okW WW; simp
theorem Qao {m:List Int}:allW m=true↔ ∀w∈m,WW w:=by
 unfold allW; rw [List.all_eq_true]; exact ⟨fun h w hw=>QfI.1 (h w hw),fun h w hw=>QfI.2 (h w hw)⟩
theorem QjJ {α:Type} {l:List α} {i:Nat} (h:i< l.length):l.take (i+1)=l.take i++[l[i]]:=by rw [List.take_add_one,List.getElem?_eq_getElem h]; rfl
theorem Qiq {ws:List Int} (hl:ws.length=8) (hw: ∀w∈ws,WW w):F_at (ws,())=some (((0,ws.map entM,()),()),()):=by
 have key:=QgU (step:=l_at_5) (γ:=denO o_at_5) (fun k (s:List TwoD)=>((ws,(),(),((k:Nat):Int),()),((0,[],()),((0,s,()),())),())) 8 (Qbv (by omega)) (fun k s=>s=(ws.take k).map entM)
  (fun _ _=>some (.inl (((),(),()),(((0,[],()),((0,ws.map entM,()),())),())))) ?_ 0 [] (by omega) (by simp)
 ·unfold F_at;dsimp only;rw [if_neg (by rw [hl]; decide)]
  show (Qd l_at_5 lots ((ws,(),(),0,()),((0,[],()),((0,[],()),())),())).bind _=_;rw [show ((0:Int))=(((0:Nat):Nat):Int) from rfl] at*
  rw [key];rfl
 ·intro rec i s hi hs ih;unfold l_at_5;dsimp only;by_cases hlt:i< 8
  ·have hlw:i< ws.length:=by omega
   have hin:WW ws[i]:=hw _ (List.getElem_mem hlw);rw [if_pos (lt_t hlw),if_pos nat0,Qw hlw,Qcf,Obn];dsimp only;have hok:(decide (ws[i]≥0) && decide (ws[i]≤4294967295))=true:=QfI.2 hin;rw [if_neg (by rw [hok]; decide),if_pos nat0,Qw hlw,QrG hin,Obn]
   dsimp only;have hsl:s.length=i:=by rw [hs,List.length_map,List.length_take]; omega
   rw [if_pos (by rw [hsl]; simp; omega),Qaa (by omega)]
   exact ih _ hlt (by rw [hs,QjJ hlw,List.map_append]; rfl)
  ·have:i=8:=by omega
   subst this;rw [if_neg (by rw [hl]; decide)]
   have:s=ws.map entM:=by rw [hs,List.take_of_length_le (by omega)]
   rw [this]
theorem Qip {ws:List Int} (hl:ws.length=8) (hw: ∀w∈ws,WW w):F_eb (ws,())=some (((0,ws.map entM,()),()),()):=by
 have key:=QgU (step:=l_eb_7) (γ:=denO o_eb_7) (fun k (s:List TwoD)=>(((),s,ws,8,((k:Nat):Int),()),((0,[],()),()),())) 8 (Qbv (by omega)) (fun k s=>s=(ws.take k).map entM)
  (fun _ _=>some (.inl (((),ws.map entM,()),((0,[],()),()),()))) ?_ 0 [] (by omega) (by simp)
 ·unfold F_eb;dsimp only;rw [if_neg (by rw [hl]; decide),QbQ _ (by rw [hl,Qee]; omega),Obn]
  dsimp only;rw [Qao.2 hw,if_neg (by decide),hl]
  show (Qd l_eb_7 lots (((),[],ws,8,0,()),((0,[],()),()),())).bind _=_;rw [show ((0:Int))=(((0:Nat):Nat):Int) from rfl] at*
  rw [key];rfl
 ·intro rec i s hi hs ih;unfold l_eb_7;dsimp only;by_cases hlt:i< 8
  ·have hlw:i< ws.length:=by omega
   have hin:WW ws[i]:=hw _ (List.getElem_mem hlw);rw [if_pos (QD.2 (by omega)),if_pos nat0,Qw hlw,QqV hin,Obn]
   dsimp only;have hsl:s.length=i:=by rw [hs,List.length_map,List.length_take]; omega
   rw [if_pos (by rw [hsl]; simp; omega),Qaa (by omega)]
   exact ih _ hlt (by rw [hs,QjJ hlw,List.map_append]; rfl)
  ·have:i=8:=by omega
   subst this;rw [if_neg (by decide)]
   have:s=ws.map entM:=by rw [hs,List.take_of_length_le (by omega)]
   rw [this]
def idsM:List TwoD:=[(0,7,()),(1,7,()),(2,7,()),(3,7,()),(4,7,()),(5,7,()),(6,7,()),(7,7,())]
theorem Quv:L_au_5 ((([]:List TwoD),((0:Int),())),((),()))=some (.inl ((idsM,()),((),()))):=by kernel_rfl
theorem QtW:L_ec_5 (((),(([]:List TwoD),((0:Int),()))),((((0:Int),(([]:List TwoD),())),()),()))=some (.inl (((),(idsM,())),((((0:Int),(([]:List TwoD),())),()),()))):=by kernel_rfl
theorem QtU:OkP idsM:=⟨rfl,by decide⟩
def QbO (cs:List Int) (l:List TwoD) (m:List Int):Option (List TwoD):=
 if cs.getD 10 0=0 then some idsM else if cs.getD 10 0=8 then none
 else if Qaf l ((cs.getD 10 0-1)*8) 1< 0 then none else some (((m.drop (Qaf l ((cs.getD 10 0-1)*8) 1).toNat).take 8).map entM)
section
variable {r cs iq oq m:List Int} {pc dn ring fall:Int} {ha wa ru:Bool} {l:List TwoD}
theorem OkL.at {l:List TwoD} {m:List Int} (h:OkL l m) {k:Nat} (hk:k< 8):(-1≤(l.getD k (-1,0,())).1∧(l.getD k (-1,0,())).1≤23)∧8*(l.getD k (-1,0,())).1+8≤(m.length:Int):=by
 have:=h.pgs _ (Qat (l:=l) (k:=k) (d:=(-1,0,())) (by rw [h.len]; exact hk)); exact ⟨this.1,this.2.2⟩
theorem QjT (h:OkL l m) (at_ kind:Int) (h0:0≤Qaf l at_ kind):Qaf l at_ kind< (m.length:Int)∧(at_ % 8=0→Qaf l at_ kind+8≤(m.length:Int)):=by
 unfold Qaf at*;split at h0
 ·have:=h.at (k:=(at_ / 8).toNat) (by omega)
  rename_i hin;rw [if_pos hin];split at h0
  ·rename_i hm;rw [if_pos hm];omega
  ·omega
 ·omega
theorem Qgv (h:OkL l m) {f:Int} (h0:0≤f) (h1:f+8≤(m.length:Int)):((m.drop f.toNat).take 8).length=8∧ ∀w∈(m.drop f.toNat).take 8,WW w:=
 ⟨by rw [List.length_take,List.length_drop]; omega,fun w hw=>h.words w (List.mem_of_mem_drop (List.mem_of_mem_take hw))⟩
theorem QnM (hc:OkC cs) (h:OkL l m):F_au ((l,m,ring,(r,pc,cs,ha,wa,ru,dn,iq,oq,()),fall,()),())=
  some ((match QbO cs l m with | some s=>(s,true,()) | none=>([],false,())),()):=by
 have ht:=hc.w (k:=10) (by decide)
 have ht2:=hc.tb;unfold WW at ht;unfold F_au QbO;dsimp only;rw [Qs 0 (by rw [hc.len]; decide)]
 simp only [show ((10:Int)).toNat=10 from rfl]
 generalize cs.getD 10 0=t at*;by_cases h0:t=0
 ·subst h0;rw [if_pos (by decide),if_pos rfl]
  show (L_au_5 _).bind _=_;rw [Quv]; rfl
 ·rw [if_neg (by simpa using h0),if_neg h0,Qy (n:=t-1) (by omega) (by omega),Qy (n:=(t-1)*8) (by omega) (by omega),Qgz h.p,Obn]
  dsimp only;by_cases h8:t=8
  ·subst h8; rfl
  ·rw [if_pos (by simpa using h8),if_neg h8]
   have hin:=QjT h ((t-1)*8) 1;have hle:=QjU h.p ((t-1)*8) 1;generalize Qaf l ((t-1)*8) 1=f at*;by_cases hf:f< 0
   ·rw [if_pos (QD.2 hf),if_pos hf]
   ·have h2:=(hin (by omega)).2 (by omega)
    rw [if_neg (by rw [QD]; exact hf),if_neg hf,Qy (by omega) (by omega),if_pos (c:=(0:Int)≤f∧f≤f+8∧f+8≤((m.length:Nat):Int)) ⟨Int.not_lt.1 hf,by omega,h2⟩,show (f+8).toNat-f.toNat=8 by omega]
    have hp:=Qgv h (f:=f) (by omega) h2
    rw [Qiq hp.1 hp.2]; rfl
theorem Qnb (hc:OkC cs) (h:OkL l m):F_ec ((r,pc,cs,ha,wa,ru,dn,iq,oq,()),l,m,())=
  some ((match QbO cs l m with | some s=>(0,s,()) | none=>(7,[],()),()),()):=by
 have ht:=hc.w (k:=10) (by decide)
 have ht2:=hc.tb;unfold WW at ht;unfold F_ec QbO;dsimp only;rw [Qs 0 (by rw [hc.len]; decide)]
 simp only [show ((10:Int)).toNat=10 from rfl]
 generalize cs.getD 10 0=t at*;rw [Qy (n:=t-1) (by omega) (by omega)]
 by_cases h0:t=0
 ·subst h0;rw [if_pos (by decide),if_pos rfl]
  show (L_ec_5 _).bind _=_;rw [QtW]; rfl
 ·have ht1:0≤t-1:=by omega
  rw [if_neg (by rw [QD]; omega),if_neg h0,if_pos ht1]
  have hlen:(t-1).toNat< l.length:=by rw [h.len]; omega
  rw [Qs ((-1,0,()):TwoD) hlen,Qs ((-1,0,()):TwoD) hlen,Qs ((-1,0,()):TwoD) hlen];have hat:=h.at (k:=(t-1).toNat) (by omega)
  have hw:Qaf l ((t-1)*8) 1=if mayP (l.getD (t-1).toNat (-1,0,())) 1=true then (l.getD (t-1).toNat (-1,0,())).1*8 else -1:=by
   unfold Qaf;rw [if_pos (by omega),show (t-1)*8 / 8=t-1 by omega,show (t-1)*8 % 8=0 by omega,Int.add_zero]
  rw [hw];generalize l.getD (t-1).toNat (-1,0,())=p at*;unfold mayP;by_cases hp0:0≤p.1
  ·rw [if_pos (QaR.2 (by omega)),if_pos ht1]
   by_cases hk:iand .i64 p.2.1 1=0
   ·rw [if_neg (by simp [hk])]
    by_cases h8:t=8
    ·rw [if_pos h8]
    ·rw [if_neg h8,if_neg (c:=(decide (0≤p.1) && !(iand .i64 p.2.1 1==0))=true) (by simp [hk]),if_pos (by decide)]
   ·rw [if_pos (by simpa using hk)]
    by_cases h8:t=8
    ·subst h8; rfl
    ·have hne: ¬t-1=7:=by omega
     rw [if_neg (by simpa using hne),if_pos ht1,if_neg h8,if_pos (c:=(decide (0≤p.1) && !(iand .i64 p.2.1 1==0))=true) (by simp [hk,hp0]),if_neg (by omega)]
     have hpo:=Qrr m p.1.toNat (by omega) h.mlen
     rw [show ((p.1.toNat:Nat):Int)=p.1 by omega] at hpo
     rw [hpo,Obn];dsimp only;rw [show (p.1*8).toNat=8*p.1.toNat by omega]
     have hpw:=Qgv h (f:=p.1*8) (by omega) (by omega)
     rw [show (p.1*8).toNat=8*p.1.toNat by omega] at hpw
     rw [Qip hpw.1 hpw.2]; rfl
  ·rw [if_neg (by rw [QaR]; omega)]
   by_cases h8:t=8
   ·rw [if_pos h8]
   ·rw [if_neg h8,if_neg (c:=(decide (0≤p.1) && !(iand .i64 p.2.1 1==0))=true) (by simp [hp0]),if_pos (by decide)]
theorem Qli (hc:OkC cs) (h:OkL l m) {s:List TwoD} (hs:QbO cs l m=some s):OkP s∧ ∀p∈s,p.1≤7:=by
 have ht:=hc.w (k:=10) (by decide)
 have ht2:=hc.tb;unfold WW at ht;unfold QbO at hs;split at hs
 ·obtain rfl:=Osj hs; exact ⟨QtU,by decide⟩
 ·split at hs
  ·cases hs
  ·split at hs
   ·cases hs
   ·rename_i h8 hf;obtain rfl:=Osj hs;have h2:=(QjT h ((cs.getD 10 0-1)*8) 1 (by omega)).2 (by omega)
    have hp:=Qgv h (f:=Qaf l ((cs.getD 10 0-1)*8) 1) (by omega) h2
    have key: ∀p∈List.map entM (((m.drop (Qaf l ((cs.getD 10 0-1)*8) 1).toNat).take 8)), -1≤p.1∧p.1≤7:=by
     intro p hpm;obtain ⟨w,hw,rfl⟩:=List.mem_map.1 hpm;exact QtP (hp.2 w hw)
    exact ⟨⟨by rw [List.length_map]; exact hp.1,fun p hm=>⟨(key p hm).1,by have:=(key p hm).2; omega⟩⟩,fun p hm=>(key p hm).2⟩
def Qx (cs:List Int) (l:List TwoD) (m:List Int) (at_ kind:Int):Int×Int:=
 match QbO cs l m with
 | none=>(0,7)
 | some s=>if Qaf s at_ kind< 0 then (0,QhU kind) else if Qaf s at_ kind / 8=7 then (if kind=4 then (0,9) else (1000+Qaf s at_ kind % 8,0))
  else if Qaf l (Qaf s at_ kind) kind< 0 then (0,QhU kind) else (Qaf l (Qaf s at_ kind) kind,0)
theorem QbT (hc:OkC cs) (h:OkL l m) (at_:Int) (kind:Int) (h0:(Qx cs l m at_ kind).2=0):
  (1000≤(Qx cs l m at_ kind).1∧(Qx cs l m at_ kind).1≤1007∧kind≠4)∨(0≤(Qx cs l m at_ kind).1∧(Qx cs l m at_ kind).1< (m.length:Int)):=by
 unfold Qx at*;cases hs:QbO cs l m with
 | none=>rw [hs] at h0; simp at h0
 | some s=>
  rw [hs] at h0;simp only at h0⊢;split at h0
  ·exact absurd h0 (Qdg kind)
  ·rename_i h1;rw [if_neg h1];split at h0
   ·rename_i h7;rw [if_pos h7];split at h0
    ·simp at h0
    ·rename_i h4;rw [if_neg h4];left;simp only;omega
   ·rename_i h7;rw [if_neg h7];split at h0
    ·exact absurd h0 (Qdg kind)
    ·rename_i h2;rw [if_neg h2];right;exact ⟨by simp only; omega,(QjT h _ _ (by omega)).1⟩
theorem Qfv (hc:OkC cs) (h:OkL l m) (at_ kind:Int):F_aw ((l,m,ring,(r,pc,cs,ha,wa,ru,dn,iq,oq,()),fall,()),at_,kind,())=
  some (((Qx cs l m at_ kind).1,(Qx cs l m at_ kind).2,()),()):=by
 unfold F_aw Qx;dsimp only;rw [QnM hc h,Obn];cases hs:QbO cs l m with
 | none=>rfl
 | some s=>
  have hp:=(Qli hc h hs).1;dsimp only;rw [if_neg (by decide),Qgz hp,Obn,Qpe,Obn]
  dsimp only;have hle:=QjU hp at_ kind;generalize Qaf s at_ kind=g at*;by_cases hg:g< 0
  ·rw [if_pos (QD.2 hg),if_pos hg]
  ·rw [if_neg (by rw [QD]; exact hg),if_neg hg,Int.tdiv_eq_ediv_of_nonneg (by omega),Int.tmod_eq_emod_of_nonneg (by omega),Qy (n:=g / 8) (by omega) (by omega)]
   by_cases h7:g / 8=7
   ·rw [if_pos (by simpa using h7),if_pos h7]
    by_cases h4:kind=4
    ·rw [if_pos (by simpa using h4),if_pos h4]
    ·rw [if_neg (by simpa using h4),if_neg h4,Qy (by omega) (by omega)]
   ·rw [if_neg (by simpa using h7),if_neg h7,Qgz h.p,Obn]
    dsimp only;by_cases hf:Qaf l g kind< 0
    ·rw [if_pos (QD.2 hf),if_pos hf]
    ·rw [if_neg (by rw [QD]; exact hf),if_neg hf]
theorem Qfi (hc:OkC cs) (h:OkL l m) (at_:Int) {kind:Int} (hk:kind=1∨kind=2∨kind=4):F_eg ((r,pc,cs,ha,wa,ru,dn,iq,oq,()),l,m,at_,kind,())=
  some ((((Qx cs l m at_ kind).2,(Qx cs l m at_ kind).1,()),()),()):=by
 unfold F_eg Qx;dsimp only;rw [Qnb hc h,Obn];cases hs:QbO cs l m with
 | none=>rfl
 | some s=>
  have hp:=(Qli hc h hs).1;dsimp only;rw [if_neg (by decide),Qjb hp _ hk,Obn]
  dsimp only;have hle:=QjU hp at_ kind;have hcn:=Qdg kind;generalize Qaf s at_ kind=g at*;by_cases hg:g< 0
  ·rw [if_pos hg]; dsimp only; rw [if_pos (by simpa using hcn),if_pos hg]
  ·rw [if_neg hg]; dsimp only;rw [if_neg (by decide),if_neg hg,Int.tdiv_eq_ediv_of_nonneg (by omega),Int.tmod_eq_emod_of_nonneg (by omega),Qy (n:=g / 8) (by omega) (by omega)]
   by_cases h7:g / 8=7
   ·rw [if_neg (by simpa using h7),if_pos h7]
    by_cases h4:kind=4
    ·rw [if_pos (by simpa using h4),if_pos h4]
    ·rw [if_neg (by simpa using h4),if_neg h4,Qy (by omega) (by omega)]
   ·rw [if_pos (by simpa using h7),if_neg h7,Qjb h.p _ hk,Obn]
    by_cases hf:Qaf l g kind< 0
    ·rw [if_pos hf,if_pos hf]
    ·rw [if_neg hf,if_neg hf]
theorem QcQ {q:List Int} (h:q.length≤1048576):F_dg (q,())=some ((q,()),()):=by
 unfold F_dg;dsimp only;rw [if_pos (by simp; omega)]
 rfl
def Qfr (cs:List Int) (ru:Bool) (dn:Int) (iq:List Int) (k:Int):Int×List Int:=
 if k=1 then (iq.getD 0 0,iq.drop 1) else if k=2 then (dn,iq) else if k=3 then (cs.getD 9 0,iq) else if k=4 then (Qdr cs ru dn iq,iq) else if k=6 then ((iq.length:Int),iq) else (0,iq)
theorem Qpj (hc:OkC cs) (hq:OkQ iq) (k:Int):F_bb ((r,pc,cs,ha,wa,ru,dn,iq,oq,()),k,())=
  some (((Qfr cs ru dn iq k).1,()),((r,pc,cs,ha,wa,ru,dn,(Qfr cs ru dn iq k).2,oq,()),())):=by
 unfold F_bb Qfr;dsimp only;rw [QeJ hc,Obn];by_cases h1:k=1
 ·subst h1;rw [if_pos (by decide),if_pos rfl]
  cases iq with
  | nil=>rfl
  | cons w t=>
   rw [if_neg (by simp; omega)]
   simp only [show ((0:Int)).toNat=0 from rfl,show ((1:Int)).toNat=1 from rfl,List.getElem?_cons_zero,Obn]
   rw [if_pos (by simp; omega)]
   simp
 rw [if_neg (by simpa using h1),if_neg h1]
 by_cases h2:k=2
 ·subst h2; rfl
 rw [if_neg (by simpa using h2),if_neg h2]
 by_cases h3:k=3
 ·subst h3;rw [if_pos (by decide),if_pos rfl,if_pos (by rw [hc.len]; decide),Qs 0 (by rw [hc.len]; decide)]; rfl
 rw [if_neg (by simpa using h3),if_neg h3]
 by_cases h4:k=4
 ·subst h4; rfl
 rw [if_neg (by simpa using h4),if_neg h4]
 by_cases h6:k=6
 ·subst h6; rfl
 rw [if_neg (by simpa using h6),if_neg h6]
theorem Qox (hc:OkC cs) (hq:OkQ iq) (k:Int):F_em ((r,pc,cs,ha,wa,ru,dn,iq,oq,()),k,())=
  some (((Qfr cs ru dn iq k).1,()),((r,pc,cs,ha,wa,ru,dn,(Qfr cs ru dn iq k).2,oq,()),())):=by
 unfold F_em Qfr;dsimp only;rw [Qex hc,Obn];have hl:=hq.len;by_cases h1:k=1
 ·subst h1;rw [if_pos (by decide),if_pos rfl]
  cases iq with
  | nil=>rfl
  | cons w t=>
   have hlt:ltI 0 (((w::t).length:Nat):Int)=true:=QD.2 (by simp only [List.length_cons]; omega)
   rw [if_pos hlt,if_pos (by simp only [List.length_cons]; omega)]
   simp only [show ((0:Int)).toNat=0 from rfl,show ((1:Int)).toNat=1 from rfl,List.getElem?_cons_zero,Obn]
   rw [if_pos (by simp only [List.length_cons]; omega)]
   have e:((w::t).drop 1).take ((((w::t).length:Nat):Int).toNat-1)=t:=by simp
   rw [e,QcQ (by simp at hl; omega),Obn]
   rfl
 rw [if_neg (by simpa using h1),if_neg h1]
 by_cases h2:k=2
 ·subst h2; rfl
 rw [if_neg (by simpa using h2),if_neg h2]
 by_cases h3:k=3
 ·subst h3;rw [if_pos (by decide),if_pos rfl,if_pos (by rw [hc.len]; decide),Qs 0 (by rw [hc.len]; decide)]; rfl
 rw [if_neg (by simpa using h3),if_neg h3]
 by_cases h4:k=4
 ·subst h4; rfl
 rw [if_neg (by simpa using h4),if_neg h4]
 by_cases h6:k=6
 ·subst h6; rfl
 rw [if_neg (by simpa using h6),if_neg h6]
theorem Qto (hc:OkC cs) (hq:OkQ iq) (hd:0≤dn∧dn≤1000000000) (k:Int):WW (Qfr cs ru dn iq k).1∧OkQ (Qfr cs ru dn iq k).2:=by
 have hp:=QgZ cs ru dn iq;have hl:=hq.len;have h9:=hc.w (k:=9) (by decide)
 unfold Qfr
 repeat' split
 ·refine ⟨?_,⟨by simp only [List.length_drop]; omega,fun w hw=>hq.words w (List.mem_of_mem_drop hw)⟩⟩
  cases iq with
  | nil=>unfold WW; simp
  | cons w t=>exact hq.words w (by simp)
 all_goals refine ⟨?_,hq⟩
 ·unfold WW; simp only; omega
 ·exact h9
 ·unfold WW; simp only; omega
 ·unfold WW; simp only; omega
 ·unfold WW; simp
def Qik (k w:Int):Int:=if k=5 then wd w else -1
def wrC (cs:List Int) (k w:Int):List Int:=if k=3 then cs.set 9 (wd w) else cs
def wrR (ru:Bool) (k w:Int):Bool:=if k=4 then setR ru 6 (wd w) else ru
def wrO (oq:List Int) (k w:Int):List Int:=if k=0∧oq.length< 40 then oq++[wd w] else oq
theorem QuN (w:Int):setC cs 6 w=cs:=by unfold setC; simp
theorem QvF (w:Int):setC cs 9 w=cs.set 9 (wd w):=by unfold setC; simp
theorem QvG (w:Int):setR ru 9 w=ru:=by unfold setR; simp
theorem QnQ (hc:OkC cs) (hq:OkQ oq) (k w:Int):F_bd ((r,pc,cs,ha,wa,ru,dn,iq,oq,()),k,w,())=
  some ((Qik k w,()),((r,pc,wrC cs k w,ha,wa,wrR ru k w,dn,iq,wrO oq k w,()),())):=by
 unfold F_bd Qik wrC wrR wrO;dsimp only;rw [Qdv,Obn,Qll hc (by omega),Obn,QuN]
 dsimp only;have hl:=hq.len;by_cases h0:k=0
 ·subst h0;by_cases h40:oq.length< 40
  ·have:ltI ((oq.length:Nat):Int) 40=true:=QD.2 (by omega)
   rw [if_pos (by decide),if_pos this,if_pos (by simp; omega),if_neg (by decide),if_neg (by decide),if_neg (by decide),if_pos ⟨rfl,h40⟩]
  ·have: ¬ltI ((oq.length:Nat):Int) 40=true:=by rw [QD]; omega
   rw [if_pos (by decide),if_neg this,if_neg (by decide),if_neg (by decide),if_neg (by decide),if_neg (by omega)]
 rw [if_neg (by simpa using h0),if_neg (c:=k=0∧oq.length< 40) (by omega)]
 by_cases h3:k=3
 ·subst h3;rw [if_pos (by decide),if_pos (by rw [hc.len]; decide),Qs 0 (by rw [hc.len]; decide)]; rfl
 rw [if_neg (by simpa using h3),if_neg h3]
 by_cases h4:k=4
 ·subst h4; rfl
 rw [if_neg (by simpa using h4),if_neg h4]
 by_cases h5:k=5
 ·subst h5; rfl
 rw [if_neg (by simpa using h5),if_neg h5]
theorem Qne (hc:OkC cs) (hq:OkQ oq) (k w:Int):F_ep ((r,pc,cs,ha,wa,ru,dn,iq,oq,()),k,w,())=
  some ((Qik k w,()),((r,pc,wrC cs k w,ha,wa,wrR ru k w,dn,iq,wrO oq k w,()),())):=by
 have hl:=hq.len;unfold F_ep Qik wrC wrR wrO;dsimp only;rw [Qgs,Obn,QcQ (by omega),Obn]
 dsimp only;rw [Qhy hc (by omega),Obn,Qhy hc (by omega),Obn,QuN,QvF,QvG,QvI]
 by_cases h0:k=0
 ·subst h0;by_cases h40:oq.length< 40
  ·have:ltI ((oq.length:Nat):Int) 40=true:=QD.2 (by omega)
   rw [if_pos (by decide),if_pos this,if_pos (by simp; omega),if_neg (by decide),if_neg (by decide),if_neg (by decide),if_pos ⟨rfl,h40⟩]
  ·have: ¬ltI ((oq.length:Nat):Int) 40=true:=by rw [QD]; omega
   rw [if_pos (by decide),if_neg this,if_neg (by decide),if_neg (by decide),if_neg (by decide),if_neg (by omega)]
 rw [if_neg (by simpa using h0),if_neg (c:=k=0∧oq.length< 40) (by omega)]
 by_cases h3:k=3
 ·subst h3; rfl
 rw [if_neg (by simpa using h3),if_neg h3]
 by_cases h4:k=4
 ·subst h4; rfl
 rw [if_neg (by simpa using h4),if_neg h4]
 by_cases h5:k=5
 ·subst h5; rfl
 rw [if_neg (by simpa using h5),if_neg h5]
theorem Qvv (hc:OkC cs) (k w:Int):OkC (wrC cs k w):=by
 unfold wrC; split
 ·exact hc.set (Qag w) (by decide) (fun e=>absurd e (by decide)) (fun e=>absurd e (by decide)) (fun e=>absurd e (by decide))
 ·exact hc
theorem Qvw (hq:OkQ oq) (k w:Int):OkQ (wrO oq k w):=by
 unfold wrO; split
 ·rename_i h;refine ⟨by simp; omega,fun z hz=>?_⟩
  rcases List.mem_append.1 hz with hz | hz
  ·exact hq.words z hz
  ·rw [List.mem_singleton.1 hz]; exact Qag w
 ·exact hq
def badI (op d a i:Int):Bool:=
 if op≤11 then decide (15< i) else if op=13∨op=19 then decide (a≠0) else if op=21 then decide (10< i∨a≠0) else if op=22 then decide (10< i∨d≠0)
 else if 23≤op then decide (d≠0∨a≠0∨i≠0) else false
def insM (op d a i:Int):Int:=
 if (1≤op∧op≤26)∧(0≤d∧d≤15)∧(0≤a∧a≤15)∧(0≤i∧i≤65535) then (if badI op d a i=true then 1 else 0) else 3
theorem QqX (op d a i:Int):F_eh ((op,d,a,i,()),())=some ((insM op d a i,()),()):=by
 unfold F_eh insM;dsimp only;rw [Qbh,Obn,Qbh,Obn,Qbh,Obn,Qbh,Obn];dsimp only;by_cases h1:1≤op∧op≤26
 ·by_cases h2:0≤d∧d≤15
  ·by_cases h3:0≤a∧a≤15
   ·by_cases h4:0≤i∧i≤65535
    ·rw [if_pos (c:=(1≤op∧op≤26)∧(0≤d∧d≤15)∧(0≤a∧a≤15)∧(0≤i∧i≤65535)) ⟨h1,h2,h3,h4⟩,if_pos (by simp [h1]),if_pos (by simp [h2]),if_pos (by simp [h3]),if_neg (by simp [h4])]
     unfold badI;simp only [Qan,QaH,beq_iff_eq,bne_iff_ne,decide_eq_true_eq,decide_eq_false_iff_not,Bool.not_eq_true,bne_eq_false_iff_eq,ne_eq]
     repeat' split
     all_goals first | rfl | (exfalso; simp_all; done) | (exfalso; simp_all; omega) | (exfalso; omega)
    ·rw [if_neg (c:=(1≤op∧op≤26)∧(0≤d∧d≤15)∧(0≤a∧a≤15)∧(0≤i∧i≤65535)) (by omega),if_pos (by simp [h1]),if_pos (by simp [h2]),if_pos (by simp [h3]),if_pos (by simp; omega)]
   ·rw [if_neg (c:=(1≤op∧op≤26)∧(0≤d∧d≤15)∧(0≤a∧a≤15)∧(0≤i∧i≤65535)) (by omega),if_pos (by simp [h1]),if_pos (by simp [h2]),if_neg (by simp; omega)]
  ·rw [if_neg (c:=(1≤op∧op≤26)∧(0≤d∧d≤15)∧(0≤a∧a≤15)∧(0≤i∧i≤65535)) (by omega),if_pos (by simp [h1]),if_neg (by simp; omega)]
 ·rw [if_neg (c:=(1≤op∧op≤26)∧(0≤d∧d≤15)∧(0≤a∧a≤15)∧(0≤i∧i≤65535)) (by omega),if_neg (by simp; omega)]
def QmC (op:Int):Bool:=decide (op=22∨23≤op)
def QmB (op:Int):Bool:=decide (op=13∨op=19∨op=21∨23≤op)
def QmD (op:Int):Bool:=decide (23≤op)
theorem Qpb {op:Int} (h:op≤26):F_n (op,())=some ((QmC op,QmB op,QmD op,()),()):=by
 have hc:op=13∨op=19∨op=21∨op=22∨op=23∨op=24∨op=25∨op=26∨(¬op=13∧ ¬op=19∧ ¬op=21∧ ¬op=22∧ ¬op=23∧ ¬op=24∧ ¬op=25∧ ¬op=26):=by omega
 rcases hc with rfl | rfl | rfl | rfl | rfl | rfl | rfl | rfl | ⟨n1,n2,n3,n4,n5,n6,n7,n8⟩
 iterate 8 rfl
 have e3: ¬23≤op:=by omega
 unfold F_n QmC QmB QmD;simp [n1,n2,n3,n4,n5,n6,n7,n8,e3]
theorem QrI (op d a i:Int):F_q ((op,d,a,i,()),())=some ((insM op d a i,()),()):=by
 unfold F_q insM;dsimp only;rw [Qcf,Obn,Qcf,Obn,Qcf,Obn,Qcf,Obn];dsimp only;by_cases h1:1≤op∧op≤26
 ·by_cases h2:0≤d∧d≤15
  ·by_cases h3:0≤a∧a≤15
   ·by_cases h4:0≤i∧i≤65535
    ·rw [if_pos (c:=(1≤op∧op≤26)∧(0≤d∧d≤15)∧(0≤a∧a≤15)∧(0≤i∧i≤65535)) ⟨h1,h2,h3,h4⟩,if_pos (by simp [h1]),if_pos (by simp [h2]),if_pos (by simp [h3]),if_neg (by simp [h4]),Qpb h1.2,Obn]
     unfold badI;dsimp only
     have hb:(QmC op=true↔(op=22∨23≤op))∧(QmB op=true↔(op=13∨op=19∨op=21∨23≤op))∧(QmD op=true↔23≤op):=by
      unfold QmC QmB QmD; simp
     generalize QmC op=bd at*;generalize QmB op=ba at*;generalize QmD op=bi at*;by_cases c1:op≤11
     ·have q1:bd=false:=by rw [Bool.eq_false_iff]; intro e; have:=hb.1.1 e; omega
      have q2:ba=false:=by rw [Bool.eq_false_iff]; intro e; have:=hb.2.1.1 e; omega
      have q3:bi=false:=by rw [Bool.eq_false_iff]; intro e; have:=hb.2.2.1 e; omega
      have n1: ¬op=21:=by omega
      have n2: ¬op=22:=by omega
      by_cases hi:15< i <;> simp [q1,q2,q3,c1,hi,Qan,QaH,n1,n2]
     ·by_cases c2:23≤op
      ·have q1:bd=true:=hb.1.2 (.inr c2);have q2:ba=true:=hb.2.1.2 (.inr (.inr (.inr c2)));have q3:bi=true:=hb.2.2.2 c2;have n1: ¬op=21:=by omega
       have n2: ¬op=22:=by omega
       have n3: ¬op=13:=by omega
       have n4: ¬op=19:=by omega
       by_cases hd:d=0 <;> by_cases ha':a=0 <;> by_cases hi:i=0 <;> simp [q1,q2,q3,c1,c2,hd,ha',hi,Qan,QaH,n1,n2,n3,n4]
      ·have q3:bi=false:=by rw [Bool.eq_false_iff]; intro e; have:=hb.2.2.1 e; omega
       by_cases c3:op=22
       ·have q1:bd=true:=hb.1.2 (.inl c3);have q2:ba=false:=by rw [Bool.eq_false_iff]; intro e; have:=hb.2.1.1 e; omega
        subst c3;by_cases hd:d=0 <;> by_cases hi:10< i <;> simp [q1,q2,q3,hd,hi,Qan,QaH]
       ·have q1:bd=false:=by rw [Bool.eq_false_iff]; intro e; have:=hb.1.1 e; omega
        by_cases c4:op=21
        ·have q2:ba=true:=hb.2.1.2 (by omega)
         subst c4;by_cases ha':a=0 <;> by_cases hi:10< i <;> simp [q1,q2,q3,ha',hi,Qan,QaH]
        ·by_cases c5:op=13∨op=19
         ·have q2:ba=true:=hb.2.1.2 (by omega)
          by_cases ha':a=0 <;> simp [q1,q2,q3,ha',c1,c3,c4,c5,Qan,QaH]
         ·have q2:ba=false:=by rw [Bool.eq_false_iff]; intro e; have:=hb.2.1.1 e; omega
          simp [q1,q2,q3,c1,c2,c3,c4,c5,Qan,QaH]
    ·rw [if_neg (c:=(1≤op∧op≤26)∧(0≤d∧d≤15)∧(0≤a∧a≤15)∧(0≤i∧i≤65535)) (by omega),if_pos (by simp [h1]),if_pos (by simp [h2]),if_pos (by simp [h3]),if_pos (by simp; omega)]
   ·rw [if_neg (c:=(1≤op∧op≤26)∧(0≤d∧d≤15)∧(0≤a∧a≤15)∧(0≤i∧i≤65535)) (by omega),if_pos (by simp [h1]),if_pos (by simp [h2]),if_neg (by simp; omega)]
  ·rw [if_neg (c:=(1≤op∧op≤26)∧(0≤d∧d≤15)∧(0≤a∧a≤15)∧(0≤i∧i≤65535)) (by omega),if_pos (by simp [h1]),if_neg (by simp; omega)]
 ·rw [if_neg (c:=(1≤op∧op≤26)∧(0≤d∧d≤15)∧(0≤a∧a≤15)∧(0≤i∧i≤65535)) (by omega),if_neg (by simp; omega)]
abbrev InsW:=Int×Int×Int×Int×Unit
def decM (w:Int):InsW:=(w / 16777216,w / 1048576 % 16,w / 65536 % 16,w % 65536,())
def decF (w:Int):Int:=insM (decM w).1 (decM w).2.1 (decM w).2.2.1 (decM w).2.2.2.1
theorem QrD {w:Int} (h:WW w):F_ax (w,())=some ((decM w,decide (decF w=0),()),()):=by
 unfold F_ax;dsimp only;rw [Qcf,Obn];dsimp only;have hok:(decide (w≥0) && decide (w≤4294967295))=true:=QfI.2 h;rw [if_neg (by rw [hok]; decide),QpR,QpR,QoG,QcC h.1,QcC h.1,QcC h.1,QrI,Obn]
 rfl
theorem QqS {w:Int} (h:WW w):F_ei (w,())=some ((if decF w=0 then (0,decM w,()) else (5,(0,0,0,0,()),()),()),()):=by
 unfold F_ei;dsimp only;rw [QpR,QpR,QoG,QcC h.1,QcC h.1,QcC h.1,QqX,Obn];dsimp only;have e:insM (w / 2 ^ 24) (w / 2 ^ 20 % 16) (w / 2 ^ 16 % 16) (w % 65536)=decF w:=rfl;rw [e];by_cases h0:decF w=0
 ·rw [if_neg (by simpa using h0),if_pos h0]; rfl
 ·rw [if_pos (by simpa using h0),if_neg h0]
theorem QtO {w:Int} (h:decF w=0):(1≤(decM w).1∧(decM w).1≤26)∧(0≤(decM w).2.1∧(decM w).2.1≤15)∧(0≤(decM w).2.2.1∧(decM w).2.2.1≤15)∧(0≤(decM w).2.2.2.1∧(decM w).2.2.2.1≤65535)∧
  ((decM w).1≤11→(decM w).2.2.2.1≤15)∧((decM w).1=21∨(decM w).1=22→(decM w).2.2.2.1≤10):=by
 unfold decF insM at h;generalize decM w=x at*;obtain ⟨op,d,a,i,_⟩:=x;simp only at*;split at h
 ·rename_i hin;split at h
  ·omega
  ·rename_i hb;refine ⟨hin.1,hin.2.1,hin.2.2.1,hin.2.2.2,fun h11=>?_,fun h2=>?_⟩
   ·unfold badI at hb;rw [if_pos h11] at hb;simpa using hb
   ·unfold badI at hb;rw [if_neg (by omega),if_neg (by omega)] at hb
    rcases h2 with h2 | h2
    ·rw [if_pos h2] at hb; simp at hb; omega
    ·rw [if_neg (by omega),if_pos h2] at hb; simp at hb; omega
 ·omega
end
structure Mc where
 r:List Int
 pc:Int
 cs:List Int
 ha:Bool
 wa:Bool
 ru:Bool
 dn:Int
 iq:List Int
 oq:List Int
 m:List Int
 ring:Int
 fall:Int
abbrev BusD:=List TwoD×List Int×Int×List Int×Int×List Int×Bool×Bool×Bool×Int×List Int×List Int×Int×Unit
abbrev QuC:=List Int×Int×List Int×Bool×Bool×Bool×Int×List Int×List Int×List TwoD×List Int×Int×Int×Unit
def Mc.bus (s:Mc) (l:List TwoD):BusD:=(l,s.m,s.ring,s.r,s.pc,s.cs,s.ha,s.wa,s.ru,s.dn,s.iq,s.oq,s.fall,())
def Mc.core (s:Mc) (l:List TwoD):QuC:=(s.r,s.pc,s.cs,s.ha,s.wa,s.ru,s.dn,s.iq,s.oq,l,s.m,s.fall,s.ring,())
def Mc.trap (s:Mc) (cause tval:Int):Mc:={ s with pc:=s.cs.getD 1 0,cs:=Qgh s.cs s.pc cause tval,wa:=false,fall:=cause }
structure OkS (s:Mc) (l:List TwoD):Prop where
 r:OkR s.r
 pc:WW s.pc
 c:OkC s.cs
 i:OkQ s.iq
 o:OkQ s.oq
 d:0≤s.dn∧s.dn≤1000000000
 l:OkL l s.m
section
variable {r cs iq oq m:List Int} {pc dn ring fall:Int} {ha wa ru:Bool} {l:List TwoD} {s:Mc}
theorem QfR (h:OkS s l) {cause tval:Int} (h1:WW cause) (h2:WW tval):OkS (s.trap cause tval) l:=
 ⟨h.r,h.c.w (by decide),Qtz h.c h.pc h1 h2,h.i,h.o,h.d,h.l⟩
theorem Qcu (hc:OkC cs) (cause tval:Int):F_aq ((l,m,ring,r,pc,cs,ha,wa,ru,dn,iq,oq,fall,()),cause,tval,())=
  some ((),((l,m,ring,r,cs.getD 1 0,Qgh cs pc cause tval,ha,false,ru,dn,iq,oq,cause,()),())):=by
 unfold F_aq;dsimp only;rw [QjC hc,Obn]
theorem Qcq (hc:OkC cs) (cause tval:Int):F_dy ((r,pc,cs,ha,wa,ru,dn,iq,oq,l,m,fall,ring,()),cause,tval,())=
  some ((),((r,cs.getD 1 0,Qgh cs pc cause tval,ha,false,ru,dn,iq,oq,l,m,cause,ring,()),())):=by
 unfold F_dy;dsimp only;rw [QoA hc,Obn]
def Qdx (op d a:Int):Bool:=if op=16 then decide (d=a) else if op=17 then decide (d≠a) else decide (sg d< sg a)
def exM (s:Mc) (l:List TwoD) (op d a i:Int):Bool×Int×Int×Mc:=
 let next:=addW s.pc 1
 let far:=addW s.pc (off i)
 let rd:=s.r.getD d.toNat 0
 let ra:=s.r.getD a.toNat 0
 let p:=addW ra (off i)
 if op=12 then (true,next,p,s)
 else if op=13 then (true,next,i*65536,s)
 else if op=14 then
  (if (Qx s.cs l s.m p 1).2≠0 then (false,0,0,s.trap 3 p)
   else if 1000≤(Qx s.cs l s.m p 1).1 then (true,next,(Qfr s.cs s.ru s.dn s.iq ((Qx s.cs l s.m p 1).1-1000)).1,{ s with iq:=(Qfr s.cs s.ru s.dn s.iq ((Qx s.cs l s.m p 1).1-1000)).2 })
   else (true,next,s.m.getD (Qx s.cs l s.m p 1).1.toNat 0,s))
 else if op=15 then
  (if (Qx s.cs l s.m p 2).2≠0 then (false,0,0,s.trap 4 p)
   else if 1000≤(Qx s.cs l s.m p 2).1 then (true,next,0,{ s with ring:=Qik ((Qx s.cs l s.m p 2).1-1000) rd,cs:=wrC s.cs ((Qx s.cs l s.m p 2).1-1000) rd,ru:=wrR s.ru ((Qx s.cs l s.m p 2).1-1000) rd,oq:=wrO s.oq ((Qx s.cs l s.m p 2).1-1000) rd })
   else (true,next,0,{ s with m:=s.m.set (Qx s.cs l s.m p 2).1.toNat rd }))
 else if op=16∨op=17∨op=18 then (true,if Qdx op rd ra=true then far else next,0,s)
 else if op=19 then (true,far,next,s)
 else if op=20 then (true,p,next,s)
 else if op=21 then (true,next,getM s.cs s.ru s.dn s.iq i,s)
 else if op=22 then (true,next,0,{ s with cs:=setC s.cs i ra,ru:=setR s.ru i ra })
 else if op=23 then (false,0,0,s.trap 5 0)
 else if op=24 then (true,s.cs.getD 2 0,0,{ s with pc:=s.cs.getD 2 0,cs:=QiG s.cs })
 else if op=25 then (true,next,0,{ s with wa:=true })
 else if op=26 then (true,s.pc,0,{ s with ha:=true })
 else (true,next,aluW op ra (s.r.getD i.toNat 0),s)
def wrD (op:Int):Bool:=decide ((1≤op∧op≤14)∨(19≤op∧op≤21))
def doM (s:Mc) (l:List TwoD) (op d a i:Int):Bool×Mc:=
 let e:=exM s l op d a i
 if e.1=true then (true,{ e.2.2.2 with pc:=e.2.1,r:=if wrD op=true∧0< d then e.2.2.2.r.set d.toNat e.2.2.1 else e.2.2.2.r }) else (false,e.2.2.2)
structure OkI (op d a i:Int):Prop where
 hop:1≤op∧op≤26
 hd:0≤d∧d≤15
 ha:0≤a∧a≤15
 hi:0≤i∧i≤65535
 i11:op≤11→i≤15
 i21:op=21∨op=22→i≤10
theorem Qek (hr:OkR r) {d:Int} (hd:0≤d∧d≤15) (w:Int):F_ba ((l,m,ring,r,pc,cs,ha,wa,ru,dn,iq,oq,fall,()),d,w,())=
  some ((),((l,m,ring,if 0< d then r.set d.toNat w else r,pc,cs,ha,wa,ru,dn,iq,oq,fall,()),())):=by
 unfold F_ba;dsimp only;by_cases h0:d=0
 ·subst h0; rfl
 ·have hin:0≤d∧d< ((r.length:Nat):Int):=by rw [hr.len]; omega
  rw [if_pos (by simpa using h0),if_pos hin,Qs 0 (by rw [hr.len]; omega),if_pos (c:=0< d) (by omega)]
theorem QnO (hr:OkR r) {op d a i:Int} (hd:0≤d∧d≤15) (hA:0≤a∧a≤15):F_bg ((r,pc,cs,ha,wa,ru,dn,iq,oq,()),(op,d,a,i,()),())=
  some ((Qdx op (r.getD d.toNat 0) (r.getD a.toNat 0),()),()):=by
 unfold F_bg Qdx;dsimp only;rw [if_pos hd.1,Qs 0 (by rw [hr.len]; omega),if_pos hA.1,Qs 0 (by rw [hr.len]; omega),QeK,Obn,QeK,Obn]
 by_cases h16:op=16
 ·subst h16; rfl
 rw [if_neg (by simpa using h16),if_neg h16]
 by_cases h17:op=17
 ·subst h17;rw [if_pos (by decide),if_pos rfl]
  generalize r.getD d.toNat 0=x;generalize r.getD a.toNat 0=y;by_cases e:x=y <;> simp [e]
 rw [if_neg (by simpa using h17),if_neg h17,QaH]
theorem QsB {i:Int} (h:0≤i∧i≤65535):IntKind.i64.wrap (i*65536)=i*65536:=Qy (by omega) (by omega)
theorem QrJ (h:OkS s l) {op d a i:Int} (hi:OkI op d a i) (hop:op=14∨op=15) {e:Bool×Int×Int×Mc} (he:exM s l op d a i=e):F_be (s.bus l,(op,d,a,i,()),())=
  some ((e.1,()),(({ e.2.2.2 with r:=if e.1=true∧op=14∧0< d then e.2.2.2.r.set d.toNat e.2.2.1 else e.2.2.2.r }).bus l,())):=by
 obtain ⟨r,pc,cs,ha,wa,ru,dn,iq,oq,m,ring,fall⟩:=s;obtain ⟨hr,hpc,hc,hiq,hoq,hdn,hl⟩:=h;have hd:=hi.hd;have ha':=hi.ha;unfold F_be Mc.bus;unfold exM Mc.trap at he;dsimp only at*;have hda:a.toNat< r.length:=by rw [hr.len]; omega
 have hdd:d.toNat< r.length:=by rw [hr.len]; omega
 have hia:0≤a∧a< ((r.length:Nat):Int):=by rw [hr.len]; omega
 have hid:0≤d∧d< ((r.length:Nat):Int):=by rw [hr.len]; omega
 rw [if_pos hia,Qs 0 hda,Qlj,Obn];dsimp only;rw [Qdb,Obn];dsimp only;rcases hop with rfl | rfl
 ·rw [if_neg (by decide),if_neg (by decide),if_pos rfl] at he
  rw [if_neg (by decide),Qfv hc hl,Obn]
  dsimp only;have hin:=QbT hc hl (addW (r.getD a.toNat 0) (off i)) 1;generalize Qx cs l m (addW (r.getD a.toNat 0) (off i)) 1=q at*;by_cases h0:q.2=0
  ·rw [if_neg (by simpa using h0)] at he
   rw [if_neg (by simpa using h0),if_pos (by decide)]
   by_cases hq:1000≤q.1
   ·have hle:q.1≤1007:=by have:=hl.mlen; rcases hin h0 with h | h <;> omega
    rw [if_pos hq] at he;subst he;rw [if_pos (Qba.2 hq),Qy (by omega) (by omega),Qpj hc hiq,Obn]
    dsimp only;rw [Qek hr hd,Obn];simp
   ·have hlt:0≤q.1∧q.1< ((m.length:Nat):Int):=by rcases hin h0 with h | h; omega; exact h
    rw [if_neg hq] at he;subst he;rw [if_neg (by rw [Qba]; exact hq),if_pos (by decide),if_pos hlt,Qs 0 (by omega),Qek hr hd,Obn]
    simp
  ·rw [if_pos h0] at he;subst he;rw [if_pos (by simpa using h0),Qcu hc,Obn]
   simp
 ·rw [if_neg (by decide),if_neg (by decide),if_neg (by decide),if_pos rfl] at he
  rw [if_pos (by decide),Qfv hc hl,Obn]
  dsimp only;have hin:=QbT hc hl (addW (r.getD a.toNat 0) (off i)) 2;generalize Qx cs l m (addW (r.getD a.toNat 0) (off i)) 2=q at*;by_cases h0:q.2=0
  ·rw [if_neg (by simpa using h0)] at he
   rw [if_neg (by simpa using h0),if_neg (by decide),if_neg (by decide)]
   by_cases hq:1000≤q.1
   ·have hle:q.1≤1007:=by have:=hl.mlen; rcases hin h0 with h | h <;> omega
    rw [if_pos hq] at he;subst he;rw [if_pos (Qba.2 hq),Qy (by omega) (by omega),if_pos hid,Qs 0 hdd,QnQ hc hoq,Obn]
    simp
   ·have hlt:0≤q.1∧q.1< ((m.length:Nat):Int):=by rcases hin h0 with h | h; omega; exact h
    rw [if_neg hq] at he;subst he;rw [if_neg (by rw [Qba]; exact hq),if_pos hid,Qs 0 hdd,if_pos hlt,Qs 0 (by omega)]
    simp
  ·rw [if_pos h0] at he;subst he;rw [if_pos (by simpa using h0),Qcu hc,Obn]
   simp
end
section
variable {l:List TwoD} {s:Mc}
theorem Qtv (h:OkS s l) {op d a i:Int} (hi:OkI op d a i) {e:Bool×Mc} (he:doM s l op d a i=e):F_bp (s.bus l,(op,d,a,i,()),())=some ((e.1,()),(e.2.bus l,())):=by
 have hmem:=QrJ h hi;obtain ⟨r,pc,cs,ha,wa,ru,dn,iq,oq,m,ring,fall⟩:=s;obtain ⟨hr,hpc,hc,hiq,hoq,hdn,hl⟩:=h;have hd:=hi.hd;have ha':=hi.ha;unfold doM at he;unfold F_bp;unfold Mc.bus at hmem⊢;dsimp only at*;have hda:a.toNat< r.length:=by rw [hr.len]; omega
 have hia:0≤a∧a< ((r.length:Nat):Int):=by rw [hr.len]; omega
 rw [Qdb,Obn];dsimp only;rw [Qlj,Obn];dsimp only;rw [Qdb,Obn];dsimp only;by_cases h12:op=12
 ·subst h12;rw [show exM ⟨r,pc,cs,ha,wa,ru,dn,iq,oq,m,ring,fall⟩ l 12 d a i=(true,addW pc 1,addW (r.getD a.toNat 0) (off i),⟨r,pc,cs,ha,wa,ru,dn,iq,oq,m,ring,fall⟩) from rfl] at he
  subst he;rw [if_pos (by decide),if_pos hia,Qs 0 hda,Obn]
  dsimp only;rw [Qdb,Obn];dsimp only;rw [Qek hr hd,Obn];simp [wrD]
 rw [if_neg (by simpa using h12)]
 by_cases h13:op=13
 ·subst h13;rw [show exM ⟨r,pc,cs,ha,wa,ru,dn,iq,oq,m,ring,fall⟩ l 13 d a i=(true,addW pc 1,i*65536,⟨r,pc,cs,ha,wa,ru,dn,iq,oq,m,ring,fall⟩) from rfl] at he
  subst he;rw [if_pos (by decide),QsB hi.hi,Qek hr hd,Obn]
  simp [wrD]
 rw [if_neg (by simpa using h13)]
 by_cases h14:op=14
 ·subst h14;rw [if_pos (by decide),hmem (.inl rfl) rfl,Obn]
  generalize hx:exM ⟨r,pc,cs,ha,wa,ru,dn,iq,oq,m,ring,fall⟩ l 14 d a i=x at*
  have hn:x.1=true→x.2.1=addW pc 1:=by
   rw [←hx]; unfold exM; dsimp only;rw [if_neg (by decide),if_neg (by decide),if_pos rfl]
   repeat' split
   all_goals simp
  obtain ⟨b,nx,rs,s1⟩:=x;cases b
  ·subst he; simp
  ·subst he;simp only at hn;simp [wrD,hn]
 rw [if_neg (by simpa using h14)]
 by_cases h15:op=15
 ·subst h15;rw [if_pos (by decide),hmem (.inr rfl) rfl,Obn]
  generalize hx:exM ⟨r,pc,cs,ha,wa,ru,dn,iq,oq,m,ring,fall⟩ l 15 d a i=x at*
  have hn:x.1=true→x.2.1=addW pc 1:=by
   rw [←hx]; unfold exM; dsimp only;rw [if_neg (by decide),if_neg (by decide),if_neg (by decide),if_pos rfl]
   repeat' split
   all_goals simp
  obtain ⟨b,nx,rs,s1⟩:=x;cases b
  ·subst he; simp
  ·subst he;simp only at hn;simp [wrD,hn]
 rw [if_neg (by simpa using h15)]
 have hex:exM ⟨r,pc,cs,ha,wa,ru,dn,iq,oq,m,ring,fall⟩ l op d a i=
   (if op=16∨op=17∨op=18 then (true,if Qdx op (r.getD d.toNat 0) (r.getD a.toNat 0)=true then addW pc (off i) else addW pc 1,0,⟨r,pc,cs,ha,wa,ru,dn,iq,oq,m,ring,fall⟩)
   else if op=19 then (true,addW pc (off i),addW pc 1,⟨r,pc,cs,ha,wa,ru,dn,iq,oq,m,ring,fall⟩)
   else if op=20 then (true,addW (r.getD a.toNat 0) (off i),addW pc 1,⟨r,pc,cs,ha,wa,ru,dn,iq,oq,m,ring,fall⟩)
   else if op=21 then (true,addW pc 1,getM cs ru dn iq i,⟨r,pc,cs,ha,wa,ru,dn,iq,oq,m,ring,fall⟩)
   else if op=22 then (true,addW pc 1,0,⟨r,pc,setC cs i (r.getD a.toNat 0),ha,wa,setR ru i (r.getD a.toNat 0),dn,iq,oq,m,ring,fall⟩)
   else if op=23 then (false,0,0,⟨r,cs.getD 1 0,Qgh cs pc 5 0,ha,false,ru,dn,iq,oq,m,ring,5⟩)
   else if op=24 then (true,cs.getD 2 0,0,⟨r,cs.getD 2 0,QiG cs,ha,wa,ru,dn,iq,oq,m,ring,fall⟩)
   else if op=25 then (true,addW pc 1,0,⟨r,pc,cs,ha,true,ru,dn,iq,oq,m,ring,fall⟩)
   else if op=26 then (true,pc,0,⟨r,pc,cs,true,wa,ru,dn,iq,oq,m,ring,fall⟩)
   else (true,addW pc 1,aluW op (r.getD a.toNat 0) (r.getD i.toNat 0),⟨r,pc,cs,ha,wa,ru,dn,iq,oq,m,ring,fall⟩)):=by
  unfold exM Mc.trap;dsimp only;rw [if_neg h12,if_neg h13,if_neg h14,if_neg h15]
 clear hmem;have htk:=fun o=>QnO (pc:=pc) (cs:=cs) (ha:=ha) (wa:=wa) (ru:=ru) (dn:=dn) (iq:=iq) (oq:=oq) hr (op:=o) (i:=i) hd ha'
 have hput:=fun pc cs ha wa ru w=>Qek (l:=l) (m:=m) (ring:=ring) (pc:=pc) (cs:=cs) (ha:=ha) (wa:=wa) (ru:=ru) (dn:=dn) (iq:=iq) (oq:=oq) (fall:=fall) hr hd w
 by_cases h16:op=16
 ·subst h16;rw [if_pos (.inl rfl)] at hex;rw [hex] at he;subst he;rw [if_pos (by decide),htk,Obn]
  cases Qdx 16 (r.getD d.toNat 0) (r.getD a.toNat 0) <;> simp [wrD]
 rw [if_neg (by simpa using h16)]
 by_cases h17:op=17
 ·subst h17;rw [if_pos (.inr (.inl rfl))] at hex;rw [hex] at he;subst he;rw [if_pos (by decide),htk,Obn]
  cases Qdx 17 (r.getD d.toNat 0) (r.getD a.toNat 0) <;> simp [wrD]
 rw [if_neg (by simpa using h17)]
 by_cases h18:op=18
 ·subst h18;rw [if_pos (.inr (.inr rfl))] at hex;rw [hex] at he;subst he;rw [if_pos (by decide),htk,Obn]
  cases Qdx 18 (r.getD d.toNat 0) (r.getD a.toNat 0) <;> simp [wrD]
 rw [if_neg (by simpa using h18)]
 rw [if_neg (c:=op=16∨op=17∨op=18) (by omega)] at hex
 by_cases h19:op=19
 ·subst h19;rw [if_pos rfl] at hex;rw [hex] at he;subst he;rw [if_pos (by decide),hput,Obn]
  simp [wrD]
 rw [if_neg (by simpa using h19)]
 rw [if_neg h19] at hex;by_cases h20:op=20
 ·subst h20;rw [if_pos rfl] at hex;rw [hex] at he;subst he;rw [if_pos (by decide),if_pos hia,Qs 0 hda,Obn]
  dsimp only;rw [Qdb,Obn];dsimp only;rw [hput,Obn];simp [wrD]
 rw [if_neg (by simpa using h20)]
 rw [if_neg h20] at hex;by_cases h21:op=21
 ·subst h21;rw [if_pos rfl] at hex;rw [hex] at he;subst he;have hi10:=hi.i21 (.inl rfl);have hi0:=hi.hi;rw [if_pos (by decide),QrH hc ⟨hi0.1,hi10⟩,Obn]
  dsimp only;rw [hput,Obn];simp [wrD]
 rw [if_neg (by simpa using h21)]
 rw [if_neg h21] at hex;by_cases h22:op=22
 ·subst h22;rw [if_pos rfl] at hex;rw [hex] at he;subst he;have hi10:=hi.i21 (.inr rfl);have hi0:=hi.hi;rw [if_pos (by decide),if_pos hia,Qs 0 hda,Qll hc ⟨hi0.1,hi10⟩,Obn]
  simp [wrD]
 rw [if_neg (by simpa using h22)]
 rw [if_neg h22] at hex;by_cases h23:op=23
 ·subst h23;rw [if_pos rfl] at hex;rw [hex] at he;subst he;rw [if_pos (by decide),Qcu hc,Obn]
  simp
 rw [if_neg (by simpa using h23)]
 rw [if_neg h23] at hex;by_cases h24:op=24
 ·subst h24;rw [if_pos rfl] at hex;rw [hex] at he;subst he;rw [if_pos (by decide),QjA hc,Obn]
  simp [wrD]
 rw [if_neg (by simpa using h24)]
 rw [if_neg h24] at hex;by_cases h25:op=25
 ·subst h25;rw [if_pos rfl] at hex;rw [hex] at he;subst he;rw [if_pos (by decide)]
  simp [wrD]
 rw [if_neg (by simpa using h25)]
 rw [if_neg h25] at hex;by_cases h26:op=26
 ·subst h26;rw [if_pos rfl] at hex;rw [hex] at he;subst he;rw [if_pos (by decide)]
  simp [wrD]
 rw [if_neg (by simpa using h26)]
 rw [if_neg h26] at hex;have h1:=hi.hop;have h11:op≤11:=by omega
 have hi15:=hi.i11 h11;have hi0:=hi.hi;have hii:0≤i∧i< ((r.length:Nat):Int):=by rw [hr.len]; omega
 have hiN:i.toNat< r.length:=by rw [hr.len]; omega
 rw [hex] at he;subst he;rw [if_pos hia,Qs 0 hda,if_pos hii,Qs 0 hiN,QrC,Obn];dsimp only;rw [hput,Obn];have hw:wrD op=true:=by unfold wrD; rw [decide_eq_true_eq]; omega
 simp [hw]
theorem Qov (h:OkS s l) {op d a i:Int} (h14:op=14) {e:Bool×Int×Int×Mc} (he:exM s l op d a i=e):F_en (s.core l,addW (s.r.getD a.toNat 0) (off i),())=
  some ((e.2.2.1,e.1,()),(e.2.2.2.core l,())):=by
 subst h14;obtain ⟨r,pc,cs,ha,wa,ru,dn,iq,oq,m,ring,fall⟩:=s;obtain ⟨hr,hpc,hc,hiq,hoq,hdn,hl⟩:=h;unfold F_en Mc.core;unfold exM Mc.trap at he;dsimp only at*;rw [if_neg (by decide),if_neg (by decide),if_pos rfl] at he
 rw [Qfi hc hl _ (.inl rfl),Obn];dsimp only;have hin:=QbT hc hl (addW (r.getD a.toNat 0) (off i)) 1;generalize Qx cs l m (addW (r.getD a.toNat 0) (off i)) 1=q at*;by_cases h0:q.2=0
 ·rw [if_neg (by simpa using h0)] at he
  rw [if_neg (by simpa using h0)]
  by_cases hq:1000≤q.1
  ·have hle:q.1≤1007:=by have:=hl.mlen; rcases hin h0 with h | h <;> omega
   rw [if_pos hq] at he;subst he;rw [if_pos (Qba.2 hq),Qy (by omega) (by omega),Qox hc hiq,Obn]
  ·have hlt:0≤q.1∧q.1< ((m.length:Nat):Int):=by rcases hin h0 with h | h; omega; exact h
   rw [if_neg hq] at he;subst he;rw [if_neg (by rw [Qba]; exact hq),if_pos hlt,Qs 0 (by omega)]
 ·rw [if_pos h0] at he;subst he;rw [if_pos (by simpa using h0),Qcq hc,Obn]
theorem Qnd (h:OkS s l) {op d a i:Int} (h15:op=15) {e:Bool×Int×Int×Mc} (he:exM s l op d a i=e):F_eq (s.core l,addW (s.r.getD a.toNat 0) (off i),s.r.getD d.toNat 0,())=
  some ((e.1,()),(e.2.2.2.core l,())):=by
 subst h15;obtain ⟨r,pc,cs,ha,wa,ru,dn,iq,oq,m,ring,fall⟩:=s;obtain ⟨hr,hpc,hc,hiq,hoq,hdn,hl⟩:=h;unfold F_eq Mc.core;unfold exM Mc.trap at he;dsimp only at*;rw [if_neg (by decide),if_neg (by decide),if_neg (by decide),if_pos rfl] at he
 rw [Qfi hc hl _ (.inr (.inl rfl)),Obn];dsimp only;have hin:=QbT hc hl (addW (r.getD a.toNat 0) (off i)) 2;generalize Qx cs l m (addW (r.getD a.toNat 0) (off i)) 2=q at*;by_cases h0:q.2=0
 ·rw [if_neg (by simpa using h0)] at he
  rw [if_neg (by simpa using h0)]
  by_cases hq:1000≤q.1
  ·have hle:q.1≤1007:=by have:=hl.mlen; rcases hin h0 with h | h <;> omega
   rw [if_pos hq] at he;subst he;rw [if_pos (Qba.2 hq),Qy (by omega) (by omega),Qne hc hoq,Obn]
  ·have hlt:0≤q.1∧q.1< ((m.length:Nat):Int):=by rcases hin h0 with h | h; omega; exact h
   rw [if_neg hq] at he;subst he;rw [if_neg (by rw [Qba]; exact hq),if_pos hlt,Qs 0 (by omega)]
 ·rw [if_pos h0] at he;subst he;rw [if_pos (by simpa using h0),Qcq hc,Obn]
theorem QsE (h:OkS s l) {op d a i:Int} (hi:OkI op d a i) {e:Bool×Int×Int×Mc} (he:exM s l op d a i=e):
  ∃nx:Int,(e.1=true→nx=e.2.2.1∨wrD op=false)∧
  L_fb_100000 (((),((),(s.pc,(addW s.pc 1,(addW s.pc (off i),(s.r.getD d.toNat 0,(s.r.getD a.toNat 0,(addW (s.r.getD a.toNat 0) (off i),((0:Int),(op,(op,()))))))))))),(((op,(d,(a,(i,())))),(s.core l,())),()))=
  some (if e.1=true then .inl (((),((),(e.2.1,(nx,())))),(((op,(d,(a,(i,())))),(e.2.2.2.core l,())),())) else .inr (.inl ((false,()),((e.2.2.2.core l,()),())))):=by
 have hld:=fun h14=>Qov h (op:=op) (d:=d) (a:=a) (i:=i) h14 he
 have hst:=fun h15=>Qnd h (op:=op) (d:=d) (a:=a) (i:=i) h15 he
 have hd:=hi.hd;have ha':=hi.ha;unfold L_fb_100000;dsimp only at*;by_cases h12:op=12
 ·subst h12;rw [show exM s l 12 d a i=(true,addW s.pc 1,addW (s.r.getD a.toNat 0) (off i),s) from rfl] at he
  subst he;exact ⟨_,fun _=> .inl rfl,by rw [if_pos (by decide)]; rfl⟩
 rw [if_neg (by simpa using h12)]
 by_cases h13:op=13
 ·subst h13;rw [show exM s l 13 d a i=(true,addW s.pc 1,i*65536,s) from rfl] at he
  subst he;exact ⟨_,fun _=> .inl rfl,by rw [if_pos (by decide),QsB hi.hi]; rfl⟩
 rw [if_neg (by simpa using h13)]
 by_cases h14:op=14
 ·subst h14
  have hn:e.1=true→e.2.1=addW s.pc 1:=by
   rw [←he]; unfold exM; dsimp only;rw [if_neg (by decide),if_neg (by decide),if_pos rfl]
   repeat' split
   all_goals simp
  refine ⟨e.2.2.1,fun _=> .inl rfl,?_⟩
  rw [if_pos (by decide),hld rfl,Obn]
  obtain ⟨b,nx,rs,s1⟩:=e;cases b
  ·simp
  ·simp only at hn;simp [hn]
 rw [if_neg (by simpa using h14)]
 by_cases h15:op=15
 ·subst h15
  have hn:e.1=true→e.2.1=addW s.pc 1:=by
   rw [←he]; unfold exM; dsimp only;rw [if_neg (by decide),if_neg (by decide),if_neg (by decide),if_pos rfl]
   repeat' split
   all_goals simp
  refine ⟨0,fun _=> .inr rfl,?_⟩
  rw [if_pos (by decide),hst rfl,Obn]
  obtain ⟨b,nx,rs,s1⟩:=e;cases b
  ·simp
  ·simp only at hn;simp [hn]
 rw [if_neg (by simpa using h15)]
 clear hld hst;obtain ⟨r,pc,cs,ha,wa,ru,dn,iq,oq,m,ring,fall⟩:=s;obtain ⟨hr,hpc,hc,hiq,hoq,hdn,hl⟩:=h
 have hex:exM ⟨r,pc,cs,ha,wa,ru,dn,iq,oq,m,ring,fall⟩ l op d a i=
   (if op=16∨op=17∨op=18 then (true,if Qdx op (r.getD d.toNat 0) (r.getD a.toNat 0)=true then addW pc (off i) else addW pc 1,0,⟨r,pc,cs,ha,wa,ru,dn,iq,oq,m,ring,fall⟩)
   else if op=19 then (true,addW pc (off i),addW pc 1,⟨r,pc,cs,ha,wa,ru,dn,iq,oq,m,ring,fall⟩)
   else if op=20 then (true,addW (r.getD a.toNat 0) (off i),addW pc 1,⟨r,pc,cs,ha,wa,ru,dn,iq,oq,m,ring,fall⟩)
   else if op=21 then (true,addW pc 1,getM cs ru dn iq i,⟨r,pc,cs,ha,wa,ru,dn,iq,oq,m,ring,fall⟩)
   else if op=22 then (true,addW pc 1,0,⟨r,pc,setC cs i (r.getD a.toNat 0),ha,wa,setR ru i (r.getD a.toNat 0),dn,iq,oq,m,ring,fall⟩)
   else if op=23 then (false,0,0,⟨r,cs.getD 1 0,Qgh cs pc 5 0,ha,false,ru,dn,iq,oq,m,ring,5⟩)
   else if op=24 then (true,cs.getD 2 0,0,⟨r,cs.getD 2 0,QiG cs,ha,wa,ru,dn,iq,oq,m,ring,fall⟩)
   else if op=25 then (true,addW pc 1,0,⟨r,pc,cs,ha,true,ru,dn,iq,oq,m,ring,fall⟩)
   else if op=26 then (true,pc,0,⟨r,pc,cs,true,wa,ru,dn,iq,oq,m,ring,fall⟩)
   else (true,addW pc 1,aluW op (r.getD a.toNat 0) (r.getD i.toNat 0),⟨r,pc,cs,ha,wa,ru,dn,iq,oq,m,ring,fall⟩)):=by
  unfold exM Mc.trap;dsimp only;rw [if_neg h12,if_neg h13,if_neg h14,if_neg h15]
 unfold Mc.core;dsimp only at*;by_cases h16:op=16
 ·subst h16;rw [if_pos (.inl rfl)] at hex;rw [hex] at he;subst he;refine ⟨0,fun _=> .inr rfl,?_⟩
  rw [if_pos (by decide),if_pos (by decide)]
  generalize r.getD d.toNat 0=x;generalize r.getD a.toNat 0=y;unfold Qdx;by_cases hxy:x=y <;> simp [hxy]
 rw [if_neg (by simpa using h16)]
 by_cases h17:op=17
 ·subst h17;rw [if_pos (.inr (.inl rfl))] at hex;rw [hex] at he;subst he;refine ⟨0,fun _=> .inr rfl,?_⟩
  rw [if_pos (by decide),if_neg (by decide),if_pos (by decide)]
  generalize r.getD d.toNat 0=x;generalize r.getD a.toNat 0=y;unfold Qdx;by_cases hxy:x=y <;> simp [hxy]
 rw [if_neg (by simpa using h17)]
 by_cases h18:op=18
 ·subst h18;rw [if_pos (.inr (.inr rfl))] at hex;rw [hex] at he;subst he;refine ⟨0,fun _=> .inr rfl,?_⟩
  rw [if_pos (by decide),if_neg (by decide),if_neg (by decide),if_pos (by decide),Qez,Obn,Qez,Obn]
  generalize r.getD d.toNat 0=x;generalize r.getD a.toNat 0=y;unfold Qdx;by_cases hxy:sg x< sg y <;> simp [hxy,QaH]
 rw [if_neg (by simpa using h18)]
 rw [if_neg (c:=op=16∨op=17∨op=18) (by omega)] at hex
 by_cases h19:op=19
 ·subst h19;rw [if_pos rfl] at hex;rw [hex] at he;subst he;exact ⟨_,fun _=> .inl rfl,by rw [if_pos (by decide)]; rfl⟩
 rw [if_neg (by simpa using h19)]
 rw [if_neg h19] at hex;by_cases h20:op=20
 ·subst h20;rw [if_pos rfl] at hex;rw [hex] at he;subst he;exact ⟨_,fun _=> .inl rfl,by rw [if_pos (by decide)]; rfl⟩
 rw [if_neg (by simpa using h20)]
 rw [if_neg h20] at hex;by_cases h21:op=21
 ·subst h21;rw [if_pos rfl] at hex;rw [hex] at he;subst he;have hi10:=hi.i21 (.inl rfl);have hi0:=hi.hi;exact ⟨_,fun _=> .inl rfl,by rw [if_pos (by decide),QqW hc ⟨hi0.1,hi10⟩,Obn]; rfl⟩
 rw [if_neg (by simpa using h21)]
 rw [if_neg h21] at hex;by_cases h22:op=22
 ·subst h22;rw [if_pos rfl] at hex;rw [hex] at he;subst he;have hi10:=hi.i21 (.inr rfl);have hi0:=hi.hi;exact ⟨0,fun _=> .inr rfl,by rw [if_pos (by decide),Qhy hc ⟨hi0.1,hi10⟩,Obn]; rfl⟩
 rw [if_neg (by simpa using h22)]
 rw [if_neg h22] at hex;by_cases h23:op=23
 ·subst h23;rw [if_pos rfl] at hex;rw [hex] at he;subst he;exact ⟨0,fun _=> .inr rfl,by rw [if_pos (by decide),Qcq hc,Obn]; rfl⟩
 rw [if_neg (by simpa using h23)]
 rw [if_neg h23] at hex;by_cases h24:op=24
 ·subst h24;rw [if_pos rfl] at hex;rw [hex] at he;subst he;exact ⟨0,fun _=> .inr rfl,by rw [if_pos (by decide),Qos hc,Obn]; rfl⟩
 rw [if_neg (by simpa using h24)]
 rw [if_neg h24] at hex;by_cases h25:op=25
 ·subst h25;rw [if_pos rfl] at hex;rw [hex] at he;subst he;exact ⟨0,fun _=> .inr rfl,by rw [if_pos (by decide)]; rfl⟩
 rw [if_neg (by simpa using h25)]
 rw [if_neg h25] at hex;by_cases h26:op=26
 ·subst h26;rw [if_pos rfl] at hex;rw [hex] at he;subst he;exact ⟨0,fun _=> .inr rfl,by rw [if_pos (by decide)]; rfl⟩
 rw [if_neg (by simpa using h26)]
 rw [if_neg h26] at hex;have h1:=hi.hop;have h11:op≤11:=by omega
 have hi15:=hi.i11 h11;have hi0:=hi.hi;have hii:0≤i∧i< ((r.length:Nat):Int):=by rw [hr.len]; omega
 have hiN:i.toNat< r.length:=by rw [hr.len]; omega
 rw [hex] at he;subst he;refine ⟨_,fun _=> .inl rfl,?_⟩
 rw [if_pos hii,Qs 0 hiN,QqR op _ _ (hr.w (by omega)) (hr.w (by omega)) ⟨h1.1,h11⟩,Obn]
 rfl
def Qfk (s:Mc):Mc:={ s with dn:=if 1000000000< s.dn+1 then 1000000000 else s.dn+1 }
theorem QsF (op:Int):F_fa (op,())=some ((wrD op,()),()):=by
 unfold F_fa wrD;dsimp only;rw [Qbh,Obn,Qbh,Obn];dsimp only;by_cases h1:1≤op∧op≤14
 ·rw [if_neg (by simp [h1]),decide_eq_true (.inl h1)]
 ·rw [if_pos (by simp; omega)]
  by_cases h2:19≤op∧op≤21
  ·rw [decide_eq_true (p:=(1≤op∧op≤14)∨(19≤op∧op≤21)) (.inr h2)]; simp [h2]
  ·rw [decide_eq_false (p:=(1≤op∧op≤14)∨(19≤op∧op≤21)) (by omega)]; simp; omega
theorem Qj {α:Type} (P:α→Prop) {c:Prop} [Decidable c] {a b:α} (h1:c→P a) (h2: ¬c→P b):P (if c then a else b):=by
 by_cases h:c
 ·rw [if_pos h]; exact h1 h
 ·rw [if_neg h]; exact h2 h
theorem QuG (s:Mc) (l:List TwoD) (op d a i:Int):(exM s l op d a i).2.2.2.r=s.r∧(exM s l op d a i).2.2.2.dn=s.dn:=by
 unfold exM Mc.trap
 let P:Bool×Int×Int×Mc→Prop:=fun x=>x.2.2.2.r=s.r∧x.2.2.2.dn=s.dn
 refine Qj P (fun _=>⟨rfl,rfl⟩) fun _=>Qj P (fun _=>⟨rfl,rfl⟩) fun _=>Qj P (fun _=>Qj P (fun _=>⟨rfl,rfl⟩) fun _=>Qj P (fun _=>⟨rfl,rfl⟩) fun _=>⟨rfl,rfl⟩) fun _=>
  Qj P (fun _=>Qj P (fun _=>⟨rfl,rfl⟩) fun _=>Qj P (fun _=>⟨rfl,rfl⟩) fun _=>⟨rfl,rfl⟩) fun _=>Qj P (fun _=>⟨rfl,rfl⟩) fun _=>Qj P (fun _=>⟨rfl,rfl⟩) fun _=>Qj P (fun _=>⟨rfl,rfl⟩) fun _=>
  Qj P (fun _=>⟨rfl,rfl⟩) fun _=>Qj P (fun _=>⟨rfl,rfl⟩) fun _=>Qj P (fun _=>⟨rfl,rfl⟩) fun _=>Qj P (fun _=>⟨rfl,rfl⟩) fun _=>Qj P (fun _=>⟨rfl,rfl⟩) fun _=>Qj P (fun _=>⟨rfl,rfl⟩) fun _=>⟨rfl,rfl⟩
theorem QsD (h:OkS s l) {op d a i:Int} (hi:OkI op d a i) {e:Bool×Mc} (he:doM s l op d a i=e):F_fb (s.core l,(op,d,a,i,()),())=
  some ((e.1,()),((if e.1=true then (Qfk e.2).core l else e.2.core l),())):=by
 have hd:=hi.hd;have ha':=hi.ha;have hr:=h.r;obtain ⟨nx,hnx,hL⟩:=QsE h hi rfl;have hrr:=QuG s l op d a i;unfold F_fb;dsimp only;have e1:(s.core l).2.1=s.pc:=rfl;have e2:(s.core l).1=s.r:=rfl;rw [e1,e2,QfB,Obn];dsimp only;rw [QqZ,Obn];dsimp only;rw [QfB,Obn];dsimp only;have hid:0≤d∧d< ((s.r.length:Nat):Int):=by rw [hr.len]; omega
 have hia:0≤a∧a< ((s.r.length:Nat):Int):=by rw [hr.len]; omega
 rw [if_pos hid,Qs 0 (by rw [hr.len]; omega),if_pos hia,Qs 0 (by rw [hr.len]; omega),Obn]
 dsimp only;rw [QfB,Obn];dsimp only;rw [hL,Obn];unfold doM at he;dsimp only at he;generalize exM s l op d a i=x at*;obtain ⟨b,nxt,rs,s1⟩:=x;cases b
 ·subst he; rfl
 ·simp only [if_true] at he⊢;subst he;simp only at hrr hnx;have hdn:=h.d;have hw:IntKind.i64.wrap (s1.dn+1)=s1.dn+1:=Qy (by rw [hrr.2]; omega) (by rw [hrr.2]; omega)
  unfold Mc.core Qfk;dsimp only;rw [QsF,Obn,hw];dsimp only;have hid2:0≤d∧d< ((s1.r.length:Nat):Int):=by rw [hrr.1,hr.len]; omega
  by_cases hwd:wrD op=true
  ·have hx:nx=rs:=by
    rcases hnx trivial with h | h
    ·exact h
    ·rw [h] at hwd; cases hwd
   subst hx;rw [if_pos hwd];by_cases hd0:0< d
   ·rw [if_pos (QD.2 hd0),if_pos hid2,Qs 0 (by rw [hrr.1,hr.len]; omega),if_pos (c:=wrD op=true∧0< d) ⟨hwd,hd0⟩]; rfl
   ·rw [if_neg (by rw [QD]; exact hd0),if_neg (c:=wrD op=true∧0< d) (fun h=>hd0 h.2)]; rfl
  ·rw [if_neg hwd,if_neg (c:=wrD op=true∧0< d) (fun h=>hwd h.1)]; rfl
def runM (s:Mc) (l:List TwoD):Mc:=
 if (Qx s.cs l s.m s.pc 4).2≠0 then s.trap 2 s.pc
 else
  let w:=s.m.getD (Qx s.cs l s.m s.pc 4).1.toNat 0
  if decF w=0 then (if (doM s l (decM w).1 (decM w).2.1 (decM w).2.2.1 (decM w).2.2.2.1).1=true then Qfk (doM s l (decM w).1 (decM w).2.1 (decM w).2.2.1 (decM w).2.2.2.1).2
   else (doM s l (decM w).1 (decM w).2.1 (decM w).2.2.1 (decM w).2.2.2.1).2) else s.trap 1 w
def Qai (s0:Mc) (l:List TwoD):Mc:=
 let s:Mc:={ s0 with ring:= -1,fall:= -1 }
 if s.ha=true then s
 else if 0≤dueM s.cs s.ru s.dn s.iq then s.trap (16+dueM s.cs s.ru s.dn s.iq) 0
 else if s.wa=true then (if iand .i64 (Qdr s.cs s.ru s.dn s.iq) (s.cs.getD 7 0)=0 then s else runM { s with wa:=false } l)
 else runM s l
theorem Qiu {w:Int} (h:decF w=0):OkI (decM w).1 (decM w).2.1 (decM w).2.2.1 (decM w).2.2.2.1:=by
 obtain ⟨h1,h2,h3,h4,h5,h6⟩:=QtO h;exact ⟨h1,h2,h3,h4,h5,h6⟩
theorem QlN (cs:List Int) (ru:Bool) (dn:Int) (iq:List Int): -1≤dueM cs ru dn iq∧dueM cs ru dn iq≤2:=by
 unfold dueM; split
 ·omega
 ·exact QtZ _
theorem Qlk (h:OkS s l) {K:Option Unit}:
  ((F_aw ((l,s.m,s.ring,(s.r,s.pc,s.cs,s.ha,s.wa,s.ru,s.dn,s.iq,s.oq,()),s.fall,()),s.pc,(4:Int),())).bind fun r7=>
    if (r7.1.2.1 !=(0:Int)) then
     (F_aq (s.bus l,(2:Int),s.pc,())).bind fun r8=>some (((),(r8.2.1,())):Unit×BusD×Unit)
    else
     if 0≤r7.1.1∧r7.1.1< ((s.m.length:Nat):Int) then
      ((s.m)[(r7.1.1).toNat]?).bind fun y9=>
      (F_ax (y9,())).bind fun r10=>
      if (!r10.1.2.1) then
       if 0≤r7.1.1∧r7.1.1< ((s.m.length:Nat):Int) then
        ((s.m)[(r7.1.1).toNat]?).bind fun y11=>
        (F_aq (s.bus l,(1:Int),y11,())).bind fun r12=>some ((),(r12.2.1,()))
       else none
      else
       (F_bp (s.bus l,r10.1.1,())).bind fun r13=>
       if r13.1.1 then
        let v14:=(IntKind.i64.wrap (r13.2.1.2.2.2.2.2.2.2.2.2.1+(1:Int)))
        (F_bq ((1000000000:Int),v14,())).bind fun r15=>
        some ((),((r13.2.1.1,(r13.2.1.2.1,(r13.2.1.2.2.1,(r13.2.1.2.2.2.1,(r13.2.1.2.2.2.2.1,(r13.2.1.2.2.2.2.2.1,(r13.2.1.2.2.2.2.2.2.1,(r13.2.1.2.2.2.2.2.2.2.1,(r13.2.1.2.2.2.2.2.2.2.2.1,(r15.1.1,(r13.2.1.2.2.2.2.2.2.2.2.2.2.1,(r13.2.1.2.2.2.2.2.2.2.2.2.2.2.1,(r13.2.1.2.2.2.2.2.2.2.2.2.2.2.2.1,()))))))))))))),()))
       else some ((),(r13.2.1,()))
     else none)=some ((),((runM s l).bus l,())):=by
 have hdo:=fun {w:Int} (hw:decF w=0)=>Qtv h (Qiu hw) rfl
 have hdn:=h.d;rw [Qfv h.c h.l,Obn];dsimp only;unfold runM;have hin:=QbT h.c h.l s.pc 4;generalize Qx s.cs l s.m s.pc 4=q at*;by_cases h0:q.2=0
 ·have hlt:0≤q.1∧q.1< ((s.m.length:Nat):Int):=by
   rcases hin h0 with h | h
   ·exact absurd rfl h.2.2
   ·exact h
  have hN:q.1.toNat< s.m.length:=by omega
  have hw:WW (s.m.getD q.1.toNat 0):=h.l.words _ (Qat hN);rw [if_neg (by simpa using h0),if_pos hlt,Qs 0 hN,QrD hw,Obn,if_pos hlt,Qs 0 hN,if_neg (c:=q.2≠0) (by simpa using h0)]
  dsimp only;generalize s.m.getD q.1.toNat 0=w at*;by_cases hd:decF w=0
  ·rw [if_neg (by simp [hd]),if_pos hd]
   have hx:=hdo hd;have hrr:=QuG s l (decM w).1 (decM w).2.1 (decM w).2.2.1 (decM w).2.2.2.1
   have hdn2:(doM s l (decM w).1 (decM w).2.1 (decM w).2.2.1 (decM w).2.2.2.1).2.dn=s.dn:=by
    unfold doM; dsimp only; split <;> exact hrr.2
   have e1:((decM w).1,(decM w).2.1,(decM w).2.2.1,(decM w).2.2.2.1,())=decM w:=rfl;rw [e1] at hx;rw [hx,Obn];dsimp only;generalize doM s l (decM w).1 (decM w).2.1 (decM w).2.2.1 (decM w).2.2.2.1=x at*;obtain ⟨b,s1⟩:=x;cases b
   ·rfl
   ·simp only at hdn2;rw [if_pos rfl,if_pos rfl];unfold F_bq Mc.bus Qfk;dsimp only;rw [hdn2,Qy (by omega) (by omega)]
    by_cases hlt:1000000000< s.dn+1
    ·rw [if_pos (QD.2 hlt),if_pos hlt]; rfl
    ·rw [if_neg (by rw [QD]; exact hlt),if_neg hlt]; rfl
  ·rw [if_pos (by simp [hd]),if_neg hd]
   unfold Mc.bus;rw [Qcu h.c,Obn];rfl
 ·rw [if_pos (by simpa using h0),if_pos (c:=q.2≠0) h0]
  unfold Mc.bus;rw [Qcu h.c,Obn];rfl
theorem Qpm (h:OkS s l):F_br (s.bus l,())=some ((),((Qai s l).bus l,())):=by
 obtain ⟨r,pc,cs,ha,wa,ru,dn,iq,oq,m,ring,fall⟩:=s;have h0:OkS ⟨r,pc,cs,ha,wa,ru,dn,iq,oq,m, -1, -1⟩ l:=⟨h.r,h.pc,h.c,h.i,h.o,h.d,h.l⟩;have h1:OkS ⟨r,pc,cs,ha,false,ru,dn,iq,oq,m, -1, -1⟩ l:=⟨h.r,h.pc,h.c,h.i,h.o,h.d,h.l⟩;have hc:OkC cs:=h.c;have hle:=QlN cs ru dn iq;generalize he:Qai ⟨r,pc,cs,ha,wa,ru,dn,iq,oq,m,ring,fall⟩ l=e;unfold Qai at he;unfold F_br;dsimp only at he;rw [show (Mc.bus ⟨r,pc,cs,ha,wa,ru,dn,iq,oq,m,ring,fall⟩ l)=(l,m,ring,r,pc,cs,ha,wa,ru,dn,iq,oq,fall,()) from rfl]
 dsimp only;cases ha
 ·rw [if_neg (by decide)] at he
  rw [if_neg (by decide),QrF hc,Obn]
  dsimp only;by_cases hk:0≤dueM cs ru dn iq
  ·rw [if_pos hk] at he;subst he;rw [if_pos (Qba.2 hk),Qy (by omega) (by omega),Qcu hc,Obn]
   rfl
  ·rw [if_neg hk] at he;rw [if_neg (by rw [Qba]; exact hk)]
   cases wa
   ·rw [if_neg (by decide)] at he
    subst he;rw [if_neg (by decide)]
    exact Qlk (K:=none) h0
   ·rw [if_pos rfl] at he;have h7:(0:Int)≤7∧(7:Int)< ((cs.length:Nat):Int):=by rw [hc.len]; decide
    rw [if_pos rfl,QeJ hc,Obn];dsimp only;rw [if_pos h7,Qs 0 (by rw [hc.len]; decide)]
    simp only [show ((7:Int)).toNat=7 from rfl]
    by_cases hz:iand .i64 (Qdr cs ru dn iq) (cs.getD 7 0)=0
    ·rw [if_pos hz] at he;subst he;rw [if_pos (by simpa using hz)]
     rfl
    ·rw [if_neg hz] at he;subst he;rw [if_neg (by simpa using hz)]
     exact Qlk (K:=none) h1
 ·rw [if_pos rfl] at he;subst he;rw [if_pos rfl];rfl
theorem QkI (h:OkS s l):
  ((F_eg ((s.r,s.pc,s.cs,s.ha,s.wa,s.ru,s.dn,s.iq,s.oq,()),l,s.m,s.pc,(4:Int),())).bind fun r14=>
    if (r14.1.1.1 !=(0:Int)) then
     (F_dy (s.core l,(2:Int),s.pc,())).bind fun r15=>some (((),(r15.2.1,())):Unit×QuC×Unit)
    else
     if 0≤r14.1.1.2.1∧r14.1.1.2.1< ((s.m.length:Nat):Int) then
      ((s.m)[(r14.1.1.2.1).toNat]?).bind fun y16=>
      (F_ei (y16,())).bind fun r17=>
      if (r17.1.1.1 !=(0:Int)) then
       if 0≤r14.1.1.2.1∧r14.1.1.2.1< ((s.m.length:Nat):Int) then
        ((s.m)[(r14.1.1.2.1).toNat]?).bind fun y18=>
        (F_dy (s.core l,(1:Int),y18,())).bind fun r19=>some ((),(r19.2.1,()))
       else none
      else
       (F_fb (s.core l,r17.1.1.2.1,())).bind fun r20=>some ((),(r20.2.1,()))
     else none)=some ((),((runM s l).core l,())):=by
 have hdo:=fun {w:Int} (hw:decF w=0)=>QsD h (Qiu hw) rfl
 rw [Qfi h.c h.l _ (.inr (.inr rfl)),Obn];dsimp only;unfold runM;have hin:=QbT h.c h.l s.pc 4;generalize Qx s.cs l s.m s.pc 4=q at*;by_cases h0:q.2=0
 ·have hlt:0≤q.1∧q.1< ((s.m.length:Nat):Int):=by
   rcases hin h0 with h | h
   ·exact absurd rfl h.2.2
   ·exact h
  have hN:q.1.toNat< s.m.length:=by omega
  have hw:WW (s.m.getD q.1.toNat 0):=h.l.words _ (Qat hN);rw [if_neg (by simpa using h0),if_pos hlt,Qs 0 hN,QqS hw,Obn,if_pos hlt,Qs 0 hN,if_neg (c:=q.2≠0) (by simpa using h0)]
  dsimp only;generalize s.m.getD q.1.toNat 0=w at*;by_cases hd:decF w=0
  ·rw [if_pos hd,if_pos hd];dsimp only;rw [if_neg (by decide)]
   have hx:=hdo hd;have e1:((decM w).1,(decM w).2.1,(decM w).2.2.1,(decM w).2.2.2.1,())=decM w:=rfl;rw [e1] at hx;rw [hx,Obn];generalize doM s l (decM w).1 (decM w).2.1 (decM w).2.2.1 (decM w).2.2.2.1=x at*;obtain ⟨b,s1⟩:=x;cases b <;> rfl
  ·rw [if_neg hd,if_neg hd];dsimp only;rw [if_pos (by decide)]
   unfold Mc.core;rw [Qcq h.c,Obn];rfl
 ·rw [if_pos (by simpa using h0),if_pos (c:=q.2≠0) h0]
  unfold Mc.core;rw [Qcq h.c,Obn];rfl
theorem Qoz (h:OkS s l):F_fc (s.core l,())=some ((),((Qai s l).core l,())):=by
 obtain ⟨r,pc,cs,ha,wa,ru,dn,iq,oq,m,ring,fall⟩:=s;have h0:OkS ⟨r,pc,cs,ha,wa,ru,dn,iq,oq,m, -1, -1⟩ l:=⟨h.r,h.pc,h.c,h.i,h.o,h.d,h.l⟩;have h1:OkS ⟨r,pc,cs,ha,false,ru,dn,iq,oq,m, -1, -1⟩ l:=⟨h.r,h.pc,h.c,h.i,h.o,h.d,h.l⟩;have hc:OkC cs:=h.c;have hle:=QlN cs ru dn iq;generalize he:Qai ⟨r,pc,cs,ha,wa,ru,dn,iq,oq,m,ring,fall⟩ l=e;unfold Qai at he;unfold F_fc;dsimp only at he;rw [show (Mc.core ⟨r,pc,cs,ha,wa,ru,dn,iq,oq,m,ring,fall⟩ l)=(r,pc,cs,ha,wa,ru,dn,iq,oq,l,m,fall,ring,()) from rfl]
 dsimp only;cases ha
 ·rw [if_neg (by decide)] at he
  rw [if_neg (by decide),QqU hc,Obn]
  dsimp only;by_cases hk:0≤dueM cs ru dn iq
  ·rw [if_pos hk] at he;subst he;rw [if_pos (Qba.2 hk),Qy (by omega) (by omega),Qcq hc,Obn]
   rfl
  ·rw [if_neg hk] at he;rw [if_neg (by rw [Qba]; exact hk)]
   cases wa
   ·rw [if_neg (by decide)] at he
    subst he;rw [if_neg (by decide)]
    exact QkI h0
   ·rw [if_pos rfl] at he;have h7:(0:Int)≤7∧(7:Int)< ((cs.length:Nat):Int):=by rw [hc.len]; decide
    rw [if_pos rfl,Qex hc,Obn];dsimp only;rw [if_pos h7,Qs 0 (by rw [hc.len]; decide)]
    simp only [show ((7:Int)).toNat=7 from rfl]
    by_cases hz:iand .i64 (Qdr cs ru dn iq) (cs.getD 7 0)=0
    ·rw [if_pos hz] at he;subst he;rw [if_pos (by simpa using hz)]
     rfl
    ·rw [if_neg hz] at he;subst he;rw [if_neg (by simpa using hz)]
     exact QkI h1
 ·rw [if_pos rfl] at he;subst he;rw [if_pos rfl];rfl
theorem QuZ (h:OkS s l) {op d a i:Int} (hi:OkI op d a i):OkS (exM s l op d a i).2.2.2 l∧WW (exM s l op d a i).2.2.1∧((exM s l op d a i).1=true→WW (exM s l op d a i).2.1):=by
 have hp: ∀x y,WW (addW x y):=Qkl;have h0:WW 0:=by unfold WW; omega
 have hd:=hi.hd;have ha:=hi.ha;have hii:=hi.hi;have hra:=h.r.w (k:=a.toNat) (by omega)
 have hrd:=h.r.w (k:=d.toNat) (by omega)
 unfold exM
 let P:Bool×Int×Int×Mc→Prop:=fun x=>OkS x.2.2.2 l∧WW x.2.2.1∧(x.1=true→WW x.2.1)
 refine Qj P (fun _=>⟨h,hp _ _,fun _=>hp _ _⟩) fun _=>Qj P (fun _=>⟨h,by unfold WW; dsimp only; omega,fun _=>hp _ _⟩) fun _=>Qj P (fun _=>?_) fun _=>Qj P (fun _=>?_) fun _=>
  Qj P (fun _=>⟨h,h0,fun _=>Qj WW (fun _=>hp _ _) fun _=>hp _ _⟩) fun _=>Qj P (fun _=>⟨h,hp _ _,fun _=>hp _ _⟩) fun _=>Qj P (fun _=>⟨h,hp _ _,fun _=>hp _ _⟩) fun _=>
  Qj P (fun h21=>⟨h,QqN h.c ⟨hii.1,hi.i21 (.inl h21)⟩ h.d,fun _=>hp _ _⟩) fun _=>Qj P (fun h22=>⟨⟨h.r,h.pc,Quu h.c ⟨hii.1,hi.i21 (.inr h22)⟩,h.i,h.o,h.d,h.l⟩,h0,fun _=>hp _ _⟩) fun _=>
  Qj P (fun _=>⟨QfR h (by unfold WW; omega) h0,h0,fun _=>h0⟩) fun _=>Qj P (fun _=>⟨⟨h.r,h.c.w (by decide),Qsg h.c,h.i,h.o,h.d,h.l⟩,h0,fun _=>h.c.w (by decide)⟩) fun _=>
  Qj P (fun _=>⟨⟨h.r,h.pc,h.c,h.i,h.o,h.d,h.l⟩,h0,fun _=>hp _ _⟩) fun _=>Qj P (fun _=>⟨⟨h.r,h.pc,h.c,h.i,h.o,h.d,h.l⟩,h0,fun _=>h.pc⟩) fun _=>⟨h,Qqs _ _ _,fun _=>hp _ _⟩
 ·have hin:=QbT h.c h.l (addW (s.r.getD a.toNat 0) (off i)) 1;refine Qj P (fun _=>⟨QfR h (by unfold WW; omega) (hp _ _),h0,fun _=>h0⟩) fun hq0=>Qj P (fun _=>?_) fun hq=>⟨h,?_,fun _=>hp _ _⟩
  ·have:=Qto (ru:=s.ru) h.c h.i h.d ((Qx s.cs l s.m (addW (s.r.getD a.toNat 0) (off i)) 1).1-1000);exact ⟨⟨h.r,h.pc,h.c,this.2,h.o,h.d,h.l⟩,this.1,fun _=>hp _ _⟩
  ·have hlt:0≤(Qx s.cs l s.m (addW (s.r.getD a.toNat 0) (off i)) 1).1∧(Qx s.cs l s.m (addW (s.r.getD a.toNat 0) (off i)) 1).1< (s.m.length:Int):=by
    rcases hin (by simpa using hq0) with h | h
    ·exact absurd h.1 hq
    ·exact h
   exact h.l.words _ (Qat (by omega))
 ·refine Qj P (fun _=>⟨QfR h (by unfold WW; omega) (hp _ _),h0,fun _=>h0⟩) fun hq0=>Qj P (fun _=>?_) fun hq=>?_
  ·exact ⟨⟨h.r,h.pc,Qvv h.c _ _,h.i,Qvw h.o _ _,h.d,h.l⟩,h0,fun _=>hp _ _⟩
  ·refine ⟨⟨h.r,h.pc,h.c,h.i,h.o,h.d,⟨h.l.len,fun p hpm=>?_,fun w hw=>?_,?_⟩⟩,h0,fun _=>hp _ _⟩
   ·have:=h.l.pgs p hpm;dsimp only;rw [List.length_set];exact this
   ·rcases List.mem_or_eq_of_mem_set hw with hw | rfl
    ·exact h.l.words w hw
    ·exact hrd
   ·dsimp only;rw [List.length_set];exact h.l.mlen
theorem OkR.set {r:List Int} (h:OkR r) {k:Nat} {w:Int} (hk:0< k) (hw:WW w):OkR (r.set k w):=
 ⟨by rw [List.length_set]; exact h.len,fun z hz=>by
  rcases List.mem_or_eq_of_mem_set hz with hz | rfl
  ·exact h.words z hz
  ·exact hw,by rw [getD_set_ne (by omega)]; exact h.zero⟩
theorem Qsr (h:OkS s l) {op d a i:Int} (hi:OkI op d a i):OkS (doM s l op d a i).2 l:=by
 have he:=QuZ h hi;unfold doM;dsimp only;refine Qj (fun x:Bool×Mc=>OkS x.2 l) (fun hb=>?_) fun _=>he.1
 refine ⟨?_,he.2.2 hb,he.1.c,he.1.i,he.1.o,he.1.d,he.1.l⟩;refine Qj OkR (fun hd=>he.1.r.set (by omega) he.2.1) fun _=>he.1.r
theorem QsT (h:OkS s l):OkS (Qfk s) l:=by
 have:=h.d;refine ⟨h.r,h.pc,h.c,h.i,h.o,?_,h.l⟩;unfold Qfk;dsimp only;split <;> omega
theorem Qqd (h:OkS s l):OkS (runM s l) l:=by
 unfold runM;have hin:=QbT h.c h.l s.pc 4;refine Qj (fun x=>OkS x l) (fun _=>QfR h (by unfold WW; omega) h.pc) fun hq0=>?_
 have hlt:0≤(Qx s.cs l s.m s.pc 4).1∧(Qx s.cs l s.m s.pc 4).1< (s.m.length:Int):=by
  rcases hin (by simpa using hq0) with h | h
  ·exact absurd rfl h.2.2
  ·exact h
 have hw:WW (s.m.getD (Qx s.cs l s.m s.pc 4).1.toNat 0):=h.l.words _ (Qat (by omega))
 refine Qj (fun x=>OkS x l) (fun hd=>?_) fun _=>QfR h (by unfold WW; omega) hw
 exact Qj (fun x=>OkS x l) (fun _=>QsT (Qsr h (Qiu hd))) fun _=>Qsr h (Qiu hd)
theorem QjG (h:OkS s l):OkS (Qai s l) l:=by
 have h0:OkS { s with ring:= -1,fall:= -1 } l:=⟨h.r,h.pc,h.c,h.i,h.o,h.d,h.l⟩
 have h1:OkS { s with ring:= -1,fall:= -1,wa:=false } l:=⟨h.r,h.pc,h.c,h.i,h.o,h.d,h.l⟩
 have hle:=QlN s.cs s.ru s.dn s.iq;unfold Qai;refine Qj (fun x=>OkS x l) (fun _=>h0) fun _=>Qj (fun x=>OkS x l) (fun hk=>QfR h0 ?_ (by unfold WW; omega)) fun _=>Qj (fun x=>OkS x l) (fun _=>Qj (fun x=>OkS x l) (fun _=>h0) fun _=>Qqd h1) fun _=>Qqd h0
 unfold WW;dsimp only at*;omega
end
theorem Qjw {α β:Type} {f:Nat→α→Option β}: ∀{m:List α} {i:Nat},scan f i m=none→ ∀x∈m, ∃j,f j x=none
 | [],_,_,_,hx=>by cases hx
 | y::r,i,h,x,hx=>by
  simp only [scan] at h;split at h
  ·cases h
  ·rename_i hn;rcases List.mem_cons.1 hx with rfl | hx
   ·exact ⟨_,hn⟩
   ·exact Qjw h x hx
theorem QoO {l:List TwoD} {top:Int} (ht:1≤top∧top≤24) (h:QhH l top=0):l.length=8∧ ∀p∈l,(-1≤p.1∧p.1≤top-1)∧(0≤p.2.1∧p.2.1≤7):=by
 unfold QhH at h;rw [if_pos (by unfold inB; simp [ht.1,ht.2])] at h
 split at h
 ·rename_i hl;refine ⟨hl,fun p hp=>?_⟩
  have key:scan (fun (_:Nat) p=>Qnt top p) 0 l=none:=by
   split at h
   ·rename_i c hc;exfalso
    have: ∀{l:List TwoD} {i:Nat} {c:Int},scan (fun (_:Nat) p=>Qnt top p) i l=some c→c≠0:=by
     intro l
     induction l with
     | nil=>intro i c h; simp [scan] at h
     | cons y r ih=>
      intro i c h;simp only [scan] at h;split at h
      ·rename_i c' hc';obtain rfl:=Osj h;unfold Qnt nz at hc';intro e;subst e
       repeat' split at hc'
       all_goals first | (cases hc'; done) | simp_all
      ·exact ih h
    exact this hc h
   ·rename_i hn; exact hn
  obtain ⟨j,hj⟩:=Qjw key p hp;unfold Qnt inB at hj;split at hj
  ·rename_i h1;split at hj
   ·rename_i h2;simp only [Bool.and_eq_true,decide_eq_true_eq] at h1 h2;omega
   ·cases hj
  ·cases hj
 ·omega
def Mc.of (h:QO) (m:List Int):Mc:=⟨h.1,h.2.1,h.2.2.1,h.2.2.2.1,h.2.2.2.2.1,h.2.2.2.2.2.1,h.2.2.2.2.2.2.1,h.2.2.2.2.2.2.2.1,h.2.2.2.2.2.2.2.2.1,m, -1, -1⟩
theorem QuK {h:QO} {l:List TwoD} {m:List Int} (h1:hartM h=0) (hL:OkL l m):OkS (Mc.of h m) l:=by
 unfold hartM at h1;split at h1
 ·rename_i c1;split at h1
  ·rename_i c2;split at h1
   ·rename_i c3;split at h1
    ·rename_i c4;split at h1
     ·rename_i c5;simp only [inB,Bool.and_eq_true,decide_eq_true_eq] at c4;exact ⟨⟨c1.1,Qao.1 c2.1,c1.2.2⟩,QfI.1 c2.2.1,⟨c1.2.1,Qao.1 c2.2.2.1,c5.1,c5.2.1,c5.2.2.1,c5.2.2.2.1,c5.2.2.2.2⟩,⟨c3.1,Qao.1 c2.2.2.2.1⟩,⟨c3.2,Qao.1 c2.2.2.2.2⟩,c4,hL⟩
     ·omega
    ·omega
   ·omega
  ·omega
 ·omega
theorem Qpf (h:QO) (hh:Qdi 1048576 h):F_al (h,())=some ((h,()),()):=by
 obtain ⟨h1,h2,h3,h4⟩:=hh;unfold F_al;dsimp only;rw [if_pos (by simp; omega),if_pos (by simp; omega),if_pos (by simp; omega),if_pos (by simp; omega)]
 rfl
theorem Qra (h:QO) (hh:Qdi 1048576 h):F_dm (h,())=some ((h,()),()):=by
 obtain ⟨h1,h2,h3,h4⟩:=hh;unfold F_dm;dsimp only;rw [QcQ h1,Obn,QcQ h2,Obn,QcQ h3,Obn,QcQ h4,Obn]
theorem QrL (h:QO) (l:List TwoD) (m:List Int) (hh:Qdi 1048576 h) (hm:m.length≤1048576):F_am (h,l,m,())=some (((Mc.of h m).bus l,()),()):=by
 unfold F_am F_ak;dsimp only;rw [if_pos (by simp; omega),Obn,Qpf h hh,Obn]
 rfl
def Qcn (l:List TwoD):Nat→Int→Int→Mc→Int×Int×Mc
 | 0,c,g,s=>(c,g,s)
 | k+1,c,g,s=>Qcn l k (if 0≤(Qai s l).fall then (Qai s l).fall else c) (if 0≤(Qai s l).ring then (Qai s l).ring else g) (Qai s l)
abbrev QuE:=Int×Int×Int×List Int×Int×List Int×Bool×Bool×Bool×Int×List Int×List Int×List Int×Unit
def Qof (c:Int):QuE:=(c,0,0,[],0,[],false,false,false,0,[],[],[],())
def Mc.res (s:Mc) (c g:Int):QuE:=(0,c,g,s.r,s.pc,s.cs,s.ha,s.wa,s.ru,s.dn,s.iq,s.oq,s.m,())
theorem QjY (l:List TwoD) (n:Int) (h0:0≤n∧n≤500) (s0:Mc) (h:OkS s0 l): ∀(i:Nat) (x:Int×Int×Mc),i≤n.toNat→OkS x.2.2 l→
  Qd l_fd_4 lots (((),(),x.1,x.2.1,n,((i:Nat):Int),()),(Qof 0,x.2.2.core l,()),())=
   some (.inl (((),(),(Qcn l (n.toNat-i) x.1 x.2.1 x.2.2).1,(Qcn l (n.toNat-i) x.1 x.2.1 x.2.2).2.1,()),(Qof 0,(Qcn l (n.toNat-i) x.1 x.2.1 x.2.2).2.2.core l,()),())):=by
 have key:=QgU (step:=l_fd_4) (γ:=denO o_fd_4) (fun i (x:Int×Int×Mc)=>(((),(),x.1,x.2.1,n,((i:Nat):Int),()),(Qof 0,x.2.2.core l,()),())) n.toNat (Qbv (by omega)) (fun _ x=>OkS x.2.2 l)
  (fun i x=>some (.inl (((),(),(Qcn l (n.toNat-i) x.1 x.2.1 x.2.2).1,(Qcn l (n.toNat-i) x.1 x.2.1 x.2.2).2.1,()),(Qof 0,(Qcn l (n.toNat-i) x.1 x.2.1 x.2.2).2.2.core l,()),()))) ?_
 ·exact key
 ·rintro rec i ⟨c,g,s⟩ hi hok ih;unfold l_fd_4;dsimp only at*;by_cases hlt:i< n.toNat
  ·rw [if_pos (QD.2 (by omega)),Qoz hok,Obn]
   have e1:n.toNat-i=n.toNat-(i+1)+1:=by omega
   have ih2:=ih (if 0≤(Qai s l).fall then (Qai s l).fall else c,if 0≤(Qai s l).ring then (Qai s l).ring else g,Qai s l) hlt (QjG hok)
   dsimp only;rw [Qaa (by omega),e1]
   simp only [Qcn];rw [←ih2];unfold Mc.core;dsimp only;by_cases hf:0≤(Qai s l).fall
   ·rw [if_pos (Qba.2 hf),if_pos hf];by_cases hg:0≤(Qai s l).ring
    ·rw [if_pos (Qba.2 hg),if_pos hg]
    ·rw [if_neg (by rw [Qba]; exact hg),if_neg hg]
   ·rw [if_neg (by rw [Qba]; exact hf),if_neg hf]
    by_cases hg:0≤(Qai s l).ring
    ·rw [if_pos (Qba.2 hg),if_pos hg]
    ·rw [if_neg (by rw [Qba]; exact hg),if_neg hg]
  ·have:i=n.toNat:=by omega
   subst this;rw [if_neg (by rw [QD]; omega),Nat.sub_self]
   rfl
theorem QoF (l:List TwoD) (a b:Int) (s:Mc): ∀(k:Nat) (c g:Int),(Qcn l k c g { s with ring:=a,fall:=b }).1=(Qcn l k c g s).1∧(Qcn l k c g { s with ring:=a,fall:=b }).2.1=(Qcn l k c g s).2.1∧
  ∀x y,(Qcn l k c g { s with ring:=a,fall:=b }).2.2.res x y=(Qcn l k c g s).2.2.res x y
 | 0,_,_=>⟨rfl,rfl,fun _ _=>rfl⟩
 | k+1,_,_=>⟨rfl,rfl,fun _ _=>rfl⟩
theorem Qka (h:QO) (l:List TwoD) (m:List Int) (n:Int) (hh:Qdi 1048576 h) (hm:m.length≤1048576) (ho:OkS (Mc.of h m) l) (hn:0≤n∧n≤500):F_fd (h,l,m,n,())=
  some (((Qcn l n.toNat (-1) (-1) (Mc.of h m)).2.2.res (Qcn l n.toNat (-1) (-1) (Mc.of h m)).1 (Qcn l n.toNat (-1) (-1) (Mc.of h m)).2.1,()),()):=by
 have ho2:OkS { Mc.of h m with ring:=0,fall:=0 } l:=⟨ho.r,ho.pc,ho.c,ho.i,ho.o,ho.d,ho.l⟩
 have key:=QjY l n hn _ ho2 0 (-1, -1,{ Mc.of h m with ring:=0,fall:=0 }) (by omega) ho2
 obtain ⟨q1,q2,q3⟩:=QoF l 0 0 (Mc.of h m) n.toNat (-1) (-1);unfold F_fd;dsimp only;rw [Qra h hh,Obn,QcQ hm,Obn];show (Qd l_fd_4 lots (((),(),(-1),(-1),n,(((0:Nat):Nat):Int),()),(Qof 0,Mc.core { Mc.of h m with ring:=0,fall:=0 } l,()),())).bind _=_
 rw [key, ←q1, ←q2, ←q3];rfl
section
variable {l:List TwoD} {s:Mc}
def FR (s:Mc):Prop:=(s.fall= -1∨0≤s.fall)∧(s.ring= -1∨0≤s.ring)
theorem FR.trap (h:FR s) {cause tval:Int} (hc:0≤cause):FR (s.trap cause tval):=⟨.inr hc,h.2⟩
theorem Qtq (k w:Int):Qik k w= -1∨0≤Qik k w:=by
 unfold Qik; split
 ·exact .inr (Qag w).1
 ·exact .inl rfl
theorem QuY (h:FR s) (op d a i:Int):FR (exM s l op d a i).2.2.2:=by
 unfold exM
 let P:Bool×Int×Int×Mc→Prop:=fun x=>FR x.2.2.2
 refine Qj P (fun _=>h) fun _=>Qj P (fun _=>h) fun _=>Qj P (fun _=>Qj P (fun _=>h.trap (by omega)) fun _=>Qj P (fun _=>h) fun _=>h) fun _=>
  Qj P (fun _=>Qj P (fun _=>h.trap (by omega)) fun _=>Qj P (fun _=>⟨h.1,Qtq _ _⟩) fun _=>h) fun _=>Qj P (fun _=>h) fun _=>Qj P (fun _=>h) fun _=>Qj P (fun _=>h) fun _=>
  Qj P (fun _=>h) fun _=>Qj P (fun _=>h) fun _=>Qj P (fun _=>h.trap (by omega)) fun _=>Qj P (fun _=>h) fun _=>Qj P (fun _=>h) fun _=>Qj P (fun _=>h) fun _=>h
theorem Qsp (h:FR s) (op d a i:Int):FR (doM s l op d a i).2:=by
 have he:=QuY (l:=l) h op d a i;unfold doM;dsimp only;exact Qj (fun x:Bool×Mc=>FR x.2) (fun _=>he) fun _=>he
theorem Qqc (h:FR s):FR (runM s l):=by
 unfold runM;refine Qj FR (fun _=>h.trap (by omega)) fun _=>Qj FR (fun _=>?_) fun _=>h.trap (by omega)
 exact Qj FR (fun _=>Qsp (l:=l) h _ _ _ _) fun _=>Qsp h _ _ _ _
theorem QnR (s:Mc) (l:List TwoD):FR (Qai s l):=by
 have h0:FR { s with ring:= -1,fall:= -1 }:=⟨.inl rfl,.inl rfl⟩
 have h1:FR { s with ring:= -1,fall:= -1,wa:=false }:=⟨.inl rfl,.inl rfl⟩
 unfold Qai;refine Qj FR (fun _=>h0) fun _=>Qj FR (fun hk=>h0.trap (Int.add_nonneg (by decide) hk)) fun _=>Qj FR (fun _=>Qj FR (fun _=>h0) fun _=>Qqc h1) fun _=>Qqc h0
end
theorem QsZ {x:QbC} (h:QcM x=0):OkS (Mc.of x.1 x.2.2.1) x.2.1:=by
 obtain ⟨h1,h2,h3,h4⟩:=QfP h;obtain ⟨hl,hp⟩:=QoO (by decide) h2
 refine QuK h1 ⟨hl,fun p hpm=>?_,?_,by omega⟩
 ·have:=hp p hpm;refine ⟨by omega,this.2,?_⟩
  rw [h4]; omega
 ·have hm:=QfZ h3;unfold QJ at h3;rw [if_pos hm] at h3;split at h3
  ·exact Qao.1 ‹_›
  ·omega
abbrev SrcD:=List Int×Int×Unit
def Sr (s:SrcD) (k:Int):Prop:=Byt s.1∧0≤s.2.1∧s.2.1≤k
theorem Sr.le {s:SrcD} {k k':Int} (h:Sr s k) (hk:k≤k'):Sr s k':=⟨h.1,h.2.1,Int.le_trans h.2.2 hk⟩
theorem Sr.pos {s:SrcD} {k:Int} (h:Sr s k):0≤k:=Int.le_trans h.2.1 h.2.2
def Dr {X:Type} (o:Option X) (P:X→Prop):Prop:= ∃v,o=some v∧P v
theorem Dr.bind {X Y:Type} {o:Option X} {f:X→Option Y} {Q:X→Prop} {P:Y→Prop} (h:Dr o Q) (g: ∀v,Q v→Dr (f v) P):Dr (o.bind f) P:=by
 obtain ⟨v,rfl,hv⟩:=h;exact g v hv
theorem Dr.ret {X:Type} {v:X} {P:X→Prop} (h:P v):Dr (some v) P:=⟨v,rfl,h⟩
end Go.Proofs.YticbdcmkcghijaaGreatDoor
