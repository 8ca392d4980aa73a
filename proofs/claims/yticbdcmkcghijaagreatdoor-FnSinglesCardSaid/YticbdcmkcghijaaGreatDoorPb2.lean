/- Plain laws: what the functions compute, and that both programs compute the same. -/
import Derived.Test.YticbdcmkcghijaaGreatDoorPb1
namespace Go.Proofs.YticbdcmkcghijaaGreatDoor
open Go Go.RowKit S Go.Proofs
set_option maxRecDepth 100000
theorem Qbq (x):F_ek x=some ((wd x.1,()),()):=Qgo x.1
def sg (n:Int):Int:=if wd n< 2147483648 then wd n else wd n-4294967296
theorem QeG (n:Int):F_bf (n,())=some ((sg n,()),()):=by
 unfold F_bf sg
 simp only [Qdz]
 have h:=Qae n
 generalize wd n=w at*
 unfold WW at h
 have e:IntKind.i64.wrap (IntKind.i32.wrap w)=if w< 2147483648 then w else w-4294967296:=by
  rw [IntKind.wrap_i64,IntKind.wrap_i32]
  split <;> omega
 rw [e]
theorem QdR (x):F_bf x=some ((sg x.1,()),()):=QeG x.1
theorem Qew (n:Int):F_es (n,())=some ((sg n,()),()):=by
 unfold F_es sg
 simp only [Qbq,Obn]
 have h:=Qae n
 generalize wd n=w at*
 unfold WW at h
 by_cases hw:w< 2147483648
 ·rw [if_pos (QB.2 hw),if_pos hw]
 ·rw [if_neg (by rw [QB]; exact hw),if_neg hw,Qw (n:=w-4294967295) (by omega) (by omega),Qw (n:=w-4294967295-1) (by omega) (by omega),show w-4294967295-1=w-4294967296 by omega]
theorem QdN (x):F_es x=some ((sg x.1,()),()):=Qew x.1
theorem Qvd (n:Int): -2147483648≤sg n∧sg n≤2147483647:=by
 unfold sg; have:=Qae n; unfold WW at this; split <;> omega
theorem QfL (n:Int):sg n=0↔wd n=0:=by
 unfold sg; have:=Qae n; unfold WW at this; split <;> omega
def addW (a b:Int):Int:=wd (a+b)
theorem Qdd (a b:Int):F_ay (a,b,())=some ((addW a b,()),()):=by
 unfold F_ay addW
 simp only [Qdz,Qeu,show wd (wd a+wd b)=wd (a+b) by unfold wd; omega]
theorem Qpo (x):F_ay x=some ((addW x.1 x.2.1,()),()):=Qdd x.1 x.2.1
theorem Qfy (a b:Int):F_el (a,b,())=some ((addW a b,()),()):=by
 unfold F_el addW
 simp only [Qbq,Obn]
 have ha:=Qae a; have hb:=Qae b
 unfold WW at ha hb
 rw [Qw (by omega) (by omega),show wd (wd a+wd b)=wd (a+b) by unfold wd; omega]
theorem QoD (x):F_el x=some ((addW x.1 x.2.1,()),()):=Qfy x.1 x.2.1
theorem Qkp (a b:Int):WW (addW a b):=Qae _
theorem QtV (n:Int):IntKind.i16.wrap n=(n+32768) % 65536-32768:=by
 simp only [IntKind.wrap,IntKind.bits,IntKind.signed,Bool.true_and,ge_iff_le,decide_eq_true_eq,Int.reducePow,Nat.reduceSub]
 split <;> omega
def off (n:Int):Int:=if 32768≤n % 65536 then n % 65536-65536 else n % 65536
theorem Qlo (n:Int):F_az (n,())=some ((off n,()),()):=by
 unfold F_az off
 have e:IntKind.i64.wrap (IntKind.i16.wrap (IntKind.u16.wrap n))=if 32768≤n % 65536 then n % 65536-65536 else n % 65536:=by
  rw [IntKind.wrap_i64,QtV,IntKind.wrap_u16]
  split <;> omega
 simp only [e]
theorem Qrn (n:Int):F_em (n,())=some ((off n,()),()):=by
 unfold F_em off
 simp only [QoT]
 by_cases h:32768≤n % 65536
 ·rw [if_pos (Qbb.2 h),if_pos h,Qw (by omega) (by omega)]
 ·rw [if_neg (by rw [Qbb]; exact h),if_neg h]
def mulW (a b:Int):Int:=wd (wd a*wd b)
theorem QrY (a b:Int):F_bj (a,b,())=some ((mulW a b,()),()):=by
 unfold F_bj mulW; simp only [Qdz,Qeu]
theorem Qpv (x):F_bj x=some ((mulW x.1 x.2.1,()),()):=QrY x.1 x.2.1
theorem Qrm (a b:Int):F_ev (a,b,())=some ((mulW a b,()),()):=by
 unfold F_ev mulW; simp only [Qdz,Qeu]
theorem QoI (x):F_ev x=some ((mulW x.1 x.2.1,()),()):=Qrm x.1 x.2.1
theorem Qqy (a b:Int) (h: -2147483648≤a∧a≤2147483647): -2147483648≤a.tdiv b∧a.tdiv b≤2147483648:=by
 have h1:(a.tdiv b).natAbs=a.natAbs / b.natAbs:=Int.natAbs_tdiv a b
 have h2:a.natAbs / b.natAbs≤a.natAbs:=Nat.div_le_self _ _
 omega
def divW (a b:Int):Int:=if wd b=0 then 4294967295 else wd ((sg a).tdiv (sg b))
theorem QrS (a b:Int):F_bk (a,b,())=some ((divW a b,()),()):=by
 unfold F_bk divW
 simp only [Qim,QdR,Obn]
 by_cases h:wd b=0
 ·rw [if_pos (by simpa using h),if_pos h]
 ·have hs: ¬sg b=0:=fun e=>h ((QfL b).1 e)
  have:=Qqy (sg a) (sg b) (Qvd a)
  rw [if_neg (by simpa using h),if_neg h,if_neg hs,Qw (by omega) (by omega)]
theorem Qpu (x):F_bk x=some ((divW x.1 x.2.1,()),()):=QrS x.1 x.2.1
theorem Qrh (a b:Int):F_ew (a,b,())=some ((divW a b,()),()):=by
 unfold F_ew divW
 simp only [Qbq,QdN,Obn]
 by_cases h:wd b=0
 ·rw [if_pos (by simpa using (QfL b).2 h),if_pos h]
 ·have hs: ¬sg b=0:=fun e=>h ((QfL b).1 e)
  have:=Qqy (sg a) (sg b) (Qvd a)
  rw [if_neg (by simpa using hs),if_neg h,if_neg hs,Qw (by omega) (by omega)]
theorem QoG (x):F_ew x=some ((divW x.1 x.2.1,()),()):=Qrh x.1 x.2.1
def remW (a b:Int):Int:=if wd b=0 then wd a else wd ((sg a).tmod (sg b))
theorem Qsa (a b:Int):F_bl (a,b,())=some ((remW a b,()),()):=by
 unfold F_bl remW
 simp only [Qim,QdR,Obn]
 by_cases h:wd b=0
 ·rw [if_pos (by simpa using h),if_pos h]
 ·have hs: ¬sg b=0:=fun e=>h ((QfL b).1 e)
  rw [if_neg (by simpa using h),if_neg h,if_neg hs]
theorem Qpy (x):F_bl x=some ((remW x.1 x.2.1,()),()):=Qsa x.1 x.2.1
theorem Qrp (a b:Int):F_ex (a,b,())=some ((remW a b,()),()):=by
 unfold F_ex remW
 simp only [Qbq,QdN,Obn]
 by_cases h:wd b=0
 ·rw [if_pos (by simpa using (QfL b).2 h),if_pos h]
 ·have hs: ¬sg b=0:=fun e=>h ((QfL b).1 e)
  rw [if_neg (by simpa using hs),if_neg h,if_neg hs]
theorem QoL (x):F_ex x=some ((remW x.1 x.2.1,()),()):=Qrp x.1 x.2.1
theorem QhJ (n:Int): ∃k:Nat,wd n=(k:Int)∧k< 4294967296:=⟨(wd n).toNat,by have:=Qae n; unfold WW at this; omega,by have:=Qae n; unfold WW at this; omega⟩
theorem QfD {k:Nat} (h:k< 4294967296):(BitVec.ofInt 32 (k:Int)).toNat=k:=by
 rw [BitVec.ofInt_natCast,BitVec.toNat_ofNat]; exact Nat.mod_eq_of_lt (by omega)
theorem QfE {k:Nat} (h:k< 4294967296):(BitVec.ofInt 64 (k:Int)).toNat=k:=by
 rw [BitVec.ofInt_natCast,BitVec.toNat_ofNat]; exact Nat.mod_eq_of_lt (by omega)
def bitN (op:Int) (a b:Nat):Nat:=if op=1 then a &&& b else if op=2 then a ||| b else a ^^^ b
def bitW (op a b:Int):Int:=(bitN op (wd a).toNat (wd b).toNat:Int)
theorem QlR (op:Int) {a b:Nat} (ha:a< 4294967296) (hb:b< 4294967296):bitN op a b< 4294967296:=by
 unfold bitN
 split
 ·exact Nat.and_lt_two_pow (n:=32) _ (by omega)
 ·split
  ·exact Nat.or_lt_two_pow (n:=32) (by omega) (by omega)
  ·exact Nat.xor_lt_two_pow (n:=32) (by omega) (by omega)
theorem QqO (op a b:Int):WW (bitW op a b):=by
 obtain ⟨x,hx,hx2⟩:=QhJ a
 obtain ⟨y,hy,hy2⟩:=QhJ b
 unfold bitW WW
 rw [hx,hy]
 have:=QlR op hx2 hy2
 simp only [Int.toNat_natCast]
 omega
theorem QhH (op a b:Int) (h:op=1∨op=2∨op=3):F_bm (op,a,b,())=some (((0,bitW op a b,()),()),()):=by
 unfold F_bm bitW
 simp only [Qdz]
 obtain ⟨x,hx,hx2⟩:=QhJ a
 obtain ⟨y,hy,hy2⟩:=QhJ b
 rw [hx,hy]
 simp only [Int.toNat_natCast]
 have hlt:=QlR op hx2 hy2
 rcases h with rfl | rfl | rfl
 ·rw [if_pos (by decide)]
  show some (((0,IntKind.i64.wrap (IntKind.u32.wrap ((BitVec.ofInt 32 (x:Int) &&& BitVec.ofInt 32 (y:Int)).toNat:Int)),()),()),())=_
  have:bitN 1 x y=x &&& y:=rfl
  rw [BitVec.toNat_and,QfD hx2,QfD hy2, ←this,Qdz,Qeu,QfP (by unfold WW; omega)]
 ·rw [if_neg (by decide),if_pos (by decide)]
  show some (((0,IntKind.i64.wrap (IntKind.u32.wrap ((BitVec.ofInt 32 (x:Int) ||| BitVec.ofInt 32 (y:Int)).toNat:Int)),()),()),())=_
  have:bitN 2 x y=x ||| y:=rfl
  rw [BitVec.toNat_or,QfD hx2,QfD hy2, ←this,Qdz,Qeu,QfP (by unfold WW; omega)]
 ·rw [if_neg (by decide),if_neg (by decide),if_pos (by decide)]
  show some (((0,IntKind.i64.wrap (IntKind.u32.wrap ((BitVec.ofInt 32 (x:Int) ^^^ BitVec.ofInt 32 (y:Int)).toNat:Int)),()),()),())=_
  have:bitN 3 x y=x ^^^ y:=rfl
  rw [BitVec.toNat_xor,QfD hx2,QfD hy2, ←this,Qdz,Qeu,QfP (by unfold WW; omega)]
theorem Qht (op a b:Int) (h:op=1∨op=2∨op=3):F_ey (op,a,b,())=some (((0,bitW op a b,()),()),()):=by
 unfold F_ey bitW
 simp only [Qbq,Obn]
 obtain ⟨x,hx,hx2⟩:=QhJ a
 obtain ⟨y,hy,hy2⟩:=QhJ b
 rw [hx,hy]
 simp only [Int.toNat_natCast]
 have hlt:=QlR op hx2 hy2
 rcases h with rfl | rfl | rfl
 ·rw [if_pos (by decide)]
  show some (((0,IntKind.i64.wrap ((BitVec.ofInt 64 (x:Int) &&& BitVec.ofInt 64 (y:Int)).toNat:Int),()),()),())=_
  have:bitN 1 x y=x &&& y:=rfl
  rw [BitVec.toNat_and,QfE hx2,QfE hy2, ←this,Qw (by omega) (by omega)]
 ·rw [if_neg (by decide),if_pos (by decide)]
  show some (((0,IntKind.i64.wrap ((BitVec.ofInt 64 (x:Int) ||| BitVec.ofInt 64 (y:Int)).toNat:Int),()),()),())=_
  have:bitN 2 x y=x ||| y:=rfl
  rw [BitVec.toNat_or,QfE hx2,QfE hy2, ←this,Qw (by omega) (by omega)]
 ·rw [if_neg (by decide),if_neg (by decide),if_pos (by decide)]
  show some (((0,IntKind.i64.wrap ((BitVec.ofInt 64 (x:Int) ^^^ BitVec.ofInt 64 (y:Int)).toNat:Int),()),()),())=_
  have:bitN 3 x y=x ^^^ y:=rfl
  rw [BitVec.toNat_xor,QfE hx2,QfE hy2, ←this,Qw (by omega) (by omega)]
def shW (a b:Int) (left:Bool):Int:=if left=true then wd (wd a*2 ^ (wd b % 32).toNat) else wd a / 2 ^ (wd b % 32).toNat
theorem QnQ {a:Int} (h:WW a) (k:Nat):WW (a / 2 ^ k):=by
 unfold WW at*
 have h2:(0:Int)< 2 ^ k:=Int.pow_pos (by omega)
 exact ⟨Int.ediv_nonneg h.1 (by omega),Int.le_trans (Int.ediv_le_self _ h.1) h.2⟩
theorem QtG (a b:Int) (l:Bool):WW (shW a b l):=by
 unfold shW; split
 ·exact Qae _
 ·exact QnQ (Qae a) _
theorem QtA {k:Nat} (h:k< 32):(2:Int) ^ k≤2147483648:=by
 have:(2:Nat) ^ k≤2 ^ 31:=Nat.pow_le_pow_right (by omega) (by omega)
 have h2:((2 ^ k:Nat):Int)≤((2 ^ 31:Nat):Int):=Int.ofNat_le.2 this
 simpa using h2
theorem QtK {w:Int} (h:WW w):w.tmod 32=w % 32:=Int.tmod_eq_emod_of_nonneg h.1
theorem QcB {a:Int} (h:0≤a) (k:Nat):a.fdiv (2 ^ k)=a / 2 ^ k:=Int.fdiv_eq_ediv_of_nonneg _ (Int.le_of_lt (Int.pow_pos (by omega)))
theorem QnY (a b:Int) (l:Bool):F_bn (a,b,l,())=some ((shW a b l,()),()):=by
 unfold F_bn shW
 simp only [Qdz,QtK (Qae b)]
 have hw:=Qae a
 have hb:0≤wd b % 32∧wd b % 32< 32:=by omega
 have e:IntKind.u64.wrap (wd b % 32)=wd b % 32:=by rw [IntKind.wrap_u64]; omega
 have e2:min (wd b % 32).toNat 32=(wd b % 32).toNat:=by omega
 rw [e,e2]
 cases l
 ·rw [if_neg (by decide),if_neg (by omega),if_neg (by decide),QcB hw.1]
  have:=QnQ hw (wd b % 32).toNat
  unfold WW at this
  rw [Qw (by omega) (by omega)]
 ·rw [if_pos rfl,if_neg (by omega),if_pos rfl,Qeu]
theorem Qmt (x):F_bn x=some ((shW x.1 x.2.1 x.2.2.1,()),()):=QnY x.1 x.2.1 x.2.2.1
theorem Qnm (a b:Int) (l:Bool):F_ez (a,b,l,())=some ((shW a b l,()),()):=by
 unfold F_ez shW
 simp only [Qbq,Obn,QtK (Qae b)]
 have hw:=Qae a
 have hb:0≤wd b % 32∧wd b % 32< 32:=by omega
 have e2:min (wd b % 32).toNat 64=(wd b % 32).toNat:=by omega
 rw [e2]
 cases l
 ·rw [if_neg (by decide),if_neg (by omega),if_neg (by decide),QcB hw.1]
 ·rw [if_pos rfl,if_neg (by omega),if_pos rfl]
  have h1:=QtA (k:=(wd b % 32).toNat) (by omega)
  have h0:(0:Int)< 2 ^ (wd b % 32).toNat:=Int.pow_pos (by omega)
  unfold WW at hw
  generalize (2:Int) ^ (wd b % 32).toNat=p at*
  have q0:0≤wd a*p:=Int.mul_nonneg hw.1 (by omega)
  have q1:wd a*p≤4294967295*2147483648:=Int.mul_le_mul hw.2 h1 (by omega) (by omega)
  rw [Qw (by omega) (by omega)]
theorem Qmc (x):F_ez x=some ((shW x.1 x.2.1 x.2.2.1,()),()):=Qnm x.1 x.2.1 x.2.2.1
def aluW (op a b:Int):Int:=
 if op=1 then addW a b else if op=2 then wd (wd a-wd b) else if op=3 then mulW a b else if op=4 then divW a b else if op=5 then remW a b
 else if op=6 then bitW 1 a b else if op=7 then bitW 2 a b else if op=8 then bitW 3 a b else if op=9 then shW a b true else if op=10 then shW a b false
 else if sg a< sg b then 1 else 0
theorem QqI (op a b:Int):WW (aluW op a b):=by
 unfold aluW
 have hd:WW (divW a b):=by unfold divW; split; unfold WW; omega; exact Qae _
 have hr:WW (remW a b):=by unfold remW; split <;> exact Qae _
 repeat' split
 all_goals first | exact Qkp _ _ | exact Qae _ | exact hd | exact hr | exact QqO _ _ _ | exact QtG _ _ _ | (unfold WW; omega)
theorem QrQ (op a b:Int):F_bo (op,a,b,())=some ((aluW op a b,()),()):=by
 unfold F_bo aluW
 simp only [Qpo,Qpv,Qpu,Qpy,Qmt,QdR,Obn,Qdz,Qeu]
 by_cases h1:op=1
 ·subst h1; rfl
 rw [if_neg (by simpa using h1),if_neg h1]
 by_cases h2:op=2
 ·subst h2; rfl
 rw [if_neg (by simpa using h2),if_neg h2]
 by_cases h3:op=3
 ·subst h3; rfl
 rw [if_neg (by simpa using h3),if_neg h3]
 by_cases h4:op=4
 ·subst h4; rfl
 rw [if_neg (by simpa using h4),if_neg h4]
 by_cases h5:op=5
 ·subst h5; rfl
 rw [if_neg (by simpa using h5),if_neg h5]
 by_cases h6:op=6
 ·subst h6
  rw [if_pos (by decide),if_pos rfl,show IntKind.i64.wrap (IntKind.i64.wrap ((6:Int)-6)+1)=1 from by decide+kernel,QhH 1 a b (by omega)]; rfl
 rw [if_neg (by simpa using h6),if_neg h6]
 by_cases h7:op=7
 ·subst h7
  rw [if_pos (by decide),if_pos rfl,show IntKind.i64.wrap (IntKind.i64.wrap ((7:Int)-6)+1)=2 from by decide+kernel,QhH 2 a b (by omega)]; rfl
 rw [if_neg (by simpa using h7),if_neg h7]
 by_cases h8:op=8
 ·subst h8
  rw [if_pos (by decide),if_pos rfl,show IntKind.i64.wrap (IntKind.i64.wrap ((8:Int)-6)+1)=3 from by decide+kernel,QhH 3 a b (by omega)]; rfl
 rw [if_neg (by simpa using h8),if_neg h8]
 by_cases h9:op=9
 ·subst h9; rfl
 rw [if_neg (by simpa using h9),if_neg h9]
 by_cases h10:op=10
 ·subst h10; rfl
 rw [if_neg (by simpa using h10),if_neg h10]
 by_cases h:sg a< sg b
 ·rw [if_pos (QB.2 h),if_pos h]
 ·rw [if_neg (by rw [QB]; exact h),if_neg h]
theorem Qrf (op a b:Int) (ha:WW a) (hb:WW b) (h:1≤op∧op≤11):F_fa (op,a,b,())=some (((0,aluW op a b,()),()),()):=by
 unfold F_fa aluW
 simp only [Qbq,Obn,QfP ha,QfP hb,QoD,QoI,QoG,QoL,Qmc,QdN]
 by_cases h1:op=1
 ·subst h1; rfl
 rw [if_neg (by simpa using h1),if_neg h1]
 by_cases h2:op=2
 ·subst h2
  unfold WW at ha hb
  rw [if_pos (by decide),if_pos rfl,Qw (by omega) (by omega)]
 rw [if_neg (by simpa using h2),if_neg h2]
 by_cases h3:op=3
 ·subst h3; rfl
 rw [if_neg (by simpa using h3),if_neg h3]
 by_cases h4:op=4
 ·subst h4; rfl
 rw [if_neg (by simpa using h4),if_neg h4]
 by_cases h5:op=5
 ·subst h5; rfl
 rw [if_neg (by simpa using h5),if_neg h5]
 by_cases h6:op=6
 ·subst h6
  rw [if_pos (by decide),if_pos rfl,show IntKind.i64.wrap (IntKind.i64.wrap ((6:Int)-6)+1)=1 from by decide+kernel,Qht 1 a b (by omega)]; rfl
 rw [if_neg (by simpa using h6),if_neg h6]
 by_cases h7:op=7
 ·subst h7
  rw [if_pos (by decide),if_pos rfl,show IntKind.i64.wrap (IntKind.i64.wrap ((7:Int)-6)+1)=2 from by decide+kernel,Qht 2 a b (by omega)]; rfl
 rw [if_neg (by simpa using h7),if_neg h7]
 by_cases h8:op=8
 ·subst h8
  rw [if_pos (by decide),if_pos rfl,show IntKind.i64.wrap (IntKind.i64.wrap ((8:Int)-6)+1)=3 from by decide+kernel,Qht 3 a b (by omega)]; rfl
 rw [if_neg (by simpa using h8),if_neg h8]
 by_cases h9:op=9
 ·subst h9; rfl
 rw [if_neg (by simpa using h9),if_neg h9]
 by_cases h10:op=10
 ·subst h10; rfl
 rw [if_neg (by simpa using h10),if_neg h10,if_pos (by simpa using (show op=11 by omega))]
 by_cases h:sg a< sg b
 ·rw [if_pos (QB.2 h),if_pos h]
 ·rw [if_neg (by rw [QB]; exact h),if_neg h]
structure OkC (cs:List Int):Prop where
 len:cs.length=11
 words: ∀w∈cs,WW w
 st:cs.getD 0 0≤3
 msk:cs.getD 7 0≤7
 tb:cs.getD 10 0≤8
 pd:cs.getD 6 0=0
 tm:cs.getD 8 0=0
structure OkR (r:List Int):Prop where
 len:r.length=16
 words: ∀w∈r,WW w
 zero:r.getD 0 0=0
structure OkQ (q:List Int):Prop where
 len:q.length≤40
 words: ∀w∈q,WW w
structure OkL (l:List TwoD) (m:List Int):Prop where
 len:l.length=8
 pgs: ∀p∈l,(-1≤p.1∧p.1≤23)∧(0≤p.2.1∧p.2.1≤7)∧8*p.1+8≤(m.length:Int)
 words: ∀w∈m,WW w
 mlen:m.length≤192
theorem QaC {α:Type} {l:List α} {k:Nat} {d:α} (h:k< l.length):l.getD k d∈l:=by
 rw [List.getD_eq_getElem?_getD,List.getElem?_eq_getElem h]; exact List.getElem_mem h
theorem Qcp {α:Type} {l:List α} {k:Nat} (d:α) (h:k< l.length):l[k]?=some (l.getD k d):=by
 rw [List.getD_eq_getElem?_getD,List.getElem?_eq_getElem h]; rfl
theorem Qr {α γ:Type} {l:List α} {i:Int} (d:α) (h:i.toNat< l.length) (K:α→Option γ):(l[i.toNat]?).bind K=K (l.getD i.toNat d):=by
 rw [Qcp d h]; rfl
theorem OkC.w {cs:List Int} (h:OkC cs) {k:Nat} (hk:k< 11):WW (cs.getD k 0):=h.words _ (QaC (by rw [h.len]; exact hk))
theorem OkR.w {cs:List Int} (h:OkR cs) {k:Nat} (hk:k< 16):WW (cs.getD k 0):=h.words _ (QaC (by rw [h.len]; exact hk))
def Qds (cs:List Int) (ru:Bool) (dn:Int) (iq:List Int):Int:=
 (if cs.getD 9 0≠0∧cs.getD 9 0≤dn then 1 else 0)+(if ru=true then 2 else 0)+(if 0< iq.length then 4 else 0)
theorem QgW (cs:List Int) (ru:Bool) (dn:Int) (iq:List Int):0≤Qds cs ru dn iq∧Qds cs ru dn iq≤7:=by
 unfold Qds; repeat' split
 all_goals omega
section
variable {r cs iq oq:List Int} {pc dn:Int} {ha wa ru:Bool}
theorem QeF (hc:OkC cs):F_an ((r,pc,cs,ha,wa,ru,dn,iq,oq,()),())=some ((Qds cs ru dn iq,()),()):=by
 unfold F_an Qds
 dsimp only
 have e3:ltI 0 ((iq.length:Nat):Int)=decide (0< iq.length):=by
  have:=ltN (a:=0) (b:=iq.length)
  simpa using this
 rw [Qr 0 (by rw [hc.len]; decide)]
 simp only [e3,show ((9:Int)).toNat=9 from rfl,Qcp (l:=cs) (k:=9) 0 (by rw [hc.len]; decide),Obn]
 generalize cs.getD 9 0=a
 by_cases h1:a=0
 ·cases ru <;> by_cases h3:0< iq.length <;> simp [h1,h3]
 ·by_cases h2:a≤dn <;> cases ru <;> by_cases h3:0< iq.length <;> simp [h1,h2,h3,Qan]
theorem Qev (hc:OkC cs):F_dv ((r,pc,cs,ha,wa,ru,dn,iq,oq,()),())=some ((Qds cs ru dn iq,()),()):=by
 have o1:ior .i64 0 1=1:=by decide+kernel
 have o2:ior .i64 1 2=3:=by decide+kernel
 have o3:ior .i64 3 4=7:=by decide+kernel
 have o4:ior .i64 1 4=5:=by decide+kernel
 have o5:ior .i64 0 2=2:=by decide+kernel
 have o6:ior .i64 2 4=6:=by decide+kernel
 have o7:ior .i64 0 4=4:=by decide+kernel
 unfold F_dv Qds
 dsimp only
 have e3:ltI 0 ((iq.length:Nat):Int)=decide (0< iq.length):=by
  have:=ltN (a:=0) (b:=iq.length)
  simpa using this
 rw [Qr 0 (by rw [hc.len]; decide)]
 simp only [e3,show ((9:Int)).toNat=9 from rfl,Qcp (l:=cs) (k:=9) 0 (by rw [hc.len]; decide),Obn,o1,o2,o3,o4,o5,o6,o7]
 generalize cs.getD 9 0=a
 by_cases h1:a=0
 ·cases ru <;> by_cases h3:0< iq.length <;> simp [h1,h3]
 ·by_cases h2:a≤dn <;> cases ru <;> by_cases h3:0< iq.length <;> simp [h1,h2,h3,Qan]
def lowB (v:Int):Int:=if v % 2=1 then 0 else if v / 2 % 2=1 then 1 else if v / 4 % 2=1 then 2 else -1
def dueM (cs:List Int) (ru:Bool) (dn:Int) (iq:List Int):Int:=if cs.getD 0 0 % 2=0 then -1 else lowB (iand .i64 (Qds cs ru dn iq) (cs.getD 7 0))
theorem QqJ: ∀p:Fin 8, ∀m:Fin 8,0≤iand .i64 ((p.val:Nat):Int) ((m.val:Nat):Int)∧iand .i64 ((p.val:Nat):Int) ((m.val:Nat):Int)≤7:=by decide+kernel
theorem QpP {p m:Int} (h:0≤p∧p≤7) (h2:0≤m∧m≤7):0≤iand .i64 p m∧iand .i64 p m≤7:=by
 have:=QqJ ⟨p.toNat,by omega⟩ ⟨m.toNat,by omega⟩
 simp only [show ((p.toNat:Nat):Int)=p from by omega,show ((m.toNat:Nat):Int)=m from by omega] at this
 exact this
def lowT (v:Int):Option (denO o_l_4):=if lowB v= -1 then some (.inl ((),((),()))) else some (.inr (.inl ((lowB v,()),((),()))))
theorem low0:L_ao_5 (((0:Int),(0,())),((),()))=lowT 0:=by kernel_rfl
theorem low1:L_ao_5 (((1:Int),(0,())),((),()))=lowT 1:=by kernel_rfl
theorem low2:L_ao_5 (((2:Int),(0,())),((),()))=lowT 2:=by kernel_rfl
theorem low3:L_ao_5 (((3:Int),(0,())),((),()))=lowT 3:=by kernel_rfl
theorem low4:L_ao_5 (((4:Int),(0,())),((),()))=lowT 4:=by kernel_rfl
theorem low5:L_ao_5 (((5:Int),(0,())),((),()))=lowT 5:=by kernel_rfl
theorem low6:L_ao_5 (((6:Int),(0,())),((),()))=lowT 6:=by kernel_rfl
theorem low7:L_ao_5 (((7:Int),(0,())),((),()))=lowT 7:=by kernel_rfl
theorem Quq {v:Int} (h:0≤v∧v≤7):L_ao_5 ((v,(0,())),((),()))=lowT v:=by
 have:v=0∨v=1∨v=2∨v=3∨v=4∨v=5∨v=6∨v=7:=by omega
 rcases this with rfl | rfl | rfl | rfl | rfl | rfl | rfl | rfl
 ·exact low0
 ·exact low1
 ·exact low2
 ·exact low3
 ·exact low4
 ·exact low5
 ·exact low6
 ·exact low7
theorem Qup: ∀v:Fin 8,v.val≠0→tzF (IntKind.u64.wrap ((v.val:Nat):Int))=some (lowB ((v.val:Nat):Int))∧lowB ((v.val:Nat):Int)≠ -1:=by decide+kernel
theorem Quo (v:Int): -1≤lowB v∧lowB v≤2:=by
 unfold lowB; repeat' split
 all_goals omega
theorem QrT (hc:OkC cs):F_ao ((r,pc,cs,ha,wa,ru,dn,iq,oq,()),())=some ((dueM cs ru dn iq,()),()):=by
 unfold F_ao dueM
 dsimp only
 rw [QeF hc,Obn]
 dsimp only
 rw [Qr 0 (by rw [hc.len]; decide),Qr 0 (by rw [hc.len]; decide)]
 have hst:=hc.w (k:=0) (by decide)
 have hmk:=hc.w (k:=7) (by decide)
 have hmk2:=hc.msk
 have hb:=QpP (QgW cs ru dn iq) ⟨hmk.1,hmk2⟩
 simp only [show ((7:Int)).toNat=7 from rfl,show ((0:Int)).toNat=0 from rfl,Int.tmod_eq_emod_of_nonneg hst.1]
 generalize iand .i64 (Qds cs ru dn iq) (cs.getD 7 0)=v at*
 by_cases h:cs.getD 0 0 % 2=0
 ·rw [if_pos (by simpa using h),if_pos h]
 ·rw [if_neg (by simpa using h),if_neg h]
  rw [Quq hb]
  unfold lowT
  by_cases hl:lowB v= -1
  ·rw [if_pos hl,hl]; rfl
  ·rw [if_neg hl]; rfl
theorem Qri (hc:OkC cs):F_dx ((r,pc,cs,ha,wa,ru,dn,iq,oq,()),())=some ((dueM cs ru dn iq,()),()):=by
 unfold F_dx dueM
 dsimp only
 rw [Qev hc,Obn]
 dsimp only
 rw [Qr 0 (by rw [hc.len]; decide),Qr 0 (by rw [hc.len]; decide)]
 have hst:=hc.w (k:=0) (by decide)
 have hmk:=hc.w (k:=7) (by decide)
 have hmk2:=hc.msk
 have hb:=QpP (QgW cs ru dn iq) ⟨hmk.1,hmk2⟩
 simp only [show ((7:Int)).toNat=7 from rfl,show ((0:Int)).toNat=0 from rfl,Int.tmod_eq_emod_of_nonneg hst.1]
 generalize iand .i64 (Qds cs ru dn iq) (cs.getD 7 0)=v at*
 by_cases h:cs.getD 0 0 % 2=0
 ·rw [if_neg (by simpa using h),if_pos h]
 ·rw [if_pos (by simpa using h),if_neg h]
  by_cases hv:v=0
  ·subst hv; rfl
  ·rw [if_neg (by simpa using hv)]
   have:=Qup ⟨v.toNat,by omega⟩ (by simp only; omega)
   simp only [show ((v.toNat:Nat):Int)=v from by omega] at this
   unfold F_dw
   dsimp only
   rw [this.1]
   rfl
def Qgd (cs:List Int) (pc cause tval:Int):List Int:=(((cs.set 2 pc).set 3 cause).set 4 tval).set 0 (cs.getD 0 0 % 2*2)
theorem getD_set_ne {l:List Int} {i j:Nat} {y d:Int} (h:i≠j):(l.set i y).getD j d=l.getD j d:=by
 simp [List.getD_eq_getElem?_getD,List.getElem?_set_ne h]
theorem Qfb {l:List Int} {i:Nat} {y d:Int} (h:i< l.length):(l.set i y).getD i d=y:=by
 simp [List.getD_eq_getElem?_getD,List.getElem?_set_self h]
theorem OkC.set {cs:List Int} (h:OkC cs) {k:Nat} {w:Int} (hw:WW w) (hk:k≠6∧k≠8) (h0:k=0→w≤3) (h7:k=7→w≤7) (h10:k=10→w≤8):OkC (cs.set k w):=by
 by_cases hlt:k< 11
 ·refine ⟨by simp [h.len],fun z hz=>?_,?_,?_,?_,?_,?_⟩
  ·rcases List.mem_or_eq_of_mem_set hz with hz | rfl
   ·exact h.words z hz
   ·exact hw
  ·by_cases e:k=0
   ·subst e; rw [Qfb (by rw [h.len]; decide)]; exact h0 rfl
   ·rw [getD_set_ne e]; exact h.st
  ·by_cases e:k=7
   ·subst e; rw [Qfb (by rw [h.len]; decide)]; exact h7 rfl
   ·rw [getD_set_ne e]; exact h.msk
  ·by_cases e:k=10
   ·subst e; rw [Qfb (by rw [h.len]; decide)]; exact h10 rfl
   ·rw [getD_set_ne e]; exact h.tb
  ·rw [getD_set_ne hk.1]; exact h.pd
  ·rw [getD_set_ne hk.2]; exact h.tm
 ·rw [List.set_eq_of_length_le (by rw [h.len]; omega)]; exact h
theorem QtM (hc:OkC cs) (hp:WW pc) {cause tval:Int} (h1:WW cause) (h2:WW tval):OkC (Qgd cs pc cause tval):=by
 unfold Qgd
 have:=hc.w (k:=0) (by decide)
 unfold WW at this
 exact (((hc.set hp (by decide) (fun e=>absurd e (by decide)) (fun e=>absurd e (by decide)) (fun e=>absurd e (by decide))).set h1 (by decide) (fun e=>absurd e (by decide)) (fun e=>absurd e (by decide)) (fun e=>absurd e (by decide))).set h2 (by decide) (fun e=>absurd e (by decide)) (fun e=>absurd e (by decide)) (fun e=>absurd e (by decide))).set
  (by unfold WW; omega) (by decide) (fun _=>by omega) (fun e=>absurd e (by decide)) (fun e=>absurd e (by decide))
theorem QjF (hc:OkC cs) (cause tval:Int):F_ap ((r,pc,cs,ha,wa,ru,dn,iq,oq,()),cause,tval,())=
  some ((),((r,cs.getD 1 0,Qgd cs pc cause tval,ha,false,ru,dn,iq,oq,()),())):=by
 have hst:=hc.w (k:=0) (by decide)
 have hl:=hc.len
 have hw:IntKind.i64.wrap (cs.getD 0 0 % 2*2)=cs.getD 0 0 % 2*2:=Qw (by omega) (by omega)
 unfold F_ap Qgd
 simp only [show ((2:Int)).toNat=2 from rfl,show ((3:Int)).toNat=3 from rfl,show ((4:Int)).toNat=4 from rfl,show ((0:Int)).toNat=0 from rfl,show ((1:Int)).toNat=1 from rfl,
  List.length_set,hl,show (0:Int)≤2∧(2:Int)< ((11:Nat):Int) from by decide,show (0:Int)≤3∧(3:Int)< ((11:Nat):Int) from by decide,show (0:Int)≤4∧(4:Int)< ((11:Nat):Int) from by decide,
  show (0:Int)≤0∧(0:Int)< ((11:Nat):Int) from by decide,show (0:Int)≤1∧(1:Int)< ((11:Nat):Int) from by decide,and_self,if_true]
 rw [Qcp (l:=cs) (k:=2) 0 (by omega),Obn,Qcp (k:=3) 0 (by simp [hl]),Obn,Qcp (k:=4) 0 (by simp [hl]),Obn]
 rw [Qcp (l:=((cs.set 2 pc).set 3 cause).set 4 tval) (k:=0) 0 (by simp [hl]),Obn,Obn]
 rw [getD_set_ne (by decide),getD_set_ne (by decide),getD_set_ne (by decide),Int.tmod_eq_emod_of_nonneg hst.1,hw]
 rw [Qcp (k:=1) 0 (by simp [hl]),Obn]
 rw [getD_set_ne (by decide),getD_set_ne (by decide),getD_set_ne (by decide),getD_set_ne (by decide)]
theorem QoN (hc:OkC cs) (cause tval:Int):F_dy ((r,pc,cs,ha,wa,ru,dn,iq,oq,()),cause,tval,())=
  some ((),((r,cs.getD 1 0,Qgd cs pc cause tval,ha,false,ru,dn,iq,oq,()),())):=QjF hc cause tval
def QiG (cs:List Int):List Int:=cs.set 0 (2+cs.getD 0 0 / 2)
theorem Qsv (hc:OkC cs):OkC (QiG cs):=by
 have:=hc.w (k:=0) (by decide)
 have h3:=hc.st
 unfold WW at this
 exact hc.set (by unfold WW; omega) (by decide) (fun _=>by omega) (fun e=>absurd e (by decide)) (fun e=>absurd e (by decide))
theorem QjD (hc:OkC cs):F_bi ((r,pc,cs,ha,wa,ru,dn,iq,oq,()),())=some ((),((r,cs.getD 2 0,QiG cs,ha,wa,ru,dn,iq,oq,()),())):=by
 have hst:=hc.w (k:=0) (by decide)
 have hl:=hc.len
 unfold WW at hst
 unfold F_bi QiG
 simp only [show ((2:Int)).toNat=2 from rfl,show ((0:Int)).toNat=0 from rfl,hl,show (0:Int)≤2∧(2:Int)< ((11:Nat):Int) from by decide,show (0:Int)≤0∧(0:Int)< ((11:Nat):Int) from by decide,and_self,if_true]
 rw [Qcp (l:=cs) (k:=2) 0 (by omega),Obn,Qcp (l:=cs) (k:=0) 0 (by omega),Obn,Obn]
 rw [Int.tdiv_eq_ediv_of_nonneg hst.1,Qw (n:=cs.getD 0 0 / 2) (by omega) (by omega),Qw (by omega) (by omega)]
theorem QoE (hc:OkC cs):F_eu ((r,pc,cs,ha,wa,ru,dn,iq,oq,()),())=some ((),((r,cs.getD 2 0,QiG cs,ha,wa,ru,dn,iq,oq,()),())):=QjD hc
def getM (cs:List Int) (ru:Bool) (dn:Int) (iq:List Int) (k:Int):Int:=if k=6 then Qds cs ru dn iq else if k=8 then dn else cs.getD k.toNat 0
theorem QrV (hc:OkC cs) {k:Int} (hk:0≤k∧k≤10):F_bh ((r,pc,cs,ha,wa,ru,dn,iq,oq,()),k,())=some ((getM cs ru dn iq k,()),()):=by
 unfold F_bh getM
 dsimp only
 rw [QeF hc,Obn]
 by_cases h6:k=6
 ·rw [if_pos (by simpa using h6),if_pos h6]
 rw [if_neg (by simpa using h6),if_neg h6]
 by_cases h8:k=8
 ·rw [if_pos (by simpa using h8),if_pos h8]
 rw [if_neg (by simpa using h8),if_neg h8,if_pos hk.1,Qr 0 (by rw [hc.len]; omega)]
theorem Qrk (hc:OkC cs) {k:Int} (hk:0≤k∧k≤10):F_et ((r,pc,cs,ha,wa,ru,dn,iq,oq,()),k,())=some ((getM cs ru dn iq k,()),()):=by
 unfold F_et getM
 dsimp only
 rw [Qev hc,Obn]
 by_cases h6:k=6
 ·rw [if_pos (by simpa using h6),if_pos h6]
 rw [if_neg (by simpa using h6),if_neg h6]
 by_cases h8:k=8
 ·rw [if_pos (by simpa using h8),if_pos h8]
 rw [if_neg (by simpa using h8),if_neg h8,if_pos hk.1,Qr 0 (by rw [hc.len]; omega)]
theorem Qrc (hc:OkC cs) {k:Int} (hk:0≤k∧k≤10) (hd:0≤dn∧dn≤1000000000):WW (getM cs ru dn iq k):=by
 unfold getM
 have:=QgW cs ru dn iq
 split
 ·unfold WW; omega
 ·split
  ·unfold WW; omega
  ·exact hc.w (by omega)
def setC (cs:List Int) (k w:Int):List Int:=
 if k=0 then cs.set 0 (wd w % 4) else if k=7 then cs.set 7 (wd w % 8) else if k=10 then cs.set 10 (if wd w≤8 then wd w else 0) else if k=6∨k=8 then cs else cs.set k.toNat (wd w)
def setR (ru:Bool) (k w:Int):Bool:=if k=6∧2≤wd w % 4 then false else ru
theorem QuJ (hc:OkC cs) {k w:Int} (hk:0≤k∧k≤10):OkC (setC cs k w):=by
 have h:=Qae w
 have h':=h
 unfold WW at h'
 unfold setC
 split
 ·exact hc.set (by unfold WW; omega) (by decide) (fun _=>by omega) (fun e=>absurd e (by decide)) (fun e=>absurd e (by decide))
 split
 ·exact hc.set (by unfold WW; omega) (by decide) (fun e=>absurd e (by decide)) (fun _=>by omega) (fun e=>absurd e (by decide))
 split
 ·exact hc.set (by split; exact h; unfold WW; omega) (by decide) (fun e=>absurd e (by decide)) (fun e=>absurd e (by decide)) (fun _=>by split <;> omega)
 split
 ·exact hc
 ·exact hc.set h (by omega) (by omega) (by omega) (by omega)
theorem Qlq (hc:OkC cs) {k:Int} (hk:0≤k∧k≤10) (w:Int):F_bc ((r,pc,cs,ha,wa,ru,dn,iq,oq,()),k,w,())=
  some ((),((r,pc,setC cs k w,ha,wa,setR ru k w,dn,iq,oq,()),())):=by
 have h:=Qae w
 unfold WW at h
 have hin:0≤k∧k< ((cs.length:Nat):Int):=by rw [hc.len]; omega
 have e1:cs[k.toNat]?=some (cs.getD k.toNat 0):=Qcp 0 (by rw [hc.len]; omega)
 unfold F_bc setC setR
 dsimp only
 rw [Qdw,Obn]
 dsimp only
 generalize wd w=v at*
 rw [Int.tmod_eq_emod_of_nonneg h.1,Int.tmod_eq_emod_of_nonneg h.1,e1]
 by_cases h0:k=0
 ·subst h0; simp [hc.len]
 by_cases h7:k=7
 ·subst h7; simp [hc.len]
 by_cases h10:k=10
 ·subst h10
  by_cases h8:v≤8 <;> simp [hc.len,Qan,h8]
 by_cases h6:k=6
 ·subst h6
  cases ru <;> by_cases h2:2≤v % 4 <;> simp [h2,QaD,Qan] <;> omega
 by_cases h8:k=8
 ·subst h8; simp
 have hk11:k< 11:=by omega
 simp [h0,h7,h10,h6,h8,hc.len,hk.1,hk11]
theorem Qhu (hc:OkC cs) {k:Int} (hk:0≤k∧k≤10) (w:Int):F_ep ((r,pc,cs,ha,wa,ru,dn,iq,oq,()),k,w,())=
  some ((),((r,pc,setC cs k w,ha,wa,setR ru k w,dn,iq,oq,()),())):=by
 have h:=Qae w
 unfold WW at h
 have hin:0≤k∧k< ((cs.length:Nat):Int):=by rw [hc.len]; omega
 have e1:cs[k.toNat]?=some (cs.getD k.toNat 0):=Qcp 0 (by rw [hc.len]; omega)
 unfold F_ep setC setR
 dsimp only
 rw [Qgo,Obn]
 dsimp only
 generalize wd w=v at*
 rw [Int.tmod_eq_emod_of_nonneg h.1,Int.tmod_eq_emod_of_nonneg h.1,e1]
 by_cases h0:k=0
 ·subst h0; simp [hc.len]
 by_cases h7:k=7
 ·subst h7; simp [hc.len]
 by_cases h10:k=10
 ·subst h10
  by_cases h8:v≤8 <;> simp [hc.len,Qan,h8]
 by_cases h6:k=6
 ·subst h6
  cases ru <;> by_cases h2:2≤v % 4 <;> simp [h2,QaD,Qan] <;> omega
 by_cases h8:k=8
 ·subst h8; simp
 have hk11:k< 11:=by omega
 simp [h0,h7,h10,h6,h8,hc.len,hk.1,hk11]
end
def mayP (p:TwoD) (kind:Int):Bool:=decide (0≤p.1) && !(iand .i64 p.2.1 kind==0)
def Qad (l:List TwoD) (at_ kind:Int):Int:=
 if 0≤at_∧at_≤63 then (if mayP (l.getD (at_ / 8).toNat (-1,0,())) kind=true then (l.getD (at_ / 8).toNat (-1,0,())).1*8+at_ % 8 else -1) else -1
def QhP (kind:Int):Int:=if kind=1 then 7 else if kind=2 then 8 else 9
structure OkP (l:List TwoD):Prop where
 len:l.length=8
 pgs: ∀p∈l, -1≤p.1∧p.1≤23
theorem OkP.at {l:List TwoD} (h:OkP l) {k:Nat} (hk:k< 8): -1≤(l.getD k (-1,0,())).1∧(l.getD k (-1,0,())).1≤23:=h.pgs _ (QaC (by rw [h.len]; exact hk))
theorem OkL.p {l:List TwoD} {m:List Int} (h:OkL l m):OkP l:=⟨h.len,fun p hp=>(h.pgs p hp).1⟩
theorem QjW {l:List TwoD} (h:OkP l) (at_ kind:Int): -1≤Qad l at_ kind∧Qad l at_ kind≤191:=by
 unfold Qad
 split
 ·have:=h.at (k:=(at_ / 8).toNat) (by omega)
  split
  ·rename_i hm
   simp only [mayP,Bool.and_eq_true,decide_eq_true_eq] at hm
   omega
  ·omega
 ·omega
theorem Qps (kind:Int):F_av (kind,())=some ((QhP kind,()),()):=by
 unfold F_av QhP
 by_cases h1:kind=1
 ·simp [h1]
 ·by_cases h2:kind=2 <;> simp [h1,h2]
theorem QoF {kind:Int} (h:kind=1∨kind=2∨kind=4):F_ef (kind,())=some ((QhP kind,()),()):=by
 rcases h with rfl | rfl | rfl <;> rfl
theorem Qdj (kind:Int):QhP kind≠0:=by
 unfold QhP; repeat' split
 all_goals omega
theorem Qgv {l:List TwoD} (h:OkP l) (at_ kind:Int):F_ar (l,at_,kind,())=some ((Qad l at_ kind,()),()):=by
 unfold F_ar Qad
 dsimp only
 rw [Qcf,Obn]
 dsimp only
 by_cases hin:0≤at_∧at_≤63
 ·rw [if_neg (by simp [hin.1,hin.2]),if_pos hin,Int.tdiv_eq_ediv_of_nonneg hin.1,Qw (by omega) (by omega),if_pos (by omega)]
  rw [Qr ((-1,0,()):TwoD) (by rw [h.len]; omega)]
  have hp:=h.at (k:=(at_ / 8).toNat) (by omega)
  generalize l.getD (at_ / 8).toNat (-1,0,())=p at*
  unfold mayP
  by_cases h0:0≤p.1
  ·rw [if_pos (QaV.2 (by omega))]
   by_cases hk:iand .i64 p.2.1 kind=0
   ·rw [if_pos (by simpa using hk),if_neg (by simp [hk])]
   ·rw [if_neg (by simpa using hk),if_pos (by simp [hk,h0]),Int.tmod_eq_emod_of_nonneg hin.1,Qw (n:=p.1*8) (by omega) (by omega),Qw (by omega) (by omega)]
  ·rw [if_neg (by rw [QaV]; omega),if_neg (by simp [h0])]
 ·rw [if_pos (by simp; omega),if_neg hin]
theorem Qjd {l:List TwoD} (h:OkP l) (at_:Int) {kind:Int} (hkd:kind=1∨kind=2∨kind=4):
  F_eg (l,at_,kind,())=some ((if Qad l at_ kind< 0 then (QhP kind,0,()) else (0,Qad l at_ kind,()),()),()):=by
 unfold F_eg F_ee Qad
 dsimp only
 rw [Qbi,Obn,Obn,QoF hkd,Obn]
 dsimp only
 by_cases hin:0≤at_∧at_≤63
 ·rw [if_pos (by simp [hin.1,hin.2]),if_pos hin,Int.tdiv_eq_ediv_of_nonneg hin.1,Qw (by omega) (by omega),if_pos (by omega)]
  rw [Qr ((-1,0,()):TwoD) (by rw [h.len]; omega),Qr ((-1,0,()):TwoD) (by rw [h.len]; omega),Qr ((-1,0,()):TwoD) (by rw [h.len]; omega)]
  have hp:=h.at (k:=(at_ / 8).toNat) (by omega)
  have h8:0≤at_ / 8:=by omega
  generalize l.getD (at_ / 8).toNat (-1,0,())=p at*
  unfold mayP
  by_cases h0:0≤p.1
  ·rw [if_pos (QaV.2 (by omega)),if_pos h8]
   by_cases hk:iand .i64 p.2.1 kind=0
   ·rw [if_pos (by simpa using hk),if_neg (c:=(decide (0≤p.1) && !(iand .i64 p.2.1 kind==0))=true) (by simp [hk]),if_pos (by decide)]
   ·rw [if_neg (by simpa using hk),if_pos h8,if_pos (c:=(decide (0≤p.1) && !(iand .i64 p.2.1 kind==0))=true) (by simp [hk,h0]),Int.tmod_eq_emod_of_nonneg hin.1,
     Qw (n:=p.1*8) (by omega) (by omega),Qw (by omega) (by omega),if_neg (by omega)]
  ·rw [if_neg (by rw [QaV]; omega),if_neg (c:=(decide (0≤p.1) && !(iand .i64 p.2.1 kind==0))=true) (by simp [h0]),if_pos (by decide)]
 ·rw [if_neg (by simp; omega),if_neg hin,if_pos (by decide)]
def entM (w:Int):TwoD:=if w % 8≠0∧w / 8< 8 then (w / 8,w % 8,()) else (-1,0,())
theorem QrU {w:Int} (h:WW w):F_as (w,())=some ((entM w,()),()):=by
 unfold WW at h
 unfold F_as entM F_ai
 dsimp only
 rw [Int.tdiv_eq_ediv_of_nonneg h.1,Int.tmod_eq_emod_of_nonneg h.1,Qw (by omega) (by omega)]
 by_cases h1:w % 8=0
 ·simp [h1]
 ·by_cases h2:w / 8< 8
  ·have: ¬(8:Int)≤w / 8:=by omega
   simp [h1,h2,Qan,this]
  ·have:(8:Int)≤w / 8:=by omega
   simp [h1,h2,Qan,this]
theorem Qrj {w:Int} (h:WW w):F_eb (w,())=some ((entM w,()),()):=by
 unfold WW at h
 unfold F_eb entM F_dq
 dsimp only
 rw [Int.tdiv_eq_ediv_of_nonneg h.1,Int.tmod_eq_emod_of_nonneg h.1,Qw (by omega) (by omega)]
 by_cases h1:w % 8=0
 ·simp [h1]
 ·by_cases h2:w / 8< 8
  ·have: ¬(8:Int)≤w / 8:=by omega
   simp [h1,h2,Qan,this]
  ·have:(8:Int)≤w / 8:=by omega
   simp [h1,h2,Qan,this]
theorem Quf {w:Int} (h:WW w): -1≤(entM w).1∧(entM w).1≤7:=by
 unfold WW at h
 unfold entM; split
 ·simp only; omega
 ·simp only; omega
theorem QfF {w:Int}:okW w=true↔WW w:=by unfold okW WW; simp
theorem Qao {m:List Int}:allW m=true↔ ∀w∈m,WW w:=by
 unfold allW; rw [List.all_eq_true]; exact ⟨fun h w hw=>QfF.1 (h w hw),fun h w hw=>QfF.2 (h w hw)⟩
theorem QjM {α:Type} {l:List α} {i:Nat} (h:i< l.length):l.take (i+1)=l.take i++[l[i]]:=by rw [List.take_add_one,List.getElem?_eq_getElem h]; rfl
theorem Qip {ws:List Int} (hl:ws.length=8) (hw: ∀w∈ws,WW w):F_at (ws,())=some (((0,ws.map entM,()),()),()):=by
 have key:=Qff (step:=l_at_5) (γ:=denO o_at_5) (fun k (s:List TwoD)=>((ws,(),(),((k:Nat):Int),()),((0,[],()),((0,s,()),())),())) 8 (QaO (by omega)) (fun k s=>s=(ws.take k).map entM)
  (fun _ _=>some (.inl (((),(),()),(((0,[],()),((0,ws.map entM,()),())),())))) ?_ 0 [] (by omega) (by simp)
 ·unfold F_at
  dsimp only
  rw [if_neg (by rw [hl]; decide)]
  show (Qd l_at_5 lots ((ws,(),(),0,()),((0,[],()),((0,[],()),())),())).bind _=_
  rw [show ((0:Int))=(((0:Nat):Nat):Int) from rfl] at*
  rw [key]
  rfl
 ·intro rec i s hi hs ih
  unfold l_at_5
  dsimp only
  by_cases hlt:i< 8
  ·have hlw:i< ws.length:=by omega
   have hin:WW ws[i]:=hw _ (List.getElem_mem hlw)
   rw [if_pos (lt_t hlw),if_pos nat0,Qu hlw,Qcf,Obn]
   dsimp only
   have hok:(decide (ws[i]≥0) && decide (ws[i]≤4294967295))=true:=QfF.2 hin
   rw [if_neg (by rw [hok]; decide),if_pos nat0,Qu hlw,QrU hin,Obn]
   dsimp only
   have hsl:s.length=i:=by rw [hs,List.length_map,List.length_take]; omega
   rw [if_pos (by rw [hsl]; simp; omega),QY (by omega)]
   exact ih _ hlt (by rw [hs,QjM hlw,List.map_append]; rfl)
  ·have:i=8:=by omega
   subst this
   rw [if_neg (by rw [hl]; decide)]
   have:s=ws.map entM:=by rw [hs,List.take_of_length_le (by omega)]
   rw [this]
theorem Qio {ws:List Int} (hl:ws.length=8) (hw: ∀w∈ws,WW w):F_ec (ws,())=some (((0,ws.map entM,()),()),()):=by
 have key:=Qff (step:=l_ec_7) (γ:=denO o_ec_7) (fun k (s:List TwoD)=>(((),s,ws,8,((k:Nat):Int),()),((0,[],()),()),())) 8 (QaO (by omega)) (fun k s=>s=(ws.take k).map entM)
  (fun _ _=>some (.inl (((),ws.map entM,()),((0,[],()),()),()))) ?_ 0 [] (by omega) (by simp)
 ·unfold F_ec
  dsimp only
  rw [if_neg (by rw [hl]; decide),QbO _ (by rw [hl,Qda]; omega),Obn]
  dsimp only
  rw [Qao.2 hw,if_neg (by decide),hl]
  show (Qd l_ec_7 lots (((),[],ws,8,0,()),((0,[],()),()),())).bind _=_
  rw [show ((0:Int))=(((0:Nat):Nat):Int) from rfl] at*
  rw [key]
  rfl
 ·intro rec i s hi hs ih
  unfold l_ec_7
  dsimp only
  by_cases hlt:i< 8
  ·have hlw:i< ws.length:=by omega
   have hin:WW ws[i]:=hw _ (List.getElem_mem hlw)
   rw [if_pos (QB.2 (by omega)),if_pos nat0,Qu hlw,Qrj hin,Obn]
   dsimp only
   have hsl:s.length=i:=by rw [hs,List.length_map,List.length_take]; omega
   rw [if_pos (by rw [hsl]; simp; omega),QY (by omega)]
   exact ih _ hlt (by rw [hs,QjM hlw,List.map_append]; rfl)
  ·have:i=8:=by omega
   subst this
   rw [if_neg (by decide)]
   have:s=ws.map entM:=by rw [hs,List.take_of_length_le (by omega)]
   rw [this]
def idsM:List TwoD:=[(0,7,()),(1,7,()),(2,7,()),(3,7,()),(4,7,()),(5,7,()),(6,7,()),(7,7,())]
theorem QuK:L_au_5 ((([]:List TwoD),((0:Int),())),((),()))=some (.inl ((idsM,()),((),()))):=by kernel_rfl
theorem Qul:L_ed_5 (((),(([]:List TwoD),((0:Int),()))),((((0:Int),(([]:List TwoD),())),()),()))=some (.inl (((),(idsM,())),((((0:Int),(([]:List TwoD),())),()),()))):=by kernel_rfl
theorem Quj:OkP idsM:=⟨rfl,by decide⟩
def QbM (cs:List Int) (l:List TwoD) (m:List Int):Option (List TwoD):=
 if cs.getD 10 0=0 then some idsM else if cs.getD 10 0=8 then none
 else if Qad l ((cs.getD 10 0-1)*8) 1< 0 then none else some (((m.drop (Qad l ((cs.getD 10 0-1)*8) 1).toNat).take 8).map entM)
section
variable {r cs iq oq m:List Int} {pc dn ring fall:Int} {ha wa ru:Bool} {l:List TwoD}
theorem OkL.at {l:List TwoD} {m:List Int} (h:OkL l m) {k:Nat} (hk:k< 8):(-1≤(l.getD k (-1,0,())).1∧(l.getD k (-1,0,())).1≤23)∧8*(l.getD k (-1,0,())).1+8≤(m.length:Int):=by
 have:=h.pgs _ (QaC (l:=l) (k:=k) (d:=(-1,0,())) (by rw [h.len]; exact hk)); exact ⟨this.1,this.2.2⟩
theorem QjV (h:OkL l m) (at_ kind:Int) (h0:0≤Qad l at_ kind):Qad l at_ kind< (m.length:Int)∧(at_ % 8=0→Qad l at_ kind+8≤(m.length:Int)):=by
 unfold Qad at*
 split at h0
 ·have:=h.at (k:=(at_ / 8).toNat) (by omega)
  rename_i hin
  rw [if_pos hin]
  split at h0
  ·rename_i hm
   rw [if_pos hm]
   omega
  ·omega
 ·omega
theorem Qgr (h:OkL l m) {f:Int} (h0:0≤f) (h1:f+8≤(m.length:Int)):((m.drop f.toNat).take 8).length=8∧ ∀w∈(m.drop f.toNat).take 8,WW w:=
 ⟨by rw [List.length_take,List.length_drop]; omega,fun w hw=>h.words w (List.mem_of_mem_drop (List.mem_of_mem_take hw))⟩
theorem QnZ (hc:OkC cs) (h:OkL l m):F_au ((l,m,ring,(r,pc,cs,ha,wa,ru,dn,iq,oq,()),fall,()),())=
  some ((match QbM cs l m with | some s=>(s,true,()) | none=>([],false,())),()):=by
 have ht:=hc.w (k:=10) (by decide)
 have ht2:=hc.tb
 unfold WW at ht
 unfold F_au QbM
 dsimp only
 rw [Qr 0 (by rw [hc.len]; decide)]
 simp only [show ((10:Int)).toNat=10 from rfl]
 generalize cs.getD 10 0=t at*
 by_cases h0:t=0
 ·subst h0
  rw [if_pos (by decide),if_pos rfl]
  show (L_au_5 _).bind _=_
  rw [QuK]; rfl
 ·rw [if_neg (by simpa using h0),if_neg h0,Qw (n:=t-1) (by omega) (by omega),Qw (n:=(t-1)*8) (by omega) (by omega),Qgv h.p,Obn]
  dsimp only
  by_cases h8:t=8
  ·subst h8; rfl
  ·rw [if_pos (by simpa using h8),if_neg h8]
   have hin:=QjV h ((t-1)*8) 1
   have hle:=QjW h.p ((t-1)*8) 1
   generalize Qad l ((t-1)*8) 1=f at*
   by_cases hf:f< 0
   ·rw [if_pos (QB.2 hf),if_pos hf]
   ·have h2:=(hin (by omega)).2 (by omega)
    rw [if_neg (by rw [QB]; exact hf),if_neg hf,Qw (by omega) (by omega),if_pos (c:=(0:Int)≤f∧f≤f+8∧f+8≤((m.length:Nat):Int)) ⟨Int.not_lt.1 hf,by omega,h2⟩,show (f+8).toNat-f.toNat=8 by omega]
    have hp:=Qgr h (f:=f) (by omega) h2
    rw [Qip hp.1 hp.2]; rfl
theorem Qnn (hc:OkC cs) (h:OkL l m):F_ed ((r,pc,cs,ha,wa,ru,dn,iq,oq,()),l,m,())=
  some ((match QbM cs l m with | some s=>(0,s,()) | none=>(7,[],()),()),()):=by
 have ht:=hc.w (k:=10) (by decide)
 have ht2:=hc.tb
 unfold WW at ht
 unfold F_ed QbM
 dsimp only
 rw [Qr 0 (by rw [hc.len]; decide)]
 simp only [show ((10:Int)).toNat=10 from rfl]
 generalize cs.getD 10 0=t at*
 rw [Qw (n:=t-1) (by omega) (by omega)]
 by_cases h0:t=0
 ·subst h0
  rw [if_pos (by decide),if_pos rfl]
  show (L_ed_5 _).bind _=_
  rw [Qul]; rfl
 ·have ht1:0≤t-1:=by omega
  rw [if_neg (by rw [QB]; omega),if_neg h0,if_pos ht1]
  have hlen:(t-1).toNat< l.length:=by rw [h.len]; omega
  rw [Qr ((-1,0,()):TwoD) hlen,Qr ((-1,0,()):TwoD) hlen,Qr ((-1,0,()):TwoD) hlen]
  have hat:=h.at (k:=(t-1).toNat) (by omega)
  have hw:Qad l ((t-1)*8) 1=if mayP (l.getD (t-1).toNat (-1,0,())) 1=true then (l.getD (t-1).toNat (-1,0,())).1*8 else -1:=by
   unfold Qad
   rw [if_pos (by omega),show (t-1)*8 / 8=t-1 by omega,show (t-1)*8 % 8=0 by omega,Int.add_zero]
  rw [hw]
  generalize l.getD (t-1).toNat (-1,0,())=p at*
  unfold mayP
  by_cases hp0:0≤p.1
  ·rw [if_pos (QaV.2 (by omega)),if_pos ht1]
   by_cases hk:iand .i64 p.2.1 1=0
   ·rw [if_neg (by simp [hk])]
    by_cases h8:t=8
    ·rw [if_pos h8]
    ·rw [if_neg h8,if_neg (c:=(decide (0≤p.1) && !(iand .i64 p.2.1 1==0))=true) (by simp [hk]),if_pos (by decide)]
   ·rw [if_pos (by simpa using hk)]
    by_cases h8:t=8
    ·subst h8; rfl
    ·have hne: ¬t-1=7:=by omega
     rw [if_neg (by simpa using hne),if_pos ht1,if_neg h8,if_pos (c:=(decide (0≤p.1) && !(iand .i64 p.2.1 1==0))=true) (by simp [hk,hp0]),if_neg (by omega)]
     have hpo:=Qld m p.1.toNat (by omega) h.mlen
     rw [show ((p.1.toNat:Nat):Int)=p.1 by omega] at hpo
     rw [hpo,Obn]
     dsimp only
     rw [show (p.1*8).toNat=8*p.1.toNat by omega]
     have hpw:=Qgr h (f:=p.1*8) (by omega) (by omega)
     rw [show (p.1*8).toNat=8*p.1.toNat by omega] at hpw
     rw [Qio hpw.1 hpw.2]; rfl
  ·rw [if_neg (by rw [QaV]; omega)]
   by_cases h8:t=8
   ·rw [if_pos h8]
   ·rw [if_neg h8,if_neg (c:=(decide (0≤p.1) && !(iand .i64 p.2.1 1==0))=true) (by simp [hp0]),if_pos (by decide)]
theorem Qln (hc:OkC cs) (h:OkL l m) {s:List TwoD} (hs:QbM cs l m=some s):OkP s∧ ∀p∈s,p.1≤7:=by
 have ht:=hc.w (k:=10) (by decide)
 have ht2:=hc.tb
 unfold WW at ht
 unfold QbM at hs
 split at hs
 ·obtain rfl:=Osj hs; exact ⟨Quj,by decide⟩
 ·split at hs
  ·cases hs
  ·split at hs
   ·cases hs
   ·rename_i h8 hf
    obtain rfl:=Osj hs
    have h2:=(QjV h ((cs.getD 10 0-1)*8) 1 (by omega)).2 (by omega)
    have hp:=Qgr h (f:=Qad l ((cs.getD 10 0-1)*8) 1) (by omega) h2
    have key: ∀p∈List.map entM (((m.drop (Qad l ((cs.getD 10 0-1)*8) 1).toNat).take 8)), -1≤p.1∧p.1≤7:=by
     intro p hpm
     obtain ⟨w,hw,rfl⟩:=List.mem_map.1 hpm
     exact Quf (hp.2 w hw)
    exact ⟨⟨by rw [List.length_map]; exact hp.1,fun p hm=>⟨(key p hm).1,by have:=(key p hm).2; omega⟩⟩,fun p hm=>(key p hm).2⟩
def Qv (cs:List Int) (l:List TwoD) (m:List Int) (at_ kind:Int):Int×Int:=
 match QbM cs l m with
 | none=>(0,7)
 | some s=>if Qad s at_ kind< 0 then (0,QhP kind) else if Qad s at_ kind / 8=7 then (if kind=4 then (0,9) else (1000+Qad s at_ kind % 8,0))
  else if Qad l (Qad s at_ kind) kind< 0 then (0,QhP kind) else (Qad l (Qad s at_ kind) kind,0)
theorem QbQ (hc:OkC cs) (h:OkL l m) (at_:Int) (kind:Int) (h0:(Qv cs l m at_ kind).2=0):
  (1000≤(Qv cs l m at_ kind).1∧(Qv cs l m at_ kind).1≤1007∧kind≠4)∨(0≤(Qv cs l m at_ kind).1∧(Qv cs l m at_ kind).1< (m.length:Int)):=by
 unfold Qv at*
 cases hs:QbM cs l m with
 | none=>rw [hs] at h0; simp at h0
 | some s=>
  rw [hs] at h0
  simp only at h0⊢
  split at h0
  ·exact absurd h0 (Qdj kind)
  ·rename_i h1
   rw [if_neg h1]
   split at h0
   ·rename_i h7
    rw [if_pos h7]
    split at h0
    ·simp at h0
    ·rename_i h4
     rw [if_neg h4]
     left
     simp only
     omega
   ·rename_i h7
    rw [if_neg h7]
    split at h0
    ·exact absurd h0 (Qdj kind)
    ·rename_i h2
     rw [if_neg h2]
     right
     exact ⟨by simp only; omega,(QjV h _ _ (by omega)).1⟩
theorem Qft (hc:OkC cs) (h:OkL l m) (at_ kind:Int):F_aw ((l,m,ring,(r,pc,cs,ha,wa,ru,dn,iq,oq,()),fall,()),at_,kind,())=
  some (((Qv cs l m at_ kind).1,(Qv cs l m at_ kind).2,()),()):=by
 unfold F_aw Qv
 dsimp only
 rw [QnZ hc h,Obn]
 cases hs:QbM cs l m with
 | none=>rfl
 | some s=>
  have hp:=(Qln hc h hs).1
  dsimp only
  rw [if_neg (by decide),Qgv hp,Obn,Qps,Obn]
  dsimp only
  have hle:=QjW hp at_ kind
  generalize Qad s at_ kind=g at*
  by_cases hg:g< 0
  ·rw [if_pos (QB.2 hg),if_pos hg]
  ·rw [if_neg (by rw [QB]; exact hg),if_neg hg,Int.tdiv_eq_ediv_of_nonneg (by omega),Int.tmod_eq_emod_of_nonneg (by omega),Qw (n:=g / 8) (by omega) (by omega)]
   by_cases h7:g / 8=7
   ·rw [if_pos (by simpa using h7),if_pos h7]
    by_cases h4:kind=4
    ·rw [if_pos (by simpa using h4),if_pos h4]
    ·rw [if_neg (by simpa using h4),if_neg h4,Qw (by omega) (by omega)]
   ·rw [if_neg (by simpa using h7),if_neg h7,Qgv h.p,Obn]
    dsimp only
    by_cases hf:Qad l g kind< 0
    ·rw [if_pos (QB.2 hf),if_pos hf]
    ·rw [if_neg (by rw [QB]; exact hf),if_neg hf]
theorem Qfe (hc:OkC cs) (h:OkL l m) (at_:Int) {kind:Int} (hk:kind=1∨kind=2∨kind=4):F_eh ((r,pc,cs,ha,wa,ru,dn,iq,oq,()),l,m,at_,kind,())=
  some ((((Qv cs l m at_ kind).2,(Qv cs l m at_ kind).1,()),()),()):=by
 unfold F_eh Qv
 dsimp only
 rw [Qnn hc h,Obn]
 cases hs:QbM cs l m with
 | none=>rfl
 | some s=>
  have hp:=(Qln hc h hs).1
  dsimp only
  rw [if_neg (by decide),Qjd hp _ hk,Obn]
  dsimp only
  have hle:=QjW hp at_ kind
  have hcn:=Qdj kind
  generalize Qad s at_ kind=g at*
  by_cases hg:g< 0
  ·rw [if_pos hg]; dsimp only; rw [if_pos (by simpa using hcn),if_pos hg]
  ·rw [if_neg hg]; dsimp only
   rw [if_neg (by decide),if_neg hg,Int.tdiv_eq_ediv_of_nonneg (by omega),Int.tmod_eq_emod_of_nonneg (by omega),Qw (n:=g / 8) (by omega) (by omega)]
   by_cases h7:g / 8=7
   ·rw [if_neg (by simpa using h7),if_pos h7]
    by_cases h4:kind=4
    ·rw [if_pos (by simpa using h4),if_pos h4]
    ·rw [if_neg (by simpa using h4),if_neg h4,Qw (by omega) (by omega)]
   ·rw [if_pos (by simpa using h7),if_neg h7,Qjd h.p _ hk,Obn]
    by_cases hf:Qad l g kind< 0
    ·rw [if_pos hf,if_pos hf]
    ·rw [if_neg hf,if_neg hf]
theorem QcR {q:List Int} (h:q.length≤1048576):F_dh (q,())=some ((q,()),()):=by
 unfold F_dh
 dsimp only
 rw [if_pos (by simp; omega)]
 rfl
def Qfp (cs:List Int) (ru:Bool) (dn:Int) (iq:List Int) (k:Int):Int×List Int:=
 if k=1 then (iq.getD 0 0,iq.drop 1) else if k=2 then (dn,iq) else if k=3 then (cs.getD 9 0,iq) else if k=4 then (Qds cs ru dn iq,iq) else if k=6 then ((iq.length:Int),iq) else (0,iq)
theorem Qpx (hc:OkC cs) (hq:OkQ iq) (k:Int):F_bb ((r,pc,cs,ha,wa,ru,dn,iq,oq,()),k,())=
  some (((Qfp cs ru dn iq k).1,()),((r,pc,cs,ha,wa,ru,dn,(Qfp cs ru dn iq k).2,oq,()),())):=by
 unfold F_bb Qfp
 dsimp only
 rw [QeF hc,Obn]
 by_cases h1:k=1
 ·subst h1
  rw [if_pos (by decide),if_pos rfl]
  cases iq with
  | nil=>rfl
  | cons w t=>
   rw [if_neg (by simp; omega)]
   simp only [show ((0:Int)).toNat=0 from rfl,show ((1:Int)).toNat=1 from rfl,List.getElem?_cons_zero,Obn]
   rw [if_pos (by simp; omega)]
   simp
 rw [if_neg (by simpa using h1),if_neg h1]
 by_cases h2:k=2
 ·subst h2; rfl
 rw [if_neg (by simpa using h2),if_neg h2]
 by_cases h3:k=3
 ·subst h3
  rw [if_pos (by decide),if_pos rfl,if_pos (by rw [hc.len]; decide),Qr 0 (by rw [hc.len]; decide)]; rfl
 rw [if_neg (by simpa using h3),if_neg h3]
 by_cases h4:k=4
 ·subst h4; rfl
 rw [if_neg (by simpa using h4),if_neg h4]
 by_cases h6:k=6
 ·subst h6; rfl
 rw [if_neg (by simpa using h6),if_neg h6]
theorem QoK (hc:OkC cs) (hq:OkQ iq) (k:Int):F_en ((r,pc,cs,ha,wa,ru,dn,iq,oq,()),k,())=
  some (((Qfp cs ru dn iq k).1,()),((r,pc,cs,ha,wa,ru,dn,(Qfp cs ru dn iq k).2,oq,()),())):=by
 unfold F_en Qfp
 dsimp only
 rw [Qev hc,Obn]
 have hl:=hq.len
 by_cases h1:k=1
 ·subst h1
  rw [if_pos (by decide),if_pos rfl]
  cases iq with
  | nil=>rfl
  | cons w t=>
   have hlt:ltI 0 (((w::t).length:Nat):Int)=true:=QB.2 (by simp only [List.length_cons]; omega)
   rw [if_pos hlt,if_pos (by simp only [List.length_cons]; omega)]
   simp only [show ((0:Int)).toNat=0 from rfl,show ((1:Int)).toNat=1 from rfl,List.getElem?_cons_zero,Obn]
   rw [if_pos (by simp only [List.length_cons]; omega)]
   have e:((w::t).drop 1).take ((((w::t).length:Nat):Int).toNat-1)=t:=by simp
   rw [e,QcR (by simp at hl; omega),Obn]
   rfl
 rw [if_neg (by simpa using h1),if_neg h1]
 by_cases h2:k=2
 ·subst h2; rfl
 rw [if_neg (by simpa using h2),if_neg h2]
 by_cases h3:k=3
 ·subst h3
  rw [if_pos (by decide),if_pos rfl,if_pos (by rw [hc.len]; decide),Qr 0 (by rw [hc.len]; decide)]; rfl
 rw [if_neg (by simpa using h3),if_neg h3]
 by_cases h4:k=4
 ·subst h4; rfl
 rw [if_neg (by simpa using h4),if_neg h4]
 by_cases h6:k=6
 ·subst h6; rfl
 rw [if_neg (by simpa using h6),if_neg h6]
theorem QtC (hc:OkC cs) (hq:OkQ iq) (hd:0≤dn∧dn≤1000000000) (k:Int):WW (Qfp cs ru dn iq k).1∧OkQ (Qfp cs ru dn iq k).2:=by
 have hp:=QgW cs ru dn iq
 have hl:=hq.len
 have h9:=hc.w (k:=9) (by decide)
 unfold Qfp
 repeat' split
 ·refine ⟨?_,⟨by simp only [List.length_drop]; omega,fun w hw=>hq.words w (List.mem_of_mem_drop hw)⟩⟩
  cases iq with
  | nil=>unfold WW; simp
  | cons w t=>exact hq.words w (by simp)
 all_goals refine ⟨?_,hq⟩
 ·unfold WW; simp only; omega
 ·exact h9
 ·unfold WW; simp only; omega
 ·unfold WW; simp only; omega
 ·unfold WW; simp
def Qih (k w:Int):Int:=if k=5 then wd w else -1
def wrC (cs:List Int) (k w:Int):List Int:=if k=3 then cs.set 9 (wd w) else cs
def wrR (ru:Bool) (k w:Int):Bool:=if k=4 then setR ru 6 (wd w) else ru
def wrO (oq:List Int) (k w:Int):List Int:=if k=0∧oq.length< 40 then oq++[wd w] else oq
theorem Qvc (w:Int):setC cs 6 w=cs:=by unfold setC; simp
theorem QvT (w:Int):setC cs 9 w=cs.set 9 (wd w):=by unfold setC; simp
theorem QvU (w:Int):setR ru 9 w=ru:=by unfold setR; simp
theorem Qod (hc:OkC cs) (hq:OkQ oq) (k w:Int):F_bd ((r,pc,cs,ha,wa,ru,dn,iq,oq,()),k,w,())=
  some ((Qih k w,()),((r,pc,wrC cs k w,ha,wa,wrR ru k w,dn,iq,wrO oq k w,()),())):=by
 unfold F_bd Qih wrC wrR wrO
 dsimp only
 rw [Qdw,Obn,Qlq hc (by omega),Obn,Qvc]
 dsimp only
 have hl:=hq.len
 by_cases h0:k=0
 ·subst h0
  by_cases h40:oq.length< 40
  ·have:ltI ((oq.length:Nat):Int) 40=true:=QB.2 (by omega)
   rw [if_pos (by decide),if_pos this,if_pos (by simp; omega),if_neg (by decide),if_neg (by decide),if_neg (by decide),if_pos ⟨rfl,h40⟩]
  ·have: ¬ltI ((oq.length:Nat):Int) 40=true:=by rw [QB]; omega
   rw [if_pos (by decide),if_neg this,if_neg (by decide),if_neg (by decide),if_neg (by decide),if_neg (by omega)]
 rw [if_neg (by simpa using h0),if_neg (c:=k=0∧oq.length< 40) (by omega)]
 by_cases h3:k=3
 ·subst h3
  rw [if_pos (by decide),if_pos (by rw [hc.len]; decide),Qr 0 (by rw [hc.len]; decide)]; rfl
 rw [if_neg (by simpa using h3),if_neg h3]
 by_cases h4:k=4
 ·subst h4; rfl
 rw [if_neg (by simpa using h4),if_neg h4]
 by_cases h5:k=5
 ·subst h5; rfl
 rw [if_neg (by simpa using h5),if_neg h5]
theorem Qns (hc:OkC cs) (hq:OkQ oq) (k w:Int):F_eq ((r,pc,cs,ha,wa,ru,dn,iq,oq,()),k,w,())=
  some ((Qih k w,()),((r,pc,wrC cs k w,ha,wa,wrR ru k w,dn,iq,wrO oq k w,()),())):=by
 have hl:=hq.len
 unfold F_eq Qih wrC wrR wrO
 dsimp only
 rw [Qgo,Obn,QcR (by omega),Obn]
 dsimp only
 rw [Qhu hc (by omega),Obn,Qhu hc (by omega),Obn,Qvc,QvT,QvU,QvW]
 by_cases h0:k=0
 ·subst h0
  by_cases h40:oq.length< 40
  ·have:ltI ((oq.length:Nat):Int) 40=true:=QB.2 (by omega)
   rw [if_pos (by decide),if_pos this,if_pos (by simp; omega),if_neg (by decide),if_neg (by decide),if_neg (by decide),if_pos ⟨rfl,h40⟩]
  ·have: ¬ltI ((oq.length:Nat):Int) 40=true:=by rw [QB]; omega
   rw [if_pos (by decide),if_neg this,if_neg (by decide),if_neg (by decide),if_neg (by decide),if_neg (by omega)]
 rw [if_neg (by simpa using h0),if_neg (c:=k=0∧oq.length< 40) (by omega)]
 by_cases h3:k=3
 ·subst h3; rfl
 rw [if_neg (by simpa using h3),if_neg h3]
 by_cases h4:k=4
 ·subst h4; rfl
 rw [if_neg (by simpa using h4),if_neg h4]
 by_cases h5:k=5
 ·subst h5; rfl
 rw [if_neg (by simpa using h5),if_neg h5]
theorem QvK (hc:OkC cs) (k w:Int):OkC (wrC cs k w):=by
 unfold wrC; split
 ·exact hc.set (Qae w) (by decide) (fun e=>absurd e (by decide)) (fun e=>absurd e (by decide)) (fun e=>absurd e (by decide))
 ·exact hc
theorem QvL (hq:OkQ oq) (k w:Int):OkQ (wrO oq k w):=by
 unfold wrO; split
 ·rename_i h
  refine ⟨by simp; omega,fun z hz=>?_⟩
  rcases List.mem_append.1 hz with hz | hz
  ·exact hq.words z hz
  ·rw [List.mem_singleton.1 hz]; exact Qae w
 ·exact hq
def badI (op d a i:Int):Bool:=
 if op≤11 then decide (15< i) else if op=13∨op=19 then decide (a≠0) else if op=21 then decide (10< i∨a≠0) else if op=22 then decide (10< i∨d≠0)
 else if 23≤op then decide (d≠0∨a≠0∨i≠0) else false
def insM (op d a i:Int):Int:=
 if (1≤op∧op≤26)∧(0≤d∧d≤15)∧(0≤a∧a≤15)∧(0≤i∧i≤65535) then (if badI op d a i=true then 1 else 0) else 3
theorem Qrl (op d a i:Int):F_ei ((op,d,a,i,()),())=some ((insM op d a i,()),()):=by
 unfold F_ei insM
 dsimp only
 rw [Qbi,Obn,Qbi,Obn,Qbi,Obn,Qbi,Obn]
 dsimp only
 by_cases h1:1≤op∧op≤26
 ·by_cases h2:0≤d∧d≤15
  ·by_cases h3:0≤a∧a≤15
   ·by_cases h4:0≤i∧i≤65535
    ·rw [if_pos (c:=(1≤op∧op≤26)∧(0≤d∧d≤15)∧(0≤a∧a≤15)∧(0≤i∧i≤65535)) ⟨h1,h2,h3,h4⟩,if_pos (by simp [h1]),if_pos (by simp [h2]),if_pos (by simp [h3]),if_neg (by simp [h4])]
     unfold badI
     simp only [Qan,QaD,beq_iff_eq,bne_iff_ne,decide_eq_true_eq,decide_eq_false_iff_not,Bool.not_eq_true,bne_eq_false_iff_eq,ne_eq]
     repeat' split
     all_goals first | rfl | (exfalso; simp_all; done) | (exfalso; simp_all; omega) | (exfalso; omega)
    ·rw [if_neg (c:=(1≤op∧op≤26)∧(0≤d∧d≤15)∧(0≤a∧a≤15)∧(0≤i∧i≤65535)) (by omega),if_pos (by simp [h1]),if_pos (by simp [h2]),if_pos (by simp [h3]),if_pos (by simp; omega)]
   ·rw [if_neg (c:=(1≤op∧op≤26)∧(0≤d∧d≤15)∧(0≤a∧a≤15)∧(0≤i∧i≤65535)) (by omega),if_pos (by simp [h1]),if_pos (by simp [h2]),if_neg (by simp; omega)]
  ·rw [if_neg (c:=(1≤op∧op≤26)∧(0≤d∧d≤15)∧(0≤a∧a≤15)∧(0≤i∧i≤65535)) (by omega),if_pos (by simp [h1]),if_neg (by simp; omega)]
 ·rw [if_neg (c:=(1≤op∧op≤26)∧(0≤d∧d≤15)∧(0≤a∧a≤15)∧(0≤i∧i≤65535)) (by omega),if_neg (by simp; omega)]
def QmO (op:Int):Bool:=decide (op=22∨23≤op)
def QmN (op:Int):Bool:=decide (op=13∨op=19∨op=21∨23≤op)
def QmP (op:Int):Bool:=decide (23≤op)
theorem Qpp {op:Int} (h:op≤26):F_n (op,())=some ((QmO op,QmN op,QmP op,()),()):=by
 have hc:op=13∨op=19∨op=21∨op=22∨op=23∨op=24∨op=25∨op=26∨(¬op=13∧ ¬op=19∧ ¬op=21∧ ¬op=22∧ ¬op=23∧ ¬op=24∧ ¬op=25∧ ¬op=26):=by omega
 rcases hc with rfl | rfl | rfl | rfl | rfl | rfl | rfl | rfl | ⟨n1,n2,n3,n4,n5,n6,n7,n8⟩
 iterate 8 rfl
 have e3: ¬23≤op:=by omega
 unfold F_n QmO QmN QmP
 simp [n1,n2,n3,n4,n5,n6,n7,n8,e3]
theorem QrW (op d a i:Int):F_q ((op,d,a,i,()),())=some ((insM op d a i,()),()):=by
 unfold F_q insM
 dsimp only
 rw [Qcf,Obn,Qcf,Obn,Qcf,Obn,Qcf,Obn]
 dsimp only
 by_cases h1:1≤op∧op≤26
 ·by_cases h2:0≤d∧d≤15
  ·by_cases h3:0≤a∧a≤15
   ·by_cases h4:0≤i∧i≤65535
    ·rw [if_pos (c:=(1≤op∧op≤26)∧(0≤d∧d≤15)∧(0≤a∧a≤15)∧(0≤i∧i≤65535)) ⟨h1,h2,h3,h4⟩,if_pos (by simp [h1]),if_pos (by simp [h2]),if_pos (by simp [h3]),if_neg (by simp [h4]),Qpp h1.2,Obn]
     unfold badI
     dsimp only
     have hb:(QmO op=true↔(op=22∨23≤op))∧(QmN op=true↔(op=13∨op=19∨op=21∨23≤op))∧(QmP op=true↔23≤op):=by
      unfold QmO QmN QmP; simp
     generalize QmO op=bd at*
     generalize QmN op=ba at*
     generalize QmP op=bi at*
     by_cases c1:op≤11
     ·have q1:bd=false:=by rw [Bool.eq_false_iff]; intro e; have:=hb.1.1 e; omega
      have q2:ba=false:=by rw [Bool.eq_false_iff]; intro e; have:=hb.2.1.1 e; omega
      have q3:bi=false:=by rw [Bool.eq_false_iff]; intro e; have:=hb.2.2.1 e; omega
      have n1: ¬op=21:=by omega
      have n2: ¬op=22:=by omega
      by_cases hi:15< i <;> simp [q1,q2,q3,c1,hi,Qan,QaD,n1,n2]
     ·by_cases c2:23≤op
      ·have q1:bd=true:=hb.1.2 (.inr c2)
       have q2:ba=true:=hb.2.1.2 (.inr (.inr (.inr c2)))
       have q3:bi=true:=hb.2.2.2 c2
       have n1: ¬op=21:=by omega
       have n2: ¬op=22:=by omega
       have n3: ¬op=13:=by omega
       have n4: ¬op=19:=by omega
       by_cases hd:d=0 <;> by_cases ha':a=0 <;> by_cases hi:i=0 <;> simp [q1,q2,q3,c1,c2,hd,ha',hi,Qan,QaD,n1,n2,n3,n4]
      ·have q3:bi=false:=by rw [Bool.eq_false_iff]; intro e; have:=hb.2.2.1 e; omega
       by_cases c3:op=22
       ·have q1:bd=true:=hb.1.2 (.inl c3)
        have q2:ba=false:=by rw [Bool.eq_false_iff]; intro e; have:=hb.2.1.1 e; omega
        subst c3
        by_cases hd:d=0 <;> by_cases hi:10< i <;> simp [q1,q2,q3,hd,hi,Qan,QaD]
       ·have q1:bd=false:=by rw [Bool.eq_false_iff]; intro e; have:=hb.1.1 e; omega
        by_cases c4:op=21
        ·have q2:ba=true:=hb.2.1.2 (by omega)
         subst c4
         by_cases ha':a=0 <;> by_cases hi:10< i <;> simp [q1,q2,q3,ha',hi,Qan,QaD]
        ·by_cases c5:op=13∨op=19
         ·have q2:ba=true:=hb.2.1.2 (by omega)
          by_cases ha':a=0 <;> simp [q1,q2,q3,ha',c1,c3,c4,c5,Qan,QaD]
         ·have q2:ba=false:=by rw [Bool.eq_false_iff]; intro e; have:=hb.2.1.1 e; omega
          simp [q1,q2,q3,c1,c2,c3,c4,c5,Qan,QaD]
    ·rw [if_neg (c:=(1≤op∧op≤26)∧(0≤d∧d≤15)∧(0≤a∧a≤15)∧(0≤i∧i≤65535)) (by omega),if_pos (by simp [h1]),if_pos (by simp [h2]),if_pos (by simp [h3]),if_pos (by simp; omega)]
   ·rw [if_neg (c:=(1≤op∧op≤26)∧(0≤d∧d≤15)∧(0≤a∧a≤15)∧(0≤i∧i≤65535)) (by omega),if_pos (by simp [h1]),if_pos (by simp [h2]),if_neg (by simp; omega)]
  ·rw [if_neg (c:=(1≤op∧op≤26)∧(0≤d∧d≤15)∧(0≤a∧a≤15)∧(0≤i∧i≤65535)) (by omega),if_pos (by simp [h1]),if_neg (by simp; omega)]
 ·rw [if_neg (c:=(1≤op∧op≤26)∧(0≤d∧d≤15)∧(0≤a∧a≤15)∧(0≤i∧i≤65535)) (by omega),if_neg (by simp; omega)]
abbrev InsW:=Int×Int×Int×Int×Unit
def decM (w:Int):InsW:=(w / 16777216,w / 1048576 % 16,w / 65536 % 16,w % 65536,())
def decF (w:Int):Int:=insM (decM w).1 (decM w).2.1 (decM w).2.2.1 (decM w).2.2.2.1
theorem QrR {w:Int} (h:WW w):F_ax (w,())=some ((decM w,decide (decF w=0),()),()):=by
 unfold F_ax
 dsimp only
 rw [Qcf,Obn]
 dsimp only
 have hok:(decide (w≥0) && decide (w≤4294967295))=true:=QfF.2 h
 rw [if_neg (by rw [hok]; decide),Qqg,Qqg,QoT,QcB h.1,QcB h.1,QcB h.1,QrW,Obn]
 rfl
theorem Qrg {w:Int} (h:WW w):F_ej (w,())=some ((if decF w=0 then (0,decM w,()) else (5,(0,0,0,0,()),()),()),()):=by
 unfold F_ej
 dsimp only
 rw [Qqg,Qqg,QoT,QcB h.1,QcB h.1,QcB h.1,Qrl,Obn]
 dsimp only
 have e:insM (w / 2 ^ 24) (w / 2 ^ 20 % 16) (w / 2 ^ 16 % 16) (w % 65536)=decF w:=rfl
 rw [e]
 by_cases h0:decF w=0
 ·rw [if_neg (by simpa using h0),if_pos h0]; rfl
 ·rw [if_pos (by simpa using h0),if_neg h0]
theorem Que {w:Int} (h:decF w=0):(1≤(decM w).1∧(decM w).1≤26)∧(0≤(decM w).2.1∧(decM w).2.1≤15)∧(0≤(decM w).2.2.1∧(decM w).2.2.1≤15)∧(0≤(decM w).2.2.2.1∧(decM w).2.2.2.1≤65535)∧
  ((decM w).1≤11→(decM w).2.2.2.1≤15)∧((decM w).1=21∨(decM w).1=22→(decM w).2.2.2.1≤10):=by
 unfold decF insM at h
 generalize decM w=x at*
 obtain ⟨op,d,a,i,_⟩:=x
 simp only at*
 split at h
 ·rename_i hin
  split at h
  ·omega
  ·rename_i hb
   refine ⟨hin.1,hin.2.1,hin.2.2.1,hin.2.2.2,fun h11=>?_,fun h2=>?_⟩
   ·unfold badI at hb
    rw [if_pos h11] at hb
    simpa using hb
   ·unfold badI at hb
    rw [if_neg (by omega),if_neg (by omega)] at hb
    rcases h2 with h2 | h2
    ·rw [if_pos h2] at hb; simp at hb; omega
    ·rw [if_neg (by omega),if_pos h2] at hb; simp at hb; omega
 ·omega
end
structure Mc where
 r:List Int
 pc:Int
 cs:List Int
 ha:Bool
 wa:Bool
 ru:Bool
 dn:Int
 iq:List Int
 oq:List Int
 m:List Int
 ring:Int
 fall:Int
abbrev BusD:=List TwoD×List Int×Int×List Int×Int×List Int×Bool×Bool×Bool×Int×List Int×List Int×Int×Unit
abbrev QuR:=List Int×Int×List Int×Bool×Bool×Bool×Int×List Int×List Int×List TwoD×List Int×Int×Int×Unit
def Mc.bus (s:Mc) (l:List TwoD):BusD:=(l,s.m,s.ring,s.r,s.pc,s.cs,s.ha,s.wa,s.ru,s.dn,s.iq,s.oq,s.fall,())
def Mc.core (s:Mc) (l:List TwoD):QuR:=(s.r,s.pc,s.cs,s.ha,s.wa,s.ru,s.dn,s.iq,s.oq,l,s.m,s.fall,s.ring,())
def Mc.trap (s:Mc) (cause tval:Int):Mc:={ s with pc:=s.cs.getD 1 0,cs:=Qgd s.cs s.pc cause tval,wa:=false,fall:=cause }
structure OkS (s:Mc) (l:List TwoD):Prop where
 r:OkR s.r
 pc:WW s.pc
 c:OkC s.cs
 i:OkQ s.iq
 o:OkQ s.oq
 d:0≤s.dn∧s.dn≤1000000000
 l:OkL l s.m
section
variable {r cs iq oq m:List Int} {pc dn ring fall:Int} {ha wa ru:Bool} {l:List TwoD} {s:Mc}
theorem QfO (h:OkS s l) {cause tval:Int} (h1:WW cause) (h2:WW tval):OkS (s.trap cause tval) l:=
 ⟨h.r,h.c.w (by decide),QtM h.c h.pc h1 h2,h.i,h.o,h.d,h.l⟩
theorem Qcu (hc:OkC cs) (cause tval:Int):F_aq ((l,m,ring,r,pc,cs,ha,wa,ru,dn,iq,oq,fall,()),cause,tval,())=
  some ((),((l,m,ring,r,cs.getD 1 0,Qgd cs pc cause tval,ha,false,ru,dn,iq,oq,cause,()),())):=by
 unfold F_aq
 dsimp only
 rw [QjF hc,Obn]
theorem Qcq (hc:OkC cs) (cause tval:Int):F_dz ((r,pc,cs,ha,wa,ru,dn,iq,oq,l,m,fall,ring,()),cause,tval,())=
  some ((),((r,cs.getD 1 0,Qgd cs pc cause tval,ha,false,ru,dn,iq,oq,l,m,cause,ring,()),())):=by
 unfold F_dz
 dsimp only
 rw [QoN hc,Obn]
def Qdy (op d a:Int):Bool:=if op=16 then decide (d=a) else if op=17 then decide (d≠a) else decide (sg d< sg a)
def exM (s:Mc) (l:List TwoD) (op d a i:Int):Bool×Int×Int×Mc:=
 let next:=addW s.pc 1
 let far:=addW s.pc (off i)
 let rd:=s.r.getD d.toNat 0
 let ra:=s.r.getD a.toNat 0
 let p:=addW ra (off i)
 if op=12 then (true,next,p,s)
 else if op=13 then (true,next,i*65536,s)
 else if op=14 then
  (if (Qv s.cs l s.m p 1).2≠0 then (false,0,0,s.trap 3 p)
   else if 1000≤(Qv s.cs l s.m p 1).1 then (true,next,(Qfp s.cs s.ru s.dn s.iq ((Qv s.cs l s.m p 1).1-1000)).1,{ s with iq:=(Qfp s.cs s.ru s.dn s.iq ((Qv s.cs l s.m p 1).1-1000)).2 })
   else (true,next,s.m.getD (Qv s.cs l s.m p 1).1.toNat 0,s))
 else if op=15 then
  (if (Qv s.cs l s.m p 2).2≠0 then (false,0,0,s.trap 4 p)
   else if 1000≤(Qv s.cs l s.m p 2).1 then (true,next,0,{ s with ring:=Qih ((Qv s.cs l s.m p 2).1-1000) rd,cs:=wrC s.cs ((Qv s.cs l s.m p 2).1-1000) rd,ru:=wrR s.ru ((Qv s.cs l s.m p 2).1-1000) rd,oq:=wrO s.oq ((Qv s.cs l s.m p 2).1-1000) rd })
   else (true,next,0,{ s with m:=s.m.set (Qv s.cs l s.m p 2).1.toNat rd }))
 else if op=16∨op=17∨op=18 then (true,if Qdy op rd ra=true then far else next,0,s)
 else if op=19 then (true,far,next,s)
 else if op=20 then (true,p,next,s)
 else if op=21 then (true,next,getM s.cs s.ru s.dn s.iq i,s)
 else if op=22 then (true,next,0,{ s with cs:=setC s.cs i ra,ru:=setR s.ru i ra })
 else if op=23 then (false,0,0,s.trap 5 0)
 else if op=24 then (true,s.cs.getD 2 0,0,{ s with pc:=s.cs.getD 2 0,cs:=QiG s.cs })
 else if op=25 then (true,next,0,{ s with wa:=true })
 else if op=26 then (true,s.pc,0,{ s with ha:=true })
 else (true,next,aluW op ra (s.r.getD i.toNat 0),s)
def wrD (op:Int):Bool:=decide ((1≤op∧op≤14)∨(19≤op∧op≤21))
def doM (s:Mc) (l:List TwoD) (op d a i:Int):Bool×Mc:=
 let e:=exM s l op d a i
 if e.1=true then (true,{ e.2.2.2 with pc:=e.2.1,r:=if wrD op=true∧0< d then e.2.2.2.r.set d.toNat e.2.2.1 else e.2.2.2.r }) else (false,e.2.2.2)
structure OkI (op d a i:Int):Prop where
 hop:1≤op∧op≤26
 hd:0≤d∧d≤15
 ha:0≤a∧a≤15
 hi:0≤i∧i≤65535
 i11:op≤11→i≤15
 i21:op=21∨op=22→i≤10
theorem Qei (hr:OkR r) {d:Int} (hd:0≤d∧d≤15) (w:Int):F_ba ((l,m,ring,r,pc,cs,ha,wa,ru,dn,iq,oq,fall,()),d,w,())=
  some ((),((l,m,ring,if 0< d then r.set d.toNat w else r,pc,cs,ha,wa,ru,dn,iq,oq,fall,()),())):=by
 unfold F_ba
 dsimp only
 by_cases h0:d=0
 ·subst h0; rfl
 ·have hin:0≤d∧d< ((r.length:Nat):Int):=by rw [hr.len]; omega
  rw [if_pos (by simpa using h0),if_pos hin,Qr 0 (by rw [hr.len]; omega),if_pos (c:=0< d) (by omega)]
theorem Qob (hr:OkR r) {op d a i:Int} (hd:0≤d∧d≤15) (hA:0≤a∧a≤15):F_bg ((r,pc,cs,ha,wa,ru,dn,iq,oq,()),(op,d,a,i,()),())=
  some ((Qdy op (r.getD d.toNat 0) (r.getD a.toNat 0),()),()):=by
 unfold F_bg Qdy
 dsimp only
 rw [if_pos hd.1,Qr 0 (by rw [hr.len]; omega),if_pos hA.1,Qr 0 (by rw [hr.len]; omega),QeG,Obn,QeG,Obn]
 by_cases h16:op=16
 ·subst h16; rfl
 rw [if_neg (by simpa using h16),if_neg h16]
 by_cases h17:op=17
 ·subst h17
  rw [if_pos (by decide),if_pos rfl]
  generalize r.getD d.toNat 0=x
  generalize r.getD a.toNat 0=y
  by_cases e:x=y <;> simp [e]
 rw [if_neg (by simpa using h17),if_neg h17,QaD]
theorem QsP {i:Int} (h:0≤i∧i≤65535):IntKind.i64.wrap (i*65536)=i*65536:=Qw (by omega) (by omega)
theorem QrX (h:OkS s l) {op d a i:Int} (hi:OkI op d a i) (hop:op=14∨op=15) {e:Bool×Int×Int×Mc} (he:exM s l op d a i=e):F_be (s.bus l,(op,d,a,i,()),())=
  some ((e.1,()),(({ e.2.2.2 with r:=if e.1=true∧op=14∧0< d then e.2.2.2.r.set d.toNat e.2.2.1 else e.2.2.2.r }).bus l,())):=by
 obtain ⟨r,pc,cs,ha,wa,ru,dn,iq,oq,m,ring,fall⟩:=s
 obtain ⟨hr,hpc,hc,hiq,hoq,hdn,hl⟩:=h
 have hd:=hi.hd
 have ha':=hi.ha
 unfold F_be Mc.bus
 unfold exM Mc.trap at he
 dsimp only at*
 have hda:a.toNat< r.length:=by rw [hr.len]; omega
 have hdd:d.toNat< r.length:=by rw [hr.len]; omega
 have hia:0≤a∧a< ((r.length:Nat):Int):=by rw [hr.len]; omega
 have hid:0≤d∧d< ((r.length:Nat):Int):=by rw [hr.len]; omega
 rw [if_pos hia,Qr 0 hda,Qlo,Obn]
 dsimp only
 rw [Qdd,Obn]
 dsimp only
 rcases hop with rfl | rfl
 ·rw [if_neg (by decide),if_neg (by decide),if_pos rfl] at he
  rw [if_neg (by decide),Qft hc hl,Obn]
  dsimp only
  have hin:=QbQ hc hl (addW (r.getD a.toNat 0) (off i)) 1
  generalize Qv cs l m (addW (r.getD a.toNat 0) (off i)) 1=q at*
  by_cases h0:q.2=0
  ·rw [if_neg (by simpa using h0)] at he
   rw [if_neg (by simpa using h0),if_pos (by decide)]
   by_cases hq:1000≤q.1
   ·have hle:q.1≤1007:=by have:=hl.mlen; rcases hin h0 with h | h <;> omega
    rw [if_pos hq] at he
    subst he
    rw [if_pos (Qbb.2 hq),Qw (by omega) (by omega),Qpx hc hiq,Obn]
    dsimp only
    rw [Qei hr hd,Obn]
    simp
   ·have hlt:0≤q.1∧q.1< ((m.length:Nat):Int):=by rcases hin h0 with h | h; omega; exact h
    rw [if_neg hq] at he
    subst he
    rw [if_neg (by rw [Qbb]; exact hq),if_pos (by decide),if_pos hlt,Qr 0 (by omega),Qei hr hd,Obn]
    simp
  ·rw [if_pos h0] at he
   subst he
   rw [if_pos (by simpa using h0),Qcu hc,Obn]
   simp
 ·rw [if_neg (by decide),if_neg (by decide),if_neg (by decide),if_pos rfl] at he
  rw [if_pos (by decide),Qft hc hl,Obn]
  dsimp only
  have hin:=QbQ hc hl (addW (r.getD a.toNat 0) (off i)) 2
  generalize Qv cs l m (addW (r.getD a.toNat 0) (off i)) 2=q at*
  by_cases h0:q.2=0
  ·rw [if_neg (by simpa using h0)] at he
   rw [if_neg (by simpa using h0),if_neg (by decide),if_neg (by decide)]
   by_cases hq:1000≤q.1
   ·have hle:q.1≤1007:=by have:=hl.mlen; rcases hin h0 with h | h <;> omega
    rw [if_pos hq] at he
    subst he
    rw [if_pos (Qbb.2 hq),Qw (by omega) (by omega),if_pos hid,Qr 0 hdd,Qod hc hoq,Obn]
    simp
   ·have hlt:0≤q.1∧q.1< ((m.length:Nat):Int):=by rcases hin h0 with h | h; omega; exact h
    rw [if_neg hq] at he
    subst he
    rw [if_neg (by rw [Qbb]; exact hq),if_pos hid,Qr 0 hdd,if_pos hlt,Qr 0 (by omega)]
    simp
  ·rw [if_pos h0] at he
   subst he
   rw [if_pos (by simpa using h0),Qcu hc,Obn]
   simp
end
section
variable {l:List TwoD} {s:Mc}
theorem QtJ (h:OkS s l) {op d a i:Int} (hi:OkI op d a i) {e:Bool×Mc} (he:doM s l op d a i=e):F_bp (s.bus l,(op,d,a,i,()),())=some ((e.1,()),(e.2.bus l,())):=by
 have hmem:=QrX h hi
 obtain ⟨r,pc,cs,ha,wa,ru,dn,iq,oq,m,ring,fall⟩:=s
 obtain ⟨hr,hpc,hc,hiq,hoq,hdn,hl⟩:=h
 have hd:=hi.hd
 have ha':=hi.ha
 unfold doM at he
 unfold F_bp
 unfold Mc.bus at hmem⊢
 dsimp only at*
 have hda:a.toNat< r.length:=by rw [hr.len]; omega
 have hia:0≤a∧a< ((r.length:Nat):Int):=by rw [hr.len]; omega
 rw [Qdd,Obn]
 dsimp only
 rw [Qlo,Obn]
 dsimp only
 rw [Qdd,Obn]
 dsimp only
 by_cases h12:op=12
 ·subst h12
  rw [show exM ⟨r,pc,cs,ha,wa,ru,dn,iq,oq,m,ring,fall⟩ l 12 d a i=(true,addW pc 1,addW (r.getD a.toNat 0) (off i),⟨r,pc,cs,ha,wa,ru,dn,iq,oq,m,ring,fall⟩) from rfl] at he
  subst he
  rw [if_pos (by decide),if_pos hia,Qr 0 hda,Obn]
  dsimp only
  rw [Qdd,Obn]
  dsimp only
  rw [Qei hr hd,Obn]
  simp [wrD]
 rw [if_neg (by simpa using h12)]
 by_cases h13:op=13
 ·subst h13
  rw [show exM ⟨r,pc,cs,ha,wa,ru,dn,iq,oq,m,ring,fall⟩ l 13 d a i=(true,addW pc 1,i*65536,⟨r,pc,cs,ha,wa,ru,dn,iq,oq,m,ring,fall⟩) from rfl] at he
  subst he
  rw [if_pos (by decide),QsP hi.hi,Qei hr hd,Obn]
  simp [wrD]
 rw [if_neg (by simpa using h13)]
 by_cases h14:op=14
 ·subst h14
  rw [if_pos (by decide),hmem (.inl rfl) rfl,Obn]
  generalize hx:exM ⟨r,pc,cs,ha,wa,ru,dn,iq,oq,m,ring,fall⟩ l 14 d a i=x at*
  have hn:x.1=true→x.2.1=addW pc 1:=by
   rw [←hx]; unfold exM; dsimp only
   rw [if_neg (by decide),if_neg (by decide),if_pos rfl]
   repeat' split
   all_goals simp
  obtain ⟨b,nx,rs,s1⟩:=x
  cases b
  ·subst he; simp
  ·subst he
   simp only at hn
   simp [wrD,hn]
 rw [if_neg (by simpa using h14)]
 by_cases h15:op=15
 ·subst h15
  rw [if_pos (by decide),hmem (.inr rfl) rfl,Obn]
  generalize hx:exM ⟨r,pc,cs,ha,wa,ru,dn,iq,oq,m,ring,fall⟩ l 15 d a i=x at*
  have hn:x.1=true→x.2.1=addW pc 1:=by
   rw [←hx]; unfold exM; dsimp only
   rw [if_neg (by decide),if_neg (by decide),if_neg (by decide),if_pos rfl]
   repeat' split
   all_goals simp
  obtain ⟨b,nx,rs,s1⟩:=x
  cases b
  ·subst he; simp
  ·subst he
   simp only at hn
   simp [wrD,hn]
 rw [if_neg (by simpa using h15)]
 have hex:exM ⟨r,pc,cs,ha,wa,ru,dn,iq,oq,m,ring,fall⟩ l op d a i=
   (if op=16∨op=17∨op=18 then (true,if Qdy op (r.getD d.toNat 0) (r.getD a.toNat 0)=true then addW pc (off i) else addW pc 1,0,⟨r,pc,cs,ha,wa,ru,dn,iq,oq,m,ring,fall⟩)
   else if op=19 then (true,addW pc (off i),addW pc 1,⟨r,pc,cs,ha,wa,ru,dn,iq,oq,m,ring,fall⟩)
   else if op=20 then (true,addW (r.getD a.toNat 0) (off i),addW pc 1,⟨r,pc,cs,ha,wa,ru,dn,iq,oq,m,ring,fall⟩)
   else if op=21 then (true,addW pc 1,getM cs ru dn iq i,⟨r,pc,cs,ha,wa,ru,dn,iq,oq,m,ring,fall⟩)
   else if op=22 then (true,addW pc 1,0,⟨r,pc,setC cs i (r.getD a.toNat 0),ha,wa,setR ru i (r.getD a.toNat 0),dn,iq,oq,m,ring,fall⟩)
   else if op=23 then (false,0,0,⟨r,cs.getD 1 0,Qgd cs pc 5 0,ha,false,ru,dn,iq,oq,m,ring,5⟩)
   else if op=24 then (true,cs.getD 2 0,0,⟨r,cs.getD 2 0,QiG cs,ha,wa,ru,dn,iq,oq,m,ring,fall⟩)
   else if op=25 then (true,addW pc 1,0,⟨r,pc,cs,ha,true,ru,dn,iq,oq,m,ring,fall⟩)
   else if op=26 then (true,pc,0,⟨r,pc,cs,true,wa,ru,dn,iq,oq,m,ring,fall⟩)
   else (true,addW pc 1,aluW op (r.getD a.toNat 0) (r.getD i.toNat 0),⟨r,pc,cs,ha,wa,ru,dn,iq,oq,m,ring,fall⟩)):=by
  unfold exM Mc.trap
  dsimp only
  rw [if_neg h12,if_neg h13,if_neg h14,if_neg h15]
 clear hmem
 have htk:=fun o=>Qob (pc:=pc) (cs:=cs) (ha:=ha) (wa:=wa) (ru:=ru) (dn:=dn) (iq:=iq) (oq:=oq) hr (op:=o) (i:=i) hd ha'
 have hput:=fun pc cs ha wa ru w=>Qei (l:=l) (m:=m) (ring:=ring) (pc:=pc) (cs:=cs) (ha:=ha) (wa:=wa) (ru:=ru) (dn:=dn) (iq:=iq) (oq:=oq) (fall:=fall) hr hd w
 by_cases h16:op=16
 ·subst h16
  rw [if_pos (.inl rfl)] at hex
  rw [hex] at he
  subst he
  rw [if_pos (by decide),htk,Obn]
  cases Qdy 16 (r.getD d.toNat 0) (r.getD a.toNat 0) <;> simp [wrD]
 rw [if_neg (by simpa using h16)]
 by_cases h17:op=17
 ·subst h17
  rw [if_pos (.inr (.inl rfl))] at hex
  rw [hex] at he
  subst he
  rw [if_pos (by decide),htk,Obn]
  cases Qdy 17 (r.getD d.toNat 0) (r.getD a.toNat 0) <;> simp [wrD]
 rw [if_neg (by simpa using h17)]
 by_cases h18:op=18
 ·subst h18
  rw [if_pos (.inr (.inr rfl))] at hex
  rw [hex] at he
  subst he
  rw [if_pos (by decide),htk,Obn]
  cases Qdy 18 (r.getD d.toNat 0) (r.getD a.toNat 0) <;> simp [wrD]
 rw [if_neg (by simpa using h18)]
 rw [if_neg (c:=op=16∨op=17∨op=18) (by omega)] at hex
 by_cases h19:op=19
 ·subst h19
  rw [if_pos rfl] at hex
  rw [hex] at he
  subst he
  rw [if_pos (by decide),hput,Obn]
  simp [wrD]
 rw [if_neg (by simpa using h19)]
 rw [if_neg h19] at hex
 by_cases h20:op=20
 ·subst h20
  rw [if_pos rfl] at hex
  rw [hex] at he
  subst he
  rw [if_pos (by decide),if_pos hia,Qr 0 hda,Obn]
  dsimp only
  rw [Qdd,Obn]
  dsimp only
  rw [hput,Obn]
  simp [wrD]
 rw [if_neg (by simpa using h20)]
 rw [if_neg h20] at hex
 by_cases h21:op=21
 ·subst h21
  rw [if_pos rfl] at hex
  rw [hex] at he
  subst he
  have hi10:=hi.i21 (.inl rfl)
  have hi0:=hi.hi
  rw [if_pos (by decide),QrV hc ⟨hi0.1,hi10⟩,Obn]
  dsimp only
  rw [hput,Obn]
  simp [wrD]
 rw [if_neg (by simpa using h21)]
 rw [if_neg h21] at hex
 by_cases h22:op=22
 ·subst h22
  rw [if_pos rfl] at hex
  rw [hex] at he
  subst he
  have hi10:=hi.i21 (.inr rfl)
  have hi0:=hi.hi
  rw [if_pos (by decide),if_pos hia,Qr 0 hda,Qlq hc ⟨hi0.1,hi10⟩,Obn]
  simp [wrD]
 rw [if_neg (by simpa using h22)]
 rw [if_neg h22] at hex
 by_cases h23:op=23
 ·subst h23
  rw [if_pos rfl] at hex
  rw [hex] at he
  subst he
  rw [if_pos (by decide),Qcu hc,Obn]
  simp
 rw [if_neg (by simpa using h23)]
 rw [if_neg h23] at hex
 by_cases h24:op=24
 ·subst h24
  rw [if_pos rfl] at hex
  rw [hex] at he
  subst he
  rw [if_pos (by decide),QjD hc,Obn]
  simp [wrD]
 rw [if_neg (by simpa using h24)]
 rw [if_neg h24] at hex
 by_cases h25:op=25
 ·subst h25
  rw [if_pos rfl] at hex
  rw [hex] at he
  subst he
  rw [if_pos (by decide)]
  simp [wrD]
 rw [if_neg (by simpa using h25)]
 rw [if_neg h25] at hex
 by_cases h26:op=26
 ·subst h26
  rw [if_pos rfl] at hex
  rw [hex] at he
  subst he
  rw [if_pos (by decide)]
  simp [wrD]
 rw [if_neg (by simpa using h26)]
 rw [if_neg h26] at hex
 have h1:=hi.hop
 have h11:op≤11:=by omega
 have hi15:=hi.i11 h11
 have hi0:=hi.hi
 have hii:0≤i∧i< ((r.length:Nat):Int):=by rw [hr.len]; omega
 have hiN:i.toNat< r.length:=by rw [hr.len]; omega
 rw [hex] at he
 subst he
 rw [if_pos hia,Qr 0 hda,if_pos hii,Qr 0 hiN,QrQ,Obn]
 dsimp only
 rw [hput,Obn]
 have hw:wrD op=true:=by unfold wrD; rw [decide_eq_true_eq]; omega
 simp [hw]
theorem QoH (h:OkS s l) {op d a i:Int} (h14:op=14) {e:Bool×Int×Int×Mc} (he:exM s l op d a i=e):F_eo (s.core l,addW (s.r.getD a.toNat 0) (off i),())=
  some ((e.2.2.1,e.1,()),(e.2.2.2.core l,())):=by
 subst h14
 obtain ⟨r,pc,cs,ha,wa,ru,dn,iq,oq,m,ring,fall⟩:=s
 obtain ⟨hr,hpc,hc,hiq,hoq,hdn,hl⟩:=h
 unfold F_eo Mc.core
 unfold exM Mc.trap at he
 dsimp only at*
 rw [if_neg (by decide),if_neg (by decide),if_pos rfl] at he
 rw [Qfe hc hl _ (.inl rfl),Obn]
 dsimp only
 have hin:=QbQ hc hl (addW (r.getD a.toNat 0) (off i)) 1
 generalize Qv cs l m (addW (r.getD a.toNat 0) (off i)) 1=q at*
 by_cases h0:q.2=0
 ·rw [if_neg (by simpa using h0)] at he
  rw [if_neg (by simpa using h0)]
  by_cases hq:1000≤q.1
  ·have hle:q.1≤1007:=by have:=hl.mlen; rcases hin h0 with h | h <;> omega
   rw [if_pos hq] at he
   subst he
   rw [if_pos (Qbb.2 hq),Qw (by omega) (by omega),QoK hc hiq,Obn]
  ·have hlt:0≤q.1∧q.1< ((m.length:Nat):Int):=by rcases hin h0 with h | h; omega; exact h
   rw [if_neg hq] at he
   subst he
   rw [if_neg (by rw [Qbb]; exact hq),if_pos hlt,Qr 0 (by omega)]
 ·rw [if_pos h0] at he
  subst he
  rw [if_pos (by simpa using h0),Qcq hc,Obn]
theorem Qnp (h:OkS s l) {op d a i:Int} (h15:op=15) {e:Bool×Int×Int×Mc} (he:exM s l op d a i=e):F_er (s.core l,addW (s.r.getD a.toNat 0) (off i),s.r.getD d.toNat 0,())=
  some ((e.1,()),(e.2.2.2.core l,())):=by
 subst h15
 obtain ⟨r,pc,cs,ha,wa,ru,dn,iq,oq,m,ring,fall⟩:=s
 obtain ⟨hr,hpc,hc,hiq,hoq,hdn,hl⟩:=h
 unfold F_er Mc.core
 unfold exM Mc.trap at he
 dsimp only at*
 rw [if_neg (by decide),if_neg (by decide),if_neg (by decide),if_pos rfl] at he
 rw [Qfe hc hl _ (.inr (.inl rfl)),Obn]
 dsimp only
 have hin:=QbQ hc hl (addW (r.getD a.toNat 0) (off i)) 2
 generalize Qv cs l m (addW (r.getD a.toNat 0) (off i)) 2=q at*
 by_cases h0:q.2=0
 ·rw [if_neg (by simpa using h0)] at he
  rw [if_neg (by simpa using h0)]
  by_cases hq:1000≤q.1
  ·have hle:q.1≤1007:=by have:=hl.mlen; rcases hin h0 with h | h <;> omega
   rw [if_pos hq] at he
   subst he
   rw [if_pos (Qbb.2 hq),Qw (by omega) (by omega),Qns hc hoq,Obn]
  ·have hlt:0≤q.1∧q.1< ((m.length:Nat):Int):=by rcases hin h0 with h | h; omega; exact h
   rw [if_neg hq] at he
   subst he
   rw [if_neg (by rw [Qbb]; exact hq),if_pos hlt,Qr 0 (by omega)]
 ·rw [if_pos h0] at he
  subst he
  rw [if_pos (by simpa using h0),Qcq hc,Obn]
theorem QsS (h:OkS s l) {op d a i:Int} (hi:OkI op d a i) {e:Bool×Int×Int×Mc} (he:exM s l op d a i=e):
  ∃nx:Int,(e.1=true→nx=e.2.2.1∨wrD op=false)∧
  L_fc_100000 (((),((),(s.pc,(addW s.pc 1,(addW s.pc (off i),(s.r.getD d.toNat 0,(s.r.getD a.toNat 0,(addW (s.r.getD a.toNat 0) (off i),((0:Int),(op,(op,()))))))))))),(((op,(d,(a,(i,())))),(s.core l,())),()))=
  some (if e.1=true then .inl (((),((),(e.2.1,(nx,())))),(((op,(d,(a,(i,())))),(e.2.2.2.core l,())),())) else .inr (.inl ((false,()),((e.2.2.2.core l,()),())))):=by
 have hld:=fun h14=>QoH h (op:=op) (d:=d) (a:=a) (i:=i) h14 he
 have hst:=fun h15=>Qnp h (op:=op) (d:=d) (a:=a) (i:=i) h15 he
 have hd:=hi.hd
 have ha':=hi.ha
 unfold L_fc_100000
 dsimp only at*
 by_cases h12:op=12
 ·subst h12
  rw [show exM s l 12 d a i=(true,addW s.pc 1,addW (s.r.getD a.toNat 0) (off i),s) from rfl] at he
  subst he
  exact ⟨_,fun _=> .inl rfl,by rw [if_pos (by decide)]; rfl⟩
 rw [if_neg (by simpa using h12)]
 by_cases h13:op=13
 ·subst h13
  rw [show exM s l 13 d a i=(true,addW s.pc 1,i*65536,s) from rfl] at he
  subst he
  exact ⟨_,fun _=> .inl rfl,by rw [if_pos (by decide),QsP hi.hi]; rfl⟩
 rw [if_neg (by simpa using h13)]
 by_cases h14:op=14
 ·subst h14
  have hn:e.1=true→e.2.1=addW s.pc 1:=by
   rw [←he]; unfold exM; dsimp only
   rw [if_neg (by decide),if_neg (by decide),if_pos rfl]
   repeat' split
   all_goals simp
  refine ⟨e.2.2.1,fun _=> .inl rfl,?_⟩
  rw [if_pos (by decide),hld rfl,Obn]
  obtain ⟨b,nx,rs,s1⟩:=e
  cases b
  ·simp
  ·simp only at hn
   simp [hn]
 rw [if_neg (by simpa using h14)]
 by_cases h15:op=15
 ·subst h15
  have hn:e.1=true→e.2.1=addW s.pc 1:=by
   rw [←he]; unfold exM; dsimp only
   rw [if_neg (by decide),if_neg (by decide),if_neg (by decide),if_pos rfl]
   repeat' split
   all_goals simp
  refine ⟨0,fun _=> .inr rfl,?_⟩
  rw [if_pos (by decide),hst rfl,Obn]
  obtain ⟨b,nx,rs,s1⟩:=e
  cases b
  ·simp
  ·simp only at hn
   simp [hn]
 rw [if_neg (by simpa using h15)]
 clear hld hst
 obtain ⟨r,pc,cs,ha,wa,ru,dn,iq,oq,m,ring,fall⟩:=s
 obtain ⟨hr,hpc,hc,hiq,hoq,hdn,hl⟩:=h
 have hex:exM ⟨r,pc,cs,ha,wa,ru,dn,iq,oq,m,ring,fall⟩ l op d a i=
   (if op=16∨op=17∨op=18 then (true,if Qdy op (r.getD d.toNat 0) (r.getD a.toNat 0)=true then addW pc (off i) else addW pc 1,0,⟨r,pc,cs,ha,wa,ru,dn,iq,oq,m,ring,fall⟩)
   else if op=19 then (true,addW pc (off i),addW pc 1,⟨r,pc,cs,ha,wa,ru,dn,iq,oq,m,ring,fall⟩)
   else if op=20 then (true,addW (r.getD a.toNat 0) (off i),addW pc 1,⟨r,pc,cs,ha,wa,ru,dn,iq,oq,m,ring,fall⟩)
   else if op=21 then (true,addW pc 1,getM cs ru dn iq i,⟨r,pc,cs,ha,wa,ru,dn,iq,oq,m,ring,fall⟩)
   else if op=22 then (true,addW pc 1,0,⟨r,pc,setC cs i (r.getD a.toNat 0),ha,wa,setR ru i (r.getD a.toNat 0),dn,iq,oq,m,ring,fall⟩)
   else if op=23 then (false,0,0,⟨r,cs.getD 1 0,Qgd cs pc 5 0,ha,false,ru,dn,iq,oq,m,ring,5⟩)
   else if op=24 then (true,cs.getD 2 0,0,⟨r,cs.getD 2 0,QiG cs,ha,wa,ru,dn,iq,oq,m,ring,fall⟩)
   else if op=25 then (true,addW pc 1,0,⟨r,pc,cs,ha,true,ru,dn,iq,oq,m,ring,fall⟩)
   else if op=26 then (true,pc,0,⟨r,pc,cs,true,wa,ru,dn,iq,oq,m,ring,fall⟩)
   else (true,addW pc 1,aluW op (r.getD a.toNat 0) (r.getD i.toNat 0),⟨r,pc,cs,ha,wa,ru,dn,iq,oq,m,ring,fall⟩)):=by
  unfold exM Mc.trap
  dsimp only
  rw [if_neg h12,if_neg h13,if_neg h14,if_neg h15]
 unfold Mc.core
 dsimp only at*
 by_cases h16:op=16
 ·subst h16
  rw [if_pos (.inl rfl)] at hex
  rw [hex] at he
  subst he
  refine ⟨0,fun _=> .inr rfl,?_⟩
  rw [if_pos (by decide),if_pos (by decide)]
  generalize r.getD d.toNat 0=x
  generalize r.getD a.toNat 0=y
  unfold Qdy
  by_cases hxy:x=y <;> simp [hxy]
 rw [if_neg (by simpa using h16)]
 by_cases h17:op=17
 ·subst h17
  rw [if_pos (.inr (.inl rfl))] at hex
  rw [hex] at he
  subst he
  refine ⟨0,fun _=> .inr rfl,?_⟩
  rw [if_pos (by decide),if_neg (by decide),if_pos (by decide)]
  generalize r.getD d.toNat 0=x
  generalize r.getD a.toNat 0=y
  unfold Qdy
  by_cases hxy:x=y <;> simp [hxy]
 rw [if_neg (by simpa using h17)]
 by_cases h18:op=18
 ·subst h18
  rw [if_pos (.inr (.inr rfl))] at hex
  rw [hex] at he
  subst he
  refine ⟨0,fun _=> .inr rfl,?_⟩
  rw [if_pos (by decide),if_neg (by decide),if_neg (by decide),if_pos (by decide),Qew,Obn,Qew,Obn]
  generalize r.getD d.toNat 0=x
  generalize r.getD a.toNat 0=y
  unfold Qdy
  by_cases hxy:sg x< sg y <;> simp [hxy,QaD]
 rw [if_neg (by simpa using h18)]
 rw [if_neg (c:=op=16∨op=17∨op=18) (by omega)] at hex
 by_cases h19:op=19
 ·subst h19
  rw [if_pos rfl] at hex
  rw [hex] at he
  subst he
  exact ⟨_,fun _=> .inl rfl,by rw [if_pos (by decide)]; rfl⟩
 rw [if_neg (by simpa using h19)]
 rw [if_neg h19] at hex
 by_cases h20:op=20
 ·subst h20
  rw [if_pos rfl] at hex
  rw [hex] at he
  subst he
  exact ⟨_,fun _=> .inl rfl,by rw [if_pos (by decide)]; rfl⟩
 rw [if_neg (by simpa using h20)]
 rw [if_neg h20] at hex
 by_cases h21:op=21
 ·subst h21
  rw [if_pos rfl] at hex
  rw [hex] at he
  subst he
  have hi10:=hi.i21 (.inl rfl)
  have hi0:=hi.hi
  exact ⟨_,fun _=> .inl rfl,by rw [if_pos (by decide),Qrk hc ⟨hi0.1,hi10⟩,Obn]; rfl⟩
 rw [if_neg (by simpa using h21)]
 rw [if_neg h21] at hex
 by_cases h22:op=22
 ·subst h22
  rw [if_pos rfl] at hex
  rw [hex] at he
  subst he
  have hi10:=hi.i21 (.inr rfl)
  have hi0:=hi.hi
  exact ⟨0,fun _=> .inr rfl,by rw [if_pos (by decide),Qhu hc ⟨hi0.1,hi10⟩,Obn]; rfl⟩
 rw [if_neg (by simpa using h22)]
 rw [if_neg h22] at hex
 by_cases h23:op=23
 ·subst h23
  rw [if_pos rfl] at hex
  rw [hex] at he
  subst he
  exact ⟨0,fun _=> .inr rfl,by rw [if_pos (by decide),Qcq hc,Obn]; rfl⟩
 rw [if_neg (by simpa using h23)]
 rw [if_neg h23] at hex
 by_cases h24:op=24
 ·subst h24
  rw [if_pos rfl] at hex
  rw [hex] at he
  subst he
  exact ⟨0,fun _=> .inr rfl,by rw [if_pos (by decide),QoE hc,Obn]; rfl⟩
 rw [if_neg (by simpa using h24)]
 rw [if_neg h24] at hex
 by_cases h25:op=25
 ·subst h25
  rw [if_pos rfl] at hex
  rw [hex] at he
  subst he
  exact ⟨0,fun _=> .inr rfl,by rw [if_pos (by decide)]; rfl⟩
 rw [if_neg (by simpa using h25)]
 rw [if_neg h25] at hex
 by_cases h26:op=26
 ·subst h26
  rw [if_pos rfl] at hex
  rw [hex] at he
  subst he
  exact ⟨0,fun _=> .inr rfl,by rw [if_pos (by decide)]; rfl⟩
 rw [if_neg (by simpa using h26)]
 rw [if_neg h26] at hex
 have h1:=hi.hop
 have h11:op≤11:=by omega
 have hi15:=hi.i11 h11
 have hi0:=hi.hi
 have hii:0≤i∧i< ((r.length:Nat):Int):=by rw [hr.len]; omega
 have hiN:i.toNat< r.length:=by rw [hr.len]; omega
 rw [hex] at he
 subst he
 refine ⟨_,fun _=> .inl rfl,?_⟩
 rw [if_pos hii,Qr 0 hiN,Qrf op _ _ (hr.w (by omega)) (hr.w (by omega)) ⟨h1.1,h11⟩,Obn]
 rfl
def Qfh (s:Mc):Mc:={ s with dn:=if 1000000000< s.dn+1 then 1000000000 else s.dn+1 }
theorem QsT (op:Int):F_fb (op,())=some ((wrD op,()),()):=by
 unfold F_fb wrD
 dsimp only
 rw [Qbi,Obn,Qbi,Obn]
 dsimp only
 by_cases h1:1≤op∧op≤14
 ·rw [if_neg (by simp [h1]),decide_eq_true (.inl h1)]
 ·rw [if_pos (by simp; omega)]
  by_cases h2:19≤op∧op≤21
  ·rw [decide_eq_true (p:=(1≤op∧op≤14)∨(19≤op∧op≤21)) (.inr h2)]; simp [h2]
  ·rw [decide_eq_false (p:=(1≤op∧op≤14)∨(19≤op∧op≤21)) (by omega)]; simp; omega
theorem Qi {α:Type} (P:α→Prop) {c:Prop} [Decidable c] {a b:α} (h1:c→P a) (h2: ¬c→P b):P (if c then a else b):=by
 by_cases h:c
 ·rw [if_pos h]; exact h1 h
 ·rw [if_neg h]; exact h2 h
theorem QuV (s:Mc) (l:List TwoD) (op d a i:Int):(exM s l op d a i).2.2.2.r=s.r∧(exM s l op d a i).2.2.2.dn=s.dn:=by
 unfold exM Mc.trap
 let P:Bool×Int×Int×Mc→Prop:=fun x=>x.2.2.2.r=s.r∧x.2.2.2.dn=s.dn
 refine Qi P (fun _=>⟨rfl,rfl⟩) fun _=>Qi P (fun _=>⟨rfl,rfl⟩) fun _=>Qi P (fun _=>Qi P (fun _=>⟨rfl,rfl⟩) fun _=>Qi P (fun _=>⟨rfl,rfl⟩) fun _=>⟨rfl,rfl⟩) fun _=>
  Qi P (fun _=>Qi P (fun _=>⟨rfl,rfl⟩) fun _=>Qi P (fun _=>⟨rfl,rfl⟩) fun _=>⟨rfl,rfl⟩) fun _=>Qi P (fun _=>⟨rfl,rfl⟩) fun _=>Qi P (fun _=>⟨rfl,rfl⟩) fun _=>Qi P (fun _=>⟨rfl,rfl⟩) fun _=>
  Qi P (fun _=>⟨rfl,rfl⟩) fun _=>Qi P (fun _=>⟨rfl,rfl⟩) fun _=>Qi P (fun _=>⟨rfl,rfl⟩) fun _=>Qi P (fun _=>⟨rfl,rfl⟩) fun _=>Qi P (fun _=>⟨rfl,rfl⟩) fun _=>Qi P (fun _=>⟨rfl,rfl⟩) fun _=>⟨rfl,rfl⟩
theorem QsR (h:OkS s l) {op d a i:Int} (hi:OkI op d a i) {e:Bool×Mc} (he:doM s l op d a i=e):F_fc (s.core l,(op,d,a,i,()),())=
  some ((e.1,()),((if e.1=true then (Qfh e.2).core l else e.2.core l),())):=by
 have hd:=hi.hd
 have ha':=hi.ha
 have hr:=h.r
 obtain ⟨nx,hnx,hL⟩:=QsS h hi rfl
 have hrr:=QuV s l op d a i
 unfold F_fc
 dsimp only
 have e1:(s.core l).2.1=s.pc:=rfl
 have e2:(s.core l).1=s.r:=rfl
 rw [e1,e2,Qfy,Obn]
 dsimp only
 rw [Qrn,Obn]
 dsimp only
 rw [Qfy,Obn]
 dsimp only
 have hid:0≤d∧d< ((s.r.length:Nat):Int):=by rw [hr.len]; omega
 have hia:0≤a∧a< ((s.r.length:Nat):Int):=by rw [hr.len]; omega
 rw [if_pos hid,Qr 0 (by rw [hr.len]; omega),if_pos hia,Qr 0 (by rw [hr.len]; omega),Obn]
 dsimp only
 rw [Qfy,Obn]
 dsimp only
 rw [hL,Obn]
 unfold doM at he
 dsimp only at he
 generalize exM s l op d a i=x at*
 obtain ⟨b,nxt,rs,s1⟩:=x
 cases b
 ·subst he; rfl
 ·simp only [if_true] at he⊢
  subst he
  simp only at hrr hnx
  have hdn:=h.d
  have hw:IntKind.i64.wrap (s1.dn+1)=s1.dn+1:=Qw (by rw [hrr.2]; omega) (by rw [hrr.2]; omega)
  unfold Mc.core Qfh
  dsimp only
  rw [QsT,Obn,hw]
  dsimp only
  have hid2:0≤d∧d< ((s1.r.length:Nat):Int):=by rw [hrr.1,hr.len]; omega
  by_cases hwd:wrD op=true
  ·have hx:nx=rs:=by
    rcases hnx trivial with h | h
    ·exact h
    ·rw [h] at hwd; cases hwd
   subst hx
   rw [if_pos hwd]
   by_cases hd0:0< d
   ·rw [if_pos (QB.2 hd0),if_pos hid2,Qr 0 (by rw [hrr.1,hr.len]; omega),if_pos (c:=wrD op=true∧0< d) ⟨hwd,hd0⟩]; rfl
   ·rw [if_neg (by rw [QB]; exact hd0),if_neg (c:=wrD op=true∧0< d) (fun h=>hd0 h.2)]; rfl
  ·rw [if_neg hwd,if_neg (c:=wrD op=true∧0< d) (fun h=>hwd h.1)]; rfl
def runM (s:Mc) (l:List TwoD):Mc:=
 if (Qv s.cs l s.m s.pc 4).2≠0 then s.trap 2 s.pc
 else
  let w:=s.m.getD (Qv s.cs l s.m s.pc 4).1.toNat 0
  if decF w=0 then (if (doM s l (decM w).1 (decM w).2.1 (decM w).2.2.1 (decM w).2.2.2.1).1=true then Qfh (doM s l (decM w).1 (decM w).2.1 (decM w).2.2.1 (decM w).2.2.2.1).2
   else (doM s l (decM w).1 (decM w).2.1 (decM w).2.2.1 (decM w).2.2.2.1).2) else s.trap 1 w
def Qag (s0:Mc) (l:List TwoD):Mc:=
 let s:Mc:={ s0 with ring:= -1,fall:= -1 }
 if s.ha=true then s
 else if 0≤dueM s.cs s.ru s.dn s.iq then s.trap (16+dueM s.cs s.ru s.dn s.iq) 0
 else if s.wa=true then (if iand .i64 (Qds s.cs s.ru s.dn s.iq) (s.cs.getD 7 0)=0 then s else runM { s with wa:=false } l)
 else runM s l
theorem Qit {w:Int} (h:decF w=0):OkI (decM w).1 (decM w).2.1 (decM w).2.2.1 (decM w).2.2.2.1:=by
 obtain ⟨h1,h2,h3,h4,h5,h6⟩:=Que h
 exact ⟨h1,h2,h3,h4,h5,h6⟩
theorem QlV (cs:List Int) (ru:Bool) (dn:Int) (iq:List Int): -1≤dueM cs ru dn iq∧dueM cs ru dn iq≤2:=by
 unfold dueM; split
 ·omega
 ·exact Quo _
theorem Qlp (h:OkS s l) {K:Option Unit}:
  ((F_aw ((l,s.m,s.ring,(s.r,s.pc,s.cs,s.ha,s.wa,s.ru,s.dn,s.iq,s.oq,()),s.fall,()),s.pc,(4:Int),())).bind fun r7=>
    if (r7.1.2.1 !=(0:Int)) then
     (F_aq (s.bus l,(2:Int),s.pc,())).bind fun r8=>some (((),(r8.2.1,())):Unit×BusD×Unit)
    else
     if 0≤r7.1.1∧r7.1.1< ((s.m.length:Nat):Int) then
      ((s.m)[(r7.1.1).toNat]?).bind fun y9=>
      (F_ax (y9,())).bind fun r10=>
      if (!r10.1.2.1) then
       if 0≤r7.1.1∧r7.1.1< ((s.m.length:Nat):Int) then
        ((s.m)[(r7.1.1).toNat]?).bind fun y11=>
        (F_aq (s.bus l,(1:Int),y11,())).bind fun r12=>some ((),(r12.2.1,()))
       else none
      else
       (F_bp (s.bus l,r10.1.1,())).bind fun r13=>
       if r13.1.1 then
        let v14:=(IntKind.i64.wrap (r13.2.1.2.2.2.2.2.2.2.2.2.1+(1:Int)))
        (F_bq ((1000000000:Int),v14,())).bind fun r15=>
        some ((),((r13.2.1.1,(r13.2.1.2.1,(r13.2.1.2.2.1,(r13.2.1.2.2.2.1,(r13.2.1.2.2.2.2.1,(r13.2.1.2.2.2.2.2.1,(r13.2.1.2.2.2.2.2.2.1,(r13.2.1.2.2.2.2.2.2.2.1,(r13.2.1.2.2.2.2.2.2.2.2.1,(r15.1.1,(r13.2.1.2.2.2.2.2.2.2.2.2.2.1,(r13.2.1.2.2.2.2.2.2.2.2.2.2.2.1,(r13.2.1.2.2.2.2.2.2.2.2.2.2.2.2.1,()))))))))))))),()))
       else some ((),(r13.2.1,()))
     else none)=some ((),((runM s l).bus l,())):=by
 have hdo:=fun {w:Int} (hw:decF w=0)=>QtJ h (Qit hw) rfl
 have hdn:=h.d
 rw [Qft h.c h.l,Obn]
 dsimp only
 unfold runM
 have hin:=QbQ h.c h.l s.pc 4
 generalize Qv s.cs l s.m s.pc 4=q at*
 by_cases h0:q.2=0
 ·have hlt:0≤q.1∧q.1< ((s.m.length:Nat):Int):=by
   rcases hin h0 with h | h
   ·exact absurd rfl h.2.2
   ·exact h
  have hN:q.1.toNat< s.m.length:=by omega
  have hw:WW (s.m.getD q.1.toNat 0):=h.l.words _ (QaC hN)
  rw [if_neg (by simpa using h0),if_pos hlt,Qr 0 hN,QrR hw,Obn,if_pos hlt,Qr 0 hN,if_neg (c:=q.2≠0) (by simpa using h0)]
  dsimp only
  generalize s.m.getD q.1.toNat 0=w at*
  by_cases hd:decF w=0
  ·rw [if_neg (by simp [hd]),if_pos hd]
   have hx:=hdo hd
   have hrr:=QuV s l (decM w).1 (decM w).2.1 (decM w).2.2.1 (decM w).2.2.2.1
   have hdn2:(doM s l (decM w).1 (decM w).2.1 (decM w).2.2.1 (decM w).2.2.2.1).2.dn=s.dn:=by
    unfold doM; dsimp only; split <;> exact hrr.2
   have e1:((decM w).1,(decM w).2.1,(decM w).2.2.1,(decM w).2.2.2.1,())=decM w:=rfl
   rw [e1] at hx
   rw [hx,Obn]
   dsimp only
   generalize doM s l (decM w).1 (decM w).2.1 (decM w).2.2.1 (decM w).2.2.2.1=x at*
   obtain ⟨b,s1⟩:=x
   cases b
   ·rfl
   ·simp only at hdn2
    rw [if_pos rfl,if_pos rfl]
    unfold F_bq Mc.bus Qfh
    dsimp only
    rw [hdn2,Qw (by omega) (by omega)]
    by_cases hlt:1000000000< s.dn+1
    ·rw [if_pos (QB.2 hlt),if_pos hlt]; rfl
    ·rw [if_neg (by rw [QB]; exact hlt),if_neg hlt]; rfl
  ·rw [if_pos (by simp [hd]),if_neg hd]
   unfold Mc.bus
   rw [Qcu h.c,Obn]
   rfl
 ·rw [if_pos (by simpa using h0),if_pos (c:=q.2≠0) h0]
  unfold Mc.bus
  rw [Qcu h.c,Obn]
  rfl
theorem QpA (h:OkS s l):F_br (s.bus l,())=some ((),((Qag s l).bus l,())):=by
 obtain ⟨r,pc,cs,ha,wa,ru,dn,iq,oq,m,ring,fall⟩:=s
 have h0:OkS ⟨r,pc,cs,ha,wa,ru,dn,iq,oq,m, -1, -1⟩ l:=⟨h.r,h.pc,h.c,h.i,h.o,h.d,h.l⟩
 have h1:OkS ⟨r,pc,cs,ha,false,ru,dn,iq,oq,m, -1, -1⟩ l:=⟨h.r,h.pc,h.c,h.i,h.o,h.d,h.l⟩
 have hc:OkC cs:=h.c
 have hle:=QlV cs ru dn iq
 generalize he:Qag ⟨r,pc,cs,ha,wa,ru,dn,iq,oq,m,ring,fall⟩ l=e
 unfold Qag at he
 unfold F_br
 dsimp only at he
 rw [show (Mc.bus ⟨r,pc,cs,ha,wa,ru,dn,iq,oq,m,ring,fall⟩ l)=(l,m,ring,r,pc,cs,ha,wa,ru,dn,iq,oq,fall,()) from rfl]
 dsimp only
 cases ha
 ·rw [if_neg (by decide)] at he
  rw [if_neg (by decide),QrT hc,Obn]
  dsimp only
  by_cases hk:0≤dueM cs ru dn iq
  ·rw [if_pos hk] at he
   subst he
   rw [if_pos (Qbb.2 hk),Qw (by omega) (by omega),Qcu hc,Obn]
   rfl
  ·rw [if_neg hk] at he
   rw [if_neg (by rw [Qbb]; exact hk)]
   cases wa
   ·rw [if_neg (by decide)] at he
    subst he
    rw [if_neg (by decide)]
    exact Qlp (K:=none) h0
   ·rw [if_pos rfl] at he
    have h7:(0:Int)≤7∧(7:Int)< ((cs.length:Nat):Int):=by rw [hc.len]; decide
    rw [if_pos rfl,QeF hc,Obn]
    dsimp only
    rw [if_pos h7,Qr 0 (by rw [hc.len]; decide)]
    simp only [show ((7:Int)).toNat=7 from rfl]
    by_cases hz:iand .i64 (Qds cs ru dn iq) (cs.getD 7 0)=0
    ·rw [if_pos hz] at he
     subst he
     rw [if_pos (by simpa using hz)]
     rfl
    ·rw [if_neg hz] at he
     subst he
     rw [if_neg (by simpa using hz)]
     exact Qlp (K:=none) h1
 ·rw [if_pos rfl] at he
  subst he
  rw [if_pos rfl]
  rfl
theorem QkN (h:OkS s l):
  ((F_eh ((s.r,s.pc,s.cs,s.ha,s.wa,s.ru,s.dn,s.iq,s.oq,()),l,s.m,s.pc,(4:Int),())).bind fun r14=>
    if (r14.1.1.1 !=(0:Int)) then
     (F_dz (s.core l,(2:Int),s.pc,())).bind fun r15=>some (((),(r15.2.1,())):Unit×QuR×Unit)
    else
     if 0≤r14.1.1.2.1∧r14.1.1.2.1< ((s.m.length:Nat):Int) then
      ((s.m)[(r14.1.1.2.1).toNat]?).bind fun y16=>
      (F_ej (y16,())).bind fun r17=>
      if (r17.1.1.1 !=(0:Int)) then
       if 0≤r14.1.1.2.1∧r14.1.1.2.1< ((s.m.length:Nat):Int) then
        ((s.m)[(r14.1.1.2.1).toNat]?).bind fun y18=>
        (F_dz (s.core l,(1:Int),y18,())).bind fun r19=>some ((),(r19.2.1,()))
       else none
      else
       (F_fc (s.core l,r17.1.1.2.1,())).bind fun r20=>some ((),(r20.2.1,()))
     else none)=some ((),((runM s l).core l,())):=by
 have hdo:=fun {w:Int} (hw:decF w=0)=>QsR h (Qit hw) rfl
 rw [Qfe h.c h.l _ (.inr (.inr rfl)),Obn]
 dsimp only
 unfold runM
 have hin:=QbQ h.c h.l s.pc 4
 generalize Qv s.cs l s.m s.pc 4=q at*
 by_cases h0:q.2=0
 ·have hlt:0≤q.1∧q.1< ((s.m.length:Nat):Int):=by
   rcases hin h0 with h | h
   ·exact absurd rfl h.2.2
   ·exact h
  have hN:q.1.toNat< s.m.length:=by omega
  have hw:WW (s.m.getD q.1.toNat 0):=h.l.words _ (QaC hN)
  rw [if_neg (by simpa using h0),if_pos hlt,Qr 0 hN,Qrg hw,Obn,if_pos hlt,Qr 0 hN,if_neg (c:=q.2≠0) (by simpa using h0)]
  dsimp only
  generalize s.m.getD q.1.toNat 0=w at*
  by_cases hd:decF w=0
  ·rw [if_pos hd,if_pos hd]
   dsimp only
   rw [if_neg (by decide)]
   have hx:=hdo hd
   have e1:((decM w).1,(decM w).2.1,(decM w).2.2.1,(decM w).2.2.2.1,())=decM w:=rfl
   rw [e1] at hx
   rw [hx,Obn]
   generalize doM s l (decM w).1 (decM w).2.1 (decM w).2.2.1 (decM w).2.2.2.1=x at*
   obtain ⟨b,s1⟩:=x
   cases b <;> rfl
  ·rw [if_neg hd,if_neg hd]
   dsimp only
   rw [if_pos (by decide)]
   unfold Mc.core
   rw [Qcq h.c,Obn]
   rfl
 ·rw [if_pos (by simpa using h0),if_pos (c:=q.2≠0) h0]
  unfold Mc.core
  rw [Qcq h.c,Obn]
  rfl
theorem QoM (h:OkS s l):F_fd (s.core l,())=some ((),((Qag s l).core l,())):=by
 obtain ⟨r,pc,cs,ha,wa,ru,dn,iq,oq,m,ring,fall⟩:=s
 have h0:OkS ⟨r,pc,cs,ha,wa,ru,dn,iq,oq,m, -1, -1⟩ l:=⟨h.r,h.pc,h.c,h.i,h.o,h.d,h.l⟩
 have h1:OkS ⟨r,pc,cs,ha,false,ru,dn,iq,oq,m, -1, -1⟩ l:=⟨h.r,h.pc,h.c,h.i,h.o,h.d,h.l⟩
 have hc:OkC cs:=h.c
 have hle:=QlV cs ru dn iq
 generalize he:Qag ⟨r,pc,cs,ha,wa,ru,dn,iq,oq,m,ring,fall⟩ l=e
 unfold Qag at he
 unfold F_fd
 dsimp only at he
 rw [show (Mc.core ⟨r,pc,cs,ha,wa,ru,dn,iq,oq,m,ring,fall⟩ l)=(r,pc,cs,ha,wa,ru,dn,iq,oq,l,m,fall,ring,()) from rfl]
 dsimp only
 cases ha
 ·rw [if_neg (by decide)] at he
  rw [if_neg (by decide),Qri hc,Obn]
  dsimp only
  by_cases hk:0≤dueM cs ru dn iq
  ·rw [if_pos hk] at he
   subst he
   rw [if_pos (Qbb.2 hk),Qw (by omega) (by omega),Qcq hc,Obn]
   rfl
  ·rw [if_neg hk] at he
   rw [if_neg (by rw [Qbb]; exact hk)]
   cases wa
   ·rw [if_neg (by decide)] at he
    subst he
    rw [if_neg (by decide)]
    exact QkN h0
   ·rw [if_pos rfl] at he
    have h7:(0:Int)≤7∧(7:Int)< ((cs.length:Nat):Int):=by rw [hc.len]; decide
    rw [if_pos rfl,Qev hc,Obn]
    dsimp only
    rw [if_pos h7,Qr 0 (by rw [hc.len]; decide)]
    simp only [show ((7:Int)).toNat=7 from rfl]
    by_cases hz:iand .i64 (Qds cs ru dn iq) (cs.getD 7 0)=0
    ·rw [if_pos hz] at he
     subst he
     rw [if_pos (by simpa using hz)]
     rfl
    ·rw [if_neg hz] at he
     subst he
     rw [if_neg (by simpa using hz)]
     exact QkN h1
 ·rw [if_pos rfl] at he
  subst he
  rw [if_pos rfl]
  rfl
theorem Qvo (h:OkS s l) {op d a i:Int} (hi:OkI op d a i):OkS (exM s l op d a i).2.2.2 l∧WW (exM s l op d a i).2.2.1∧((exM s l op d a i).1=true→WW (exM s l op d a i).2.1):=by
 have hp: ∀x y,WW (addW x y):=Qkp
 have h0:WW 0:=by unfold WW; omega
 have hd:=hi.hd
 have ha:=hi.ha
 have hii:=hi.hi
 have hra:=h.r.w (k:=a.toNat) (by omega)
 have hrd:=h.r.w (k:=d.toNat) (by omega)
 unfold exM
 let P:Bool×Int×Int×Mc→Prop:=fun x=>OkS x.2.2.2 l∧WW x.2.2.1∧(x.1=true→WW x.2.1)
 refine Qi P (fun _=>⟨h,hp _ _,fun _=>hp _ _⟩) fun _=>Qi P (fun _=>⟨h,by unfold WW; dsimp only; omega,fun _=>hp _ _⟩) fun _=>Qi P (fun _=>?_) fun _=>Qi P (fun _=>?_) fun _=>
  Qi P (fun _=>⟨h,h0,fun _=>Qi WW (fun _=>hp _ _) fun _=>hp _ _⟩) fun _=>Qi P (fun _=>⟨h,hp _ _,fun _=>hp _ _⟩) fun _=>Qi P (fun _=>⟨h,hp _ _,fun _=>hp _ _⟩) fun _=>
  Qi P (fun h21=>⟨h,Qrc h.c ⟨hii.1,hi.i21 (.inl h21)⟩ h.d,fun _=>hp _ _⟩) fun _=>Qi P (fun h22=>⟨⟨h.r,h.pc,QuJ h.c ⟨hii.1,hi.i21 (.inr h22)⟩,h.i,h.o,h.d,h.l⟩,h0,fun _=>hp _ _⟩) fun _=>
  Qi P (fun _=>⟨QfO h (by unfold WW; omega) h0,h0,fun _=>h0⟩) fun _=>Qi P (fun _=>⟨⟨h.r,h.c.w (by decide),Qsv h.c,h.i,h.o,h.d,h.l⟩,h0,fun _=>h.c.w (by decide)⟩) fun _=>
  Qi P (fun _=>⟨⟨h.r,h.pc,h.c,h.i,h.o,h.d,h.l⟩,h0,fun _=>hp _ _⟩) fun _=>Qi P (fun _=>⟨⟨h.r,h.pc,h.c,h.i,h.o,h.d,h.l⟩,h0,fun _=>h.pc⟩) fun _=>⟨h,QqI _ _ _,fun _=>hp _ _⟩
 ·have hin:=QbQ h.c h.l (addW (s.r.getD a.toNat 0) (off i)) 1
  refine Qi P (fun _=>⟨QfO h (by unfold WW; omega) (hp _ _),h0,fun _=>h0⟩) fun hq0=>Qi P (fun _=>?_) fun hq=>⟨h,?_,fun _=>hp _ _⟩
  ·have:=QtC (ru:=s.ru) h.c h.i h.d ((Qv s.cs l s.m (addW (s.r.getD a.toNat 0) (off i)) 1).1-1000)
   exact ⟨⟨h.r,h.pc,h.c,this.2,h.o,h.d,h.l⟩,this.1,fun _=>hp _ _⟩
  ·have hlt:0≤(Qv s.cs l s.m (addW (s.r.getD a.toNat 0) (off i)) 1).1∧(Qv s.cs l s.m (addW (s.r.getD a.toNat 0) (off i)) 1).1< (s.m.length:Int):=by
    rcases hin (by simpa using hq0) with h | h
    ·exact absurd h.1 hq
    ·exact h
   exact h.l.words _ (QaC (by omega))
 ·refine Qi P (fun _=>⟨QfO h (by unfold WW; omega) (hp _ _),h0,fun _=>h0⟩) fun hq0=>Qi P (fun _=>?_) fun hq=>?_
  ·exact ⟨⟨h.r,h.pc,QvK h.c _ _,h.i,QvL h.o _ _,h.d,h.l⟩,h0,fun _=>hp _ _⟩
  ·refine ⟨⟨h.r,h.pc,h.c,h.i,h.o,h.d,⟨h.l.len,fun p hpm=>?_,fun w hw=>?_,?_⟩⟩,h0,fun _=>hp _ _⟩
   ·have:=h.l.pgs p hpm
    dsimp only
    rw [List.length_set]
    exact this
   ·rcases List.mem_or_eq_of_mem_set hw with hw | rfl
    ·exact h.l.words w hw
    ·exact hrd
   ·dsimp only
    rw [List.length_set]
    exact h.l.mlen
theorem OkR.set {r:List Int} (h:OkR r) {k:Nat} {w:Int} (hk:0< k) (hw:WW w):OkR (r.set k w):=
 ⟨by rw [List.length_set]; exact h.len,fun z hz=>by
  rcases List.mem_or_eq_of_mem_set hz with hz | rfl
  ·exact h.words z hz
  ·exact hw,by rw [getD_set_ne (by omega)]; exact h.zero⟩
theorem QsG (h:OkS s l) {op d a i:Int} (hi:OkI op d a i):OkS (doM s l op d a i).2 l:=by
 have he:=Qvo h hi
 unfold doM
 dsimp only
 refine Qi (fun x:Bool×Mc=>OkS x.2 l) (fun hb=>?_) fun _=>he.1
 refine ⟨?_,he.2.2 hb,he.1.c,he.1.i,he.1.o,he.1.d,he.1.l⟩
 refine Qi OkR (fun hd=>he.1.r.set (by omega) he.2.1) fun _=>he.1.r
theorem Qth (h:OkS s l):OkS (Qfh s) l:=by
 have:=h.d
 refine ⟨h.r,h.pc,h.c,h.i,h.o,?_,h.l⟩
 unfold Qfh
 dsimp only
 split <;> omega
end
end Go.Proofs.YticbdcmkcghijaaGreatDoor
