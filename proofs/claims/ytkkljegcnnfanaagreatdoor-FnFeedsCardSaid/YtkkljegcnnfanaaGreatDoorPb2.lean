/- Plain laws: what the functions compute, and that both programs compute the same. -/
import Derived.Test.YtkkljegcnnfanaaGreatDoorPb1
set_option linter.unusedVariables false
set_option linter.unusedSimpArgs false
namespace Go.Proofs.YtkkljegcnnfanaaGreatDoor
open Go Go.RowKit S Go.Proofs
set_option maxRecDepth 100000
def Qik (l:List TwoD) (top:Int):Int:=if inB top 1 24=true then (if l.length=8 then (match scan (fun (_:Nat) p=>Qou top p) 0 l with | some c=>c | none=>0) else 1) else 3
def QcY (x:Qbu):Int:=if hartM x.1≠0 then hartM x.1 else if Qik x.2.1 8≠0 then Qik x.2.1 8 else if QN x.2.2.1=0∧x.2.2.1.length=64 then 0 else 1
theorem QeU {x:Qbu} (h:QcY x=0):hartM x.1=0∧Qik x.2.1 8=0∧QN x.2.2.1=0∧x.2.2.1.length=64:=by
 unfold QcY at h;split at h
 ·rename_i g; exact absurd h g
 ·rename_i g0;split at h
  ·rename_i g; exact absurd h g
  ·rename_i g1;split at h
   ·rename_i g2; exact ⟨by simpa using g0,by simpa using g1,g2⟩
   ·cases h
def WW (n:Int):Prop:=0≤n∧n≤4294967295
theorem QwF (n:Int):iand .i64 n 4294967295=n % 4294967296:=by
 have h1:(BitVec.ofInt 64 4294967295).toNat=2 ^ 32-1:=by decide
 have key:(BitVec.ofInt 64 n &&& BitVec.ofInt 64 4294967295).toNat=(n % ((2 ^ 64:Nat):Int)).toNat % 2 ^ 32:=by
  rw [BitVec.toNat_and,BitVec.toNat_ofInt,h1,Nat.and_two_pow_sub_one_eq_mod]
 show IntKind.i64.wrap ((BitVec.ofInt 64 n &&& BitVec.ofInt 64 4294967295).toNat:Nat)=_;rw [key,IntKind.wrap_i64];omega
theorem QpL (n:Int):iand .i64 n 65535=n % 65536:=by
 have h1:(BitVec.ofInt 64 65535).toNat=2 ^ 16-1:=by decide
 have key:(BitVec.ofInt 64 n &&& BitVec.ofInt 64 65535).toNat=(n % ((2 ^ 64:Nat):Int)).toNat % 2 ^ 16:=by
  rw [BitVec.toNat_and,BitVec.toNat_ofInt,h1,Nat.and_two_pow_sub_one_eq_mod]
 show IntKind.i64.wrap ((BitVec.ofInt 64 n &&& BitVec.ofInt 64 65535).toNat:Nat)=_;rw [key,IntKind.wrap_i64];omega
theorem QqY (n:Int):iand .i64 n 15=n % 16:=by
 have h1:(BitVec.ofInt 64 15).toNat=2 ^ 4-1:=by decide
 have key:(BitVec.ofInt 64 n &&& BitVec.ofInt 64 15).toNat=(n % ((2 ^ 64:Nat):Int)).toNat % 2 ^ 4:=by
  rw [BitVec.toNat_and,BitVec.toNat_ofInt,h1,Nat.and_two_pow_sub_one_eq_mod]
 show IntKind.i64.wrap ((BitVec.ofInt 64 n &&& BitVec.ofInt 64 15).toNat:Nat)=_;rw [key,IntKind.wrap_i64];omega
def wd (n:Int):Int:=n % 4294967296
theorem Qag (n:Int):WW (wd n):=by unfold wd WW; omega
theorem Qgq {n:Int} (h:WW n):wd n=n:=by unfold wd WW at *; omega
theorem Qxn (n:Int):wd (wd n)=wd n:=Qgq (Qag n)
theorem QdL (n:Int):IntKind.u32.wrap n=wd n:=by rw [IntKind.wrap_u32]; rfl
theorem QeJ (n:Int):IntKind.i64.wrap (wd n)=wd n:=by rw [IntKind.wrap_i64]; unfold wd; omega
theorem Qy {n:Int} (h0: -9223372036854775808≤n) (h1:n≤9223372036854775807):IntKind.i64.wrap n=n:=Qq h0 h1
theorem QdI (n:Int):F_z (n,())=some ((wd n,()),()):=by
 unfold F_z; simp only [QdL,QeJ]
theorem QiP (x):F_z x=some ((wd x.1,()),()):=QdI x.1
theorem QgR (n:Int):F_fg (n,())=some ((wd n,()),()):=by
 unfold F_fg; simp only [QwF]; rfl
theorem QbD (x):F_fg x=some ((wd x.1,()),()):=QgR x.1
def sg (n:Int):Int:=if wd n< 2147483648 then wd n else wd n-4294967296
theorem QeW (n:Int):F_bf (n,())=some ((sg n,()),()):=by
 unfold F_bf sg;simp only [QdL];have h:=Qag n;generalize wd n=w at*;unfold WW at h
 have e:IntKind.i64.wrap (IntKind.i32.wrap w)=if w< 2147483648 then w else w-4294967296:=by
  rw [IntKind.wrap_i64,IntKind.wrap_i32];split <;> omega
 rw [e]
theorem Qed (x):F_bf x=some ((sg x.1,()),()):=QeW x.1
theorem QeL (n:Int):F_fo (n,())=some ((sg n,()),()):=by
 unfold F_fo sg;simp only [QbD,Obn];have h:=Qag n;generalize wd n=w at*;unfold WW at h;by_cases hw:w< 2147483648
 ·rw [if_pos (QB.2 hw),if_pos hw]
 ·rw [if_neg (by rw [QB]; exact hw),if_neg hw,Qy (n:=w-4294967295) (by omega) (by omega),Qy (n:=w-4294967295-1) (by omega) (by omega),show w-4294967295-1=w-4294967296 by omega]
theorem QdZ (x):F_fo x=some ((sg x.1,()),()):=QeL x.1
theorem Qwm (n:Int): -2147483648≤sg n∧sg n≤2147483647:=by
 unfold sg; have:=Qag n; unfold WW at this; split <;> omega
theorem Qgm (n:Int):sg n=0↔wd n=0:=by
 unfold sg; have:=Qag n; unfold WW at this; split <;> omega
def addW (a b:Int):Int:=wd (a+b)
theorem Qdn (a b:Int):F_ay (a,b,())=some ((addW a b,()),()):=by
 unfold F_ay addW;simp only [QdL,QeJ,show wd (wd a+wd b)=wd (a+b) by unfold wd; omega]
theorem Qqf (x):F_ay x=some ((addW x.1 x.2.1,()),()):=Qdn x.1 x.2.1
theorem QfZ (a b:Int):F_fh (a,b,())=some ((addW a b,()),()):=by
 unfold F_fh addW;simp only [QbD,Obn];have ha:=Qag a; have hb:=Qag b;unfold WW at ha hb;rw [Qy (by omega) (by omega),show wd (wd a+wd b)=wd (a+b) by unfold wd; omega]
theorem Qpu (x):F_fh x=some ((addW x.1 x.2.1,()),()):=QfZ x.1 x.2.1
theorem Qla (a b:Int):WW (addW a b):=Qag _
theorem QuY (n:Int):IntKind.i16.wrap n=(n+32768) % 65536-32768:=by
 simp only [IntKind.wrap,IntKind.bits,IntKind.signed,Bool.true_and,ge_iff_le,decide_eq_true_eq,Int.reducePow,Nat.reduceSub];split <;> omega
def off (n:Int):Int:=if 32768≤n % 65536 then n % 65536-65536 else n % 65536
theorem Qme (n:Int):F_az (n,())=some ((off n,()),()):=by
 unfold F_az off
 have e:IntKind.i64.wrap (IntKind.i16.wrap (IntKind.u16.wrap n))=if 32768≤n % 65536 then n % 65536-65536 else n % 65536:=by
  rw [IntKind.wrap_i64,QuY,IntKind.wrap_u16];split <;> omega
 simp only [e]
theorem Qsk (n:Int):F_fi (n,())=some ((off n,()),()):=by
 unfold F_fi off;simp only [QpL];by_cases h:32768≤n % 65536
 ·rw [if_pos (QaW.2 h),if_pos h,Qy (by omega) (by omega)]
 ·rw [if_neg (by rw [QaW]; exact h),if_neg h]
def mulW (a b:Int):Int:=wd (wd a*wd b)
theorem QsY (a b:Int):F_bj (a,b,())=some ((mulW a b,()),()):=by
 unfold F_bj mulW; simp only [QdL,QeJ]
theorem Qqm (x):F_bj x=some ((mulW x.1 x.2.1,()),()):=QsY x.1 x.2.1
theorem Qsj (a b:Int):F_fr (a,b,())=some ((mulW a b,()),()):=by
 unfold F_fr mulW; simp only [QdL,QeJ]
theorem QpB (x):F_fr x=some ((mulW x.1 x.2.1,()),()):=Qsj x.1 x.2.1
theorem Qrs (a b:Int) (h: -2147483648≤a∧a≤2147483647): -2147483648≤a.tdiv b∧a.tdiv b≤2147483648:=by
 have h1:(a.tdiv b).natAbs=a.natAbs / b.natAbs:=Int.natAbs_tdiv a b;have h2:a.natAbs / b.natAbs≤a.natAbs:=Nat.div_le_self _ _;omega
def divW (a b:Int):Int:=if wd b=0 then 4294967295 else wd ((sg a).tdiv (sg b))
theorem QsS (a b:Int):F_bk (a,b,())=some ((divW a b,()),()):=by
 unfold F_bk divW;simp only [QiP,Qed,Obn];by_cases h:wd b=0
 ·rw [if_pos (by simpa using h),if_pos h]
 ·have hs: ¬sg b=0:=fun e=>h ((Qgm b).1 e)
  have:=Qrs (sg a) (sg b) (Qwm a);rw [if_neg (by simpa using h),if_neg h,if_neg hs,Qy (by omega) (by omega)]
theorem Qql (x):F_bk x=some ((divW x.1 x.2.1,()),()):=QsS x.1 x.2.1
theorem Qse (a b:Int):F_fs (a,b,())=some ((divW a b,()),()):=by
 unfold F_fs divW;simp only [QbD,QdZ,Obn];by_cases h:wd b=0
 ·rw [if_pos (by simpa using (Qgm b).2 h),if_pos h]
 ·have hs: ¬sg b=0:=fun e=>h ((Qgm b).1 e)
  have:=Qrs (sg a) (sg b) (Qwm a);rw [if_neg (by simpa using hs),if_neg h,if_neg hs,Qy (by omega) (by omega)]
theorem Qpz (x):F_fs x=some ((divW x.1 x.2.1,()),()):=Qse x.1 x.2.1
def remW (a b:Int):Int:=if wd b=0 then wd a else wd ((sg a).tmod (sg b))
theorem Qta (a b:Int):F_bl (a,b,())=some ((remW a b,()),()):=by
 unfold F_bl remW;simp only [QiP,Qed,Obn];by_cases h:wd b=0
 ·rw [if_pos (by simpa using h),if_pos h]
 ·have hs: ¬sg b=0:=fun e=>h ((Qgm b).1 e)
  rw [if_neg (by simpa using h),if_neg h,if_neg hs]
theorem Qqp (x):F_bl x=some ((remW x.1 x.2.1,()),()):=Qta x.1 x.2.1
theorem Qsm (a b:Int):F_ft (a,b,())=some ((remW a b,()),()):=by
 unfold F_ft remW;simp only [QbD,QdZ,Obn];by_cases h:wd b=0
 ·rw [if_pos (by simpa using (Qgm b).2 h),if_pos h]
 ·have hs: ¬sg b=0:=fun e=>h ((Qgm b).1 e)
  rw [if_neg (by simpa using hs),if_neg h,if_neg hs]
theorem QpD (x):F_ft x=some ((remW x.1 x.2.1,()),()):=Qsm x.1 x.2.1
theorem Qiq (n:Int): ∃k:Nat,wd n=(k:Int)∧k< 4294967296:=⟨(wd n).toNat,by have:=Qag n; unfold WW at this; omega,by have:=Qag n; unfold WW at this; omega⟩
theorem Qge {k:Nat} (h:k< 4294967296):(BitVec.ofInt 32 (k:Int)).toNat=k:=by
 rw [BitVec.ofInt_natCast,BitVec.toNat_ofNat]; exact Nat.mod_eq_of_lt (by omega)
theorem Qgf {k:Nat} (h:k< 4294967296):(BitVec.ofInt 64 (k:Int)).toNat=k:=by
 rw [BitVec.ofInt_natCast,BitVec.toNat_ofNat]; exact Nat.mod_eq_of_lt (by omega)
def bitN (op:Int) (a b:Nat):Nat:=if op=1 then a &&& b else if op=2 then a ||| b else a ^^^ b
def bitW (op a b:Int):Int:=(bitN op (wd a).toNat (wd b).toNat:Int)
theorem QmH (op:Int) {a b:Nat} (ha:a< 4294967296) (hb:b< 4294967296):bitN op a b< 4294967296:=by
 unfold bitN;split
 ·exact Nat.and_lt_two_pow (n:=32) _ (by omega)
 ·split
  ·exact Nat.or_lt_two_pow (n:=32) (by omega) (by omega)
  ·exact Nat.xor_lt_two_pow (n:=32) (by omega) (by omega)
theorem QrI (op a b:Int):WW (bitW op a b):=by
 obtain ⟨x,hx,hx2⟩:=Qiq a;obtain ⟨y,hy,hy2⟩:=Qiq b;unfold bitW WW;rw [hx,hy];have:=QmH op hx2 hy2;simp only [Int.toNat_natCast];omega
theorem Qio (op a b:Int) (h:op=1∨op=2∨op=3):F_bm (op,a,b,())=some (((0,bitW op a b,()),()),()):=by
 unfold F_bm bitW;simp only [QdL];obtain ⟨x,hx,hx2⟩:=Qiq a;obtain ⟨y,hy,hy2⟩:=Qiq b;rw [hx,hy];simp only [Int.toNat_natCast];have hlt:=QmH op hx2 hy2;rcases h with rfl | rfl | rfl
 ·rw [if_pos (by decide)]
  show some (((0,IntKind.i64.wrap (IntKind.u32.wrap ((BitVec.ofInt 32 (x:Int) &&& BitVec.ofInt 32 (y:Int)).toNat:Int)),()),()),())=_;have:bitN 1 x y=x &&& y:=rfl;rw [BitVec.toNat_and,Qge hx2,Qge hy2, ←this,QdL,QeJ,Qgq (by unfold WW; omega)]
 ·rw [if_neg (by decide),if_pos (by decide)]
  show some (((0,IntKind.i64.wrap (IntKind.u32.wrap ((BitVec.ofInt 32 (x:Int) ||| BitVec.ofInt 32 (y:Int)).toNat:Int)),()),()),())=_
  have:bitN 2 x y=x ||| y:=rfl
  rw [BitVec.toNat_or,Qge hx2,Qge hy2, ←this,QdL,QeJ,Qgq (by unfold WW; omega)]
 ·rw [if_neg (by decide),if_neg (by decide),if_pos (by decide)]
  show some (((0,IntKind.i64.wrap (IntKind.u32.wrap ((BitVec.ofInt 32 (x:Int) ^^^ BitVec.ofInt 32 (y:Int)).toNat:Int)),()),()),())=_;have:bitN 3 x y=x ^^^ y:=rfl;rw [BitVec.toNat_xor,Qge hx2,Qge hy2, ←this,QdL,QeJ,Qgq (by unfold WW; omega)]
theorem Qia (op a b:Int) (h:op=1∨op=2∨op=3):F_fu (op,a,b,())=some (((0,bitW op a b,()),()),()):=by
 unfold F_fu bitW;simp only [QbD,Obn];obtain ⟨x,hx,hx2⟩:=Qiq a;obtain ⟨y,hy,hy2⟩:=Qiq b;rw [hx,hy];simp only [Int.toNat_natCast];have hlt:=QmH op hx2 hy2;rcases h with rfl | rfl | rfl
 ·rw [if_pos (by decide)]
  show some (((0,IntKind.i64.wrap ((BitVec.ofInt 64 (x:Int) &&& BitVec.ofInt 64 (y:Int)).toNat:Int),()),()),())=_;have:bitN 1 x y=x &&& y:=rfl;rw [BitVec.toNat_and,Qgf hx2,Qgf hy2, ←this,Qy (by omega) (by omega)]
 ·rw [if_neg (by decide),if_pos (by decide)]
  show some (((0,IntKind.i64.wrap ((BitVec.ofInt 64 (x:Int) ||| BitVec.ofInt 64 (y:Int)).toNat:Int),()),()),())=_
  have:bitN 2 x y=x ||| y:=rfl
  rw [BitVec.toNat_or,Qgf hx2,Qgf hy2, ←this,Qy (by omega) (by omega)]
 ·rw [if_neg (by decide),if_neg (by decide),if_pos (by decide)]
  show some (((0,IntKind.i64.wrap ((BitVec.ofInt 64 (x:Int) ^^^ BitVec.ofInt 64 (y:Int)).toNat:Int),()),()),())=_;have:bitN 3 x y=x ^^^ y:=rfl;rw [BitVec.toNat_xor,Qgf hx2,Qgf hy2, ←this,Qy (by omega) (by omega)]
def shW (a b:Int) (left:Bool):Int:=if left=true then wd (wd a*2 ^ (wd b % 32).toNat) else wd a / 2 ^ (wd b % 32).toNat
theorem QoE {a:Int} (h:WW a) (k:Nat):WW (a / 2 ^ k):=by
 unfold WW at*;have h2:(0:Int)< 2 ^ k:=Int.pow_pos (by omega)
 exact ⟨Int.ediv_nonneg h.1 (by omega),Int.le_trans (Int.ediv_le_self _ h.1) h.2⟩
theorem QuK (a b:Int) (l:Bool):WW (shW a b l):=by
 unfold shW; split
 ·exact Qag _
 ·exact QoE (Qag a) _
theorem QuE {k:Nat} (h:k< 32):(2:Int) ^ k≤2147483648:=by
 have:(2:Nat) ^ k≤2 ^ 31:=Nat.pow_le_pow_right (by omega) (by omega)
 have h2:((2 ^ k:Nat):Int)≤((2 ^ 31:Nat):Int):=Int.ofNat_le.2 this;simpa using h2
theorem QuO {w:Int} (h:WW w):w.tmod 32=w % 32:=Int.tmod_eq_emod_of_nonneg h.1
theorem QcM {a:Int} (h:0≤a) (k:Nat):a.fdiv (2 ^ k)=a / 2 ^ k:=Int.fdiv_eq_ediv_of_nonneg _ (Int.le_of_lt (Int.pow_pos (by omega)))
theorem QoO (a b:Int) (l:Bool):F_bn (a,b,l,())=some ((shW a b l,()),()):=by
 unfold F_bn shW;simp only [QdL,QuO (Qag b)];have hw:=Qag a;have hb:0≤wd b % 32∧wd b % 32< 32:=by omega
 have e:IntKind.u64.wrap (wd b % 32)=wd b % 32:=by rw [IntKind.wrap_u64]; omega
 have e2:min (wd b % 32).toNat 32=(wd b % 32).toNat:=by omega
 rw [e,e2];cases l
 ·rw [if_neg (by decide),if_neg (by omega),if_neg (by decide),QcM hw.1]
  have:=QoE hw (wd b % 32).toNat;unfold WW at this;rw [Qy (by omega) (by omega)]
 ·rw [if_pos rfl,if_neg (by omega),if_pos rfl,QeJ]
theorem Qnk (x):F_bn x=some ((shW x.1 x.2.1 x.2.2.1,()),()):=QoO x.1 x.2.1 x.2.2.1
theorem Qoa (a b:Int) (l:Bool):F_fv (a,b,l,())=some ((shW a b l,()),()):=by
 unfold F_fv shW;simp only [QbD,Obn,QuO (Qag b)];have hw:=Qag a;have hb:0≤wd b % 32∧wd b % 32< 32:=by omega
 have e2:min (wd b % 32).toNat 64=(wd b % 32).toNat:=by omega
 rw [e2];cases l
 ·rw [if_neg (by decide),if_neg (by omega),if_neg (by decide),QcM hw.1]
 ·rw [if_pos rfl,if_neg (by omega),if_pos rfl]
  have h1:=QuE (k:=(wd b % 32).toNat) (by omega)
  have h0:(0:Int)< 2 ^ (wd b % 32).toNat:=Int.pow_pos (by omega)
  unfold WW at hw;generalize (2:Int) ^ (wd b % 32).toNat=p at*;have q0:0≤wd a*p:=Int.mul_nonneg hw.1 (by omega)
  have q1:wd a*p≤4294967295*2147483648:=Int.mul_le_mul hw.2 h1 (by omega) (by omega)
  rw [Qy (by omega) (by omega)]
theorem QmT (x):F_fv x=some ((shW x.1 x.2.1 x.2.2.1,()),()):=Qoa x.1 x.2.1 x.2.2.1
def aluW (op a b:Int):Int:=
 if op=1 then addW a b else if op=2 then wd (wd a-wd b) else if op=3 then mulW a b else if op=4 then divW a b else if op=5 then remW a b
 else if op=6 then bitW 1 a b else if op=7 then bitW 2 a b else if op=8 then bitW 3 a b else if op=9 then shW a b true else if op=10 then shW a b false
 else if sg a< sg b then 1 else 0
theorem QrC (op a b:Int):WW (aluW op a b):=by
 unfold aluW;have hd:WW (divW a b):=by unfold divW; split; unfold WW; omega; exact Qag _
 have hr:WW (remW a b):=by unfold remW; split <;> exact Qag _
 repeat' split
 all_goals first | exact Qla _ _ | exact Qag _ | exact hd | exact hr | exact QrI _ _ _ | exact QuK _ _ _ | (unfold WW; omega)
theorem QsQ (op a b:Int):F_bo (op,a,b,())=some ((aluW op a b,()),()):=by
 unfold F_bo aluW;simp only [Qqf,Qqm,Qql,Qqp,Qnk,Qed,Obn,QdL,QeJ];by_cases h1:op=1
 ·subst h1; rfl
 rw [if_neg (by simpa using h1),if_neg h1]
 by_cases h2:op=2
 ·subst h2; rfl
 rw [if_neg (by simpa using h2),if_neg h2]
 by_cases h3:op=3
 ·subst h3; rfl
 rw [if_neg (by simpa using h3),if_neg h3]
 by_cases h4:op=4
 ·subst h4; rfl
 rw [if_neg (by simpa using h4),if_neg h4]
 by_cases h5:op=5
 ·subst h5; rfl
 rw [if_neg (by simpa using h5),if_neg h5]
 by_cases h6:op=6
 ·subst h6;rw [if_pos (by decide),if_pos rfl,show IntKind.i64.wrap (IntKind.i64.wrap ((6:Int)-6)+1)=1 from by decide+kernel,Qio 1 a b (by omega)]; rfl
 rw [if_neg (by simpa using h6),if_neg h6]
 by_cases h7:op=7
 ·subst h7;rw [if_pos (by decide),if_pos rfl,show IntKind.i64.wrap (IntKind.i64.wrap ((7:Int)-6)+1)=2 from by decide+kernel,Qio 2 a b (by omega)]; rfl
 rw [if_neg (by simpa using h7),if_neg h7]
 by_cases h8:op=8
 ·subst h8;rw [if_pos (by decide),if_pos rfl,show IntKind.i64.wrap (IntKind.i64.wrap ((8:Int)-6)+1)=3 from by decide+kernel,Qio 3 a b (by omega)]; rfl
 rw [if_neg (by simpa using h8),if_neg h8]
 by_cases h9:op=9
 ·subst h9; rfl
 rw [if_neg (by simpa using h9),if_neg h9]
 by_cases h10:op=10
 ·subst h10; rfl
 rw [if_neg (by simpa using h10),if_neg h10]
 by_cases h:sg a< sg b
 ·rw [if_pos (QB.2 h),if_pos h]
 ·rw [if_neg (by rw [QB]; exact h),if_neg h]
theorem Qsc (op a b:Int) (ha:WW a) (hb:WW b) (h:1≤op∧op≤11):F_fw (op,a,b,())=some (((0,aluW op a b,()),()),()):=by
 unfold F_fw aluW;simp only [QbD,Obn,Qgq ha,Qgq hb,Qpu,QpB,Qpz,QpD,QmT,QdZ];by_cases h1:op=1
 ·subst h1; rfl
 rw [if_neg (by simpa using h1),if_neg h1]
 by_cases h2:op=2
 ·subst h2;unfold WW at ha hb;rw [if_pos (by decide),if_pos rfl,Qy (by omega) (by omega)]
 rw [if_neg (by simpa using h2),if_neg h2]
 by_cases h3:op=3
 ·subst h3; rfl
 rw [if_neg (by simpa using h3),if_neg h3]
 by_cases h4:op=4
 ·subst h4; rfl
 rw [if_neg (by simpa using h4),if_neg h4]
 by_cases h5:op=5
 ·subst h5; rfl
 rw [if_neg (by simpa using h5),if_neg h5]
 by_cases h6:op=6
 ·subst h6;rw [if_pos (by decide),if_pos rfl,show IntKind.i64.wrap (IntKind.i64.wrap ((6:Int)-6)+1)=1 from by decide+kernel,Qia 1 a b (by omega)]; rfl
 rw [if_neg (by simpa using h6),if_neg h6]
 by_cases h7:op=7
 ·subst h7;rw [if_pos (by decide),if_pos rfl,show IntKind.i64.wrap (IntKind.i64.wrap ((7:Int)-6)+1)=2 from by decide+kernel,Qia 2 a b (by omega)]; rfl
 rw [if_neg (by simpa using h7),if_neg h7]
 by_cases h8:op=8
 ·subst h8;rw [if_pos (by decide),if_pos rfl,show IntKind.i64.wrap (IntKind.i64.wrap ((8:Int)-6)+1)=3 from by decide+kernel,Qia 3 a b (by omega)]; rfl
 rw [if_neg (by simpa using h8),if_neg h8]
 by_cases h9:op=9
 ·subst h9; rfl
 rw [if_neg (by simpa using h9),if_neg h9]
 by_cases h10:op=10
 ·subst h10; rfl
 rw [if_neg (by simpa using h10),if_neg h10,if_pos (by simpa using (show op=11 by omega))]
 by_cases h:sg a< sg b
 ·rw [if_pos (QB.2 h),if_pos h]
 ·rw [if_neg (by rw [QB]; exact h),if_neg h]
structure OkC (cs:List Int):Prop where
 len:cs.length=11
 words: ∀w∈cs,WW w
 st:cs.getD 0 0≤3
 msk:cs.getD 7 0≤7
 tb:cs.getD 10 0≤8
 pd:cs.getD 6 0=0
 tm:cs.getD 8 0=0
structure OkR (r:List Int):Prop where
 len:r.length=16
 words: ∀w∈r,WW w
 zero:r.getD 0 0=0
structure OkQ (q:List Int):Prop where
 len:q.length≤40
 words: ∀w∈q,WW w
structure OkL (l:List TwoD) (m:List Int):Prop where
 len:l.length=8
 pgs: ∀p∈l,(-1≤p.1∧p.1≤23)∧(0≤p.2.1∧p.2.1≤7)∧8*p.1+8≤(m.length:Int)
 words: ∀w∈m,WW w
 mlen:m.length≤192
theorem QaG {α:Type} {l:List α} {k:Nat} {d:α} (h:k< l.length):l.getD k d∈l:=by
 rw [List.getD_eq_getElem?_getD,List.getElem?_eq_getElem h]; exact List.getElem_mem h
theorem Qcx {α:Type} {l:List α} {k:Nat} (d:α) (h:k< l.length):l[k]?=some (l.getD k d):=by
 rw [List.getD_eq_getElem?_getD,List.getElem?_eq_getElem h]; rfl
theorem Qs {α γ:Type} {l:List α} {i:Int} (d:α) (h:i.toNat< l.length) (K:α→Option γ):(l[i.toNat]?).bind K=K (l.getD i.toNat d):=by
 rw [Qcx d h]; rfl
theorem OkC.w {cs:List Int} (h:OkC cs) {k:Nat} (hk:k< 11):WW (cs.getD k 0):=h.words _ (QaG (by rw [h.len]; exact hk))
theorem OkR.w {cs:List Int} (h:OkR cs) {k:Nat} (hk:k< 16):WW (cs.getD k 0):=h.words _ (QaG (by rw [h.len]; exact hk))
def QdE (cs:List Int) (ru:Bool) (dn:Int) (iq:List Int):Int:=
 (if cs.getD 9 0≠0∧cs.getD 9 0≤dn then 1 else 0)+(if ru=true then 2 else 0)+(if 0< iq.length then 4 else 0)
theorem QhA (cs:List Int) (ru:Bool) (dn:Int) (iq:List Int):0≤QdE cs ru dn iq∧QdE cs ru dn iq≤7:=by
 unfold QdE; repeat' split
 all_goals omega
section
variable {r cs iq oq:List Int} {pc dn:Int} {ha wa ru:Bool}
theorem QeV (hc:OkC cs):F_an ((r,pc,cs,ha,wa,ru,dn,iq,oq,()),())=some ((QdE cs ru dn iq,()),()):=by
 unfold F_an QdE;dsimp only
 have e3:ltI 0 ((iq.length:Nat):Int)=decide (0< iq.length):=by
  have:=ltN (a:=0) (b:=iq.length);simpa using this
 rw [Qs 0 (by rw [hc.len]; decide)]
 simp only [e3,show ((9:Int)).toNat=9 from rfl,Qcx (l:=cs) (k:=9) 0 (by rw [hc.len]; decide),Obn]
 generalize cs.getD 9 0=a;by_cases h1:a=0
 ·cases ru <;> by_cases h3:0< iq.length <;> simp [h1,h3]
 ·by_cases h2:a≤dn <;> cases ru <;> by_cases h3:0< iq.length <;> simp [h1,h2,h3,Qal]
theorem QeK (hc:OkC cs):F_es ((r,pc,cs,ha,wa,ru,dn,iq,oq,()),())=some ((QdE cs ru dn iq,()),()):=by
 have o1:ior .i64 0 1=1:=by decide+kernel
 have o2:ior .i64 1 2=3:=by decide+kernel
 have o3:ior .i64 3 4=7:=by decide+kernel
 have o4:ior .i64 1 4=5:=by decide+kernel
 have o5:ior .i64 0 2=2:=by decide+kernel
 have o6:ior .i64 2 4=6:=by decide+kernel
 have o7:ior .i64 0 4=4:=by decide+kernel
 unfold F_es QdE;dsimp only
 have e3:ltI 0 ((iq.length:Nat):Int)=decide (0< iq.length):=by
  have:=ltN (a:=0) (b:=iq.length);simpa using this
 rw [Qs 0 (by rw [hc.len]; decide)]
 simp only [e3,show ((9:Int)).toNat=9 from rfl,Qcx (l:=cs) (k:=9) 0 (by rw [hc.len]; decide),Obn,o1,o2,o3,o4,o5,o6,o7]
 generalize cs.getD 9 0=a;by_cases h1:a=0
 ·cases ru <;> by_cases h3:0< iq.length <;> simp [h1,h3]
 ·by_cases h2:a≤dn <;> cases ru <;> by_cases h3:0< iq.length <;> simp [h1,h2,h3,Qal]
def lowB (v:Int):Int:=if v % 2=1 then 0 else if v / 2 % 2=1 then 1 else if v / 4 % 2=1 then 2 else -1
def dueM (cs:List Int) (ru:Bool) (dn:Int) (iq:List Int):Int:=if cs.getD 0 0 % 2=0 then -1 else lowB (iand .i64 (QdE cs ru dn iq) (cs.getD 7 0))
theorem QrD: ∀p:Fin 8, ∀m:Fin 8,0≤iand .i64 ((p.val:Nat):Int) ((m.val:Nat):Int)∧iand .i64 ((p.val:Nat):Int) ((m.val:Nat):Int)≤7:=by decide+kernel
theorem QqH {p m:Int} (h:0≤p∧p≤7) (h2:0≤m∧m≤7):0≤iand .i64 p m∧iand .i64 p m≤7:=by
 have:=QrD ⟨p.toNat,by omega⟩ ⟨m.toNat,by omega⟩
 simp only [show ((p.toNat:Nat):Int)=p from by omega,show ((m.toNat:Nat):Int)=m from by omega] at this
 exact this
def lowT (v:Int):Option (denO o_l_4):=if lowB v= -1 then some (.inl ((),((),()))) else some (.inr (.inl ((lowB v,()),((),()))))
theorem low0:L_ao_5 (((0:Int),(0,())),((),()))=lowT 0:=by kernel_rfl
theorem low1:L_ao_5 (((1:Int),(0,())),((),()))=lowT 1:=by kernel_rfl
theorem low2:L_ao_5 (((2:Int),(0,())),((),()))=lowT 2:=by kernel_rfl
theorem low3:L_ao_5 (((3:Int),(0,())),((),()))=lowT 3:=by kernel_rfl
theorem low4:L_ao_5 (((4:Int),(0,())),((),()))=lowT 4:=by kernel_rfl
theorem low5:L_ao_5 (((5:Int),(0,())),((),()))=lowT 5:=by kernel_rfl
theorem low6:L_ao_5 (((6:Int),(0,())),((),()))=lowT 6:=by kernel_rfl
theorem low7:L_ao_5 (((7:Int),(0,())),((),()))=lowT 7:=by kernel_rfl
theorem Qvz {v:Int} (h:0≤v∧v≤7):L_ao_5 ((v,(0,())),((),()))=lowT v:=by
 have:v=0∨v=1∨v=2∨v=3∨v=4∨v=5∨v=6∨v=7:=by omega
 rcases this with rfl | rfl | rfl | rfl | rfl | rfl | rfl | rfl
 ·exact low0
 ·exact low1
 ·exact low2
 ·exact low3
 ·exact low4
 ·exact low5
 ·exact low6
 ·exact low7
theorem Qvy: ∀v:Fin 8,v.val≠0→tzF (IntKind.u64.wrap ((v.val:Nat):Int))=some (lowB ((v.val:Nat):Int))∧lowB ((v.val:Nat):Int)≠ -1:=by decide+kernel
theorem Qvx (v:Int): -1≤lowB v∧lowB v≤2:=by
 unfold lowB; repeat' split
 all_goals omega
theorem QsT (hc:OkC cs):F_ao ((r,pc,cs,ha,wa,ru,dn,iq,oq,()),())=some ((dueM cs ru dn iq,()),()):=by
 unfold F_ao dueM;dsimp only;rw [QeV hc,Obn];dsimp only;rw [Qs 0 (by rw [hc.len]; decide),Qs 0 (by rw [hc.len]; decide)]
 have hst:=hc.w (k:=0) (by decide)
 have hmk:=hc.w (k:=7) (by decide)
 have hmk2:=hc.msk;have hb:=QqH (QhA cs ru dn iq) ⟨hmk.1,hmk2⟩;simp only [show ((7:Int)).toNat=7 from rfl,show ((0:Int)).toNat=0 from rfl,Int.tmod_eq_emod_of_nonneg hst.1]
 generalize iand .i64 (QdE cs ru dn iq) (cs.getD 7 0)=v at*;by_cases h:cs.getD 0 0 % 2=0
 ·rw [if_pos (by simpa using h),if_pos h]
 ·rw [if_neg (by simpa using h),if_neg h]
  rw [Qvz hb];unfold lowT;by_cases hl:lowB v= -1
  ·rw [if_pos hl,hl]; rfl
  ·rw [if_neg hl]; rfl
theorem Qsf (hc:OkC cs):F_eu ((r,pc,cs,ha,wa,ru,dn,iq,oq,()),())=some ((dueM cs ru dn iq,()),()):=by
 unfold F_eu dueM;dsimp only;rw [QeK hc,Obn];dsimp only;rw [Qs 0 (by rw [hc.len]; decide),Qs 0 (by rw [hc.len]; decide)]
 have hst:=hc.w (k:=0) (by decide)
 have hmk:=hc.w (k:=7) (by decide)
 have hmk2:=hc.msk;have hb:=QqH (QhA cs ru dn iq) ⟨hmk.1,hmk2⟩;simp only [show ((7:Int)).toNat=7 from rfl,show ((0:Int)).toNat=0 from rfl,Int.tmod_eq_emod_of_nonneg hst.1]
 generalize iand .i64 (QdE cs ru dn iq) (cs.getD 7 0)=v at*;by_cases h:cs.getD 0 0 % 2=0
 ·rw [if_neg (by simpa using h),if_pos h]
 ·rw [if_pos (by simpa using h),if_neg h]
  by_cases hv:v=0
  ·subst hv; rfl
  ·rw [if_neg (by simpa using hv)]
   have:=Qvy ⟨v.toNat,by omega⟩ (by simp only; omega)
   simp only [show ((v.toNat:Nat):Int)=v from by omega] at this
   unfold F_et;dsimp only;rw [this.1];rfl
def QgE (cs:List Int) (pc cause tval:Int):List Int:=(((cs.set 2 pc).set 3 cause).set 4 tval).set 0 (cs.getD 0 0 % 2*2)
theorem getD_set_ne {l:List Int} {i j:Nat} {y d:Int} (h:i≠j):(l.set i y).getD j d=l.getD j d:=by
 simp [List.getD_eq_getElem?_getD,List.getElem?_set_ne h]
theorem Qfu {l:List Int} {i:Nat} {y d:Int} (h:i< l.length):(l.set i y).getD i d=y:=by
 simp [List.getD_eq_getElem?_getD,List.getElem?_set_self h]
theorem OkC.set {cs:List Int} (h:OkC cs) {k:Nat} {w:Int} (hw:WW w) (hk:k≠6∧k≠8) (h0:k=0→w≤3) (h7:k=7→w≤7) (h10:k=10→w≤8):OkC (cs.set k w):=by
 by_cases hlt:k< 11
 ·refine ⟨by simp [h.len],fun z hz=>?_,?_,?_,?_,?_,?_⟩
  ·rcases List.mem_or_eq_of_mem_set hz with hz | rfl
   ·exact h.words z hz
   ·exact hw
  ·by_cases e:k=0
   ·subst e; rw [Qfu (by rw [h.len]; decide)]; exact h0 rfl
   ·rw [getD_set_ne e]; exact h.st
  ·by_cases e:k=7
   ·subst e; rw [Qfu (by rw [h.len]; decide)]; exact h7 rfl
   ·rw [getD_set_ne e]; exact h.msk
  ·by_cases e:k=10
   ·subst e; rw [Qfu (by rw [h.len]; decide)]; exact h10 rfl
   ·rw [getD_set_ne e]; exact h.tb
  ·rw [getD_set_ne hk.1]; exact h.pd
  ·rw [getD_set_ne hk.2]; exact h.tm
 ·rw [List.set_eq_of_length_le (by rw [h.len]; omega)]; exact h
theorem QuQ (hc:OkC cs) (hp:WW pc) {cause tval:Int} (h1:WW cause) (h2:WW tval):OkC (QgE cs pc cause tval):=by
 unfold QgE;have:=hc.w (k:=0) (by decide)
 unfold WW at this
 exact (((hc.set hp (by decide) (fun e=>absurd e (by decide)) (fun e=>absurd e (by decide)) (fun e=>absurd e (by decide))).set h1 (by decide) (fun e=>absurd e (by decide)) (fun e=>absurd e (by decide)) (fun e=>absurd e (by decide))).set h2 (by decide) (fun e=>absurd e (by decide)) (fun e=>absurd e (by decide)) (fun e=>absurd e (by decide))).set
  (by unfold WW; omega) (by decide) (fun _=>by omega) (fun e=>absurd e (by decide)) (fun e=>absurd e (by decide))
theorem Qkp (hc:OkC cs) (cause tval:Int):F_ap ((r,pc,cs,ha,wa,ru,dn,iq,oq,()),cause,tval,())=
  some ((),((r,cs.getD 1 0,QgE cs pc cause tval,ha,false,ru,dn,iq,oq,()),())):=by
 have hst:=hc.w (k:=0) (by decide)
 have hl:=hc.len;have hw:IntKind.i64.wrap (cs.getD 0 0 % 2*2)=cs.getD 0 0 % 2*2:=Qy (by omega) (by omega)
 unfold F_ap QgE
 simp only [show ((2:Int)).toNat=2 from rfl,show ((3:Int)).toNat=3 from rfl,show ((4:Int)).toNat=4 from rfl,show ((0:Int)).toNat=0 from rfl,show ((1:Int)).toNat=1 from rfl,
  List.length_set,hl,show (0:Int)≤2∧(2:Int)< ((11:Nat):Int) from by decide,show (0:Int)≤3∧(3:Int)< ((11:Nat):Int) from by decide,show (0:Int)≤4∧(4:Int)< ((11:Nat):Int) from by decide,
  show (0:Int)≤0∧(0:Int)< ((11:Nat):Int) from by decide,show (0:Int)≤1∧(1:Int)< ((11:Nat):Int) from by decide,and_self,if_true]
 rw [Qcx (l:=cs) (k:=2) 0 (by omega),Obn,Qcx (k:=3) 0 (by simp [hl]),Obn,Qcx (k:=4) 0 (by simp [hl]),Obn]
 rw [Qcx (l:=((cs.set 2 pc).set 3 cause).set 4 tval) (k:=0) 0 (by simp [hl]),Obn,Obn]
 rw [getD_set_ne (by decide),getD_set_ne (by decide),getD_set_ne (by decide),Int.tmod_eq_emod_of_nonneg hst.1,hw]
 rw [Qcx (k:=1) 0 (by simp [hl]),Obn]
 rw [getD_set_ne (by decide),getD_set_ne (by decide),getD_set_ne (by decide),getD_set_ne (by decide)]
theorem QpF (hc:OkC cs) (cause tval:Int):F_ev ((r,pc,cs,ha,wa,ru,dn,iq,oq,()),cause,tval,())=
  some ((),((r,cs.getD 1 0,QgE cs pc cause tval,ha,false,ru,dn,iq,oq,()),())):=Qkp hc cause tval
def Qjj (cs:List Int):List Int:=cs.set 0 (2+cs.getD 0 0 / 2)
theorem Qtv (hc:OkC cs):OkC (Qjj cs):=by
 have:=hc.w (k:=0) (by decide)
 have h3:=hc.st;unfold WW at this;exact hc.set (by unfold WW; omega) (by decide) (fun _=>by omega) (fun e=>absurd e (by decide)) (fun e=>absurd e (by decide))
theorem Qkn (hc:OkC cs):F_bi ((r,pc,cs,ha,wa,ru,dn,iq,oq,()),())=some ((),((r,cs.getD 2 0,Qjj cs,ha,wa,ru,dn,iq,oq,()),())):=by
 have hst:=hc.w (k:=0) (by decide)
 have hl:=hc.len;unfold WW at hst;unfold F_bi Qjj;simp only [show ((2:Int)).toNat=2 from rfl,show ((0:Int)).toNat=0 from rfl,hl,show (0:Int)≤2∧(2:Int)< ((11:Nat):Int) from by decide,show (0:Int)≤0∧(0:Int)< ((11:Nat):Int) from by decide,and_self,if_true]
 rw [Qcx (l:=cs) (k:=2) 0 (by omega),Obn,Qcx (l:=cs) (k:=0) 0 (by omega),Obn,Obn]
 rw [Int.tdiv_eq_ediv_of_nonneg hst.1,Qy (n:=cs.getD 0 0 / 2) (by omega) (by omega),Qy (by omega) (by omega)]
theorem Qpw (hc:OkC cs):F_fq ((r,pc,cs,ha,wa,ru,dn,iq,oq,()),())=some ((),((r,cs.getD 2 0,Qjj cs,ha,wa,ru,dn,iq,oq,()),())):=Qkn hc
def getM (cs:List Int) (ru:Bool) (dn:Int) (iq:List Int) (k:Int):Int:=if k=6 then QdE cs ru dn iq else if k=8 then dn else cs.getD k.toNat 0
theorem QsV (hc:OkC cs) {k:Int} (hk:0≤k∧k≤10):F_bh ((r,pc,cs,ha,wa,ru,dn,iq,oq,()),k,())=some ((getM cs ru dn iq k,()),()):=by
 unfold F_bh getM;dsimp only;rw [QeV hc,Obn];by_cases h6:k=6
 ·rw [if_pos (by simpa using h6),if_pos h6]
 rw [if_neg (by simpa using h6),if_neg h6]
 by_cases h8:k=8
 ·rw [if_pos (by simpa using h8),if_pos h8]
 rw [if_neg (by simpa using h8),if_neg h8,if_pos hk.1,Qs 0 (by rw [hc.len]; omega)]
theorem Qsh (hc:OkC cs) {k:Int} (hk:0≤k∧k≤10):F_fp ((r,pc,cs,ha,wa,ru,dn,iq,oq,()),k,())=some ((getM cs ru dn iq k,()),()):=by
 unfold F_fp getM;dsimp only;rw [QeK hc,Obn];by_cases h6:k=6
 ·rw [if_pos (by simpa using h6),if_pos h6]
 rw [if_neg (by simpa using h6),if_neg h6]
 by_cases h8:k=8
 ·rw [if_pos (by simpa using h8),if_pos h8]
 rw [if_neg (by simpa using h8),if_neg h8,if_pos hk.1,Qs 0 (by rw [hc.len]; omega)]
theorem QrZ (hc:OkC cs) {k:Int} (hk:0≤k∧k≤10) (hd:0≤dn∧dn≤1000000000):WW (getM cs ru dn iq k):=by
 unfold getM;have:=QhA cs ru dn iq;split
 ·unfold WW; omega
 ·split
  ·unfold WW; omega
  ·exact hc.w (by omega)
def setC (cs:List Int) (k w:Int):List Int:=
 if k=0 then cs.set 0 (wd w % 4) else if k=7 then cs.set 7 (wd w % 8) else if k=10 then cs.set 10 (if wd w≤8 then wd w else 0) else if k=6∨k=8 then cs else cs.set k.toNat (wd w)
def setR (ru:Bool) (k w:Int):Bool:=if k=6∧2≤wd w % 4 then false else ru
theorem QvQ (hc:OkC cs) {k w:Int} (hk:0≤k∧k≤10):OkC (setC cs k w):=by
 have h:=Qag w;have h':=h;unfold WW at h';unfold setC;split
 ·exact hc.set (by unfold WW; omega) (by decide) (fun _=>by omega) (fun e=>absurd e (by decide)) (fun e=>absurd e (by decide))
 split
 ·exact hc.set (by unfold WW; omega) (by decide) (fun e=>absurd e (by decide)) (fun _=>by omega) (fun e=>absurd e (by decide))
 split
 ·exact hc.set (by split; exact h; unfold WW; omega) (by decide) (fun e=>absurd e (by decide)) (fun e=>absurd e (by decide)) (fun _=>by split <;> omega)
 split
 ·exact hc
 ·exact hc.set h (by omega) (by omega) (by omega) (by omega)
theorem Qmg (hc:OkC cs) {k:Int} (hk:0≤k∧k≤10) (w:Int):F_bc ((r,pc,cs,ha,wa,ru,dn,iq,oq,()),k,w,())=
  some ((),((r,pc,setC cs k w,ha,wa,setR ru k w,dn,iq,oq,()),())):=by
 have h:=Qag w;unfold WW at h;have hin:0≤k∧k< ((cs.length:Nat):Int):=by rw [hc.len]; omega
 have e1:cs[k.toNat]?=some (cs.getD k.toNat 0):=Qcx 0 (by rw [hc.len]; omega)
 unfold F_bc setC setR;dsimp only;rw [QdI,Obn];dsimp only;generalize wd w=v at*;rw [Int.tmod_eq_emod_of_nonneg h.1,Int.tmod_eq_emod_of_nonneg h.1,e1];by_cases h0:k=0
 ·subst h0; simp [hc.len]
 by_cases h7:k=7
 ·subst h7; simp [hc.len]
 by_cases h10:k=10
 ·subst h10;by_cases h8:v≤8 <;> simp [hc.len,Qal,h8]
 by_cases h6:k=6
 ·subst h6;cases ru <;> by_cases h2:2≤v % 4 <;> simp [h2,Qax,Qal] <;> omega
 by_cases h8:k=8
 ·subst h8; simp
 have hk11:k< 11:=by omega
 simp [h0,h7,h10,h6,h8,hc.len,hk.1,hk11]
theorem Qib (hc:OkC cs) {k:Int} (hk:0≤k∧k≤10) (w:Int):F_fl ((r,pc,cs,ha,wa,ru,dn,iq,oq,()),k,w,())=
  some ((),((r,pc,setC cs k w,ha,wa,setR ru k w,dn,iq,oq,()),())):=by
 have h:=Qag w;unfold WW at h;have hin:0≤k∧k< ((cs.length:Nat):Int):=by rw [hc.len]; omega
 have e1:cs[k.toNat]?=some (cs.getD k.toNat 0):=Qcx 0 (by rw [hc.len]; omega)
 unfold F_fl setC setR;dsimp only;rw [QgR,Obn];dsimp only;generalize wd w=v at*;rw [Int.tmod_eq_emod_of_nonneg h.1,Int.tmod_eq_emod_of_nonneg h.1,e1];by_cases h0:k=0
 ·subst h0; simp [hc.len]
 by_cases h7:k=7
 ·subst h7; simp [hc.len]
 by_cases h10:k=10
 ·subst h10;by_cases h8:v≤8 <;> simp [hc.len,Qal,h8]
 by_cases h6:k=6
 ·subst h6;cases ru <;> by_cases h2:2≤v % 4 <;> simp [h2,Qax,Qal] <;> omega
 by_cases h8:k=8
 ·subst h8; simp
 have hk11:k< 11:=by omega
 simp [h0,h7,h10,h6,h8,hc.len,hk.1,hk11]
end
def mayP (p:TwoD) (kind:Int):Bool:=decide (0≤p.1) && !(iand .i64 p.2.1 kind==0)
def Qaf (l:List TwoD) (at_ kind:Int):Int:=
 if 0≤at_∧at_≤63 then (if mayP (l.getD (at_ / 8).toNat (-1,0,())) kind=true then (l.getD (at_ / 8).toNat (-1,0,())).1*8+at_ % 8 else -1) else -1
def Qiv (kind:Int):Int:=if kind=1 then 7 else if kind=2 then 8 else 9
structure OkP (l:List TwoD):Prop where
 len:l.length=8
 pgs: ∀p∈l, -1≤p.1∧p.1≤23
theorem OkP.at {l:List TwoD} (h:OkP l) {k:Nat} (hk:k< 8): -1≤(l.getD k (-1,0,())).1∧(l.getD k (-1,0,())).1≤23:=h.pgs _ (QaG (by rw [h.len]; exact hk))
theorem OkL.p {l:List TwoD} {m:List Int} (h:OkL l m):OkP l:=⟨h.len,fun p hp=>(h.pgs p hp).1⟩
theorem QkH {l:List TwoD} (h:OkP l) (at_ kind:Int): -1≤Qaf l at_ kind∧Qaf l at_ kind≤191:=by
 unfold Qaf;split
 ·have:=h.at (k:=(at_ / 8).toNat) (by omega)
  split
  ·rename_i hm;simp only [mayP,Bool.and_eq_true,decide_eq_true_eq] at hm;omega
  ·omega
 ·omega
theorem Qqj (kind:Int):F_av (kind,())=some ((Qiv kind,()),()):=by
 unfold F_av Qiv;by_cases h1:kind=1
 ·simp [h1]
 ·by_cases h2:kind=2 <;> simp [h1,h2]
theorem Qpx {kind:Int} (h:kind=1∨kind=2∨kind=4):F_fb (kind,())=some ((Qiv kind,()),()):=by
 rcases h with rfl | rfl | rfl <;> rfl
theorem Qds (kind:Int):Qiv kind≠0:=by
 unfold Qiv; repeat' split
 all_goals omega
theorem QgY {l:List TwoD} (h:OkP l) (at_ kind:Int):F_ar (l,at_,kind,())=some ((Qaf l at_ kind,()),()):=by
 unfold F_ar Qaf;dsimp only;rw [Qcm,Obn];dsimp only;by_cases hin:0≤at_∧at_≤63
 ·rw [if_neg (by simp [hin.1,hin.2]),if_pos hin,Int.tdiv_eq_ediv_of_nonneg hin.1,Qy (by omega) (by omega),if_pos (by omega)]
  rw [Qs ((-1,0,()):TwoD) (by rw [h.len]; omega)]
  have hp:=h.at (k:=(at_ / 8).toNat) (by omega)
  generalize l.getD (at_ / 8).toNat (-1,0,())=p at*;unfold mayP;by_cases h0:0≤p.1
  ·rw [if_pos (Qbf.2 (by omega))]
   by_cases hk:iand .i64 p.2.1 kind=0
   ·rw [if_pos (by simpa using hk),if_neg (by simp [hk])]
   ·rw [if_neg (by simpa using hk),if_pos (by simp [hk,h0]),Int.tmod_eq_emod_of_nonneg hin.1,Qy (n:=p.1*8) (by omega) (by omega),Qy (by omega) (by omega)]
  ·rw [if_neg (by rw [Qbf]; omega),if_neg (by simp [h0])]
 ·rw [if_pos (by simp; omega),if_neg hin]
theorem QjJ {l:List TwoD} (h:OkP l) (at_:Int) {kind:Int} (hkd:kind=1∨kind=2∨kind=4):
  F_fc (l,at_,kind,())=some ((if Qaf l at_ kind< 0 then (Qiv kind,0,()) else (0,Qaf l at_ kind,()),()),()):=by
 unfold F_fc F_fa Qaf;dsimp only;rw [Qbq,Obn,Obn,Qpx hkd,Obn];dsimp only;by_cases hin:0≤at_∧at_≤63
 ·rw [if_pos (by simp [hin.1,hin.2]),if_pos hin,Int.tdiv_eq_ediv_of_nonneg hin.1,Qy (by omega) (by omega),if_pos (by omega)]
  rw [Qs ((-1,0,()):TwoD) (by rw [h.len]; omega),Qs ((-1,0,()):TwoD) (by rw [h.len]; omega),Qs ((-1,0,()):TwoD) (by rw [h.len]; omega)]
  have hp:=h.at (k:=(at_ / 8).toNat) (by omega)
  have h8:0≤at_ / 8:=by omega
  generalize l.getD (at_ / 8).toNat (-1,0,())=p at*;unfold mayP;by_cases h0:0≤p.1
  ·rw [if_pos (Qbf.2 (by omega)),if_pos h8]
   by_cases hk:iand .i64 p.2.1 kind=0
   ·rw [if_pos (by simpa using hk),if_neg (c:=(decide (0≤p.1) && !(iand .i64 p.2.1 kind==0))=true) (by simp [hk]),if_pos (by decide)]
   ·rw [if_neg (by simpa using hk),if_pos h8,if_pos (c:=(decide (0≤p.1) && !(iand .i64 p.2.1 kind==0))=true) (by simp [hk,h0]),Int.tmod_eq_emod_of_nonneg hin.1,
     Qy (n:=p.1*8) (by omega) (by omega),Qy (by omega) (by omega),if_neg (by omega)]
  ·rw [if_neg (by rw [Qbf]; omega),if_neg (c:=(decide (0≤p.1) && !(iand .i64 p.2.1 kind==0))=true) (by simp [h0]),if_pos (by decide)]
 ·rw [if_neg (by simp; omega),if_neg hin,if_pos (by decide)]
def entM (w:Int):TwoD:=if w % 8≠0∧w / 8< 8 then (w / 8,w % 8,()) else (-1,0,())
theorem QsU {w:Int} (h:WW w):F_as (w,())=some ((entM w,()),()):=by
 unfold WW at h;unfold F_as entM F_ai;dsimp only;rw [Int.tdiv_eq_ediv_of_nonneg h.1,Int.tmod_eq_emod_of_nonneg h.1,Qy (by omega) (by omega)]
 by_cases h1:w % 8=0
 ·simp [h1]
 ·by_cases h2:w / 8< 8
  ·have: ¬(8:Int)≤w / 8:=by omega
   simp [h1,h2,Qal,this]
  ·have:(8:Int)≤w / 8:=by omega
   simp [h1,h2,Qal,this]
theorem Qsg {w:Int} (h:WW w):F_ex (w,())=some ((entM w,()),()):=by
 unfold WW at h;unfold F_ex entM F_en;dsimp only;rw [Int.tdiv_eq_ediv_of_nonneg h.1,Int.tmod_eq_emod_of_nonneg h.1,Qy (by omega) (by omega)]
 by_cases h1:w % 8=0
 ·simp [h1]
 ·by_cases h2:w / 8< 8
  ·have: ¬(8:Int)≤w / 8:=by omega
   simp [h1,h2,Qal,this]
  ·have:(8:Int)≤w / 8:=by omega
   simp [h1,h2,Qal,this]
theorem Qvk {w:Int} (h:WW w): -1≤(entM w).1∧(entM w).1≤7:=by
 unfold WW at h;unfold entM; split
 ·simp only; omega
 ·simp only; omega
theorem Qgg {w:Int}:okW w=true↔WW w:=by unfold okW WW; simp
theorem Qah {m:List Int}:allW m=true↔ ∀w∈m,WW w:=by
 unfold allW; rw [List.all_eq_true]; exact ⟨fun h w hw=>Qgg.1 (h w hw),fun h w hw=>Qgg.2 (h w hw)⟩
theorem Qkw {α:Type} {l:List α} {i:Nat} (h:i< l.length):l.take (i+1)=l.take i++[l[i]]:=by rw [List.take_add_one,List.getElem?_eq_getElem h]; rfl
theorem QiS {ws:List Int} (hl:ws.length=8) (hw: ∀w∈ws,WW w):F_at (ws,())=some (((0,ws.map entM,()),()),()):=by
 have key:=Qfa (step:=l_at_5) (γ:=denO o_at_5) (fun k (s:List TwoD)=>((ws,(),(),((k:Nat):Int),()),((0,[],()),((0,s,()),())),())) 8 (QaM (by omega)) (fun k s=>s=(ws.take k).map entM)
  (fun _ _=>some (.inl (((),(),()),(((0,[],()),((0,ws.map entM,()),())),())))) ?_ 0 [] (by omega) (by simp)
 ·unfold F_at;dsimp only;rw [if_neg (by rw [hl]; decide)]
  show (Qd l_at_5 lots ((ws,(),(),0,()),((0,[],()),((0,[],()),())),())).bind _=_;rw [show ((0:Int))=(((0:Nat):Nat):Int) from rfl] at*
  rw [key];rfl
 ·intro rec i s hi hs ih;unfold l_at_5;dsimp only;by_cases hlt:i< 8
  ·have hlw:i< ws.length:=by omega
   have hin:WW ws[i]:=hw _ (List.getElem_mem hlw);rw [if_pos (lt_t hlw),if_pos nat0,Qn hlw,Qcm,Obn];dsimp only;have hok:(decide (ws[i]≥0) && decide (ws[i]≤4294967295))=true:=Qgg.2 hin;rw [if_neg (by rw [hok]; decide),if_pos nat0,Qn hlw,QsU hin,Obn]
   dsimp only;have hsl:s.length=i:=by rw [hs,List.length_map,List.length_take]; omega
   rw [if_pos (by rw [hsl]; simp; omega),QQ (by omega)]
   exact ih _ hlt (by rw [hs,Qkw hlw,List.map_append]; rfl)
  ·have:i=8:=by omega
   subst this;rw [if_neg (by rw [hl]; decide)]
   have:s=ws.map entM:=by rw [hs,List.take_of_length_le (by omega)]
   rw [this]
theorem QiR {ws:List Int} (hl:ws.length=8) (hw: ∀w∈ws,WW w):F_ey (ws,())=some (((0,ws.map entM,()),()),()):=by
 have key:=Qfa (step:=l_ey_7) (γ:=denO o_ey_7) (fun k (s:List TwoD)=>(((),s,ws,8,((k:Nat):Int),()),((0,[],()),()),())) 8 (QaM (by omega)) (fun k s=>s=(ws.take k).map entM)
  (fun _ _=>some (.inl (((),ws.map entM,()),((0,[],()),()),()))) ?_ 0 [] (by omega) (by simp)
 ·unfold F_ey;dsimp only;rw [if_neg (by rw [hl]; decide),QbB _ (by rw [hl,Qdk]; omega),Obn]
  dsimp only;rw [Qah.2 hw,if_neg (by decide),hl]
  show (Qd l_ey_7 lots (((),[],ws,8,0,()),((0,[],()),()),())).bind _=_;rw [show ((0:Int))=(((0:Nat):Nat):Int) from rfl] at*
  rw [key];rfl
 ·intro rec i s hi hs ih;unfold l_ey_7;dsimp only;by_cases hlt:i< 8
  ·have hlw:i< ws.length:=by omega
   have hin:WW ws[i]:=hw _ (List.getElem_mem hlw);rw [if_pos (QB.2 (by omega)),if_pos nat0,Qn hlw,Qsg hin,Obn]
   dsimp only;have hsl:s.length=i:=by rw [hs,List.length_map,List.length_take]; omega
   rw [if_pos (by rw [hsl]; simp; omega),QQ (by omega)]
   exact ih _ hlt (by rw [hs,Qkw hlw,List.map_append]; rfl)
  ·have:i=8:=by omega
   subst this;rw [if_neg (by decide)]
   have:s=ws.map entM:=by rw [hs,List.take_of_length_le (by omega)]
   rw [this]
def idsM:List TwoD:=[(0,7,()),(1,7,()),(2,7,()),(3,7,()),(4,7,()),(5,7,()),(6,7,()),(7,7,())]
theorem QvT:L_au_5 ((([]:List TwoD),((0:Int),())),((),()))=some (.inl ((idsM,()),((),()))):=by kernel_rfl
theorem Qvt:L_ez_5 (((),(([]:List TwoD),((0:Int),()))),((((0:Int),(([]:List TwoD),())),()),()))=some (.inl (((),(idsM,())),((((0:Int),(([]:List TwoD),())),()),()))):=by kernel_rfl
theorem Qvr:OkP idsM:=⟨rfl,by decide⟩
def QbW (cs:List Int) (l:List TwoD) (m:List Int):Option (List TwoD):=
 if cs.getD 10 0=0 then some idsM else if cs.getD 10 0=8 then none
 else if Qaf l ((cs.getD 10 0-1)*8) 1< 0 then none else some (((m.drop (Qaf l ((cs.getD 10 0-1)*8) 1).toNat).take 8).map entM)
section
variable {r cs iq oq m:List Int} {pc dn ring fall:Int} {ha wa ru:Bool} {l:List TwoD}
theorem OkL.at {l:List TwoD} {m:List Int} (h:OkL l m) {k:Nat} (hk:k< 8):(-1≤(l.getD k (-1,0,())).1∧(l.getD k (-1,0,())).1≤23)∧8*(l.getD k (-1,0,())).1+8≤(m.length:Int):=by
 have:=h.pgs _ (QaG (l:=l) (k:=k) (d:=(-1,0,())) (by rw [h.len]; exact hk)); exact ⟨this.1,this.2.2⟩
theorem QkG (h:OkL l m) (at_ kind:Int) (h0:0≤Qaf l at_ kind):Qaf l at_ kind< (m.length:Int)∧(at_ % 8=0→Qaf l at_ kind+8≤(m.length:Int)):=by
 unfold Qaf at*;split at h0
 ·have:=h.at (k:=(at_ / 8).toNat) (by omega)
  rename_i hin;rw [if_pos hin];split at h0
  ·rename_i hm;rw [if_pos hm];omega
  ·omega
 ·omega
theorem QgT (h:OkL l m) {f:Int} (h0:0≤f) (h1:f+8≤(m.length:Int)):((m.drop f.toNat).take 8).length=8∧ ∀w∈(m.drop f.toNat).take 8,WW w:=
 ⟨by rw [List.length_take,List.length_drop]; omega,fun w hw=>h.words w (List.mem_of_mem_drop (List.mem_of_mem_take hw))⟩
theorem QoP (hc:OkC cs) (h:OkL l m):F_au ((l,m,ring,(r,pc,cs,ha,wa,ru,dn,iq,oq,()),fall,()),())=
  some ((match QbW cs l m with | some s=>(s,true,()) | none=>([],false,())),()):=by
 have ht:=hc.w (k:=10) (by decide)
 have ht2:=hc.tb;unfold WW at ht;unfold F_au QbW;dsimp only;rw [Qs 0 (by rw [hc.len]; decide)]
 simp only [show ((10:Int)).toNat=10 from rfl]
 generalize cs.getD 10 0=t at*;by_cases h0:t=0
 ·subst h0;rw [if_pos (by decide),if_pos rfl]
  show (L_au_5 _).bind _=_;rw [QvT]; rfl
 ·rw [if_neg (by simpa using h0),if_neg h0,Qy (n:=t-1) (by omega) (by omega),Qy (n:=(t-1)*8) (by omega) (by omega),QgY h.p,Obn]
  dsimp only;by_cases h8:t=8
  ·subst h8; rfl
  ·rw [if_pos (by simpa using h8),if_neg h8]
   have hin:=QkG h ((t-1)*8) 1;have hle:=QkH h.p ((t-1)*8) 1;generalize Qaf l ((t-1)*8) 1=f at*;by_cases hf:f< 0
   ·rw [if_pos (QB.2 hf),if_pos hf]
   ·have h2:=(hin (by omega)).2 (by omega)
    rw [if_neg (by rw [QB]; exact hf),if_neg hf,Qy (by omega) (by omega),if_pos (c:=(0:Int)≤f∧f≤f+8∧f+8≤((m.length:Nat):Int)) ⟨Int.not_lt.1 hf,by omega,h2⟩,show (f+8).toNat-f.toNat=8 by omega]
    have hp:=QgT h (f:=f) (by omega) h2
    rw [QiS hp.1 hp.2]; rfl
theorem Qob (hc:OkC cs) (h:OkL l m):F_ez ((r,pc,cs,ha,wa,ru,dn,iq,oq,()),l,m,())=
  some ((match QbW cs l m with | some s=>(0,s,()) | none=>(7,[],()),()),()):=by
 have ht:=hc.w (k:=10) (by decide)
 have ht2:=hc.tb;unfold WW at ht;unfold F_ez QbW;dsimp only;rw [Qs 0 (by rw [hc.len]; decide)]
 simp only [show ((10:Int)).toNat=10 from rfl]
 generalize cs.getD 10 0=t at*;rw [Qy (n:=t-1) (by omega) (by omega)]
 by_cases h0:t=0
 ·subst h0;rw [if_pos (by decide),if_pos rfl]
  show (L_ez_5 _).bind _=_;rw [Qvt]; rfl
 ·have ht1:0≤t-1:=by omega
  rw [if_neg (by rw [QB]; omega),if_neg h0,if_pos ht1]
  have hlen:(t-1).toNat< l.length:=by rw [h.len]; omega
  rw [Qs ((-1,0,()):TwoD) hlen,Qs ((-1,0,()):TwoD) hlen,Qs ((-1,0,()):TwoD) hlen];have hat:=h.at (k:=(t-1).toNat) (by omega)
  have hw:Qaf l ((t-1)*8) 1=if mayP (l.getD (t-1).toNat (-1,0,())) 1=true then (l.getD (t-1).toNat (-1,0,())).1*8 else -1:=by
   unfold Qaf;rw [if_pos (by omega),show (t-1)*8 / 8=t-1 by omega,show (t-1)*8 % 8=0 by omega,Int.add_zero]
  rw [hw];generalize l.getD (t-1).toNat (-1,0,())=p at*;unfold mayP;by_cases hp0:0≤p.1
  ·rw [if_pos (Qbf.2 (by omega)),if_pos ht1]
   by_cases hk:iand .i64 p.2.1 1=0
   ·rw [if_neg (by simp [hk])]
    by_cases h8:t=8
    ·rw [if_pos h8]
    ·rw [if_neg h8,if_neg (c:=(decide (0≤p.1) && !(iand .i64 p.2.1 1==0))=true) (by simp [hk]),if_pos (by decide)]
   ·rw [if_pos (by simpa using hk)]
    by_cases h8:t=8
    ·subst h8; rfl
    ·have hne: ¬t-1=7:=by omega
     rw [if_neg (by simpa using hne),if_pos ht1,if_neg h8,if_pos (c:=(decide (0≤p.1) && !(iand .i64 p.2.1 1==0))=true) (by simp [hk,hp0]),if_neg (by omega)]
     have hpo:=QlR m p.1.toNat (by omega) h.mlen
     rw [show ((p.1.toNat:Nat):Int)=p.1 by omega] at hpo
     rw [hpo,Obn];dsimp only;rw [show (p.1*8).toNat=8*p.1.toNat by omega]
     have hpw:=QgT h (f:=p.1*8) (by omega) (by omega)
     rw [show (p.1*8).toNat=8*p.1.toNat by omega] at hpw
     rw [QiR hpw.1 hpw.2]; rfl
  ·rw [if_neg (by rw [Qbf]; omega)]
   by_cases h8:t=8
   ·rw [if_pos h8]
   ·rw [if_neg h8,if_neg (c:=(decide (0≤p.1) && !(iand .i64 p.2.1 1==0))=true) (by simp [hp0]),if_pos (by decide)]
theorem Qmd (hc:OkC cs) (h:OkL l m) {s:List TwoD} (hs:QbW cs l m=some s):OkP s∧ ∀p∈s,p.1≤7:=by
 have ht:=hc.w (k:=10) (by decide)
 have ht2:=hc.tb;unfold WW at ht;unfold QbW at hs;split at hs
 ·obtain rfl:=Osj hs; exact ⟨Qvr,by decide⟩
 ·split at hs
  ·cases hs
  ·split at hs
   ·cases hs
   ·rename_i h8 hf;obtain rfl:=Osj hs;have h2:=(QkG h ((cs.getD 10 0-1)*8) 1 (by omega)).2 (by omega)
    have hp:=QgT h (f:=Qaf l ((cs.getD 10 0-1)*8) 1) (by omega) h2
    have key: ∀p∈List.map entM (((m.drop (Qaf l ((cs.getD 10 0-1)*8) 1).toNat).take 8)), -1≤p.1∧p.1≤7:=by
     intro p hpm;obtain ⟨w,hw,rfl⟩:=List.mem_map.1 hpm;exact Qvk (hp.2 w hw)
    exact ⟨⟨by rw [List.length_map]; exact hp.1,fun p hm=>⟨(key p hm).1,by have:=(key p hm).2; omega⟩⟩,fun p hm=>(key p hm).2⟩
def Qx (cs:List Int) (l:List TwoD) (m:List Int) (at_ kind:Int):Int×Int:=
 match QbW cs l m with
 | none=>(0,7)
 | some s=>if Qaf s at_ kind< 0 then (0,Qiv kind) else if Qaf s at_ kind / 8=7 then (if kind=4 then (0,9) else (1000+Qaf s at_ kind % 8,0))
  else if Qaf l (Qaf s at_ kind) kind< 0 then (0,Qiv kind) else (Qaf l (Qaf s at_ kind) kind,0)
theorem QbZ (hc:OkC cs) (h:OkL l m) (at_:Int) (kind:Int) (h0:(Qx cs l m at_ kind).2=0):
  (1000≤(Qx cs l m at_ kind).1∧(Qx cs l m at_ kind).1≤1007∧kind≠4)∨(0≤(Qx cs l m at_ kind).1∧(Qx cs l m at_ kind).1< (m.length:Int)):=by
 unfold Qx at*;cases hs:QbW cs l m with
 | none=>rw [hs] at h0; simp at h0
 | some s=>
  rw [hs] at h0;simp only at h0⊢;split at h0
  ·exact absurd h0 (Qds kind)
  ·rename_i h1;rw [if_neg h1];split at h0
   ·rename_i h7;rw [if_pos h7];split at h0
    ·simp at h0
    ·rename_i h4;rw [if_neg h4];left;simp only;omega
   ·rename_i h7;rw [if_neg h7];split at h0
    ·exact absurd h0 (Qds kind)
    ·rename_i h2;rw [if_neg h2];right;exact ⟨by simp only; omega,(QkG h _ _ (by omega)).1⟩
theorem QfS (hc:OkC cs) (h:OkL l m) (at_ kind:Int):F_aw ((l,m,ring,(r,pc,cs,ha,wa,ru,dn,iq,oq,()),fall,()),at_,kind,())=
  some (((Qx cs l m at_ kind).1,(Qx cs l m at_ kind).2,()),()):=by
 unfold F_aw Qx;dsimp only;rw [QoP hc h,Obn];cases hs:QbW cs l m with
 | none=>rfl
 | some s=>
  have hp:=(Qmd hc h hs).1;dsimp only;rw [if_neg (by decide),QgY hp,Obn,Qqj,Obn]
  dsimp only;have hle:=QkH hp at_ kind;generalize Qaf s at_ kind=g at*;by_cases hg:g< 0
  ·rw [if_pos (QB.2 hg),if_pos hg]
  ·rw [if_neg (by rw [QB]; exact hg),if_neg hg,Int.tdiv_eq_ediv_of_nonneg (by omega),Int.tmod_eq_emod_of_nonneg (by omega),Qy (n:=g / 8) (by omega) (by omega)]
   by_cases h7:g / 8=7
   ·rw [if_pos (by simpa using h7),if_pos h7]
    by_cases h4:kind=4
    ·rw [if_pos (by simpa using h4),if_pos h4]
    ·rw [if_neg (by simpa using h4),if_neg h4,Qy (by omega) (by omega)]
   ·rw [if_neg (by simpa using h7),if_neg h7,QgY h.p,Obn]
    dsimp only;by_cases hf:Qaf l g kind< 0
    ·rw [if_pos (QB.2 hf),if_pos hf]
    ·rw [if_neg (by rw [QB]; exact hf),if_neg hf]
theorem QfA (hc:OkC cs) (h:OkL l m) (at_:Int) {kind:Int} (hk:kind=1∨kind=2∨kind=4):F_fd ((r,pc,cs,ha,wa,ru,dn,iq,oq,()),l,m,at_,kind,())=
  some ((((Qx cs l m at_ kind).2,(Qx cs l m at_ kind).1,()),()),()):=by
 unfold F_fd Qx;dsimp only;rw [Qob hc h,Obn];cases hs:QbW cs l m with
 | none=>rfl
 | some s=>
  have hp:=(Qmd hc h hs).1;dsimp only;rw [if_neg (by decide),QjJ hp _ hk,Obn]
  dsimp only;have hle:=QkH hp at_ kind;have hcn:=Qds kind;generalize Qaf s at_ kind=g at*;by_cases hg:g< 0
  ·rw [if_pos hg]; dsimp only; rw [if_pos (by simpa using hcn),if_pos hg]
  ·rw [if_neg hg]; dsimp only;rw [if_neg (by decide),if_neg hg,Int.tdiv_eq_ediv_of_nonneg (by omega),Int.tmod_eq_emod_of_nonneg (by omega),Qy (n:=g / 8) (by omega) (by omega)]
   by_cases h7:g / 8=7
   ·rw [if_neg (by simpa using h7),if_pos h7]
    by_cases h4:kind=4
    ·rw [if_pos (by simpa using h4),if_pos h4]
    ·rw [if_neg (by simpa using h4),if_neg h4,Qy (by omega) (by omega)]
   ·rw [if_pos (by simpa using h7),if_neg h7,QjJ h.p _ hk,Obn]
    by_cases hf:Qaf l g kind< 0
    ·rw [if_pos hf,if_pos hf]
    ·rw [if_neg hf,if_neg hf]
theorem Qdc {q:List Int} (h:q.length≤1048576):F_dh (q,())=some ((q,()),()):=by
 unfold F_dh;dsimp only;rw [if_pos (by simp; omega)]
 rfl
def QfL (cs:List Int) (ru:Bool) (dn:Int) (iq:List Int) (k:Int):Int×List Int:=
 if k=1 then (iq.getD 0 0,iq.drop 1) else if k=2 then (dn,iq) else if k=3 then (cs.getD 9 0,iq) else if k=4 then (QdE cs ru dn iq,iq) else if k=6 then ((iq.length:Int),iq) else (0,iq)
theorem Qqo (hc:OkC cs) (hq:OkQ iq) (k:Int):F_bb ((r,pc,cs,ha,wa,ru,dn,iq,oq,()),k,())=
  some (((QfL cs ru dn iq k).1,()),((r,pc,cs,ha,wa,ru,dn,(QfL cs ru dn iq k).2,oq,()),())):=by
 unfold F_bb QfL;dsimp only;rw [QeV hc,Obn];by_cases h1:k=1
 ·subst h1;rw [if_pos (by decide),if_pos rfl]
  cases iq with
  | nil=>rfl
  | cons w t=>
   rw [if_neg (by simp; omega)]
   simp only [show ((0:Int)).toNat=0 from rfl,show ((1:Int)).toNat=1 from rfl,List.getElem?_cons_zero,Obn]
   rw [if_pos (by simp; omega)]
   simp
 rw [if_neg (by simpa using h1),if_neg h1]
 by_cases h2:k=2
 ·subst h2; rfl
 rw [if_neg (by simpa using h2),if_neg h2]
 by_cases h3:k=3
 ·subst h3;rw [if_pos (by decide),if_pos rfl,if_pos (by rw [hc.len]; decide),Qs 0 (by rw [hc.len]; decide)]; rfl
 rw [if_neg (by simpa using h3),if_neg h3]
 by_cases h4:k=4
 ·subst h4; rfl
 rw [if_neg (by simpa using h4),if_neg h4]
 by_cases h6:k=6
 ·subst h6; rfl
 rw [if_neg (by simpa using h6),if_neg h6]
theorem QpC (hc:OkC cs) (hq:OkQ iq) (k:Int):F_fj ((r,pc,cs,ha,wa,ru,dn,iq,oq,()),k,())=
  some (((QfL cs ru dn iq k).1,()),((r,pc,cs,ha,wa,ru,dn,(QfL cs ru dn iq k).2,oq,()),())):=by
 unfold F_fj QfL;dsimp only;rw [QeK hc,Obn];have hl:=hq.len;by_cases h1:k=1
 ·subst h1;rw [if_pos (by decide),if_pos rfl]
  cases iq with
  | nil=>rfl
  | cons w t=>
   have hlt:ltI 0 (((w::t).length:Nat):Int)=true:=QB.2 (by simp only [List.length_cons]; omega)
   rw [if_pos hlt,if_pos (by simp only [List.length_cons]; omega)]
   simp only [show ((0:Int)).toNat=0 from rfl,show ((1:Int)).toNat=1 from rfl,List.getElem?_cons_zero,Obn]
   rw [if_pos (by simp only [List.length_cons]; omega)]
   have e:((w::t).drop 1).take ((((w::t).length:Nat):Int).toNat-1)=t:=by simp
   rw [e,Qdc (by simp at hl; omega),Obn]
   rfl
 rw [if_neg (by simpa using h1),if_neg h1]
 by_cases h2:k=2
 ·subst h2; rfl
 rw [if_neg (by simpa using h2),if_neg h2]
 by_cases h3:k=3
 ·subst h3;rw [if_pos (by decide),if_pos rfl,if_pos (by rw [hc.len]; decide),Qs 0 (by rw [hc.len]; decide)]; rfl
 rw [if_neg (by simpa using h3),if_neg h3]
 by_cases h4:k=4
 ·subst h4; rfl
 rw [if_neg (by simpa using h4),if_neg h4]
 by_cases h6:k=6
 ·subst h6; rfl
 rw [if_neg (by simpa using h6),if_neg h6]
theorem QuG (hc:OkC cs) (hq:OkQ iq) (hd:0≤dn∧dn≤1000000000) (k:Int):WW (QfL cs ru dn iq k).1∧OkQ (QfL cs ru dn iq k).2:=by
 have hp:=QhA cs ru dn iq;have hl:=hq.len;have h9:=hc.w (k:=9) (by decide)
 unfold QfL
 repeat' split
 ·refine ⟨?_,⟨by simp only [List.length_drop]; omega,fun w hw=>hq.words w (List.mem_of_mem_drop hw)⟩⟩
  cases iq with
  | nil=>unfold WW; simp
  | cons w t=>exact hq.words w (by simp)
 all_goals refine ⟨?_,hq⟩
 ·unfold WW; simp only; omega
 ·exact h9
 ·unfold WW; simp only; omega
 ·unfold WW; simp only; omega
 ·unfold WW; simp
def QiM (k w:Int):Int:=if k=5 then wd w else -1
def wrC (cs:List Int) (k w:Int):List Int:=if k=3 then cs.set 9 (wd w) else cs
def wrR (ru:Bool) (k w:Int):Bool:=if k=4 then setR ru 6 (wd w) else ru
def wrO (oq:List Int) (k w:Int):List Int:=if k=0∧oq.length< 40 then oq++[wd w] else oq
theorem Qwl (w:Int):setC cs 6 w=cs:=by unfold setC; simp
theorem Qxk (w:Int):setC cs 9 w=cs.set 9 (wd w):=by unfold setC; simp
theorem Qxl (w:Int):setR ru 9 w=ru:=by unfold setR; simp
theorem QoT (hc:OkC cs) (hq:OkQ oq) (k w:Int):F_bd ((r,pc,cs,ha,wa,ru,dn,iq,oq,()),k,w,())=
  some ((QiM k w,()),((r,pc,wrC cs k w,ha,wa,wrR ru k w,dn,iq,wrO oq k w,()),())):=by
 unfold F_bd QiM wrC wrR wrO;dsimp only;rw [QdI,Obn,Qmg hc (by omega),Obn,Qwl]
 dsimp only;have hl:=hq.len;by_cases h0:k=0
 ·subst h0;by_cases h40:oq.length< 40
  ·have:ltI ((oq.length:Nat):Int) 40=true:=QB.2 (by omega)
   rw [if_pos (by decide),if_pos this,if_pos (by simp; omega),if_neg (by decide),if_neg (by decide),if_neg (by decide),if_pos ⟨rfl,h40⟩]
  ·have: ¬ltI ((oq.length:Nat):Int) 40=true:=by rw [QB]; omega
   rw [if_pos (by decide),if_neg this,if_neg (by decide),if_neg (by decide),if_neg (by decide),if_neg (by omega)]
 rw [if_neg (by simpa using h0),if_neg (c:=k=0∧oq.length< 40) (by omega)]
 by_cases h3:k=3
 ·subst h3;rw [if_pos (by decide),if_pos (by rw [hc.len]; decide),Qs 0 (by rw [hc.len]; decide)]; rfl
 rw [if_neg (by simpa using h3),if_neg h3]
 by_cases h4:k=4
 ·subst h4; rfl
 rw [if_neg (by simpa using h4),if_neg h4]
 by_cases h5:k=5
 ·subst h5; rfl
 rw [if_neg (by simpa using h5),if_neg h5]
theorem Qog (hc:OkC cs) (hq:OkQ oq) (k w:Int):F_fm ((r,pc,cs,ha,wa,ru,dn,iq,oq,()),k,w,())=
  some ((QiM k w,()),((r,pc,wrC cs k w,ha,wa,wrR ru k w,dn,iq,wrO oq k w,()),())):=by
 have hl:=hq.len;unfold F_fm QiM wrC wrR wrO;dsimp only;rw [QgR,Obn,Qdc (by omega),Obn]
 dsimp only;rw [Qib hc (by omega),Obn,Qib hc (by omega),Obn,Qwl,Qxk,Qxl,Qxn]
 by_cases h0:k=0
 ·subst h0;by_cases h40:oq.length< 40
  ·have:ltI ((oq.length:Nat):Int) 40=true:=QB.2 (by omega)
   rw [if_pos (by decide),if_pos this,if_pos (by simp; omega),if_neg (by decide),if_neg (by decide),if_neg (by decide),if_pos ⟨rfl,h40⟩]
  ·have: ¬ltI ((oq.length:Nat):Int) 40=true:=by rw [QB]; omega
   rw [if_pos (by decide),if_neg this,if_neg (by decide),if_neg (by decide),if_neg (by decide),if_neg (by omega)]
 rw [if_neg (by simpa using h0),if_neg (c:=k=0∧oq.length< 40) (by omega)]
 by_cases h3:k=3
 ·subst h3; rfl
 rw [if_neg (by simpa using h3),if_neg h3]
 by_cases h4:k=4
 ·subst h4; rfl
 rw [if_neg (by simpa using h4),if_neg h4]
 by_cases h5:k=5
 ·subst h5; rfl
 rw [if_neg (by simpa using h5),if_neg h5]
theorem QwY (hc:OkC cs) (k w:Int):OkC (wrC cs k w):=by
 unfold wrC; split
 ·exact hc.set (Qag w) (by decide) (fun e=>absurd e (by decide)) (fun e=>absurd e (by decide)) (fun e=>absurd e (by decide))
 ·exact hc
theorem QwZ (hq:OkQ oq) (k w:Int):OkQ (wrO oq k w):=by
 unfold wrO; split
 ·rename_i h;refine ⟨by simp; omega,fun z hz=>?_⟩
  rcases List.mem_append.1 hz with hz | hz
  ·exact hq.words z hz
  ·rw [List.mem_singleton.1 hz]; exact Qag w
 ·exact hq
def badI (op d a i:Int):Bool:=
 if op≤11 then decide (15< i) else if op=13∨op=19 then decide (a≠0) else if op=21 then decide (10< i∨a≠0) else if op=22 then decide (10< i∨d≠0)
 else if 23≤op then decide (d≠0∨a≠0∨i≠0) else false
def insM (op d a i:Int):Int:=
 if (1≤op∧op≤26)∧(0≤d∧d≤15)∧(0≤a∧a≤15)∧(0≤i∧i≤65535) then (if badI op d a i=true then 1 else 0) else 3
theorem Qsi (op d a i:Int):F_fe ((op,d,a,i,()),())=some ((insM op d a i,()),()):=by
 unfold F_fe insM;dsimp only;rw [Qbq,Obn,Qbq,Obn,Qbq,Obn,Qbq,Obn];dsimp only;by_cases h1:1≤op∧op≤26
 ·by_cases h2:0≤d∧d≤15
  ·by_cases h3:0≤a∧a≤15
   ·by_cases h4:0≤i∧i≤65535
    ·rw [if_pos (c:=(1≤op∧op≤26)∧(0≤d∧d≤15)∧(0≤a∧a≤15)∧(0≤i∧i≤65535)) ⟨h1,h2,h3,h4⟩,if_pos (by simp [h1]),if_pos (by simp [h2]),if_pos (by simp [h3]),if_neg (by simp [h4])]
     unfold badI;simp only [Qal,Qax,beq_iff_eq,bne_iff_ne,decide_eq_true_eq,decide_eq_false_iff_not,Bool.not_eq_true,bne_eq_false_iff_eq,ne_eq]
     repeat' split
     all_goals first | rfl | (exfalso; simp_all; done) | (exfalso; simp_all; omega) | (exfalso; omega)
    ·rw [if_neg (c:=(1≤op∧op≤26)∧(0≤d∧d≤15)∧(0≤a∧a≤15)∧(0≤i∧i≤65535)) (by omega),if_pos (by simp [h1]),if_pos (by simp [h2]),if_pos (by simp [h3]),if_pos (by simp; omega)]
   ·rw [if_neg (c:=(1≤op∧op≤26)∧(0≤d∧d≤15)∧(0≤a∧a≤15)∧(0≤i∧i≤65535)) (by omega),if_pos (by simp [h1]),if_pos (by simp [h2]),if_neg (by simp; omega)]
  ·rw [if_neg (c:=(1≤op∧op≤26)∧(0≤d∧d≤15)∧(0≤a∧a≤15)∧(0≤i∧i≤65535)) (by omega),if_pos (by simp [h1]),if_neg (by simp; omega)]
 ·rw [if_neg (c:=(1≤op∧op≤26)∧(0≤d∧d≤15)∧(0≤a∧a≤15)∧(0≤i∧i≤65535)) (by omega),if_neg (by simp; omega)]
def QnD (op:Int):Bool:=decide (op=22∨23≤op)
def QnC (op:Int):Bool:=decide (op=13∨op=19∨op=21∨23≤op)
def QnE (op:Int):Bool:=decide (23≤op)
theorem Qqg {op:Int} (h:op≤26):F_n (op,())=some ((QnD op,QnC op,QnE op,()),()):=by
 have hc:op=13∨op=19∨op=21∨op=22∨op=23∨op=24∨op=25∨op=26∨(¬op=13∧ ¬op=19∧ ¬op=21∧ ¬op=22∧ ¬op=23∧ ¬op=24∧ ¬op=25∧ ¬op=26):=by omega
 rcases hc with rfl | rfl | rfl | rfl | rfl | rfl | rfl | rfl | ⟨n1,n2,n3,n4,n5,n6,n7,n8⟩
 iterate 8 rfl
 have e3: ¬23≤op:=by omega
 unfold F_n QnD QnC QnE;simp [n1,n2,n3,n4,n5,n6,n7,n8,e3]
theorem QsW (op d a i:Int):F_q ((op,d,a,i,()),())=some ((insM op d a i,()),()):=by
 unfold F_q insM;dsimp only;rw [Qcm,Obn,Qcm,Obn,Qcm,Obn,Qcm,Obn];dsimp only;by_cases h1:1≤op∧op≤26
 ·by_cases h2:0≤d∧d≤15
  ·by_cases h3:0≤a∧a≤15
   ·by_cases h4:0≤i∧i≤65535
    ·rw [if_pos (c:=(1≤op∧op≤26)∧(0≤d∧d≤15)∧(0≤a∧a≤15)∧(0≤i∧i≤65535)) ⟨h1,h2,h3,h4⟩,if_pos (by simp [h1]),if_pos (by simp [h2]),if_pos (by simp [h3]),if_neg (by simp [h4]),Qqg h1.2,Obn]
     unfold badI;dsimp only
     have hb:(QnD op=true↔(op=22∨23≤op))∧(QnC op=true↔(op=13∨op=19∨op=21∨23≤op))∧(QnE op=true↔23≤op):=by
      unfold QnD QnC QnE; simp
     generalize QnD op=bd at*;generalize QnC op=ba at*;generalize QnE op=bi at*;by_cases c1:op≤11
     ·have q1:bd=false:=by rw [Bool.eq_false_iff]; intro e; have:=hb.1.1 e; omega
      have q2:ba=false:=by rw [Bool.eq_false_iff]; intro e; have:=hb.2.1.1 e; omega
      have q3:bi=false:=by rw [Bool.eq_false_iff]; intro e; have:=hb.2.2.1 e; omega
      have n1: ¬op=21:=by omega
      have n2: ¬op=22:=by omega
      by_cases hi:15< i <;> simp [q1,q2,q3,c1,hi,Qal,Qax,n1,n2]
     ·by_cases c2:23≤op
      ·have q1:bd=true:=hb.1.2 (.inr c2);have q2:ba=true:=hb.2.1.2 (.inr (.inr (.inr c2)));have q3:bi=true:=hb.2.2.2 c2;have n1: ¬op=21:=by omega
       have n2: ¬op=22:=by omega
       have n3: ¬op=13:=by omega
       have n4: ¬op=19:=by omega
       by_cases hd:d=0 <;> by_cases ha':a=0 <;> by_cases hi:i=0 <;> simp [q1,q2,q3,c1,c2,hd,ha',hi,Qal,Qax,n1,n2,n3,n4]
      ·have q3:bi=false:=by rw [Bool.eq_false_iff]; intro e; have:=hb.2.2.1 e; omega
       by_cases c3:op=22
       ·have q1:bd=true:=hb.1.2 (.inl c3);have q2:ba=false:=by rw [Bool.eq_false_iff]; intro e; have:=hb.2.1.1 e; omega
        subst c3;by_cases hd:d=0 <;> by_cases hi:10< i <;> simp [q1,q2,q3,hd,hi,Qal,Qax]
       ·have q1:bd=false:=by rw [Bool.eq_false_iff]; intro e; have:=hb.1.1 e; omega
        by_cases c4:op=21
        ·have q2:ba=true:=hb.2.1.2 (by omega)
         subst c4;by_cases ha':a=0 <;> by_cases hi:10< i <;> simp [q1,q2,q3,ha',hi,Qal,Qax]
        ·by_cases c5:op=13∨op=19
         ·have q2:ba=true:=hb.2.1.2 (by omega)
          by_cases ha':a=0 <;> simp [q1,q2,q3,ha',c1,c3,c4,c5,Qal,Qax]
         ·have q2:ba=false:=by rw [Bool.eq_false_iff]; intro e; have:=hb.2.1.1 e; omega
          simp [q1,q2,q3,c1,c2,c3,c4,c5,Qal,Qax]
    ·rw [if_neg (c:=(1≤op∧op≤26)∧(0≤d∧d≤15)∧(0≤a∧a≤15)∧(0≤i∧i≤65535)) (by omega),if_pos (by simp [h1]),if_pos (by simp [h2]),if_pos (by simp [h3]),if_pos (by simp; omega)]
   ·rw [if_neg (c:=(1≤op∧op≤26)∧(0≤d∧d≤15)∧(0≤a∧a≤15)∧(0≤i∧i≤65535)) (by omega),if_pos (by simp [h1]),if_pos (by simp [h2]),if_neg (by simp; omega)]
  ·rw [if_neg (c:=(1≤op∧op≤26)∧(0≤d∧d≤15)∧(0≤a∧a≤15)∧(0≤i∧i≤65535)) (by omega),if_pos (by simp [h1]),if_neg (by simp; omega)]
 ·rw [if_neg (c:=(1≤op∧op≤26)∧(0≤d∧d≤15)∧(0≤a∧a≤15)∧(0≤i∧i≤65535)) (by omega),if_neg (by simp; omega)]
abbrev InsW:=Int×Int×Int×Int×Unit
def decM (w:Int):InsW:=(w / 16777216,w / 1048576 % 16,w / 65536 % 16,w % 65536,())
def decF (w:Int):Int:=insM (decM w).1 (decM w).2.1 (decM w).2.2.1 (decM w).2.2.2.1
theorem QsR {w:Int} (h:WW w):F_ax (w,())=some ((decM w,decide (decF w=0),()),()):=by
 unfold F_ax;dsimp only;rw [Qcm,Obn];dsimp only;have hok:(decide (w≥0) && decide (w≤4294967295))=true:=Qgg.2 h;rw [if_neg (by rw [hok]; decide),QqY,QqY,QpL,QcM h.1,QcM h.1,QcM h.1,QsW,Obn]
 rfl
theorem Qsd {w:Int} (h:WW w):F_ff (w,())=some ((if decF w=0 then (0,decM w,()) else (5,(0,0,0,0,()),()),()),()):=by
 unfold F_ff;dsimp only;rw [QqY,QqY,QpL,QcM h.1,QcM h.1,QcM h.1,Qsi,Obn];dsimp only;have e:insM (w / 2 ^ 24) (w / 2 ^ 20 % 16) (w / 2 ^ 16 % 16) (w % 65536)=decF w:=rfl;rw [e];by_cases h0:decF w=0
 ·rw [if_neg (by simpa using h0),if_pos h0]; rfl
 ·rw [if_pos (by simpa using h0),if_neg h0]
theorem Qvj {w:Int} (h:decF w=0):(1≤(decM w).1∧(decM w).1≤26)∧(0≤(decM w).2.1∧(decM w).2.1≤15)∧(0≤(decM w).2.2.1∧(decM w).2.2.1≤15)∧(0≤(decM w).2.2.2.1∧(decM w).2.2.2.1≤65535)∧
  ((decM w).1≤11→(decM w).2.2.2.1≤15)∧((decM w).1=21∨(decM w).1=22→(decM w).2.2.2.1≤10):=by
 unfold decF insM at h;generalize decM w=x at*;obtain ⟨op,d,a,i,_⟩:=x;simp only at*;split at h
 ·rename_i hin;split at h
  ·omega
  ·rename_i hb;refine ⟨hin.1,hin.2.1,hin.2.2.1,hin.2.2.2,fun h11=>?_,fun h2=>?_⟩
   ·unfold badI at hb;rw [if_pos h11] at hb;simpa using hb
   ·unfold badI at hb;rw [if_neg (by omega),if_neg (by omega)] at hb
    rcases h2 with h2 | h2
    ·rw [if_pos h2] at hb; simp at hb; omega
    ·rw [if_neg (by omega),if_pos h2] at hb; simp at hb; omega
 ·omega
end
structure Mc where
 r:List Int
 pc:Int
 cs:List Int
 ha:Bool
 wa:Bool
 ru:Bool
 dn:Int
 iq:List Int
 oq:List Int
 m:List Int
 ring:Int
 fall:Int
abbrev BusD:=List TwoD×List Int×Int×List Int×Int×List Int×Bool×Bool×Bool×Int×List Int×List Int×Int×Unit
abbrev Qwa:=List Int×Int×List Int×Bool×Bool×Bool×Int×List Int×List Int×List TwoD×List Int×Int×Int×Unit
def Mc.bus (s:Mc) (l:List TwoD):BusD:=(l,s.m,s.ring,s.r,s.pc,s.cs,s.ha,s.wa,s.ru,s.dn,s.iq,s.oq,s.fall,())
def Mc.core (s:Mc) (l:List TwoD):Qwa:=(s.r,s.pc,s.cs,s.ha,s.wa,s.ru,s.dn,s.iq,s.oq,l,s.m,s.fall,s.ring,())
def Mc.trap (s:Mc) (cause tval:Int):Mc:={ s with pc:=s.cs.getD 1 0,cs:=QgE s.cs s.pc cause tval,wa:=false,fall:=cause }
structure OkS (s:Mc) (l:List TwoD):Prop where
 r:OkR s.r
 pc:WW s.pc
 c:OkC s.cs
 i:OkQ s.iq
 o:OkQ s.oq
 d:0≤s.dn∧s.dn≤1000000000
 l:OkL l s.m
section
variable {r cs iq oq m:List Int} {pc dn ring fall:Int} {ha wa ru:Bool} {l:List TwoD} {s:Mc}
theorem Qgp (h:OkS s l) {cause tval:Int} (h1:WW cause) (h2:WW tval):OkS (s.trap cause tval) l:=
 ⟨h.r,h.c.w (by decide),QuQ h.c h.pc h1 h2,h.i,h.o,h.d,h.l⟩
theorem QcD (hc:OkC cs) (cause tval:Int):F_aq ((l,m,ring,r,pc,cs,ha,wa,ru,dn,iq,oq,fall,()),cause,tval,())=
  some ((),((l,m,ring,r,cs.getD 1 0,QgE cs pc cause tval,ha,false,ru,dn,iq,oq,cause,()),())):=by
 unfold F_aq;dsimp only;rw [Qkp hc,Obn]
theorem Qcy (hc:OkC cs) (cause tval:Int):F_ew ((r,pc,cs,ha,wa,ru,dn,iq,oq,l,m,fall,ring,()),cause,tval,())=
  some ((),((r,cs.getD 1 0,QgE cs pc cause tval,ha,false,ru,dn,iq,oq,l,m,cause,ring,()),())):=by
 unfold F_ew;dsimp only;rw [QpF hc,Obn]
def QdK (op d a:Int):Bool:=if op=16 then decide (d=a) else if op=17 then decide (d≠a) else decide (sg d< sg a)
def exM (s:Mc) (l:List TwoD) (op d a i:Int):Bool×Int×Int×Mc:=
 let next:=addW s.pc 1
 let far:=addW s.pc (off i)
 let rd:=s.r.getD d.toNat 0
 let ra:=s.r.getD a.toNat 0
 let p:=addW ra (off i)
 if op=12 then (true,next,p,s)
 else if op=13 then (true,next,i*65536,s)
 else if op=14 then
  (if (Qx s.cs l s.m p 1).2≠0 then (false,0,0,s.trap 3 p)
   else if 1000≤(Qx s.cs l s.m p 1).1 then (true,next,(QfL s.cs s.ru s.dn s.iq ((Qx s.cs l s.m p 1).1-1000)).1,{ s with iq:=(QfL s.cs s.ru s.dn s.iq ((Qx s.cs l s.m p 1).1-1000)).2 })
   else (true,next,s.m.getD (Qx s.cs l s.m p 1).1.toNat 0,s))
 else if op=15 then
  (if (Qx s.cs l s.m p 2).2≠0 then (false,0,0,s.trap 4 p)
   else if 1000≤(Qx s.cs l s.m p 2).1 then (true,next,0,{ s with ring:=QiM ((Qx s.cs l s.m p 2).1-1000) rd,cs:=wrC s.cs ((Qx s.cs l s.m p 2).1-1000) rd,ru:=wrR s.ru ((Qx s.cs l s.m p 2).1-1000) rd,oq:=wrO s.oq ((Qx s.cs l s.m p 2).1-1000) rd })
   else (true,next,0,{ s with m:=s.m.set (Qx s.cs l s.m p 2).1.toNat rd }))
 else if op=16∨op=17∨op=18 then (true,if QdK op rd ra=true then far else next,0,s)
 else if op=19 then (true,far,next,s)
 else if op=20 then (true,p,next,s)
 else if op=21 then (true,next,getM s.cs s.ru s.dn s.iq i,s)
 else if op=22 then (true,next,0,{ s with cs:=setC s.cs i ra,ru:=setR s.ru i ra })
 else if op=23 then (false,0,0,s.trap 5 0)
 else if op=24 then (true,s.cs.getD 2 0,0,{ s with pc:=s.cs.getD 2 0,cs:=Qjj s.cs })
 else if op=25 then (true,next,0,{ s with wa:=true })
 else if op=26 then (true,s.pc,0,{ s with ha:=true })
 else (true,next,aluW op ra (s.r.getD i.toNat 0),s)
def wrD (op:Int):Bool:=decide ((1≤op∧op≤14)∨(19≤op∧op≤21))
def doM (s:Mc) (l:List TwoD) (op d a i:Int):Bool×Mc:=
 let e:=exM s l op d a i
 if e.1=true then (true,{ e.2.2.2 with pc:=e.2.1,r:=if wrD op=true∧0< d then e.2.2.2.r.set d.toNat e.2.2.1 else e.2.2.2.r }) else (false,e.2.2.2)
structure OkI (op d a i:Int):Prop where
 hop:1≤op∧op≤26
 hd:0≤d∧d≤15
 ha:0≤a∧a≤15
 hi:0≤i∧i≤65535
 i11:op≤11→i≤15
 i21:op=21∨op=22→i≤10
theorem Qew (hr:OkR r) {d:Int} (hd:0≤d∧d≤15) (w:Int):F_ba ((l,m,ring,r,pc,cs,ha,wa,ru,dn,iq,oq,fall,()),d,w,())=
  some ((),((l,m,ring,if 0< d then r.set d.toNat w else r,pc,cs,ha,wa,ru,dn,iq,oq,fall,()),())):=by
 unfold F_ba;dsimp only;by_cases h0:d=0
 ·subst h0; rfl
 ·have hin:0≤d∧d< ((r.length:Nat):Int):=by rw [hr.len]; omega
  rw [if_pos (by simpa using h0),if_pos hin,Qs 0 (by rw [hr.len]; omega),if_pos (c:=0< d) (by omega)]
theorem QoR (hr:OkR r) {op d a i:Int} (hd:0≤d∧d≤15) (hA:0≤a∧a≤15):F_bg ((r,pc,cs,ha,wa,ru,dn,iq,oq,()),(op,d,a,i,()),())=
  some ((QdK op (r.getD d.toNat 0) (r.getD a.toNat 0),()),()):=by
 unfold F_bg QdK;dsimp only;rw [if_pos hd.1,Qs 0 (by rw [hr.len]; omega),if_pos hA.1,Qs 0 (by rw [hr.len]; omega),QeW,Obn,QeW,Obn]
 by_cases h16:op=16
 ·subst h16; rfl
 rw [if_neg (by simpa using h16),if_neg h16]
 by_cases h17:op=17
 ·subst h17;rw [if_pos (by decide),if_pos rfl]
  generalize r.getD d.toNat 0=x;generalize r.getD a.toNat 0=y;by_cases e:x=y <;> simp [e]
 rw [if_neg (by simpa using h17),if_neg h17,Qax]
theorem QtR {i:Int} (h:0≤i∧i≤65535):IntKind.i64.wrap (i*65536)=i*65536:=Qy (by omega) (by omega)
theorem QsX (h:OkS s l) {op d a i:Int} (hi:OkI op d a i) (hop:op=14∨op=15) {e:Bool×Int×Int×Mc} (he:exM s l op d a i=e):F_be (s.bus l,(op,d,a,i,()),())=
  some ((e.1,()),(({ e.2.2.2 with r:=if e.1=true∧op=14∧0< d then e.2.2.2.r.set d.toNat e.2.2.1 else e.2.2.2.r }).bus l,())):=by
 obtain ⟨r,pc,cs,ha,wa,ru,dn,iq,oq,m,ring,fall⟩:=s;obtain ⟨hr,hpc,hc,hiq,hoq,hdn,hl⟩:=h;have hd:=hi.hd;have ha':=hi.ha;unfold F_be Mc.bus;unfold exM Mc.trap at he;dsimp only at*;have hda:a.toNat< r.length:=by rw [hr.len]; omega
 have hdd:d.toNat< r.length:=by rw [hr.len]; omega
 have hia:0≤a∧a< ((r.length:Nat):Int):=by rw [hr.len]; omega
 have hid:0≤d∧d< ((r.length:Nat):Int):=by rw [hr.len]; omega
 rw [if_pos hia,Qs 0 hda,Qme,Obn];dsimp only;rw [Qdn,Obn];dsimp only;rcases hop with rfl | rfl
 ·rw [if_neg (by decide),if_neg (by decide),if_pos rfl] at he
  rw [if_neg (by decide),QfS hc hl,Obn]
  dsimp only;have hin:=QbZ hc hl (addW (r.getD a.toNat 0) (off i)) 1;generalize Qx cs l m (addW (r.getD a.toNat 0) (off i)) 1=q at*;by_cases h0:q.2=0
  ·rw [if_neg (by simpa using h0)] at he
   rw [if_neg (by simpa using h0),if_pos (by decide)]
   by_cases hq:1000≤q.1
   ·have hle:q.1≤1007:=by have:=hl.mlen; rcases hin h0 with h | h <;> omega
    rw [if_pos hq] at he;subst he;rw [if_pos (QaW.2 hq),Qy (by omega) (by omega),Qqo hc hiq,Obn]
    dsimp only;rw [Qew hr hd,Obn];simp
   ·have hlt:0≤q.1∧q.1< ((m.length:Nat):Int):=by rcases hin h0 with h | h; omega; exact h
    rw [if_neg hq] at he;subst he;rw [if_neg (by rw [QaW]; exact hq),if_pos (by decide),if_pos hlt,Qs 0 (by omega),Qew hr hd,Obn]
    simp
  ·rw [if_pos h0] at he;subst he;rw [if_pos (by simpa using h0),QcD hc,Obn]
   simp
 ·rw [if_neg (by decide),if_neg (by decide),if_neg (by decide),if_pos rfl] at he
  rw [if_pos (by decide),QfS hc hl,Obn]
  dsimp only;have hin:=QbZ hc hl (addW (r.getD a.toNat 0) (off i)) 2;generalize Qx cs l m (addW (r.getD a.toNat 0) (off i)) 2=q at*;by_cases h0:q.2=0
  ·rw [if_neg (by simpa using h0)] at he
   rw [if_neg (by simpa using h0),if_neg (by decide),if_neg (by decide)]
   by_cases hq:1000≤q.1
   ·have hle:q.1≤1007:=by have:=hl.mlen; rcases hin h0 with h | h <;> omega
    rw [if_pos hq] at he;subst he;rw [if_pos (QaW.2 hq),Qy (by omega) (by omega),if_pos hid,Qs 0 hdd,QoT hc hoq,Obn]
    simp
   ·have hlt:0≤q.1∧q.1< ((m.length:Nat):Int):=by rcases hin h0 with h | h; omega; exact h
    rw [if_neg hq] at he;subst he;rw [if_neg (by rw [QaW]; exact hq),if_pos hid,Qs 0 hdd,if_pos hlt,Qs 0 (by omega)]
    simp
  ·rw [if_pos h0] at he;subst he;rw [if_pos (by simpa using h0),QcD hc,Obn]
   simp
end
section
variable {l:List TwoD} {s:Mc}
theorem QuM (h:OkS s l) {op d a i:Int} (hi:OkI op d a i) {e:Bool×Mc} (he:doM s l op d a i=e):F_bp (s.bus l,(op,d,a,i,()),())=some ((e.1,()),(e.2.bus l,())):=by
 have hmem:=QsX h hi;obtain ⟨r,pc,cs,ha,wa,ru,dn,iq,oq,m,ring,fall⟩:=s;obtain ⟨hr,hpc,hc,hiq,hoq,hdn,hl⟩:=h;have hd:=hi.hd;have ha':=hi.ha;unfold doM at he;unfold F_bp;unfold Mc.bus at hmem⊢;dsimp only at*;have hda:a.toNat< r.length:=by rw [hr.len]; omega
 have hia:0≤a∧a< ((r.length:Nat):Int):=by rw [hr.len]; omega
 rw [Qdn,Obn];dsimp only;rw [Qme,Obn];dsimp only;rw [Qdn,Obn];dsimp only;by_cases h12:op=12
 ·subst h12;rw [show exM ⟨r,pc,cs,ha,wa,ru,dn,iq,oq,m,ring,fall⟩ l 12 d a i=(true,addW pc 1,addW (r.getD a.toNat 0) (off i),⟨r,pc,cs,ha,wa,ru,dn,iq,oq,m,ring,fall⟩) from rfl] at he
  subst he;rw [if_pos (by decide),if_pos hia,Qs 0 hda,Obn]
  dsimp only;rw [Qdn,Obn];dsimp only;rw [Qew hr hd,Obn];simp [wrD]
 rw [if_neg (by simpa using h12)]
 by_cases h13:op=13
 ·subst h13;rw [show exM ⟨r,pc,cs,ha,wa,ru,dn,iq,oq,m,ring,fall⟩ l 13 d a i=(true,addW pc 1,i*65536,⟨r,pc,cs,ha,wa,ru,dn,iq,oq,m,ring,fall⟩) from rfl] at he
  subst he;rw [if_pos (by decide),QtR hi.hi,Qew hr hd,Obn]
  simp [wrD]
 rw [if_neg (by simpa using h13)]
 by_cases h14:op=14
 ·subst h14;rw [if_pos (by decide),hmem (.inl rfl) rfl,Obn]
  generalize hx:exM ⟨r,pc,cs,ha,wa,ru,dn,iq,oq,m,ring,fall⟩ l 14 d a i=x at*
  have hn:x.1=true→x.2.1=addW pc 1:=by
   rw [←hx]; unfold exM; dsimp only;rw [if_neg (by decide),if_neg (by decide),if_pos rfl]
   repeat' split
   all_goals simp
  obtain ⟨b,nx,rs,s1⟩:=x;cases b
  ·subst he; simp
  ·subst he;simp only at hn;simp [wrD,hn]
 rw [if_neg (by simpa using h14)]
 by_cases h15:op=15
 ·subst h15;rw [if_pos (by decide),hmem (.inr rfl) rfl,Obn]
  generalize hx:exM ⟨r,pc,cs,ha,wa,ru,dn,iq,oq,m,ring,fall⟩ l 15 d a i=x at*
  have hn:x.1=true→x.2.1=addW pc 1:=by
   rw [←hx]; unfold exM; dsimp only;rw [if_neg (by decide),if_neg (by decide),if_neg (by decide),if_pos rfl]
   repeat' split
   all_goals simp
  obtain ⟨b,nx,rs,s1⟩:=x;cases b
  ·subst he; simp
  ·subst he;simp only at hn;simp [wrD,hn]
 rw [if_neg (by simpa using h15)]
 have hex:exM ⟨r,pc,cs,ha,wa,ru,dn,iq,oq,m,ring,fall⟩ l op d a i=
   (if op=16∨op=17∨op=18 then (true,if QdK op (r.getD d.toNat 0) (r.getD a.toNat 0)=true then addW pc (off i) else addW pc 1,0,⟨r,pc,cs,ha,wa,ru,dn,iq,oq,m,ring,fall⟩)
   else if op=19 then (true,addW pc (off i),addW pc 1,⟨r,pc,cs,ha,wa,ru,dn,iq,oq,m,ring,fall⟩)
   else if op=20 then (true,addW (r.getD a.toNat 0) (off i),addW pc 1,⟨r,pc,cs,ha,wa,ru,dn,iq,oq,m,ring,fall⟩)
   else if op=21 then (true,addW pc 1,getM cs ru dn iq i,⟨r,pc,cs,ha,wa,ru,dn,iq,oq,m,ring,fall⟩)
   else if op=22 then (true,addW pc 1,0,⟨r,pc,setC cs i (r.getD a.toNat 0),ha,wa,setR ru i (r.getD a.toNat 0),dn,iq,oq,m,ring,fall⟩)
   else if op=23 then (false,0,0,⟨r,cs.getD 1 0,QgE cs pc 5 0,ha,false,ru,dn,iq,oq,m,ring,5⟩)
   else if op=24 then (true,cs.getD 2 0,0,⟨r,cs.getD 2 0,Qjj cs,ha,wa,ru,dn,iq,oq,m,ring,fall⟩)
   else if op=25 then (true,addW pc 1,0,⟨r,pc,cs,ha,true,ru,dn,iq,oq,m,ring,fall⟩)
   else if op=26 then (true,pc,0,⟨r,pc,cs,true,wa,ru,dn,iq,oq,m,ring,fall⟩)
   else (true,addW pc 1,aluW op (r.getD a.toNat 0) (r.getD i.toNat 0),⟨r,pc,cs,ha,wa,ru,dn,iq,oq,m,ring,fall⟩)):=by
  unfold exM Mc.trap;dsimp only;rw [if_neg h12,if_neg h13,if_neg h14,if_neg h15]
 clear hmem;have htk:=fun o=>QoR (pc:=pc) (cs:=cs) (ha:=ha) (wa:=wa) (ru:=ru) (dn:=dn) (iq:=iq) (oq:=oq) hr (op:=o) (i:=i) hd ha'
 have hput:=fun pc cs ha wa ru w=>Qew (l:=l) (m:=m) (ring:=ring) (pc:=pc) (cs:=cs) (ha:=ha) (wa:=wa) (ru:=ru) (dn:=dn) (iq:=iq) (oq:=oq) (fall:=fall) hr hd w
 by_cases h16:op=16
 ·subst h16;rw [if_pos (.inl rfl)] at hex;rw [hex] at he;subst he;rw [if_pos (by decide),htk,Obn]
  cases QdK 16 (r.getD d.toNat 0) (r.getD a.toNat 0) <;> simp [wrD]
 rw [if_neg (by simpa using h16)]
 by_cases h17:op=17
 ·subst h17;rw [if_pos (.inr (.inl rfl))] at hex;rw [hex] at he;subst he;rw [if_pos (by decide),htk,Obn]
  cases QdK 17 (r.getD d.toNat 0) (r.getD a.toNat 0) <;> simp [wrD]
 rw [if_neg (by simpa using h17)]
 by_cases h18:op=18
 ·subst h18;rw [if_pos (.inr (.inr rfl))] at hex;rw [hex] at he;subst he;rw [if_pos (by decide),htk,Obn]
  cases QdK 18 (r.getD d.toNat 0) (r.getD a.toNat 0) <;> simp [wrD]
 rw [if_neg (by simpa using h18)]
 rw [if_neg (c:=op=16∨op=17∨op=18) (by omega)] at hex
 by_cases h19:op=19
 ·subst h19;rw [if_pos rfl] at hex;rw [hex] at he;subst he;rw [if_pos (by decide),hput,Obn]
  simp [wrD]
 rw [if_neg (by simpa using h19)]
 rw [if_neg h19] at hex;by_cases h20:op=20
 ·subst h20;rw [if_pos rfl] at hex;rw [hex] at he;subst he;rw [if_pos (by decide),if_pos hia,Qs 0 hda,Obn]
  dsimp only;rw [Qdn,Obn];dsimp only;rw [hput,Obn];simp [wrD]
 rw [if_neg (by simpa using h20)]
 rw [if_neg h20] at hex;by_cases h21:op=21
 ·subst h21;rw [if_pos rfl] at hex;rw [hex] at he;subst he;have hi10:=hi.i21 (.inl rfl);have hi0:=hi.hi;rw [if_pos (by decide),QsV hc ⟨hi0.1,hi10⟩,Obn]
  dsimp only;rw [hput,Obn];simp [wrD]
 rw [if_neg (by simpa using h21)]
 rw [if_neg h21] at hex;by_cases h22:op=22
 ·subst h22;rw [if_pos rfl] at hex;rw [hex] at he;subst he;have hi10:=hi.i21 (.inr rfl);have hi0:=hi.hi;rw [if_pos (by decide),if_pos hia,Qs 0 hda,Qmg hc ⟨hi0.1,hi10⟩,Obn]
  simp [wrD]
 rw [if_neg (by simpa using h22)]
 rw [if_neg h22] at hex;by_cases h23:op=23
 ·subst h23;rw [if_pos rfl] at hex;rw [hex] at he;subst he;rw [if_pos (by decide),QcD hc,Obn]
  simp
 rw [if_neg (by simpa using h23)]
 rw [if_neg h23] at hex;by_cases h24:op=24
 ·subst h24;rw [if_pos rfl] at hex;rw [hex] at he;subst he;rw [if_pos (by decide),Qkn hc,Obn]
  simp [wrD]
 rw [if_neg (by simpa using h24)]
 rw [if_neg h24] at hex;by_cases h25:op=25
 ·subst h25;rw [if_pos rfl] at hex;rw [hex] at he;subst he;rw [if_pos (by decide)]
  simp [wrD]
 rw [if_neg (by simpa using h25)]
 rw [if_neg h25] at hex;by_cases h26:op=26
 ·subst h26;rw [if_pos rfl] at hex;rw [hex] at he;subst he;rw [if_pos (by decide)]
  simp [wrD]
 rw [if_neg (by simpa using h26)]
 rw [if_neg h26] at hex;have h1:=hi.hop;have h11:op≤11:=by omega
 have hi15:=hi.i11 h11;have hi0:=hi.hi;have hii:0≤i∧i< ((r.length:Nat):Int):=by rw [hr.len]; omega
 have hiN:i.toNat< r.length:=by rw [hr.len]; omega
 rw [hex] at he;subst he;rw [if_pos hia,Qs 0 hda,if_pos hii,Qs 0 hiN,QsQ,Obn];dsimp only;rw [hput,Obn];have hw:wrD op=true:=by unfold wrD; rw [decide_eq_true_eq]; omega
 simp [hw]
theorem QpA (h:OkS s l) {op d a i:Int} (h14:op=14) {e:Bool×Int×Int×Mc} (he:exM s l op d a i=e):F_fk (s.core l,addW (s.r.getD a.toNat 0) (off i),())=
  some ((e.2.2.1,e.1,()),(e.2.2.2.core l,())):=by
 subst h14;obtain ⟨r,pc,cs,ha,wa,ru,dn,iq,oq,m,ring,fall⟩:=s;obtain ⟨hr,hpc,hc,hiq,hoq,hdn,hl⟩:=h;unfold F_fk Mc.core;unfold exM Mc.trap at he;dsimp only at*;rw [if_neg (by decide),if_neg (by decide),if_pos rfl] at he
 rw [QfA hc hl _ (.inl rfl),Obn];dsimp only;have hin:=QbZ hc hl (addW (r.getD a.toNat 0) (off i)) 1;generalize Qx cs l m (addW (r.getD a.toNat 0) (off i)) 1=q at*;by_cases h0:q.2=0
 ·rw [if_neg (by simpa using h0)] at he
  rw [if_neg (by simpa using h0)]
  by_cases hq:1000≤q.1
  ·have hle:q.1≤1007:=by have:=hl.mlen; rcases hin h0 with h | h <;> omega
   rw [if_pos hq] at he;subst he;rw [if_pos (QaW.2 hq),Qy (by omega) (by omega),QpC hc hiq,Obn]
  ·have hlt:0≤q.1∧q.1< ((m.length:Nat):Int):=by rcases hin h0 with h | h; omega; exact h
   rw [if_neg hq] at he;subst he;rw [if_neg (by rw [QaW]; exact hq),if_pos hlt,Qs 0 (by omega)]
 ·rw [if_pos h0] at he;subst he;rw [if_pos (by simpa using h0),Qcy hc,Obn]
theorem Qoc (h:OkS s l) {op d a i:Int} (h15:op=15) {e:Bool×Int×Int×Mc} (he:exM s l op d a i=e):F_fn (s.core l,addW (s.r.getD a.toNat 0) (off i),s.r.getD d.toNat 0,())=
  some ((e.1,()),(e.2.2.2.core l,())):=by
 subst h15;obtain ⟨r,pc,cs,ha,wa,ru,dn,iq,oq,m,ring,fall⟩:=s;obtain ⟨hr,hpc,hc,hiq,hoq,hdn,hl⟩:=h;unfold F_fn Mc.core;unfold exM Mc.trap at he;dsimp only at*;rw [if_neg (by decide),if_neg (by decide),if_neg (by decide),if_pos rfl] at he
 rw [QfA hc hl _ (.inr (.inl rfl)),Obn];dsimp only;have hin:=QbZ hc hl (addW (r.getD a.toNat 0) (off i)) 2;generalize Qx cs l m (addW (r.getD a.toNat 0) (off i)) 2=q at*;by_cases h0:q.2=0
 ·rw [if_neg (by simpa using h0)] at he
  rw [if_neg (by simpa using h0)]
  by_cases hq:1000≤q.1
  ·have hle:q.1≤1007:=by have:=hl.mlen; rcases hin h0 with h | h <;> omega
   rw [if_pos hq] at he;subst he;rw [if_pos (QaW.2 hq),Qy (by omega) (by omega),Qog hc hoq,Obn]
  ·have hlt:0≤q.1∧q.1< ((m.length:Nat):Int):=by rcases hin h0 with h | h; omega; exact h
   rw [if_neg hq] at he;subst he;rw [if_neg (by rw [QaW]; exact hq),if_pos hlt,Qs 0 (by omega)]
 ·rw [if_pos h0] at he;subst he;rw [if_pos (by simpa using h0),Qcy hc,Obn]
theorem QtU (h:OkS s l) {op d a i:Int} (hi:OkI op d a i) {e:Bool×Int×Int×Mc} (he:exM s l op d a i=e):
  ∃nx:Int,(e.1=true→nx=e.2.2.1∨wrD op=false)∧
  L_fy_100000 (((),((),(s.pc,(addW s.pc 1,(addW s.pc (off i),(s.r.getD d.toNat 0,(s.r.getD a.toNat 0,(addW (s.r.getD a.toNat 0) (off i),((0:Int),(op,(op,()))))))))))),(((op,(d,(a,(i,())))),(s.core l,())),()))=
  some (if e.1=true then .inl (((),((),(e.2.1,(nx,())))),(((op,(d,(a,(i,())))),(e.2.2.2.core l,())),())) else .inr (.inl ((false,()),((e.2.2.2.core l,()),())))):=by
 have hld:=fun h14=>QpA h (op:=op) (d:=d) (a:=a) (i:=i) h14 he
 have hst:=fun h15=>Qoc h (op:=op) (d:=d) (a:=a) (i:=i) h15 he
 have hd:=hi.hd;have ha':=hi.ha;unfold L_fy_100000;dsimp only at*;by_cases h12:op=12
 ·subst h12;rw [show exM s l 12 d a i=(true,addW s.pc 1,addW (s.r.getD a.toNat 0) (off i),s) from rfl] at he
  subst he;exact ⟨_,fun _=> .inl rfl,by rw [if_pos (by decide)]; rfl⟩
 rw [if_neg (by simpa using h12)]
 by_cases h13:op=13
 ·subst h13;rw [show exM s l 13 d a i=(true,addW s.pc 1,i*65536,s) from rfl] at he
  subst he;exact ⟨_,fun _=> .inl rfl,by rw [if_pos (by decide),QtR hi.hi]; rfl⟩
 rw [if_neg (by simpa using h13)]
 by_cases h14:op=14
 ·subst h14
  have hn:e.1=true→e.2.1=addW s.pc 1:=by
   rw [←he]; unfold exM; dsimp only;rw [if_neg (by decide),if_neg (by decide),if_pos rfl]
   repeat' split
   all_goals simp
  refine ⟨e.2.2.1,fun _=> .inl rfl,?_⟩
  rw [if_pos (by decide),hld rfl,Obn]
  obtain ⟨b,nx,rs,s1⟩:=e;cases b
  ·simp
  ·simp only at hn;simp [hn]
 rw [if_neg (by simpa using h14)]
 by_cases h15:op=15
 ·subst h15
  have hn:e.1=true→e.2.1=addW s.pc 1:=by
   rw [←he]; unfold exM; dsimp only;rw [if_neg (by decide),if_neg (by decide),if_neg (by decide),if_pos rfl]
   repeat' split
   all_goals simp
  refine ⟨0,fun _=> .inr rfl,?_⟩
  rw [if_pos (by decide),hst rfl,Obn]
  obtain ⟨b,nx,rs,s1⟩:=e;cases b
  ·simp
  ·simp only at hn;simp [hn]
 rw [if_neg (by simpa using h15)]
 clear hld hst;obtain ⟨r,pc,cs,ha,wa,ru,dn,iq,oq,m,ring,fall⟩:=s;obtain ⟨hr,hpc,hc,hiq,hoq,hdn,hl⟩:=h
 have hex:exM ⟨r,pc,cs,ha,wa,ru,dn,iq,oq,m,ring,fall⟩ l op d a i=
   (if op=16∨op=17∨op=18 then (true,if QdK op (r.getD d.toNat 0) (r.getD a.toNat 0)=true then addW pc (off i) else addW pc 1,0,⟨r,pc,cs,ha,wa,ru,dn,iq,oq,m,ring,fall⟩)
   else if op=19 then (true,addW pc (off i),addW pc 1,⟨r,pc,cs,ha,wa,ru,dn,iq,oq,m,ring,fall⟩)
   else if op=20 then (true,addW (r.getD a.toNat 0) (off i),addW pc 1,⟨r,pc,cs,ha,wa,ru,dn,iq,oq,m,ring,fall⟩)
   else if op=21 then (true,addW pc 1,getM cs ru dn iq i,⟨r,pc,cs,ha,wa,ru,dn,iq,oq,m,ring,fall⟩)
   else if op=22 then (true,addW pc 1,0,⟨r,pc,setC cs i (r.getD a.toNat 0),ha,wa,setR ru i (r.getD a.toNat 0),dn,iq,oq,m,ring,fall⟩)
   else if op=23 then (false,0,0,⟨r,cs.getD 1 0,QgE cs pc 5 0,ha,false,ru,dn,iq,oq,m,ring,5⟩)
   else if op=24 then (true,cs.getD 2 0,0,⟨r,cs.getD 2 0,Qjj cs,ha,wa,ru,dn,iq,oq,m,ring,fall⟩)
   else if op=25 then (true,addW pc 1,0,⟨r,pc,cs,ha,true,ru,dn,iq,oq,m,ring,fall⟩)
   else if op=26 then (true,pc,0,⟨r,pc,cs,true,wa,ru,dn,iq,oq,m,ring,fall⟩)
   else (true,addW pc 1,aluW op (r.getD a.toNat 0) (r.getD i.toNat 0),⟨r,pc,cs,ha,wa,ru,dn,iq,oq,m,ring,fall⟩)):=by
  unfold exM Mc.trap;dsimp only;rw [if_neg h12,if_neg h13,if_neg h14,if_neg h15]
 unfold Mc.core;dsimp only at*;by_cases h16:op=16
 ·subst h16;rw [if_pos (.inl rfl)] at hex;rw [hex] at he;subst he;refine ⟨0,fun _=> .inr rfl,?_⟩
  rw [if_pos (by decide),if_pos (by decide)]
  generalize r.getD d.toNat 0=x;generalize r.getD a.toNat 0=y;unfold QdK;by_cases hxy:x=y <;> simp [hxy]
 rw [if_neg (by simpa using h16)]
 by_cases h17:op=17
 ·subst h17;rw [if_pos (.inr (.inl rfl))] at hex;rw [hex] at he;subst he;refine ⟨0,fun _=> .inr rfl,?_⟩
  rw [if_pos (by decide),if_neg (by decide),if_pos (by decide)]
  generalize r.getD d.toNat 0=x;generalize r.getD a.toNat 0=y;unfold QdK;by_cases hxy:x=y <;> simp [hxy]
 rw [if_neg (by simpa using h17)]
 by_cases h18:op=18
 ·subst h18;rw [if_pos (.inr (.inr rfl))] at hex;rw [hex] at he;subst he;refine ⟨0,fun _=> .inr rfl,?_⟩
  rw [if_pos (by decide),if_neg (by decide),if_neg (by decide),if_pos (by decide),QeL,Obn,QeL,Obn]
  generalize r.getD d.toNat 0=x;generalize r.getD a.toNat 0=y;unfold QdK;by_cases hxy:sg x< sg y <;> simp [hxy,Qax]
 rw [if_neg (by simpa using h18)]
 rw [if_neg (c:=op=16∨op=17∨op=18) (by omega)] at hex
 by_cases h19:op=19
 ·subst h19;rw [if_pos rfl] at hex;rw [hex] at he;subst he;exact ⟨_,fun _=> .inl rfl,by rw [if_pos (by decide)]; rfl⟩
 rw [if_neg (by simpa using h19)]
 rw [if_neg h19] at hex;by_cases h20:op=20
 ·subst h20;rw [if_pos rfl] at hex;rw [hex] at he;subst he;exact ⟨_,fun _=> .inl rfl,by rw [if_pos (by decide)]; rfl⟩
 rw [if_neg (by simpa using h20)]
 rw [if_neg h20] at hex;by_cases h21:op=21
 ·subst h21;rw [if_pos rfl] at hex;rw [hex] at he;subst he;have hi10:=hi.i21 (.inl rfl);have hi0:=hi.hi;exact ⟨_,fun _=> .inl rfl,by rw [if_pos (by decide),Qsh hc ⟨hi0.1,hi10⟩,Obn]; rfl⟩
 rw [if_neg (by simpa using h21)]
 rw [if_neg h21] at hex;by_cases h22:op=22
 ·subst h22;rw [if_pos rfl] at hex;rw [hex] at he;subst he;have hi10:=hi.i21 (.inr rfl);have hi0:=hi.hi;exact ⟨0,fun _=> .inr rfl,by rw [if_pos (by decide),Qib hc ⟨hi0.1,hi10⟩,Obn]; rfl⟩
 rw [if_neg (by simpa using h22)]
 rw [if_neg h22] at hex;by_cases h23:op=23
 ·subst h23;rw [if_pos rfl] at hex;rw [hex] at he;subst he;exact ⟨0,fun _=> .inr rfl,by rw [if_pos (by decide),Qcy hc,Obn]; rfl⟩
 rw [if_neg (by simpa using h23)]
 rw [if_neg h23] at hex;by_cases h24:op=24
 ·subst h24;rw [if_pos rfl] at hex;rw [hex] at he;subst he;exact ⟨0,fun _=> .inr rfl,by rw [if_pos (by decide),Qpw hc,Obn]; rfl⟩
 rw [if_neg (by simpa using h24)]
 rw [if_neg h24] at hex;by_cases h25:op=25
 ·subst h25;rw [if_pos rfl] at hex;rw [hex] at he;subst he;exact ⟨0,fun _=> .inr rfl,by rw [if_pos (by decide)]; rfl⟩
 rw [if_neg (by simpa using h25)]
 rw [if_neg h25] at hex;by_cases h26:op=26
 ·subst h26;rw [if_pos rfl] at hex;rw [hex] at he;subst he;exact ⟨0,fun _=> .inr rfl,by rw [if_pos (by decide)]; rfl⟩
 rw [if_neg (by simpa using h26)]
 rw [if_neg h26] at hex;have h1:=hi.hop;have h11:op≤11:=by omega
 have hi15:=hi.i11 h11;have hi0:=hi.hi;have hii:0≤i∧i< ((r.length:Nat):Int):=by rw [hr.len]; omega
 have hiN:i.toNat< r.length:=by rw [hr.len]; omega
 rw [hex] at he;subst he;refine ⟨_,fun _=> .inl rfl,?_⟩
 rw [if_pos hii,Qs 0 hiN,Qsc op _ _ (hr.w (by omega)) (hr.w (by omega)) ⟨h1.1,h11⟩,Obn]
 rfl
def QfE (s:Mc):Mc:={ s with dn:=if 1000000000< s.dn+1 then 1000000000 else s.dn+1 }
theorem QtV (op:Int):F_fx (op,())=some ((wrD op,()),()):=by
 unfold F_fx wrD;dsimp only;rw [Qbq,Obn,Qbq,Obn];dsimp only;by_cases h1:1≤op∧op≤14
 ·rw [if_neg (by simp [h1]),decide_eq_true (.inl h1)]
 ·rw [if_pos (by simp; omega)]
  by_cases h2:19≤op∧op≤21
  ·rw [decide_eq_true (p:=(1≤op∧op≤14)∨(19≤op∧op≤21)) (.inr h2)]; simp [h2]
  ·rw [decide_eq_false (p:=(1≤op∧op≤14)∨(19≤op∧op≤21)) (by omega)]; simp; omega
theorem Qi {α:Type} (P:α→Prop) {c:Prop} [Decidable c] {a b:α} (h1:c→P a) (h2: ¬c→P b):P (if c then a else b):=by
 by_cases h:c
 ·rw [if_pos h]; exact h1 h
 ·rw [if_neg h]; exact h2 h
theorem Qwe (s:Mc) (l:List TwoD) (op d a i:Int):(exM s l op d a i).2.2.2.r=s.r∧(exM s l op d a i).2.2.2.dn=s.dn:=by
 unfold exM Mc.trap
 let P:Bool×Int×Int×Mc→Prop:=fun x=>x.2.2.2.r=s.r∧x.2.2.2.dn=s.dn
 refine Qi P (fun _=>⟨rfl,rfl⟩) fun _=>Qi P (fun _=>⟨rfl,rfl⟩) fun _=>Qi P (fun _=>Qi P (fun _=>⟨rfl,rfl⟩) fun _=>Qi P (fun _=>⟨rfl,rfl⟩) fun _=>⟨rfl,rfl⟩) fun _=>
  Qi P (fun _=>Qi P (fun _=>⟨rfl,rfl⟩) fun _=>Qi P (fun _=>⟨rfl,rfl⟩) fun _=>⟨rfl,rfl⟩) fun _=>Qi P (fun _=>⟨rfl,rfl⟩) fun _=>Qi P (fun _=>⟨rfl,rfl⟩) fun _=>Qi P (fun _=>⟨rfl,rfl⟩) fun _=>
  Qi P (fun _=>⟨rfl,rfl⟩) fun _=>Qi P (fun _=>⟨rfl,rfl⟩) fun _=>Qi P (fun _=>⟨rfl,rfl⟩) fun _=>Qi P (fun _=>⟨rfl,rfl⟩) fun _=>Qi P (fun _=>⟨rfl,rfl⟩) fun _=>Qi P (fun _=>⟨rfl,rfl⟩) fun _=>⟨rfl,rfl⟩
theorem QtT (h:OkS s l) {op d a i:Int} (hi:OkI op d a i) {e:Bool×Mc} (he:doM s l op d a i=e):F_fy (s.core l,(op,d,a,i,()),())=
  some ((e.1,()),((if e.1=true then (QfE e.2).core l else e.2.core l),())):=by
 have hd:=hi.hd;have ha':=hi.ha;have hr:=h.r;obtain ⟨nx,hnx,hL⟩:=QtU h hi rfl;have hrr:=Qwe s l op d a i;unfold F_fy;dsimp only;have e1:(s.core l).2.1=s.pc:=rfl;have e2:(s.core l).1=s.r:=rfl;rw [e1,e2,QfZ,Obn];dsimp only;rw [Qsk,Obn];dsimp only;rw [QfZ,Obn];dsimp only;have hid:0≤d∧d< ((s.r.length:Nat):Int):=by rw [hr.len]; omega
 have hia:0≤a∧a< ((s.r.length:Nat):Int):=by rw [hr.len]; omega
 rw [if_pos hid,Qs 0 (by rw [hr.len]; omega),if_pos hia,Qs 0 (by rw [hr.len]; omega),Obn]
 dsimp only;rw [QfZ,Obn];dsimp only;rw [hL,Obn];unfold doM at he;dsimp only at he;generalize exM s l op d a i=x at*;obtain ⟨b,nxt,rs,s1⟩:=x;cases b
 ·subst he; rfl
 ·simp only [if_true] at he⊢;subst he;simp only at hrr hnx;have hdn:=h.d;have hw:IntKind.i64.wrap (s1.dn+1)=s1.dn+1:=Qy (by rw [hrr.2]; omega) (by rw [hrr.2]; omega)
  unfold Mc.core QfE;dsimp only;rw [QtV,Obn,hw];dsimp only;have hid2:0≤d∧d< ((s1.r.length:Nat):Int):=by rw [hrr.1,hr.len]; omega
  by_cases hwd:wrD op=true
  ·have hx:nx=rs:=by
    rcases hnx trivial with h | h
    ·exact h
    ·rw [h] at hwd; cases hwd
   subst hx;rw [if_pos hwd];by_cases hd0:0< d
   ·rw [if_pos (QB.2 hd0),if_pos hid2,Qs 0 (by rw [hrr.1,hr.len]; omega),if_pos (c:=wrD op=true∧0< d) ⟨hwd,hd0⟩]; rfl
   ·rw [if_neg (by rw [QB]; exact hd0),if_neg (c:=wrD op=true∧0< d) (fun h=>hd0 h.2)]; rfl
  ·rw [if_neg hwd,if_neg (c:=wrD op=true∧0< d) (fun h=>hwd h.1)]; rfl
def runM (s:Mc) (l:List TwoD):Mc:=
 if (Qx s.cs l s.m s.pc 4).2≠0 then s.trap 2 s.pc
 else
  let w:=s.m.getD (Qx s.cs l s.m s.pc 4).1.toNat 0
  if decF w=0 then (if (doM s l (decM w).1 (decM w).2.1 (decM w).2.2.1 (decM w).2.2.2.1).1=true then QfE (doM s l (decM w).1 (decM w).2.1 (decM w).2.2.1 (decM w).2.2.2.1).2
   else (doM s l (decM w).1 (decM w).2.1 (decM w).2.2.1 (decM w).2.2.2.1).2) else s.trap 1 w
def Qak (s0:Mc) (l:List TwoD):Mc:=
 let s:Mc:={ s0 with ring:= -1,fall:= -1 }
 if s.ha=true then s
 else if 0≤dueM s.cs s.ru s.dn s.iq then s.trap (16+dueM s.cs s.ru s.dn s.iq) 0
 else if s.wa=true then (if iand .i64 (QdE s.cs s.ru s.dn s.iq) (s.cs.getD 7 0)=0 then s else runM { s with wa:=false } l)
 else runM s l
theorem QiW {w:Int} (h:decF w=0):OkI (decM w).1 (decM w).2.1 (decM w).2.2.1 (decM w).2.2.2.1:=by
 obtain ⟨h1,h2,h3,h4,h5,h6⟩:=Qvj h;exact ⟨h1,h2,h3,h4,h5,h6⟩
theorem QmL (cs:List Int) (ru:Bool) (dn:Int) (iq:List Int): -1≤dueM cs ru dn iq∧dueM cs ru dn iq≤2:=by
 unfold dueM; split
 ·omega
 ·exact Qvx _
theorem Qmf (h:OkS s l) {K:Option Unit}:
  ((F_aw ((l,s.m,s.ring,(s.r,s.pc,s.cs,s.ha,s.wa,s.ru,s.dn,s.iq,s.oq,()),s.fall,()),s.pc,(4:Int),())).bind fun r7=>
    if (r7.1.2.1 !=(0:Int)) then
     (F_aq (s.bus l,(2:Int),s.pc,())).bind fun r8=>some (((),(r8.2.1,())):Unit×BusD×Unit)
    else
     if 0≤r7.1.1∧r7.1.1< ((s.m.length:Nat):Int) then
      ((s.m)[(r7.1.1).toNat]?).bind fun y9=>
      (F_ax (y9,())).bind fun r10=>
      if (!r10.1.2.1) then
       if 0≤r7.1.1∧r7.1.1< ((s.m.length:Nat):Int) then
        ((s.m)[(r7.1.1).toNat]?).bind fun y11=>
        (F_aq (s.bus l,(1:Int),y11,())).bind fun r12=>some ((),(r12.2.1,()))
       else none
      else
       (F_bp (s.bus l,r10.1.1,())).bind fun r13=>
       if r13.1.1 then
        let v14:=(IntKind.i64.wrap (r13.2.1.2.2.2.2.2.2.2.2.2.1+(1:Int)))
        (F_bq ((1000000000:Int),v14,())).bind fun r15=>
        some ((),((r13.2.1.1,(r13.2.1.2.1,(r13.2.1.2.2.1,(r13.2.1.2.2.2.1,(r13.2.1.2.2.2.2.1,(r13.2.1.2.2.2.2.2.1,(r13.2.1.2.2.2.2.2.2.1,(r13.2.1.2.2.2.2.2.2.2.1,(r13.2.1.2.2.2.2.2.2.2.2.1,(r15.1.1,(r13.2.1.2.2.2.2.2.2.2.2.2.2.1,(r13.2.1.2.2.2.2.2.2.2.2.2.2.2.1,(r13.2.1.2.2.2.2.2.2.2.2.2.2.2.2.1,()))))))))))))),()))
       else some ((),(r13.2.1,()))
     else none)=some ((),((runM s l).bus l,())):=by
 have hdo:=fun {w:Int} (hw:decF w=0)=>QuM h (QiW hw) rfl
 have hdn:=h.d;rw [QfS h.c h.l,Obn];dsimp only;unfold runM;have hin:=QbZ h.c h.l s.pc 4;generalize Qx s.cs l s.m s.pc 4=q at*;by_cases h0:q.2=0
 ·have hlt:0≤q.1∧q.1< ((s.m.length:Nat):Int):=by
   rcases hin h0 with h | h
   ·exact absurd rfl h.2.2
   ·exact h
  have hN:q.1.toNat< s.m.length:=by omega
  have hw:WW (s.m.getD q.1.toNat 0):=h.l.words _ (QaG hN);rw [if_neg (by simpa using h0),if_pos hlt,Qs 0 hN,QsR hw,Obn,if_pos hlt,Qs 0 hN,if_neg (c:=q.2≠0) (by simpa using h0)]
  dsimp only;generalize s.m.getD q.1.toNat 0=w at*;by_cases hd:decF w=0
  ·rw [if_neg (by simp [hd]),if_pos hd]
   have hx:=hdo hd;have hrr:=Qwe s l (decM w).1 (decM w).2.1 (decM w).2.2.1 (decM w).2.2.2.1
   have hdn2:(doM s l (decM w).1 (decM w).2.1 (decM w).2.2.1 (decM w).2.2.2.1).2.dn=s.dn:=by
    unfold doM; dsimp only; split <;> exact hrr.2
   have e1:((decM w).1,(decM w).2.1,(decM w).2.2.1,(decM w).2.2.2.1,())=decM w:=rfl;rw [e1] at hx;rw [hx,Obn];dsimp only;generalize doM s l (decM w).1 (decM w).2.1 (decM w).2.2.1 (decM w).2.2.2.1=x at*;obtain ⟨b,s1⟩:=x;cases b
   ·rfl
   ·simp only at hdn2;rw [if_pos rfl,if_pos rfl];unfold F_bq Mc.bus QfE;dsimp only;rw [hdn2,Qy (by omega) (by omega)]
    by_cases hlt:1000000000< s.dn+1
    ·rw [if_pos (QB.2 hlt),if_pos hlt]; rfl
    ·rw [if_neg (by rw [QB]; exact hlt),if_neg hlt]; rfl
  ·rw [if_pos (by simp [hd]),if_neg hd]
   unfold Mc.bus;rw [QcD h.c,Obn];rfl
 ·rw [if_pos (by simpa using h0),if_pos (c:=q.2≠0) h0]
  unfold Mc.bus;rw [QcD h.c,Obn];rfl
theorem Qqr (h:OkS s l):F_br (s.bus l,())=some ((),((Qak s l).bus l,())):=by
 obtain ⟨r,pc,cs,ha,wa,ru,dn,iq,oq,m,ring,fall⟩:=s;have h0:OkS ⟨r,pc,cs,ha,wa,ru,dn,iq,oq,m, -1, -1⟩ l:=⟨h.r,h.pc,h.c,h.i,h.o,h.d,h.l⟩;have h1:OkS ⟨r,pc,cs,ha,false,ru,dn,iq,oq,m, -1, -1⟩ l:=⟨h.r,h.pc,h.c,h.i,h.o,h.d,h.l⟩;have hc:OkC cs:=h.c;have hle:=QmL cs ru dn iq;generalize he:Qak ⟨r,pc,cs,ha,wa,ru,dn,iq,oq,m,ring,fall⟩ l=e;unfold Qak at he;unfold F_br;dsimp only at he;rw [show (Mc.bus ⟨r,pc,cs,ha,wa,ru,dn,iq,oq,m,ring,fall⟩ l)=(l,m,ring,r,pc,cs,ha,wa,ru,dn,iq,oq,fall,()) from rfl]
 dsimp only;cases ha
 ·rw [if_neg (by decide)] at he
  rw [if_neg (by decide),QsT hc,Obn]
  dsimp only;by_cases hk:0≤dueM cs ru dn iq
  ·rw [if_pos hk] at he;subst he;rw [if_pos (QaW.2 hk),Qy (by omega) (by omega),QcD hc,Obn]
   rfl
  ·rw [if_neg hk] at he;rw [if_neg (by rw [QaW]; exact hk)]
   cases wa
   ·rw [if_neg (by decide)] at he
    subst he;rw [if_neg (by decide)]
    exact Qmf (K:=none) h0
   ·rw [if_pos rfl] at he;have h7:(0:Int)≤7∧(7:Int)< ((cs.length:Nat):Int):=by rw [hc.len]; decide
    rw [if_pos rfl,QeV hc,Obn];dsimp only;rw [if_pos h7,Qs 0 (by rw [hc.len]; decide)]
    simp only [show ((7:Int)).toNat=7 from rfl]
    by_cases hz:iand .i64 (QdE cs ru dn iq) (cs.getD 7 0)=0
    ·rw [if_pos hz] at he;subst he;rw [if_pos (by simpa using hz)]
     rfl
    ·rw [if_neg hz] at he;subst he;rw [if_neg (by simpa using hz)]
     exact Qmf (K:=none) h1
 ·rw [if_pos rfl] at he;subst he;rw [if_pos rfl];rfl
theorem QlA (h:OkS s l):
  ((F_fd ((s.r,s.pc,s.cs,s.ha,s.wa,s.ru,s.dn,s.iq,s.oq,()),l,s.m,s.pc,(4:Int),())).bind fun r14=>
    if (r14.1.1.1 !=(0:Int)) then
     (F_ew (s.core l,(2:Int),s.pc,())).bind fun r15=>some (((),(r15.2.1,())):Unit×Qwa×Unit)
    else
     if 0≤r14.1.1.2.1∧r14.1.1.2.1< ((s.m.length:Nat):Int) then
      ((s.m)[(r14.1.1.2.1).toNat]?).bind fun y16=>
      (F_ff (y16,())).bind fun r17=>
      if (r17.1.1.1 !=(0:Int)) then
       if 0≤r14.1.1.2.1∧r14.1.1.2.1< ((s.m.length:Nat):Int) then
        ((s.m)[(r14.1.1.2.1).toNat]?).bind fun y18=>
        (F_ew (s.core l,(1:Int),y18,())).bind fun r19=>some ((),(r19.2.1,()))
       else none
      else
       (F_fy (s.core l,r17.1.1.2.1,())).bind fun r20=>some ((),(r20.2.1,()))
     else none)=some ((),((runM s l).core l,())):=by
 have hdo:=fun {w:Int} (hw:decF w=0)=>QtT h (QiW hw) rfl
 rw [QfA h.c h.l _ (.inr (.inr rfl)),Obn];dsimp only;unfold runM;have hin:=QbZ h.c h.l s.pc 4;generalize Qx s.cs l s.m s.pc 4=q at*;by_cases h0:q.2=0
 ·have hlt:0≤q.1∧q.1< ((s.m.length:Nat):Int):=by
   rcases hin h0 with h | h
   ·exact absurd rfl h.2.2
   ·exact h
  have hN:q.1.toNat< s.m.length:=by omega
  have hw:WW (s.m.getD q.1.toNat 0):=h.l.words _ (QaG hN);rw [if_neg (by simpa using h0),if_pos hlt,Qs 0 hN,Qsd hw,Obn,if_pos hlt,Qs 0 hN,if_neg (c:=q.2≠0) (by simpa using h0)]
  dsimp only;generalize s.m.getD q.1.toNat 0=w at*;by_cases hd:decF w=0
  ·rw [if_pos hd,if_pos hd];dsimp only;rw [if_neg (by decide)]
   have hx:=hdo hd;have e1:((decM w).1,(decM w).2.1,(decM w).2.2.1,(decM w).2.2.2.1,())=decM w:=rfl;rw [e1] at hx;rw [hx,Obn];generalize doM s l (decM w).1 (decM w).2.1 (decM w).2.2.1 (decM w).2.2.2.1=x at*;obtain ⟨b,s1⟩:=x;cases b <;> rfl
  ·rw [if_neg hd,if_neg hd];dsimp only;rw [if_pos (by decide)]
   unfold Mc.core;rw [Qcy h.c,Obn];rfl
 ·rw [if_pos (by simpa using h0),if_pos (c:=q.2≠0) h0]
  unfold Mc.core;rw [Qcy h.c,Obn];rfl
theorem QpE (h:OkS s l):F_fz (s.core l,())=some ((),((Qak s l).core l,())):=by
 obtain ⟨r,pc,cs,ha,wa,ru,dn,iq,oq,m,ring,fall⟩:=s;have h0:OkS ⟨r,pc,cs,ha,wa,ru,dn,iq,oq,m, -1, -1⟩ l:=⟨h.r,h.pc,h.c,h.i,h.o,h.d,h.l⟩;have h1:OkS ⟨r,pc,cs,ha,false,ru,dn,iq,oq,m, -1, -1⟩ l:=⟨h.r,h.pc,h.c,h.i,h.o,h.d,h.l⟩;have hc:OkC cs:=h.c;have hle:=QmL cs ru dn iq;generalize he:Qak ⟨r,pc,cs,ha,wa,ru,dn,iq,oq,m,ring,fall⟩ l=e;unfold Qak at he;unfold F_fz;dsimp only at he;rw [show (Mc.core ⟨r,pc,cs,ha,wa,ru,dn,iq,oq,m,ring,fall⟩ l)=(r,pc,cs,ha,wa,ru,dn,iq,oq,l,m,fall,ring,()) from rfl]
 dsimp only;cases ha
 ·rw [if_neg (by decide)] at he
  rw [if_neg (by decide),Qsf hc,Obn]
  dsimp only;by_cases hk:0≤dueM cs ru dn iq
  ·rw [if_pos hk] at he;subst he;rw [if_pos (QaW.2 hk),Qy (by omega) (by omega),Qcy hc,Obn]
   rfl
  ·rw [if_neg hk] at he;rw [if_neg (by rw [QaW]; exact hk)]
   cases wa
   ·rw [if_neg (by decide)] at he
    subst he;rw [if_neg (by decide)]
    exact QlA h0
   ·rw [if_pos rfl] at he;have h7:(0:Int)≤7∧(7:Int)< ((cs.length:Nat):Int):=by rw [hc.len]; decide
    rw [if_pos rfl,QeK hc,Obn];dsimp only;rw [if_pos h7,Qs 0 (by rw [hc.len]; decide)]
    simp only [show ((7:Int)).toNat=7 from rfl]
    by_cases hz:iand .i64 (QdE cs ru dn iq) (cs.getD 7 0)=0
    ·rw [if_pos hz] at he;subst he;rw [if_pos (by simpa using hz)]
     rfl
    ·rw [if_neg hz] at he;subst he;rw [if_neg (by simpa using hz)]
     exact QlA h1
 ·rw [if_pos rfl] at he;subst he;rw [if_pos rfl];rfl
end
end Go.Proofs.YtkkljegcnnfanaaGreatDoor
