/- Plain laws: what the functions compute, and that both programs compute the same. -/
import Derived.Test.YtkkljegcnnfanaaGreatDoorPb1
set_option linter.unusedVariables false
set_option linter.unusedSimpArgs false
namespace Go.Proofs.YtkkljegcnnfanaaGreatDoor
open Go Go.RowKit S Go.Proofs
set_option maxRecDepth 100000
theorem QnG (x:QF) (g:Int) (hx:QdS 1048576 x):F_ga (x,g,())=some ((QlR x g,()),()):=by
 unfold F_ga QlR;dsimp only;rw [QcI x hx,Obn];dsimp only;by_cases h0:Qch x=0
 case neg=>rw [if_pos (by simpa using h0),if_pos h0]; rfl
 rw [if_neg (by simpa using h0),if_neg (by simpa using h0),Qdq x.1 g hx.1.1.1,Obn]
 dsimp only;by_cases hg:isG x.1 g=true
 case neg=>rw [if_pos (by simpa using hg),if_neg hg]; rfl
 obtain ⟨⟨g0,e1,e2⟩,a1,⟨a2,a3⟩,a4⟩:=Qnt hx h0 hg;have hok:=QeT (Qfn h0);have hm:=(Qnw h0).1;have hll:=hok.lanes.1;rw [if_neg (by simpa using hg),if_pos hg]
 unfold F_fz;dsimp only;rw [if_pos g0,e1,Obn,Qjn _ a1,Obn,if_pos g0,e2,Obn,Qmp _ _ (by omega) a3 (by omega),Obn]
 generalize x.2.2.1.getD g.toNat QY=h at*;generalize Qaq x.2.1 (x.1.1.getD g.toNat [])=ow at*;dsimp only
 have key:=Qfr (step:=l_fz_3) (γ:=denO o_fz_3)
  (fun k (out:List Int)=>((x,g,(),(),x.1.2.1,((x.1.2.1.length:Nat):Int),((k:Nat):Int),()),(([],0,[],false,false,false,0,[],[],[],[],()),(h.1,h.2.1,h.2.2.1,h.2.2.2.1,h.2.2.2.2.1,h.2.2.2.2.2.1,h.2.2.2.2.2.2.1,h.2.2.2.2.2.2.2.1,h.2.2.2.2.2.2.2.2.1,ow,out,()),()),()))
  x.1.2.1.length (QaU (by omega)) (fun k out=>out.length≤8*k)
  (fun k out=>some (.inl (((),(),()),(([],0,[],false,false,false,0,[],[],[],[],()),(h.1,h.2.1,h.2.2.1,h.2.2.2.1,h.2.2.2.2.1,h.2.2.2.2.2.1,h.2.2.2.2.2.2.1,h.2.2.2.2.2.2.2.1,h.2.2.2.2.2.2.2.2.1,ow,out++Qaq x.2.1 (QaM g true (x.1.2.1.drop k)),()),()),()))) ?_ 0 [] (by omega) (by simp)
 ·have e0:((0:Nat):Int)=0:=rfl;rw [e0,List.drop_zero,List.nil_append] at key;show ((Qc l_fz_3 lots _).bind _).bind _=_;rw [key,Obn];rfl
 ·rintro rec k out hk ho ih;unfold l_fz_3;dsimp only;by_cases hlt:k< x.1.2.1.length
  ·have hln:=(QbO hok _ (List.getElem_mem hlt)).2.1;rw [if_pos (lt_t hlt),if_pos nat0,Qn hlt,Qbh hlt,QaM,QR (by omega)]
   by_cases hq:(x.1.2.1[k]).1=g
   ·rw [if_pos (by simpa using hq),if_pos hq,Qil x.2.1 _ (by omega) (by omega),Obn]
    dsimp only;have:=Qmx x.2.1 (x.1.2.1[k]).2.2.1;rw [if_pos (by omega),ih _ hlt (by rw [List.length_append]; omega),List.append_assoc]
    rfl
   ·rw [if_neg (by simpa using hq),if_neg hq]
    exact ih _ hlt (by omega)
  ·rw [if_neg (lt_f hlt),Qce hlt];simp only [QaM,Qaq,List.flatMap_nil,List.append_nil]
def vrLe (r:QsP):Prop:=r.2.1.length≤1048576∧r.2.2.2.1.length≤1048576∧r.2.2.2.2.2.2.2.2.1.length≤1048576∧r.2.2.2.2.2.2.2.2.2.1.length≤1048576∧r.2.2.2.2.2.2.2.2.2.2.1.length≤1048576∧r.2.2.2.2.2.2.2.2.2.2.2.1.length≤1048576
theorem QlU (c:Int):vrLe (QlS c QY [] []):=by unfold vrLe QlS QY; simp
theorem Quq (x:QF) (g:Int) (hx:QdS 1048576 x):vrLe (QlR x g):=by
 unfold QlR;split
 ·exact QlU _
 ·rename_i h0;have h0:Qch x=0:=by simpa using h0
  split
  ·rename_i hg;obtain ⟨_,a1,⟨a2,a3⟩,a4⟩:=Qnt hx h0 hg;have w1:=QgN x.2.1 (x.1.1.getD g.toNat []);have w2:=QgN x.2.1 (QaM g true x.1.2.1);have w3:=Qjk g true x.1.2.1;have w4:=(QeT (Qfn h0)).lanes.1;exact ⟨a1.1,a1.2.1,a1.2.2.1,a1.2.2.2,by show (Qaq _ _).length≤_; omega,by show (Qaq _ _).length≤_; omega⟩
  ·exact QlU _
abbrev QbG:=QQ×List TwoD×List Int×Unit
def QnV (top:Int) (p:TwoD):Option Int:=if inB p.1 (-1) (top-1)=true then (if inB p.2.1 0 7=true then (if p.1= -1 then nz (if p.2.1=0 then 0 else 1) else none) else some 3) else some 3
def QhT (l:List TwoD) (top:Int):Int:=if inB top 1 24=true then (if l.length=8 then (match scan (fun (_:Nat) p=>QnV top p) 0 l with | some c=>c | none=>0) else 1) else 3
def QcR (x:QbG):Int:=if hartM x.1≠0 then hartM x.1 else if QhT x.2.1 8≠0 then QhT x.2.1 8 else if QA x.2.2.1=0∧x.2.2.1.length=64 then 0 else 1
theorem Qga {x:QbG} (h:QcR x=0):hartM x.1=0∧QhT x.2.1 8=0∧QA x.2.2.1=0∧x.2.2.1.length=64:=by
 unfold QcR at h;split at h
 ·rename_i g; exact absurd h g
 ·rename_i g0;split at h
  ·rename_i g; exact absurd h g
  ·rename_i g1;split at h
   ·rename_i g2; exact ⟨by simpa using g0,by simpa using g1,g2⟩
   ·cases h
def WW (n:Int):Prop:=0≤n∧n≤4294967295
theorem Qwf (n:Int):iand .i64 n 4294967295=n % 4294967296:=by
 have h1:(BitVec.ofInt 64 4294967295).toNat=2 ^ 32-1:=by decide
 have key:(BitVec.ofInt 64 n &&& BitVec.ofInt 64 4294967295).toNat=(n % ((2 ^ 64:Nat):Int)).toNat % 2 ^ 32:=by
  rw [BitVec.toNat_and,BitVec.toNat_ofInt,h1,Nat.and_two_pow_sub_one_eq_mod]
 show IntKind.i64.wrap ((BitVec.ofInt 64 n &&& BitVec.ofInt 64 4294967295).toNat:Nat)=_;rw [key,IntKind.wrap_i64];omega
theorem Qpk (n:Int):iand .i64 n 65535=n % 65536:=by
 have h1:(BitVec.ofInt 64 65535).toNat=2 ^ 16-1:=by decide
 have key:(BitVec.ofInt 64 n &&& BitVec.ofInt 64 65535).toNat=(n % ((2 ^ 64:Nat):Int)).toNat % 2 ^ 16:=by
  rw [BitVec.toNat_and,BitVec.toNat_ofInt,h1,Nat.and_two_pow_sub_one_eq_mod]
 show IntKind.i64.wrap ((BitVec.ofInt 64 n &&& BitVec.ofInt 64 65535).toNat:Nat)=_;rw [key,IntKind.wrap_i64];omega
theorem Qqz (n:Int):iand .i64 n 15=n % 16:=by
 have h1:(BitVec.ofInt 64 15).toNat=2 ^ 4-1:=by decide
 have key:(BitVec.ofInt 64 n &&& BitVec.ofInt 64 15).toNat=(n % ((2 ^ 64:Nat):Int)).toNat % 2 ^ 4:=by
  rw [BitVec.toNat_and,BitVec.toNat_ofInt,h1,Nat.and_two_pow_sub_one_eq_mod]
 show IntKind.i64.wrap ((BitVec.ofInt 64 n &&& BitVec.ofInt 64 15).toNat:Nat)=_;rw [key,IntKind.wrap_i64];omega
def wd (n:Int):Int:=n % 4294967296
theorem Qah (n:Int):WW (wd n):=by unfold wd WW; omega
theorem Qge {n:Int} (h:WW n):wd n=n:=by unfold wd WW at *; omega
theorem QwJ (n:Int):wd (wd n)=wd n:=Qge (Qah n)
theorem QdG (n:Int):IntKind.u32.wrap n=wd n:=by rw [IntKind.wrap_u32]; rfl
theorem QeC (n:Int):IntKind.i64.wrap (wd n)=wd n:=by rw [IntKind.wrap_i64]; unfold wd; omega
theorem Qx {n:Int} (h0: -9223372036854775808≤n) (h1:n≤9223372036854775807):IntKind.i64.wrap n=n:=Qw h0 h1
theorem QdD (n:Int):F_z (n,())=some ((wd n,()),()):=by
 unfold F_z; simp only [QdG,QeC]
theorem QiC (x):F_z x=some ((wd x.1,()),()):=QdD x.1
theorem QgD (n:Int):F_ej (n,())=some ((wd n,()),()):=by
 unfold F_ej; simp only [Qwf]; rfl
theorem Qbw (x):F_ej x=some ((wd x.1,()),()):=QgD x.1
def sg (n:Int):Int:=if wd n< 2147483648 then wd n else wd n-4294967296
theorem QeO (n:Int):F_bf (n,())=some ((sg n,()),()):=by
 unfold F_bf sg;simp only [QdG];have h:=Qah n;generalize wd n=w at*;unfold WW at h
 have e:IntKind.i64.wrap (IntKind.i32.wrap w)=if w< 2147483648 then w else w-4294967296:=by
  rw [IntKind.wrap_i64,IntKind.wrap_i32];split <;> omega
 rw [e]
theorem QdY (x):F_bf x=some ((sg x.1,()),()):=QeO x.1
theorem QeF (n:Int):F_er (n,())=some ((sg n,()),()):=by
 unfold F_er sg;simp only [Qbw,Obn];have h:=Qah n;generalize wd n=w at*;unfold WW at h;by_cases hw:w< 2147483648
 ·rw [if_pos (QC.2 hw),if_pos hw]
 ·rw [if_neg (by rw [QC]; exact hw),if_neg hw,Qx (n:=w-4294967295) (by omega) (by omega),Qx (n:=w-4294967295-1) (by omega) (by omega),show w-4294967295-1=w-4294967296 by omega]
theorem QdT (x):F_er x=some ((sg x.1,()),()):=QeF x.1
theorem QvK (n:Int): -2147483648≤sg n∧sg n≤2147483647:=by
 unfold sg; have:=Qah n; unfold WW at this; split <;> omega
theorem QfZ (n:Int):sg n=0↔wd n=0:=by
 unfold sg; have:=Qah n; unfold WW at this; split <;> omega
def addW (a b:Int):Int:=wd (a+b)
theorem Qdh (a b:Int):F_ay (a,b,())=some ((addW a b,()),()):=by
 unfold F_ay addW;simp only [QdG,QeC,show wd (wd a+wd b)=wd (a+b) by unfold wd; omega]
theorem QpG (x):F_ay x=some ((addW x.1 x.2.1,()),()):=Qdh x.1 x.2.1
theorem QfL (a b:Int):F_ek (a,b,())=some ((addW a b,()),()):=by
 unfold F_ek addW;simp only [Qbw,Obn];have ha:=Qah a; have hb:=Qah b;unfold WW at ha hb;rw [Qx (by omega) (by omega),show wd (wd a+wd b)=wd (a+b) by unfold wd; omega]
theorem QoU (x):F_ek x=some ((addW x.1 x.2.1,()),()):=QfL x.1 x.2.1
theorem QkE (a b:Int):WW (addW a b):=Qah _
theorem Quu (n:Int):IntKind.i16.wrap n=(n+32768) % 65536-32768:=by
 simp only [IntKind.wrap,IntKind.bits,IntKind.signed,Bool.true_and,ge_iff_le,decide_eq_true_eq,Int.reducePow,Nat.reduceSub];split <;> omega
def off (n:Int):Int:=if 32768≤n % 65536 then n % 65536-65536 else n % 65536
theorem QlB (n:Int):F_az (n,())=some ((off n,()),()):=by
 unfold F_az off
 have e:IntKind.i64.wrap (IntKind.i16.wrap (IntKind.u16.wrap n))=if 32768≤n % 65536 then n % 65536-65536 else n % 65536:=by
  rw [IntKind.wrap_i64,Quu,IntKind.wrap_u16];split <;> omega
 simp only [e]
theorem QrL (n:Int):F_el (n,())=some ((off n,()),()):=by
 unfold F_el off;simp only [Qpk];by_cases h:32768≤n % 65536
 ·rw [if_pos (Qba.2 h),if_pos h,Qx (by omega) (by omega)]
 ·rw [if_neg (by rw [Qba]; exact h),if_neg h]
def mulW (a b:Int):Int:=wd (wd a*wd b)
theorem Qsv (a b:Int):F_bj (a,b,())=some ((mulW a b,()),()):=by
 unfold F_bj mulW; simp only [QdG,QeC]
theorem QpN (x):F_bj x=some ((mulW x.1 x.2.1,()),()):=Qsv x.1 x.2.1
theorem QrK (a b:Int):F_eu (a,b,())=some ((mulW a b,()),()):=by
 unfold F_eu mulW; simp only [QdG,QeC]
theorem Qpa (x):F_eu x=some ((mulW x.1 x.2.1,()),()):=QrK x.1 x.2.1
theorem QqU (a b:Int) (h: -2147483648≤a∧a≤2147483647): -2147483648≤a.tdiv b∧a.tdiv b≤2147483648:=by
 have h1:(a.tdiv b).natAbs=a.natAbs / b.natAbs:=Int.natAbs_tdiv a b;have h2:a.natAbs / b.natAbs≤a.natAbs:=Nat.div_le_self _ _;omega
def divW (a b:Int):Int:=if wd b=0 then 4294967295 else wd ((sg a).tdiv (sg b))
theorem Qsp (a b:Int):F_bk (a,b,())=some ((divW a b,()),()):=by
 unfold F_bk divW;simp only [QiC,QdY,Obn];by_cases h:wd b=0
 ·rw [if_pos (by simpa using h),if_pos h]
 ·have hs: ¬sg b=0:=fun e=>h ((QfZ b).1 e)
  have:=QqU (sg a) (sg b) (QvK a);rw [if_neg (by simpa using h),if_neg h,if_neg hs,Qx (by omega) (by omega)]
theorem QpM (x):F_bk x=some ((divW x.1 x.2.1,()),()):=Qsp x.1 x.2.1
theorem QrE (a b:Int):F_ev (a,b,())=some ((divW a b,()),()):=by
 unfold F_ev divW;simp only [Qbw,QdT,Obn];by_cases h:wd b=0
 ·rw [if_pos (by simpa using (QfZ b).2 h),if_pos h]
 ·have hs: ¬sg b=0:=fun e=>h ((QfZ b).1 e)
  have:=QqU (sg a) (sg b) (QvK a);rw [if_neg (by simpa using hs),if_neg h,if_neg hs,Qx (by omega) (by omega)]
theorem QoY (x):F_ev x=some ((divW x.1 x.2.1,()),()):=QrE x.1 x.2.1
def remW (a b:Int):Int:=if wd b=0 then wd a else wd ((sg a).tmod (sg b))
theorem Qsx (a b:Int):F_bl (a,b,())=some ((remW a b,()),()):=by
 unfold F_bl remW;simp only [QiC,QdY,Obn];by_cases h:wd b=0
 ·rw [if_pos (by simpa using h),if_pos h]
 ·have hs: ¬sg b=0:=fun e=>h ((QfZ b).1 e)
  rw [if_neg (by simpa using h),if_neg h,if_neg hs]
theorem QpQ (x):F_bl x=some ((remW x.1 x.2.1,()),()):=Qsx x.1 x.2.1
theorem QrN (a b:Int):F_ew (a,b,())=some ((remW a b,()),()):=by
 unfold F_ew remW;simp only [Qbw,QdT,Obn];by_cases h:wd b=0
 ·rw [if_pos (by simpa using (QfZ b).2 h),if_pos h]
 ·have hs: ¬sg b=0:=fun e=>h ((QfZ b).1 e)
  rw [if_neg (by simpa using hs),if_neg h,if_neg hs]
theorem Qpc (x):F_ew x=some ((remW x.1 x.2.1,()),()):=QrN x.1 x.2.1
theorem Qia (n:Int): ∃k:Nat,wd n=(k:Int)∧k< 4294967296:=⟨(wd n).toNat,by have:=Qah n; unfold WW at this; omega,by have:=Qah n; unfold WW at this; omega⟩
theorem QfQ {k:Nat} (h:k< 4294967296):(BitVec.ofInt 32 (k:Int)).toNat=k:=by
 rw [BitVec.ofInt_natCast,BitVec.toNat_ofNat]; exact Nat.mod_eq_of_lt (by omega)
theorem QfR {k:Nat} (h:k< 4294967296):(BitVec.ofInt 64 (k:Int)).toNat=k:=by
 rw [BitVec.ofInt_natCast,BitVec.toNat_ofNat]; exact Nat.mod_eq_of_lt (by omega)
def bitN (op:Int) (a b:Nat):Nat:=if op=1 then a &&& b else if op=2 then a ||| b else a ^^^ b
def bitW (op a b:Int):Int:=(bitN op (wd a).toNat (wd b).toNat:Int)
theorem Qmf (op:Int) {a b:Nat} (ha:a< 4294967296) (hb:b< 4294967296):bitN op a b< 4294967296:=by
 unfold bitN;split
 ·exact Nat.and_lt_two_pow (n:=32) _ (by omega)
 ·split
  ·exact Nat.or_lt_two_pow (n:=32) (by omega) (by omega)
  ·exact Nat.xor_lt_two_pow (n:=32) (by omega) (by omega)
theorem Qrl (op a b:Int):WW (bitW op a b):=by
 obtain ⟨x,hx,hx2⟩:=Qia a;obtain ⟨y,hy,hy2⟩:=Qia b;unfold bitW WW;rw [hx,hy];have:=Qmf op hx2 hy2;simp only [Int.toNat_natCast];omega
theorem QhY (op a b:Int) (h:op=1∨op=2∨op=3):F_bm (op,a,b,())=some (((0,bitW op a b,()),()),()):=by
 unfold F_bm bitW;simp only [QdG];obtain ⟨x,hx,hx2⟩:=Qia a;obtain ⟨y,hy,hy2⟩:=Qia b;rw [hx,hy];simp only [Int.toNat_natCast];have hlt:=Qmf op hx2 hy2;rcases h with rfl | rfl | rfl
 ·rw [if_pos (by decide)]
  show some (((0,IntKind.i64.wrap (IntKind.u32.wrap ((BitVec.ofInt 32 (x:Int) &&& BitVec.ofInt 32 (y:Int)).toNat:Int)),()),()),())=_;have:bitN 1 x y=x &&& y:=rfl;rw [BitVec.toNat_and,QfQ hx2,QfQ hy2, ←this,QdG,QeC,Qge (by unfold WW; omega)]
 ·rw [if_neg (by decide),if_pos (by decide)]
  show some (((0,IntKind.i64.wrap (IntKind.u32.wrap ((BitVec.ofInt 32 (x:Int) ||| BitVec.ofInt 32 (y:Int)).toNat:Int)),()),()),())=_
  have:bitN 2 x y=x ||| y:=rfl
  rw [BitVec.toNat_or,QfQ hx2,QfQ hy2, ←this,QdG,QeC,Qge (by unfold WW; omega)]
 ·rw [if_neg (by decide),if_neg (by decide),if_pos (by decide)]
  show some (((0,IntKind.i64.wrap (IntKind.u32.wrap ((BitVec.ofInt 32 (x:Int) ^^^ BitVec.ofInt 32 (y:Int)).toNat:Int)),()),()),())=_;have:bitN 3 x y=x ^^^ y:=rfl;rw [BitVec.toNat_xor,QfQ hx2,QfQ hy2, ←this,QdG,QeC,Qge (by unfold WW; omega)]
theorem QhJ (op a b:Int) (h:op=1∨op=2∨op=3):F_ex (op,a,b,())=some (((0,bitW op a b,()),()),()):=by
 unfold F_ex bitW;simp only [Qbw,Obn];obtain ⟨x,hx,hx2⟩:=Qia a;obtain ⟨y,hy,hy2⟩:=Qia b;rw [hx,hy];simp only [Int.toNat_natCast];have hlt:=Qmf op hx2 hy2;rcases h with rfl | rfl | rfl
 ·rw [if_pos (by decide)]
  show some (((0,IntKind.i64.wrap ((BitVec.ofInt 64 (x:Int) &&& BitVec.ofInt 64 (y:Int)).toNat:Int),()),()),())=_;have:bitN 1 x y=x &&& y:=rfl;rw [BitVec.toNat_and,QfR hx2,QfR hy2, ←this,Qx (by omega) (by omega)]
 ·rw [if_neg (by decide),if_pos (by decide)]
  show some (((0,IntKind.i64.wrap ((BitVec.ofInt 64 (x:Int) ||| BitVec.ofInt 64 (y:Int)).toNat:Int),()),()),())=_
  have:bitN 2 x y=x ||| y:=rfl
  rw [BitVec.toNat_or,QfR hx2,QfR hy2, ←this,Qx (by omega) (by omega)]
 ·rw [if_neg (by decide),if_neg (by decide),if_pos (by decide)]
  show some (((0,IntKind.i64.wrap ((BitVec.ofInt 64 (x:Int) ^^^ BitVec.ofInt 64 (y:Int)).toNat:Int),()),()),())=_;have:bitN 3 x y=x ^^^ y:=rfl;rw [BitVec.toNat_xor,QfR hx2,QfR hy2, ←this,Qx (by omega) (by omega)]
def shW (a b:Int) (left:Bool):Int:=if left=true then wd (wd a*2 ^ (wd b % 32).toNat) else wd a / 2 ^ (wd b % 32).toNat
theorem Qog {a:Int} (h:WW a) (k:Nat):WW (a / 2 ^ k):=by
 unfold WW at*;have h2:(0:Int)< 2 ^ k:=Int.pow_pos (by omega)
 exact ⟨Int.ediv_nonneg h.1 (by omega),Int.le_trans (Int.ediv_le_self _ h.1) h.2⟩
theorem Qud (a b:Int) (l:Bool):WW (shW a b l):=by
 unfold shW; split
 ·exact Qah _
 ·exact Qog (Qah a) _
theorem QtX {k:Nat} (h:k< 32):(2:Int) ^ k≤2147483648:=by
 have:(2:Nat) ^ k≤2 ^ 31:=Nat.pow_le_pow_right (by omega) (by omega)
 have h2:((2 ^ k:Nat):Int)≤((2 ^ 31:Nat):Int):=Int.ofNat_le.2 this;simpa using h2
theorem Quj {w:Int} (h:WW w):w.tmod 32=w % 32:=Int.tmod_eq_emod_of_nonneg h.1
theorem QcG {a:Int} (h:0≤a) (k:Nat):a.fdiv (2 ^ k)=a / 2 ^ k:=Int.fdiv_eq_ediv_of_nonneg _ (Int.le_of_lt (Int.pow_pos (by omega)))
theorem Qop (a b:Int) (l:Bool):F_bn (a,b,l,())=some ((shW a b l,()),()):=by
 unfold F_bn shW;simp only [QdG,Quj (Qah b)];have hw:=Qah a;have hb:0≤wd b % 32∧wd b % 32< 32:=by omega
 have e:IntKind.u64.wrap (wd b % 32)=wd b % 32:=by rw [IntKind.wrap_u64]; omega
 have e2:min (wd b % 32).toNat 32=(wd b % 32).toNat:=by omega
 rw [e,e2];cases l
 ·rw [if_neg (by decide),if_neg (by omega),if_neg (by decide),QcG hw.1]
  have:=Qog hw (wd b % 32).toNat;unfold WW at this;rw [Qx (by omega) (by omega)]
 ·rw [if_pos rfl,if_neg (by omega),if_pos rfl,QeC]
theorem QmH (x):F_bn x=some ((shW x.1 x.2.1 x.2.2.1,()),()):=Qop x.1 x.2.1 x.2.2.1
theorem QnA (a b:Int) (l:Bool):F_ey (a,b,l,())=some ((shW a b l,()),()):=by
 unfold F_ey shW;simp only [Qbw,Obn,Quj (Qah b)];have hw:=Qah a;have hb:0≤wd b % 32∧wd b % 32< 32:=by omega
 have e2:min (wd b % 32).toNat 64=(wd b % 32).toNat:=by omega
 rw [e2];cases l
 ·rw [if_neg (by decide),if_neg (by omega),if_neg (by decide),QcG hw.1]
 ·rw [if_pos rfl,if_neg (by omega),if_pos rfl]
  have h1:=QtX (k:=(wd b % 32).toNat) (by omega)
  have h0:(0:Int)< 2 ^ (wd b % 32).toNat:=Int.pow_pos (by omega)
  unfold WW at hw;generalize (2:Int) ^ (wd b % 32).toNat=p at*;have q0:0≤wd a*p:=Int.mul_nonneg hw.1 (by omega)
  have q1:wd a*p≤4294967295*2147483648:=Int.mul_le_mul hw.2 h1 (by omega) (by omega)
  rw [Qx (by omega) (by omega)]
theorem Qmn (x):F_ey x=some ((shW x.1 x.2.1 x.2.2.1,()),()):=QnA x.1 x.2.1 x.2.2.1
def aluW (op a b:Int):Int:=
 if op=1 then addW a b else if op=2 then wd (wd a-wd b) else if op=3 then mulW a b else if op=4 then divW a b else if op=5 then remW a b
 else if op=6 then bitW 1 a b else if op=7 then bitW 2 a b else if op=8 then bitW 3 a b else if op=9 then shW a b true else if op=10 then shW a b false
 else if sg a< sg b then 1 else 0
theorem Qrf (op a b:Int):WW (aluW op a b):=by
 unfold aluW;have hd:WW (divW a b):=by unfold divW; split; unfold WW; omega; exact Qah _
 have hr:WW (remW a b):=by unfold remW; split <;> exact Qah _
 repeat' split
 all_goals first | exact QkE _ _ | exact Qah _ | exact hd | exact hr | exact Qrl _ _ _ | exact Qud _ _ _ | (unfold WW; omega)
theorem Qsn (op a b:Int):F_bo (op,a,b,())=some ((aluW op a b,()),()):=by
 unfold F_bo aluW;simp only [QpG,QpN,QpM,QpQ,QmH,QdY,Obn,QdG,QeC];by_cases h1:op=1
 ·subst h1; rfl
 rw [if_neg (by simpa using h1),if_neg h1]
 by_cases h2:op=2
 ·subst h2; rfl
 rw [if_neg (by simpa using h2),if_neg h2]
 by_cases h3:op=3
 ·subst h3; rfl
 rw [if_neg (by simpa using h3),if_neg h3]
 by_cases h4:op=4
 ·subst h4; rfl
 rw [if_neg (by simpa using h4),if_neg h4]
 by_cases h5:op=5
 ·subst h5; rfl
 rw [if_neg (by simpa using h5),if_neg h5]
 by_cases h6:op=6
 ·subst h6;rw [if_pos (by decide),if_pos rfl,show IntKind.i64.wrap (IntKind.i64.wrap ((6:Int)-6)+1)=1 from by decide+kernel,QhY 1 a b (by omega)]; rfl
 rw [if_neg (by simpa using h6),if_neg h6]
 by_cases h7:op=7
 ·subst h7;rw [if_pos (by decide),if_pos rfl,show IntKind.i64.wrap (IntKind.i64.wrap ((7:Int)-6)+1)=2 from by decide+kernel,QhY 2 a b (by omega)]; rfl
 rw [if_neg (by simpa using h7),if_neg h7]
 by_cases h8:op=8
 ·subst h8;rw [if_pos (by decide),if_pos rfl,show IntKind.i64.wrap (IntKind.i64.wrap ((8:Int)-6)+1)=3 from by decide+kernel,QhY 3 a b (by omega)]; rfl
 rw [if_neg (by simpa using h8),if_neg h8]
 by_cases h9:op=9
 ·subst h9; rfl
 rw [if_neg (by simpa using h9),if_neg h9]
 by_cases h10:op=10
 ·subst h10; rfl
 rw [if_neg (by simpa using h10),if_neg h10]
 by_cases h:sg a< sg b
 ·rw [if_pos (QC.2 h),if_pos h]
 ·rw [if_neg (by rw [QC]; exact h),if_neg h]
theorem QrC (op a b:Int) (ha:WW a) (hb:WW b) (h:1≤op∧op≤11):F_ez (op,a,b,())=some (((0,aluW op a b,()),()),()):=by
 unfold F_ez aluW;simp only [Qbw,Obn,Qge ha,Qge hb,QoU,Qpa,QoY,Qpc,Qmn,QdT];by_cases h1:op=1
 ·subst h1; rfl
 rw [if_neg (by simpa using h1),if_neg h1]
 by_cases h2:op=2
 ·subst h2;unfold WW at ha hb;rw [if_pos (by decide),if_pos rfl,Qx (by omega) (by omega)]
 rw [if_neg (by simpa using h2),if_neg h2]
 by_cases h3:op=3
 ·subst h3; rfl
 rw [if_neg (by simpa using h3),if_neg h3]
 by_cases h4:op=4
 ·subst h4; rfl
 rw [if_neg (by simpa using h4),if_neg h4]
 by_cases h5:op=5
 ·subst h5; rfl
 rw [if_neg (by simpa using h5),if_neg h5]
 by_cases h6:op=6
 ·subst h6;rw [if_pos (by decide),if_pos rfl,show IntKind.i64.wrap (IntKind.i64.wrap ((6:Int)-6)+1)=1 from by decide+kernel,QhJ 1 a b (by omega)]; rfl
 rw [if_neg (by simpa using h6),if_neg h6]
 by_cases h7:op=7
 ·subst h7;rw [if_pos (by decide),if_pos rfl,show IntKind.i64.wrap (IntKind.i64.wrap ((7:Int)-6)+1)=2 from by decide+kernel,QhJ 2 a b (by omega)]; rfl
 rw [if_neg (by simpa using h7),if_neg h7]
 by_cases h8:op=8
 ·subst h8;rw [if_pos (by decide),if_pos rfl,show IntKind.i64.wrap (IntKind.i64.wrap ((8:Int)-6)+1)=3 from by decide+kernel,QhJ 3 a b (by omega)]; rfl
 rw [if_neg (by simpa using h8),if_neg h8]
 by_cases h9:op=9
 ·subst h9; rfl
 rw [if_neg (by simpa using h9),if_neg h9]
 by_cases h10:op=10
 ·subst h10; rfl
 rw [if_neg (by simpa using h10),if_neg h10,if_pos (by simpa using (show op=11 by omega))]
 by_cases h:sg a< sg b
 ·rw [if_pos (QC.2 h),if_pos h]
 ·rw [if_neg (by rw [QC]; exact h),if_neg h]
structure OkC (cs:List Int):Prop where
 len:cs.length=11
 words: ∀w∈cs,WW w
 st:cs.getD 0 0≤3
 msk:cs.getD 7 0≤7
 tb:cs.getD 10 0≤8
 pd:cs.getD 6 0=0
 tm:cs.getD 8 0=0
structure OkR (r:List Int):Prop where
 len:r.length=16
 words: ∀w∈r,WW w
 zero:r.getD 0 0=0
structure OkQ (q:List Int):Prop where
 len:q.length≤40
 words: ∀w∈q,WW w
structure OkL (l:List TwoD) (m:List Int):Prop where
 len:l.length=8
 pgs: ∀p∈l,(-1≤p.1∧p.1≤23)∧(0≤p.2.1∧p.2.1≤7)∧8*p.1+8≤(m.length:Int)
 words: ∀w∈m,WW w
 mlen:m.length≤192
theorem Qaz {α:Type} {l:List α} {k:Nat} {d:α} (h:k< l.length):l.getD k d∈l:=by
 rw [List.getD_eq_getElem?_getD,List.getElem?_eq_getElem h]; exact List.getElem_mem h
theorem Qct {α:Type} {l:List α} {k:Nat} (d:α) (h:k< l.length):l[k]?=some (l.getD k d):=by
 rw [List.getD_eq_getElem?_getD,List.getElem?_eq_getElem h]; rfl
theorem Qr {α γ:Type} {l:List α} {i:Int} (d:α) (h:i.toNat< l.length) (K:α→Option γ):(l[i.toNat]?).bind K=K (l.getD i.toNat d):=by
 rw [Qct d h]; rfl
theorem OkC.w {cs:List Int} (h:OkC cs) {k:Nat} (hk:k< 11):WW (cs.getD k 0):=h.words _ (Qaz (by rw [h.len]; exact hk))
theorem OkR.w {cs:List Int} (h:OkR cs) {k:Nat} (hk:k< 16):WW (cs.getD k 0):=h.words _ (Qaz (by rw [h.len]; exact hk))
def Qdz (cs:List Int) (ru:Bool) (dn:Int) (iq:List Int):Int:=
 (if cs.getD 9 0≠0∧cs.getD 9 0≤dn then 1 else 0)+(if ru=true then 2 else 0)+(if 0< iq.length then 4 else 0)
theorem Qhk (cs:List Int) (ru:Bool) (dn:Int) (iq:List Int):0≤Qdz cs ru dn iq∧Qdz cs ru dn iq≤7:=by
 unfold Qdz; repeat' split
 all_goals omega
section
variable {r cs iq oq:List Int} {pc dn:Int} {ha wa ru:Bool}
theorem QeN (hc:OkC cs):F_an ((r,pc,cs,ha,wa,ru,dn,iq,oq,()),())=some ((Qdz cs ru dn iq,()),()):=by
 unfold F_an Qdz;dsimp only
 have e3:ltI 0 ((iq.length:Nat):Int)=decide (0< iq.length):=by
  have:=ltN (a:=0) (b:=iq.length);simpa using this
 rw [Qr 0 (by rw [hc.len]; decide)]
 simp only [e3,show ((9:Int)).toNat=9 from rfl,Qct (l:=cs) (k:=9) 0 (by rw [hc.len]; decide),Obn]
 generalize cs.getD 9 0=a;by_cases h1:a=0
 ·cases ru <;> by_cases h3:0< iq.length <;> simp [h1,h3]
 ·by_cases h2:a≤dn <;> cases ru <;> by_cases h3:0< iq.length <;> simp [h1,h2,h3,Qap]
theorem QeE (hc:OkC cs):F_du ((r,pc,cs,ha,wa,ru,dn,iq,oq,()),())=some ((Qdz cs ru dn iq,()),()):=by
 have o1:ior .i64 0 1=1:=by decide+kernel
 have o2:ior .i64 1 2=3:=by decide+kernel
 have o3:ior .i64 3 4=7:=by decide+kernel
 have o4:ior .i64 1 4=5:=by decide+kernel
 have o5:ior .i64 0 2=2:=by decide+kernel
 have o6:ior .i64 2 4=6:=by decide+kernel
 have o7:ior .i64 0 4=4:=by decide+kernel
 unfold F_du Qdz;dsimp only
 have e3:ltI 0 ((iq.length:Nat):Int)=decide (0< iq.length):=by
  have:=ltN (a:=0) (b:=iq.length);simpa using this
 rw [Qr 0 (by rw [hc.len]; decide)]
 simp only [e3,show ((9:Int)).toNat=9 from rfl,Qct (l:=cs) (k:=9) 0 (by rw [hc.len]; decide),Obn,o1,o2,o3,o4,o5,o6,o7]
 generalize cs.getD 9 0=a;by_cases h1:a=0
 ·cases ru <;> by_cases h3:0< iq.length <;> simp [h1,h3]
 ·by_cases h2:a≤dn <;> cases ru <;> by_cases h3:0< iq.length <;> simp [h1,h2,h3,Qap]
def lowB (v:Int):Int:=if v % 2=1 then 0 else if v / 2 % 2=1 then 1 else if v / 4 % 2=1 then 2 else -1
def dueM (cs:List Int) (ru:Bool) (dn:Int) (iq:List Int):Int:=if cs.getD 0 0 % 2=0 then -1 else lowB (iand .i64 (Qdz cs ru dn iq) (cs.getD 7 0))
theorem Qrg: ∀p:Fin 8, ∀m:Fin 8,0≤iand .i64 ((p.val:Nat):Int) ((m.val:Nat):Int)∧iand .i64 ((p.val:Nat):Int) ((m.val:Nat):Int)≤7:=by decide+kernel
theorem Qqh {p m:Int} (h:0≤p∧p≤7) (h2:0≤m∧m≤7):0≤iand .i64 p m∧iand .i64 p m≤7:=by
 have:=Qrg ⟨p.toNat,by omega⟩ ⟨m.toNat,by omega⟩
 simp only [show ((p.toNat:Nat):Int)=p from by omega,show ((m.toNat:Nat):Int)=m from by omega] at this
 exact this
def lowT (v:Int):Option (denO o_l_4):=if lowB v= -1 then some (.inl ((),((),()))) else some (.inr (.inl ((lowB v,()),((),()))))
theorem low0:L_ao_5 (((0:Int),(0,())),((),()))=lowT 0:=by kernel_rfl
theorem low1:L_ao_5 (((1:Int),(0,())),((),()))=lowT 1:=by kernel_rfl
theorem low2:L_ao_5 (((2:Int),(0,())),((),()))=lowT 2:=by kernel_rfl
theorem low3:L_ao_5 (((3:Int),(0,())),((),()))=lowT 3:=by kernel_rfl
theorem low4:L_ao_5 (((4:Int),(0,())),((),()))=lowT 4:=by kernel_rfl
theorem low5:L_ao_5 (((5:Int),(0,())),((),()))=lowT 5:=by kernel_rfl
theorem low6:L_ao_5 (((6:Int),(0,())),((),()))=lowT 6:=by kernel_rfl
theorem low7:L_ao_5 (((7:Int),(0,())),((),()))=lowT 7:=by kernel_rfl
theorem QuS {v:Int} (h:0≤v∧v≤7):L_ao_5 ((v,(0,())),((),()))=lowT v:=by
 have:v=0∨v=1∨v=2∨v=3∨v=4∨v=5∨v=6∨v=7:=by omega
 rcases this with rfl | rfl | rfl | rfl | rfl | rfl | rfl | rfl
 ·exact low0
 ·exact low1
 ·exact low2
 ·exact low3
 ·exact low4
 ·exact low5
 ·exact low6
 ·exact low7
theorem QuR: ∀v:Fin 8,v.val≠0→tzF (IntKind.u64.wrap ((v.val:Nat):Int))=some (lowB ((v.val:Nat):Int))∧lowB ((v.val:Nat):Int)≠ -1:=by decide+kernel
theorem QuQ (v:Int): -1≤lowB v∧lowB v≤2:=by
 unfold lowB; repeat' split
 all_goals omega
theorem Qsq (hc:OkC cs):F_ao ((r,pc,cs,ha,wa,ru,dn,iq,oq,()),())=some ((dueM cs ru dn iq,()),()):=by
 unfold F_ao dueM;dsimp only;rw [QeN hc,Obn];dsimp only;rw [Qr 0 (by rw [hc.len]; decide),Qr 0 (by rw [hc.len]; decide)]
 have hst:=hc.w (k:=0) (by decide)
 have hmk:=hc.w (k:=7) (by decide)
 have hmk2:=hc.msk;have hb:=Qqh (Qhk cs ru dn iq) ⟨hmk.1,hmk2⟩;simp only [show ((7:Int)).toNat=7 from rfl,show ((0:Int)).toNat=0 from rfl,Int.tmod_eq_emod_of_nonneg hst.1]
 generalize iand .i64 (Qdz cs ru dn iq) (cs.getD 7 0)=v at*;by_cases h:cs.getD 0 0 % 2=0
 ·rw [if_pos (by simpa using h),if_pos h]
 ·rw [if_neg (by simpa using h),if_neg h]
  rw [QuS hb];unfold lowT;by_cases hl:lowB v= -1
  ·rw [if_pos hl,hl]; rfl
  ·rw [if_neg hl]; rfl
theorem QrF (hc:OkC cs):F_dw ((r,pc,cs,ha,wa,ru,dn,iq,oq,()),())=some ((dueM cs ru dn iq,()),()):=by
 unfold F_dw dueM;dsimp only;rw [QeE hc,Obn];dsimp only;rw [Qr 0 (by rw [hc.len]; decide),Qr 0 (by rw [hc.len]; decide)]
 have hst:=hc.w (k:=0) (by decide)
 have hmk:=hc.w (k:=7) (by decide)
 have hmk2:=hc.msk;have hb:=Qqh (Qhk cs ru dn iq) ⟨hmk.1,hmk2⟩;simp only [show ((7:Int)).toNat=7 from rfl,show ((0:Int)).toNat=0 from rfl,Int.tmod_eq_emod_of_nonneg hst.1]
 generalize iand .i64 (Qdz cs ru dn iq) (cs.getD 7 0)=v at*;by_cases h:cs.getD 0 0 % 2=0
 ·rw [if_neg (by simpa using h),if_pos h]
 ·rw [if_pos (by simpa using h),if_neg h]
  by_cases hv:v=0
  ·subst hv; rfl
  ·rw [if_neg (by simpa using hv)]
   have:=QuR ⟨v.toNat,by omega⟩ (by simp only; omega)
   simp only [show ((v.toNat:Nat):Int)=v from by omega] at this
   unfold F_dv;dsimp only;rw [this.1];rfl
def Qgr (cs:List Int) (pc cause tval:Int):List Int:=(((cs.set 2 pc).set 3 cause).set 4 tval).set 0 (cs.getD 0 0 % 2*2)
theorem getD_set_ne {l:List Int} {i j:Nat} {y d:Int} (h:i≠j):(l.set i y).getD j d=l.getD j d:=by
 simp [List.getD_eq_getElem?_getD,List.getElem?_set_ne h]
theorem Qfl {l:List Int} {i:Nat} {y d:Int} (h:i< l.length):(l.set i y).getD i d=y:=by
 simp [List.getD_eq_getElem?_getD,List.getElem?_set_self h]
theorem OkC.set {cs:List Int} (h:OkC cs) {k:Nat} {w:Int} (hw:WW w) (hk:k≠6∧k≠8) (h0:k=0→w≤3) (h7:k=7→w≤7) (h10:k=10→w≤8):OkC (cs.set k w):=by
 by_cases hlt:k< 11
 ·refine ⟨by simp [h.len],fun z hz=>?_,?_,?_,?_,?_,?_⟩
  ·rcases List.mem_or_eq_of_mem_set hz with hz | rfl
   ·exact h.words z hz
   ·exact hw
  ·by_cases e:k=0
   ·subst e; rw [Qfl (by rw [h.len]; decide)]; exact h0 rfl
   ·rw [getD_set_ne e]; exact h.st
  ·by_cases e:k=7
   ·subst e; rw [Qfl (by rw [h.len]; decide)]; exact h7 rfl
   ·rw [getD_set_ne e]; exact h.msk
  ·by_cases e:k=10
   ·subst e; rw [Qfl (by rw [h.len]; decide)]; exact h10 rfl
   ·rw [getD_set_ne e]; exact h.tb
  ·rw [getD_set_ne hk.1]; exact h.pd
  ·rw [getD_set_ne hk.2]; exact h.tm
 ·rw [List.set_eq_of_length_le (by rw [h.len]; omega)]; exact h
theorem Qul (hc:OkC cs) (hp:WW pc) {cause tval:Int} (h1:WW cause) (h2:WW tval):OkC (Qgr cs pc cause tval):=by
 unfold Qgr;have:=hc.w (k:=0) (by decide)
 unfold WW at this
 exact (((hc.set hp (by decide) (fun e=>absurd e (by decide)) (fun e=>absurd e (by decide)) (fun e=>absurd e (by decide))).set h1 (by decide) (fun e=>absurd e (by decide)) (fun e=>absurd e (by decide)) (fun e=>absurd e (by decide))).set h2 (by decide) (fun e=>absurd e (by decide)) (fun e=>absurd e (by decide)) (fun e=>absurd e (by decide))).set
  (by unfold WW; omega) (by decide) (fun _=>by omega) (fun e=>absurd e (by decide)) (fun e=>absurd e (by decide))
theorem QjU (hc:OkC cs) (cause tval:Int):F_ap ((r,pc,cs,ha,wa,ru,dn,iq,oq,()),cause,tval,())=
  some ((),((r,cs.getD 1 0,Qgr cs pc cause tval,ha,false,ru,dn,iq,oq,()),())):=by
 have hst:=hc.w (k:=0) (by decide)
 have hl:=hc.len;have hw:IntKind.i64.wrap (cs.getD 0 0 % 2*2)=cs.getD 0 0 % 2*2:=Qx (by omega) (by omega)
 unfold F_ap Qgr
 simp only [show ((2:Int)).toNat=2 from rfl,show ((3:Int)).toNat=3 from rfl,show ((4:Int)).toNat=4 from rfl,show ((0:Int)).toNat=0 from rfl,show ((1:Int)).toNat=1 from rfl,
  List.length_set,hl,show (0:Int)≤2∧(2:Int)< ((11:Nat):Int) from by decide,show (0:Int)≤3∧(3:Int)< ((11:Nat):Int) from by decide,show (0:Int)≤4∧(4:Int)< ((11:Nat):Int) from by decide,
  show (0:Int)≤0∧(0:Int)< ((11:Nat):Int) from by decide,show (0:Int)≤1∧(1:Int)< ((11:Nat):Int) from by decide,and_self,if_true]
 rw [Qct (l:=cs) (k:=2) 0 (by omega),Obn,Qct (k:=3) 0 (by simp [hl]),Obn,Qct (k:=4) 0 (by simp [hl]),Obn]
 rw [Qct (l:=((cs.set 2 pc).set 3 cause).set 4 tval) (k:=0) 0 (by simp [hl]),Obn,Obn]
 rw [getD_set_ne (by decide),getD_set_ne (by decide),getD_set_ne (by decide),Int.tmod_eq_emod_of_nonneg hst.1,hw]
 rw [Qct (k:=1) 0 (by simp [hl]),Obn]
 rw [getD_set_ne (by decide),getD_set_ne (by decide),getD_set_ne (by decide),getD_set_ne (by decide)]
theorem Qpe (hc:OkC cs) (cause tval:Int):F_dx ((r,pc,cs,ha,wa,ru,dn,iq,oq,()),cause,tval,())=
  some ((),((r,cs.getD 1 0,Qgr cs pc cause tval,ha,false,ru,dn,iq,oq,()),())):=QjU hc cause tval
def QiU (cs:List Int):List Int:=cs.set 0 (2+cs.getD 0 0 / 2)
theorem QsT (hc:OkC cs):OkC (QiU cs):=by
 have:=hc.w (k:=0) (by decide)
 have h3:=hc.st;unfold WW at this;exact hc.set (by unfold WW; omega) (by decide) (fun _=>by omega) (fun e=>absurd e (by decide)) (fun e=>absurd e (by decide))
theorem QjS (hc:OkC cs):F_bi ((r,pc,cs,ha,wa,ru,dn,iq,oq,()),())=some ((),((r,cs.getD 2 0,QiU cs,ha,wa,ru,dn,iq,oq,()),())):=by
 have hst:=hc.w (k:=0) (by decide)
 have hl:=hc.len;unfold WW at hst;unfold F_bi QiU;simp only [show ((2:Int)).toNat=2 from rfl,show ((0:Int)).toNat=0 from rfl,hl,show (0:Int)≤2∧(2:Int)< ((11:Nat):Int) from by decide,show (0:Int)≤0∧(0:Int)< ((11:Nat):Int) from by decide,and_self,if_true]
 rw [Qct (l:=cs) (k:=2) 0 (by omega),Obn,Qct (l:=cs) (k:=0) 0 (by omega),Obn,Obn]
 rw [Int.tdiv_eq_ediv_of_nonneg hst.1,Qx (n:=cs.getD 0 0 / 2) (by omega) (by omega),Qx (by omega) (by omega)]
theorem QoW (hc:OkC cs):F_et ((r,pc,cs,ha,wa,ru,dn,iq,oq,()),())=some ((),((r,cs.getD 2 0,QiU cs,ha,wa,ru,dn,iq,oq,()),())):=QjS hc
def getM (cs:List Int) (ru:Bool) (dn:Int) (iq:List Int) (k:Int):Int:=if k=6 then Qdz cs ru dn iq else if k=8 then dn else cs.getD k.toNat 0
theorem Qss (hc:OkC cs) {k:Int} (hk:0≤k∧k≤10):F_bh ((r,pc,cs,ha,wa,ru,dn,iq,oq,()),k,())=some ((getM cs ru dn iq k,()),()):=by
 unfold F_bh getM;dsimp only;rw [QeN hc,Obn];by_cases h6:k=6
 ·rw [if_pos (by simpa using h6),if_pos h6]
 rw [if_neg (by simpa using h6),if_neg h6]
 by_cases h8:k=8
 ·rw [if_pos (by simpa using h8),if_pos h8]
 rw [if_neg (by simpa using h8),if_neg h8,if_pos hk.1,Qr 0 (by rw [hc.len]; omega)]
theorem QrH (hc:OkC cs) {k:Int} (hk:0≤k∧k≤10):F_es ((r,pc,cs,ha,wa,ru,dn,iq,oq,()),k,())=some ((getM cs ru dn iq k,()),()):=by
 unfold F_es getM;dsimp only;rw [QeE hc,Obn];by_cases h6:k=6
 ·rw [if_pos (by simpa using h6),if_pos h6]
 rw [if_neg (by simpa using h6),if_neg h6]
 by_cases h8:k=8
 ·rw [if_pos (by simpa using h8),if_pos h8]
 rw [if_neg (by simpa using h8),if_neg h8,if_pos hk.1,Qr 0 (by rw [hc.len]; omega)]
theorem Qrz (hc:OkC cs) {k:Int} (hk:0≤k∧k≤10) (hd:0≤dn∧dn≤1000000000):WW (getM cs ru dn iq k):=by
 unfold getM;have:=Qhk cs ru dn iq;split
 ·unfold WW; omega
 ·split
  ·unfold WW; omega
  ·exact hc.w (by omega)
def setC (cs:List Int) (k w:Int):List Int:=
 if k=0 then cs.set 0 (wd w % 4) else if k=7 then cs.set 7 (wd w % 8) else if k=10 then cs.set 10 (if wd w≤8 then wd w else 0) else if k=6∨k=8 then cs else cs.set k.toNat (wd w)
def setR (ru:Bool) (k w:Int):Bool:=if k=6∧2≤wd w % 4 then false else ru
theorem Qvo (hc:OkC cs) {k w:Int} (hk:0≤k∧k≤10):OkC (setC cs k w):=by
 have h:=Qah w;have h':=h;unfold WW at h';unfold setC;split
 ·exact hc.set (by unfold WW; omega) (by decide) (fun _=>by omega) (fun e=>absurd e (by decide)) (fun e=>absurd e (by decide))
 split
 ·exact hc.set (by unfold WW; omega) (by decide) (fun e=>absurd e (by decide)) (fun _=>by omega) (fun e=>absurd e (by decide))
 split
 ·exact hc.set (by split; exact h; unfold WW; omega) (by decide) (fun e=>absurd e (by decide)) (fun e=>absurd e (by decide)) (fun _=>by split <;> omega)
 split
 ·exact hc
 ·exact hc.set h (by omega) (by omega) (by omega) (by omega)
theorem QlD (hc:OkC cs) {k:Int} (hk:0≤k∧k≤10) (w:Int):F_bc ((r,pc,cs,ha,wa,ru,dn,iq,oq,()),k,w,())=
  some ((),((r,pc,setC cs k w,ha,wa,setR ru k w,dn,iq,oq,()),())):=by
 have h:=Qah w;unfold WW at h;have hin:0≤k∧k< ((cs.length:Nat):Int):=by rw [hc.len]; omega
 have e1:cs[k.toNat]?=some (cs.getD k.toNat 0):=Qct 0 (by rw [hc.len]; omega)
 unfold F_bc setC setR;dsimp only;rw [QdD,Obn];dsimp only;generalize wd w=v at*;rw [Int.tmod_eq_emod_of_nonneg h.1,Int.tmod_eq_emod_of_nonneg h.1,e1];by_cases h0:k=0
 ·subst h0; simp [hc.len]
 by_cases h7:k=7
 ·subst h7; simp [hc.len]
 by_cases h10:k=10
 ·subst h10;by_cases h8:v≤8 <;> simp [hc.len,Qap,h8]
 by_cases h6:k=6
 ·subst h6;cases ru <;> by_cases h2:2≤v % 4 <;> simp [h2,Qas,Qap] <;> omega
 by_cases h8:k=8
 ·subst h8; simp
 have hk11:k< 11:=by omega
 simp [h0,h7,h10,h6,h8,hc.len,hk.1,hk11]
theorem QhK (hc:OkC cs) {k:Int} (hk:0≤k∧k≤10) (w:Int):F_eo ((r,pc,cs,ha,wa,ru,dn,iq,oq,()),k,w,())=
  some ((),((r,pc,setC cs k w,ha,wa,setR ru k w,dn,iq,oq,()),())):=by
 have h:=Qah w;unfold WW at h;have hin:0≤k∧k< ((cs.length:Nat):Int):=by rw [hc.len]; omega
 have e1:cs[k.toNat]?=some (cs.getD k.toNat 0):=Qct 0 (by rw [hc.len]; omega)
 unfold F_eo setC setR;dsimp only;rw [QgD,Obn];dsimp only;generalize wd w=v at*;rw [Int.tmod_eq_emod_of_nonneg h.1,Int.tmod_eq_emod_of_nonneg h.1,e1];by_cases h0:k=0
 ·subst h0; simp [hc.len]
 by_cases h7:k=7
 ·subst h7; simp [hc.len]
 by_cases h10:k=10
 ·subst h10;by_cases h8:v≤8 <;> simp [hc.len,Qap,h8]
 by_cases h6:k=6
 ·subst h6;cases ru <;> by_cases h2:2≤v % 4 <;> simp [h2,Qas,Qap] <;> omega
 by_cases h8:k=8
 ·subst h8; simp
 have hk11:k< 11:=by omega
 simp [h0,h7,h10,h6,h8,hc.len,hk.1,hk11]
end
def mayP (p:TwoD) (kind:Int):Bool:=decide (0≤p.1) && !(iand .i64 p.2.1 kind==0)
def Qag (l:List TwoD) (at_ kind:Int):Int:=
 if 0≤at_∧at_≤63 then (if mayP (l.getD (at_ / 8).toNat (-1,0,())) kind=true then (l.getD (at_ / 8).toNat (-1,0,())).1*8+at_ % 8 else -1) else -1
def Qig (kind:Int):Int:=if kind=1 then 7 else if kind=2 then 8 else 9
structure OkP (l:List TwoD):Prop where
 len:l.length=8
 pgs: ∀p∈l, -1≤p.1∧p.1≤23
theorem OkP.at {l:List TwoD} (h:OkP l) {k:Nat} (hk:k< 8): -1≤(l.getD k (-1,0,())).1∧(l.getD k (-1,0,())).1≤23:=h.pgs _ (Qaz (by rw [h.len]; exact hk))
theorem OkL.p {l:List TwoD} {m:List Int} (h:OkL l m):OkP l:=⟨h.len,fun p hp=>(h.pgs p hp).1⟩
theorem Qkl {l:List TwoD} (h:OkP l) (at_ kind:Int): -1≤Qag l at_ kind∧Qag l at_ kind≤191:=by
 unfold Qag;split
 ·have:=h.at (k:=(at_ / 8).toNat) (by omega)
  split
  ·rename_i hm;simp only [mayP,Bool.and_eq_true,decide_eq_true_eq] at hm;omega
  ·omega
 ·omega
theorem QpK (kind:Int):F_av (kind,())=some ((Qig kind,()),()):=by
 unfold F_av Qig;by_cases h1:kind=1
 ·simp [h1]
 ·by_cases h2:kind=2 <;> simp [h1,h2]
theorem QoX {kind:Int} (h:kind=1∨kind=2∨kind=4):F_ee (kind,())=some ((Qig kind,()),()):=by
 rcases h with rfl | rfl | rfl <;> rfl
theorem Qdn (kind:Int):Qig kind≠0:=by
 unfold Qig; repeat' split
 all_goals omega
theorem QgL {l:List TwoD} (h:OkP l) (at_ kind:Int):F_ar (l,at_,kind,())=some ((Qag l at_ kind,()),()):=by
 unfold F_ar Qag;dsimp only;rw [Qcj,Obn];dsimp only;by_cases hin:0≤at_∧at_≤63
 ·rw [if_neg (by simp [hin.1,hin.2]),if_pos hin,Int.tdiv_eq_ediv_of_nonneg hin.1,Qx (by omega) (by omega),if_pos (by omega)]
  rw [Qr ((-1,0,()):TwoD) (by rw [h.len]; omega)]
  have hp:=h.at (k:=(at_ / 8).toNat) (by omega)
  generalize l.getD (at_ / 8).toNat (-1,0,())=p at*;unfold mayP;by_cases h0:0≤p.1
  ·rw [if_pos (Qbb.2 (by omega))]
   by_cases hk:iand .i64 p.2.1 kind=0
   ·rw [if_pos (by simpa using hk),if_neg (by simp [hk])]
   ·rw [if_neg (by simpa using hk),if_pos (by simp [hk,h0]),Int.tmod_eq_emod_of_nonneg hin.1,Qx (n:=p.1*8) (by omega) (by omega),Qx (by omega) (by omega)]
  ·rw [if_neg (by rw [Qbb]; omega),if_neg (by simp [h0])]
 ·rw [if_pos (by simp; omega),if_neg hin]
theorem Qjt {l:List TwoD} (h:OkP l) (at_:Int) {kind:Int} (hkd:kind=1∨kind=2∨kind=4):
  F_ef (l,at_,kind,())=some ((if Qag l at_ kind< 0 then (Qig kind,0,()) else (0,Qag l at_ kind,()),()),()):=by
 unfold F_ef F_ed Qag;dsimp only;rw [Qbo,Obn,Obn,QoX hkd,Obn];dsimp only;by_cases hin:0≤at_∧at_≤63
 ·rw [if_pos (by simp [hin.1,hin.2]),if_pos hin,Int.tdiv_eq_ediv_of_nonneg hin.1,Qx (by omega) (by omega),if_pos (by omega)]
  rw [Qr ((-1,0,()):TwoD) (by rw [h.len]; omega),Qr ((-1,0,()):TwoD) (by rw [h.len]; omega),Qr ((-1,0,()):TwoD) (by rw [h.len]; omega)]
  have hp:=h.at (k:=(at_ / 8).toNat) (by omega)
  have h8:0≤at_ / 8:=by omega
  generalize l.getD (at_ / 8).toNat (-1,0,())=p at*;unfold mayP;by_cases h0:0≤p.1
  ·rw [if_pos (Qbb.2 (by omega)),if_pos h8]
   by_cases hk:iand .i64 p.2.1 kind=0
   ·rw [if_pos (by simpa using hk),if_neg (c:=(decide (0≤p.1) && !(iand .i64 p.2.1 kind==0))=true) (by simp [hk]),if_pos (by decide)]
   ·rw [if_neg (by simpa using hk),if_pos h8,if_pos (c:=(decide (0≤p.1) && !(iand .i64 p.2.1 kind==0))=true) (by simp [hk,h0]),Int.tmod_eq_emod_of_nonneg hin.1,
     Qx (n:=p.1*8) (by omega) (by omega),Qx (by omega) (by omega),if_neg (by omega)]
  ·rw [if_neg (by rw [Qbb]; omega),if_neg (c:=(decide (0≤p.1) && !(iand .i64 p.2.1 kind==0))=true) (by simp [h0]),if_pos (by decide)]
 ·rw [if_neg (by simp; omega),if_neg hin,if_pos (by decide)]
def entM (w:Int):TwoD:=if w % 8≠0∧w / 8< 8 then (w / 8,w % 8,()) else (-1,0,())
theorem Qsr {w:Int} (h:WW w):F_as (w,())=some ((entM w,()),()):=by
 unfold WW at h;unfold F_as entM F_ai;dsimp only;rw [Int.tdiv_eq_ediv_of_nonneg h.1,Int.tmod_eq_emod_of_nonneg h.1,Qx (by omega) (by omega)]
 by_cases h1:w % 8=0
 ·simp [h1]
 ·by_cases h2:w / 8< 8
  ·have: ¬(8:Int)≤w / 8:=by omega
   simp [h1,h2,Qap,this]
  ·have:(8:Int)≤w / 8:=by omega
   simp [h1,h2,Qap,this]
theorem QrG {w:Int} (h:WW w):F_ea (w,())=some ((entM w,()),()):=by
 unfold WW at h;unfold F_ea entM F_dp;dsimp only;rw [Int.tdiv_eq_ediv_of_nonneg h.1,Int.tmod_eq_emod_of_nonneg h.1,Qx (by omega) (by omega)]
 by_cases h1:w % 8=0
 ·simp [h1]
 ·by_cases h2:w / 8< 8
  ·have: ¬(8:Int)≤w / 8:=by omega
   simp [h1,h2,Qap,this]
  ·have:(8:Int)≤w / 8:=by omega
   simp [h1,h2,Qap,this]
theorem QuF {w:Int} (h:WW w): -1≤(entM w).1∧(entM w).1≤7:=by
 unfold WW at h;unfold entM; split
 ·simp only; omega
 ·simp only; omega
theorem QfS {w:Int}:okW w=true↔WW w:=by unfold okW WW; simp
theorem Qar {m:List Int}:allW m=true↔ ∀w∈m,WW w:=by
 unfold allW; rw [List.all_eq_true]; exact ⟨fun h w hw=>QfS.1 (h w hw),fun h w hw=>QfS.2 (h w hw)⟩
theorem Qkb {α:Type} {l:List α} {i:Nat} (h:i< l.length):l.take (i+1)=l.take i++[l[i]]:=by rw [List.take_add_one,List.getElem?_eq_getElem h]; rfl
theorem QiF {ws:List Int} (hl:ws.length=8) (hw: ∀w∈ws,WW w):F_at (ws,())=some (((0,ws.map entM,()),()),()):=by
 have key:=Qfr (step:=l_at_5) (γ:=denO o_at_5) (fun k (s:List TwoD)=>((ws,(),(),((k:Nat):Int),()),((0,[],()),((0,s,()),())),())) 8 (QaU (by omega)) (fun k s=>s=(ws.take k).map entM)
  (fun _ _=>some (.inl (((),(),()),(((0,[],()),((0,ws.map entM,()),())),())))) ?_ 0 [] (by omega) (by simp)
 ·unfold F_at;dsimp only;rw [if_neg (by rw [hl]; decide)]
  show (Qc l_at_5 lots ((ws,(),(),0,()),((0,[],()),((0,[],()),())),())).bind _=_;rw [show ((0:Int))=(((0:Nat):Nat):Int) from rfl] at*
  rw [key];rfl
 ·intro rec i s hi hs ih;unfold l_at_5;dsimp only;by_cases hlt:i< 8
  ·have hlw:i< ws.length:=by omega
   have hin:WW ws[i]:=hw _ (List.getElem_mem hlw);rw [if_pos (lt_t hlw),if_pos nat0,Qn hlw,Qcj,Obn];dsimp only;have hok:(decide (ws[i]≥0) && decide (ws[i]≤4294967295))=true:=QfS.2 hin;rw [if_neg (by rw [hok]; decide),if_pos nat0,Qn hlw,Qsr hin,Obn]
   dsimp only;have hsl:s.length=i:=by rw [hs,List.length_map,List.length_take]; omega
   rw [if_pos (by rw [hsl]; simp; omega),QR (by omega)]
   exact ih _ hlt (by rw [hs,Qkb hlw,List.map_append]; rfl)
  ·have:i=8:=by omega
   subst this;rw [if_neg (by rw [hl]; decide)]
   have:s=ws.map entM:=by rw [hs,List.take_of_length_le (by omega)]
   rw [this]
theorem QiE {ws:List Int} (hl:ws.length=8) (hw: ∀w∈ws,WW w):F_eb (ws,())=some (((0,ws.map entM,()),()),()):=by
 have key:=Qfr (step:=l_eb_7) (γ:=denO o_eb_7) (fun k (s:List TwoD)=>(((),s,ws,8,((k:Nat):Int),()),((0,[],()),()),())) 8 (QaU (by omega)) (fun k s=>s=(ws.take k).map entM)
  (fun _ _=>some (.inl (((),ws.map entM,()),((0,[],()),()),()))) ?_ 0 [] (by omega) (by simp)
 ·unfold F_eb;dsimp only;rw [if_neg (by rw [hl]; decide),QbT _ (by rw [hl,Qcv]; omega),Obn]
  dsimp only;rw [Qar.2 hw,if_neg (by decide),hl]
  show (Qc l_eb_7 lots (((),[],ws,8,0,()),((0,[],()),()),())).bind _=_;rw [show ((0:Int))=(((0:Nat):Nat):Int) from rfl] at*
  rw [key];rfl
 ·intro rec i s hi hs ih;unfold l_eb_7;dsimp only;by_cases hlt:i< 8
  ·have hlw:i< ws.length:=by omega
   have hin:WW ws[i]:=hw _ (List.getElem_mem hlw);rw [if_pos (QC.2 (by omega)),if_pos nat0,Qn hlw,QrG hin,Obn]
   dsimp only;have hsl:s.length=i:=by rw [hs,List.length_map,List.length_take]; omega
   rw [if_pos (by rw [hsl]; simp; omega),QR (by omega)]
   exact ih _ hlt (by rw [hs,Qkb hlw,List.map_append]; rfl)
  ·have:i=8:=by omega
   subst this;rw [if_neg (by decide)]
   have:s=ws.map entM:=by rw [hs,List.take_of_length_le (by omega)]
   rw [this]
def idsM:List TwoD:=[(0,7,()),(1,7,()),(2,7,()),(3,7,()),(4,7,()),(5,7,()),(6,7,()),(7,7,())]
theorem Qvr:L_au_5 ((([]:List TwoD),((0:Int),())),((),()))=some (.inl ((idsM,()),((),()))):=by kernel_rfl
theorem QuM:L_ec_5 (((),(([]:List TwoD),((0:Int),()))),((((0:Int),(([]:List TwoD),())),()),()))=some (.inl (((),(idsM,())),((((0:Int),(([]:List TwoD),())),()),()))):=by kernel_rfl
theorem QuK:OkP idsM:=⟨rfl,by decide⟩
def QbR (cs:List Int) (l:List TwoD) (m:List Int):Option (List TwoD):=
 if cs.getD 10 0=0 then some idsM else if cs.getD 10 0=8 then none
 else if Qag l ((cs.getD 10 0-1)*8) 1< 0 then none else some (((m.drop (Qag l ((cs.getD 10 0-1)*8) 1).toNat).take 8).map entM)
section
variable {r cs iq oq m:List Int} {pc dn ring fall:Int} {ha wa ru:Bool} {l:List TwoD}
theorem OkL.at {l:List TwoD} {m:List Int} (h:OkL l m) {k:Nat} (hk:k< 8):(-1≤(l.getD k (-1,0,())).1∧(l.getD k (-1,0,())).1≤23)∧8*(l.getD k (-1,0,())).1+8≤(m.length:Int):=by
 have:=h.pgs _ (Qaz (l:=l) (k:=k) (d:=(-1,0,())) (by rw [h.len]; exact hk)); exact ⟨this.1,this.2.2⟩
theorem Qkk (h:OkL l m) (at_ kind:Int) (h0:0≤Qag l at_ kind):Qag l at_ kind< (m.length:Int)∧(at_ % 8=0→Qag l at_ kind+8≤(m.length:Int)):=by
 unfold Qag at*;split at h0
 ·have:=h.at (k:=(at_ / 8).toNat) (by omega)
  rename_i hin;rw [if_pos hin];split at h0
  ·rename_i hm;rw [if_pos hm];omega
  ·omega
 ·omega
theorem QgG (h:OkL l m) {f:Int} (h0:0≤f) (h1:f+8≤(m.length:Int)):((m.drop f.toNat).take 8).length=8∧ ∀w∈(m.drop f.toNat).take 8,WW w:=
 ⟨by rw [List.length_take,List.length_drop]; omega,fun w hw=>h.words w (List.mem_of_mem_drop (List.mem_of_mem_take hw))⟩
theorem Qoq (hc:OkC cs) (h:OkL l m):F_au ((l,m,ring,(r,pc,cs,ha,wa,ru,dn,iq,oq,()),fall,()),())=
  some ((match QbR cs l m with | some s=>(s,true,()) | none=>([],false,())),()):=by
 have ht:=hc.w (k:=10) (by decide)
 have ht2:=hc.tb;unfold WW at ht;unfold F_au QbR;dsimp only;rw [Qr 0 (by rw [hc.len]; decide)]
 simp only [show ((10:Int)).toNat=10 from rfl]
 generalize cs.getD 10 0=t at*;by_cases h0:t=0
 ·subst h0;rw [if_pos (by decide),if_pos rfl]
  show (L_au_5 _).bind _=_;rw [Qvr]; rfl
 ·rw [if_neg (by simpa using h0),if_neg h0,Qx (n:=t-1) (by omega) (by omega),Qx (n:=(t-1)*8) (by omega) (by omega),QgL h.p,Obn]
  dsimp only;by_cases h8:t=8
  ·subst h8; rfl
  ·rw [if_pos (by simpa using h8),if_neg h8]
   have hin:=Qkk h ((t-1)*8) 1;have hle:=Qkl h.p ((t-1)*8) 1;generalize Qag l ((t-1)*8) 1=f at*;by_cases hf:f< 0
   ·rw [if_pos (QC.2 hf),if_pos hf]
   ·have h2:=(hin (by omega)).2 (by omega)
    rw [if_neg (by rw [QC]; exact hf),if_neg hf,Qx (by omega) (by omega),if_pos (c:=(0:Int)≤f∧f≤f+8∧f+8≤((m.length:Nat):Int)) ⟨Int.not_lt.1 hf,by omega,h2⟩,show (f+8).toNat-f.toNat=8 by omega]
    have hp:=QgG h (f:=f) (by omega) h2
    rw [QiF hp.1 hp.2]; rfl
theorem QnB (hc:OkC cs) (h:OkL l m):F_ec ((r,pc,cs,ha,wa,ru,dn,iq,oq,()),l,m,())=
  some ((match QbR cs l m with | some s=>(0,s,()) | none=>(7,[],()),()),()):=by
 have ht:=hc.w (k:=10) (by decide)
 have ht2:=hc.tb;unfold WW at ht;unfold F_ec QbR;dsimp only;rw [Qr 0 (by rw [hc.len]; decide)]
 simp only [show ((10:Int)).toNat=10 from rfl]
 generalize cs.getD 10 0=t at*;rw [Qx (n:=t-1) (by omega) (by omega)]
 by_cases h0:t=0
 ·subst h0;rw [if_pos (by decide),if_pos rfl]
  show (L_ec_5 _).bind _=_;rw [QuM]; rfl
 ·have ht1:0≤t-1:=by omega
  rw [if_neg (by rw [QC]; omega),if_neg h0,if_pos ht1]
  have hlen:(t-1).toNat< l.length:=by rw [h.len]; omega
  rw [Qr ((-1,0,()):TwoD) hlen,Qr ((-1,0,()):TwoD) hlen,Qr ((-1,0,()):TwoD) hlen];have hat:=h.at (k:=(t-1).toNat) (by omega)
  have hw:Qag l ((t-1)*8) 1=if mayP (l.getD (t-1).toNat (-1,0,())) 1=true then (l.getD (t-1).toNat (-1,0,())).1*8 else -1:=by
   unfold Qag;rw [if_pos (by omega),show (t-1)*8 / 8=t-1 by omega,show (t-1)*8 % 8=0 by omega,Int.add_zero]
  rw [hw];generalize l.getD (t-1).toNat (-1,0,())=p at*;unfold mayP;by_cases hp0:0≤p.1
  ·rw [if_pos (Qbb.2 (by omega)),if_pos ht1]
   by_cases hk:iand .i64 p.2.1 1=0
   ·rw [if_neg (by simp [hk])]
    by_cases h8:t=8
    ·rw [if_pos h8]
    ·rw [if_neg h8,if_neg (c:=(decide (0≤p.1) && !(iand .i64 p.2.1 1==0))=true) (by simp [hk]),if_pos (by decide)]
   ·rw [if_pos (by simpa using hk)]
    by_cases h8:t=8
    ·subst h8; rfl
    ·have hne: ¬t-1=7:=by omega
     rw [if_neg (by simpa using hne),if_pos ht1,if_neg h8,if_pos (c:=(decide (0≤p.1) && !(iand .i64 p.2.1 1==0))=true) (by simp [hk,hp0]),if_neg (by omega)]
     have hpo:=QfT m p.1.toNat (by omega) h.mlen
     rw [show ((p.1.toNat:Nat):Int)=p.1 by omega] at hpo
     rw [hpo,Obn];dsimp only;rw [show (p.1*8).toNat=8*p.1.toNat by omega]
     have hpw:=QgG h (f:=p.1*8) (by omega) (by omega)
     rw [show (p.1*8).toNat=8*p.1.toNat by omega] at hpw
     rw [QiE hpw.1 hpw.2]; rfl
  ·rw [if_neg (by rw [Qbb]; omega)]
   by_cases h8:t=8
   ·rw [if_pos h8]
   ·rw [if_neg h8,if_neg (c:=(decide (0≤p.1) && !(iand .i64 p.2.1 1==0))=true) (by simp [hp0]),if_pos (by decide)]
theorem QlA (hc:OkC cs) (h:OkL l m) {s:List TwoD} (hs:QbR cs l m=some s):OkP s∧ ∀p∈s,p.1≤7:=by
 have ht:=hc.w (k:=10) (by decide)
 have ht2:=hc.tb;unfold WW at ht;unfold QbR at hs;split at hs
 ·obtain rfl:=Osj hs; exact ⟨QuK,by decide⟩
 ·split at hs
  ·cases hs
  ·split at hs
   ·cases hs
   ·rename_i h8 hf;obtain rfl:=Osj hs;have h2:=(Qkk h ((cs.getD 10 0-1)*8) 1 (by omega)).2 (by omega)
    have hp:=QgG h (f:=Qag l ((cs.getD 10 0-1)*8) 1) (by omega) h2
    have key: ∀p∈List.map entM (((m.drop (Qag l ((cs.getD 10 0-1)*8) 1).toNat).take 8)), -1≤p.1∧p.1≤7:=by
     intro p hpm;obtain ⟨w,hw,rfl⟩:=List.mem_map.1 hpm;exact QuF (hp.2 w hw)
    exact ⟨⟨by rw [List.length_map]; exact hp.1,fun p hm=>⟨(key p hm).1,by have:=(key p hm).2; omega⟩⟩,fun p hm=>(key p hm).2⟩
def Qv (cs:List Int) (l:List TwoD) (m:List Int) (at_ kind:Int):Int×Int:=
 match QbR cs l m with
 | none=>(0,7)
 | some s=>if Qag s at_ kind< 0 then (0,Qig kind) else if Qag s at_ kind / 8=7 then (if kind=4 then (0,9) else (1000+Qag s at_ kind % 8,0))
  else if Qag l (Qag s at_ kind) kind< 0 then (0,Qig kind) else (Qag l (Qag s at_ kind) kind,0)
theorem QbV (hc:OkC cs) (h:OkL l m) (at_:Int) (kind:Int) (h0:(Qv cs l m at_ kind).2=0):
  (1000≤(Qv cs l m at_ kind).1∧(Qv cs l m at_ kind).1≤1007∧kind≠4)∨(0≤(Qv cs l m at_ kind).1∧(Qv cs l m at_ kind).1< (m.length:Int)):=by
 unfold Qv at*;cases hs:QbR cs l m with
 | none=>rw [hs] at h0; simp at h0
 | some s=>
  rw [hs] at h0;simp only at h0⊢;split at h0
  ·exact absurd h0 (Qdn kind)
  ·rename_i h1;rw [if_neg h1];split at h0
   ·rename_i h7;rw [if_pos h7];split at h0
    ·simp at h0
    ·rename_i h4;rw [if_neg h4];left;simp only;omega
   ·rename_i h7;rw [if_neg h7];split at h0
    ·exact absurd h0 (Qdn kind)
    ·rename_i h2;rw [if_neg h2];right;exact ⟨by simp only; omega,(Qkk h _ _ (by omega)).1⟩
theorem QfE (hc:OkC cs) (h:OkL l m) (at_ kind:Int):F_aw ((l,m,ring,(r,pc,cs,ha,wa,ru,dn,iq,oq,()),fall,()),at_,kind,())=
  some (((Qv cs l m at_ kind).1,(Qv cs l m at_ kind).2,()),()):=by
 unfold F_aw Qv;dsimp only;rw [Qoq hc h,Obn];cases hs:QbR cs l m with
 | none=>rfl
 | some s=>
  have hp:=(QlA hc h hs).1;dsimp only;rw [if_neg (by decide),QgL hp,Obn,QpK,Obn]
  dsimp only;have hle:=Qkl hp at_ kind;generalize Qag s at_ kind=g at*;by_cases hg:g< 0
  ·rw [if_pos (QC.2 hg),if_pos hg]
  ·rw [if_neg (by rw [QC]; exact hg),if_neg hg,Int.tdiv_eq_ediv_of_nonneg (by omega),Int.tmod_eq_emod_of_nonneg (by omega),Qx (n:=g / 8) (by omega) (by omega)]
   by_cases h7:g / 8=7
   ·rw [if_pos (by simpa using h7),if_pos h7]
    by_cases h4:kind=4
    ·rw [if_pos (by simpa using h4),if_pos h4]
    ·rw [if_neg (by simpa using h4),if_neg h4,Qx (by omega) (by omega)]
   ·rw [if_neg (by simpa using h7),if_neg h7,QgL h.p,Obn]
    dsimp only;by_cases hf:Qag l g kind< 0
    ·rw [if_pos (QC.2 hf),if_pos hf]
    ·rw [if_neg (by rw [QC]; exact hf),if_neg hf]
theorem Qfp (hc:OkC cs) (h:OkL l m) (at_:Int) {kind:Int} (hk:kind=1∨kind=2∨kind=4):F_eg ((r,pc,cs,ha,wa,ru,dn,iq,oq,()),l,m,at_,kind,())=
  some ((((Qv cs l m at_ kind).2,(Qv cs l m at_ kind).1,()),()),()):=by
 unfold F_eg Qv;dsimp only;rw [QnB hc h,Obn];cases hs:QbR cs l m with
 | none=>rfl
 | some s=>
  have hp:=(QlA hc h hs).1;dsimp only;rw [if_neg (by decide),Qjt hp _ hk,Obn]
  dsimp only;have hle:=Qkl hp at_ kind;have hcn:=Qdn kind;generalize Qag s at_ kind=g at*;by_cases hg:g< 0
  ·rw [if_pos hg]; dsimp only; rw [if_pos (by simpa using hcn),if_pos hg]
  ·rw [if_neg hg]; dsimp only;rw [if_neg (by decide),if_neg hg,Int.tdiv_eq_ediv_of_nonneg (by omega),Int.tmod_eq_emod_of_nonneg (by omega),Qx (n:=g / 8) (by omega) (by omega)]
   by_cases h7:g / 8=7
   ·rw [if_neg (by simpa using h7),if_pos h7]
    by_cases h4:kind=4
    ·rw [if_pos (by simpa using h4),if_pos h4]
    ·rw [if_neg (by simpa using h4),if_neg h4,Qx (by omega) (by omega)]
   ·rw [if_pos (by simpa using h7),if_neg h7,Qjt h.p _ hk,Obn]
    by_cases hf:Qag l g kind< 0
    ·rw [if_pos hf,if_pos hf]
    ·rw [if_neg hf,if_neg hf]
theorem QcV {q:List Int} (h:q.length≤1048576):F_dg (q,())=some ((q,()),()):=by
 unfold F_dg;dsimp only;rw [if_pos (by simp; omega)]
 rfl
def QfA (cs:List Int) (ru:Bool) (dn:Int) (iq:List Int) (k:Int):Int×List Int:=
 if k=1 then (iq.getD 0 0,iq.drop 1) else if k=2 then (dn,iq) else if k=3 then (cs.getD 9 0,iq) else if k=4 then (Qdz cs ru dn iq,iq) else if k=6 then ((iq.length:Int),iq) else (0,iq)
theorem QpP (hc:OkC cs) (hq:OkQ iq) (k:Int):F_bb ((r,pc,cs,ha,wa,ru,dn,iq,oq,()),k,())=
  some (((QfA cs ru dn iq k).1,()),((r,pc,cs,ha,wa,ru,dn,(QfA cs ru dn iq k).2,oq,()),())):=by
 unfold F_bb QfA;dsimp only;rw [QeN hc,Obn];by_cases h1:k=1
 ·subst h1;rw [if_pos (by decide),if_pos rfl]
  cases iq with
  | nil=>rfl
  | cons w t=>
   rw [if_neg (by simp; omega)]
   simp only [show ((0:Int)).toNat=0 from rfl,show ((1:Int)).toNat=1 from rfl,List.getElem?_cons_zero,Obn]
   rw [if_pos (by simp; omega)]
   simp
 rw [if_neg (by simpa using h1),if_neg h1]
 by_cases h2:k=2
 ·subst h2; rfl
 rw [if_neg (by simpa using h2),if_neg h2]
 by_cases h3:k=3
 ·subst h3;rw [if_pos (by decide),if_pos rfl,if_pos (by rw [hc.len]; decide),Qr 0 (by rw [hc.len]; decide)]; rfl
 rw [if_neg (by simpa using h3),if_neg h3]
 by_cases h4:k=4
 ·subst h4; rfl
 rw [if_neg (by simpa using h4),if_neg h4]
 by_cases h6:k=6
 ·subst h6; rfl
 rw [if_neg (by simpa using h6),if_neg h6]
theorem Qpb (hc:OkC cs) (hq:OkQ iq) (k:Int):F_em ((r,pc,cs,ha,wa,ru,dn,iq,oq,()),k,())=
  some (((QfA cs ru dn iq k).1,()),((r,pc,cs,ha,wa,ru,dn,(QfA cs ru dn iq k).2,oq,()),())):=by
 unfold F_em QfA;dsimp only;rw [QeE hc,Obn];have hl:=hq.len;by_cases h1:k=1
 ·subst h1;rw [if_pos (by decide),if_pos rfl]
  cases iq with
  | nil=>rfl
  | cons w t=>
   have hlt:ltI 0 (((w::t).length:Nat):Int)=true:=QC.2 (by simp only [List.length_cons]; omega)
   rw [if_pos hlt,if_pos (by simp only [List.length_cons]; omega)]
   simp only [show ((0:Int)).toNat=0 from rfl,show ((1:Int)).toNat=1 from rfl,List.getElem?_cons_zero,Obn]
   rw [if_pos (by simp only [List.length_cons]; omega)]
   have e:((w::t).drop 1).take ((((w::t).length:Nat):Int).toNat-1)=t:=by simp
   rw [e,QcV (by simp at hl; omega),Obn]
   rfl
 rw [if_neg (by simpa using h1),if_neg h1]
 by_cases h2:k=2
 ·subst h2; rfl
 rw [if_neg (by simpa using h2),if_neg h2]
 by_cases h3:k=3
 ·subst h3;rw [if_pos (by decide),if_pos rfl,if_pos (by rw [hc.len]; decide),Qr 0 (by rw [hc.len]; decide)]; rfl
 rw [if_neg (by simpa using h3),if_neg h3]
 by_cases h4:k=4
 ·subst h4; rfl
 rw [if_neg (by simpa using h4),if_neg h4]
 by_cases h6:k=6
 ·subst h6; rfl
 rw [if_neg (by simpa using h6),if_neg h6]
theorem QtZ (hc:OkC cs) (hq:OkQ iq) (hd:0≤dn∧dn≤1000000000) (k:Int):WW (QfA cs ru dn iq k).1∧OkQ (QfA cs ru dn iq k).2:=by
 have hp:=Qhk cs ru dn iq;have hl:=hq.len;have h9:=hc.w (k:=9) (by decide)
 unfold QfA
 repeat' split
 ·refine ⟨?_,⟨by simp only [List.length_drop]; omega,fun w hw=>hq.words w (List.mem_of_mem_drop hw)⟩⟩
  cases iq with
  | nil=>unfold WW; simp
  | cons w t=>exact hq.words w (by simp)
 all_goals refine ⟨?_,hq⟩
 ·unfold WW; simp only; omega
 ·exact h9
 ·unfold WW; simp only; omega
 ·unfold WW; simp only; omega
 ·unfold WW; simp
def Qix (k w:Int):Int:=if k=5 then wd w else -1
def wrC (cs:List Int) (k w:Int):List Int:=if k=3 then cs.set 9 (wd w) else cs
def wrR (ru:Bool) (k w:Int):Bool:=if k=4 then setR ru 6 (wd w) else ru
def wrO (oq:List Int) (k w:Int):List Int:=if k=0∧oq.length< 40 then oq++[wd w] else oq
theorem QvJ (w:Int):setC cs 6 w=cs:=by unfold setC; simp
theorem QwG (w:Int):setC cs 9 w=cs.set 9 (wd w):=by unfold setC; simp
theorem QwH (w:Int):setR ru 9 w=ru:=by unfold setR; simp
theorem Qou (hc:OkC cs) (hq:OkQ oq) (k w:Int):F_bd ((r,pc,cs,ha,wa,ru,dn,iq,oq,()),k,w,())=
  some ((Qix k w,()),((r,pc,wrC cs k w,ha,wa,wrR ru k w,dn,iq,wrO oq k w,()),())):=by
 unfold F_bd Qix wrC wrR wrO;dsimp only;rw [QdD,Obn,QlD hc (by omega),Obn,QvJ]
 dsimp only;have hl:=hq.len;by_cases h0:k=0
 ·subst h0;by_cases h40:oq.length< 40
  ·have:ltI ((oq.length:Nat):Int) 40=true:=QC.2 (by omega)
   rw [if_pos (by decide),if_pos this,if_pos (by simp; omega),if_neg (by decide),if_neg (by decide),if_neg (by decide),if_pos ⟨rfl,h40⟩]
  ·have: ¬ltI ((oq.length:Nat):Int) 40=true:=by rw [QC]; omega
   rw [if_pos (by decide),if_neg this,if_neg (by decide),if_neg (by decide),if_neg (by decide),if_neg (by omega)]
 rw [if_neg (by simpa using h0),if_neg (c:=k=0∧oq.length< 40) (by omega)]
 by_cases h3:k=3
 ·subst h3;rw [if_pos (by decide),if_pos (by rw [hc.len]; decide),Qr 0 (by rw [hc.len]; decide)]; rfl
 rw [if_neg (by simpa using h3),if_neg h3]
 by_cases h4:k=4
 ·subst h4; rfl
 rw [if_neg (by simpa using h4),if_neg h4]
 by_cases h5:k=5
 ·subst h5; rfl
 rw [if_neg (by simpa using h5),if_neg h5]
theorem QnH (hc:OkC cs) (hq:OkQ oq) (k w:Int):F_ep ((r,pc,cs,ha,wa,ru,dn,iq,oq,()),k,w,())=
  some ((Qix k w,()),((r,pc,wrC cs k w,ha,wa,wrR ru k w,dn,iq,wrO oq k w,()),())):=by
 have hl:=hq.len;unfold F_ep Qix wrC wrR wrO;dsimp only;rw [QgD,Obn,QcV (by omega),Obn]
 dsimp only;rw [QhK hc (by omega),Obn,QhK hc (by omega),Obn,QvJ,QwG,QwH,QwJ]
 by_cases h0:k=0
 ·subst h0;by_cases h40:oq.length< 40
  ·have:ltI ((oq.length:Nat):Int) 40=true:=QC.2 (by omega)
   rw [if_pos (by decide),if_pos this,if_pos (by simp; omega),if_neg (by decide),if_neg (by decide),if_neg (by decide),if_pos ⟨rfl,h40⟩]
  ·have: ¬ltI ((oq.length:Nat):Int) 40=true:=by rw [QC]; omega
   rw [if_pos (by decide),if_neg this,if_neg (by decide),if_neg (by decide),if_neg (by decide),if_neg (by omega)]
 rw [if_neg (by simpa using h0),if_neg (c:=k=0∧oq.length< 40) (by omega)]
 by_cases h3:k=3
 ·subst h3; rfl
 rw [if_neg (by simpa using h3),if_neg h3]
 by_cases h4:k=4
 ·subst h4; rfl
 rw [if_neg (by simpa using h4),if_neg h4]
 by_cases h5:k=5
 ·subst h5; rfl
 rw [if_neg (by simpa using h5),if_neg h5]
theorem Qwv (hc:OkC cs) (k w:Int):OkC (wrC cs k w):=by
 unfold wrC; split
 ·exact hc.set (Qah w) (by decide) (fun e=>absurd e (by decide)) (fun e=>absurd e (by decide)) (fun e=>absurd e (by decide))
 ·exact hc
theorem Qww (hq:OkQ oq) (k w:Int):OkQ (wrO oq k w):=by
 unfold wrO; split
 ·rename_i h;refine ⟨by simp; omega,fun z hz=>?_⟩
  rcases List.mem_append.1 hz with hz | hz
  ·exact hq.words z hz
  ·rw [List.mem_singleton.1 hz]; exact Qah w
 ·exact hq
def badI (op d a i:Int):Bool:=
 if op≤11 then decide (15< i) else if op=13∨op=19 then decide (a≠0) else if op=21 then decide (10< i∨a≠0) else if op=22 then decide (10< i∨d≠0)
 else if 23≤op then decide (d≠0∨a≠0∨i≠0) else false
def insM (op d a i:Int):Int:=
 if (1≤op∧op≤26)∧(0≤d∧d≤15)∧(0≤a∧a≤15)∧(0≤i∧i≤65535) then (if badI op d a i=true then 1 else 0) else 3
theorem QrI (op d a i:Int):F_eh ((op,d,a,i,()),())=some ((insM op d a i,()),()):=by
 unfold F_eh insM;dsimp only;rw [Qbo,Obn,Qbo,Obn,Qbo,Obn,Qbo,Obn];dsimp only;by_cases h1:1≤op∧op≤26
 ·by_cases h2:0≤d∧d≤15
  ·by_cases h3:0≤a∧a≤15
   ·by_cases h4:0≤i∧i≤65535
    ·rw [if_pos (c:=(1≤op∧op≤26)∧(0≤d∧d≤15)∧(0≤a∧a≤15)∧(0≤i∧i≤65535)) ⟨h1,h2,h3,h4⟩,if_pos (by simp [h1]),if_pos (by simp [h2]),if_pos (by simp [h3]),if_neg (by simp [h4])]
     unfold badI;simp only [Qap,Qas,beq_iff_eq,bne_iff_ne,decide_eq_true_eq,decide_eq_false_iff_not,Bool.not_eq_true,bne_eq_false_iff_eq,ne_eq]
     repeat' split
     all_goals first | rfl | (exfalso; simp_all; done) | (exfalso; simp_all; omega) | (exfalso; omega)
    ·rw [if_neg (c:=(1≤op∧op≤26)∧(0≤d∧d≤15)∧(0≤a∧a≤15)∧(0≤i∧i≤65535)) (by omega),if_pos (by simp [h1]),if_pos (by simp [h2]),if_pos (by simp [h3]),if_pos (by simp; omega)]
   ·rw [if_neg (c:=(1≤op∧op≤26)∧(0≤d∧d≤15)∧(0≤a∧a≤15)∧(0≤i∧i≤65535)) (by omega),if_pos (by simp [h1]),if_pos (by simp [h2]),if_neg (by simp; omega)]
  ·rw [if_neg (c:=(1≤op∧op≤26)∧(0≤d∧d≤15)∧(0≤a∧a≤15)∧(0≤i∧i≤65535)) (by omega),if_pos (by simp [h1]),if_neg (by simp; omega)]
 ·rw [if_neg (c:=(1≤op∧op≤26)∧(0≤d∧d≤15)∧(0≤a∧a≤15)∧(0≤i∧i≤65535)) (by omega),if_neg (by simp; omega)]
def Qnd (op:Int):Bool:=decide (op=22∨23≤op)
def Qnc (op:Int):Bool:=decide (op=13∨op=19∨op=21∨23≤op)
def Qne (op:Int):Bool:=decide (23≤op)
theorem QpH {op:Int} (h:op≤26):F_n (op,())=some ((Qnd op,Qnc op,Qne op,()),()):=by
 have hc:op=13∨op=19∨op=21∨op=22∨op=23∨op=24∨op=25∨op=26∨(¬op=13∧ ¬op=19∧ ¬op=21∧ ¬op=22∧ ¬op=23∧ ¬op=24∧ ¬op=25∧ ¬op=26):=by omega
 rcases hc with rfl | rfl | rfl | rfl | rfl | rfl | rfl | rfl | ⟨n1,n2,n3,n4,n5,n6,n7,n8⟩
 iterate 8 rfl
 have e3: ¬23≤op:=by omega
 unfold F_n Qnd Qnc Qne;simp [n1,n2,n3,n4,n5,n6,n7,n8,e3]
theorem Qst (op d a i:Int):F_q ((op,d,a,i,()),())=some ((insM op d a i,()),()):=by
 unfold F_q insM;dsimp only;rw [Qcj,Obn,Qcj,Obn,Qcj,Obn,Qcj,Obn];dsimp only;by_cases h1:1≤op∧op≤26
 ·by_cases h2:0≤d∧d≤15
  ·by_cases h3:0≤a∧a≤15
   ·by_cases h4:0≤i∧i≤65535
    ·rw [if_pos (c:=(1≤op∧op≤26)∧(0≤d∧d≤15)∧(0≤a∧a≤15)∧(0≤i∧i≤65535)) ⟨h1,h2,h3,h4⟩,if_pos (by simp [h1]),if_pos (by simp [h2]),if_pos (by simp [h3]),if_neg (by simp [h4]),QpH h1.2,Obn]
     unfold badI;dsimp only
     have hb:(Qnd op=true↔(op=22∨23≤op))∧(Qnc op=true↔(op=13∨op=19∨op=21∨23≤op))∧(Qne op=true↔23≤op):=by
      unfold Qnd Qnc Qne; simp
     generalize Qnd op=bd at*;generalize Qnc op=ba at*;generalize Qne op=bi at*;by_cases c1:op≤11
     ·have q1:bd=false:=by rw [Bool.eq_false_iff]; intro e; have:=hb.1.1 e; omega
      have q2:ba=false:=by rw [Bool.eq_false_iff]; intro e; have:=hb.2.1.1 e; omega
      have q3:bi=false:=by rw [Bool.eq_false_iff]; intro e; have:=hb.2.2.1 e; omega
      have n1: ¬op=21:=by omega
      have n2: ¬op=22:=by omega
      by_cases hi:15< i <;> simp [q1,q2,q3,c1,hi,Qap,Qas,n1,n2]
     ·by_cases c2:23≤op
      ·have q1:bd=true:=hb.1.2 (.inr c2);have q2:ba=true:=hb.2.1.2 (.inr (.inr (.inr c2)));have q3:bi=true:=hb.2.2.2 c2;have n1: ¬op=21:=by omega
       have n2: ¬op=22:=by omega
       have n3: ¬op=13:=by omega
       have n4: ¬op=19:=by omega
       by_cases hd:d=0 <;> by_cases ha':a=0 <;> by_cases hi:i=0 <;> simp [q1,q2,q3,c1,c2,hd,ha',hi,Qap,Qas,n1,n2,n3,n4]
      ·have q3:bi=false:=by rw [Bool.eq_false_iff]; intro e; have:=hb.2.2.1 e; omega
       by_cases c3:op=22
       ·have q1:bd=true:=hb.1.2 (.inl c3);have q2:ba=false:=by rw [Bool.eq_false_iff]; intro e; have:=hb.2.1.1 e; omega
        subst c3;by_cases hd:d=0 <;> by_cases hi:10< i <;> simp [q1,q2,q3,hd,hi,Qap,Qas]
       ·have q1:bd=false:=by rw [Bool.eq_false_iff]; intro e; have:=hb.1.1 e; omega
        by_cases c4:op=21
        ·have q2:ba=true:=hb.2.1.2 (by omega)
         subst c4;by_cases ha':a=0 <;> by_cases hi:10< i <;> simp [q1,q2,q3,ha',hi,Qap,Qas]
        ·by_cases c5:op=13∨op=19
         ·have q2:ba=true:=hb.2.1.2 (by omega)
          by_cases ha':a=0 <;> simp [q1,q2,q3,ha',c1,c3,c4,c5,Qap,Qas]
         ·have q2:ba=false:=by rw [Bool.eq_false_iff]; intro e; have:=hb.2.1.1 e; omega
          simp [q1,q2,q3,c1,c2,c3,c4,c5,Qap,Qas]
    ·rw [if_neg (c:=(1≤op∧op≤26)∧(0≤d∧d≤15)∧(0≤a∧a≤15)∧(0≤i∧i≤65535)) (by omega),if_pos (by simp [h1]),if_pos (by simp [h2]),if_pos (by simp [h3]),if_pos (by simp; omega)]
   ·rw [if_neg (c:=(1≤op∧op≤26)∧(0≤d∧d≤15)∧(0≤a∧a≤15)∧(0≤i∧i≤65535)) (by omega),if_pos (by simp [h1]),if_pos (by simp [h2]),if_neg (by simp; omega)]
  ·rw [if_neg (c:=(1≤op∧op≤26)∧(0≤d∧d≤15)∧(0≤a∧a≤15)∧(0≤i∧i≤65535)) (by omega),if_pos (by simp [h1]),if_neg (by simp; omega)]
 ·rw [if_neg (c:=(1≤op∧op≤26)∧(0≤d∧d≤15)∧(0≤a∧a≤15)∧(0≤i∧i≤65535)) (by omega),if_neg (by simp; omega)]
abbrev InsW:=Int×Int×Int×Int×Unit
def decM (w:Int):InsW:=(w / 16777216,w / 1048576 % 16,w / 65536 % 16,w % 65536,())
def decF (w:Int):Int:=insM (decM w).1 (decM w).2.1 (decM w).2.2.1 (decM w).2.2.2.1
theorem Qso {w:Int} (h:WW w):F_ax (w,())=some ((decM w,decide (decF w=0),()),()):=by
 unfold F_ax;dsimp only;rw [Qcj,Obn];dsimp only;have hok:(decide (w≥0) && decide (w≤4294967295))=true:=QfS.2 h;rw [if_neg (by rw [hok]; decide),Qqz,Qqz,Qpk,QcG h.1,QcG h.1,QcG h.1,Qst,Obn]
 rfl
theorem QrD {w:Int} (h:WW w):F_ei (w,())=some ((if decF w=0 then (0,decM w,()) else (5,(0,0,0,0,()),()),()),()):=by
 unfold F_ei;dsimp only;rw [Qqz,Qqz,Qpk,QcG h.1,QcG h.1,QcG h.1,QrI,Obn];dsimp only;have e:insM (w / 2 ^ 24) (w / 2 ^ 20 % 16) (w / 2 ^ 16 % 16) (w % 65536)=decF w:=rfl;rw [e];by_cases h0:decF w=0
 ·rw [if_neg (by simpa using h0),if_pos h0]; rfl
 ·rw [if_pos (by simpa using h0),if_neg h0]
theorem QuD {w:Int} (h:decF w=0):(1≤(decM w).1∧(decM w).1≤26)∧(0≤(decM w).2.1∧(decM w).2.1≤15)∧(0≤(decM w).2.2.1∧(decM w).2.2.1≤15)∧(0≤(decM w).2.2.2.1∧(decM w).2.2.2.1≤65535)∧
  ((decM w).1≤11→(decM w).2.2.2.1≤15)∧((decM w).1=21∨(decM w).1=22→(decM w).2.2.2.1≤10):=by
 unfold decF insM at h;generalize decM w=x at*;obtain ⟨op,d,a,i,_⟩:=x;simp only at*;split at h
 ·rename_i hin;split at h
  ·omega
  ·rename_i hb;refine ⟨hin.1,hin.2.1,hin.2.2.1,hin.2.2.2,fun h11=>?_,fun h2=>?_⟩
   ·unfold badI at hb;rw [if_pos h11] at hb;simpa using hb
   ·unfold badI at hb;rw [if_neg (by omega),if_neg (by omega)] at hb
    rcases h2 with h2 | h2
    ·rw [if_pos h2] at hb; simp at hb; omega
    ·rw [if_neg (by omega),if_pos h2] at hb; simp at hb; omega
 ·omega
end
structure Mc where
 r:List Int
 pc:Int
 cs:List Int
 ha:Bool
 wa:Bool
 ru:Bool
 dn:Int
 iq:List Int
 oq:List Int
 m:List Int
 ring:Int
 fall:Int
abbrev BusD:=List TwoD×List Int×Int×List Int×Int×List Int×Bool×Bool×Bool×Int×List Int×List Int×Int×Unit
abbrev Qvy:=List Int×Int×List Int×Bool×Bool×Bool×Int×List Int×List Int×List TwoD×List Int×Int×Int×Unit
def Mc.bus (s:Mc) (l:List TwoD):BusD:=(l,s.m,s.ring,s.r,s.pc,s.cs,s.ha,s.wa,s.ru,s.dn,s.iq,s.oq,s.fall,())
def Mc.core (s:Mc) (l:List TwoD):Qvy:=(s.r,s.pc,s.cs,s.ha,s.wa,s.ru,s.dn,s.iq,s.oq,l,s.m,s.fall,s.ring,())
def Mc.trap (s:Mc) (cause tval:Int):Mc:={ s with pc:=s.cs.getD 1 0,cs:=Qgr s.cs s.pc cause tval,wa:=false,fall:=cause }
structure OkS (s:Mc) (l:List TwoD):Prop where
 r:OkR s.r
 pc:WW s.pc
 c:OkC s.cs
 i:OkQ s.iq
 o:OkQ s.oq
 d:0≤s.dn∧s.dn≤1000000000
 l:OkL l s.m
section
variable {r cs iq oq m:List Int} {pc dn ring fall:Int} {ha wa ru:Bool} {l:List TwoD} {s:Mc}
theorem Qgd (h:OkS s l) {cause tval:Int} (h1:WW cause) (h2:WW tval):OkS (s.trap cause tval) l:=
 ⟨h.r,h.c.w (by decide),Qul h.c h.pc h1 h2,h.i,h.o,h.d,h.l⟩
theorem Qcz (hc:OkC cs) (cause tval:Int):F_aq ((l,m,ring,r,pc,cs,ha,wa,ru,dn,iq,oq,fall,()),cause,tval,())=
  some ((),((l,m,ring,r,cs.getD 1 0,Qgr cs pc cause tval,ha,false,ru,dn,iq,oq,cause,()),())):=by
 unfold F_aq;dsimp only;rw [QjU hc,Obn]
theorem Qcu (hc:OkC cs) (cause tval:Int):F_dy ((r,pc,cs,ha,wa,ru,dn,iq,oq,l,m,fall,ring,()),cause,tval,())=
  some ((),((r,cs.getD 1 0,Qgr cs pc cause tval,ha,false,ru,dn,iq,oq,l,m,cause,ring,()),())):=by
 unfold F_dy;dsimp only;rw [Qpe hc,Obn]
def QdF (op d a:Int):Bool:=if op=16 then decide (d=a) else if op=17 then decide (d≠a) else decide (sg d< sg a)
def exM (s:Mc) (l:List TwoD) (op d a i:Int):Bool×Int×Int×Mc:=
 let next:=addW s.pc 1
 let far:=addW s.pc (off i)
 let rd:=s.r.getD d.toNat 0
 let ra:=s.r.getD a.toNat 0
 let p:=addW ra (off i)
 if op=12 then (true,next,p,s)
 else if op=13 then (true,next,i*65536,s)
 else if op=14 then
  (if (Qv s.cs l s.m p 1).2≠0 then (false,0,0,s.trap 3 p)
   else if 1000≤(Qv s.cs l s.m p 1).1 then (true,next,(QfA s.cs s.ru s.dn s.iq ((Qv s.cs l s.m p 1).1-1000)).1,{ s with iq:=(QfA s.cs s.ru s.dn s.iq ((Qv s.cs l s.m p 1).1-1000)).2 })
   else (true,next,s.m.getD (Qv s.cs l s.m p 1).1.toNat 0,s))
 else if op=15 then
  (if (Qv s.cs l s.m p 2).2≠0 then (false,0,0,s.trap 4 p)
   else if 1000≤(Qv s.cs l s.m p 2).1 then (true,next,0,{ s with ring:=Qix ((Qv s.cs l s.m p 2).1-1000) rd,cs:=wrC s.cs ((Qv s.cs l s.m p 2).1-1000) rd,ru:=wrR s.ru ((Qv s.cs l s.m p 2).1-1000) rd,oq:=wrO s.oq ((Qv s.cs l s.m p 2).1-1000) rd })
   else (true,next,0,{ s with m:=s.m.set (Qv s.cs l s.m p 2).1.toNat rd }))
 else if op=16∨op=17∨op=18 then (true,if QdF op rd ra=true then far else next,0,s)
 else if op=19 then (true,far,next,s)
 else if op=20 then (true,p,next,s)
 else if op=21 then (true,next,getM s.cs s.ru s.dn s.iq i,s)
 else if op=22 then (true,next,0,{ s with cs:=setC s.cs i ra,ru:=setR s.ru i ra })
 else if op=23 then (false,0,0,s.trap 5 0)
 else if op=24 then (true,s.cs.getD 2 0,0,{ s with pc:=s.cs.getD 2 0,cs:=QiU s.cs })
 else if op=25 then (true,next,0,{ s with wa:=true })
 else if op=26 then (true,s.pc,0,{ s with ha:=true })
 else (true,next,aluW op ra (s.r.getD i.toNat 0),s)
def wrD (op:Int):Bool:=decide ((1≤op∧op≤14)∨(19≤op∧op≤21))
def doM (s:Mc) (l:List TwoD) (op d a i:Int):Bool×Mc:=
 let e:=exM s l op d a i
 if e.1=true then (true,{ e.2.2.2 with pc:=e.2.1,r:=if wrD op=true∧0< d then e.2.2.2.r.set d.toNat e.2.2.1 else e.2.2.2.r }) else (false,e.2.2.2)
structure OkI (op d a i:Int):Prop where
 hop:1≤op∧op≤26
 hd:0≤d∧d≤15
 ha:0≤a∧a≤15
 hi:0≤i∧i≤65535
 i11:op≤11→i≤15
 i21:op=21∨op=22→i≤10
theorem Qeq (hr:OkR r) {d:Int} (hd:0≤d∧d≤15) (w:Int):F_ba ((l,m,ring,r,pc,cs,ha,wa,ru,dn,iq,oq,fall,()),d,w,())=
  some ((),((l,m,ring,if 0< d then r.set d.toNat w else r,pc,cs,ha,wa,ru,dn,iq,oq,fall,()),())):=by
 unfold F_ba;dsimp only;by_cases h0:d=0
 ·subst h0; rfl
 ·have hin:0≤d∧d< ((r.length:Nat):Int):=by rw [hr.len]; omega
  rw [if_pos (by simpa using h0),if_pos hin,Qr 0 (by rw [hr.len]; omega),if_pos (c:=0< d) (by omega)]
theorem Qos (hr:OkR r) {op d a i:Int} (hd:0≤d∧d≤15) (hA:0≤a∧a≤15):F_bg ((r,pc,cs,ha,wa,ru,dn,iq,oq,()),(op,d,a,i,()),())=
  some ((QdF op (r.getD d.toNat 0) (r.getD a.toNat 0),()),()):=by
 unfold F_bg QdF;dsimp only;rw [if_pos hd.1,Qr 0 (by rw [hr.len]; omega),if_pos hA.1,Qr 0 (by rw [hr.len]; omega),QeO,Obn,QeO,Obn]
 by_cases h16:op=16
 ·subst h16; rfl
 rw [if_neg (by simpa using h16),if_neg h16]
 by_cases h17:op=17
 ·subst h17;rw [if_pos (by decide),if_pos rfl]
  generalize r.getD d.toNat 0=x;generalize r.getD a.toNat 0=y;by_cases e:x=y <;> simp [e]
 rw [if_neg (by simpa using h17),if_neg h17,Qas]
theorem Qtm {i:Int} (h:0≤i∧i≤65535):IntKind.i64.wrap (i*65536)=i*65536:=Qx (by omega) (by omega)
theorem Qsu (h:OkS s l) {op d a i:Int} (hi:OkI op d a i) (hop:op=14∨op=15) {e:Bool×Int×Int×Mc} (he:exM s l op d a i=e):F_be (s.bus l,(op,d,a,i,()),())=
  some ((e.1,()),(({ e.2.2.2 with r:=if e.1=true∧op=14∧0< d then e.2.2.2.r.set d.toNat e.2.2.1 else e.2.2.2.r }).bus l,())):=by
 obtain ⟨r,pc,cs,ha,wa,ru,dn,iq,oq,m,ring,fall⟩:=s;obtain ⟨hr,hpc,hc,hiq,hoq,hdn,hl⟩:=h;have hd:=hi.hd;have ha':=hi.ha;unfold F_be Mc.bus;unfold exM Mc.trap at he;dsimp only at*;have hda:a.toNat< r.length:=by rw [hr.len]; omega
 have hdd:d.toNat< r.length:=by rw [hr.len]; omega
 have hia:0≤a∧a< ((r.length:Nat):Int):=by rw [hr.len]; omega
 have hid:0≤d∧d< ((r.length:Nat):Int):=by rw [hr.len]; omega
 rw [if_pos hia,Qr 0 hda,QlB,Obn];dsimp only;rw [Qdh,Obn];dsimp only;rcases hop with rfl | rfl
 ·rw [if_neg (by decide),if_neg (by decide),if_pos rfl] at he
  rw [if_neg (by decide),QfE hc hl,Obn]
  dsimp only;have hin:=QbV hc hl (addW (r.getD a.toNat 0) (off i)) 1;generalize Qv cs l m (addW (r.getD a.toNat 0) (off i)) 1=q at*;by_cases h0:q.2=0
  ·rw [if_neg (by simpa using h0)] at he
   rw [if_neg (by simpa using h0),if_pos (by decide)]
   by_cases hq:1000≤q.1
   ·have hle:q.1≤1007:=by have:=hl.mlen; rcases hin h0 with h | h <;> omega
    rw [if_pos hq] at he;subst he;rw [if_pos (Qba.2 hq),Qx (by omega) (by omega),QpP hc hiq,Obn]
    dsimp only;rw [Qeq hr hd,Obn];simp
   ·have hlt:0≤q.1∧q.1< ((m.length:Nat):Int):=by rcases hin h0 with h | h; omega; exact h
    rw [if_neg hq] at he;subst he;rw [if_neg (by rw [Qba]; exact hq),if_pos (by decide),if_pos hlt,Qr 0 (by omega),Qeq hr hd,Obn]
    simp
  ·rw [if_pos h0] at he;subst he;rw [if_pos (by simpa using h0),Qcz hc,Obn]
   simp
 ·rw [if_neg (by decide),if_neg (by decide),if_neg (by decide),if_pos rfl] at he
  rw [if_pos (by decide),QfE hc hl,Obn]
  dsimp only;have hin:=QbV hc hl (addW (r.getD a.toNat 0) (off i)) 2;generalize Qv cs l m (addW (r.getD a.toNat 0) (off i)) 2=q at*;by_cases h0:q.2=0
  ·rw [if_neg (by simpa using h0)] at he
   rw [if_neg (by simpa using h0),if_neg (by decide),if_neg (by decide)]
   by_cases hq:1000≤q.1
   ·have hle:q.1≤1007:=by have:=hl.mlen; rcases hin h0 with h | h <;> omega
    rw [if_pos hq] at he;subst he;rw [if_pos (Qba.2 hq),Qx (by omega) (by omega),if_pos hid,Qr 0 hdd,Qou hc hoq,Obn]
    simp
   ·have hlt:0≤q.1∧q.1< ((m.length:Nat):Int):=by rcases hin h0 with h | h; omega; exact h
    rw [if_neg hq] at he;subst he;rw [if_neg (by rw [Qba]; exact hq),if_pos hid,Qr 0 hdd,if_pos hlt,Qr 0 (by omega)]
    simp
  ·rw [if_pos h0] at he;subst he;rw [if_pos (by simpa using h0),Qcz hc,Obn]
   simp
end
section
variable {l:List TwoD} {s:Mc}
theorem Qug (h:OkS s l) {op d a i:Int} (hi:OkI op d a i) {e:Bool×Mc} (he:doM s l op d a i=e):F_bp (s.bus l,(op,d,a,i,()),())=some ((e.1,()),(e.2.bus l,())):=by
 have hmem:=Qsu h hi;obtain ⟨r,pc,cs,ha,wa,ru,dn,iq,oq,m,ring,fall⟩:=s;obtain ⟨hr,hpc,hc,hiq,hoq,hdn,hl⟩:=h;have hd:=hi.hd;have ha':=hi.ha;unfold doM at he;unfold F_bp;unfold Mc.bus at hmem⊢;dsimp only at*;have hda:a.toNat< r.length:=by rw [hr.len]; omega
 have hia:0≤a∧a< ((r.length:Nat):Int):=by rw [hr.len]; omega
 rw [Qdh,Obn];dsimp only;rw [QlB,Obn];dsimp only;rw [Qdh,Obn];dsimp only;by_cases h12:op=12
 ·subst h12;rw [show exM ⟨r,pc,cs,ha,wa,ru,dn,iq,oq,m,ring,fall⟩ l 12 d a i=(true,addW pc 1,addW (r.getD a.toNat 0) (off i),⟨r,pc,cs,ha,wa,ru,dn,iq,oq,m,ring,fall⟩) from rfl] at he
  subst he;rw [if_pos (by decide),if_pos hia,Qr 0 hda,Obn]
  dsimp only;rw [Qdh,Obn];dsimp only;rw [Qeq hr hd,Obn];simp [wrD]
 rw [if_neg (by simpa using h12)]
 by_cases h13:op=13
 ·subst h13;rw [show exM ⟨r,pc,cs,ha,wa,ru,dn,iq,oq,m,ring,fall⟩ l 13 d a i=(true,addW pc 1,i*65536,⟨r,pc,cs,ha,wa,ru,dn,iq,oq,m,ring,fall⟩) from rfl] at he
  subst he;rw [if_pos (by decide),Qtm hi.hi,Qeq hr hd,Obn]
  simp [wrD]
 rw [if_neg (by simpa using h13)]
 by_cases h14:op=14
 ·subst h14;rw [if_pos (by decide),hmem (.inl rfl) rfl,Obn]
  generalize hx:exM ⟨r,pc,cs,ha,wa,ru,dn,iq,oq,m,ring,fall⟩ l 14 d a i=x at*
  have hn:x.1=true→x.2.1=addW pc 1:=by
   rw [←hx]; unfold exM; dsimp only;rw [if_neg (by decide),if_neg (by decide),if_pos rfl]
   repeat' split
   all_goals simp
  obtain ⟨b,nx,rs,s1⟩:=x;cases b
  ·subst he; simp
  ·subst he;simp only at hn;simp [wrD,hn]
 rw [if_neg (by simpa using h14)]
 by_cases h15:op=15
 ·subst h15;rw [if_pos (by decide),hmem (.inr rfl) rfl,Obn]
  generalize hx:exM ⟨r,pc,cs,ha,wa,ru,dn,iq,oq,m,ring,fall⟩ l 15 d a i=x at*
  have hn:x.1=true→x.2.1=addW pc 1:=by
   rw [←hx]; unfold exM; dsimp only;rw [if_neg (by decide),if_neg (by decide),if_neg (by decide),if_pos rfl]
   repeat' split
   all_goals simp
  obtain ⟨b,nx,rs,s1⟩:=x;cases b
  ·subst he; simp
  ·subst he;simp only at hn;simp [wrD,hn]
 rw [if_neg (by simpa using h15)]
 have hex:exM ⟨r,pc,cs,ha,wa,ru,dn,iq,oq,m,ring,fall⟩ l op d a i=
   (if op=16∨op=17∨op=18 then (true,if QdF op (r.getD d.toNat 0) (r.getD a.toNat 0)=true then addW pc (off i) else addW pc 1,0,⟨r,pc,cs,ha,wa,ru,dn,iq,oq,m,ring,fall⟩)
   else if op=19 then (true,addW pc (off i),addW pc 1,⟨r,pc,cs,ha,wa,ru,dn,iq,oq,m,ring,fall⟩)
   else if op=20 then (true,addW (r.getD a.toNat 0) (off i),addW pc 1,⟨r,pc,cs,ha,wa,ru,dn,iq,oq,m,ring,fall⟩)
   else if op=21 then (true,addW pc 1,getM cs ru dn iq i,⟨r,pc,cs,ha,wa,ru,dn,iq,oq,m,ring,fall⟩)
   else if op=22 then (true,addW pc 1,0,⟨r,pc,setC cs i (r.getD a.toNat 0),ha,wa,setR ru i (r.getD a.toNat 0),dn,iq,oq,m,ring,fall⟩)
   else if op=23 then (false,0,0,⟨r,cs.getD 1 0,Qgr cs pc 5 0,ha,false,ru,dn,iq,oq,m,ring,5⟩)
   else if op=24 then (true,cs.getD 2 0,0,⟨r,cs.getD 2 0,QiU cs,ha,wa,ru,dn,iq,oq,m,ring,fall⟩)
   else if op=25 then (true,addW pc 1,0,⟨r,pc,cs,ha,true,ru,dn,iq,oq,m,ring,fall⟩)
   else if op=26 then (true,pc,0,⟨r,pc,cs,true,wa,ru,dn,iq,oq,m,ring,fall⟩)
   else (true,addW pc 1,aluW op (r.getD a.toNat 0) (r.getD i.toNat 0),⟨r,pc,cs,ha,wa,ru,dn,iq,oq,m,ring,fall⟩)):=by
  unfold exM Mc.trap;dsimp only;rw [if_neg h12,if_neg h13,if_neg h14,if_neg h15]
 clear hmem;have htk:=fun o=>Qos (pc:=pc) (cs:=cs) (ha:=ha) (wa:=wa) (ru:=ru) (dn:=dn) (iq:=iq) (oq:=oq) hr (op:=o) (i:=i) hd ha'
 have hput:=fun pc cs ha wa ru w=>Qeq (l:=l) (m:=m) (ring:=ring) (pc:=pc) (cs:=cs) (ha:=ha) (wa:=wa) (ru:=ru) (dn:=dn) (iq:=iq) (oq:=oq) (fall:=fall) hr hd w
 by_cases h16:op=16
 ·subst h16;rw [if_pos (.inl rfl)] at hex;rw [hex] at he;subst he;rw [if_pos (by decide),htk,Obn]
  cases QdF 16 (r.getD d.toNat 0) (r.getD a.toNat 0) <;> simp [wrD]
 rw [if_neg (by simpa using h16)]
 by_cases h17:op=17
 ·subst h17;rw [if_pos (.inr (.inl rfl))] at hex;rw [hex] at he;subst he;rw [if_pos (by decide),htk,Obn]
  cases QdF 17 (r.getD d.toNat 0) (r.getD a.toNat 0) <;> simp [wrD]
 rw [if_neg (by simpa using h17)]
 by_cases h18:op=18
 ·subst h18;rw [if_pos (.inr (.inr rfl))] at hex;rw [hex] at he;subst he;rw [if_pos (by decide),htk,Obn]
  cases QdF 18 (r.getD d.toNat 0) (r.getD a.toNat 0) <;> simp [wrD]
 rw [if_neg (by simpa using h18)]
 rw [if_neg (c:=op=16∨op=17∨op=18) (by omega)] at hex
 by_cases h19:op=19
 ·subst h19;rw [if_pos rfl] at hex;rw [hex] at he;subst he;rw [if_pos (by decide),hput,Obn]
  simp [wrD]
 rw [if_neg (by simpa using h19)]
 rw [if_neg h19] at hex;by_cases h20:op=20
 ·subst h20;rw [if_pos rfl] at hex;rw [hex] at he;subst he;rw [if_pos (by decide),if_pos hia,Qr 0 hda,Obn]
  dsimp only;rw [Qdh,Obn];dsimp only;rw [hput,Obn];simp [wrD]
 rw [if_neg (by simpa using h20)]
 rw [if_neg h20] at hex;by_cases h21:op=21
 ·subst h21;rw [if_pos rfl] at hex;rw [hex] at he;subst he;have hi10:=hi.i21 (.inl rfl);have hi0:=hi.hi;rw [if_pos (by decide),Qss hc ⟨hi0.1,hi10⟩,Obn]
  dsimp only;rw [hput,Obn];simp [wrD]
 rw [if_neg (by simpa using h21)]
 rw [if_neg h21] at hex;by_cases h22:op=22
 ·subst h22;rw [if_pos rfl] at hex;rw [hex] at he;subst he;have hi10:=hi.i21 (.inr rfl);have hi0:=hi.hi;rw [if_pos (by decide),if_pos hia,Qr 0 hda,QlD hc ⟨hi0.1,hi10⟩,Obn]
  simp [wrD]
 rw [if_neg (by simpa using h22)]
 rw [if_neg h22] at hex;by_cases h23:op=23
 ·subst h23;rw [if_pos rfl] at hex;rw [hex] at he;subst he;rw [if_pos (by decide),Qcz hc,Obn]
  simp
 rw [if_neg (by simpa using h23)]
 rw [if_neg h23] at hex;by_cases h24:op=24
 ·subst h24;rw [if_pos rfl] at hex;rw [hex] at he;subst he;rw [if_pos (by decide),QjS hc,Obn]
  simp [wrD]
 rw [if_neg (by simpa using h24)]
 rw [if_neg h24] at hex;by_cases h25:op=25
 ·subst h25;rw [if_pos rfl] at hex;rw [hex] at he;subst he;rw [if_pos (by decide)]
  simp [wrD]
 rw [if_neg (by simpa using h25)]
 rw [if_neg h25] at hex;by_cases h26:op=26
 ·subst h26;rw [if_pos rfl] at hex;rw [hex] at he;subst he;rw [if_pos (by decide)]
  simp [wrD]
 rw [if_neg (by simpa using h26)]
 rw [if_neg h26] at hex;have h1:=hi.hop;have h11:op≤11:=by omega
 have hi15:=hi.i11 h11;have hi0:=hi.hi;have hii:0≤i∧i< ((r.length:Nat):Int):=by rw [hr.len]; omega
 have hiN:i.toNat< r.length:=by rw [hr.len]; omega
 rw [hex] at he;subst he;rw [if_pos hia,Qr 0 hda,if_pos hii,Qr 0 hiN,Qsn,Obn];dsimp only;rw [hput,Obn];have hw:wrD op=true:=by unfold wrD; rw [decide_eq_true_eq]; omega
 simp [hw]
theorem QoZ (h:OkS s l) {op d a i:Int} (h14:op=14) {e:Bool×Int×Int×Mc} (he:exM s l op d a i=e):F_en (s.core l,addW (s.r.getD a.toNat 0) (off i),())=
  some ((e.2.2.1,e.1,()),(e.2.2.2.core l,())):=by
 subst h14;obtain ⟨r,pc,cs,ha,wa,ru,dn,iq,oq,m,ring,fall⟩:=s;obtain ⟨hr,hpc,hc,hiq,hoq,hdn,hl⟩:=h;unfold F_en Mc.core;unfold exM Mc.trap at he;dsimp only at*;rw [if_neg (by decide),if_neg (by decide),if_pos rfl] at he
 rw [Qfp hc hl _ (.inl rfl),Obn];dsimp only;have hin:=QbV hc hl (addW (r.getD a.toNat 0) (off i)) 1;generalize Qv cs l m (addW (r.getD a.toNat 0) (off i)) 1=q at*;by_cases h0:q.2=0
 ·rw [if_neg (by simpa using h0)] at he
  rw [if_neg (by simpa using h0)]
  by_cases hq:1000≤q.1
  ·have hle:q.1≤1007:=by have:=hl.mlen; rcases hin h0 with h | h <;> omega
   rw [if_pos hq] at he;subst he;rw [if_pos (Qba.2 hq),Qx (by omega) (by omega),Qpb hc hiq,Obn]
  ·have hlt:0≤q.1∧q.1< ((m.length:Nat):Int):=by rcases hin h0 with h | h; omega; exact h
   rw [if_neg hq] at he;subst he;rw [if_neg (by rw [Qba]; exact hq),if_pos hlt,Qr 0 (by omega)]
 ·rw [if_pos h0] at he;subst he;rw [if_pos (by simpa using h0),Qcu hc,Obn]
theorem QnE (h:OkS s l) {op d a i:Int} (h15:op=15) {e:Bool×Int×Int×Mc} (he:exM s l op d a i=e):F_eq (s.core l,addW (s.r.getD a.toNat 0) (off i),s.r.getD d.toNat 0,())=
  some ((e.1,()),(e.2.2.2.core l,())):=by
 subst h15;obtain ⟨r,pc,cs,ha,wa,ru,dn,iq,oq,m,ring,fall⟩:=s;obtain ⟨hr,hpc,hc,hiq,hoq,hdn,hl⟩:=h;unfold F_eq Mc.core;unfold exM Mc.trap at he;dsimp only at*;rw [if_neg (by decide),if_neg (by decide),if_neg (by decide),if_pos rfl] at he
 rw [Qfp hc hl _ (.inr (.inl rfl)),Obn];dsimp only;have hin:=QbV hc hl (addW (r.getD a.toNat 0) (off i)) 2;generalize Qv cs l m (addW (r.getD a.toNat 0) (off i)) 2=q at*;by_cases h0:q.2=0
 ·rw [if_neg (by simpa using h0)] at he
  rw [if_neg (by simpa using h0)]
  by_cases hq:1000≤q.1
  ·have hle:q.1≤1007:=by have:=hl.mlen; rcases hin h0 with h | h <;> omega
   rw [if_pos hq] at he;subst he;rw [if_pos (Qba.2 hq),Qx (by omega) (by omega),QnH hc hoq,Obn]
  ·have hlt:0≤q.1∧q.1< ((m.length:Nat):Int):=by rcases hin h0 with h | h; omega; exact h
   rw [if_neg hq] at he;subst he;rw [if_neg (by rw [Qba]; exact hq),if_pos hlt,Qr 0 (by omega)]
 ·rw [if_pos h0] at he;subst he;rw [if_pos (by simpa using h0),Qcu hc,Obn]
theorem Qtp (h:OkS s l) {op d a i:Int} (hi:OkI op d a i) {e:Bool×Int×Int×Mc} (he:exM s l op d a i=e):
  ∃nx:Int,(e.1=true→nx=e.2.2.1∨wrD op=false)∧
  L_fb_100000 (((),((),(s.pc,(addW s.pc 1,(addW s.pc (off i),(s.r.getD d.toNat 0,(s.r.getD a.toNat 0,(addW (s.r.getD a.toNat 0) (off i),((0:Int),(op,(op,()))))))))))),(((op,(d,(a,(i,())))),(s.core l,())),()))=
  some (if e.1=true then .inl (((),((),(e.2.1,(nx,())))),(((op,(d,(a,(i,())))),(e.2.2.2.core l,())),())) else .inr (.inl ((false,()),((e.2.2.2.core l,()),())))):=by
 have hld:=fun h14=>QoZ h (op:=op) (d:=d) (a:=a) (i:=i) h14 he
 have hst:=fun h15=>QnE h (op:=op) (d:=d) (a:=a) (i:=i) h15 he
 have hd:=hi.hd;have ha':=hi.ha;unfold L_fb_100000;dsimp only at*;by_cases h12:op=12
 ·subst h12;rw [show exM s l 12 d a i=(true,addW s.pc 1,addW (s.r.getD a.toNat 0) (off i),s) from rfl] at he
  subst he;exact ⟨_,fun _=> .inl rfl,by rw [if_pos (by decide)]; rfl⟩
 rw [if_neg (by simpa using h12)]
 by_cases h13:op=13
 ·subst h13;rw [show exM s l 13 d a i=(true,addW s.pc 1,i*65536,s) from rfl] at he
  subst he;exact ⟨_,fun _=> .inl rfl,by rw [if_pos (by decide),Qtm hi.hi]; rfl⟩
 rw [if_neg (by simpa using h13)]
 by_cases h14:op=14
 ·subst h14
  have hn:e.1=true→e.2.1=addW s.pc 1:=by
   rw [←he]; unfold exM; dsimp only;rw [if_neg (by decide),if_neg (by decide),if_pos rfl]
   repeat' split
   all_goals simp
  refine ⟨e.2.2.1,fun _=> .inl rfl,?_⟩
  rw [if_pos (by decide),hld rfl,Obn]
  obtain ⟨b,nx,rs,s1⟩:=e;cases b
  ·simp
  ·simp only at hn;simp [hn]
 rw [if_neg (by simpa using h14)]
 by_cases h15:op=15
 ·subst h15
  have hn:e.1=true→e.2.1=addW s.pc 1:=by
   rw [←he]; unfold exM; dsimp only;rw [if_neg (by decide),if_neg (by decide),if_neg (by decide),if_pos rfl]
   repeat' split
   all_goals simp
  refine ⟨0,fun _=> .inr rfl,?_⟩
  rw [if_pos (by decide),hst rfl,Obn]
  obtain ⟨b,nx,rs,s1⟩:=e;cases b
  ·simp
  ·simp only at hn;simp [hn]
 rw [if_neg (by simpa using h15)]
 clear hld hst;obtain ⟨r,pc,cs,ha,wa,ru,dn,iq,oq,m,ring,fall⟩:=s;obtain ⟨hr,hpc,hc,hiq,hoq,hdn,hl⟩:=h
 have hex:exM ⟨r,pc,cs,ha,wa,ru,dn,iq,oq,m,ring,fall⟩ l op d a i=
   (if op=16∨op=17∨op=18 then (true,if QdF op (r.getD d.toNat 0) (r.getD a.toNat 0)=true then addW pc (off i) else addW pc 1,0,⟨r,pc,cs,ha,wa,ru,dn,iq,oq,m,ring,fall⟩)
   else if op=19 then (true,addW pc (off i),addW pc 1,⟨r,pc,cs,ha,wa,ru,dn,iq,oq,m,ring,fall⟩)
   else if op=20 then (true,addW (r.getD a.toNat 0) (off i),addW pc 1,⟨r,pc,cs,ha,wa,ru,dn,iq,oq,m,ring,fall⟩)
   else if op=21 then (true,addW pc 1,getM cs ru dn iq i,⟨r,pc,cs,ha,wa,ru,dn,iq,oq,m,ring,fall⟩)
   else if op=22 then (true,addW pc 1,0,⟨r,pc,setC cs i (r.getD a.toNat 0),ha,wa,setR ru i (r.getD a.toNat 0),dn,iq,oq,m,ring,fall⟩)
   else if op=23 then (false,0,0,⟨r,cs.getD 1 0,Qgr cs pc 5 0,ha,false,ru,dn,iq,oq,m,ring,5⟩)
   else if op=24 then (true,cs.getD 2 0,0,⟨r,cs.getD 2 0,QiU cs,ha,wa,ru,dn,iq,oq,m,ring,fall⟩)
   else if op=25 then (true,addW pc 1,0,⟨r,pc,cs,ha,true,ru,dn,iq,oq,m,ring,fall⟩)
   else if op=26 then (true,pc,0,⟨r,pc,cs,true,wa,ru,dn,iq,oq,m,ring,fall⟩)
   else (true,addW pc 1,aluW op (r.getD a.toNat 0) (r.getD i.toNat 0),⟨r,pc,cs,ha,wa,ru,dn,iq,oq,m,ring,fall⟩)):=by
  unfold exM Mc.trap;dsimp only;rw [if_neg h12,if_neg h13,if_neg h14,if_neg h15]
 unfold Mc.core;dsimp only at*;by_cases h16:op=16
 ·subst h16;rw [if_pos (.inl rfl)] at hex;rw [hex] at he;subst he;refine ⟨0,fun _=> .inr rfl,?_⟩
  rw [if_pos (by decide),if_pos (by decide)]
  generalize r.getD d.toNat 0=x;generalize r.getD a.toNat 0=y;unfold QdF;by_cases hxy:x=y <;> simp [hxy]
 rw [if_neg (by simpa using h16)]
 by_cases h17:op=17
 ·subst h17;rw [if_pos (.inr (.inl rfl))] at hex;rw [hex] at he;subst he;refine ⟨0,fun _=> .inr rfl,?_⟩
  rw [if_pos (by decide),if_neg (by decide),if_pos (by decide)]
  generalize r.getD d.toNat 0=x;generalize r.getD a.toNat 0=y;unfold QdF;by_cases hxy:x=y <;> simp [hxy]
 rw [if_neg (by simpa using h17)]
 by_cases h18:op=18
 ·subst h18;rw [if_pos (.inr (.inr rfl))] at hex;rw [hex] at he;subst he;refine ⟨0,fun _=> .inr rfl,?_⟩
  rw [if_pos (by decide),if_neg (by decide),if_neg (by decide),if_pos (by decide),QeF,Obn,QeF,Obn]
  generalize r.getD d.toNat 0=x;generalize r.getD a.toNat 0=y;unfold QdF;by_cases hxy:sg x< sg y <;> simp [hxy,Qas]
 rw [if_neg (by simpa using h18)]
 rw [if_neg (c:=op=16∨op=17∨op=18) (by omega)] at hex
 by_cases h19:op=19
 ·subst h19;rw [if_pos rfl] at hex;rw [hex] at he;subst he;exact ⟨_,fun _=> .inl rfl,by rw [if_pos (by decide)]; rfl⟩
 rw [if_neg (by simpa using h19)]
 rw [if_neg h19] at hex;by_cases h20:op=20
 ·subst h20;rw [if_pos rfl] at hex;rw [hex] at he;subst he;exact ⟨_,fun _=> .inl rfl,by rw [if_pos (by decide)]; rfl⟩
 rw [if_neg (by simpa using h20)]
 rw [if_neg h20] at hex;by_cases h21:op=21
 ·subst h21;rw [if_pos rfl] at hex;rw [hex] at he;subst he;have hi10:=hi.i21 (.inl rfl);have hi0:=hi.hi;exact ⟨_,fun _=> .inl rfl,by rw [if_pos (by decide),QrH hc ⟨hi0.1,hi10⟩,Obn]; rfl⟩
 rw [if_neg (by simpa using h21)]
 rw [if_neg h21] at hex;by_cases h22:op=22
 ·subst h22;rw [if_pos rfl] at hex;rw [hex] at he;subst he;have hi10:=hi.i21 (.inr rfl);have hi0:=hi.hi;exact ⟨0,fun _=> .inr rfl,by rw [if_pos (by decide),QhK hc ⟨hi0.1,hi10⟩,Obn]; rfl⟩
 rw [if_neg (by simpa using h22)]
 rw [if_neg h22] at hex;by_cases h23:op=23
 ·subst h23;rw [if_pos rfl] at hex;rw [hex] at he;subst he;exact ⟨0,fun _=> .inr rfl,by rw [if_pos (by decide),Qcu hc,Obn]; rfl⟩
 rw [if_neg (by simpa using h23)]
 rw [if_neg h23] at hex;by_cases h24:op=24
 ·subst h24;rw [if_pos rfl] at hex;rw [hex] at he;subst he;exact ⟨0,fun _=> .inr rfl,by rw [if_pos (by decide),QoW hc,Obn]; rfl⟩
 rw [if_neg (by simpa using h24)]
 rw [if_neg h24] at hex;by_cases h25:op=25
 ·subst h25;rw [if_pos rfl] at hex;rw [hex] at he;subst he;exact ⟨0,fun _=> .inr rfl,by rw [if_pos (by decide)]; rfl⟩
 rw [if_neg (by simpa using h25)]
 rw [if_neg h25] at hex;by_cases h26:op=26
 ·subst h26;rw [if_pos rfl] at hex;rw [hex] at he;subst he;exact ⟨0,fun _=> .inr rfl,by rw [if_pos (by decide)]; rfl⟩
 rw [if_neg (by simpa using h26)]
 rw [if_neg h26] at hex;have h1:=hi.hop;have h11:op≤11:=by omega
 have hi15:=hi.i11 h11;have hi0:=hi.hi;have hii:0≤i∧i< ((r.length:Nat):Int):=by rw [hr.len]; omega
 have hiN:i.toNat< r.length:=by rw [hr.len]; omega
 rw [hex] at he;subst he;refine ⟨_,fun _=> .inl rfl,?_⟩
 rw [if_pos hii,Qr 0 hiN,QrC op _ _ (hr.w (by omega)) (hr.w (by omega)) ⟨h1.1,h11⟩,Obn]
 rfl
def Qft (s:Mc):Mc:={ s with dn:=if 1000000000< s.dn+1 then 1000000000 else s.dn+1 }
theorem Qtq (op:Int):F_fa (op,())=some ((wrD op,()),()):=by
 unfold F_fa wrD;dsimp only;rw [Qbo,Obn,Qbo,Obn];dsimp only;by_cases h1:1≤op∧op≤14
 ·rw [if_neg (by simp [h1]),decide_eq_true (.inl h1)]
 ·rw [if_pos (by simp; omega)]
  by_cases h2:19≤op∧op≤21
  ·rw [decide_eq_true (p:=(1≤op∧op≤14)∨(19≤op∧op≤21)) (.inr h2)]; simp [h2]
  ·rw [decide_eq_false (p:=(1≤op∧op≤14)∨(19≤op∧op≤21)) (by omega)]; simp; omega
theorem Qh {α:Type} (P:α→Prop) {c:Prop} [Decidable c] {a b:α} (h1:c→P a) (h2: ¬c→P b):P (if c then a else b):=by
 by_cases h:c
 ·rw [if_pos h]; exact h1 h
 ·rw [if_neg h]; exact h2 h
theorem QvC (s:Mc) (l:List TwoD) (op d a i:Int):(exM s l op d a i).2.2.2.r=s.r∧(exM s l op d a i).2.2.2.dn=s.dn:=by
 unfold exM Mc.trap
 let P:Bool×Int×Int×Mc→Prop:=fun x=>x.2.2.2.r=s.r∧x.2.2.2.dn=s.dn
 refine Qh P (fun _=>⟨rfl,rfl⟩) fun _=>Qh P (fun _=>⟨rfl,rfl⟩) fun _=>Qh P (fun _=>Qh P (fun _=>⟨rfl,rfl⟩) fun _=>Qh P (fun _=>⟨rfl,rfl⟩) fun _=>⟨rfl,rfl⟩) fun _=>
  Qh P (fun _=>Qh P (fun _=>⟨rfl,rfl⟩) fun _=>Qh P (fun _=>⟨rfl,rfl⟩) fun _=>⟨rfl,rfl⟩) fun _=>Qh P (fun _=>⟨rfl,rfl⟩) fun _=>Qh P (fun _=>⟨rfl,rfl⟩) fun _=>Qh P (fun _=>⟨rfl,rfl⟩) fun _=>
  Qh P (fun _=>⟨rfl,rfl⟩) fun _=>Qh P (fun _=>⟨rfl,rfl⟩) fun _=>Qh P (fun _=>⟨rfl,rfl⟩) fun _=>Qh P (fun _=>⟨rfl,rfl⟩) fun _=>Qh P (fun _=>⟨rfl,rfl⟩) fun _=>Qh P (fun _=>⟨rfl,rfl⟩) fun _=>⟨rfl,rfl⟩
theorem Qto (h:OkS s l) {op d a i:Int} (hi:OkI op d a i) {e:Bool×Mc} (he:doM s l op d a i=e):F_fb (s.core l,(op,d,a,i,()),())=
  some ((e.1,()),((if e.1=true then (Qft e.2).core l else e.2.core l),())):=by
 have hd:=hi.hd;have ha':=hi.ha;have hr:=h.r;obtain ⟨nx,hnx,hL⟩:=Qtp h hi rfl;have hrr:=QvC s l op d a i;unfold F_fb;dsimp only;have e1:(s.core l).2.1=s.pc:=rfl;have e2:(s.core l).1=s.r:=rfl;rw [e1,e2,QfL,Obn];dsimp only;rw [QrL,Obn];dsimp only;rw [QfL,Obn];dsimp only;have hid:0≤d∧d< ((s.r.length:Nat):Int):=by rw [hr.len]; omega
 have hia:0≤a∧a< ((s.r.length:Nat):Int):=by rw [hr.len]; omega
 rw [if_pos hid,Qr 0 (by rw [hr.len]; omega),if_pos hia,Qr 0 (by rw [hr.len]; omega),Obn]
 dsimp only;rw [QfL,Obn];dsimp only;rw [hL,Obn];unfold doM at he;dsimp only at he;generalize exM s l op d a i=x at*;obtain ⟨b,nxt,rs,s1⟩:=x;cases b
 ·subst he; rfl
 ·simp only [if_true] at he⊢;subst he;simp only at hrr hnx;have hdn:=h.d;have hw:IntKind.i64.wrap (s1.dn+1)=s1.dn+1:=Qx (by rw [hrr.2]; omega) (by rw [hrr.2]; omega)
  unfold Mc.core Qft;dsimp only;rw [Qtq,Obn,hw];dsimp only;have hid2:0≤d∧d< ((s1.r.length:Nat):Int):=by rw [hrr.1,hr.len]; omega
  by_cases hwd:wrD op=true
  ·have hx:nx=rs:=by
    rcases hnx trivial with h | h
    ·exact h
    ·rw [h] at hwd; cases hwd
   subst hx;rw [if_pos hwd];by_cases hd0:0< d
   ·rw [if_pos (QC.2 hd0),if_pos hid2,Qr 0 (by rw [hrr.1,hr.len]; omega),if_pos (c:=wrD op=true∧0< d) ⟨hwd,hd0⟩]; rfl
   ·rw [if_neg (by rw [QC]; exact hd0),if_neg (c:=wrD op=true∧0< d) (fun h=>hd0 h.2)]; rfl
  ·rw [if_neg hwd,if_neg (c:=wrD op=true∧0< d) (fun h=>hwd h.1)]; rfl
def runM (s:Mc) (l:List TwoD):Mc:=
 if (Qv s.cs l s.m s.pc 4).2≠0 then s.trap 2 s.pc
 else
  let w:=s.m.getD (Qv s.cs l s.m s.pc 4).1.toNat 0
  if decF w=0 then (if (doM s l (decM w).1 (decM w).2.1 (decM w).2.2.1 (decM w).2.2.2.1).1=true then Qft (doM s l (decM w).1 (decM w).2.1 (decM w).2.2.1 (decM w).2.2.2.1).2
   else (doM s l (decM w).1 (decM w).2.1 (decM w).2.2.1 (decM w).2.2.2.1).2) else s.trap 1 w
def Qaf (s0:Mc) (l:List TwoD):Mc:=
 let s:Mc:={ s0 with ring:= -1,fall:= -1 }
 if s.ha=true then s
 else if 0≤dueM s.cs s.ru s.dn s.iq then s.trap (16+dueM s.cs s.ru s.dn s.iq) 0
 else if s.wa=true then (if iand .i64 (Qdz s.cs s.ru s.dn s.iq) (s.cs.getD 7 0)=0 then s else runM { s with wa:=false } l)
 else runM s l
theorem QiJ {w:Int} (h:decF w=0):OkI (decM w).1 (decM w).2.1 (decM w).2.2.1 (decM w).2.2.2.1:=by
 obtain ⟨h1,h2,h3,h4,h5,h6⟩:=QuD h;exact ⟨h1,h2,h3,h4,h5,h6⟩
theorem Qmj (cs:List Int) (ru:Bool) (dn:Int) (iq:List Int): -1≤dueM cs ru dn iq∧dueM cs ru dn iq≤2:=by
 unfold dueM; split
 ·omega
 ·exact QuQ _
theorem QlC (h:OkS s l) {K:Option Unit}:
  ((F_aw ((l,s.m,s.ring,(s.r,s.pc,s.cs,s.ha,s.wa,s.ru,s.dn,s.iq,s.oq,()),s.fall,()),s.pc,(4:Int),())).bind fun r7=>
    if (r7.1.2.1 !=(0:Int)) then
     (F_aq (s.bus l,(2:Int),s.pc,())).bind fun r8=>some (((),(r8.2.1,())):Unit×BusD×Unit)
    else
     if 0≤r7.1.1∧r7.1.1< ((s.m.length:Nat):Int) then
      ((s.m)[(r7.1.1).toNat]?).bind fun y9=>
      (F_ax (y9,())).bind fun r10=>
      if (!r10.1.2.1) then
       if 0≤r7.1.1∧r7.1.1< ((s.m.length:Nat):Int) then
        ((s.m)[(r7.1.1).toNat]?).bind fun y11=>
        (F_aq (s.bus l,(1:Int),y11,())).bind fun r12=>some ((),(r12.2.1,()))
       else none
      else
       (F_bp (s.bus l,r10.1.1,())).bind fun r13=>
       if r13.1.1 then
        let v14:=(IntKind.i64.wrap (r13.2.1.2.2.2.2.2.2.2.2.2.1+(1:Int)))
        (F_bq ((1000000000:Int),v14,())).bind fun r15=>
        some ((),((r13.2.1.1,(r13.2.1.2.1,(r13.2.1.2.2.1,(r13.2.1.2.2.2.1,(r13.2.1.2.2.2.2.1,(r13.2.1.2.2.2.2.2.1,(r13.2.1.2.2.2.2.2.2.1,(r13.2.1.2.2.2.2.2.2.2.1,(r13.2.1.2.2.2.2.2.2.2.2.1,(r15.1.1,(r13.2.1.2.2.2.2.2.2.2.2.2.2.1,(r13.2.1.2.2.2.2.2.2.2.2.2.2.2.1,(r13.2.1.2.2.2.2.2.2.2.2.2.2.2.2.1,()))))))))))))),()))
       else some ((),(r13.2.1,()))
     else none)=some ((),((runM s l).bus l,())):=by
 have hdo:=fun {w:Int} (hw:decF w=0)=>Qug h (QiJ hw) rfl
 have hdn:=h.d;rw [QfE h.c h.l,Obn];dsimp only;unfold runM;have hin:=QbV h.c h.l s.pc 4;generalize Qv s.cs l s.m s.pc 4=q at*;by_cases h0:q.2=0
 ·have hlt:0≤q.1∧q.1< ((s.m.length:Nat):Int):=by
   rcases hin h0 with h | h
   ·exact absurd rfl h.2.2
   ·exact h
  have hN:q.1.toNat< s.m.length:=by omega
  have hw:WW (s.m.getD q.1.toNat 0):=h.l.words _ (Qaz hN);rw [if_neg (by simpa using h0),if_pos hlt,Qr 0 hN,Qso hw,Obn,if_pos hlt,Qr 0 hN,if_neg (c:=q.2≠0) (by simpa using h0)]
  dsimp only;generalize s.m.getD q.1.toNat 0=w at*;by_cases hd:decF w=0
  ·rw [if_neg (by simp [hd]),if_pos hd]
   have hx:=hdo hd;have hrr:=QvC s l (decM w).1 (decM w).2.1 (decM w).2.2.1 (decM w).2.2.2.1
   have hdn2:(doM s l (decM w).1 (decM w).2.1 (decM w).2.2.1 (decM w).2.2.2.1).2.dn=s.dn:=by
    unfold doM; dsimp only; split <;> exact hrr.2
   have e1:((decM w).1,(decM w).2.1,(decM w).2.2.1,(decM w).2.2.2.1,())=decM w:=rfl;rw [e1] at hx;rw [hx,Obn];dsimp only;generalize doM s l (decM w).1 (decM w).2.1 (decM w).2.2.1 (decM w).2.2.2.1=x at*;obtain ⟨b,s1⟩:=x;cases b
   ·rfl
   ·simp only at hdn2;rw [if_pos rfl,if_pos rfl];unfold F_bq Mc.bus Qft;dsimp only;rw [hdn2,Qx (by omega) (by omega)]
    by_cases hlt:1000000000< s.dn+1
    ·rw [if_pos (QC.2 hlt),if_pos hlt]; rfl
    ·rw [if_neg (by rw [QC]; exact hlt),if_neg hlt]; rfl
  ·rw [if_pos (by simp [hd]),if_neg hd]
   unfold Mc.bus;rw [Qcz h.c,Obn];rfl
 ·rw [if_pos (by simpa using h0),if_pos (c:=q.2≠0) h0]
  unfold Mc.bus;rw [Qcz h.c,Obn];rfl
theorem QpS (h:OkS s l):F_br (s.bus l,())=some ((),((Qaf s l).bus l,())):=by
 obtain ⟨r,pc,cs,ha,wa,ru,dn,iq,oq,m,ring,fall⟩:=s;have h0:OkS ⟨r,pc,cs,ha,wa,ru,dn,iq,oq,m, -1, -1⟩ l:=⟨h.r,h.pc,h.c,h.i,h.o,h.d,h.l⟩;have h1:OkS ⟨r,pc,cs,ha,false,ru,dn,iq,oq,m, -1, -1⟩ l:=⟨h.r,h.pc,h.c,h.i,h.o,h.d,h.l⟩;have hc:OkC cs:=h.c;have hle:=Qmj cs ru dn iq;generalize he:Qaf ⟨r,pc,cs,ha,wa,ru,dn,iq,oq,m,ring,fall⟩ l=e;unfold Qaf at he;unfold F_br;dsimp only at he;rw [show (Mc.bus ⟨r,pc,cs,ha,wa,ru,dn,iq,oq,m,ring,fall⟩ l)=(l,m,ring,r,pc,cs,ha,wa,ru,dn,iq,oq,fall,()) from rfl]
 dsimp only;cases ha
 ·rw [if_neg (by decide)] at he
  rw [if_neg (by decide),Qsq hc,Obn]
  dsimp only;by_cases hk:0≤dueM cs ru dn iq
  ·rw [if_pos hk] at he;subst he;rw [if_pos (Qba.2 hk),Qx (by omega) (by omega),Qcz hc,Obn]
   rfl
  ·rw [if_neg hk] at he;rw [if_neg (by rw [Qba]; exact hk)]
   cases wa
   ·rw [if_neg (by decide)] at he
    subst he;rw [if_neg (by decide)]
    exact QlC (K:=none) h0
   ·rw [if_pos rfl] at he;have h7:(0:Int)≤7∧(7:Int)< ((cs.length:Nat):Int):=by rw [hc.len]; decide
    rw [if_pos rfl,QeN hc,Obn];dsimp only;rw [if_pos h7,Qr 0 (by rw [hc.len]; decide)]
    simp only [show ((7:Int)).toNat=7 from rfl]
    by_cases hz:iand .i64 (Qdz cs ru dn iq) (cs.getD 7 0)=0
    ·rw [if_pos hz] at he;subst he;rw [if_pos (by simpa using hz)]
     rfl
    ·rw [if_neg hz] at he;subst he;rw [if_neg (by simpa using hz)]
     exact QlC (K:=none) h1
 ·rw [if_pos rfl] at he;subst he;rw [if_pos rfl];rfl
end
end Go.Proofs.YtkkljegcnnfanaaGreatDoor
