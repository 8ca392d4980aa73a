/- Plain laws: what the functions compute, and that both programs compute the same. -/
import Derived.Test.YtkkljegcnnfanaaGreatDoorGa5
set_option linter.unusedVariables false
set_option linter.unusedSimpArgs false
namespace Go.Proofs.YtkkljegcnnfanaaGreatDoor
open Go Go.RowKit S Go.Proofs
set_option maxRecDepth 100000
def okW (w:Int):Bool:=decide (w≥0) && decide (w≤4294967295)
def allW (m:List Int):Bool:=m.all okW
theorem QbX (n a b:Int):F_e (n,a,b,())=some ((decide (n≥a) && decide (n≤b),()),()):=by
 unfold F_e;simp only [Qav,Qan,decide_eq_true_eq,ge_iff_le,gt_iff_lt];split
 ·rename_i h; simp [h]
 ·rename_i h; simp [h]
theorem Qbw (n a b:Int):F_cc (n,a,b,())=some ((decide (n≥a) && decide (n≤b),()),()):=by
 unfold F_cc;simp only [Qav,Qan,decide_eq_true_eq,ge_iff_le,gt_iff_lt];split
 ·rename_i h; simp [h]
 ·rename_i h; simp [h]
theorem Qmt (n:Int):F_cv (n,())=some ((okW n,()),()):=by
 unfold F_cv;rw [Qbw,Obn];rfl
theorem Qnz (n:Int):F_cw_1 (n,())=some ((!okW n,()),()):=by
 unfold F_cw_1;rw [Qmt,Obn]
theorem QlT {y:Int} {r:List Int}:allW (y::r)=(okW y && allW r):=rfl
theorem Qrz (m:List Int) (i:Int) (h0:0≤i) (h1:i≤(m.length:Int)) (h3:m.length≤maxLen):
  (allW (m.drop i.toNat)=true∧L_cy_2 ((m,(),((m.length:Nat):Int),i,()),(),())=some (.inl ((),(),())))∨
  (allW (m.drop i.toNat)=false∧ ∃k:Int,0≤k∧L_cy_2 ((m,(),((m.length:Nat):Int),i,()),(),())=some (.inr (.inl ((k,()),(),())))):=by
 have c: ∀(n:Nat) (i:Int),(m.length-i).toNat< n→0≤i→i≤(m.length:Int)→
   (allW (m.drop i.toNat)=true∧Qb l_cy_2 n ((m,(),((m.length:Nat):Int),i,()),(),())=some (.inl ((),(),())))∨
   (allW (m.drop i.toNat)=false∧ ∃k:Int,0≤k∧Qb l_cy_2 n ((m,(),((m.length:Nat):Int),i,()),(),())=some (.inr (.inl ((k,()),(),())))):=by
  intro n
  induction n with
  | zero=>intro i h; omega
  | succ n b=>
   intro i f h0 h1;simp only [Qb];generalize Qb l_cy_2 n=rec at b⊢;unfold l_cy_2;simp only [Qav,Qan,decide_eq_true_eq,ge_iff_le,gt_iff_lt];by_cases a:i< (m.length:Int)
   ·obtain ⟨y,e,_,d⟩:=QlX h0 a;rw [if_pos a,if_pos h0,e,Obn,Qnz,Obn,Qod h0 a h3,d,QlT];cases g:okW y with
    | true=>simpa using b (i+1) (by omega) (by omega) (by omega)
    | false=>exact .inr ⟨by simp,i,h0,by simp⟩
   ·rw [if_neg a,QeA a];exact .inl ⟨rfl,rfl⟩
 exact c lots i (by rw [QcM] at h3; rw [QE]; omega) h0 h1
theorem Qcj (m:List Int) (h:m.length≤maxLen):F_cw (m,())=some ((allW m,()),()):=by
 unfold F_cw F_cz_1 F_cx_1;simp only;rcases Qrz m 0 (by simp) (by simp) h with ⟨a,b⟩ | ⟨a,k,b,c⟩
 ·simp only [Int.toNat_zero,List.drop_zero] at a;rw [b,a]; rfl
 ·simp only [Int.toNat_zero,List.drop_zero] at a;rw [c,a];simp [b,Qan]
def QF (m:List Int):Int:=if m.length % 8=0∧8≤m.length∧m.length≤192 then (if allW m=true then 0 else 3) else 1
theorem QhS (m:List Int) (h:m.length≤maxLen):F_da (m,())=some ((QF m,()),()):=by
 unfold F_da QF;rw [Qcj m h];simp only [Obn,Qav,Qan,beq_eq_false_iff_ne,decide_eq_false_iff_not,bne_iff_ne];have e:((m.length:Nat):Int).tmod 8=((m.length % 8:Nat):Int):=rfl;rw [e];by_cases a:((m.length:Nat):Int)≠0
 ·rw [if_pos a];by_cases b: ¬((m.length:Nat):Int) > 192
  ·rw [if_pos b];by_cases c:((m.length % 8:Nat):Int)≠0
   ·rw [if_pos c,if_neg (by omega)]
   ·have d:m.length % 8=0∧8≤m.length∧m.length≤192:=by omega
    rw [if_neg c,if_pos d];cases allW m <;> rfl
  ·rw [if_neg b,if_neg (by omega)]
 ·rw [if_neg a,if_neg (by omega)]
theorem Qlc (m:List Int) (i:Int) (h0:0≤i) (h1:i≤(m.length:Int)) (h3:m.length≤maxLen):
  L_dq_4 ((m,i,()),(),())=some (if allW (m.drop i.toNat)=true then .inl ((),(),()) else .inr (.inl ((3,()),(),()))):=by
 refine QhT (γ:=denO o_l_4) (step:=l_dq_4) (β:=Int) (fun i=>((m,i,()),(),())) (fun i=>0≤i∧i≤(m.length:Int)) (fun i=>some (if allW (m.drop i.toNat)=true then .inl ((),(),()) else .inr (.inl ((3,()),(),()))))
  (fun i=>(m.length-i).toNat) ?_ lots _ ⟨h0,h1⟩ (by rw [QcM] at h3; rw [QE]; omega)
 rintro rec i ⟨h0,h1⟩ ih;simp only at h0 h1 ih⊢;unfold l_dq_4;simp only [Qav,Qan,decide_eq_true_eq,ge_iff_le,gt_iff_lt];by_cases a:i< (m.length:Int)
 ·obtain ⟨y,c,_,b⟩:=QlX h0 a;rw [if_pos a,if_pos h0,c,Obn,QbX,Obn,Qod h0 a h3,b,QlT];show (if (!okW y)=true then _ else _)=_
  cases d:okW y with
  | true=>simpa using ih (i+1) ⟨by omega,by omega⟩ (by omega)
  | false=>simp
 ·rw [if_neg a,QeA a];rfl
theorem Qik (m:List Int) (h:m.length≤maxLen):F_dq (m,())=some ((QF m,()),()):=by
 unfold F_dq QF;simp only [Qav,Qan,beq_eq_false_iff_ne,decide_eq_false_iff_not,bne_eq_false_iff_eq,decide_eq_true_eq];have e:((m.length:Nat):Int).tmod 8=((m.length % 8:Nat):Int):=rfl;rw [e];by_cases a:((m.length % 8:Nat):Int)=0
 ·rw [if_pos a];by_cases b: ¬((m.length:Nat):Int)< 8
  ·rw [if_pos b];by_cases c:((m.length:Nat):Int) > 192
   ·rw [if_pos c,if_neg (by omega)]
   ·rw [if_neg c,if_pos (by omega),Qlc m 0 (by simp) (by simp) h]
    simp only [Int.toNat_zero,List.drop_zero];cases allW m <;> rfl
  ·rw [if_neg b,if_neg (by omega)]
 ·rw [if_neg a,if_neg (by omega)]
theorem QlJ (m m2:List Int) (i:Int) (h0:0≤i) (h1:i≤(m.length:Int)) (h2:m2.length=m.length) (h3:m.length≤maxLen):
  L_gw_4 ((m,m2,i,()),(),())=some (if m.drop i.toNat=m2.drop i.toNat then .inl ((),(),()) else .inr (.inl ((false,()),(),()))):=by
 refine QhT (γ:=denO o_f_2) (step:=l_gw_4) (β:=Int) (fun i=>((m,m2,i,()),(),())) (fun i=>0≤i∧i≤(m.length:Int)) (fun i=>some (if m.drop i.toNat=m2.drop i.toNat then .inl ((),(),()) else .inr (.inl ((false,()),(),()))))
  (fun i=>(m.length-i).toNat) ?_ lots _ ⟨h0,h1⟩ (by rw [QcM] at h3; rw [QE]; omega)
 rintro rec i ⟨h0,h1⟩ ih;simp only at h0 h1 ih⊢;unfold l_gw_4;simp only [Qav,decide_eq_true_eq];by_cases a:i< (m.length:Int)
 ·obtain ⟨y,d,_,c⟩:=QlX h0 a;obtain ⟨z,f,_,b⟩:=QlX (m:=m2) h0 (by omega)
  rw [if_pos a,if_pos h0,d,Obn,if_pos h0,f,Obn,Qod h0 a h3,c,b];by_cases e:y=z
  ·subst e;rw [if_neg (by simp),ih _ ⟨by omega,by omega⟩ (by omega)]
   simp
  ·rw [if_pos (by simpa using e)]
   simp [e]
 ·rw [if_neg a,QeA a,QeA (by omega)]
  simp
theorem Qat (x:denP P_dw) (h:x.1.length≤maxLen):F_gw x=some ((decide (x.1=x.2.1),()),()):=by
 obtain ⟨m,a,_⟩:=x;unfold F_gw;simp only at h⊢;by_cases e:m.length=a.length
 ·have c:((m.length:Nat):Int)=(a.length:Nat):=by omega
  rw [if_neg (by simp; exact c),QlJ m a 0 (by simp) (by simp) e.symm h]
  simp only [Int.toNat_zero,List.drop_zero];by_cases b:m=a
  ·simp [b]
  ·simp [b]
 ·have c: ¬((m.length:Nat):Int)=(a.length:Nat):=by omega
  rw [if_pos (by simp; exact c)]
  have:m≠a:=fun b=>e (by rw [b])
  simp [this]
theorem QlC (m m2:List Int) (i:Int) (h0:0≤i) (h1:i≤(m.length:Int)) (h2:m2.length=m.length) (h3:m.length≤maxLen):
  L_er_4 ((m,m2,((m.length:Nat):Int),i,()),(),())=some (if m.drop i.toNat=m2.drop i.toNat then .inl ((),(),()) else .inr (.inl ((false,()),(),()))):=by
 refine QhT (γ:=denO o_f_2) (step:=l_er_4) (β:=Int) (fun i=>((m,m2,((m.length:Nat):Int),i,()),(),())) (fun i=>0≤i∧i≤(m.length:Int)) (fun i=>some (if m.drop i.toNat=m2.drop i.toNat then .inl ((),(),()) else .inr (.inl ((false,()),(),()))))
  (fun i=>(m.length-i).toNat) ?_ lots _ ⟨h0,h1⟩ (by rw [QcM] at h3; rw [QE]; omega)
 rintro rec i ⟨h0,h1⟩ ih;simp only at h0 h1 ih⊢;unfold l_er_4;simp only [Qav,decide_eq_true_eq];by_cases a:i< (m.length:Int)
 ·obtain ⟨y,d,_,c⟩:=QlX h0 a;obtain ⟨z,f,_,b⟩:=QlX (m:=m2) h0 (by omega)
  rw [if_pos a,if_pos h0,d,Obn,if_pos h0,f,Obn,Qod h0 a h3,c,b];by_cases e:y=z
  ·subst e;rw [if_neg (by simp),ih _ ⟨by omega,by omega⟩ (by omega)]
   simp
  ·rw [if_pos (by simpa using e)]
   simp [e]
 ·rw [if_neg a,QeA a,QeA (by omega)]
  simp
theorem Qck (x:denP P_dw) (h:x.1.length≤maxLen):F_er x=some ((decide (x.1=x.2.1),()),()):=by
 obtain ⟨m,a,_⟩:=x;unfold F_er;simp only at h⊢;by_cases e:m.length=a.length
 ·have c:((m.length:Nat):Int)=(a.length:Nat):=by omega
  rw [if_neg (by simp; exact c),QlC m a 0 (by simp) (by simp) e.symm h]
  simp only [Int.toNat_zero,List.drop_zero];by_cases b:m=a
  ·simp [b]
  ·simp [b]
 ·have c: ¬((m.length:Nat):Int)=(a.length:Nat):=by omega
  rw [if_pos (by simp; exact c)]
  have:m≠a:=fun b=>e (by rw [b])
  simp [this]
abbrev QM:=den (.pair (.slice (.int .i64)) (.pair (.int .i64) (.pair (.slice (.int .i64)) (.pair .bool (.pair .bool (.pair .bool (.pair (.int .i64) (.pair (.slice (.int .i64)) (.pair (.slice (.int .i64)) .unit)))))))))
abbrev QwR:=QM×List Int×List Int×Unit
def Qbz (n:Nat) (h:QM):Prop:=h.1.length≤n∧h.2.2.1.length≤n∧h.2.2.2.2.2.2.2.1.length≤n∧h.2.2.2.2.2.2.2.2.1.length≤n
def Qoi (n:Nat) (v:QwR):Prop:=Qbz n v.1∧v.2.1.length≤n∧v.2.2.1.length≤n
theorem QuL (x:denP P_gx) (h:Qbz maxLen x.1): ∃b,F_gx x=some ((b,()),())∧F_es x=some ((b,()),()):=by
 obtain ⟨a,c,d,e⟩:=h;unfold F_gx F_es;rw [Qat (x.1.1,x.2.1.1,()) a,Qat (x.1.2.2.1,x.2.1.2.2.1,()) c,Qat (x.1.2.2.2.2.2.2.2.1,x.2.1.2.2.2.2.2.2.2.1,()) d,Qat (x.1.2.2.2.2.2.2.2.2.1,x.2.1.2.2.2.2.2.2.2.2.1,()) e];rw [Qck (x.1.1,x.2.1.1,()) a,Qck (x.1.2.2.1,x.2.1.2.2.1,()) c,Qck (x.1.2.2.2.2.2.2.2.1,x.2.1.2.2.2.2.2.2.2.1,()) d,Qck (x.1.2.2.2.2.2.2.2.2.1,x.2.1.2.2.2.2.2.2.2.2.1,()) e];simp only [Obn]
 repeat' split
 all_goals exact ⟨_,rfl,rfl⟩
theorem QvT (x:denP P_et) (h:Qoi maxLen x.1): ∃b,F_gy x=some ((b,()),())∧F_et x=some ((b,()),()):=by
 obtain ⟨f,a,c⟩:=h;obtain ⟨b,d,e⟩:=QuL (x.1.1,x.2.1.1,()) f;unfold F_gy F_et;rw [d,e,Qat (x.1.2.1,x.2.1.2.1,()) a,Qat (x.1.2.2.1,x.2.1.2.2.1,()) c,Qck (x.1.2.1,x.2.1.2.1,()) a,Qck (x.1.2.2.1,x.2.1.2.2.1,()) c];simp only [Obn]
 repeat' split
 all_goals exact ⟨_,rfl,rfl⟩
theorem leM {n:Nat} (h:n≤1048576):n≤maxLen:=by rw [QcM]; omega
def QbY (k:Int):Nat→List Int
 | 0=>[]
 | n+1=>k::QbY (k+1) n
theorem Qjs: ∀(n:Nat) (k:Int),(QbY k n).length=n
 | 0,_=>rfl
 | n+1,k=>by simp [QbY,Qjs n]
theorem QmH (m:List Int) (p:Nat) (h:8*p+8≤m.length) (h2:m.length≤192):F_dm (m,(p:Int),())=some (((m.drop (8*p)).take 8,()),()):=by
 unfold F_dm F_dl;simp only;rw [Qj (n:=(p:Int)*8) (by omega) (by omega),Qj (n:=(p:Int)+1) (by omega) (by omega),Qj (n:=((p:Int)+1)*8) (by omega) (by omega)]
 rw [if_pos ⟨by omega,by omega,by omega⟩]
 have a:((p:Int)*8).toNat=8*p:=by omega
 have b:(((p:Int)+1)*8).toNat-8*p=8:=by omega
 rw [a,b,if_pos (by simp; omega),Obn]
 simp
theorem Qca (x y:Int):F_eb ([x,y],())=some ((if x≠0 then x else y,()),()):=by
 have b:L_eb_2 (([x,y],2,0,()),(),())=some (if x≠0 then .inr (.inl ((x,()),(),())) else if y≠0 then .inr (.inl ((y,()),(),())) else .inl ((),(),())):=by
  have e:lots=(18446744073709551613+1)+1+1:=rfl;show Qb l_eb_2 lots _=_;rw [e];generalize 18446744073709551613=n;have f:IntKind.i64.wrap ((0:Int)+1)=1:=Qj (by omega) (by omega)
  have g:IntKind.i64.wrap ((1:Int)+1)=2:=Qj (by omega) (by omega)
  have d:Qb l_eb_2 (n+1) (([x,y],2,2,()),(),())=some (.inl ((),(),())):=by
   simp only [Qb];generalize Qb l_eb_2 n=rec;unfold l_eb_2;simp [Qav]
  have c:Qb l_eb_2 (n+1+1) (([x,y],2,1,()),(),())=some (if y≠0 then .inr (.inl ((y,()),(),())) else .inl ((),(),())):=by
   rw [show Qb l_eb_2 (n+1+1) (([x,y],2,1,()),(),())=l_eb_2 (Qb l_eb_2 (n+1)) (([x,y],2,1,()),(),()) from rfl]
   generalize Qb l_eb_2 (n+1)=rec at d⊢;unfold l_eb_2;simp only [Qav];rw [if_pos (by decide),if_pos (by decide)]
   show (some y).bind _=_;rw [Obn,g,d];by_cases h:y=0
   ·subst h; simp
   ·rw [if_pos (by simp; exact h)]; simp [h]
  rw [show Qb l_eb_2 (n+1+1+1) (([x,y],2,0,()),(),())=l_eb_2 (Qb l_eb_2 (n+1+1)) (([x,y],2,0,()),(),()) from rfl]
  generalize Qb l_eb_2 (n+1+1)=rec at c⊢;unfold l_eb_2;simp only [Qav];rw [if_pos (by decide),if_pos (by decide)]
  show (some x).bind _=_;rw [Obn,f,c];by_cases h:x=0
  ·subst h; simp
  ·rw [if_pos (by simp; exact h)]; simp [h]
 unfold F_eb;simp only;show (L_eb_2 (([x,y],2,0,()),(),())).bind _=_;rw [b,Obn];by_cases h:x=0
 ·subst h;by_cases a:y=0
  ·subst a; simp
  ·simp [a]
 ·simp [h]
theorem QgV {m:List Int} (h:QF m=0):m.length % 8=0∧8≤m.length∧m.length≤192:=by
 unfold QF at h;split at h
 ·assumption
 ·omega
theorem Qdj {X γ σ:Type} {step:(X→Option γ)→X→Option γ} (emb:Nat→σ→X) (N:Nat) (hN:N< lots) (I:Nat→σ→Prop) (out:Nat→σ→Option γ)
  (h: ∀rec i s,i≤N→I i s→(∀s',i< N→I (i+1) s'→rec (emb (i+1) s')=out (i+1) s')→step rec (emb i s)=out i s):
  ∀i s,i≤N→I i s→Qb step lots (emb i s)=out i s:=by
 have d: ∀n i s,N-i< n→i≤N→I i s→Qb step n (emb i s)=out i s:=by
  intro n
  induction n with
  | zero=>intro i s h; omega
  | succ n e=>
   intro i s g b a;simp only [Qb];exact h _ i s b a fun s' f c=>e (i+1) s' (by omega) (by omega) c
 intro i s b a;exact d lots i s (by omega) b a
theorem Qao {n:Nat} (h:n≤9223372036854775807):n< lots:=by rw [QE]; omega
theorem QH {i:Nat} (h:i< 9223372036854775807):IntKind.i64.wrap ((i:Int)+1)=((i+1:Nat):Int):=by rw [Qj (by omega) (by omega)]; rfl
theorem nat0 {i:Nat}:(0:Int)≤(i:Int):=Int.natCast_nonneg i
theorem Ql {α γ:Type} {m:List α} {i:Nat} (h:i< m.length) (K:α→Option γ):(m[((i:Nat):Int).toNat]?).bind K=K m[i]:=by
 rw [Int.toNat_natCast,List.getElem?_eq_getElem h,Obn]
theorem QaQ {α:Type} {m:List α} {i:Nat} (h:i< m.length):m.drop i=m[i]::m.drop (i+1):=List.drop_eq_getElem_cons h
theorem Qbl {α:Type} {m:List α} {i:Nat} (h: ¬i< m.length):m.drop i=[]:=List.drop_of_length_le (by omega)
theorem ltN {a b:Nat}:ltI (a:Int) (b:Int)=decide (a< b):=by
 rw [Qav]; by_cases h:a< b
 ·have:(a:Int)< b:=by omega
  simp [h,this]
 ·have: ¬(a:Int)< b:=by omega
  simp [h,this]
theorem QB {a b:Int}:ltI a b=true↔a< b:=by rw [Qav]; simp
theorem QaB {a b:Int}:leI a b=true↔a≤b:=by rw [Qan]; simp
theorem Qbe {a b:Int}:ltI a b=false↔ ¬a< b:=by rw [Qav]; simp
def scan {α β:Type} (f:Nat→α→Option β):Nat→List α→Option β
 | _,[]=>none
 | i,x::r=>match f i x with
  | some c=>some c
  | none=>scan f (i+1) r
theorem QW {X α γ β:Type} {step:(X→Option γ)→X→Option γ} (emb:Nat→X) (m:List α) (f:Nat→α→Option β) (bad:β→Option γ) (done:Option γ) (hm:m.length≤9223372036854775807)
  (h1: ∀rec i (h:i< m.length),step rec (emb i)=match f i m[i] with | some c=>bad c | none=>rec (emb (i+1)))
  (h2: ∀rec,step rec (emb m.length)=done):Qb step lots (emb 0)=match scan f 0 m with | some c=>bad c | none=>done:=by
 have b:=Qdj (step:=step) (fun i (_:Unit)=>emb i) m.length (Qao hm) (fun _ _=>True) (fun i _=>match scan f i (m.drop i) with | some c=>bad c | none=>done) ?_ 0 () (by omega) trivial
 ·simpa using b
 ·intro rec i _ g _ d;by_cases a:i< m.length
  ·rw [h1 rec i a,QaQ a];simp only [scan];cases e:f i m[i] with
   | some c=>rfl
   | none=>exact d () a trivial
  ·have:i=m.length:=by omega
   subst this;rw [h2,List.drop_length];rfl
theorem QeK {α β:Type} {f:Nat→α→Option β} {p:α→Bool}: ∀{m:List α} {i:Nat},(∀j (h:j< m.length),(f (i+j) m[j]).isSome=p m[j])→(scan f i m).isSome=m.any p
 | [],_,_=>rfl
 | x::r,i,h=>by
  have h0:=h 0 (by simp)
  simp only [Nat.add_zero,List.getElem_cons_zero] at h0
  have:=QeK (f:=f) (p:=p) (m:=r) (i:=i+1) fun j a=>by
   have:=h (j+1) (by simpa using a)
   simpa [Nat.add_assoc,Nat.add_comm,Nat.add_left_comm] using this
  simp only [scan,List.any_cons, ←h0, ←this];cases f i x <;> rfl
theorem lt_t {i n:Nat} (h:i< n):ltI (i:Int) (n:Int)=true:=by rw [ltN]; simpa using h
theorem lt_f {i n:Nat} (h: ¬i< n): ¬ltI (i:Int) (n:Int)=true:=by rw [ltN]; simpa using h
theorem Qax {n:Nat}: ¬ltI (n:Int) (n:Int)=true:=lt_f (Nat.lt_irrefl n)
theorem lt1 {α:Type} {i:Nat} {m:List α} (h:i< m.length) (hm:m.length≤1048576):i< 9223372036854775807:=by omega
theorem QqH {X γ:Type} (step:(X→Option γ)→X→Option γ) (n:Nat) (x:X):Qb step (n+1) x=step (Qb step n) x:=rfl
theorem QwU:lots=18446744073709551613+1+1+1:=rfl
abbrev QJ:=Int×Int×Int×Int×Int×Unit
abbrev TwoD:=Int×Int×Unit
abbrev PolD:=List (List Int)×List QJ×List TwoD×List TwoD×Unit
def QfX (n:Nat) (p:PolD):Prop:=(p.1.length≤n∧ ∀l∈p.1,l.length≤n)∧p.2.1.length≤n∧p.2.2.1.length≤n∧p.2.2.2.1.length≤n
theorem Qbo {n:Nat} (h:n≤1048576):n≤9223372036854775807:=by omega
theorem QcZ {α β:Type} {f:Nat→α→Option β} {P:β→Prop}: ∀{m:List α} {i:Nat},(∀j (h:j< m.length) c,f (i+j) m[j]=some c→P c)→ ∀c,scan f i m=some c→P c
 | [],_,_,c,h=>by simp [scan] at h
 | x::r,i,h,c,hc=>by
  have h0:=h 0 (by simp)
  simp only [Nat.add_zero,List.getElem_cons_zero] at h0;simp only [scan] at hc;split at hc
  ·rename_i d e;obtain rfl:=Osj hc;exact h0 _ e
  ·exact QcZ (m:=r) (i:=i+1) (fun j g b a=>h (j+1) (by simpa using g) b (by simpa [Nat.add_assoc,Nat.add_comm,Nat.add_left_comm] using a)) c hc
theorem Qpf (m:List Int) (v:Int) (hm:m.length≤1048576):F_f (m,v,())=some ((m.contains v,()),()):=by
 have a:=QW (step:=l_f_2) (γ:=denO o_f_2) (fun i=>((m,v,((i:Nat):Int),()),(),())) m (fun _ y=>if (y==v)=true then some () else none) (fun _=>some (.inr (.inl ((true,()),(),())))) (some (.inl ((),(),()))) (Qbo hm) ?_ ?_
 ·unfold F_f;show (Qb l_f_2 lots ((m,v,((0:Nat):Int),()),(),())).bind _=_;rw [a];have:=QeK (f:=fun (_:Nat) y=>if (y==v)=true then some () else none) (p:=fun y=>y==v) (m:=m) (i:=0) (fun j b=>by cases m[j]==v <;> rfl)
  have e:m.any (fun y=>y==v)=m.contains v:=by
   rw [Bool.eq_iff_iff,List.any_eq_true,List.contains_iff_mem];exact ⟨fun ⟨y,hy,e⟩=>by rw [←beq_iff_eq.1 e]; exact hy,fun h=>⟨v,h,by simp⟩⟩
  rw [e] at this;rw [←this];cases scan (fun (_:Nat) y=>if (y==v)=true then some () else none) 0 m <;> rfl
 ·intro rec i h;unfold l_f_2;dsimp only;rw [if_pos (lt_t h),if_pos nat0,Ql h,QH (lt1 h hm)];cases m[i]==v <;> rfl
 ·intro rec;unfold l_f_2;dsimp only;rw [if_neg Qax]
def isG (p:PolD) (g:Int):Bool:=decide (g≥0) && decide (g≤(p.1.length:Int)-1)
theorem QcL (p:PolD) (g:Int) (h:p.1.length≤1048576):F_h (p,g,())=some ((isG p g,()),()):=by
 unfold F_h isG;dsimp only;rw [Qj (by omega) (by omega),QbX,Obn]
theorem QcK (p:PolD) (g:Int) (h:p.1.length≤1048576):F_ce (p,g,())=some ((isG p g,()),()):=by
 unfold F_ce isG;dsimp only;rw [Qj (by omega) (by omega),Qbw,Obn]
def Qdd (p:PolD) (a b:Int):Int:=if isG p a=true then (if isG p b=true then (if a=b then 1 else 0) else 4) else 4
theorem QrQ (p:PolD) (a b:Int) (h:p.1.length≤1048576):F_i (p,a,b,())=some ((Qdd p a b,()),()):=by
 unfold F_i Qdd;rw [QcL p a h,QcL p b h];simp only [Obn];cases isG p a <;> cases isG p b <;> by_cases e:a=b <;> simp [e]
theorem QrX (p:PolD) (a b:Int) (h:p.1.length≤1048576):F_cf (p,a,b,())=some ((Qdd p a b,()),()):=by
 unfold F_cf Qdd;rw [QcK p a h,QcK p b h];simp only [Obn];cases isG p a <;> cases isG p b <;> by_cases e:a=b <;> simp [e]
def QjH:Option Int→Int
 | some c=>c
 | none=> -1
def QfU (own:List (List Int)) (page:Int):Int:=QjH (scan (fun i (l:List Int)=>if l.contains page=true then some ((i:Nat):Int) else none) 0 own)
theorem Qvu (p:PolD) (page:Int) (h:p.1.length≤1048576) (h2: ∀l∈p.1,l.length≤1048576):F_j (p,page,())=some ((QfU p.1 page,()),()):=by
 have b:=QW (step:=l_j_2) (γ:=denO o_j_2) (fun i=>((p,page,((i:Nat):Int),()),(),())) p.1 (fun i (l:List Int)=>if l.contains page=true then some ((i:Nat):Int) else none)
  (fun c=>some (.inr (.inl ((c,()),(),())))) (some (.inl ((),(),()))) (Qbo h) ?_ ?_
 ·unfold F_j QfU;show (Qb l_j_2 lots ((p,page,((0:Nat):Int),()),(),())).bind _=_;rw [b];cases scan (fun i (l:List Int)=>if l.contains page=true then some ((i:Nat):Int) else none) 0 p.1 <;> rfl
 ·intro rec i a;unfold l_j_2;dsimp only;rw [if_pos (lt_t a),if_pos nat0,Ql a,QH (lt1 a h),Qpf _ _ (h2 _ (List.getElem_mem a)),Obn];dsimp only;cases (p.1[i]).contains page <;> rfl
 ·intro rec;unfold l_j_2;dsimp only;rw [if_neg Qax]
theorem QwF {α:Type} {P:Nat→α→Bool} {m:List α} {c:Int} (h:scan (fun i y=>if P i y=true then some ((i:Nat):Int) else none) 0 m=some c):0≤c:=by
 refine QcZ (P:=fun c=>0≤c) ?_ c h
 intro j b c a;split at a
 ·obtain rfl:=Osj a; omega
 ·cases a
theorem QfC {α:Type} {P:α→Bool} {m:List α} {f:Nat→α→Option Int} (hf: ∀i y,f i y=if P y=true then some ((i:Nat):Int) else none):leI 0 (QjH (scan f 0 m))=m.any P:=by
 have e:f=fun i y=>if P y=true then some ((i:Nat):Int) else none:=by funext i y; exact hf i y
 subst e;have a:=QeK (f:=fun i y=>if P y=true then some ((i:Nat):Int) else none) (p:=P) (m:=m) (i:=0) (fun j d=>by cases P m[j] <;> rfl)
 rw [←a,Qan];cases b:scan (fun i y=>if P y=true then some ((i:Nat):Int) else none) 0 m with
 | none=>rfl
 | some c=>have:=QwF (P:=fun _ y=>P y) b; simp [QjH,this]
theorem QuS (m:List Int) (v:Int) (hm:m.length≤1048576):F_cg (m,v,())=some ((QjH (scan (fun i y=>if (v==y)=true then some ((i:Nat):Int) else none) 0 m),()),()):=by
 have b:=QW (step:=l_cg_2) (γ:=denO o_j_2) (fun i=>((m,v,((m.length:Nat):Int),((i:Nat):Int),()),(),())) m (fun i y=>if (v==y)=true then some ((i:Nat):Int) else none)
  (fun c=>some (.inr (.inl ((c,()),(),())))) (some (.inl ((),(),()))) (Qbo hm) ?_ ?_
 ·unfold F_cg;show (Qb l_cg_2 lots ((m,v,((m.length:Nat):Int),((0:Nat):Int),()),(),())).bind _=_;rw [b];cases scan (fun i y=>if (v==y)=true then some ((i:Nat):Int) else none) 0 m <;> rfl
 ·intro rec i a;unfold l_cg_2;dsimp only;rw [if_pos (lt_t a),if_pos nat0,Ql a,QH (lt1 a hm)];cases v==m[i] <;> rfl
 ·intro rec;unfold l_cg_2;dsimp only;rw [if_neg Qax]
theorem Qnx (m:List Int) (v:Int):m.any (fun y=>v==y)=m.contains v:=by
 rw [Bool.eq_iff_iff,List.any_eq_true,List.contains_iff_mem];exact ⟨fun ⟨y,hy,e⟩=>by rw [beq_iff_eq.1 e]; exact hy,fun h=>⟨v,h,by simp⟩⟩
theorem QoG (m:List Int) (v:Int) (hm:m.length≤1048576):F_ch (m,v,())=some ((m.contains v,()),()):=by
 unfold F_ch;rw [QuS m v hm,Obn];dsimp only;rw [QfC (P:=fun y=>v==y) (fun _ _=>rfl),Qnx]
theorem QnH (p:PolD) (page:Int) (h:p.1.length≤1048576) (h2: ∀l∈p.1,l.length≤1048576):F_ci (p,page,())=some ((QfU p.1 page,()),()):=by
 have b:=QW (step:=l_ck_2) (γ:=denO o_j_2) (fun i=>((p.1,(page,()),((p.1.length:Nat):Int),((i:Nat):Int),()),(),())) p.1
  (fun i (l:List Int)=>if l.contains page=true then some ((i:Nat):Int) else none) (fun c=>some (.inr (.inl ((c,()),(),())))) (some (.inl ((),(),()))) (Qbo h) ?_ ?_
 ·unfold F_ci QfU F_cj_1;show ((Qb l_ck_2 lots ((p.1,(page,()),((p.1.length:Nat):Int),((0:Nat):Int),()),(),())).bind _).bind _=_;rw [b];cases scan (fun i (l:List Int)=>if l.contains page=true then some ((i:Nat):Int) else none) 0 p.1 <;> rfl
 ·intro rec i a;unfold l_ck_2;dsimp only;rw [if_pos (lt_t a),if_pos nat0,Ql a,QH (lt1 a h)];unfold F_ci_1;rw [QoG _ _ (h2 _ (List.getElem_mem a)),Obn,Obn];dsimp only;cases (p.1[i]).contains page <;> rfl
 ·intro rec;unfold l_ck_2;dsimp only;rw [if_neg Qax]
def QbH (l:QJ) (g page:Int):Bool:=(l.1==g && l.2.2.2.1==page) || (l.2.1==g && l.2.2.2.2.1==page)
theorem QrW (l:QJ) (g page:Int):F_k (l,g,page,())=some ((QbH l g page,()),()):=by
 unfold F_k QbH;cases l.1==g <;> cases l.2.2.2.1==page <;> cases l.2.1==g <;> rfl
theorem Qsp (l:QJ) (g page:Int):F_cl (l,g,page,())=some ((QbH l g page,()),()):=by
 unfold F_cl QbH;cases l.1==g <;> cases l.2.2.2.1==page <;> cases l.2.1==g <;> rfl
def clash (l o:QJ):Bool:=o.2.2.1==l.2.2.1 || (QbH o l.1 l.2.2.2.1 || QbH o l.2.1 l.2.2.2.2.1)
def inB (n a b:Int):Bool:=decide (n≥a) && decide (n≤b)
theorem Qah (n a b:Int):F_cc (n,a,b,())=some ((inB n a b,()),()):=Qbw n a b
theorem QaA (n a b:Int):F_e (n,a,b,())=some ((inB n a b,()),()):=QbX n a b
def QeD (p:PolD) (l:QJ) (ahead:List QJ):Int:=
 if Qdd p l.1 l.2.1≠0 then Qdd p l.1 l.2.1
 else if inB l.2.2.1 0 23=true∧inB l.2.2.2.1 5 6=true∧inB l.2.2.2.2.1 5 6=true then
  (if leI 0 (QfU p.1 l.2.2.1)=true then 6 else if ahead.any (clash l)=true then 6 else 0) else 3
theorem QuZ (l o:QJ):F_cm_1 (o,l,())=some ((clash l o,()),()):=by
 unfold F_cm_1 clash;dsimp only;rw [Qsp,Qsp];simp only [Obn];cases o.2.2.1==l.2.2.1 <;> cases QbH o l.1 l.2.2.2.1 <;> rfl
theorem Qpg (l:QJ) (m:List QJ) (hm:m.length≤1048576):F_cp_1 (m,(l,()),())=some ((m.any (clash l),()),()):=by
 have b:=QW (step:=l_co_2) (γ:=denO o_j_2) (fun i=>((m,(l,()),((m.length:Nat):Int),((i:Nat):Int),()),(),())) m
  (fun i o=>if clash l o=true then some ((i:Nat):Int) else none) (fun c=>some (.inr (.inl ((c,()),(),())))) (some (.inl ((),(),()))) (Qbo hm) ?_ ?_
 ·unfold F_cp_1 F_cn_1;show ((Qb l_co_2 lots ((m,(l,()),((m.length:Nat):Int),((0:Nat):Int),()),(),())).bind _).bind _=_;rw [b, ←QfC (P:=clash l) (m:=m) (f:=fun i o=>if clash l o=true then some ((i:Nat):Int) else none) (fun _ _=>rfl)]
  cases scan (fun i o=>if clash l o=true then some ((i:Nat):Int) else none) 0 m <;> rfl
 ·intro rec i a;unfold l_co_2;dsimp only;rw [if_pos (lt_t a),if_pos nat0,Ql a,QH (lt1 a hm),QuZ,Obn];dsimp only;cases clash l m[i] <;> rfl
 ·intro rec;unfold l_co_2;dsimp only;rw [if_neg Qax]
theorem QnO (p:PolD) (l:QJ) (ahead:List QJ) (h:p.1.length≤1048576) (h2: ∀l∈p.1,l.length≤1048576) (hm:ahead.length≤1048576):F_cm (p,l,ahead,())=some ((QeD p l ahead,()),()):=by
 unfold F_cm QeD;dsimp only;rw [QrX p _ _ h,Qah,Qah,Qah,QnH p _ h h2,Qpg l ahead hm];simp only [Obn];by_cases a:Qdd p l.1 l.2.1=0
 ·rw [a];cases b:inB l.2.2.1 0 23 <;> cases c:inB l.2.2.2.1 5 6 <;> cases d:inB l.2.2.2.2.1 5 6 <;> cases e:leI 0 (QfU p.1 l.2.2.1) <;> cases f:ahead.any (clash l) <;> simp
 ·simp [a]
def nz (c:Int):Option Int:=if c≠0 then some c else none
def Qcd (p:PolD):Option Int:=scan (fun i l=>nz (QeD p l (p.2.1.take i))) 0 p.2.1
theorem QnX (p:PolD) (i:Nat) (hi:i< p.2.1.length) (hm:p.2.1.length≤1048576) (l:QJ) (a1:Int) (a2 a3:Bool) (a4:Int) (a5 a6:Bool):
  (((p.2.1.take i).any (clash l)=true∧Qb l_l_15 lots ((p,(i:Int),(),0,(),a1,a2,a3,(),a4,a5,a6,()),((l.1,l.2.1,l.2.2.1,l.2.2.2.1,l.2.2.2.2.1,()),()),())=some (.inr (.inl ((6,()),(),()))))∨
   ((p.2.1.take i).any (clash l)=false∧ ∃x,Qb l_l_15 lots ((p,(i:Int),(),0,(),a1,a2,a3,(),a4,a5,a6,()),((l.1,l.2.1,l.2.2.1,l.2.2.2.1,l.2.2.2.2.1,()),()),())=some (.inl x)∧x.1.1=p∧x.1.2.1=(i:Int))):=by
 have n:(p.2.1.take i).length=i:=by simp; omega
 obtain ⟨x,q,d,e⟩: ∃x,(∀rec,l_l_15 rec ((p,(i:Int),(),(i:Int),(),a1,a2,a3,(),a4,a5,a6,()),((l.1,l.2.1,l.2.2.1,l.2.2.2.1,l.2.2.2.2.1,()),()),())=some (.inl x))∧x.1.1=p∧x.1.2.1=(i:Int):=by
  refine ⟨((p,(i:Int),(),a1,a2,a3,(),a4,a5,a6,()),((l.1,l.2.1,l.2.2.1,l.2.2.2.1,l.2.2.2.2.1,()),()),()),fun rec=>?_,rfl,rfl⟩
  unfold l_l_15;dsimp only;rw [if_neg Qax]
 have a:=QW (step:=l_l_15) (γ:=denO o_l_15) (fun k=>((p,(i:Int),(),((k:Nat):Int),(),a1,a2,a3,(),a4,a5,a6,()),((l.1,l.2.1,l.2.2.1,l.2.2.2.1,l.2.2.2.2.1,()),()),())) (p.2.1.take i)
  (fun _ o=>if clash l o=true then some () else none) (fun _=>some (.inr (.inl ((6,()),(),())))) (some (.inl x)) (Qbo (by omega)) ?_ ?_
 ·have h:=QeK (f:=fun (_:Nat) o=>if clash l o=true then some () else none) (p:=clash l) (m:=p.2.1.take i) (i:=0) (fun j r=>by cases clash l (p.2.1.take i)[j] <;> rfl)
  have g:((0:Nat):Int)=0:=rfl;rw [g] at a;rw [a, ←h];cases scan (fun (_:Nat) o=>if clash l o=true then some () else none) 0 (p.2.1.take i) with
  | some c=>exact .inl ⟨rfl,rfl⟩
  | none=>exact .inr ⟨rfl,x,rfl,d,e⟩
 ·intro rec k s;have b:k< i:=by omega
  unfold l_l_15;dsimp only;rw [if_pos (lt_t b),if_pos nat0,Ql (by omega),QH (by omega),QrW,QrW,List.getElem_take]
  simp only [Obn,clash];rcases Bool.eq_false_or_eq_true ((p.2.1[k]).2.2.1==l.2.2.1) with c1 | c1 <;> rcases Bool.eq_false_or_eq_true (QbH p.2.1[k] l.1 l.2.2.2.1) with c2 | c2 <;> rcases Bool.eq_false_or_eq_true (QbH p.2.1[k] l.2.1 l.2.2.2.2.1) with c3 | c3 <;> simp [c1,c2,c3]
 ·intro rec;rw [n];exact q rec
theorem Qil (p:PolD) (h:p.1.length≤1048576) (h2: ∀l∈p.1,l.length≤1048576) (hm:p.2.1.length≤1048576):
  F_l (p,())=some ((if p.2.1.length≤4∧p.2.2.1.length≤4 then (match Qcd p with | some c=>c | none=>0) else 2,()),()):=by
 have b:=QW (step:=l_l_4) (γ:=denO o_l_4) (fun i=>((p,((i:Nat):Int),()),(),())) p.2.1 (fun i l=>nz (QeD p l (p.2.1.take i)))
  (fun c=>some (.inr (.inl ((c,()),(),())))) (some (.inl ((),(),()))) (Qbo hm) ?_ ?_
 ·have g:((0:Nat):Int)=0:=rfl;rw [g] at b;unfold F_l Qcd;dsimp only;by_cases m:p.2.1.length≤4
  ·rw [if_pos (by rw [Qbe]; omega)]
   by_cases n:p.2.2.1.length≤4
   ·rw [if_neg (by rw [QB]; omega),if_pos ⟨m,n⟩]
    show (Qb l_l_4 lots ((p,0,()),(),())).bind _=_;rw [b];cases scan (fun i l=>nz (QeD p l (p.2.1.take i))) 0 p.2.1 <;> rfl
   ·rw [if_pos (by rw [QB]; omega),if_neg (by omega)]
  ·rw [if_neg (by rw [Qbe]; omega),if_neg (by omega)]
 ·intro rec i a;unfold l_l_4;dsimp only;rw [if_pos (lt_t a),if_pos nat0,Ql a,QrQ p _ _ h,QaA,QaA,QaA,Qvu p _ h h2];simp only [Obn];generalize p.2.1[i]=l;unfold QeD;by_cases f:Qdd p l.1 l.2.1=0
  ·rw [f];cases o:inB l.2.2.1 0 23
   ·simp [nz]
   cases q:inB l.2.2.2.1 5 6
   ·simp [nz]
   cases r:inB l.2.2.2.2.1 5 6
   ·simp [nz]
   cases s:leI 0 (QfU p.1 l.2.2.1)
   ·rw [if_neg (by simp),if_pos (by simp),if_pos (by simp),if_neg (by simp),if_neg (by simp),if_neg (by simp),if_pos (by simp),if_neg (by simp)]
    rcases QnX p i a hm l l.2.2.2.1 true (!true) l.2.2.2.2.1 true (!true) with ⟨d,e⟩ | ⟨d,x,e,j,k⟩
    ·show (Qb l_l_15 lots ((p,(i:Int),(),0,(),l.2.2.2.1,true,(!true),(),l.2.2.2.2.1,true,(!true),()),((l.1,l.2.1,l.2.2.1,l.2.2.2.1,l.2.2.2.2.1,()),()),())).bind _=_;rw [d,e];rfl
    ·show (Qb l_l_15 lots ((p,(i:Int),(),0,(),l.2.2.2.1,true,(!true),(),l.2.2.2.2.1,true,(!true),()),((l.1,l.2.1,l.2.2.1,l.2.2.2.1,l.2.2.2.2.1,()),()),())).bind _=_;rw [d,e,Obn];dsimp only;rw [j,k,QH (lt1 a hm)];rfl
   ·simp [nz]
  ·simp [f,nz]
 ·intro rec;unfold l_l_4;dsimp only;rw [if_neg Qax]
def Qas (b o:TwoD):Bool:=(b.1==o.1) && ((b.2.1==o.2.1) && true)
def Qfz (p:PolD) (b:TwoD) (ahead:List TwoD):Int:=if Qdd p b.1 b.2.1≠0 then Qdd p b.1 b.2.1 else if ahead.any (Qas b)=true then 6 else 0
def Qep (p:PolD):Option Int:=scan (fun i b=>nz (Qfz p b (p.2.2.1.take i))) 0 p.2.2.1
def Qjp (p:PolD):Int:=if 1≤p.2.2.2.1.length∧p.2.2.2.1.length≤8 then
 (match scan (fun (_:Nat) (s:TwoD)=>if isG p s.1=true then (if inB s.2.1 1 50=true then none else some (3:Int)) else some 4) 0 p.2.2.2.1 with | some c=>c | none=>0) else 2
theorem Qrc (b o:TwoD):Qas b o=Qas o b:=by
 unfold Qas;rw [Bool.eq_iff_iff];simp;constructor <;> rintro ⟨h1,h2⟩ <;> exact ⟨h1.symm,h2.symm⟩
theorem QiW (b:TwoD) (m:List TwoD) (hm:m.length≤1048576):F_cr (m,b,())=some ((m.any (Qas b),()),()):=by
 have d:=QW (step:=l_cq_2) (γ:=denO o_j_2) (fun i=>((m,(),((m.length:Nat):Int),((i:Nat):Int),()),((b.1,b.2.1,()),()),())) m
  (fun i o=>if Qas b o=true then some ((i:Nat):Int) else none) (fun c=>some (.inr (.inl ((c,()),(),())))) (some (.inl ((),(),()))) (Qbo hm) ?_ ?_
 ·unfold F_cr F_cq;show ((Qb l_cq_2 lots ((m,(),((m.length:Nat):Int),((0:Nat):Int),()),((b.1,b.2.1,()),()),())).bind _).bind _=_;rw [d, ←QfC (P:=Qas b) (m:=m) (f:=fun i o=>if Qas b o=true then some ((i:Nat):Int) else none) (fun _ _=>rfl)]
  cases scan (fun i o=>if Qas b o=true then some ((i:Nat):Int) else none) 0 m <;> rfl
 ·intro rec i a;unfold l_cq_2;dsimp only;rw [if_pos (lt_t a),if_pos nat0,Ql a,QH (lt1 a hm)];show (if Qas b m[i]=true then _ else _)=_
  cases Qas b m[i] <;> rfl
 ·intro rec;unfold l_cq_2;dsimp only;rw [if_neg Qax]
theorem QnA (p:PolD) (b:TwoD) (ahead:List TwoD) (h:p.1.length≤1048576) (hm:ahead.length≤1048576):F_cs (p,b,ahead,())=some ((Qfz p b ahead,()),()):=by
 unfold F_cs Qfz;dsimp only;rw [QrX p _ _ h,QiW b ahead hm];simp only [Obn];by_cases a:Qdd p b.1 b.2.1=0
 ·rw [a];cases ahead.any (Qas b) <;> simp
 ·simp [a]
theorem QiN (p:PolD) (i:Nat) (hi:i< p.2.2.1.length) (hm:p.2.2.1.length≤1048576) (b:TwoD):
  Qb l_w_9 lots ((p,(i:Int),(),0,()),((b.1,b.2.1,()),()),())=if (p.2.2.1.take i).any (Qas b)=true then some (.inr (.inl ((6,()),(),()))) else some (.inl ((p,(i:Int),()),(),())):=by
 have g:(p.2.2.1.take i).length=i:=by simp; omega
 have a:=QW (step:=l_w_9) (γ:=denO o_w_9) (fun k=>((p,(i:Int),(),((k:Nat):Int),()),((b.1,b.2.1,()),()),())) (p.2.2.1.take i)
  (fun _ o=>if Qas b o=true then some () else none) (fun _=>some (.inr (.inl ((6,()),(),())))) (some (.inl ((p,(i:Int),()),(),()))) (Qbo (by omega)) ?_ ?_
 ·have e:=QeK (f:=fun (_:Nat) o=>if Qas b o=true then some () else none) (p:=Qas b) (m:=p.2.2.1.take i) (i:=0) (fun j h=>by cases Qas b (p.2.2.1.take i)[j] <;> rfl)
  have d:((0:Nat):Int)=0:=rfl;rw [d] at a;rw [a, ←e];cases scan (fun (_:Nat) o=>if Qas b o=true then some () else none) 0 (p.2.2.1.take i) <;> rfl
 ·intro rec k l;have c:k< i:=by omega
  unfold l_w_9;dsimp only;rw [if_pos (lt_t c),if_pos nat0,Ql (by omega),QH (by omega),List.getElem_take]
  show (if Qas p.2.2.1[k] b=true then _ else _)=_
  rw [Qrc];cases Qas b p.2.2.1[k] <;> rfl
 ·intro rec;unfold l_w_9;dsimp only;rw [g,if_neg Qax]
theorem QlH (p:PolD) (h:p.1.length≤1048576) (hm:p.2.2.2.1.length≤1048576):
  Qb l_w_16 lots ((p,0,()),(),())=match scan (fun (_:Nat) (s:TwoD)=>if isG p s.1=true then (if inB s.2.1 1 50=true then none else some (3:Int)) else some 4) 0 p.2.2.2.1 with
   | some c=>some (.inr (.inl ((c,()),(),()))) | none=>some (.inl ((),(),())):=by
 have b:=QW (step:=l_w_16) (γ:=denO o_g_15) (fun i=>((p,((i:Nat):Int),()),(),())) p.2.2.2.1 (fun (_:Nat) (s:TwoD)=>if isG p s.1=true then (if inB s.2.1 1 50=true then none else some (3:Int)) else some 4) (fun c=>some (.inr (.inl ((c,()),(),())))) (some (.inl ((),(),()))) (Qbo hm) ?_ ?_
 ·have d:((0:Nat):Int)=0:=rfl;rw [d] at b;rw [b];cases scan (fun (_:Nat) (s:TwoD)=>if isG p s.1=true then (if inB s.2.1 1 50=true then none else some (3:Int)) else some 4) 0 p.2.2.2.1 <;> rfl
 ·intro rec i a;unfold l_w_16;dsimp only;rw [if_pos (lt_t a),if_pos nat0,Ql a,QcL p _ h,Obn];cases e:isG p (p.2.2.2.1[i]).1
  ·simp
  ·rw [if_neg (by simp),if_pos nat0,Ql a,QaA,Obn]
   cases f:inB (p.2.2.2.1[i]).2.1 1 50
   ·simp
   ·rw [if_neg (by simp),QH (lt1 a hm)]; simp
 ·intro rec;unfold l_w_16;dsimp only;rw [if_neg Qax]
theorem QpK (p:PolD) (h:p.1.length≤1048576) (h3:p.2.2.1.length≤1048576) (h4:p.2.2.2.1.length≤1048576):
  F_w (p,())=some ((match Qep p with | some c=>c | none=>Qjp p,()),()):=by
 have d:=QW (step:=l_w_2) (γ:=denO o_g_4) (fun i=>((p,((i:Nat):Int),()),(),())) p.2.2.1 (fun i b=>nz (Qfz p b (p.2.2.1.take i)))
  (fun c=>some (.inr (.inl ((c,()),(),())))) (some (.inl ((p,()),(),()))) (Qbo h3) ?_ ?_
 ·have f:((0:Nat):Int)=0:=rfl;rw [f] at d;unfold F_w Qep;show (Qb l_w_2 lots ((p,0,()),(),())).bind _=_;rw [d];cases scan (fun i b=>nz (Qfz p b (p.2.2.1.take i))) 0 p.2.2.1 with
  | some c=>rfl
  | none=>
   rw [Obn];dsimp only;unfold Qjp;by_cases g:1≤p.2.2.2.1.length
   ·rw [if_pos (by rw [Qbe]; omega)]
    by_cases j:p.2.2.2.1.length≤8
    ·rw [if_neg (by rw [QB]; omega),if_pos ⟨g,j⟩]
     show (Qb l_w_16 lots ((p,0,()),(),())).bind _=_;rw [QlH p h h4];cases scan (fun (_:Nat) (s:TwoD)=>if isG p s.1=true then (if inB s.2.1 1 50=true then none else some (3:Int)) else some 4) 0 p.2.2.2.1 <;> rfl
    ·rw [if_pos (by rw [QB]; omega),if_neg (by omega)]
   ·rw [if_neg (by rw [Qbe]; omega),if_neg (by omega)]
 ·intro rec i a;unfold l_w_2;dsimp only;rw [if_pos (lt_t a),if_pos nat0,Ql a,QrQ p _ _ h,Obn];generalize p.2.2.1[i]=b;unfold Qfz;by_cases e:Qdd p b.1 b.2.1=0
  ·rw [e,if_neg (by simp)]
   show (Qb l_w_9 lots ((p,(i:Int),(),0,()),((b.1,b.2.1,()),()),())).bind _=_;rw [QiN p i a h3 b];cases (p.2.2.1.take i).any (Qas b)
   ·rw [if_neg (by simp),Obn]
    dsimp only;rw [QH (lt1 a h3)];rfl
   ·rfl
  ·simp [e,nz]
 ·intro rec;unfold l_w_2;dsimp only;rw [if_neg Qax]
theorem QoW (p:PolD) (h:p.1.length≤1048576) (hm:p.2.2.2.1.length≤1048576):F_ct (p,())=some ((Qjp p,()),()):=by
 have a:=QW (step:=l_ct_4) (γ:=denO o_l_4) (fun i=>((p,p.2.2.2.1,((p.2.2.2.1.length:Nat):Int),((i:Nat):Int),()),(),())) p.2.2.2.1
  (fun (_:Nat) (s:TwoD)=>if isG p s.1=true then (if inB s.2.1 1 50=true then none else some (3:Int)) else some 4) (fun c=>some (.inr (.inl ((c,()),(),())))) (some (.inl ((),(),()))) (Qbo hm) ?_ ?_
 ·have d:((0:Nat):Int)=0:=rfl;rw [d] at a;unfold F_ct Qjp;dsimp only;rw [Qah,Obn];by_cases g:1≤p.2.2.2.1.length∧p.2.2.2.1.length≤8
  ·have:inB ((p.2.2.2.1.length:Nat):Int) 1 8=true:=by unfold inB; simp; omega
   rw [this,if_neg (by simp),if_pos g]
   show (Qb l_ct_4 lots ((p,p.2.2.2.1,((p.2.2.2.1.length:Nat):Int),0,()),(),())).bind _=_;rw [a];cases scan (fun (_:Nat) (s:TwoD)=>if isG p s.1=true then (if inB s.2.1 1 50=true then none else some (3:Int)) else some 4) 0 p.2.2.2.1 <;> rfl
  ·have:inB ((p.2.2.2.1.length:Nat):Int) 1 8=false:=by unfold inB; simp; omega
   rw [this,if_pos (by simp),if_neg g]
 ·intro rec i b;unfold l_ct_4;dsimp only;rw [if_pos (lt_t b),if_pos nat0,Ql b,QcK p _ h,Obn,Qah,Obn,QH (lt1 b hm)];cases e:isG p (p.2.2.2.1[i]).1
  ·simp
  ·cases f:inB (p.2.2.2.1[i]).2.1 1 50 <;> simp
 ·intro rec;unfold l_ct_4;dsimp only;rw [if_neg Qax]
def own1 (l:List Int):Option Int:=if 1≤l.length∧l.length≤5 then scan (fun (_:Nat) x=>if inB x 0 23=true then none else some (3:Int)) 0 l else some 2
def dupM:List Int→List Int→Bool
 | _,[]=>false
 | seen,x::r=>seen.contains x || dupM (seen++[x]) r
def Qen (own:List (List Int)):Int:=if 1≤own.length∧own.length≤3 then (match scan (fun (_:Nat) l=>own1 l) 0 own with | some c=>c | none=>if dupM [] own.flatten=true then 6 else 0) else 2
theorem QpJ {T:Type} (p:PolD) (i:Nat) (hi:i< p.1.length) (hl:(p.1[i]).length≤1048576) (a1 a2:PolD) (b1 b2:List (List Int)) (c:Int) (d1 d2:List Int) (e1:Int) (e2:Bool):
  ((scan (fun (_:Nat) x=>if inB x 0 23=true then none else some (3:Int)) 0 p.1[i]=none∧ ∃x,Qb l_g_9 lots ((p,(i:Int),0,a1,a2,b1,b2,c,d1,d2,e1,e2,()),(),())=some (.inl x)∧x.1.1=p∧x.1.2.1=(i:Int))∨
   (scan (fun (_:Nat) x=>if inB x 0 23=true then none else some (3:Int)) 0 p.1[i]=some 3∧Qb l_g_9 lots ((p,(i:Int),0,a1,a2,b1,b2,c,d1,d2,e1,e2,()),(),())=some (.inr (.inl ((3,()),(),()))))):=by
 have a:=QW (step:=l_g_9) (γ:=denO o_g_9) (fun k=>((p,(i:Int),((k:Nat):Int),a1,a2,b1,b2,c,d1,d2,e1,e2,()),(),())) p.1[i]
  (fun (_:Nat) x=>if inB x 0 23=true then none else some (3:Int)) (fun c=>some (.inr (.inl ((c,()),(),())))) (some (.inl ((p,(i:Int),a1,a2,b1,b2,c,d1,d2,e1,e2,()),(),()))) (Qbo hl) ?_ ?_
 ·have e:((0:Nat):Int)=0:=rfl;rw [e] at a;rw [a];cases f:scan (fun (_:Nat) x=>if inB x 0 23=true then none else some (3:Int)) 0 p.1[i] with
  | none=>exact .inl ⟨rfl,_,rfl,rfl,rfl⟩
  | some c=>
   have:c=3:=QcZ (P:=fun c=>c=3) (fun j g c b=>by
    split at b
    ·cases b
    ·exact (Osj b).symm) c f
   subst this;exact .inr ⟨rfl,rfl⟩
 ·intro rec k d;unfold l_g_9;dsimp only;rw [if_pos nat0,Ql hi,if_pos (lt_t d),if_pos nat0,Ql hi,if_pos nat0,Ql d,QaA,Obn,QH (lt1 d hl)];cases inB (p.1[i])[k] 0 23 <;> rfl
 ·intro rec;unfold l_g_9;dsimp only;rw [if_pos nat0,Ql hi,if_neg Qax]
theorem QfE: ∀(l seen r:List Int),dupM seen (l++r)=(dupM seen l || dupM (seen++l) r)
 | [],seen,r=>by simp [dupM]
 | x::l,seen,r=>by
  simp only [List.cons_append,dupM,QfE l (seen++[x]) r,Bool.or_assoc,List.append_assoc,List.singleton_append,List.nil_append]
theorem QpL (p:PolD) (seen:List Int) (i:Nat) (hi:i< p.1.length) (hl:(p.1[i]).length≤1048576) (hs:seen.length≤4194304) (hs2:seen.length+(p.1[i]).length≤1048576):
  Qb l_g_18 lots ((p,seen,(i:Int),0,()),(),())=if dupM seen p.1[i]=true then some (.inr (.inl ((6,()),(),()))) else some (.inl ((p,seen++p.1[i],(i:Int),()),(),())):=by
 have d:=Qdj (step:=l_g_18) (γ:=denO o_g_18) (fun k (s:List Int)=>((p,s,(i:Int),((k:Nat):Int),()),(),())) (p.1[i]).length (Qao (Qbo hl)) (fun k s=>s=seen++(p.1[i]).take k)
  (fun k s=>if dupM s ((p.1[i]).drop k)=true then some (.inr (.inl ((6,()),(),()))) else some (.inl ((p,seen++p.1[i],(i:Int),()),(),()))) ?_ 0 seen (by omega) (by simp)
 ·exact d
 ·rintro rec k s hk hsk ih;unfold l_g_18;dsimp only;rw [if_pos nat0,Ql hi];by_cases a:k< (p.1[i]).length
  ·have e:s.length=seen.length+k:=by rw [hsk]; simp; omega
   rw [if_pos (lt_t a),if_pos nat0,Ql hi,if_pos nat0,Ql a,Qpf _ _ (by omega),Obn,QaQ a]
   rw [show dupM s ((p.1[i])[k]::(p.1[i]).drop (k+1))=(s.contains (p.1[i])[k] || dupM (s++[(p.1[i])[k]]) ((p.1[i]).drop (k+1))) from rfl]
   by_cases b:s.contains (p.1[i])[k]=true
   ·rw [if_pos b,b];simp
   ·rw [if_neg b,if_pos nat0,Ql hi,if_pos nat0,Ql a,if_pos (by simp; omega),QH (lt1 a hl)]
    have c:s.contains (p.1[i])[k]=false:=by simpa using b
    rw [c,Bool.false_or];refine ih _ a ?_;rw [hsk,List.append_assoc,List.take_add_one,List.getElem?_eq_getElem a];rfl
  ·rw [if_neg (lt_f a),Qbl a];rw [show dupM s []=false from rfl]
   rw [hsk,List.take_of_length_le (by omega)]
   simp
theorem Qmm {own:List (List Int)} {i:Nat} (hi:i< own.length):(own.take (i+1)).flatten=(own.take i).flatten++own[i]:=by
 have e:own.take (i+1)=own.take i++[own[i]]:=by rw [List.take_add_one,List.getElem?_eq_getElem hi]; rfl
 rw [e,List.flatten_append];simp
theorem Qvt {l:List Int} (h:own1 l=none):l.length≤5:=by
 unfold own1 at h;split at h
 ·rename_i a; exact a.2
 ·cases h
theorem QgE {α β:Type} {f:Nat→α→Option β}: ∀{m:List α} {i:Nat},scan f i m=none→ ∀j (h:j< m.length),f (i+j) m[j]=none
 | [],_,_,j,h=>by simp at h
 | x::r,i,hs,j,h=>by
  simp only [scan] at hs;split at hs
  ·cases hs
  ·rename_i h0;cases j with
   | zero=>simpa using h0
   | succ j=>
    have:=QgE hs j (by simpa using h)
    simpa [Nat.add_assoc,Nat.add_comm,Nat.add_left_comm] using this
theorem QoI {own:List (List Int)} (h: ∀j (hj:j< own.length),(own[j]).length≤5): ∀i,i≤own.length→(own.take i).flatten.length≤5*i
 | 0,_=>by simp
 | i+1,hi=>by
  rw [Qmm (by omega),List.length_append]
  have:=QoI h i (by omega)
  have:=h i (by omega)
  omega
theorem Qjv (p:PolD) (h:p.1.length≤1048576) (h2: ∀l∈p.1,l.length≤1048576):F_g (p,())=some ((Qen p.1,()),()):=by
 unfold F_g Qen;dsimp only;by_cases r:1≤p.1.length
 case neg=>rw [if_neg (by rw [Qbe]; omega),if_neg (by omega)]
 rw [if_pos (by rw [Qbe]; omega)]
 by_cases t:p.1.length≤3
 case neg=>rw [if_pos (by rw [QB]; omega),if_neg (by omega)]
 rw [if_neg (by rw [QB]; omega),if_pos ⟨r,t⟩]
 have e:=QW (step:=l_g_4) (γ:=denO o_g_4) (fun i=>((p,((i:Nat):Int),()),(),())) p.1 (fun (_:Nat) l=>own1 l)
  (fun c=>some (.inr (.inl ((c,()),(),())))) (some (.inl ((p,()),(),()))) (Qbo h) ?_ ?_
 ·have m:((0:Nat):Int)=0:=rfl;rw [m] at e;show (Qb l_g_4 lots ((p,0,()),(),())).bind _=_;rw [e];cases y:scan (fun (_:Nat) l=>own1 l) 0 p.1 with
  | some c=>rfl
  | none=>
   rw [Obn];dsimp only;have n: ∀j (q:j< p.1.length),(p.1[j]).length≤5:=fun j q=>Qvt (QgE y j q)
   have d:=Qdj (step:=l_g_15) (γ:=denO o_g_15) (fun k (s:List Int)=>((p,s,((k:Nat):Int),()),(),())) p.1.length (Qao (Qbo h)) (fun k s=>s=(p.1.take k).flatten)
    (fun k s=>if dupM s ((p.1.drop k).flatten)=true then some (.inr (.inl ((6,()),(),()))) else some (.inl ((),(),()))) ?_ 0 [] (by omega) (by simp)
   ·show (Qb l_g_15 lots ((p,[],0,()),(),())).bind _=_;rw [m] at d;rw [d,List.drop_zero];cases dupM [] p.1.flatten <;> rfl
   ·rintro rec k s hk hsk ih;unfold l_g_15;dsimp only;by_cases a:k< p.1.length
    ·have o:=QoI n k hk;rw [←hsk] at o;have:=n k a;rw [if_pos (lt_t a),QaQ a,List.flatten_cons,QfE];show (Qb l_g_18 lots ((p,s,(k:Int),0,()),(),())).bind _=_;rw [QpL p s k a (by omega) (by omega) (by omega)]
     cases hd:dupM s p.1[k]
     ·rw [if_neg (by simp),Obn]
      dsimp only;rw [QH (lt1 a h),Bool.false_or];exact ih _ a (by rw [hsk,Qmm a])
     ·rfl
    ·rw [if_neg (lt_f a),Qbl a];rfl
 ·intro rec i b;unfold l_g_4;dsimp only;have w:=h2 _ (List.getElem_mem b);rw [if_pos (lt_t b),if_pos nat0,Ql b];unfold own1;by_cases z:1≤(p.1[i]).length
  case neg=>rw [if_neg (by rw [Qbe]; omega),if_neg (by omega)]
  rw [if_pos (by rw [Qbe]; omega),if_pos nat0,Ql b]
  by_cases k2:(p.1[i]).length≤5
  case neg=>rw [if_pos (by rw [QB]; omega),if_neg (by omega)]
  rw [if_neg (by rw [QB]; omega),if_pos ⟨z,k2⟩]
  rcases QpJ (T:=Unit) p i b w p p p.1 p.1 (i:Int) p.1[i] p.1[i] (((p.1[i]).length:Nat):Int) (ltI 5 (((p.1[i]).length:Nat):Int)) with ⟨g,x,f,u,v⟩ | ⟨g,f⟩
  ·show (Qb l_g_9 lots _).bind _=_;rw [g,f,Obn];dsimp only;rw [u,v,QH (lt1 b h)]
  ·show (Qb l_g_9 lots _).bind _=_;rw [g,f];rfl
 ·intro rec;unfold l_g_4;dsimp only;rw [if_neg Qax]
theorem Qtb (es:List (Int×Bool)) (x y:Int):getM (setM es x true) y=(y==x || getM es y):=by
 induction es with
 | nil=>
  simp only [setM,getM];by_cases e:x=y
  ·subst e; simp
  ·rw [if_neg e]; simp [Ne.symm e]
 | cons a r c=>
  simp only [setM,getM];by_cases e:a.1=x
  ·rw [if_pos e];simp only [getM];by_cases b:x=y
   ·subst b; simp
   ·rw [if_neg b,if_neg (by rw [e]; exact b)]; simp [Ne.symm b]
  ·rw [if_neg e];simp only [getM];by_cases b:a.1=y
   ·subst b; rw [if_pos rfl,if_pos rfl]; simp [e]
   ·rw [if_neg b,if_neg b,c]
theorem QnI {T1 T2 T3:Int} (es:List (Int×Bool)) (t:Bool) (own:List (List Int)) (a b:Int) (l:List Int) (hl:l.length≤1048576) (seen:List Int) (hes: ∀y,getM es y=seen.contains y):
  (∃es',scan (fun (_:Nat) x=>if inB x 0 23=true then none else some (3:Int)) 0 l=none∧(∀y,getM es' y=(seen++l).contains y)∧
   Qb l_cd_10 lots ((es,t,own,a,b,l,((l.length:Nat):Int),0,()),(),())=some (.inl ((es',t || dupM seen l,own,a,b,()),(),())))∨
  (scan (fun (_:Nat) x=>if inB x 0 23=true then none else some (3:Int)) 0 l=some 3∧Qb l_cd_10 lots ((es,t,own,a,b,l,((l.length:Nat):Int),0,()),(),())=some (.inr (.inl ((3,()),(),())))):=by
 have j: ∀n (k:Nat) (es:List (Int×Bool)) (t:Bool) (seen:List Int),l.length-k< n→k≤l.length→(∀y,getM es y=seen.contains y)→
   (∃es',scan (fun (_:Nat) x=>if inB x 0 23=true then none else some (3:Int)) k (l.drop k)=none∧(∀y,getM es' y=(seen++l.drop k).contains y)∧
   Qb l_cd_10 n ((es,t,own,a,b,l,((l.length:Nat):Int),((k:Nat):Int),()),(),())=some (.inl ((es',t || dupM seen (l.drop k),own,a,b,()),(),())))∨
   (scan (fun (_:Nat) x=>if inB x 0 23=true then none else some (3:Int)) k (l.drop k)=some 3∧Qb l_cd_10 n ((es,t,own,a,b,l,((l.length:Nat):Int),((k:Nat):Int),()),(),())=some (.inr (.inl ((3,()),(),())))):=by
  intro n
  induction n with
  | zero=>intro k _ _ _ h; omega
  | succ n i=>
   intro k es t seen r q hes;simp only [Qb];generalize Qb l_cd_10 n=rec at i⊢;by_cases c:k< l.length
   ·have p:IntKind.i64.wrap ((k:Int)+1)=((k+1:Nat):Int):=QH (lt1 c hl);rw [QaQ c];simp only [scan,dupM]
    have f: ∀y,getM (setM es l[k] true) y=(seen++[l[k]]).contains y:=by
     intro y;rw [Qtb,hes];rw [Bool.eq_iff_iff];simp [or_comm]
    cases g:inB l[k] 0 23
    ·right;refine ⟨by simp,?_⟩
     unfold l_cd_10;dsimp only;rw [if_pos (lt_t c),if_pos nat0,Ql c,Qah,Obn,g];rfl
    ·have o:l_cd_10 rec ((es,t,own,a,b,l,((l.length:Nat):Int),((k:Nat):Int),()),(),())=rec ((setM es l[k] true,t || seen.contains l[k],own,a,b,l,((l.length:Nat):Int),((k+1:Nat):Int),()),(),()):=by
      unfold l_cd_10;dsimp only;rw [if_pos (lt_t c),if_pos nat0,Ql c,Qah,Obn,g,if_neg (by simp),p, ←hes]
      cases t <;> rfl
     rw [o];rcases i (k+1) (setM es l[k] true) (t || seen.contains l[k]) (seen++[l[k]]) (by omega) (by omega) f with ⟨es',d,e,m⟩ | ⟨d,e⟩
     ·left;refine ⟨es',by simpa using d,fun y=>by rw [e]; simp,?_⟩
      rw [m,Bool.or_assoc]
     ·right;exact ⟨by simpa using d,e⟩
   ·left;rw [Qbl c];refine ⟨es,rfl,by simpa using hes,?_⟩
    unfold l_cd_10;dsimp only;rw [if_neg (lt_f c)];simp [dupM]
 simpa using j lots 0 es t seen (by have:=Qao (Qbo hl); omega) (by omega) hes
theorem QoV (p:PolD) (h:p.1.length≤1048576) (h2: ∀l∈p.1,l.length≤1048576):F_cd (p,())=some ((Qen p.1,()),()):=by
 unfold F_cd Qen;dsimp only;rw [Qah,Obn];by_cases g:1≤p.1.length∧p.1.length≤3
 case neg=>
  have:inB ((p.1.length:Nat):Int) 1 3=false:=by unfold inB; simp; omega
  rw [this,if_pos (by simp),if_neg g]
 have:inB ((p.1.length:Nat):Int) 1 3=true:=by unfold inB; simp; omega
 rw [this,if_neg (by simp),if_pos g]
 have r: ∀n (k:Nat) (d:List (Int×Bool)) (t:Bool) (b:List Int),p.1.length-k< n→k≤p.1.length→(∀y,getM d y=b.contains y)→
   (Qb l_cd_5 n ((d,t,p.1,((p.1.length:Nat):Int),((k:Nat):Int),()),(),())=match scan (fun (_:Nat) l=>own1 l) k (p.1.drop k) with
    | some c=>some (.inr (.inl ((c,()),(),()))) | none=>some (.inl ((t || dupM b (p.1.drop k).flatten,()),(),()))):=by
  intro n
  induction n with
  | zero=>intro k _ _ _ h; omega
  | succ n o=>
   intro k d t b x w m;simp only [Qb];generalize Qb l_cd_5 n=rec at o⊢;by_cases a:k< p.1.length
   ·have u:=h2 _ (List.getElem_mem a);rw [QaQ a];simp only [scan,List.flatten_cons,QfE];unfold l_cd_5 own1;dsimp only;rw [if_pos (lt_t a),if_pos nat0,Ql a,Qah,Obn];by_cases j:1≤(p.1[k]).length∧(p.1[k]).length≤5
    ·have:inB (((p.1[k]).length:Nat):Int) 1 5=true:=by unfold inB; simp; omega
     rw [this,if_neg (by simp),if_pos j]
     rcases QnI (T1:=0) (T2:=0) (T3:=0) d t p.1 ((p.1.length:Nat):Int) ((k:Nat):Int) p.1[k] u b m with ⟨i,e,f,v⟩ | ⟨e,f⟩
     ·show (Qb l_cd_10 lots _).bind _=_;rw [e,v,Obn];dsimp only;rw [QH (lt1 a h),o (k+1) i _ (b++p.1[k]) (by omega) (by omega) f,Bool.or_assoc]
      rfl
     ·show (Qb l_cd_10 lots _).bind _=_;rw [e,f];rfl
    ·have:inB (((p.1[k]).length:Nat):Int) 1 5=false:=by unfold inB; simp; omega
     rw [this,if_pos (by simp),if_neg j]
   ·rw [Qbl a];unfold l_cd_5;dsimp only;rw [if_neg (lt_f a)];simp [scan,dupM]
 have q:=r lots 0 [] false [] (by have:=Qao (Qbo h); omega) (by omega) (fun y=>by simp [getM])
 have s:((0:Nat):Int)=0:=rfl;rw [s,List.drop_zero] at q;show (Qb l_cd_5 lots (([],false,p.1,((p.1.length:Nat):Int),0,()),(),())).bind _=_;rw [q];cases scan (fun (_:Nat) l=>own1 l) 0 p.1 with
 | some c=>rfl
 | none=>
  rw [Obn];dsimp only;cases dupM [] p.1.flatten <;> rfl
def polM (p:PolD):Int:=
 if Qen p.1≠0 then Qen p.1
 else if p.2.1.length≤4∧p.2.2.1.length≤4 then (match Qcd p with | some c=>c | none=>match Qep p with | some c=>c | none=>Qjp p) else 2
theorem Qvk {c d:Int} (h:nz c=some d):d≠0:=by
 unfold nz at h;split at h
 ·rename_i a; rw [←Osj h]; exact a
 ·cases h
theorem QiE {p:PolD} {c:Int} (h:Qcd p=some c):c≠0:=QcZ (P:=fun c=>c≠0) (fun j b c a=>Qvk a) c h
theorem QsL {p:PolD} {c:Int} (h:Qep p=some c):c≠0:=QcZ (P:=fun c=>c≠0) (fun j b c a=>Qvk a) c h
theorem Qhy (p:PolD) (h:QfX 1048576 p):F_x (p,())=some ((polM p,()),()):=by
 obtain ⟨⟨a,d⟩,f,g,i⟩:=h;unfold F_x polM;rw [Qjv p a d,Qil p a d f,QpK p a g i];simp only [Obn];by_cases b:Qen p.1=0
 ·simp only [b,bne_self_eq_false,Bool.false_eq_true,if_false,ne_eq,not_true_eq_false];by_cases e:p.2.1.length≤4∧p.2.2.1.length≤4
  ·simp only [if_pos e];cases j:Qcd p with
   | some c=>have:=QiE j; simp [this]
   | none=>simp <;> (cases Qep p <;> rfl)
  ·simp [if_neg e]
 ·rw [if_pos (by simpa using b),if_pos b]
theorem Qkq (p:PolD) (h:QfX 1048576 p):F_cu (p,())=some ((polM p,()),()):=by
 obtain ⟨⟨j,m⟩,n,o,q⟩:=h;unfold F_cu polM;dsimp only;rw [QoV p j m,Obn];dsimp only;by_cases k:Qen p.1=0
 case neg=>rw [if_pos (by simpa using k),if_pos k]
 simp only [k,bne_self_eq_false,Bool.false_eq_true,if_false,ne_eq,not_true_eq_false];by_cases s:p.2.1.length≤4
 case neg=>rw [if_neg (by rw [Qbe]; omega),if_neg (by omega)]
 rw [if_pos (by rw [Qbe]; omega)]
 by_cases t:p.2.2.1.length≤4
 case neg=>rw [if_pos (by rw [QB]; omega),if_neg (by omega)]
 rw [if_neg (by rw [QB]; omega),if_pos ⟨s,t⟩]
 have d:=QW (step:=l_cu_7) (γ:=denO o_cu_7) (fun i=>(((),p.2.1,((p.2.1.length:Nat):Int),((i:Nat):Int),()),(p,()),())) p.2.1 (fun i l=>nz (QeD p l (p.2.1.take i)))
  (fun c=>some (.inr (.inl ((c,()),(),())))) (some (.inl (((),()),(p,()),()))) (Qbo n) ?_ ?_
 ·have f:=QW (step:=l_cu_14) (γ:=denO o_cu_14) (fun i=>(((),p.2.2.1,((p.2.2.1.length:Nat):Int),((i:Nat):Int),()),(p,()),())) p.2.2.1 (fun i b=>nz (Qfz p b (p.2.2.1.take i)))
   (fun c=>some (.inr (.inl ((c,()),(),())))) (some (.inl (((),()),(p,()),()))) (Qbo o) ?_ ?_
  ·have r:((0:Nat):Int)=0:=rfl;rw [r] at d f;show (Qb l_cu_7 lots (((),p.2.1,((p.2.1.length:Nat):Int),0,()),(p,()),())).bind _=_;rw [d];unfold Qcd;cases scan (fun i l=>nz (QeD p l (p.2.1.take i))) 0 p.2.1 with
   | some c=>rfl
   | none=>
    rw [Obn];dsimp only;show (Qb l_cu_14 lots (((),p.2.2.1,((p.2.2.1.length:Nat):Int),0,()),(p,()),())).bind _=_;rw [f];unfold Qep;cases scan (fun i b=>nz (Qfz p b (p.2.2.1.take i))) 0 p.2.2.1 with
    | some c=>rfl
    | none=>
     rw [Obn];dsimp only;rw [QoW p j q,Obn]
  ·intro rec i a;unfold l_cu_14;dsimp only;rw [if_pos (lt_t a),if_pos nat0,Ql a,if_pos (show (0:Int)≤0∧(0:Int)≤(i:Int)∧(i:Int)≤((p.2.2.1.length:Nat):Int) from ⟨by omega,by omega,by omega⟩),QH (lt1 a o)]
   have e:(p.2.2.1.drop (0:Int).toNat).take (((i:Nat):Int).toNat-(0:Int).toNat)=p.2.2.1.take i:=by simp
   rw [e,QnA p _ _ j (by simp; omega),Obn]
   dsimp only;unfold nz;by_cases g:Qfz p p.2.2.1[i] (p.2.2.1.take i)=0
   ·rw [if_neg (by simpa using g),if_neg (by simpa using g)]
   ·rw [if_pos (by simpa using g),if_pos (by simpa using g)]
  ·intro rec;unfold l_cu_14;dsimp only;rw [if_neg Qax]
 ·intro rec i a;unfold l_cu_7;dsimp only;rw [if_pos (lt_t a),if_pos nat0,Ql a,if_pos (show (0:Int)≤0∧(0:Int)≤(i:Int)∧(i:Int)≤((p.2.1.length:Nat):Int) from ⟨by omega,by omega,by omega⟩),QH (lt1 a n)]
  have e:(p.2.1.drop (0:Int).toNat).take (((i:Nat):Int).toNat-(0:Int).toNat)=p.2.1.take i:=by simp
  rw [e,QnO p _ _ j m (by simp; omega),Obn]
  dsimp only;unfold nz;by_cases g:QeD p p.2.1[i] (p.2.1.take i)=0
  ·rw [if_neg (by simpa using g),if_neg (by simpa using g)]
  ·rw [if_pos (by simpa using g),if_pos (by simpa using g)]
 ·intro rec;unfold l_cu_7;dsimp only;rw [if_neg Qax]
def askM (p:PolD) (g:Int):Int:=if polM p≠0 then polM p else if isG p g=true then 0 else 4
theorem Qrh (p:PolD) (g:Int) (h:QfX 1048576 p):F_gu (p,g,())=some ((askM p g,()),()):=by
 unfold F_gu askM;rw [Qhy p h,QcL p g h.1.1];simp only [Obn];by_cases a:polM p=0
 ·rw [a]; cases isG p g <;> simp
 ·rw [if_pos (by simpa using a),if_pos a]
theorem Qbt {α β:Type} {f:Nat→α→Option β} {m:List α} (h:scan f 0 m=none): ∀x∈m, ∃i,f i x=none:=by
 intro x b;obtain ⟨i,a,rfl⟩:=List.mem_iff_getElem.1 b;exact ⟨_,QgE h i a⟩
structure OkPol (p:PolD):Prop where
 own:1≤p.1.length∧p.1.length≤3
 own1: ∀l∈p.1,1≤l.length∧l.length≤5∧ ∀x∈l,0≤x∧x≤23
 nodup:dupM [] p.1.flatten=false
 lanes:p.2.1.length≤4∧Qcd p=none
 bells:p.2.2.1.length≤4∧Qep p=none
 plan:1≤p.2.2.2.1.length∧p.2.2.2.1.length≤8
 slots: ∀s∈p.2.2.2.1,isG p s.1=true∧1≤s.2.1∧s.2.1≤50
theorem QbA {n a b:Int}:inB n a b=true↔a≤n∧n≤b:=by unfold inB; simp
theorem QdQ {p:PolD} (h:polM p=0):OkPol p:=by
 unfold polM at h;split at h
 ·rename_i m; exact absurd h m
 rename_i b;have b:Qen p.1=0:=by simpa using b
 split at h
 case isFalse=>cases h
 rename_i q;cases f:Qcd p with
 | some c=>rw [f] at h; exact absurd h (QiE f)
 | none=>
 rw [f] at h;dsimp only at h;cases d:Qep p with
 | some c=>rw [d] at h; exact absurd h (QsL d)
 | none=>
 rw [d] at h;dsimp only at h;unfold Qen at b;split at b
 case isFalse=>cases b
 rename_i u;unfold Qjp at h;split at h
 case isFalse=>cases h
 rename_i v;cases i:scan (fun (_:Nat) l=>Go.Proofs.YtkkljegcnnfanaaGreatDoor.own1 l) 0 p.1 with
 | some c=>
  rw [i] at b;dsimp only at b;subst b
  have:(0:Int)≠0:=QcZ (P:=fun c=>c≠0) (fun j r c a=>by
   unfold Go.Proofs.YtkkljegcnnfanaaGreatDoor.own1 at a;split at a
   ·exact QcZ (P:=fun c=>c≠0) (fun j r c a=>by
     split at a
     ·cases a
     ·rw [←Osj a]; decide) c a
   ·rw [←Osj a]; decide) _ i
  exact absurd rfl this
 | none=>
  rw [i] at b;dsimp only at b
  have w:dupM [] p.1.flatten=false:=by
   split at b
   ·cases b
   ·rename_i m; simpa using m
  refine ⟨u,?_,w,⟨q.1,f⟩,⟨q.2,d⟩,v,?_⟩
  ·intro l t;obtain ⟨_,e⟩:=Qbt i l t;unfold Go.Proofs.YtkkljegcnnfanaaGreatDoor.own1 at e;split at e
   ·rename_i g;refine ⟨g.1,g.2,fun x z=>?_⟩
    obtain ⟨_,o⟩:=Qbt e x z;split at o
    ·rename_i k; exact QbA.1 k
    ·cases o
   ·cases e
  ·intro s y;cases n:scan (fun (_:Nat) (s:TwoD)=>if isG p s.1=true then (if inB s.2.1 1 50=true then none else some (3:Int)) else some 4) 0 p.2.2.2.1 with
   | some c=>
    rw [n] at h;dsimp only at h;subst h
    have:(0:Int)≠0:=QcZ (P:=fun c=>c≠0) (fun j r c a=>by
     split at a
     ·split at a
      ·cases a
      ·rw [←Osj a]; decide
     ·rw [←Osj a]; decide) _ n
    exact absurd rfl this
   | none=>
    obtain ⟨_,e⟩:=Qbt n s y;split at e
    ·rename_i g;split at e
     ·rename_i k; exact ⟨g,QbA.1 k⟩
     ·cases e
    ·cases e
def Quh (m:List TwoD):Prop:=m.length≤8∧ ∀s∈m,1≤s.2.1∧s.2.1≤50
theorem OkPol.okPlan {p:PolD} (h:OkPol p):Quh p.2.2.2.1:=⟨h.plan.2,fun s a=>(h.slots s a).2⟩
def Qk (g:Int):List TwoD→Int
 | []=>0
 | s::r=>(if g< 0∨s.1=g then s.2.1 else 0)+Qk g r
theorem QaZ {g:Int}: ∀{m:List TwoD},(∀s∈m,1≤s.2.1∧s.2.1≤50)→0≤Qk g m∧Qk g m≤50*(m.length:Int)
 | [],_=>by simp [Qk]
 | s::r,h=>by
  have h1:=h s (by simp)
  have:=QaZ (g:=g) (m:=r) fun s a=>h s (List.mem_cons_of_mem _ a)
  simp only [Qk,List.length_cons];split <;> omega
theorem Qty {α:Type} {m:List α} {i:Nat} {P:α→Prop} (h: ∀s∈m,P s): ∀s∈m.drop i,P s:=fun s a=>h s (List.mem_of_mem_drop a)
theorem QhA (p:PolD) (g:Int) (h:Quh p.2.2.2.1):F_dd (p,g,())=some ((Qk g p.2.2.2.1,()),()):=by
 obtain ⟨l,i⟩:=h
 have d:=Qdj (step:=l_dd_3) (γ:=denO o_dd_3) (fun k (a:Int)=>((g,a,p.2.2.2.1,((p.2.2.2.1.length:Nat):Int),((k:Nat):Int),()),(),())) p.2.2.2.1.length (Qao (by omega)) (fun k a=>0≤a∧a≤50*(k:Int))
  (fun k a=>some (.inl ((a+Qk g (p.2.2.2.1.drop k),()),(),()))) ?_ 0 0 (by omega) (by omega)
 ·have e:((0:Nat):Int)=0:=rfl;rw [e] at d;unfold F_dd;show (Qb l_dd_3 lots ((g,0,p.2.2.2.1,((p.2.2.2.1.length:Nat):Int),0,()),(),())).bind _=_;rw [d,Obn];simp
 ·rintro rec k a hk ha ih;unfold l_dd_3;dsimp only;by_cases b:k< p.2.2.2.1.length
  ·have j:=i _ (List.getElem_mem b);rw [if_pos (lt_t b),if_pos nat0,Ql b,Qj (n:=a+(p.2.2.2.1[k]).2.1) (by omega) (by omega),QH (by omega),QaQ b]
   rw [show Qk g (p.2.2.2.1[k]::p.2.2.2.1.drop (k+1))=(if g< 0∨(p.2.2.2.1[k]).1=g then (p.2.2.2.1[k]).2.1 else 0)+Qk g (p.2.2.2.1.drop (k+1)) from rfl]
   by_cases f:g< 0
   ·rw [if_neg (by rw [Qbe]; omega),ih _ b (by omega),if_pos (.inl f),Int.add_assoc]
   ·rw [if_pos (by rw [Qbe]; omega)]
    by_cases c:(p.2.2.2.1[k]).1=g
    ·rw [if_pos (by simpa using c),ih _ b (by omega),if_pos (.inr c),Int.add_assoc]
    ·rw [if_neg (by simpa using c),ih _ b (by omega),if_neg (by omega),Int.zero_add]
  ·rw [if_neg (lt_f b),Qbl b];simp [Qk]
theorem Qxg {p:PolD} {g:Int} (h0:askM p g=0):OkPol p∧0≤g∧g< (p.1.length:Int):=by
 unfold askM at h0;split at h0
 ·rename_i a; exact absurd h0 a
 ·rename_i a;split at h0
  ·rename_i b;unfold isG at b;simp at b;exact ⟨QdQ (by simpa using a),by omega,by omega⟩
  ·cases h0
abbrev Qo:=PolD×List Int×List QM×Int×Int×Int×Unit
theorem Qir {γ:Type} {m:List Int} {z:Int} (n:Nat) (hz:z.toNat=n) (h:n< m.length) (K:Int→Option γ):(m[z.toNat]?).bind K=K (m.getD n 0):=by
 rw [hz,List.getElem?_eq_getElem h,Obn,List.getD_eq_getElem?_getD,List.getElem?_eq_getElem h];rfl
theorem QiC (n:Int):F_ad (n,())=some ((okW n,()),()):=by
 unfold F_ad;rw [QbX,Obn];rfl
theorem QrJ {α:Type} {p:α→Bool}: ∀(m:List α),m.any (fun y=>!p y)=!m.all p
 | []=>rfl
 | x::r=>by simp only [List.any_cons,List.all_cons,QrJ r,Bool.not_and]
theorem QbV (m:List Int) (hm:m.length≤1048576):F_ae (m,())=some ((allW m,()),()):=by
 have a:=QW (step:=l_ae_2) (γ:=denO o_ae_2) (fun i=>((m,((i:Nat):Int),()),(),())) m (fun _ y=>if okW y=true then none else some ())
  (fun _=>some (.inr (.inl ((false,()),(),())))) (some (.inl ((),(),()))) (Qbo hm) ?_ ?_
 ·have b:((0:Nat):Int)=0:=rfl;rw [b] at a;have:=QeK (f:=fun (_:Nat) y=>if okW y=true then none else some ()) (p:=fun y=>!okW y) (m:=m) (i:=0) (fun j c=>by cases okW m[j] <;> rfl)
  rw [QrJ] at this;have e:allW m=!(scan (fun (_:Nat) y=>if okW y=true then none else some ()) 0 m).isSome:=by rw [this,Bool.not_not]; rfl
  unfold F_ae;show (Qb l_ae_2 lots ((m,0,()),(),())).bind _=_;rw [a,e];cases scan (fun (_:Nat) y=>if okW y=true then none else some ()) 0 m <;> rfl
 ·intro rec i h;unfold l_ae_2;dsimp only;rw [if_pos (lt_t h),if_pos nat0,Ql h,QiC,Obn,QH (lt1 h hm)];cases okW m[i] <;> rfl
 ·intro rec;unfold l_ae_2;dsimp only;rw [if_neg Qax]
def hartM (h:QM):Int:=
 if h.1.length=16∧h.2.2.1.length=11∧h.1.getD 0 0=0 then
  (if allW h.1=true∧okW h.2.1=true∧allW h.2.2.1=true∧allW h.2.2.2.2.2.2.2.1=true∧allW h.2.2.2.2.2.2.2.2.1=true then
   (if h.2.2.2.2.2.2.2.1.length≤40∧h.2.2.2.2.2.2.2.2.1.length≤40 then
    (if inB h.2.2.2.2.2.2.1 0 1000000000=true then
     (if h.2.2.1.getD 0 0≤3∧h.2.2.1.getD 7 0≤7∧h.2.2.1.getD 10 0≤8∧h.2.2.1.getD 6 0=0∧h.2.2.1.getD 8 0=0 then 0 else 1) else 3) else 2) else 3) else 1
theorem Qgf (h:QM) (hl:Qbz 1048576 h):F_ds (h,())=some ((hartM h,()),()):=by
 obtain ⟨p,q,r,s⟩:=hl;unfold F_ds hartM;dsimp only;by_cases i:h.1.length=16
 case neg=>
  have: ¬((h.1.length:Nat):Int)=16:=by omega
  simp [i,this]
 rw [if_pos (by rw [i]; rfl)]
 by_cases j:h.2.2.1.length=11
 case neg=>
  have: ¬((h.2.2.1.length:Nat):Int)=11:=by omega
  simp [j,this]
 rw [if_pos (by rw [j]; rfl),Qir (z:=0) 0 rfl (by omega)]
 by_cases a:h.1.getD 0 0=0
 case neg=>rw [if_pos (by simpa using a),if_neg (fun g=>a g.2.2)]
 have m:h.1.length=16∧h.2.2.1.length=11∧h.1.getD 0 0=0:=⟨i,j,a⟩;rw [if_neg (by simpa using a),if_pos m,QbV _ p,QiC,QbV _ q,QbV _ r,QbV _ s]
 simp only [Obn];cases t:allW h.1
 ·simp
 cases u:okW h.2.1
 ·simp
 cases v:allW h.2.2.1
 ·simp
 cases w:allW h.2.2.2.2.2.2.2.1
 ·simp
 cases x:allW h.2.2.2.2.2.2.2.2.1
 ·simp
 simp only [Bool.not_true,and_self,if_true,Bool.false_eq_true,if_false];by_cases k:h.2.2.2.2.2.2.2.1.length≤40
 case neg=>rw [if_neg (by rw [Qbe]; omega),if_neg (fun g=>k g.1)]
 rw [if_pos (by rw [Qbe]; omega)]
 by_cases l:h.2.2.2.2.2.2.2.2.1.length≤40
 case neg=>rw [if_pos (by rw [QB]; omega),if_neg (fun g=>l g.2)]
 have n:h.2.2.2.2.2.2.2.1.length≤40∧h.2.2.2.2.2.2.2.2.1.length≤40:=⟨k,l⟩;rw [if_neg (by rw [QB]; omega),if_pos n,QaA,Obn]
 dsimp only;cases y:inB h.2.2.2.2.2.2.1 0 1000000000
 ·simp
 rw [if_neg (by simp),if_pos rfl,Qir (z:=0) 0 rfl (by omega)]
 by_cases b:h.2.2.1.getD 0 0≤3
 case neg=>rw [if_neg (by rw [Qbe]; exact fun g=>g (Int.not_le.1 b)),if_neg (fun g=>b g.1)]
 rw [if_pos (by rw [Qbe]; exact Int.not_lt.2 b),Qir (z:=7) 7 rfl (by omega)]
 by_cases c:h.2.2.1.getD 7 0≤7
 case neg=>rw [if_neg (by rw [Qbe]; exact fun g=>g (Int.not_le.1 c)),if_neg (fun g=>c g.2.1)]
 rw [if_pos (by rw [Qbe]; exact Int.not_lt.2 c),Qir (z:=10) 10 rfl (by omega)]
 by_cases d:h.2.2.1.getD 10 0≤8
 case neg=>rw [if_neg (by rw [Qbe]; exact fun g=>g (Int.not_le.1 d)),if_neg (fun g=>d g.2.2.1)]
 rw [if_pos (by rw [Qbe]; exact Int.not_lt.2 d),Qir (z:=6) 6 rfl (by omega)]
 by_cases e:h.2.2.1.getD 6 0=0
 case neg=>rw [if_neg (by simpa using e),if_neg (fun g=>e g.2.2.2.1)]
 rw [if_pos (by simpa using e),Qir (z:=8) 8 rfl (by omega)]
 by_cases f:h.2.2.1.getD 8 0=0
 case neg=>rw [if_pos (by simpa using f),if_neg (fun g=>f g.2.2.2.2)]
 have o:h.2.2.1.getD 0 0≤3∧h.2.2.1.getD 7 0≤7∧h.2.2.1.getD 10 0≤8∧h.2.2.1.getD 6 0=0∧h.2.2.1.getD 8 0=0:=⟨b,c,d,e,f⟩;rw [if_neg (by simpa using f),if_pos o]
theorem Qje (h:QM) (hl:Qbz 1048576 h):F_dc (h,())=some ((hartM h,()),()):=by
 rw [←Qgf h hl];obtain ⟨a,b,c,d⟩:=hl;unfold F_dc F_ds;rw [Qcj _ (leM a),Qmt,Qcj _ (leM b),Qcj _ (leM c),Qcj _ (leM d),Qah];rw [QbV _ a,QiC,QbV _ b,QbV _ c,QbV _ d,QaA]
def Qy:Nat→List TwoD→Int→Nat×Int×Int
 | k,[],at_=>(k,at_,0)
 | k,s::r,at_=>if s.2.1≤at_ then Qy (k+1) r (at_-s.2.1) else (k,at_,s.2.1-at_)
theorem QaT: ∀{m:List TwoD} {k:Nat} {a:Int},(∀s∈m,1≤s.2.1∧s.2.1≤50)→0≤a→a< Qk (-1) m→
  k≤(Qy k m a).1∧ ∃s,m[(Qy k m a).1-k]?=some s∧(Qy k m a).2.2=s.2.1-(Qy k m a).2.1∧0≤(Qy k m a).2.1∧(Qy k m a).2.1< s.2.1
 | [],k,a,_,h0,h1=>by simp [Qk] at h1; omega
 | s::r,k,a,hs,h0,h1=>by
  simp only [Qk] at h1;rw [if_pos (.inl (by decide))] at h1
  simp only [Qy];by_cases h:s.2.1≤a
  ·rw [if_pos h];obtain ⟨g0,q,g1,g2⟩:=QaT (m:=r) (k:=k+1) (a:=a-s.2.1) (fun s b=>hs s (List.mem_cons_of_mem _ b)) (by omega) (by omega)
   refine ⟨by omega,q,?_,g2⟩
   have e:(Qy (k+1) r (a-s.2.1)).1-k=((Qy (k+1) r (a-s.2.1)).1-(k+1))+1:=by omega
   rw [e,List.getElem?_cons_succ];exact g1
  ·rw [if_neg h];exact ⟨Nat.le_refl _,s,by simp,rfl,h0,by show a< s.2.1; omega⟩
def QaF (p:PolD) (clock:Int):Int×Int:=let e:=Qy 0 p.2.2.2.1 (clock % Qk (-1) p.2.2.2.1); ((e.1:Int),e.2.2)
theorem Qbj {m:List TwoD} (h: ∀s∈m,1≤s.2.1∧s.2.1≤50) (hl:1≤m.length):1≤Qk (-1) m:=by
 cases m with
 | nil=>simp at hl
 | cons s r=>
  have:=QaZ (g:= -1) (m:=r) fun s a=>h s (List.mem_cons_of_mem _ a)
  have:=h s (by simp)
  simp only [Qk];rw [if_pos (.inl (by decide))]
  omega
theorem Qli {a b:Int} (h:0≤a):a.tmod b=a % b:=by
 rw [Int.tmod_eq_emod_of_nonneg h]
theorem Qnh {γ:Type} {p:PolD} (hok:OkPol p) {step:((PolD×Int×Int×Unit)×Unit×Unit→Option (((PolD×Int×Int×Unit)×Unit×Unit) ⊕ γ))→(PolD×Int×Int×Unit)×Unit×Unit→Option (((PolD×Int×Int×Unit)×Unit×Unit) ⊕ γ)}
  (hstep: ∀rec p a i,step rec ((p,a,i,()),(),())=if 0≤i then (p.2.2.2.1[i.toNat]?).bind fun y=>if leI y.2.1 a=true then (if 0≤i then (p.2.2.2.1[i.toNat]?).bind fun y=>
   rec ((p,IntKind.i64.wrap (a-y.2.1),IntKind.i64.wrap (i+1),()),(),()) else none) else some (.inl ((p,a,i,()),(),())) else none)
  (a:Int) (h0:0≤a) (h1:a< Qk (-1) p.2.2.2.1):Qb step lots ((p,a,0,()),(),())=some (.inl ((p,(Qy 0 p.2.2.2.1 a).2.1,((Qy 0 p.2.2.2.1 a).1:Int),()),(),())):=by
 obtain ⟨l,d⟩:=hok.okPlan
 have f:=Qdj (step:=step) (fun k (a:Int)=>((p,a,((k:Nat):Int),()),(),())) p.2.2.2.1.length (Qao (by omega)) (fun k a=>0≤a∧a< Qk (-1) (p.2.2.2.1.drop k))
  (fun k a=>some (.inl ((p,(Qy k (p.2.2.2.1.drop k) a).2.1,((Qy k (p.2.2.2.1.drop k) a).1:Int),()),(),()))) ?_ 0 a (by omega) ⟨h0,by simpa using h1⟩
 ·exact f
 ·rintro rec k a hk ⟨g0,g1⟩ ih;by_cases b:k< p.2.2.2.1.length
  ·have j:=d _ (List.getElem_mem b);have c:=(QaZ (g:= -1) (Qty (i:=k) d)).2;rw [List.length_drop] at c;rw [hstep,if_pos nat0,Ql b,if_pos nat0,Ql b,QH (by omega),Qj (n:=a-(p.2.2.2.1[k]).2.1) (by omega) (by omega)]
   rw [QaQ b] at g1;simp only [Qk] at g1;rw [if_pos (.inl (by decide))] at g1
   by_cases h:(p.2.2.2.1[k]).2.1≤a
   ·have e:Qy k (p.2.2.2.1.drop k) a=Qy (k+1) (p.2.2.2.1.drop (k+1)) (a-(p.2.2.2.1[k]).2.1):=by
     rw [QaQ b]; simp only [Qy]; rw [if_pos h]
    rw [if_pos (QaB.2 h),e];exact ih _ b ⟨by omega,by omega⟩
   ·have e:Qy k (p.2.2.2.1.drop k) a=(k,a,(p.2.2.2.1[k]).2.1-a):=by
     rw [QaQ b]; simp only [Qy]; rw [if_neg h]
    rw [if_neg (by rw [QaB]; exact h),e]
  ·rw [Qbl b] at g1;simp [Qk] at g1;omega
theorem Qjh (p:PolD) (clock:Int) (hok:OkPol p) (h0:0≤clock):F_de (p,clock,())=some (((QaF p clock).1,(QaF p clock).2,()),()):=by
 obtain ⟨n,a⟩:=hok.okPlan;have h:=Qbj a hok.plan.1;have i:=(QaZ (g:= -1) a).2;unfold F_de;dsimp only;rw [QhA p (-1) hok.okPlan,Obn];dsimp only;have c:0≤clock % Qk (-1) p.2.2.2.1:=Int.emod_nonneg _ (by omega)
 have d:clock % Qk (-1) p.2.2.2.1< Qk (-1) p.2.2.2.1:=Int.emod_lt_of_pos _ (by omega)
 have e: ¬Qk (-1) p.2.2.2.1=0:=by omega
 rw [if_neg e,Qli h0];show (Qb l_de_3 lots ((p,clock % Qk (-1) p.2.2.2.1,0,()),(),())).bind _=_;rw [Qnh hok (step:=l_de_3) (fun _ _ _ _=>rfl) _ c d,Obn]
 dsimp only;obtain ⟨_,s,b,f,j,l⟩:=QaT (k:=0) a c d;rw [Nat.sub_zero] at b;have m:=a s (List.mem_of_getElem? b);rw [if_pos nat0,Int.toNat_natCast,b,Obn,Qj (by omega) (by omega), ←f]
 rfl
theorem QpP (p:PolD) (clock:Int) (hok:OkPol p) (h0:0≤clock):F_dt (p,clock,())=some (((QaF p clock).1,(QaF p clock).2,()),()):=by
 obtain ⟨u,c⟩:=hok.okPlan;have o:=Qbj c hok.plan.1;have q:=(QaZ (g:= -1) c).2;have f:0≤clock % Qk (-1) p.2.2.2.1:=Int.emod_nonneg _ (by omega)
 have h:clock % Qk (-1) p.2.2.2.1< Qk (-1) p.2.2.2.1:=Int.emod_lt_of_pos _ (by omega)
 have d:=Qdj (step:=l_dt_3) (γ:=denO o_de_3) (fun k (a:Int)=>((p,clock,a,((k:Nat):Int),()),(),())) p.2.2.2.1.length (Qao (by omega)) (fun k a=>0≤a∧a≤50*(k:Int))
  (fun k a=>some (.inl ((p,clock,a+Qk (-1) (p.2.2.2.1.drop k),()),(),()))) ?_ 0 0 (by omega) (by omega)
 ·have j:((0:Nat):Int)=0:=rfl;rw [j,List.drop_zero,Int.zero_add] at d;unfold F_dt;show (Qb l_dt_3 lots ((p,clock,0,0,()),(),())).bind _=_;rw [d,Obn];dsimp only;have i: ¬Qk (-1) p.2.2.2.1=0:=by omega
  rw [if_neg i,Qli h0];show (Qb l_dt_8 lots ((p,clock % Qk (-1) p.2.2.2.1,0,()),(),())).bind _=_;rw [Qnh hok (step:=l_dt_8) (fun _ _ _ _=>rfl) _ f h,Obn]
  dsimp only;obtain ⟨_,s,e,l,r,t⟩:=QaT (k:=0) c f h;rw [Nat.sub_zero] at e;have m:=c s (List.mem_of_getElem? e);rw [if_pos nat0,Int.toNat_natCast,e,Obn,Qj (by omega) (by omega), ←l]
  rfl
 ·rintro rec k a hk ha ih;unfold l_dt_3;dsimp only;by_cases b:k< p.2.2.2.1.length
  ·have m:=c _ (List.getElem_mem b);rw [if_pos (lt_t b),if_pos nat0,Ql b,Qj (n:=a+(p.2.2.2.1[k]).2.1) (by omega) (by omega),QH (by omega),QaQ b]
   rw [show Qk (-1) (p.2.2.2.1[k]::p.2.2.2.1.drop (k+1))=(p.2.2.2.1[k]).2.1+Qk (-1) (p.2.2.2.1.drop (k+1)) from by simp only [Qk]; rw [if_pos (.inl (by decide))], ←Int.add_assoc]
   exact ih _ b (by omega)
  ·rw [if_neg (lt_f b),Qbl b];simp [Qk]
def Qcc (n:Nat) (x:Qo):Prop:=QfX n x.1∧x.2.1.length≤n∧x.2.2.1.length≤n∧ ∀h∈x.2.2.1,Qbz n h
def Qhp (m:List QM):Option Int:=scan (fun (_:Nat) h=>nz (hartM h)) 0 m
def Qak (x:Qo):Int:=
 if polM x.1≠0 then polM x.1
 else if (QF x.2.1=0∧x.2.1.length=192)∧x.2.2.1.length=x.1.1.length then
  (match Qhp x.2.2.1 with
   | some c=>c
   | none=>if inB x.2.2.2.2.2.1 0 1000000=true then (if x.2.2.2.1=(QaF x.1 x.2.2.2.2.2.1).1∧x.2.2.2.2.1=(QaF x.1 x.2.2.2.2.2.1).2 then 0 else 1) else 3)
 else 1
theorem Qoc (m:List Int) (h:m.length≤1048576):F_dr (m,())=some ((decide (QF m=0∧m.length=192),()),()):=by
 unfold F_dr;rw [Qik m (leM h),Obn];dsimp only;by_cases a:QF m=0
 ·rw [if_pos (by simpa using a)]
  by_cases b:m.length=192
  ·simp [a,b]
  ·have: ¬((m.length:Nat):Int)=192:=by omega
   simp [a,b,this]
 ·rw [if_neg (by simpa using a)]
  simp [a]
theorem QnM (m:List Int) (h:m.length≤1048576):F_db (m,())=some ((decide (QF m=0∧m.length=192),()),()):=by
 unfold F_db;rw [QhS m (leM h),Obn];dsimp only;by_cases a:QF m=0
 ·rw [if_pos (by simpa using a)]
  by_cases b:m.length=192
  ·simp [a,b]
  ·have: ¬((m.length:Nat):Int)=192:=by omega
   simp [a,b,this]
 ·rw [if_neg (by simpa using a)]
  simp [a]
theorem Qju (x:Qo) (h:Qcc 1048576 x):F_du (x,())=some ((Qak x,()),()):=by
 obtain ⟨s,o,l,p⟩:=h
 have j:=QW (step:=l_du_7) (γ:=denO o_du_7) (fun i=>((x,((i:Nat):Int),()),(),())) x.2.2.1 (fun (_:Nat) h=>nz (hartM h))
  (fun c=>some (.inr (.inl ((c,()),(),())))) (some (.inl ((x,()),(),()))) (Qbo l) ?_ ?_
 ·have m:((0:Nat):Int)=0:=rfl;rw [m] at j;unfold F_du Qak;dsimp only;rw [Qhy x.1 s,Obn];dsimp only;by_cases a:polM x.1=0
  case neg=>rw [if_pos (by simpa using a),if_pos a]
  have t: ¬polM x.1≠0:=by simpa using a
  have q: ∀P:Prop, ¬P→ ¬(P∧x.2.2.1.length=x.1.1.length):=fun P h g=>h g.1
  rw [if_neg (by simpa using a),if_neg t,Qoc _ o,Obn]
  dsimp only;by_cases d:QF x.2.1=0∧x.2.1.length=192
  case neg=>rw [if_neg (by simpa using d),if_neg (q _ d)]
  rw [if_pos (by simpa using d)]
  by_cases k:x.2.2.1.length=x.1.1.length
  case neg=>
   have: ¬((x.2.2.1.length:Nat):Int)=((x.1.1.length:Nat):Int):=by omega
   rw [if_pos (by simpa using this),if_neg (fun g:(QF x.2.1=0∧x.2.1.length=192)∧x.2.2.1.length=x.1.1.length=>k g.2)]
  have r:(QF x.2.1=0∧x.2.1.length=192)∧x.2.2.1.length=x.1.1.length:=⟨d,k⟩;rw [if_neg (by rw [k]; simp),if_pos r]
  show (Qb l_du_7 lots ((x,0,()),(),())).bind _=_;rw [j];unfold Qhp;cases scan (fun (_:Nat) h=>nz (hartM h)) 0 x.2.2.1 with
  | some c=>rfl
  | none=>
   rw [Obn];dsimp only;rw [QaA,Obn];dsimp only;cases n:inB x.2.2.2.2.2.1 0 1000000
   ·simp
   ·rw [if_neg (by simp),if_pos rfl,QpP x.1 _ (QdQ a) (QbA.1 n).1,Obn]
    dsimp only;by_cases b:x.2.2.2.1=(QaF x.1 x.2.2.2.2.2.1).1
    ·by_cases e:x.2.2.2.2.1=(QaF x.1 x.2.2.2.2.2.1).2
     ·rw [if_pos (by simpa using b),if_neg (by simpa using e),if_pos ⟨b,e⟩]
     ·rw [if_pos (by simpa using b),if_pos (by simpa using e),if_neg (fun h=>e h.2)]
    ·rw [if_neg (by simpa using b),if_neg (fun h=>b h.1)]
 ·intro rec i f;unfold l_du_7;dsimp only;rw [if_pos (lt_t f),if_pos nat0,Ql f,Qgf _ (p _ (List.getElem_mem f)),Obn,QH (lt1 f l)];dsimp only;unfold nz;by_cases g:hartM x.2.2.1[i]=0
  ·rw [if_neg (by simpa using g),if_neg (by simpa using g)]
  ·rw [if_pos (by simpa using g),if_pos (by simpa using g)]
 ·intro rec;unfold l_du_7;dsimp only;rw [if_neg Qax]
theorem QfN (x:Qo) (h:Qcc 1048576 x):F_df (x,())=some ((Qak x,()),()):=by
 obtain ⟨t,p,m,q⟩:=h
 let d:(den (.slice (.slice (.int .i64))))×List QJ×List TwoD×List TwoD×List Int×List QM×Int×Int×Int×Unit:=(x.1.1,x.1.2.1,x.1.2.2.1,x.1.2.2.2.1,x.2.1,x.2.2.1,x.2.2.2.1,x.2.2.2.2.1,x.2.2.2.2.2.1,())
 have k:=QW (step:=l_df_7) (γ:=denO o_df_7) (fun i=>(((),x.2.2.1,((x.2.2.1.length:Nat):Int),((i:Nat):Int),()),(d,()),())) x.2.2.1 (fun (_:Nat) h=>nz (hartM h))
  (fun c=>some (.inr (.inl ((c,()),(),())))) (some (.inl (((),()),(d,()),()))) (Qbo m) ?_ ?_
 ·have n:((0:Nat):Int)=0:=rfl;rw [n] at k;unfold F_df Qak;dsimp only;rw [Qkq x.1 t,Obn];dsimp only;by_cases a:polM x.1=0
  case neg=>rw [if_pos (by simpa using a),if_pos a]
  have u: ¬polM x.1≠0:=by simpa using a
  have r: ∀P:Prop, ¬P→ ¬(P∧x.2.2.1.length=x.1.1.length):=fun P h g=>h g.1
  rw [if_neg (by simpa using a),if_neg u,QnM _ p,Obn]
  dsimp only;by_cases e:QF x.2.1=0∧x.2.1.length=192
  case neg=>rw [if_neg (by simpa using e),if_neg (r _ e)]
  rw [if_pos (by simpa using e)]
  by_cases l:x.2.2.1.length=x.1.1.length
  case neg=>
   have: ¬((x.2.2.1.length:Nat):Int)=((x.1.1.length:Nat):Int):=by omega
   rw [if_pos (by simpa using this),if_neg (fun g:(QF x.2.1=0∧x.2.1.length=192)∧x.2.2.1.length=x.1.1.length=>l g.2)]
  have s:(QF x.2.1=0∧x.2.1.length=192)∧x.2.2.1.length=x.1.1.length:=⟨e,l⟩;rw [if_neg (by rw [l]; simp),if_pos s]
  show (Qb l_df_7 lots (((),x.2.2.1,((x.2.2.1.length:Nat):Int),0,()),(d,()),())).bind _=_;rw [k];unfold Qhp;cases scan (fun (_:Nat) h=>nz (hartM h)) 0 x.2.2.1 with
  | some c=>rfl
  | none=>
   rw [Obn];dsimp only [d];rw [Qah,Obn];dsimp only;cases o:inB x.2.2.2.2.2.1 0 1000000
   ·simp
   ·rw [if_neg (by simp),if_pos rfl]
    show (F_de (x.1,x.2.2.2.2.2.1,())).bind _=_;rw [Qjh x.1 _ (QdQ a) (QbA.1 o).1,Obn];dsimp only;by_cases b:x.2.2.2.1=(QaF x.1 x.2.2.2.2.2.1).1
    ·by_cases f:x.2.2.2.2.1=(QaF x.1 x.2.2.2.2.2.1).2
     ·rw [if_pos (by simpa using b),if_neg (by simpa using f),if_pos ⟨b,f⟩]
     ·rw [if_pos (by simpa using b),if_pos (by simpa using f),if_neg (fun h=>f h.2)]
    ·rw [if_neg (by simpa using b),if_neg (fun h=>b h.1)]
 ·intro rec i j;unfold l_df_7;dsimp only;rw [if_pos (lt_t j),if_pos nat0,Ql j,Qje _ (q _ (List.getElem_mem j)),Obn,QH (lt1 j m)];dsimp only;unfold nz;by_cases g:hartM x.2.2.1[i]=0
  ·rw [if_neg (by simpa using g),if_neg (by simpa using g)]
  ·rw [if_pos (by simpa using g),if_pos (by simpa using g)]
 ·intro rec;unfold l_df_7;dsimp only;rw [if_neg Qax]
theorem Qdg {x:Qo} (h:Qak x=0):polM x.1=0:=by
 unfold Qak at h;split at h
 ·rename_i a; exact absurd h a
 ·rename_i a; simpa using a
def Byt (c:List Int):Prop:=(∀b∈c,0≤b∧b≤255)∧c.length≤1048580
theorem Qem {c:List Int} (hc:Byt c) (a n:Int) (ha:0≤a∧a≤1099511627776):
  ∃v:Int,F_c ((c,a,()),n,())=some ((v,()),((c,a+1,()),()))∧0≤v∧(v< n∨v=0):=by
 unfold F_c;dsimp only;rw [Qj (n:=a+1) (by omega) (by omega),Qj (n:=a+1-1) (by omega) (by omega)]
 have j:a+1-1=a:=by omega
 rw [j];by_cases f:n< 1
 ·exact ⟨0,by rw [if_pos (QB.2 f)],Int.le_refl 0,.inr rfl⟩
 rw [if_neg (by rw [QB]; exact f)]
 have e: ¬n=0:=by omega
 by_cases k:c.length=0
 ·rw [if_pos (by rw [k]; rfl),if_neg e,Qj (n:=a*7) (by omega) (by omega)]
  exact ⟨(a*7).tmod n,rfl,Int.tmod_nonneg _ (by omega),.inl (Int.tmod_lt_of_pos _ (by omega))⟩
 have b: ¬((c.length:Nat):Int)=0:=by omega
 have l:0≤a.tmod ((c.length:Nat):Int):=Int.tmod_nonneg _ ha.1;have s:a.tmod ((c.length:Nat):Int)< ((c.length:Nat):Int):=Int.tmod_lt_of_pos _ (by omega)
 have m:0≤(a+1).tmod ((c.length:Nat):Int):=Int.tmod_nonneg _ (by omega)
 have t:(a+1).tmod ((c.length:Nat):Int)< ((c.length:Nat):Int):=Int.tmod_lt_of_pos _ (by omega)
 have o:0≤a.tdiv ((c.length:Nat):Int):=Int.tdiv_nonneg ha.1 (by omega)
 have p:a.tdiv ((c.length:Nat):Int)≤a:=Int.tdiv_le_self _ ha.1;obtain ⟨y,h⟩: ∃y,c[(a.tmod ((c.length:Nat):Int)).toNat]?=some y:=⟨_,List.getElem?_eq_getElem (by omega)⟩
 obtain ⟨z,i⟩: ∃z,c[((a+1).tmod ((c.length:Nat):Int)).toNat]?=some z:=⟨_,List.getElem?_eq_getElem (by omega)⟩
 have q:=hc.1 y (List.mem_of_getElem? h);have r:=hc.1 z (List.mem_of_getElem? i);rw [if_neg (by simpa using b),if_neg b,if_pos l,h,Obn]
 generalize a.tdiv ((c.length:Nat):Int)=d at o p⊢;rw [Qj (n:=y) (by omega) (by omega),Qj (n:=d) (by omega) (by omega),Qj (n:=d*37) (by omega) (by omega),Qj (n:=y+d*37) (by omega) (by omega)]
 by_cases g:(200:Int)< n
 ·rw [if_neg b,if_pos (QB.2 g),if_neg b]
  rw [Qj (n:=(y+d*37)*251) (by omega) (by omega),Qj (n:=a+1) (by omega) (by omega),if_pos m,i,Obn,Qj (n:=z) (by omega) (by omega),Qj (n:=z*13) (by omega) (by omega),
   Qj (n:=(y+d*37)*251+z*13) (by omega) (by omega),Qj (n:=(y+d*37)*251+z*13+a) (by omega) (by omega),if_neg e]
  exact ⟨_,rfl,Int.tmod_nonneg _ (by omega),.inl (Int.tmod_lt_of_pos _ (by omega))⟩
 ·rw [if_neg b,if_neg (by rw [QB]; exact g),if_neg e]
  exact ⟨_,rfl,Int.tmod_nonneg _ (by omega),.inl (Int.tmod_lt_of_pos _ (by omega))⟩
def QdO (x:denP P_c):Int:=match F_c x with | some r=>r.1.1 | none=>0
def QmI (x:denP P_d):Int:=match F_d x with | some r=>r.1.1 | none=>0
def QnE (x:denP P_c):Bool:=match F_s x with | some r=>r.1.1 | none=>false
def Qlu (x:denP P_m):Int:=match F_t x with | some r=>r.1.1 | none=>0
theorem Qsa (x:denP P_c) (hc:Byt x.1.1) (ha:0≤x.1.2.1∧x.1.2.1≤1099511627776):F_c x=some ((QdO x,()),((x.1.1,x.1.2.1+1,()),())):=by
 obtain ⟨⟨c,a,_⟩,n,_⟩:=x;obtain ⟨v,e,b,d⟩:=Qem hc a n ha;unfold QdO;rw [e]
theorem Qxv (x:denP P_c) (hc:Byt x.1.1) (ha:0≤x.1.2.1∧x.1.2.1≤1099511627776):0≤QdO x∧(QdO x< x.2.1∨QdO x=0):=by
 obtain ⟨⟨c,a,_⟩,n,_⟩:=x;obtain ⟨v,e,b,d⟩:=Qem hc a n ha;unfold QdO;rw [e];exact ⟨b,d⟩
theorem QnW {c:List Int} (hc:Byt c) (a:Int) (l:List Int) (ha:0≤a∧a≤1099511627776) (hl:l≠[]):
  ∃v:Int,F_d ((c,a,()),l,())=some ((v,()),((c,a+1,()),()))∧v∈l:=by
 have f:0< l.length:=List.length_pos_iff.2 hl;obtain ⟨v,e,d,g⟩:=Qem hc a ((l.length:Nat):Int) ha;unfold F_d;dsimp only;rw [e,Obn];dsimp only;have b:v.toNat< l.length:=by omega
 rw [if_pos d,List.getElem?_eq_getElem b,Obn];exact ⟨_,rfl,List.getElem_mem b⟩
theorem Qsg (x:denP P_d) (hl:x.2.1.isEmpty=false) (hc:Byt x.1.1) (ha:0≤x.1.2.1∧x.1.2.1≤1099511627776):F_d x=some ((QmI x,()),((x.1.1,x.1.2.1+1,()),())):=by
 obtain ⟨⟨c,a,_⟩,l,_⟩:=x;obtain ⟨v,e,b⟩:=QnW hc a l ha (by rintro rfl; cases hl)
 unfold QmI;rw [e]
theorem QxB (x:denP P_d) (hl:x.2.1.isEmpty=false) (hc:Byt x.1.1) (ha:0≤x.1.2.1∧x.1.2.1≤1099511627776):QmI x∈x.2.1:=by
 obtain ⟨⟨c,a,_⟩,l,_⟩:=x;obtain ⟨v,e,b⟩:=QnW hc a l ha (by rintro rfl; cases hl)
 unfold QmI;rw [e];exact b
theorem Qmb (x:denP P_c) (hc:Byt x.1.1) (ha:0≤x.1.2.1∧x.1.2.1≤1099511627776):F_s x=some ((QnE x,()),((x.1.1,x.1.2.1+1,()),())):=by
 obtain ⟨⟨c,a,_⟩,n,_⟩:=x;obtain ⟨v,e,b,d⟩:=Qem hc a n ha
 have:F_s ((c,a,()),n,())=some ((v==0,()),((c,a+1,()),())):=by
  unfold F_s;dsimp only;rw [e,Obn]
 unfold QnE;rw [this]
theorem QsE {c:List Int} (hc:Byt c) (a:Int) (ha:0≤a∧a≤1073741824): ∃v:Int,F_t ((c,a,()),())=some ((v,()),((c,a+5,()),()))∧0≤v∧v≤4294967295:=by
 obtain ⟨k,f,m,r⟩:=Qem hc a 90 (by omega)
 obtain ⟨l,g,o,s⟩:=Qem hc (a+1) 9 (by omega)
 obtain ⟨b,h,p,t⟩:=Qem hc (a+1+1) 9 (by omega)
 obtain ⟨d,i,q,u⟩:=Qem hc (a+1+1+1) 60000 (by omega)
 unfold F_t;dsimp only;rw [f,Obn,g,Obn,h,Obn];dsimp only;rw [i,Obn];dsimp only;rw [Qj (n:=4294967295-b) (by omega) (by omega),Qj (n:=d*70000) (by omega) (by omega)]
 obtain ⟨v,e,j⟩:=QnW hc (a+1+1+1+1) [k,l,4294967295-b,2147483648,2147483647,0,d*70000] (by omega) (by simp)
 rw [e,Obn];refine ⟨v,?_,?_⟩
 ·have:a+1+1+1+1+1=a+5:=by omega
  rw [this]
 ·simp at j;omega
theorem QsF (x:denP P_m) (hc:Byt x.1.1) (ha:0≤x.1.2.1∧x.1.2.1≤1073741824):F_t x=some ((Qlu x,()),((x.1.1,x.1.2.1+5,()),())):=by
 obtain ⟨⟨c,a,_⟩,_⟩:=x;obtain ⟨v,e,b⟩:=QsE hc a ha;unfold Qlu;rw [e]
theorem QxG (x:denP P_m) (hc:Byt x.1.1) (ha:0≤x.1.2.1∧x.1.2.1≤1073741824):0≤Qlu x∧Qlu x≤4294967295:=by
 obtain ⟨⟨c,a,_⟩,_⟩:=x;obtain ⟨v,e,b⟩:=QsE hc a ha;unfold Qlu;rw [e];exact b
theorem QdA {c:List Int} (hc:Byt c) (a n:Int) (ha:0≤a∧a≤1099511627776):F_c ((c,a,()),n,())=some ((QdO ((c,a,()),n,()),()),((c,a+1,()),())):=Qsa _ hc ha
theorem Qsh {c:List Int} (hc:Byt c) (a:Int) (x:Int) (l:List Int) (ha:0≤a∧a≤1099511627776):F_d ((c,a,()),x::l,())=some ((QmI ((c,a,()),x::l,()),()),((c,a+1,()),())):=Qsg _ rfl hc ha
theorem QsS {c:List Int} (hc:Byt c) (a n:Int) (ha:0≤a∧a≤1099511627776):F_s ((c,a,()),n,())=some ((QnE ((c,a,()),n,()),()),((c,a+1,()),())):=Qmb _ hc ha
theorem QwN {c:List Int} (hc:Byt c) (a:Int) (ha:0≤a∧a≤1073741824):F_t ((c,a,()),())=some ((Qlu ((c,a,()),()),()),((c,a+5,()),())):=QsF _ hc ha
abbrev InsD:=Int×Int×Int×Int×Unit
theorem QrK (op:Int): ∃b1 b2 b3:Bool,F_n (op,())=some ((b1,b2,b3,()),()):=by
 unfold F_n;dsimp only
 repeat' split
 all_goals exact ⟨_,_,_,rfl⟩
theorem QuE {α β:Type} {P:α→β} {c:Prop} [Decidable c] {a b:β} (ha: ∃v,a=P v) (hb: ∃v,b=P v): ∃v,(if c then a else b)=P v:=by split <;> assumption
theorem Qpc (x:InsD): ∃v:Int,F_q (x,())=some ((v,()),()):=by
 obtain ⟨a,b,c,e⟩:=QrK x.1;unfold F_q;dsimp only;rw [QaA,QaA,QaA,QaA,e];simp only [Obn]
 repeat' (first | exact ⟨_,rfl⟩ | refine QuE (P:=fun v:Int=>some ((v,()),())) ?_ ?_)
theorem QsU (x:InsD): ∃v:Int×Int×Unit,F_r (x,())=some ((v,()),()):=by
 obtain ⟨v,e⟩:=Qpc x;unfold F_r;dsimp only;rw [e,Obn];dsimp only;split <;> exact ⟨_,rfl⟩
theorem QuV {c:List Int} (hc:Byt c) (a:Int) (ha:0≤a∧a≤1000000000): ∃v:InsD,F_o ((c,a,()),())=some ((v,()),((c,a+1+1+1+1+1+1+1,()),())):=by
 unfold F_o;dsimp only;rw [QdA hc,Obn];dsimp only;generalize QdO _=v1;rw [QdA hc,Obn];dsimp only;generalize QdO _=v2;rw [QdA hc,Obn];dsimp only;generalize QdO _=v3;rw [QdA hc,Obn];dsimp only;generalize QdO _=v4;rw [QdA hc,Obn];dsimp only;generalize QdO _=v5;rw [QdA hc,Obn];dsimp only;generalize QdO _=v6;rw [Qsh hc,Obn];dsimp only;generalize QmI _=v7;obtain ⟨b,d,f,e⟩:=QrK (IntKind.i64.wrap (1+v1));rw [e,Obn];dsimp only
 repeat' (first | exact ⟨_,rfl⟩ | refine QuE (P:=fun v:InsD=>some ((v,()),((c,a+1+1+1+1+1+1+1,()),()))) ?_ ?_)
 all_goals omega
def Drew {T:Type} (o:Option ((T×Unit)×(List Int×Int×Unit)×Unit)) (c:List Int) (a k:Int):Prop:= ∃(v:T) (a':Int),o=some ((v,()),((c,a',()),()))∧a≤a'∧a'≤a+k
theorem Drew.ite {T:Type} {p:Prop} [Decidable p] {x y:Option ((T×Unit)×(List Int×Int×Unit)×Unit)} {c:List Int} {a k:Int} (hx:Drew x c a k) (hy:Drew y c a k):Drew (if p then x else y) c a k:=by split <;> assumption
theorem QuW {c:List Int} (hc:Byt c) (a:Int) (ha:0≤a∧a≤100000000):Drew (T:=InsD) (F_p ((c,a,()),())) c a 20:=by
 unfold F_p;dsimp only;rw [QdA hc,Obn];dsimp only;generalize IntKind.i64.wrap (1+QdO _)=v1;rw [QdA hc,Obn];dsimp only;generalize QdO _=v2;obtain ⟨v,e⟩:=QuV hc (a+1+1) (by omega)
 rw [e]
 repeat' (first
  | refine Drew.ite ?_ ?_
  | (rw [QdA hc,Obn]; dsimp only)
  | (rw [Qsh hc,Obn]; dsimp only)
  | exact ⟨_,_,rfl,by omega,by omega⟩
  | omega
  | (rw [Obn]; dsimp only))
theorem QuN {c:List Int} (hc:Byt c) (n a:Int) (ha:0≤a∧a≤10000000) (hn:n≤1000): ∃(m:List Int) (a':Int),F_u ((c,a,()),n,())=some ((m,()),((c,a',()),()))∧(m.length:Int)=(if n< 0 then 0 else n)∧a≤a'∧a'≤a+26*(if n< 0 then 0 else n):=by
 have p: ∀f (k:Nat) (m:List Int) (a:Int),k< f→k≤1000→0≤a∧a≤100000000-26*(k:Int)→m.length≤1000-k→
   ∃(b:List Int) (a':Int),Qb l_u_2 f (((),(k:Int),m,()),((c,a,()),()),())=some (.inl ((b,()),((c,a',()),()),()))∧b.length=m.length+k∧a≤a'∧a'≤a+26*(k:Int):=by
  intro f
  induction f with
  | zero=>intro k _ _ h; omega
  | succ f o=>
   intro k m a z u ha hm;simp only [Qb];generalize Qb l_u_2 f=rec at o⊢;unfold l_u_2;dsimp only;by_cases j:0< k
   ·obtain ⟨x,i,q,v,y⟩:=QuW hc a (by omega)
    obtain ⟨w,r⟩:=QsU x;rw [if_pos (by rw [QB]; omega),q,Obn,r,Obn]
    dsimp only;rw [QsS hc _ _ (by omega),Obn]
    dsimp only;have t:IntKind.i64.wrap ((k:Int)-1)=((k-1:Nat):Int):=by rw [Qj (by omega) (by omega)]; omega
    rw [t];split
    ·rw [QwN hc _ (by omega),Obn]
     dsimp only;rw [if_pos (by simp; omega)]
     obtain ⟨b,a',d,e,l,g⟩:=o (k-1) (m++[Qlu ((c,i+1,()),())]) (i+1+5) (by omega) (by omega) (by omega) (by simp; omega)
     exact ⟨b,a',d,by rw [e]; simp; omega,by omega,by omega⟩
    ·rw [if_pos (by simp; omega)]
     obtain ⟨b,a',d,e,l,g⟩:=o (k-1) (m++[w.2.1]) (i+1) (by omega) (by omega) (by omega) (by simp; omega)
     exact ⟨b,a',d,by rw [e]; simp; omega,by omega,by omega⟩
   ·have:k=0:=by omega
    subst this;rw [if_neg (by rw [QB]; omega)]
    exact ⟨m,a,rfl,by omega,by omega,by omega⟩
 unfold F_u;dsimp only;by_cases j:n< 0
 ·have:L_u_2 (((),n,[],()),((c,a,()),()),())=some (.inl (([],()),((c,a,()),()),())):=by
   show Qb l_u_2 lots _=_;rw [QwU,QqH];unfold l_u_2;dsimp only;rw [if_neg (by rw [QB]; omega)]
  rw [this,Obn,if_pos j];exact ⟨[],a,rfl,rfl,by omega,by omega⟩
 ·obtain ⟨b,a',d,e,l,g⟩:=p lots n.toNat [] a (by rw [QE]; omega) (by omega) (by omega) (by simp)
  have s:((n.toNat:Nat):Int)=n:=by omega
  rw [s] at d g;rw [if_neg j];show ∃m a',(Qb l_u_2 lots (((),n,[],()),((c,a,()),()),())).bind _=_∧_;rw [d,Obn];exact ⟨b,a',rfl,by rw [e]; simp; omega,l,g⟩
def Qaq (x:Qo) (n:Int):Bool:=inB n 0 200 && leI (IntKind.i64.wrap (x.2.2.2.2.2.1+n)) 1000000
theorem Qob (x:Qo) (n:Int):F_gp (x,n,())=some ((Qaq x n,()),()):=by
 unfold F_gp Qaq;dsimp only;rw [QaA,Obn];dsimp only;cases inB n 0 200
 ·rw [if_neg (by simp)]; rfl
 ·rw [if_pos rfl]; rfl
theorem QpU (x:Qo) (n:Int):F_eg_1 ([x],(n,()),())=some ((!leI (IntKind.i64.wrap (x.2.2.2.2.2.1+n)) 1000000,()),()):=by
 have b:F_ed_1 (x,n,())=some ((ltI 1000000 (IntKind.i64.wrap (x.2.2.2.2.2.1+n)),()),()):=rfl
 have c:(!leI (IntKind.i64.wrap (x.2.2.2.2.2.1+n)) 1000000)=ltI 1000000 (IntKind.i64.wrap (x.2.2.2.2.2.1+n)):=by
  unfold leI; cases ltI 1000000 (IntKind.i64.wrap (x.2.2.2.2.2.1+n)) <;> rfl
 rw [c]
 have g: ∀f,Qb l_ef_2 (f+1) (([x],(n,()),1,1,()),(),())=some (.inl ((),(),())):=by
  intro f;rw [QqH];unfold l_ef_2;dsimp only;rw [if_neg (show ¬ltI 1 1=true from by decide)]
 have e:Qb l_ef_2 lots (([x],(n,()),1,0,()),(),())=if ltI 1000000 (IntKind.i64.wrap (x.2.2.2.2.2.1+n))=true then some (.inr (.inl ((0,()),(),()))) else some (.inl ((),(),())):=by
  rw [QwU,QqH];have a:=g (18446744073709551613+1);generalize Qb l_ef_2 (18446744073709551613+1+1)=rec at a⊢;unfold l_ef_2;dsimp only;rw [if_pos (show ltI 0 1=true from by decide),if_pos (show (0:Int)≤0 by omega)]
  have d:([x]:List Qo)[(0:Int).toNat]?=some x:=rfl;rw [d,Obn,b,Obn];dsimp only;cases ltI 1000000 (IntKind.i64.wrap (x.2.2.2.2.2.1+n))
  ·rw [if_neg (by simp),if_neg (by simp)]
   exact a
  ·rw [if_pos rfl,if_pos rfl]
 unfold F_eg_1 F_ee_1;show ((Qb l_ef_2 lots (([x],(n,()),1,0,()),(),())).bind _).bind _=_;rw [e];cases ltI 1000000 (IntKind.i64.wrap (x.2.2.2.2.2.1+n)) <;> rfl
theorem Qcy (x:Qo) (n:Int):F_ed (n,[x],())=some ((if Qaq x n=true then 0 else 3,()),()):=by
 unfold F_ed Qaq;dsimp only;rw [Qah,Obn];dsimp only;cases inB n 0 200
 ·rw [if_neg (by simp),if_neg (by simp)]
 ·rw [if_pos (show (!true)=false from rfl),QpU,Obn]
  dsimp only;cases leI (IntKind.i64.wrap (x.2.2.2.2.2.1+n)) 1000000 <;> rfl
def QjD (p:PolD) (c:Int):Int:=match (p.2.2.2.1)[(QaF p c).1.toNat]? with
 | some s=>s.1
 | none=>0
theorem Qsz {p:PolD} {c:Int} (hok:OkPol p) (h0:0≤c):0≤(QaF p c).1∧ ∃s,(p.2.2.2.1)[(QaF p c).1.toNat]?=some s∧QjD p c=s.1:=by
 obtain ⟨g,b⟩:=hok.okPlan;have f:=Qbj b hok.plan.1;have d:0≤c % Qk (-1) p.2.2.2.1:=Int.emod_nonneg _ (by omega)
 have e:c % Qk (-1) p.2.2.2.1< Qk (-1) p.2.2.2.1:=Int.emod_lt_of_pos _ (by omega)
 obtain ⟨_,s,a,_⟩:=QaT (k:=0) b d e;rw [Nat.sub_zero] at a;refine ⟨nat0,s,by show (p.2.2.2.1)[((_:Nat):Int).toNat]?=_; rw [Int.toNat_natCast]; exact a,?_⟩
 unfold QjD;have:(p.2.2.2.1)[(QaF p c).1.toNat]?=some s:=by show (p.2.2.2.1)[((_:Nat):Int).toNat]?=_; rw [Int.toNat_natCast]; exact a
 rw [this]
def Qdr (p:PolD) (c:Int):Nat→List Int
 | 0=>[]
 | n+1=>QjD p c::Qdr p (c+1) n
def Qof (x:Qo) (n:Int):Int×List Int×Unit:=
 if Qak x≠0 then (Qak x,[],()) else if Qaq x n=true then (0,Qdr x.1 x.2.2.2.2.2.1 n.toNat,()) else (3,[],())
theorem Qte {m:List QM} {c:Int} (h:Qhp m=some c):c≠0:=QcZ (P:=fun c=>c≠0) (fun j b c a=>Qvk a) c h
theorem Qqt {x:Qo} (h:Qak x=0):0≤x.2.2.2.2.2.1∧x.2.2.2.2.2.1≤1000000:=by
 have d:=Qdg h;unfold Qak at h;rw [if_neg (by simpa using d)] at h
 split at h
 ·split at h
  ·rename_i c b; exact absurd h (Qte b)
  ·split at h
   ·rename_i a; exact QbA.1 a
   ·cases h
 ·cases h
theorem QnK (x:Qo) (n:Int) (h:Qcc 1048576 x):F_hc (x,n,())=some ((Qof x n,()),()):=by
 unfold F_hc Qof;dsimp only;rw [QfN x h,Obn,Qcy,Obn,Qca,Obn];dsimp only;by_cases d:Qak x=0
 case neg=>
  have b:(if Qak x≠0 then Qak x else if Qaq x n=true then 0 else 3)=Qak x:=if_pos d
  rw [b,if_pos (by simpa using d),if_pos d]
 have b:(if Qak x≠0 then Qak x else if Qaq x n=true then 0 else 3)=if Qaq x n=true then (0:Int) else 3:=if_neg (by simpa using d)
 rw [b,if_neg (c:=Qak x≠0) (by simpa using d)]
 by_cases f:Qaq x n=true
 case neg=>
  have e:(if Qaq x n=true then (0:Int) else 3)=3:=if_neg f
  rw [e,if_pos (by decide),if_neg f]
 have e:(if Qaq x n=true then (0:Int) else 3)=0:=if_pos f
 rw [e,if_neg (by decide),if_pos f]
 have i:=QdQ (Qdg d);obtain ⟨q,r⟩:=Qqt d;obtain ⟨t,u⟩:=QbA.1 (Bool.and_eq_true_iff.1 f).1;obtain ⟨N,rfl⟩: ∃N:Nat,n=(N:Int):=⟨n.toNat,by omega⟩
 have j:=Qdj (step:=l_hc_6) (γ:=denO o_hc_6)
  (fun k (a:List Int)=>(((),(),a,(N:Int),((k:Nat):Int),()),((x.1.1,x.1.2.1,x.1.2.2.1,x.1.2.2.2.1,x.2.1,x.2.2.1,x.2.2.2.1,x.2.2.2.2.1,x.2.2.2.2.2.1,()),(0,[],()),()),()))
  N (Qao (by omega)) (fun k a=>a.length=k)
  (fun k a=>some (.inl (((),a++Qdr x.1 (x.2.2.2.2.2.1+(k:Int)) (N-k),()),((0,[],()),()),()))) ?_ 0 [] (by omega) rfl
 ·have l:((0:Nat):Int)=0:=rfl;rw [l,Int.add_zero,Nat.sub_zero,List.nil_append] at j;show (Qb l_hc_6 lots _).bind _=_;rw [j,Obn,Int.toNat_natCast]
 ·rintro rec k a hk hout ih;unfold l_hc_6;dsimp only;by_cases g:k< N
  ·obtain ⟨m,s,o,p⟩:=Qsz (c:=x.2.2.2.2.2.1+(k:Int)) i (by omega)
   rw [if_pos (lt_t g),Qj (n:=x.2.2.2.2.2.1+(k:Int)) (by omega) (by omega)]
   show (F_de (x.1,_,())).bind _=_;rw [Qjh x.1 _ i (by omega),Obn]
   dsimp only;rw [if_pos m,o,Obn,if_pos (by simp only [List.length_cons,List.length_nil]; omega),QH (by omega)]
   rw [ih (a++[s.1]) g (by simp [hout])]
   have b:N-k=(N-(k+1))+1:=by omega
   rw [b,Qdr,p,List.append_assoc];have e:x.2.2.2.2.2.1+((k+1:Nat):Int)=x.2.2.2.2.2.1+(k:Int)+1:=by omega
   rw [e]; rfl
  ·have b:N-k=0:=by omega
   rw [if_neg (lt_f g),b,Qdr,List.append_nil]
theorem QnP {c:Int} (h:nz c=none):c=0:=by
 unfold nz at h;split at h
 ·cases h
 ·rename_i a; simpa using a
theorem QbI {p:PolD} (hok:OkPol p): ∀l∈p.2.1,(isG p l.1=true∧isG p l.2.1=true∧l.1≠l.2.1)∧(0≤l.2.2.1∧l.2.2.1≤23)∧(5≤l.2.2.2.1∧l.2.2.2.1≤6)∧5≤l.2.2.2.2.1∧l.2.2.2.2.1≤6:=by
 intro l g;obtain ⟨i,e⟩:=Qbt hok.lanes.2 l g;have e:=QnP e;unfold QeD at e;split at e
 ·rename_i h; exact absurd e h
 ·rename_i a;split at e
  ·rename_i b;refine ⟨?_,QbA.1 b.1,QbA.1 b.2.1,QbA.1 b.2.2⟩;have a:Qdd p l.1 l.2.1=0:=by simpa using a
   unfold Qdd at a;split at a
   ·rename_i c;split at a
    ·rename_i d;split at a
     ·cases a
     ·rename_i f; exact ⟨c,d,f⟩
    ·cases a
   ·cases a
  ·cases e
theorem Qbn {p:PolD} {g:Int}:isG p g=true↔0≤g∧g< (p.1.length:Int):=by unfold isG; simp; omega
def pg (m:List Int) (p:Int):List Int:=(m.drop (8*p.toNat)).take 8
def QP (m:List Int) (l:List Int):List Int:=l.flatMap (pg m)
theorem Qhu (m:List Int) (p:Int):(pg m p).length≤8:=by unfold pg; simp; omega
end Go.Proofs.YtkkljegcnnfanaaGreatDoor
