/- Plain laws: what the functions compute, and that both programs compute the same. -/
import Derived.Test.YtkkljegcnnfanaaGreatDoorGa4
set_option linter.unusedVariables false
set_option linter.unusedSimpArgs false
namespace Go.Proofs.YtkkljegcnnfanaaGreatDoor
open Go Go.RowKit S Go.Proofs
set_option maxRecDepth 100000
def okW (w:Int):Bool:=decide (w≥0) && decide (w≤4294967295)
def allW (m:List Int):Bool:=m.all okW
theorem Qcm (n a b:Int):F_e (n,a,b,())=some ((decide (n≥a) && decide (n≤b),()),()):=by
 unfold F_e;simp only [Qax,Qal,decide_eq_true_eq,ge_iff_le,gt_iff_lt];split
 ·rename_i h; simp [h]
 ·rename_i h; simp [h]
theorem Qbq (n a b:Int):F_cd (n,a,b,())=some ((decide (n≥a) && decide (n≤b),()),()):=by
 unfold F_cd;simp only [Qax,Qal,decide_eq_true_eq,ge_iff_le,gt_iff_lt];split
 ·rename_i h; simp [h]
 ·rename_i h; simp [h]
theorem QlC (n:Int):F_cw (n,())=some ((okW n,()),()):=by
 unfold F_cw;rw [Qbq,Obn];rfl
theorem QmF (n:Int):F_cx_1 (n,())=some ((!okW n,()),()):=by
 unfold F_cx_1;rw [QlC,Obn]
theorem Qld {y:Int} {r:List Int}:allW (y::r)=(okW y && allW r):=rfl
theorem Qqz (m:List Int) (i:Int) (h0:0≤i) (h1:i≤(m.length:Int)) (h3:m.length≤maxLen):
  (allW (m.drop i.toNat)=true∧L_cz_2 ((m,(),((m.length:Nat):Int),i,()),(),())=some (.inl ((),(),())))∨
  (allW (m.drop i.toNat)=false∧ ∃k:Int,0≤k∧L_cz_2 ((m,(),((m.length:Nat):Int),i,()),(),())=some (.inr (.inl ((k,()),(),())))):=by
 have key: ∀(n:Nat) (i:Int),(m.length-i).toNat< n→0≤i→i≤(m.length:Int)→
   (allW (m.drop i.toNat)=true∧Qd l_cz_2 n ((m,(),((m.length:Nat):Int),i,()),(),())=some (.inl ((),(),())))∨
   (allW (m.drop i.toNat)=false∧ ∃k:Int,0≤k∧Qd l_cz_2 n ((m,(),((m.length:Nat):Int),i,()),(),())=some (.inr (.inl ((k,()),(),())))):=by
  intro n
  induction n with
  | zero=>intro i h; omega
  | succ n ih=>
   intro i hm h0 h1;simp only [Qd];generalize Qd l_cz_2 n=rec at ih⊢;unfold l_cz_2;simp only [Qax,Qal,decide_eq_true_eq,ge_iff_le,gt_iff_lt];by_cases hlt:i< (m.length:Int)
   ·obtain ⟨y,hy,_,hd⟩:=QqJ h0 hlt;rw [if_pos hlt,if_pos h0,hy,Obn,QmF,Obn,Qqu h0 hlt h3,hd,Qld];cases hw:okW y with
    | true=>simpa using ih (i+1) (by omega) (by omega) (by omega)
    | false=>exact .inr ⟨by simp,i,h0,by simp⟩
   ·rw [if_neg hlt,Qhk hlt];exact .inl ⟨rfl,rfl⟩
 exact key lots i (by rw [Qdk] at h3; rw [QG]; omega) h0 h1
theorem QbB (m:List Int) (h:m.length≤maxLen):F_cx (m,())=some ((allW m,()),()):=by
 unfold F_cx F_da_1 F_cy_1;simp only;rcases Qqz m 0 (by simp) (by simp) h with ⟨h1,h2⟩ | ⟨h1,k,h2,h3⟩
 ·simp only [Int.toNat_zero,List.drop_zero] at h1;rw [h2,h1]; rfl
 ·simp only [Int.toNat_zero,List.drop_zero] at h1;rw [h3,h1];simp [h2,Qal]
def QN (m:List Int):Int:=if m.length % 8=0∧8≤m.length∧m.length≤192 then (if allW m=true then 0 else 3) else 1
theorem QmQ (m:List Int) (h:m.length≤maxLen):F_db (m,())=some ((QN m,()),()):=by
 unfold F_db QN;rw [QbB m h];simp only [Obn,Qax,Qal,beq_eq_false_iff_ne,decide_eq_false_iff_not,bne_iff_ne];have e:((m.length:Nat):Int).tmod 8=((m.length % 8:Nat):Int):=rfl;rw [e];by_cases h1:((m.length:Nat):Int)≠0
 ·rw [if_pos h1];by_cases h2: ¬((m.length:Nat):Int) > 192
  ·rw [if_pos h2];by_cases h3:((m.length % 8:Nat):Int)≠0
   ·rw [if_pos h3,if_neg (by omega)]
   ·have hc:m.length % 8=0∧8≤m.length∧m.length≤192:=by omega
    rw [if_neg h3,if_pos hc];cases allW m <;> rfl
  ·rw [if_neg h2,if_neg (by omega)]
 ·rw [if_neg h1,if_neg (by omega)]
theorem Qkq (m:List Int) (i:Int) (h0:0≤i) (h1:i≤(m.length:Int)) (h3:m.length≤maxLen):
  L_ds_4 ((m,i,()),(),())=some (if allW (m.drop i.toNat)=true then .inl ((),(),()) else .inr (.inl ((3,()),(),()))):=by
 refine QjK (γ:=denO o_l_4) (step:=l_ds_4) (β:=Int) (fun i=>((m,i,()),(),())) (fun i=>0≤i∧i≤(m.length:Int)) (fun i=>some (if allW (m.drop i.toNat)=true then .inl ((),(),()) else .inr (.inl ((3,()),(),()))))
  (fun i=>(m.length-i).toNat) ?_ lots _ ⟨h0,h1⟩ (by rw [Qdk] at h3; rw [QG]; omega)
 rintro rec i ⟨h0,h1⟩ ih;simp only at h0 h1 ih⊢;unfold l_ds_4;simp only [Qax,Qal,decide_eq_true_eq,ge_iff_le,gt_iff_lt];by_cases hlt:i< (m.length:Int)
 ·obtain ⟨y,hy,_,hd⟩:=QqJ h0 hlt;rw [if_pos hlt,if_pos h0,hy,Obn,Qcm,Obn,Qqu h0 hlt h3,hd,Qld];show (if (!okW y)=true then _ else _)=_
  cases hw:okW y with
  | true=>simpa using ih (i+1) ⟨by omega,by omega⟩ (by omega)
  | false=>simp
 ·rw [if_neg hlt,Qhk hlt];rfl
theorem Qnh (m:List Int) (h:m.length≤maxLen):F_ds (m,())=some ((QN m,()),()):=by
 unfold F_ds QN;simp only [Qax,Qal,beq_eq_false_iff_ne,decide_eq_false_iff_not,bne_eq_false_iff_eq,decide_eq_true_eq];have e:((m.length:Nat):Int).tmod 8=((m.length % 8:Nat):Int):=rfl;rw [e];by_cases h1:((m.length % 8:Nat):Int)=0
 ·rw [if_pos h1];by_cases h2: ¬((m.length:Nat):Int)< 8
  ·rw [if_pos h2];by_cases h3:((m.length:Nat):Int) > 192
   ·rw [if_pos h3,if_neg (by omega)]
   ·rw [if_neg h3,if_pos (by omega),Qkq m 0 (by simp) (by simp) h]
    simp only [Int.toNat_zero,List.drop_zero];cases allW m <;> rfl
  ·rw [if_neg h2,if_neg (by omega)]
 ·rw [if_neg h1,if_neg (by omega)]
theorem QkO (m m2:List Int) (i:Int) (h0:0≤i) (h1:i≤(m.length:Int)) (h2:m2.length=m.length) (h3:m.length≤maxLen):
  L_ee_4 ((m,m2,((m.length:Nat):Int),i,()),(),())=some (if m.drop i.toNat=m2.drop i.toNat then .inl ((),(),()) else .inr (.inl ((false,()),(),()))):=by
 refine QjK (γ:=denO o_f_2) (step:=l_ee_4) (β:=Int) (fun i=>((m,m2,((m.length:Nat):Int),i,()),(),())) (fun i=>0≤i∧i≤(m.length:Int)) (fun i=>some (if m.drop i.toNat=m2.drop i.toNat then .inl ((),(),()) else .inr (.inl ((false,()),(),()))))
  (fun i=>(m.length-i).toNat) ?_ lots _ ⟨h0,h1⟩ (by rw [Qdk] at h3; rw [QG]; omega)
 rintro rec i ⟨h0,h1⟩ ih;simp only at h0 h1 ih⊢;unfold l_ee_4;simp only [Qax,decide_eq_true_eq];by_cases hlt:i< (m.length:Int)
 ·obtain ⟨y,hy,_,hd⟩:=QqJ h0 hlt;obtain ⟨z,hz,_,hd2⟩:=QqJ (m:=m2) h0 (by omega)
  rw [if_pos hlt,if_pos h0,hy,Obn,if_pos h0,hz,Obn,Qqu h0 hlt h3,hd,hd2];by_cases e:y=z
  ·subst e;rw [if_neg (by simp),ih _ ⟨by omega,by omega⟩ (by omega)]
   simp
  ·rw [if_pos (by simpa using e)]
   simp [e]
 ·rw [if_neg hlt,Qhk hlt,Qhk (by omega)]
  simp
theorem Qao (x:denP P_eb) (h:x.1.length≤maxLen):F_ee x=some ((decide (x.1=x.2.1),()),()):=by
 obtain ⟨m,m2,_⟩:=x;unfold F_ee;simp only at h⊢;by_cases e:m.length=m2.length
 ·have e':((m.length:Nat):Int)=(m2.length:Nat):=by omega
  rw [if_neg (by simp; exact e'),QkO m m2 0 (by simp) (by simp) e.symm h]
  simp only [Int.toNat_zero,List.drop_zero];by_cases e2:m=m2
  ·simp [e2]
  ·simp [e2]
 ·have e': ¬((m.length:Nat):Int)=(m2.length:Nat):=by omega
  rw [if_pos (by simp; exact e')]
  have:m≠m2:=fun e2=>e (by rw [e2])
  simp [this]
abbrev QH:=den (.pair (.slice (.int .i64)) (.pair (.int .i64) (.pair (.slice (.int .i64)) (.pair .bool (.pair .bool (.pair .bool (.pair (.int .i64) (.pair (.slice (.int .i64)) (.pair (.slice (.int .i64)) .unit)))))))))
abbrev Qwd:=QH×List Int×List Int×Unit
def QbQ (n:Nat) (h:QH):Prop:=h.1.length≤n∧h.2.2.1.length≤n∧h.2.2.2.2.2.2.2.1.length≤n∧h.2.2.2.2.2.2.2.2.1.length≤n
def Qnp (n:Nat) (v:Qwd):Prop:=QbQ n v.1∧v.2.1.length≤n∧v.2.2.1.length≤n
theorem QtQ (x:denP P_ef) (h:QbQ maxLen x.1): ∃b,True∧F_ef x=some ((b,()),()):=by
 obtain ⟨h1,h2,h3,h4⟩:=h;unfold F_ef;rw [Qao (x.1.1,x.2.1.1,()) h1,Qao (x.1.2.2.1,x.2.1.2.2.1,()) h2,Qao (x.1.2.2.2.2.2.2.2.1,x.2.1.2.2.2.2.2.2.2.1,()) h3,Qao (x.1.2.2.2.2.2.2.2.2.1,x.2.1.2.2.2.2.2.2.2.2.1,()) h4];simp only [Obn]
 repeat' split
 all_goals exact ⟨_,trivial,rfl⟩
theorem QuW (x:denP P_eg) (h:Qnp maxLen x.1): ∃b,True∧F_eg x=some ((b,()),()):=by
 obtain ⟨h1,h2,h3⟩:=h;obtain ⟨b,_,e2⟩:=QtQ (x.1.1,x.2.1.1,()) h1;unfold F_eg;rw [e2,Qao (x.1.2.1,x.2.1.2.1,()) h2,Qao (x.1.2.2.1,x.2.1.2.2.1,()) h3];simp only [Obn]
 repeat' split
 all_goals exact ⟨_,trivial,rfl⟩
theorem leM {n:Nat} (h:n≤1048576):n≤maxLen:=by rw [Qdk]; omega
theorem QlR (m:List Int) (p:Nat) (h:8*p+8≤m.length) (h2:m.length≤192):F_ea (m,(p:Int),())=some (((m.drop (8*p)).take 8,()),()):=by
 unfold F_ea F_dh;simp only;rw [Qq (n:=(p:Int)*8) (by omega) (by omega),Qq (n:=(p:Int)+1) (by omega) (by omega),Qq (n:=((p:Int)+1)*8) (by omega) (by omega)]
 rw [if_pos ⟨by omega,by omega,by omega⟩]
 have e1:((p:Int)*8).toNat=8*p:=by omega
 have e2:(((p:Int)+1)*8).toNat-8*p=8:=by omega
 rw [e1,e2,if_pos (by simp; omega),Obn]
 simp
theorem Qcw (x y:Int):F_eh ([x,y],())=some ((if x≠0 then x else y,()),()):=by
 have key:L_eh_2 (([x,y],2,0,()),(),())=some (if x≠0 then .inr (.inl ((x,()),(),())) else if y≠0 then .inr (.inl ((y,()),(),())) else .inl ((),(),())):=by
  have e:lots=(18446744073709551613+1)+1+1:=rfl;show Qd l_eh_2 lots _=_;rw [e];generalize 18446744073709551613=n;have w1:IntKind.i64.wrap ((0:Int)+1)=1:=Qq (by omega) (by omega)
  have w2:IntKind.i64.wrap ((1:Int)+1)=2:=Qq (by omega) (by omega)
  have s3:Qd l_eh_2 (n+1) (([x,y],2,2,()),(),())=some (.inl ((),(),())):=by
   simp only [Qd];generalize Qd l_eh_2 n=rec;unfold l_eh_2;simp [Qax]
  have s2:Qd l_eh_2 (n+1+1) (([x,y],2,1,()),(),())=some (if y≠0 then .inr (.inl ((y,()),(),())) else .inl ((),(),())):=by
   rw [show Qd l_eh_2 (n+1+1) (([x,y],2,1,()),(),())=l_eh_2 (Qd l_eh_2 (n+1)) (([x,y],2,1,()),(),()) from rfl]
   generalize Qd l_eh_2 (n+1)=rec at s3⊢;unfold l_eh_2;simp only [Qax];rw [if_pos (by decide),if_pos (by decide)]
   show (some y).bind _=_;rw [Obn,w2,s3];by_cases h:y=0
   ·subst h; simp
   ·rw [if_pos (by simp; exact h)]; simp [h]
  rw [show Qd l_eh_2 (n+1+1+1) (([x,y],2,0,()),(),())=l_eh_2 (Qd l_eh_2 (n+1+1)) (([x,y],2,0,()),(),()) from rfl]
  generalize Qd l_eh_2 (n+1+1)=rec at s2⊢;unfold l_eh_2;simp only [Qax];rw [if_pos (by decide),if_pos (by decide)]
  show (some x).bind _=_;rw [Obn,w1,s2];by_cases h:x=0
  ·subst h; simp
  ·rw [if_pos (by simp; exact h)]; simp [h]
 unfold F_eh;simp only;show (L_eh_2 (([x,y],2,0,()),(),())).bind _=_;rw [key,Obn];by_cases h:x=0
 ·subst h;by_cases h2:y=0
  ·subst h2; simp
  ·simp [h2]
 ·simp [h]
theorem Qgx {m:List Int} (h:QN m=0):m.length % 8=0∧8≤m.length∧m.length≤192:=by
 unfold QN at h;split at h
 ·assumption
 ·omega
theorem Qfa {X γ σ:Type} {step:(X→Option γ)→X→Option γ} (emb:Nat→σ→X) (N:Nat) (hN:N< lots) (I:Nat→σ→Prop) (out:Nat→σ→Option γ)
  (h: ∀rec i s,i≤N→I i s→(∀s',i< N→I (i+1) s'→rec (emb (i+1) s')=out (i+1) s')→step rec (emb i s)=out i s):
  ∀i s,i≤N→I i s→Qd step lots (emb i s)=out i s:=by
 have key: ∀n i s,N-i< n→i≤N→I i s→Qd step n (emb i s)=out i s:=by
  intro n
  induction n with
  | zero=>intro i s h; omega
  | succ n ih=>
   intro i s hn hi hI;simp only [Qd];exact h _ i s hi hI fun s' hlt hI'=>ih (i+1) s' (by omega) (by omega) hI'
 intro i s hi hI;exact key lots i s (by omega) hi hI
theorem QaM {n:Nat} (h:n≤9223372036854775807):n< lots:=by rw [QG]; omega
theorem QQ {i:Nat} (h:i< 9223372036854775807):IntKind.i64.wrap ((i:Int)+1)=((i+1:Nat):Int):=by rw [Qq (by omega) (by omega)]; rfl
theorem nat0 {i:Nat}:(0:Int)≤(i:Int):=Int.natCast_nonneg i
theorem Qn {α γ:Type} {m:List α} {i:Nat} (h:i< m.length) (K:α→Option γ):(m[((i:Nat):Int).toNat]?).bind K=K m[i]:=by
 rw [Int.toNat_natCast,List.getElem?_eq_getElem h,Obn]
theorem QaT {α:Type} {m:List α} {i:Nat} (h:i< m.length):m.drop i=m[i]::m.drop (i+1):=List.drop_eq_getElem_cons h
theorem QbN {α:Type} {m:List α} {i:Nat} (h: ¬i< m.length):m.drop i=[]:=List.drop_of_length_le (by omega)
theorem ltN {a b:Nat}:ltI (a:Int) (b:Int)=decide (a< b):=by
 rw [Qax]; by_cases h:a< b
 ·have:(a:Int)< b:=by omega
  simp [h,this]
 ·have: ¬(a:Int)< b:=by omega
  simp [h,this]
theorem QB {a b:Int}:ltI a b=true↔a< b:=by rw [Qax]; simp
theorem QaW {a b:Int}:leI a b=true↔a≤b:=by rw [Qal]; simp
theorem Qbf {a b:Int}:ltI a b=false↔ ¬a< b:=by rw [Qax]; simp
def scan {α β:Type} (f:Nat→α→Option β):Nat→List α→Option β
 | _,[]=>none
 | i,x::r=>match f i x with
  | some c=>some c
  | none=>scan f (i+1) r
theorem QY {X α γ β:Type} {step:(X→Option γ)→X→Option γ} (emb:Nat→X) (m:List α) (f:Nat→α→Option β) (bad:β→Option γ) (done:Option γ) (hm:m.length≤9223372036854775807)
  (h1: ∀rec i (h:i< m.length),step rec (emb i)=match f i m[i] with | some c=>bad c | none=>rec (emb (i+1)))
  (h2: ∀rec,step rec (emb m.length)=done):Qd step lots (emb 0)=match scan f 0 m with | some c=>bad c | none=>done:=by
 have key:=Qfa (step:=step) (fun i (_:Unit)=>emb i) m.length (QaM hm) (fun _ _=>True) (fun i _=>match scan f i (m.drop i) with | some c=>bad c | none=>done) ?_ 0 () (by omega) trivial
 ·simpa using key
 ·intro rec i _ hi _ ih;by_cases hlt:i< m.length
  ·rw [h1 rec i hlt,QaT hlt];simp only [scan];cases hf:f i m[i] with
   | some c=>rfl
   | none=>exact ih () hlt trivial
  ·have:i=m.length:=by omega
   subst this;rw [h2,List.drop_length];rfl
theorem Qet {α β:Type} {f:Nat→α→Option β} {p:α→Bool}: ∀{m:List α} {i:Nat},(∀j (h:j< m.length),(f (i+j) m[j]).isSome=p m[j])→(scan f i m).isSome=m.any p
 | [],_,_=>rfl
 | x::r,i,h=>by
  have h0:=h 0 (by simp)
  simp only [Nat.add_zero,List.getElem_cons_zero] at h0
  have:=Qet (f:=f) (p:=p) (m:=r) (i:=i+1) fun j hj=>by
   have:=h (j+1) (by simpa using hj)
   simpa [Nat.add_assoc,Nat.add_comm,Nat.add_left_comm] using this
  simp only [scan,List.any_cons, ←h0, ←this];cases f i x <;> rfl
theorem lt_t {i n:Nat} (h:i< n):ltI (i:Int) (n:Int)=true:=by rw [ltN]; simpa using h
theorem lt_f {i n:Nat} (h: ¬i< n): ¬ltI (i:Int) (n:Int)=true:=by rw [ltN]; simpa using h
theorem Qat {n:Nat}: ¬ltI (n:Int) (n:Int)=true:=lt_f (Nat.lt_irrefl n)
theorem lt1 {α:Type} {i:Nat} {m:List α} (h:i< m.length) (hm:m.length≤1048576):i< 9223372036854775807:=by omega
theorem QwD {X γ:Type} (step:(X→Option γ)→X→Option γ) (n:Nat) (x:X):Qd step (n+1) x=step (Qd step n) x:=rfl
theorem Qxi:lots=18446744073709551613+1+1+1:=rfl
abbrev QI:=Int×Int×Int×Int×Int×Unit
abbrev TwoD:=Int×Int×Unit
abbrev PolD:=List (List Int)×List QI×List TwoD×List TwoD×Unit
def QfJ (n:Nat) (p:PolD):Prop:=(p.1.length≤n∧ ∀l∈p.1,l.length≤n)∧p.2.1.length≤n∧p.2.2.1.length≤n∧p.2.2.2.1.length≤n
theorem Qbw {n:Nat} (h:n≤1048576):n≤9223372036854775807:=by omega
theorem Qdh {α β:Type} {f:Nat→α→Option β} {P:β→Prop}: ∀{m:List α} {i:Nat},(∀j (h:j< m.length) c,f (i+j) m[j]=some c→P c)→ ∀c,scan f i m=some c→P c
 | [],_,_,c,h=>by simp [scan] at h
 | x::r,i,h,c,hc=>by
  have h0:=h 0 (by simp)
  simp only [Nat.add_zero,List.getElem_cons_zero] at h0;simp only [scan] at hc;split at hc
  ·rename_i d hd;obtain rfl:=Osj hc;exact h0 _ hd
  ·exact Qdh (m:=r) (i:=i+1) (fun j hj c' hc'=>h (j+1) (by simpa using hj) c' (by simpa [Nat.add_assoc,Nat.add_comm,Nat.add_left_comm] using hc')) c hc
theorem Qok (m:List Int) (v:Int) (hm:m.length≤1048576):F_f (m,v,())=some ((m.contains v,()),()):=by
 have key:=QY (step:=l_f_2) (γ:=denO o_f_2) (fun i=>((m,v,((i:Nat):Int),()),(),())) m (fun _ y=>if (y==v)=true then some () else none) (fun _=>some (.inr (.inl ((true,()),(),())))) (some (.inl ((),(),()))) (Qbw hm) ?_ ?_
 ·unfold F_f;show (Qd l_f_2 lots ((m,v,((0:Nat):Int),()),(),())).bind _=_;rw [key];have:=Qet (f:=fun (_:Nat) y=>if (y==v)=true then some () else none) (p:=fun y=>y==v) (m:=m) (i:=0) (fun j hj=>by cases m[j]==v <;> rfl)
  have e:m.any (fun y=>y==v)=m.contains v:=by
   rw [Bool.eq_iff_iff,List.any_eq_true,List.contains_iff_mem];exact ⟨fun ⟨y,hy,e⟩=>by rw [←beq_iff_eq.1 e]; exact hy,fun h=>⟨v,h,by simp⟩⟩
  rw [e] at this;rw [←this];cases scan (fun (_:Nat) y=>if (y==v)=true then some () else none) 0 m <;> rfl
 ·intro rec i h;unfold l_f_2;dsimp only;rw [if_pos (lt_t h),if_pos nat0,Qn h,QQ (lt1 h hm)];cases m[i]==v <;> rfl
 ·intro rec;unfold l_f_2;dsimp only;rw [if_neg Qat]
def isG (p:PolD) (g:Int):Bool:=decide (g≥0) && decide (g≤(p.1.length:Int)-1)
theorem Qdu (p:PolD) (g:Int) (h:p.1.length≤1048576):F_h (p,g,())=some ((isG p g,()),()):=by
 unfold F_h isG;dsimp only;rw [Qq (by omega) (by omega),Qcm,Obn]
theorem QaO (p:PolD) (g:Int) (h:p.1.length≤1048576):F_cf (p,g,())=some ((isG p g,()),()):=by
 unfold F_cf isG;dsimp only;rw [Qq (by omega) (by omega),Qbq,Obn]
def QcL (p:PolD) (a b:Int):Int:=if isG p a=true then (if isG p b=true then (if a=b then 1 else 0) else 4) else 4
theorem QqP (p:PolD) (a b:Int) (h:p.1.length≤1048576):F_i (p,a,b,())=some ((QcL p a b,()),()):=by
 unfold F_i QcL;rw [Qdu p a h,Qdu p b h];simp only [Obn];cases isG p a <;> cases isG p b <;> by_cases e:a=b <;> simp [e]
theorem QqX (p:PolD) (a b:Int) (h:p.1.length≤1048576):F_cg (p,a,b,())=some ((QcL p a b,()),()):=by
 unfold F_cg QcL;rw [QaO p a h,QaO p b h];simp only [Obn];cases isG p a <;> cases isG p b <;> by_cases e:a=b <;> simp [e]
def QiX:Option Int→Int
 | some c=>c
 | none=> -1
def QfG (own:List (List Int)) (page:Int):Int:=QiX (scan (fun i (l:List Int)=>if l.contains page=true then some ((i:Nat):Int) else none) 0 own)
theorem QuA (p:PolD) (page:Int) (h:p.1.length≤1048576) (h2: ∀l∈p.1,l.length≤1048576):F_j (p,page,())=some ((QfG p.1 page,()),()):=by
 have key:=QY (step:=l_j_2) (γ:=denO o_j_2) (fun i=>((p,page,((i:Nat):Int),()),(),())) p.1 (fun i (l:List Int)=>if l.contains page=true then some ((i:Nat):Int) else none)
  (fun c=>some (.inr (.inl ((c,()),(),())))) (some (.inl ((),(),()))) (Qbw h) ?_ ?_
 ·unfold F_j QfG;show (Qd l_j_2 lots ((p,page,((0:Nat):Int),()),(),())).bind _=_;rw [key];cases scan (fun i (l:List Int)=>if l.contains page=true then some ((i:Nat):Int) else none) 0 p.1 <;> rfl
 ·intro rec i hi;unfold l_j_2;dsimp only;rw [if_pos (lt_t hi),if_pos nat0,Qn hi,QQ (lt1 hi h),Qok _ _ (h2 _ (List.getElem_mem hi)),Obn];dsimp only;cases (p.1[i]).contains page <;> rfl
 ·intro rec;unfold l_j_2;dsimp only;rw [if_neg Qat]
theorem QvP {α:Type} {P:Nat→α→Bool} {m:List α} {c:Int} (h:scan (fun i y=>if P i y=true then some ((i:Nat):Int) else none) 0 m=some c):0≤c:=by
 refine Qdh (P:=fun c=>0≤c) ?_ c h
 intro j hj c hc;split at hc
 ·obtain rfl:=Osj hc; omega
 ·cases hc
theorem QdR {α:Type} {P:α→Bool} {m:List α} {f:Nat→α→Option Int} (hf: ∀i y,f i y=if P y=true then some ((i:Nat):Int) else none):leI 0 (QiX (scan f 0 m))=m.any P:=by
 have e:f=fun i y=>if P y=true then some ((i:Nat):Int) else none:=by funext i y; exact hf i y
 subst e;have h1:=Qet (f:=fun i y=>if P y=true then some ((i:Nat):Int) else none) (p:=P) (m:=m) (i:=0) (fun j hj=>by cases P m[j] <;> rfl)
 rw [←h1,Qal];cases hs:scan (fun i y=>if P y=true then some ((i:Nat):Int) else none) 0 m with
 | none=>rfl
 | some c=>have:=QvP (P:=fun _ y=>P y) hs; simp [QiX,this]
theorem QtX (m:List Int) (v:Int) (hm:m.length≤1048576):F_ch (m,v,())=some ((QiX (scan (fun i y=>if (v==y)=true then some ((i:Nat):Int) else none) 0 m),()),()):=by
 have key:=QY (step:=l_ch_2) (γ:=denO o_j_2) (fun i=>((m,v,((m.length:Nat):Int),((i:Nat):Int),()),(),())) m (fun i y=>if (v==y)=true then some ((i:Nat):Int) else none)
  (fun c=>some (.inr (.inl ((c,()),(),())))) (some (.inl ((),(),()))) (Qbw hm) ?_ ?_
 ·unfold F_ch;show (Qd l_ch_2 lots ((m,v,((m.length:Nat):Int),((0:Nat):Int),()),(),())).bind _=_;rw [key];cases scan (fun i y=>if (v==y)=true then some ((i:Nat):Int) else none) 0 m <;> rfl
 ·intro rec i hi;unfold l_ch_2;dsimp only;rw [if_pos (lt_t hi),if_pos nat0,Qn hi,QQ (lt1 hi hm)];cases v==m[i] <;> rfl
 ·intro rec;unfold l_ch_2;dsimp only;rw [if_neg Qat]
theorem QmD (m:List Int) (v:Int):m.any (fun y=>v==y)=m.contains v:=by
 rw [Bool.eq_iff_iff,List.any_eq_true,List.contains_iff_mem];exact ⟨fun ⟨y,hy,e⟩=>by rw [beq_iff_eq.1 e]; exact hy,fun h=>⟨v,h,by simp⟩⟩
theorem Qfl (m:List Int) (v:Int) (hm:m.length≤1048576):F_ci (m,v,())=some ((m.contains v,()),()):=by
 unfold F_ci;rw [QtX m v hm,Obn];dsimp only;rw [QdR (P:=fun y=>v==y) (fun _ _=>rfl),QmD]
theorem QmR (p:PolD) (page:Int) (h:p.1.length≤1048576) (h2: ∀l∈p.1,l.length≤1048576):F_cj (p,page,())=some ((QfG p.1 page,()),()):=by
 have key:=QY (step:=l_cl_2) (γ:=denO o_j_2) (fun i=>((p.1,(page,()),((p.1.length:Nat):Int),((i:Nat):Int),()),(),())) p.1
  (fun i (l:List Int)=>if l.contains page=true then some ((i:Nat):Int) else none) (fun c=>some (.inr (.inl ((c,()),(),())))) (some (.inl ((),(),()))) (Qbw h) ?_ ?_
 ·unfold F_cj QfG F_ck_1;show ((Qd l_cl_2 lots ((p.1,(page,()),((p.1.length:Nat):Int),((0:Nat):Int),()),(),())).bind _).bind _=_;rw [key];cases scan (fun i (l:List Int)=>if l.contains page=true then some ((i:Nat):Int) else none) 0 p.1 <;> rfl
 ·intro rec i hi;unfold l_cl_2;dsimp only;rw [if_pos (lt_t hi),if_pos nat0,Qn hi,QQ (lt1 hi h)];unfold F_cj_1;rw [Qfl _ _ (h2 _ (List.getElem_mem hi)),Obn,Obn];dsimp only;cases (p.1[i]).contains page <;> rfl
 ·intro rec;unfold l_cl_2;dsimp only;rw [if_neg Qat]
def QbF (l:QI) (g page:Int):Bool:=(l.1==g && l.2.2.2.1==page) || (l.2.1==g && l.2.2.2.2.1==page)
theorem QqV (l:QI) (g page:Int):F_k (l,g,page,())=some ((QbF l g page,()),()):=by
 unfold F_k QbF;cases l.1==g <;> cases l.2.2.2.1==page <;> cases l.2.1==g <;> rfl
theorem Qrn (l:QI) (g page:Int):F_cm (l,g,page,())=some ((QbF l g page,()),()):=by
 unfold F_cm QbF;cases l.1==g <;> cases l.2.2.2.1==page <;> cases l.2.1==g <;> rfl
def clash (l o:QI):Bool:=o.2.2.1==l.2.2.1 || (QbF o l.1 l.2.2.2.1 || QbF o l.2.1 l.2.2.2.2.1)
def inB (n a b:Int):Bool:=decide (n≥a) && decide (n≤b)
theorem QaA (n a b:Int):F_cd (n,a,b,())=some ((inB n a b,()),()):=Qbq n a b
theorem QaU (n a b:Int):F_e (n,a,b,())=some ((inB n a b,()),()):=Qcm n a b
def Qek (p:PolD) (l:QI) (ahead:List QI):Int:=
 if QcL p l.1 l.2.1≠0 then QcL p l.1 l.2.1
 else if inB l.2.2.1 0 23=true∧inB l.2.2.2.1 5 6=true∧inB l.2.2.2.2.1 5 6=true then
  (if leI 0 (QfG p.1 l.2.2.1)=true then 6 else if ahead.any (clash l)=true then 6 else 0) else 3
theorem Quf (l o:QI):F_cn_1 (o,l,())=some ((clash l o,()),()):=by
 unfold F_cn_1 clash;dsimp only;rw [Qrn,Qrn];simp only [Obn];cases o.2.2.1==l.2.2.1 <;> cases QbF o l.1 l.2.2.2.1 <;> rfl
theorem Qol (l:QI) (m:List QI) (hm:m.length≤1048576):F_cq_1 (m,(l,()),())=some ((m.any (clash l),()),()):=by
 have key:=QY (step:=l_cp_2) (γ:=denO o_j_2) (fun i=>((m,(l,()),((m.length:Nat):Int),((i:Nat):Int),()),(),())) m
  (fun i o=>if clash l o=true then some ((i:Nat):Int) else none) (fun c=>some (.inr (.inl ((c,()),(),())))) (some (.inl ((),(),()))) (Qbw hm) ?_ ?_
 ·unfold F_cq_1 F_co_1;show ((Qd l_cp_2 lots ((m,(l,()),((m.length:Nat):Int),((0:Nat):Int),()),(),())).bind _).bind _=_;rw [key, ←QdR (P:=clash l) (m:=m) (f:=fun i o=>if clash l o=true then some ((i:Nat):Int) else none) (fun _ _=>rfl)]
  cases scan (fun i o=>if clash l o=true then some ((i:Nat):Int) else none) 0 m <;> rfl
 ·intro rec i hi;unfold l_cp_2;dsimp only;rw [if_pos (lt_t hi),if_pos nat0,Qn hi,QQ (lt1 hi hm),Quf,Obn];dsimp only;cases clash l m[i] <;> rfl
 ·intro rec;unfold l_cp_2;dsimp only;rw [if_neg Qat]
theorem QmW (p:PolD) (l:QI) (ahead:List QI) (h:p.1.length≤1048576) (h2: ∀l∈p.1,l.length≤1048576) (hm:ahead.length≤1048576):F_cn (p,l,ahead,())=some ((Qek p l ahead,()),()):=by
 unfold F_cn Qek;dsimp only;rw [QqX p _ _ h,QaA,QaA,QaA,QmR p _ h h2,Qol l ahead hm];simp only [Obn];by_cases h0:QcL p l.1 l.2.1=0
 ·rw [h0];cases b1:inB l.2.2.1 0 23 <;> cases b2:inB l.2.2.2.1 5 6 <;> cases b3:inB l.2.2.2.2.1 5 6 <;> cases b4:leI 0 (QfG p.1 l.2.2.1) <;> cases b5:ahead.any (clash l) <;> simp
 ·simp [h0]
def nz (c:Int):Option Int:=if c≠0 then some c else none
def QbS (p:PolD):Option Int:=scan (fun i l=>nz (Qek p l (p.2.1.take i))) 0 p.2.1
theorem Qng (p:PolD) (i:Nat) (hi:i< p.2.1.length) (hm:p.2.1.length≤1048576) (l:QI) (a1:Int) (a2 a3:Bool) (a4:Int) (a5 a6:Bool):
  (((p.2.1.take i).any (clash l)=true∧Qd l_l_15 lots ((p,(i:Int),(),0,(),a1,a2,a3,(),a4,a5,a6,()),((l.1,l.2.1,l.2.2.1,l.2.2.2.1,l.2.2.2.2.1,()),()),())=some (.inr (.inl ((6,()),(),()))))∨
   ((p.2.1.take i).any (clash l)=false∧ ∃x,Qd l_l_15 lots ((p,(i:Int),(),0,(),a1,a2,a3,(),a4,a5,a6,()),((l.1,l.2.1,l.2.2.1,l.2.2.2.1,l.2.2.2.2.1,()),()),())=some (.inl x)∧x.1.1=p∧x.1.2.1=(i:Int))):=by
 have hl:(p.2.1.take i).length=i:=by simp; omega
 obtain ⟨x,hx,hx1,hx2⟩: ∃x,(∀rec,l_l_15 rec ((p,(i:Int),(),(i:Int),(),a1,a2,a3,(),a4,a5,a6,()),((l.1,l.2.1,l.2.2.1,l.2.2.2.1,l.2.2.2.2.1,()),()),())=some (.inl x))∧x.1.1=p∧x.1.2.1=(i:Int):=by
  refine ⟨((p,(i:Int),(),a1,a2,a3,(),a4,a5,a6,()),((l.1,l.2.1,l.2.2.1,l.2.2.2.1,l.2.2.2.2.1,()),()),()),fun rec=>?_,rfl,rfl⟩
  unfold l_l_15;dsimp only;rw [if_neg Qat]
 have key:=QY (step:=l_l_15) (γ:=denO o_l_15) (fun k=>((p,(i:Int),(),((k:Nat):Int),(),a1,a2,a3,(),a4,a5,a6,()),((l.1,l.2.1,l.2.2.1,l.2.2.2.1,l.2.2.2.2.1,()),()),())) (p.2.1.take i)
  (fun _ o=>if clash l o=true then some () else none) (fun _=>some (.inr (.inl ((6,()),(),())))) (some (.inl x)) (Qbw (by omega)) ?_ ?_
 ·have h1:=Qet (f:=fun (_:Nat) o=>if clash l o=true then some () else none) (p:=clash l) (m:=p.2.1.take i) (i:=0) (fun j hj=>by cases clash l (p.2.1.take i)[j] <;> rfl)
  have e0:((0:Nat):Int)=0:=rfl;rw [e0] at key;rw [key, ←h1];cases scan (fun (_:Nat) o=>if clash l o=true then some () else none) 0 (p.2.1.take i) with
  | some c=>exact .inl ⟨rfl,rfl⟩
  | none=>exact .inr ⟨rfl,x,rfl,hx1,hx2⟩
 ·intro rec k hk;have hk':k< i:=by omega
  unfold l_l_15;dsimp only;rw [if_pos (lt_t hk'),if_pos nat0,Qn (by omega),QQ (by omega),QqV,QqV,List.getElem_take]
  simp only [Obn,clash];rcases Bool.eq_false_or_eq_true ((p.2.1[k]).2.2.1==l.2.2.1) with c1 | c1 <;> rcases Bool.eq_false_or_eq_true (QbF p.2.1[k] l.1 l.2.2.2.1) with c2 | c2 <;> rcases Bool.eq_false_or_eq_true (QbF p.2.1[k] l.2.1 l.2.2.2.2.1) with c3 | c3 <;> simp [c1,c2,c3]
 ·intro rec;rw [hl];exact hx rec
theorem QhJ (p:PolD) (h:p.1.length≤1048576) (h2: ∀l∈p.1,l.length≤1048576) (hm:p.2.1.length≤1048576):
  F_l (p,())=some ((if p.2.1.length≤4∧p.2.2.1.length≤4 then (match QbS p with | some c=>c | none=>0) else 2,()),()):=by
 have key:=QY (step:=l_l_4) (γ:=denO o_l_4) (fun i=>((p,((i:Nat):Int),()),(),())) p.2.1 (fun i l=>nz (Qek p l (p.2.1.take i)))
  (fun c=>some (.inr (.inl ((c,()),(),())))) (some (.inl ((),(),()))) (Qbw hm) ?_ ?_
 ·have e0:((0:Nat):Int)=0:=rfl;rw [e0] at key;unfold F_l QbS;dsimp only;by_cases h1:p.2.1.length≤4
  ·rw [if_pos (by rw [Qbf]; omega)]
   by_cases h3:p.2.2.1.length≤4
   ·rw [if_neg (by rw [QB]; omega),if_pos ⟨h1,h3⟩]
    show (Qd l_l_4 lots ((p,0,()),(),())).bind _=_;rw [key];cases scan (fun i l=>nz (Qek p l (p.2.1.take i))) 0 p.2.1 <;> rfl
   ·rw [if_pos (by rw [QB]; omega),if_neg (by omega)]
  ·rw [if_neg (by rw [Qbf]; omega),if_neg (by omega)]
 ·intro rec i hi;unfold l_l_4;dsimp only;rw [if_pos (lt_t hi),if_pos nat0,Qn hi,QqP p _ _ h,QaU,QaU,QaU,QuA p _ h h2];simp only [Obn];generalize p.2.1[i]=l;unfold Qek;by_cases h0:QcL p l.1 l.2.1=0
  ·rw [h0];cases b1:inB l.2.2.1 0 23
   ·simp [nz]
   cases b2:inB l.2.2.2.1 5 6
   ·simp [nz]
   cases b3:inB l.2.2.2.2.1 5 6
   ·simp [nz]
   cases b4:leI 0 (QfG p.1 l.2.2.1)
   ·rw [if_neg (by simp),if_pos (by simp),if_pos (by simp),if_neg (by simp),if_neg (by simp),if_neg (by simp),if_pos (by simp),if_neg (by simp)]
    rcases Qng p i hi hm l l.2.2.2.1 true (!true) l.2.2.2.2.1 true (!true) with ⟨g1,g2⟩ | ⟨g1,x,g2,g3,g4⟩
    ·show (Qd l_l_15 lots ((p,(i:Int),(),0,(),l.2.2.2.1,true,(!true),(),l.2.2.2.2.1,true,(!true),()),((l.1,l.2.1,l.2.2.1,l.2.2.2.1,l.2.2.2.2.1,()),()),())).bind _=_;rw [g1,g2];rfl
    ·show (Qd l_l_15 lots ((p,(i:Int),(),0,(),l.2.2.2.1,true,(!true),(),l.2.2.2.2.1,true,(!true),()),((l.1,l.2.1,l.2.2.1,l.2.2.2.1,l.2.2.2.2.1,()),()),())).bind _=_;rw [g1,g2,Obn];dsimp only;rw [g3,g4,QQ (lt1 hi hm)];rfl
   ·simp [nz]
  ·simp [h0,nz]
 ·intro rec;unfold l_l_4;dsimp only;rw [if_neg Qat]
def Qaq (b o:TwoD):Bool:=(b.1==o.1) && ((b.2.1==o.2.1) && true)
def Qfi (p:PolD) (b:TwoD) (ahead:List TwoD):Int:=if QcL p b.1 b.2.1≠0 then QcL p b.1 b.2.1 else if ahead.any (Qaq b)=true then 6 else 0
def QdY (p:PolD):Option Int:=scan (fun i b=>nz (Qfi p b (p.2.2.1.take i))) 0 p.2.2.1
def QiJ (p:PolD):Int:=if 1≤p.2.2.2.1.length∧p.2.2.2.1.length≤8 then
 (match scan (fun (_:Nat) (s:TwoD)=>if isG p s.1=true then (if inB s.2.1 1 50=true then none else some (3:Int)) else some 4) 0 p.2.2.2.1 with | some c=>c | none=>0) else 2
theorem Qqc (b o:TwoD):Qaq b o=Qaq o b:=by
 unfold Qaq;rw [Bool.eq_iff_iff];simp;constructor <;> rintro ⟨h1,h2⟩ <;> exact ⟨h1.symm,h2.symm⟩
theorem Qfj (b:TwoD) (m:List TwoD) (hm:m.length≤1048576):F_cs (m,b,())=some ((m.any (Qaq b),()),()):=by
 have key:=QY (step:=l_cr_2) (γ:=denO o_j_2) (fun i=>((m,(),((m.length:Nat):Int),((i:Nat):Int),()),((b.1,b.2.1,()),()),())) m
  (fun i o=>if Qaq b o=true then some ((i:Nat):Int) else none) (fun c=>some (.inr (.inl ((c,()),(),())))) (some (.inl ((),(),()))) (Qbw hm) ?_ ?_
 ·unfold F_cs F_cr;show ((Qd l_cr_2 lots ((m,(),((m.length:Nat):Int),((0:Nat):Int),()),((b.1,b.2.1,()),()),())).bind _).bind _=_;rw [key, ←QdR (P:=Qaq b) (m:=m) (f:=fun i o=>if Qaq b o=true then some ((i:Nat):Int) else none) (fun _ _=>rfl)]
  cases scan (fun i o=>if Qaq b o=true then some ((i:Nat):Int) else none) 0 m <;> rfl
 ·intro rec i hi;unfold l_cr_2;dsimp only;rw [if_pos (lt_t hi),if_pos nat0,Qn hi,QQ (lt1 hi hm)];show (if Qaq b m[i]=true then _ else _)=_
  cases Qaq b m[i] <;> rfl
 ·intro rec;unfold l_cr_2;dsimp only;rw [if_neg Qat]
theorem QmG (p:PolD) (b:TwoD) (ahead:List TwoD) (h:p.1.length≤1048576) (hm:ahead.length≤1048576):F_ct (p,b,ahead,())=some ((Qfi p b ahead,()),()):=by
 unfold F_ct Qfi;dsimp only;rw [QqX p _ _ h,Qfj b ahead hm];simp only [Obn];by_cases h0:QcL p b.1 b.2.1=0
 ·rw [h0];cases ahead.any (Qaq b) <;> simp
 ·simp [h0]
theorem Qin (p:PolD) (i:Nat) (hi:i< p.2.2.1.length) (hm:p.2.2.1.length≤1048576) (b:TwoD):
  Qd l_w_9 lots ((p,(i:Int),(),0,()),((b.1,b.2.1,()),()),())=if (p.2.2.1.take i).any (Qaq b)=true then some (.inr (.inl ((6,()),(),()))) else some (.inl ((p,(i:Int),()),(),())):=by
 have hl:(p.2.2.1.take i).length=i:=by simp; omega
 have key:=QY (step:=l_w_9) (γ:=denO o_w_9) (fun k=>((p,(i:Int),(),((k:Nat):Int),()),((b.1,b.2.1,()),()),())) (p.2.2.1.take i)
  (fun _ o=>if Qaq b o=true then some () else none) (fun _=>some (.inr (.inl ((6,()),(),())))) (some (.inl ((p,(i:Int),()),(),()))) (Qbw (by omega)) ?_ ?_
 ·have h1:=Qet (f:=fun (_:Nat) o=>if Qaq b o=true then some () else none) (p:=Qaq b) (m:=p.2.2.1.take i) (i:=0) (fun j hj=>by cases Qaq b (p.2.2.1.take i)[j] <;> rfl)
  have e0:((0:Nat):Int)=0:=rfl;rw [e0] at key;rw [key, ←h1];cases scan (fun (_:Nat) o=>if Qaq b o=true then some () else none) 0 (p.2.2.1.take i) <;> rfl
 ·intro rec k hk;have hk':k< i:=by omega
  unfold l_w_9;dsimp only;rw [if_pos (lt_t hk'),if_pos nat0,Qn (by omega),QQ (by omega),List.getElem_take]
  show (if Qaq p.2.2.1[k] b=true then _ else _)=_
  rw [Qqc];cases Qaq b p.2.2.1[k] <;> rfl
 ·intro rec;unfold l_w_9;dsimp only;rw [hl,if_neg Qat]
theorem QkT (p:PolD) (h:p.1.length≤1048576) (hm:p.2.2.2.1.length≤1048576):
  Qd l_w_16 lots ((p,0,()),(),())=match scan (fun (_:Nat) (s:TwoD)=>if isG p s.1=true then (if inB s.2.1 1 50=true then none else some (3:Int)) else some 4) 0 p.2.2.2.1 with
   | some c=>some (.inr (.inl ((c,()),(),()))) | none=>some (.inl ((),(),())):=by
 have key:=QY (step:=l_w_16) (γ:=denO o_g_15) (fun i=>((p,((i:Nat):Int),()),(),())) p.2.2.2.1 (fun (_:Nat) (s:TwoD)=>if isG p s.1=true then (if inB s.2.1 1 50=true then none else some (3:Int)) else some 4) (fun c=>some (.inr (.inl ((c,()),(),())))) (some (.inl ((),(),()))) (Qbw hm) ?_ ?_
 ·have e0:((0:Nat):Int)=0:=rfl;rw [e0] at key;rw [key];cases scan (fun (_:Nat) (s:TwoD)=>if isG p s.1=true then (if inB s.2.1 1 50=true then none else some (3:Int)) else some 4) 0 p.2.2.2.1 <;> rfl
 ·intro rec i hi;unfold l_w_16;dsimp only;rw [if_pos (lt_t hi),if_pos nat0,Qn hi,Qdu p _ h,Obn];cases b1:isG p (p.2.2.2.1[i]).1
  ·simp
  ·rw [if_neg (by simp),if_pos nat0,Qn hi,QaU,Obn]
   cases b2:inB (p.2.2.2.1[i]).2.1 1 50
   ·simp
   ·rw [if_neg (by simp),QQ (lt1 hi hm)]; simp
 ·intro rec;unfold l_w_16;dsimp only;rw [if_neg Qat]
theorem QoM (p:PolD) (h:p.1.length≤1048576) (h3:p.2.2.1.length≤1048576) (h4:p.2.2.2.1.length≤1048576):
  F_w (p,())=some ((match QdY p with | some c=>c | none=>QiJ p,()),()):=by
 have key:=QY (step:=l_w_2) (γ:=denO o_g_4) (fun i=>((p,((i:Nat):Int),()),(),())) p.2.2.1 (fun i b=>nz (Qfi p b (p.2.2.1.take i)))
  (fun c=>some (.inr (.inl ((c,()),(),())))) (some (.inl ((p,()),(),()))) (Qbw h3) ?_ ?_
 ·have e0:((0:Nat):Int)=0:=rfl;rw [e0] at key;unfold F_w QdY;show (Qd l_w_2 lots ((p,0,()),(),())).bind _=_;rw [key];cases scan (fun i b=>nz (Qfi p b (p.2.2.1.take i))) 0 p.2.2.1 with
  | some c=>rfl
  | none=>
   rw [Obn];dsimp only;unfold QiJ;by_cases g1:1≤p.2.2.2.1.length
   ·rw [if_pos (by rw [Qbf]; omega)]
    by_cases g2:p.2.2.2.1.length≤8
    ·rw [if_neg (by rw [QB]; omega),if_pos ⟨g1,g2⟩]
     show (Qd l_w_16 lots ((p,0,()),(),())).bind _=_;rw [QkT p h h4];cases scan (fun (_:Nat) (s:TwoD)=>if isG p s.1=true then (if inB s.2.1 1 50=true then none else some (3:Int)) else some 4) 0 p.2.2.2.1 <;> rfl
    ·rw [if_pos (by rw [QB]; omega),if_neg (by omega)]
   ·rw [if_neg (by rw [Qbf]; omega),if_neg (by omega)]
 ·intro rec i hi;unfold l_w_2;dsimp only;rw [if_pos (lt_t hi),if_pos nat0,Qn hi,QqP p _ _ h,Obn];generalize p.2.2.1[i]=b;unfold Qfi;by_cases h0:QcL p b.1 b.2.1=0
  ·rw [h0,if_neg (by simp)]
   show (Qd l_w_9 lots ((p,(i:Int),(),0,()),((b.1,b.2.1,()),()),())).bind _=_;rw [Qin p i hi h3 b];cases (p.2.2.1.take i).any (Qaq b)
   ·rw [if_neg (by simp),Obn]
    dsimp only;rw [QQ (lt1 hi h3)];rfl
   ·rfl
  ·simp [h0,nz]
 ·intro rec;unfold l_w_2;dsimp only;rw [if_neg Qat]
theorem QnY (p:PolD) (h:p.1.length≤1048576) (hm:p.2.2.2.1.length≤1048576):F_cu (p,())=some ((QiJ p,()),()):=by
 have key:=QY (step:=l_cu_4) (γ:=denO o_l_4) (fun i=>((p,p.2.2.2.1,((p.2.2.2.1.length:Nat):Int),((i:Nat):Int),()),(),())) p.2.2.2.1
  (fun (_:Nat) (s:TwoD)=>if isG p s.1=true then (if inB s.2.1 1 50=true then none else some (3:Int)) else some 4) (fun c=>some (.inr (.inl ((c,()),(),())))) (some (.inl ((),(),()))) (Qbw hm) ?_ ?_
 ·have e0:((0:Nat):Int)=0:=rfl;rw [e0] at key;unfold F_cu QiJ;dsimp only;rw [QaA,Obn];by_cases g:1≤p.2.2.2.1.length∧p.2.2.2.1.length≤8
  ·have:inB ((p.2.2.2.1.length:Nat):Int) 1 8=true:=by unfold inB; simp; omega
   rw [this,if_neg (by simp),if_pos g]
   show (Qd l_cu_4 lots ((p,p.2.2.2.1,((p.2.2.2.1.length:Nat):Int),0,()),(),())).bind _=_;rw [key];cases scan (fun (_:Nat) (s:TwoD)=>if isG p s.1=true then (if inB s.2.1 1 50=true then none else some (3:Int)) else some 4) 0 p.2.2.2.1 <;> rfl
  ·have:inB ((p.2.2.2.1.length:Nat):Int) 1 8=false:=by unfold inB; simp; omega
   rw [this,if_pos (by simp),if_neg g]
 ·intro rec i hi;unfold l_cu_4;dsimp only;rw [if_pos (lt_t hi),if_pos nat0,Qn hi,QaO p _ h,Obn,QaA,Obn,QQ (lt1 hi hm)];cases b1:isG p (p.2.2.2.1[i]).1
  ·simp
  ·cases b2:inB (p.2.2.2.1[i]).2.1 1 50 <;> simp
 ·intro rec;unfold l_cu_4;dsimp only;rw [if_neg Qat]
def own1 (l:List Int):Option Int:=if 1≤l.length∧l.length≤5 then scan (fun (_:Nat) x=>if inB x 0 23=true then none else some (3:Int)) 0 l else some 2
def dupM:List Int→List Int→Bool
 | _,[]=>false
 | seen,x::r=>seen.contains x || dupM (seen++[x]) r
def QdX (own:List (List Int)):Int:=if 1≤own.length∧own.length≤3 then (match scan (fun (_:Nat) l=>own1 l) 0 own with | some c=>c | none=>if dupM [] own.flatten=true then 6 else 0) else 2
theorem QoK {T:Type} (p:PolD) (i:Nat) (hi:i< p.1.length) (hl:(p.1[i]).length≤1048576) (a1 a2:PolD) (b1 b2:List (List Int)) (c:Int) (d1 d2:List Int) (e1:Int) (e2:Bool):
  ((scan (fun (_:Nat) x=>if inB x 0 23=true then none else some (3:Int)) 0 p.1[i]=none∧ ∃x,Qd l_g_9 lots ((p,(i:Int),0,a1,a2,b1,b2,c,d1,d2,e1,e2,()),(),())=some (.inl x)∧x.1.1=p∧x.1.2.1=(i:Int))∨
   (scan (fun (_:Nat) x=>if inB x 0 23=true then none else some (3:Int)) 0 p.1[i]=some 3∧Qd l_g_9 lots ((p,(i:Int),0,a1,a2,b1,b2,c,d1,d2,e1,e2,()),(),())=some (.inr (.inl ((3,()),(),()))))):=by
 have key:=QY (step:=l_g_9) (γ:=denO o_g_9) (fun k=>((p,(i:Int),((k:Nat):Int),a1,a2,b1,b2,c,d1,d2,e1,e2,()),(),())) p.1[i]
  (fun (_:Nat) x=>if inB x 0 23=true then none else some (3:Int)) (fun c=>some (.inr (.inl ((c,()),(),())))) (some (.inl ((p,(i:Int),a1,a2,b1,b2,c,d1,d2,e1,e2,()),(),()))) (Qbw hl) ?_ ?_
 ·have e0:((0:Nat):Int)=0:=rfl;rw [e0] at key;rw [key];cases hs:scan (fun (_:Nat) x=>if inB x 0 23=true then none else some (3:Int)) 0 p.1[i] with
  | none=>exact .inl ⟨rfl,_,rfl,rfl,rfl⟩
  | some c=>
   have:c=3:=Qdh (P:=fun c=>c=3) (fun j hj c hc=>by
    split at hc
    ·cases hc
    ·exact (Osj hc).symm) c hs
   subst this;exact .inr ⟨rfl,rfl⟩
 ·intro rec k hk;unfold l_g_9;dsimp only;rw [if_pos nat0,Qn hi,if_pos (lt_t hk),if_pos nat0,Qn hi,if_pos nat0,Qn hk,QaU,Obn,QQ (lt1 hk hl)];cases inB (p.1[i])[k] 0 23 <;> rfl
 ·intro rec;unfold l_g_9;dsimp only;rw [if_pos nat0,Qn hi,if_neg Qat]
theorem Qfn: ∀(l seen r:List Int),dupM seen (l++r)=(dupM seen l || dupM (seen++l) r)
 | [],seen,r=>by simp [dupM]
 | x::l,seen,r=>by
  simp only [List.cons_append,dupM,Qfn l (seen++[x]) r,Bool.or_assoc,List.append_assoc,List.singleton_append,List.nil_append]
theorem QoN (p:PolD) (seen:List Int) (i:Nat) (hi:i< p.1.length) (hl:(p.1[i]).length≤1048576) (hs:seen.length≤4194304) (hs2:seen.length+(p.1[i]).length≤1048576):
  Qd l_g_18 lots ((p,seen,(i:Int),0,()),(),())=if dupM seen p.1[i]=true then some (.inr (.inl ((6,()),(),()))) else some (.inl ((p,seen++p.1[i],(i:Int),()),(),())):=by
 have key:=Qfa (step:=l_g_18) (γ:=denO o_g_18) (fun k (s:List Int)=>((p,s,(i:Int),((k:Nat):Int),()),(),())) (p.1[i]).length (QaM (Qbw hl)) (fun k s=>s=seen++(p.1[i]).take k)
  (fun k s=>if dupM s ((p.1[i]).drop k)=true then some (.inr (.inl ((6,()),(),()))) else some (.inl ((p,seen++p.1[i],(i:Int),()),(),()))) ?_ 0 seen (by omega) (by simp)
 ·exact key
 ·rintro rec k s hk hsk ih;unfold l_g_18;dsimp only;rw [if_pos nat0,Qn hi];by_cases hlt:k< (p.1[i]).length
  ·have hsl:s.length=seen.length+k:=by rw [hsk]; simp; omega
   rw [if_pos (lt_t hlt),if_pos nat0,Qn hi,if_pos nat0,Qn hlt,Qok _ _ (by omega),Obn,QaT hlt]
   rw [show dupM s ((p.1[i])[k]::(p.1[i]).drop (k+1))=(s.contains (p.1[i])[k] || dupM (s++[(p.1[i])[k]]) ((p.1[i]).drop (k+1))) from rfl]
   by_cases hc:s.contains (p.1[i])[k]=true
   ·rw [if_pos hc,hc];simp
   ·rw [if_neg hc,if_pos nat0,Qn hi,if_pos nat0,Qn hlt,if_pos (by simp; omega),QQ (lt1 hlt hl)]
    have hc':s.contains (p.1[i])[k]=false:=by simpa using hc
    rw [hc',Bool.false_or];refine ih _ hlt ?_;rw [hsk,List.append_assoc,List.take_add_one,List.getElem?_eq_getElem hlt];rfl
  ·rw [if_neg (lt_f hlt),QbN hlt];rw [show dupM s []=false from rfl]
   rw [hsk,List.take_of_length_le (by omega)]
   simp
theorem Qlv {own:List (List Int)} {i:Nat} (hi:i< own.length):(own.take (i+1)).flatten=(own.take i).flatten++own[i]:=by
 have e:own.take (i+1)=own.take i++[own[i]]:=by rw [List.take_add_one,List.getElem?_eq_getElem hi]; rfl
 rw [e,List.flatten_append];simp
theorem Quz {l:List Int} (h:own1 l=none):l.length≤5:=by
 unfold own1 at h;split at h
 ·rename_i h'; exact h'.2
 ·cases h
theorem Qgk {α β:Type} {f:Nat→α→Option β}: ∀{m:List α} {i:Nat},scan f i m=none→ ∀j (h:j< m.length),f (i+j) m[j]=none
 | [],_,_,j,h=>by simp at h
 | x::r,i,hs,j,h=>by
  simp only [scan] at hs;split at hs
  ·cases hs
  ·rename_i h0;cases j with
   | zero=>simpa using h0
   | succ j=>
    have:=Qgk hs j (by simpa using h)
    simpa [Nat.add_assoc,Nat.add_comm,Nat.add_left_comm] using this
theorem QnK {own:List (List Int)} (h: ∀j (hj:j< own.length),(own[j]).length≤5): ∀i,i≤own.length→(own.take i).flatten.length≤5*i
 | 0,_=>by simp
 | i+1,hi=>by
  rw [Qlv (by omega),List.length_append]
  have:=QnK h i (by omega)
  have:=h i (by omega)
  omega
theorem QiO (p:PolD) (h:p.1.length≤1048576) (h2: ∀l∈p.1,l.length≤1048576):F_g (p,())=some ((QdX p.1,()),()):=by
 unfold F_g QdX;dsimp only;by_cases g1:1≤p.1.length
 case neg=>rw [if_neg (by rw [Qbf]; omega),if_neg (by omega)]
 rw [if_pos (by rw [Qbf]; omega)]
 by_cases g2:p.1.length≤3
 case neg=>rw [if_pos (by rw [QB]; omega),if_neg (by omega)]
 rw [if_neg (by rw [QB]; omega),if_pos ⟨g1,g2⟩]
 have key:=QY (step:=l_g_4) (γ:=denO o_g_4) (fun i=>((p,((i:Nat):Int),()),(),())) p.1 (fun (_:Nat) l=>own1 l)
  (fun c=>some (.inr (.inl ((c,()),(),())))) (some (.inl ((p,()),(),()))) (Qbw h) ?_ ?_
 ·have e0:((0:Nat):Int)=0:=rfl;rw [e0] at key;show (Qd l_g_4 lots ((p,0,()),(),())).bind _=_;rw [key];cases hs:scan (fun (_:Nat) l=>own1 l) 0 p.1 with
  | some c=>rfl
  | none=>
   rw [Obn];dsimp only;have h5: ∀j (hj:j< p.1.length),(p.1[j]).length≤5:=fun j hj=>Quz (Qgk hs j hj)
   have key2:=Qfa (step:=l_g_15) (γ:=denO o_g_15) (fun k (s:List Int)=>((p,s,((k:Nat):Int),()),(),())) p.1.length (QaM (Qbw h)) (fun k s=>s=(p.1.take k).flatten)
    (fun k s=>if dupM s ((p.1.drop k).flatten)=true then some (.inr (.inl ((6,()),(),()))) else some (.inl ((),(),()))) ?_ 0 [] (by omega) (by simp)
   ·show (Qd l_g_15 lots ((p,[],0,()),(),())).bind _=_;rw [e0] at key2;rw [key2,List.drop_zero];cases dupM [] p.1.flatten <;> rfl
   ·rintro rec k s hk hsk ih;unfold l_g_15;dsimp only;by_cases hlt:k< p.1.length
    ·have hfl:=QnK h5 k hk;rw [←hsk] at hfl;have:=h5 k hlt;rw [if_pos (lt_t hlt),QaT hlt,List.flatten_cons,Qfn];show (Qd l_g_18 lots ((p,s,(k:Int),0,()),(),())).bind _=_;rw [QoN p s k hlt (by omega) (by omega) (by omega)]
     cases hd:dupM s p.1[k]
     ·rw [if_neg (by simp),Obn]
      dsimp only;rw [QQ (lt1 hlt h),Bool.false_or];exact ih _ hlt (by rw [hsk,Qlv hlt])
     ·rfl
    ·rw [if_neg (lt_f hlt),QbN hlt];rfl
 ·intro rec i hi;unfold l_g_4;dsimp only;have hl:=h2 _ (List.getElem_mem hi);rw [if_pos (lt_t hi),if_pos nat0,Qn hi];unfold own1;by_cases k1:1≤(p.1[i]).length
  case neg=>rw [if_neg (by rw [Qbf]; omega),if_neg (by omega)]
  rw [if_pos (by rw [Qbf]; omega),if_pos nat0,Qn hi]
  by_cases k2:(p.1[i]).length≤5
  case neg=>rw [if_pos (by rw [QB]; omega),if_neg (by omega)]
  rw [if_neg (by rw [QB]; omega),if_pos ⟨k1,k2⟩]
  rcases QoK (T:=Unit) p i hi hl p p p.1 p.1 (i:Int) p.1[i] p.1[i] (((p.1[i]).length:Nat):Int) (ltI 5 (((p.1[i]).length:Nat):Int)) with ⟨g,x,g3,g4,g5⟩ | ⟨g,g3⟩
  ·show (Qd l_g_9 lots _).bind _=_;rw [g,g3,Obn];dsimp only;rw [g4,g5,QQ (lt1 hi h)]
  ·show (Qd l_g_9 lots _).bind _=_;rw [g,g3];rfl
 ·intro rec;unfold l_g_4;dsimp only;rw [if_neg Qat]
theorem QrY (es:List (Int×Bool)) (x y:Int):getM (setM es x true) y=(y==x || getM es y):=by
 induction es with
 | nil=>
  simp only [setM,getM];by_cases e:x=y
  ·subst e; simp
  ·rw [if_neg e]; simp [Ne.symm e]
 | cons a r ih=>
  simp only [setM,getM];by_cases e:a.1=x
  ·rw [if_pos e];simp only [getM];by_cases e2:x=y
   ·subst e2; simp
   ·rw [if_neg e2,if_neg (by rw [e]; exact e2)]; simp [Ne.symm e2]
  ·rw [if_neg e];simp only [getM];by_cases e2:a.1=y
   ·subst e2; rw [if_pos rfl,if_pos rfl]; simp [e]
   ·rw [if_neg e2,if_neg e2,ih]
theorem QmS {T1 T2 T3:Int} (es:List (Int×Bool)) (t:Bool) (own:List (List Int)) (a b:Int) (l:List Int) (hl:l.length≤1048576) (seen:List Int) (hes: ∀y,getM es y=seen.contains y):
  (∃es',scan (fun (_:Nat) x=>if inB x 0 23=true then none else some (3:Int)) 0 l=none∧(∀y,getM es' y=(seen++l).contains y)∧
   Qd l_ce_10 lots ((es,t,own,a,b,l,((l.length:Nat):Int),0,()),(),())=some (.inl ((es',t || dupM seen l,own,a,b,()),(),())))∨
  (scan (fun (_:Nat) x=>if inB x 0 23=true then none else some (3:Int)) 0 l=some 3∧Qd l_ce_10 lots ((es,t,own,a,b,l,((l.length:Nat):Int),0,()),(),())=some (.inr (.inl ((3,()),(),())))):=by
 have key: ∀n (k:Nat) (es:List (Int×Bool)) (t:Bool) (seen:List Int),l.length-k< n→k≤l.length→(∀y,getM es y=seen.contains y)→
   (∃es',scan (fun (_:Nat) x=>if inB x 0 23=true then none else some (3:Int)) k (l.drop k)=none∧(∀y,getM es' y=(seen++l.drop k).contains y)∧
   Qd l_ce_10 n ((es,t,own,a,b,l,((l.length:Nat):Int),((k:Nat):Int),()),(),())=some (.inl ((es',t || dupM seen (l.drop k),own,a,b,()),(),())))∨
   (scan (fun (_:Nat) x=>if inB x 0 23=true then none else some (3:Int)) k (l.drop k)=some 3∧Qd l_ce_10 n ((es,t,own,a,b,l,((l.length:Nat):Int),((k:Nat):Int),()),(),())=some (.inr (.inl ((3,()),(),())))):=by
  intro n
  induction n with
  | zero=>intro k _ _ _ h; omega
  | succ n ih=>
   intro k es t seen hn hk hes;simp only [Qd];generalize Qd l_ce_10 n=rec at ih⊢;by_cases hlt:k< l.length
   ·have hw:IntKind.i64.wrap ((k:Int)+1)=((k+1:Nat):Int):=QQ (lt1 hlt hl);rw [QaT hlt];simp only [scan,dupM]
    have hes2: ∀y,getM (setM es l[k] true) y=(seen++[l[k]]).contains y:=by
     intro y;rw [QrY,hes];rw [Bool.eq_iff_iff];simp [or_comm]
    cases hb:inB l[k] 0 23
    ·right;refine ⟨by simp,?_⟩
     unfold l_ce_10;dsimp only;rw [if_pos (lt_t hlt),if_pos nat0,Qn hlt,QaA,Obn,hb];rfl
    ·have go:l_ce_10 rec ((es,t,own,a,b,l,((l.length:Nat):Int),((k:Nat):Int),()),(),())=rec ((setM es l[k] true,t || seen.contains l[k],own,a,b,l,((l.length:Nat):Int),((k+1:Nat):Int),()),(),()):=by
      unfold l_ce_10;dsimp only;rw [if_pos (lt_t hlt),if_pos nat0,Qn hlt,QaA,Obn,hb,if_neg (by simp),hw, ←hes]
      cases t <;> rfl
     rw [go];rcases ih (k+1) (setM es l[k] true) (t || seen.contains l[k]) (seen++[l[k]]) (by omega) (by omega) hes2 with ⟨es',g1,g2,g3⟩ | ⟨g1,g2⟩
     ·left;refine ⟨es',by simpa using g1,fun y=>by rw [g2]; simp,?_⟩
      rw [g3,Bool.or_assoc]
     ·right;exact ⟨by simpa using g1,g2⟩
   ·left;rw [QbN hlt];refine ⟨es,rfl,by simpa using hes,?_⟩
    unfold l_ce_10;dsimp only;rw [if_neg (lt_f hlt)];simp [dupM]
 simpa using key lots 0 es t seen (by have:=QaM (Qbw hl); omega) (by omega) hes
theorem QnW (p:PolD) (h:p.1.length≤1048576) (h2: ∀l∈p.1,l.length≤1048576):F_ce (p,())=some ((QdX p.1,()),()):=by
 unfold F_ce QdX;dsimp only;rw [QaA,Obn];by_cases g:1≤p.1.length∧p.1.length≤3
 case neg=>
  have:inB ((p.1.length:Nat):Int) 1 3=false:=by unfold inB; simp; omega
  rw [this,if_pos (by simp),if_neg g]
 have:inB ((p.1.length:Nat):Int) 1 3=true:=by unfold inB; simp; omega
 rw [this,if_neg (by simp),if_pos g]
 have key: ∀n (k:Nat) (es:List (Int×Bool)) (t:Bool) (seen:List Int),p.1.length-k< n→k≤p.1.length→(∀y,getM es y=seen.contains y)→
   (Qd l_ce_5 n ((es,t,p.1,((p.1.length:Nat):Int),((k:Nat):Int),()),(),())=match scan (fun (_:Nat) l=>own1 l) k (p.1.drop k) with
    | some c=>some (.inr (.inl ((c,()),(),()))) | none=>some (.inl ((t || dupM seen (p.1.drop k).flatten,()),(),()))):=by
  intro n
  induction n with
  | zero=>intro k _ _ _ h; omega
  | succ n ih=>
   intro k es t seen hn hk hes;simp only [Qd];generalize Qd l_ce_5 n=rec at ih⊢;by_cases hlt:k< p.1.length
   ·have hl:=h2 _ (List.getElem_mem hlt);rw [QaT hlt];simp only [scan,List.flatten_cons,Qfn];unfold l_ce_5 own1;dsimp only;rw [if_pos (lt_t hlt),if_pos nat0,Qn hlt,QaA,Obn];by_cases g1:1≤(p.1[k]).length∧(p.1[k]).length≤5
    ·have:inB (((p.1[k]).length:Nat):Int) 1 5=true:=by unfold inB; simp; omega
     rw [this,if_neg (by simp),if_pos g1]
     rcases QmS (T1:=0) (T2:=0) (T3:=0) es t p.1 ((p.1.length:Nat):Int) ((k:Nat):Int) p.1[k] hl seen hes with ⟨es',q1,q2,q3⟩ | ⟨q1,q2⟩
     ·show (Qd l_ce_10 lots _).bind _=_;rw [q1,q3,Obn];dsimp only;rw [QQ (lt1 hlt h),ih (k+1) es' _ (seen++p.1[k]) (by omega) (by omega) q2,Bool.or_assoc]
      rfl
     ·show (Qd l_ce_10 lots _).bind _=_;rw [q1,q2];rfl
    ·have:inB (((p.1[k]).length:Nat):Int) 1 5=false:=by unfold inB; simp; omega
     rw [this,if_pos (by simp),if_neg g1]
   ·rw [QbN hlt];unfold l_ce_5;dsimp only;rw [if_neg (lt_f hlt)];simp [scan,dupM]
 have k0:=key lots 0 [] false [] (by have:=QaM (Qbw h); omega) (by omega) (fun y=>by simp [getM])
 have e0:((0:Nat):Int)=0:=rfl;rw [e0,List.drop_zero] at k0;show (Qd l_ce_5 lots (([],false,p.1,((p.1.length:Nat):Int),0,()),(),())).bind _=_;rw [k0];cases scan (fun (_:Nat) l=>own1 l) 0 p.1 with
 | some c=>rfl
 | none=>
  rw [Obn];dsimp only;cases dupM [] p.1.flatten <;> rfl
def polM (p:PolD):Int:=
 if QdX p.1≠0 then QdX p.1
 else if p.2.1.length≤4∧p.2.2.1.length≤4 then (match QbS p with | some c=>c | none=>match QdY p with | some c=>c | none=>QiJ p) else 2
theorem Qwh {c d:Int} (h:nz c=some d):d≠0:=by
 unfold nz at h;split at h
 ·rename_i h'; rw [←Osj h]; exact h'
 ·cases h
theorem Qie {p:PolD} {c:Int} (h:QbS p=some c):c≠0:=Qdh (P:=fun c=>c≠0) (fun j hj c hc=>Qwh hc) c h
theorem QrG {p:PolD} {c:Int} (h:QdY p=some c):c≠0:=Qdh (P:=fun c=>c≠0) (fun j hj c hc=>Qwh hc) c h
theorem Qko (p:PolD) (h:QfJ 1048576 p):F_x (p,())=some ((polM p,()),()):=by
 obtain ⟨⟨a1,a2⟩,a3,a4,a5⟩:=h;unfold F_x polM;rw [QiO p a1 a2,QhJ p a1 a2 a3,QoM p a1 a4 a5];simp only [Obn];by_cases h0:QdX p.1=0
 ·simp only [h0,bne_self_eq_false,Bool.false_eq_true,if_false,ne_eq,not_true_eq_false];by_cases h4:p.2.1.length≤4∧p.2.2.1.length≤4
  ·simp only [if_pos h4];cases hl:QbS p with
   | some c=>have:=Qie hl; simp [this]
   | none=>simp <;> (cases QdY p <;> rfl)
  ·simp [if_neg h4]
 ·rw [if_pos (by simpa using h0),if_pos h0]
theorem QjH (p:PolD) (h:QfJ 1048576 p):F_cv (p,())=some ((polM p,()),()):=by
 obtain ⟨⟨a1,a2⟩,a3,a4,a5⟩:=h;unfold F_cv polM;dsimp only;rw [QnW p a1 a2,Obn];dsimp only;by_cases h0:QdX p.1=0
 case neg=>rw [if_pos (by simpa using h0),if_pos h0]
 simp only [h0,bne_self_eq_false,Bool.false_eq_true,if_false,ne_eq,not_true_eq_false];by_cases h1:p.2.1.length≤4
 case neg=>rw [if_neg (by rw [Qbf]; omega),if_neg (by omega)]
 rw [if_pos (by rw [Qbf]; omega)]
 by_cases h3:p.2.2.1.length≤4
 case neg=>rw [if_pos (by rw [QB]; omega),if_neg (by omega)]
 rw [if_neg (by rw [QB]; omega),if_pos ⟨h1,h3⟩]
 have key1:=QY (step:=l_cv_7) (γ:=denO o_cv_7) (fun i=>(((),p.2.1,((p.2.1.length:Nat):Int),((i:Nat):Int),()),(p,()),())) p.2.1 (fun i l=>nz (Qek p l (p.2.1.take i)))
  (fun c=>some (.inr (.inl ((c,()),(),())))) (some (.inl (((),()),(p,()),()))) (Qbw a3) ?_ ?_
 ·have key2:=QY (step:=l_cv_14) (γ:=denO o_cv_14) (fun i=>(((),p.2.2.1,((p.2.2.1.length:Nat):Int),((i:Nat):Int),()),(p,()),())) p.2.2.1 (fun i b=>nz (Qfi p b (p.2.2.1.take i)))
   (fun c=>some (.inr (.inl ((c,()),(),())))) (some (.inl (((),()),(p,()),()))) (Qbw a4) ?_ ?_
  ·have e0:((0:Nat):Int)=0:=rfl;rw [e0] at key1 key2;show (Qd l_cv_7 lots (((),p.2.1,((p.2.1.length:Nat):Int),0,()),(p,()),())).bind _=_;rw [key1];unfold QbS;cases scan (fun i l=>nz (Qek p l (p.2.1.take i))) 0 p.2.1 with
   | some c=>rfl
   | none=>
    rw [Obn];dsimp only;show (Qd l_cv_14 lots (((),p.2.2.1,((p.2.2.1.length:Nat):Int),0,()),(p,()),())).bind _=_;rw [key2];unfold QdY;cases scan (fun i b=>nz (Qfi p b (p.2.2.1.take i))) 0 p.2.2.1 with
    | some c=>rfl
    | none=>
     rw [Obn];dsimp only;rw [QnY p a1 a5,Obn]
  ·intro rec i hi;unfold l_cv_14;dsimp only;rw [if_pos (lt_t hi),if_pos nat0,Qn hi,if_pos (show (0:Int)≤0∧(0:Int)≤(i:Int)∧(i:Int)≤((p.2.2.1.length:Nat):Int) from ⟨by omega,by omega,by omega⟩),QQ (lt1 hi a4)]
   have e:(p.2.2.1.drop (0:Int).toNat).take (((i:Nat):Int).toNat-(0:Int).toNat)=p.2.2.1.take i:=by simp
   rw [e,QmG p _ _ a1 (by simp; omega),Obn]
   dsimp only;unfold nz;by_cases g:Qfi p p.2.2.1[i] (p.2.2.1.take i)=0
   ·rw [if_neg (by simpa using g),if_neg (by simpa using g)]
   ·rw [if_pos (by simpa using g),if_pos (by simpa using g)]
  ·intro rec;unfold l_cv_14;dsimp only;rw [if_neg Qat]
 ·intro rec i hi;unfold l_cv_7;dsimp only;rw [if_pos (lt_t hi),if_pos nat0,Qn hi,if_pos (show (0:Int)≤0∧(0:Int)≤(i:Int)∧(i:Int)≤((p.2.1.length:Nat):Int) from ⟨by omega,by omega,by omega⟩),QQ (lt1 hi a3)]
  have e:(p.2.1.drop (0:Int).toNat).take (((i:Nat):Int).toNat-(0:Int).toNat)=p.2.1.take i:=by simp
  rw [e,QmW p _ _ a1 a2 (by simp; omega),Obn]
  dsimp only;unfold nz;by_cases g:Qek p p.2.1[i] (p.2.1.take i)=0
  ·rw [if_neg (by simpa using g),if_neg (by simpa using g)]
  ·rw [if_pos (by simpa using g),if_pos (by simpa using g)]
 ·intro rec;unfold l_cv_7;dsimp only;rw [if_neg Qat]
def askM (p:PolD) (g:Int):Int:=if polM p≠0 then polM p else if isG p g=true then 0 else 4
theorem Qpv (p:PolD) (g:Int) (h:QfJ 1048576 p):F_gd (p,g,())=some ((askM p g,()),()):=by
 unfold F_gd askM;rw [QjH p h,QaO p g h.1.1];simp only [Obn];by_cases h0:polM p=0
 ·rw [h0]; cases isG p g <;> simp
 ·rw [if_neg (by simpa using h0),if_pos h0]
theorem Qbo {α β:Type} {f:Nat→α→Option β} {m:List α} (h:scan f 0 m=none): ∀x∈m, ∃i,f i x=none:=by
 intro x hx;obtain ⟨i,hi,rfl⟩:=List.mem_iff_getElem.1 hx;exact ⟨_,Qgk h i hi⟩
structure OkPol (p:PolD):Prop where
 own:1≤p.1.length∧p.1.length≤3
 own1: ∀l∈p.1,1≤l.length∧l.length≤5∧ ∀x∈l,0≤x∧x≤23
 nodup:dupM [] p.1.flatten=false
 lanes:p.2.1.length≤4∧QbS p=none
 bells:p.2.2.1.length≤4∧QdY p=none
 plan:1≤p.2.2.2.1.length∧p.2.2.2.1.length≤8
 slots: ∀s∈p.2.2.2.1,isG p s.1=true∧1≤s.2.1∧s.2.1≤50
theorem Qdt {n a b:Int}:inB n a b=true↔a≤n∧n≤b:=by unfold inB; simp
theorem Qep {p:PolD} (h:polM p=0):OkPol p:=by
 unfold polM at h;split at h
 ·rename_i h'; exact absurd h h'
 rename_i h0;have h0:QdX p.1=0:=by simpa using h0
 split at h
 case isFalse=>cases h
 rename_i h4;cases hl:QbS p with
 | some c=>rw [hl] at h; exact absurd h (Qie hl)
 | none=>
 rw [hl] at h;dsimp only at h;cases hb:QdY p with
 | some c=>rw [hb] at h; exact absurd h (QrG hb)
 | none=>
 rw [hb] at h;dsimp only at h;unfold QdX at h0;split at h0
 case isFalse=>cases h0
 rename_i g1;unfold QiJ at h;split at h
 case isFalse=>cases h
 rename_i g2;cases ho:scan (fun (_:Nat) l=>Go.Proofs.YtkkljegcnnfanaaGreatDoor.own1 l) 0 p.1 with
 | some c=>
  rw [ho] at h0;dsimp only at h0;subst h0
  have:(0:Int)≠0:=Qdh (P:=fun c=>c≠0) (fun j hj c hc=>by
   unfold Go.Proofs.YtkkljegcnnfanaaGreatDoor.own1 at hc;split at hc
   ·exact Qdh (P:=fun c=>c≠0) (fun j hj c hc=>by
     split at hc
     ·cases hc
     ·rw [←Osj hc]; decide) c hc
   ·rw [←Osj hc]; decide) _ ho
  exact absurd rfl this
 | none=>
  rw [ho] at h0;dsimp only at h0
  have hd:dupM [] p.1.flatten=false:=by
   split at h0
   ·cases h0
   ·rename_i h'; simpa using h'
  refine ⟨g1,?_,hd,⟨h4.1,hl⟩,⟨h4.2,hb⟩,g2,?_⟩
  ·intro l hl';obtain ⟨_,e⟩:=Qbo ho l hl';unfold Go.Proofs.YtkkljegcnnfanaaGreatDoor.own1 at e;split at e
   ·rename_i g;refine ⟨g.1,g.2,fun x hx=>?_⟩
    obtain ⟨_,e2⟩:=Qbo e x hx;split at e2
    ·rename_i g3; exact Qdt.1 g3
    ·cases e2
   ·cases e
  ·intro s hs;cases hp:scan (fun (_:Nat) (s:TwoD)=>if isG p s.1=true then (if inB s.2.1 1 50=true then none else some (3:Int)) else some 4) 0 p.2.2.2.1 with
   | some c=>
    rw [hp] at h;dsimp only at h;subst h
    have:(0:Int)≠0:=Qdh (P:=fun c=>c≠0) (fun j hj c hc=>by
     split at hc
     ·split at hc
      ·cases hc
      ·rw [←Osj hc]; decide
     ·rw [←Osj hc]; decide) _ hp
    exact absurd rfl this
   | none=>
    obtain ⟨_,e⟩:=Qbo hp s hs;split at e
    ·rename_i g;split at e
     ·rename_i g3; exact ⟨g,Qdt.1 g3⟩
     ·cases e
    ·cases e
def Qtj (m:List TwoD):Prop:=m.length≤8∧ ∀s∈m,1≤s.2.1∧s.2.1≤50
theorem OkPol.okPlan {p:PolD} (h:OkPol p):Qtj p.2.2.2.1:=⟨h.plan.2,fun s hs=>(h.slots s hs).2⟩
def QK (g:Int):List TwoD→Int
 | []=>0
 | s::r=>(if g< 0∨s.1=g then s.2.1 else 0)+QK g r
theorem Qdo {g:Int}: ∀{m:List TwoD},(∀s∈m,1≤s.2.1∧s.2.1≤50)→0≤QK g m∧QK g m≤50*(m.length:Int)
 | [],_=>by simp [QK]
 | s::r,h=>by
  have h1:=h s (by simp)
  have:=Qdo (g:=g) (m:=r) fun s hs=>h s (List.mem_cons_of_mem _ hs)
  simp only [QK,List.length_cons];split <;> omega
theorem Qsx {α:Type} {m:List α} {i:Nat} {P:α→Prop} (h: ∀s∈m,P s): ∀s∈m.drop i,P s:=fun s hs=>h s (List.mem_of_mem_drop hs)
theorem Qqv (p:PolD) (g:Int) (h:Qtj p.2.2.2.1):F_de (p,g,())=some ((QK g p.2.2.2.1,()),()):=by
 obtain ⟨hl,hs⟩:=h
 have key:=Qfa (step:=l_de_3) (γ:=denO o_de_3) (fun k (a:Int)=>((g,a,p.2.2.2.1,((p.2.2.2.1.length:Nat):Int),((k:Nat):Int),()),(),())) p.2.2.2.1.length (QaM (by omega)) (fun k a=>0≤a∧a≤50*(k:Int))
  (fun k a=>some (.inl ((a+QK g (p.2.2.2.1.drop k),()),(),()))) ?_ 0 0 (by omega) (by omega)
 ·have e0:((0:Nat):Int)=0:=rfl;rw [e0] at key;unfold F_de;show (Qd l_de_3 lots ((g,0,p.2.2.2.1,((p.2.2.2.1.length:Nat):Int),0,()),(),())).bind _=_;rw [key,Obn];simp
 ·rintro rec k a hk ha ih;unfold l_de_3;dsimp only;by_cases hlt:k< p.2.2.2.1.length
  ·have hb:=hs _ (List.getElem_mem hlt);rw [if_pos (lt_t hlt),if_pos nat0,Qn hlt,Qq (n:=a+(p.2.2.2.1[k]).2.1) (by omega) (by omega),QQ (by omega),QaT hlt]
   rw [show QK g (p.2.2.2.1[k]::p.2.2.2.1.drop (k+1))=(if g< 0∨(p.2.2.2.1[k]).1=g then (p.2.2.2.1[k]).2.1 else 0)+QK g (p.2.2.2.1.drop (k+1)) from rfl]
   by_cases hg:g< 0
   ·rw [if_neg (by rw [Qbf]; omega),ih _ hlt (by omega),if_pos (.inl hg),Int.add_assoc]
   ·rw [if_pos (by rw [Qbf]; omega)]
    by_cases hg2:(p.2.2.2.1[k]).1=g
    ·rw [if_pos (by simpa using hg2),ih _ hlt (by omega),if_pos (.inr hg2),Int.add_assoc]
    ·rw [if_neg (by simpa using hg2),ih _ hlt (by omega),if_neg (by omega),Int.zero_add]
  ·rw [if_neg (lt_f hlt),QbN hlt];simp [QK]
abbrev Qw:=PolD×List Int×List QH×Int×Int×Int×Unit
theorem QhP {γ:Type} {m:List Int} {z:Int} (n:Nat) (hz:z.toNat=n) (h:n< m.length) (K:Int→Option γ):(m[z.toNat]?).bind K=K (m.getD n 0):=by
 rw [hz,List.getElem?_eq_getElem h,Obn,List.getD_eq_getElem?_getD,List.getElem?_eq_getElem h];rfl
theorem Qic (n:Int):F_ad (n,())=some ((okW n,()),()):=by
 unfold F_ad;rw [Qcm,Obn];rfl
theorem QqI {α:Type} {p:α→Bool}: ∀(m:List α),m.any (fun y=>!p y)=!m.all p
 | []=>rfl
 | x::r=>by simp only [List.any_cons,List.all_cons,QqI r,Bool.not_and]
theorem QbE (m:List Int) (hm:m.length≤1048576):F_ae (m,())=some ((allW m,()),()):=by
 have key:=QY (step:=l_ae_2) (γ:=denO o_ae_2) (fun i=>((m,((i:Nat):Int),()),(),())) m (fun _ y=>if okW y=true then none else some ())
  (fun _=>some (.inr (.inl ((false,()),(),())))) (some (.inl ((),(),()))) (Qbw hm) ?_ ?_
 ·have e0:((0:Nat):Int)=0:=rfl;rw [e0] at key;have:=Qet (f:=fun (_:Nat) y=>if okW y=true then none else some ()) (p:=fun y=>!okW y) (m:=m) (i:=0) (fun j hj=>by cases okW m[j] <;> rfl)
  rw [QqI] at this;have e:allW m=!(scan (fun (_:Nat) y=>if okW y=true then none else some ()) 0 m).isSome:=by rw [this,Bool.not_not]; rfl
  unfold F_ae;show (Qd l_ae_2 lots ((m,0,()),(),())).bind _=_;rw [key,e];cases scan (fun (_:Nat) y=>if okW y=true then none else some ()) 0 m <;> rfl
 ·intro rec i h;unfold l_ae_2;dsimp only;rw [if_pos (lt_t h),if_pos nat0,Qn h,Qic,Obn,QQ (lt1 h hm)];cases okW m[i] <;> rfl
 ·intro rec;unfold l_ae_2;dsimp only;rw [if_neg Qat]
def hartM (h:QH):Int:=
 if h.1.length=16∧h.2.2.1.length=11∧h.1.getD 0 0=0 then
  (if allW h.1=true∧okW h.2.1=true∧allW h.2.2.1=true∧allW h.2.2.2.2.2.2.2.1=true∧allW h.2.2.2.2.2.2.2.2.1=true then
   (if h.2.2.2.2.2.2.2.1.length≤40∧h.2.2.2.2.2.2.2.2.1.length≤40 then
    (if inB h.2.2.2.2.2.2.1 0 1000000000=true then
     (if h.2.2.1.getD 0 0≤3∧h.2.2.1.getD 7 0≤7∧h.2.2.1.getD 10 0≤8∧h.2.2.1.getD 6 0=0∧h.2.2.1.getD 8 0=0 then 0 else 1) else 3) else 2) else 3) else 1
theorem QfQ (h:QH) (hl:QbQ 1048576 h):F_du (h,())=some ((hartM h,()),()):=by
 obtain ⟨l1,l2,l3,l4⟩:=hl;unfold F_du hartM;dsimp only;by_cases a1:h.1.length=16
 case neg=>
  have: ¬((h.1.length:Nat):Int)=16:=by omega
  simp [a1,this]
 rw [if_pos (by rw [a1]; rfl)]
 by_cases a2:h.2.2.1.length=11
 case neg=>
  have: ¬((h.2.2.1.length:Nat):Int)=11:=by omega
  simp [a2,this]
 rw [if_pos (by rw [a2]; rfl),QhP (z:=0) 0 rfl (by omega)]
 by_cases a3:h.1.getD 0 0=0
 case neg=>rw [if_pos (by simpa using a3),if_neg (fun g=>a3 g.2.2)]
 have hA:h.1.length=16∧h.2.2.1.length=11∧h.1.getD 0 0=0:=⟨a1,a2,a3⟩;rw [if_neg (by simpa using a3),if_pos hA,QbE _ l1,Qic,QbE _ l2,QbE _ l3,QbE _ l4]
 simp only [Obn];cases b1:allW h.1
 ·simp
 cases b2:okW h.2.1
 ·simp
 cases b3:allW h.2.2.1
 ·simp
 cases b4:allW h.2.2.2.2.2.2.2.1
 ·simp
 cases b5:allW h.2.2.2.2.2.2.2.2.1
 ·simp
 simp only [Bool.not_true,and_self,if_true,Bool.false_eq_true,if_false];by_cases c1:h.2.2.2.2.2.2.2.1.length≤40
 case neg=>rw [if_neg (by rw [Qbf]; omega),if_neg (fun g=>c1 g.1)]
 rw [if_pos (by rw [Qbf]; omega)]
 by_cases c2:h.2.2.2.2.2.2.2.2.1.length≤40
 case neg=>rw [if_pos (by rw [QB]; omega),if_neg (fun g=>c2 g.2)]
 have hC:h.2.2.2.2.2.2.2.1.length≤40∧h.2.2.2.2.2.2.2.2.1.length≤40:=⟨c1,c2⟩;rw [if_neg (by rw [QB]; omega),if_pos hC,QaU,Obn]
 dsimp only;cases b6:inB h.2.2.2.2.2.2.1 0 1000000000
 ·simp
 rw [if_neg (by simp),if_pos rfl,QhP (z:=0) 0 rfl (by omega)]
 by_cases d1:h.2.2.1.getD 0 0≤3
 case neg=>rw [if_neg (by rw [Qbf]; exact fun g=>g (Int.not_le.1 d1)),if_neg (fun g=>d1 g.1)]
 rw [if_pos (by rw [Qbf]; exact Int.not_lt.2 d1),QhP (z:=7) 7 rfl (by omega)]
 by_cases d2:h.2.2.1.getD 7 0≤7
 case neg=>rw [if_neg (by rw [Qbf]; exact fun g=>g (Int.not_le.1 d2)),if_neg (fun g=>d2 g.2.1)]
 rw [if_pos (by rw [Qbf]; exact Int.not_lt.2 d2),QhP (z:=10) 10 rfl (by omega)]
 by_cases d3:h.2.2.1.getD 10 0≤8
 case neg=>rw [if_neg (by rw [Qbf]; exact fun g=>g (Int.not_le.1 d3)),if_neg (fun g=>d3 g.2.2.1)]
 rw [if_pos (by rw [Qbf]; exact Int.not_lt.2 d3),QhP (z:=6) 6 rfl (by omega)]
 by_cases d4:h.2.2.1.getD 6 0=0
 case neg=>rw [if_neg (by simpa using d4),if_neg (fun g=>d4 g.2.2.2.1)]
 rw [if_pos (by simpa using d4),QhP (z:=8) 8 rfl (by omega)]
 by_cases d5:h.2.2.1.getD 8 0=0
 case neg=>rw [if_pos (by simpa using d5),if_neg (fun g=>d5 g.2.2.2.2)]
 have hD:h.2.2.1.getD 0 0≤3∧h.2.2.1.getD 7 0≤7∧h.2.2.1.getD 10 0≤8∧h.2.2.1.getD 6 0=0∧h.2.2.1.getD 8 0=0:=⟨d1,d2,d3,d4,d5⟩;rw [if_neg (by simpa using d5),if_pos hD]
theorem QiA (h:QH) (hl:QbQ 1048576 h):F_dd (h,())=some ((hartM h,()),()):=by
 rw [←QfQ h hl];obtain ⟨l1,l2,l3,l4⟩:=hl;unfold F_dd F_du;rw [QbB _ (leM l1),QlC,QbB _ (leM l2),QbB _ (leM l3),QbB _ (leM l4),QaA];rw [QbE _ l1,Qic,QbE _ l2,QbE _ l3,QbE _ l4,QaU]
def QE:Nat→List TwoD→Int→Nat×Int×Int
 | k,[],at_=>(k,at_,0)
 | k,s::r,at_=>if s.2.1≤at_ then QE (k+1) r (at_-s.2.1) else (k,at_,s.2.1-at_)
theorem Qbi: ∀{m:List TwoD} {k:Nat} {a:Int},(∀s∈m,1≤s.2.1∧s.2.1≤50)→0≤a→a< QK (-1) m→
  k≤(QE k m a).1∧ ∃s,m[(QE k m a).1-k]?=some s∧(QE k m a).2.2=s.2.1-(QE k m a).2.1∧0≤(QE k m a).2.1∧(QE k m a).2.1< s.2.1
 | [],k,a,_,h0,h1=>by simp [QK] at h1; omega
 | s::r,k,a,hs,h0,h1=>by
  simp only [QK] at h1;rw [if_pos (.inl (by decide))] at h1
  simp only [QE];by_cases h:s.2.1≤a
  ·rw [if_pos h];obtain ⟨g0,q,g1,g2⟩:=Qbi (m:=r) (k:=k+1) (a:=a-s.2.1) (fun s hs'=>hs s (List.mem_cons_of_mem _ hs')) (by omega) (by omega)
   refine ⟨by omega,q,?_,g2⟩
   have e:(QE (k+1) r (a-s.2.1)).1-k=((QE (k+1) r (a-s.2.1)).1-(k+1))+1:=by omega
   rw [e,List.getElem?_cons_succ];exact g1
  ·rw [if_neg h];exact ⟨Nat.le_refl _,s,by simp,rfl,h0,by show a< s.2.1; omega⟩
def QaZ (p:PolD) (clock:Int):Int×Int:=let e:=QE 0 p.2.2.2.1 (clock % QK (-1) p.2.2.2.1); ((e.1:Int),e.2.2)
theorem QdJ {m:List TwoD} (h: ∀s∈m,1≤s.2.1∧s.2.1≤50) (hl:1≤m.length):1≤QK (-1) m:=by
 cases m with
 | nil=>simp at hl
 | cons s r=>
  have:=Qdo (g:= -1) (m:=r) fun s hs=>h s (List.mem_cons_of_mem _ hs)
  have:=h s (by simp)
  simp only [QK];rw [if_pos (.inl (by decide))]
  omega
theorem Qpa {a b:Int} (h:0≤a):a.tmod b=a % b:=by
 rw [Int.tmod_eq_emod_of_nonneg h]
theorem Qmn {γ:Type} {p:PolD} (hok:OkPol p) {step:((PolD×Int×Int×Unit)×Unit×Unit→Option (((PolD×Int×Int×Unit)×Unit×Unit) ⊕ γ))→(PolD×Int×Int×Unit)×Unit×Unit→Option (((PolD×Int×Int×Unit)×Unit×Unit) ⊕ γ)}
  (hstep: ∀rec p a i,step rec ((p,a,i,()),(),())=if 0≤i then (p.2.2.2.1[i.toNat]?).bind fun y=>if leI y.2.1 a=true then (if 0≤i then (p.2.2.2.1[i.toNat]?).bind fun y=>
   rec ((p,IntKind.i64.wrap (a-y.2.1),IntKind.i64.wrap (i+1),()),(),()) else none) else some (.inl ((p,a,i,()),(),())) else none)
  (a:Int) (h0:0≤a) (h1:a< QK (-1) p.2.2.2.1):Qd step lots ((p,a,0,()),(),())=some (.inl ((p,(QE 0 p.2.2.2.1 a).2.1,((QE 0 p.2.2.2.1 a).1:Int),()),(),())):=by
 obtain ⟨hl,hs⟩:=hok.okPlan
 have key:=Qfa (step:=step) (fun k (a:Int)=>((p,a,((k:Nat):Int),()),(),())) p.2.2.2.1.length (QaM (by omega)) (fun k a=>0≤a∧a< QK (-1) (p.2.2.2.1.drop k))
  (fun k a=>some (.inl ((p,(QE k (p.2.2.2.1.drop k) a).2.1,((QE k (p.2.2.2.1.drop k) a).1:Int),()),(),()))) ?_ 0 a (by omega) ⟨h0,by simpa using h1⟩
 ·exact key
 ·rintro rec k a hk ⟨g0,g1⟩ ih;by_cases hlt:k< p.2.2.2.1.length
  ·have hb:=hs _ (List.getElem_mem hlt);have hle:=(Qdo (g:= -1) (Qsx (i:=k) hs)).2;rw [List.length_drop] at hle;rw [hstep,if_pos nat0,Qn hlt,if_pos nat0,Qn hlt,QQ (by omega),Qq (n:=a-(p.2.2.2.1[k]).2.1) (by omega) (by omega)]
   rw [QaT hlt] at g1;simp only [QK] at g1;rw [if_pos (.inl (by decide))] at g1
   by_cases h:(p.2.2.2.1[k]).2.1≤a
   ·have e:QE k (p.2.2.2.1.drop k) a=QE (k+1) (p.2.2.2.1.drop (k+1)) (a-(p.2.2.2.1[k]).2.1):=by
     rw [QaT hlt]; simp only [QE]; rw [if_pos h]
    rw [if_pos (QaW.2 h),e];exact ih _ hlt ⟨by omega,by omega⟩
   ·have e:QE k (p.2.2.2.1.drop k) a=(k,a,(p.2.2.2.1[k]).2.1-a):=by
     rw [QaT hlt]; simp only [QE]; rw [if_neg h]
    rw [if_neg (by rw [QaW]; exact h),e]
  ·rw [QbN hlt] at g1;simp [QK] at g1;omega
theorem Qoe (p:PolD) (clock:Int) (hok:OkPol p) (h0:0≤clock):F_df (p,clock,())=some (((QaZ p clock).1,(QaZ p clock).2,()),()):=by
 obtain ⟨hl,hs⟩:=hok.okPlan;have hpos:=QdJ hs hok.plan.1;have hle:=(Qdo (g:= -1) hs).2;unfold F_df;dsimp only;rw [Qqv p (-1) hok.okPlan,Obn];dsimp only;have a0:0≤clock % QK (-1) p.2.2.2.1:=Int.emod_nonneg _ (by omega)
 have a1:clock % QK (-1) p.2.2.2.1< QK (-1) p.2.2.2.1:=Int.emod_lt_of_pos _ (by omega)
 have hne: ¬QK (-1) p.2.2.2.1=0:=by omega
 rw [if_neg hne,Qpa h0];show (Qd l_df_3 lots ((p,clock % QK (-1) p.2.2.2.1,0,()),(),())).bind _=_;rw [Qmn hok (step:=l_df_3) (fun _ _ _ _=>rfl) _ a0 a1,Obn]
 dsimp only;obtain ⟨_,s,g1,g2,g3,g4⟩:=Qbi (k:=0) hs a0 a1;rw [Nat.sub_zero] at g1;have hb:=hs s (List.mem_of_getElem? g1);rw [if_pos nat0,Int.toNat_natCast,g1,Obn,Qq (by omega) (by omega), ←g2]
 rfl
theorem QoS (p:PolD) (clock:Int) (hok:OkPol p) (h0:0≤clock):F_dv (p,clock,())=some (((QaZ p clock).1,(QaZ p clock).2,()),()):=by
 obtain ⟨hl,hs⟩:=hok.okPlan;have hpos:=QdJ hs hok.plan.1;have hle:=(Qdo (g:= -1) hs).2;have a0:0≤clock % QK (-1) p.2.2.2.1:=Int.emod_nonneg _ (by omega)
 have a1:clock % QK (-1) p.2.2.2.1< QK (-1) p.2.2.2.1:=Int.emod_lt_of_pos _ (by omega)
 have key:=Qfa (step:=l_dv_3) (γ:=denO o_df_3) (fun k (a:Int)=>((p,clock,a,((k:Nat):Int),()),(),())) p.2.2.2.1.length (QaM (by omega)) (fun k a=>0≤a∧a≤50*(k:Int))
  (fun k a=>some (.inl ((p,clock,a+QK (-1) (p.2.2.2.1.drop k),()),(),()))) ?_ 0 0 (by omega) (by omega)
 ·have e0:((0:Nat):Int)=0:=rfl;rw [e0,List.drop_zero,Int.zero_add] at key;unfold F_dv;show (Qd l_dv_3 lots ((p,clock,0,0,()),(),())).bind _=_;rw [key,Obn];dsimp only;have hne: ¬QK (-1) p.2.2.2.1=0:=by omega
  rw [if_neg hne,Qpa h0];show (Qd l_dv_8 lots ((p,clock % QK (-1) p.2.2.2.1,0,()),(),())).bind _=_;rw [Qmn hok (step:=l_dv_8) (fun _ _ _ _=>rfl) _ a0 a1,Obn]
  dsimp only;obtain ⟨_,s,g1,g2,g3,g4⟩:=Qbi (k:=0) hs a0 a1;rw [Nat.sub_zero] at g1;have hb:=hs s (List.mem_of_getElem? g1);rw [if_pos nat0,Int.toNat_natCast,g1,Obn,Qq (by omega) (by omega), ←g2]
  rfl
 ·rintro rec k a hk ha ih;unfold l_dv_3;dsimp only;by_cases hlt:k< p.2.2.2.1.length
  ·have hb:=hs _ (List.getElem_mem hlt);rw [if_pos (lt_t hlt),if_pos nat0,Qn hlt,Qq (n:=a+(p.2.2.2.1[k]).2.1) (by omega) (by omega),QQ (by omega),QaT hlt]
   rw [show QK (-1) (p.2.2.2.1[k]::p.2.2.2.1.drop (k+1))=(p.2.2.2.1[k]).2.1+QK (-1) (p.2.2.2.1.drop (k+1)) from by simp only [QK]; rw [if_pos (.inl (by decide))], ←Int.add_assoc]
   exact ih _ hlt (by omega)
  ·rw [if_neg (lt_f hlt),QbN hlt];simp [QK]
def QcU (n:Nat) (x:Qw):Prop:=QfJ n x.1∧x.2.1.length≤n∧x.2.2.1.length≤n∧ ∀h∈x.2.2.1,QbQ n h
def QhZ (m:List QH):Option Int:=scan (fun (_:Nat) h=>nz (hartM h)) 0 m
def QaH (x:Qw):Int:=
 if polM x.1≠0 then polM x.1
 else if (QN x.2.1=0∧x.2.1.length=192)∧x.2.2.1.length=x.1.1.length then
  (match QhZ x.2.2.1 with
   | some c=>c
   | none=>if inB x.2.2.2.2.2.1 0 1000000=true then (if x.2.2.2.1=(QaZ x.1 x.2.2.2.2.2.1).1∧x.2.2.2.2.1=(QaZ x.1 x.2.2.2.2.2.1).2 then 0 else 1) else 3)
 else 1
theorem Qnl (m:List Int) (h:m.length≤1048576):F_dt (m,())=some ((decide (QN m=0∧m.length=192),()),()):=by
 unfold F_dt;rw [Qnh m (leM h),Obn];dsimp only;by_cases h0:QN m=0
 ·rw [if_pos (by simpa using h0)]
  by_cases h1:m.length=192
  ·simp [h0,h1]
  ·have: ¬((m.length:Nat):Int)=192:=by omega
   simp [h0,h1,this]
 ·rw [if_neg (by simpa using h0)]
  simp [h0]
theorem QmV (m:List Int) (h:m.length≤1048576):F_dc (m,())=some ((decide (QN m=0∧m.length=192),()),()):=by
 unfold F_dc;rw [QmQ m (leM h),Obn];dsimp only;by_cases h0:QN m=0
 ·rw [if_pos (by simpa using h0)]
  by_cases h1:m.length=192
  ·simp [h0,h1]
  ·have: ¬((m.length:Nat):Int)=192:=by omega
   simp [h0,h1,this]
 ·rw [if_neg (by simpa using h0)]
  simp [h0]
theorem QfR (x:Qw) (h:QcU 1048576 x):F_dw (x,())=some ((QaH x,()),()):=by
 obtain ⟨hp,h1,h2,h3⟩:=h
 have key:=QY (step:=l_dw_7) (γ:=denO o_dw_7) (fun i=>((x,((i:Nat):Int),()),(),())) x.2.2.1 (fun (_:Nat) h=>nz (hartM h))
  (fun c=>some (.inr (.inl ((c,()),(),())))) (some (.inl ((x,()),(),()))) (Qbw h2) ?_ ?_
 ·have e0:((0:Nat):Int)=0:=rfl;rw [e0] at key;unfold F_dw QaH;dsimp only;rw [Qko x.1 hp,Obn];dsimp only;by_cases g0:polM x.1=0
  case neg=>rw [if_pos (by simpa using g0),if_pos g0]
  have n0: ¬polM x.1≠0:=by simpa using g0
  have hG: ∀P:Prop, ¬P→ ¬(P∧x.2.2.1.length=x.1.1.length):=fun P h g=>h g.1
  rw [if_neg (by simpa using g0),if_neg n0,Qnl _ h1,Obn]
  dsimp only;by_cases g1:QN x.2.1=0∧x.2.1.length=192
  case neg=>rw [if_neg (by simpa using g1),if_neg (hG _ g1)]
  rw [if_pos (by simpa using g1)]
  by_cases g2:x.2.2.1.length=x.1.1.length
  case neg=>
   have: ¬((x.2.2.1.length:Nat):Int)=((x.1.1.length:Nat):Int):=by omega
   rw [if_pos (by simpa using this),if_neg (fun g:(QN x.2.1=0∧x.2.1.length=192)∧x.2.2.1.length=x.1.1.length=>g2 g.2)]
  have hH:(QN x.2.1=0∧x.2.1.length=192)∧x.2.2.1.length=x.1.1.length:=⟨g1,g2⟩;rw [if_neg (by rw [g2]; simp),if_pos hH]
  show (Qd l_dw_7 lots ((x,0,()),(),())).bind _=_;rw [key];unfold QhZ;cases scan (fun (_:Nat) h=>nz (hartM h)) 0 x.2.2.1 with
  | some c=>rfl
  | none=>
   rw [Obn];dsimp only;rw [QaU,Obn];dsimp only;cases g3:inB x.2.2.2.2.2.1 0 1000000
   ·simp
   ·rw [if_neg (by simp),if_pos rfl,QoS x.1 _ (Qep g0) (Qdt.1 g3).1,Obn]
    dsimp only;by_cases g4:x.2.2.2.1=(QaZ x.1 x.2.2.2.2.2.1).1
    ·by_cases g5:x.2.2.2.2.1=(QaZ x.1 x.2.2.2.2.2.1).2
     ·rw [if_pos (by simpa using g4),if_neg (by simpa using g5),if_pos ⟨g4,g5⟩]
     ·rw [if_pos (by simpa using g4),if_pos (by simpa using g5),if_neg (fun h=>g5 h.2)]
    ·rw [if_neg (by simpa using g4),if_neg (fun h=>g4 h.1)]
 ·intro rec i hi;unfold l_dw_7;dsimp only;rw [if_pos (lt_t hi),if_pos nat0,Qn hi,QfQ _ (h3 _ (List.getElem_mem hi)),Obn,QQ (lt1 hi h2)];dsimp only;unfold nz;by_cases g:hartM x.2.2.1[i]=0
  ·rw [if_neg (by simpa using g),if_neg (by simpa using g)]
  ·rw [if_pos (by simpa using g),if_pos (by simpa using g)]
 ·intro rec;unfold l_dw_7;dsimp only;rw [if_neg Qat]
theorem Qbe (x:Qw) (h:QcU 1048576 x):F_dg (x,())=some ((QaH x,()),()):=by
 obtain ⟨hp,h1,h2,h3⟩:=h
 let bx:(den (.slice (.slice (.int .i64))))×List QI×List TwoD×List TwoD×List Int×List QH×Int×Int×Int×Unit:=(x.1.1,x.1.2.1,x.1.2.2.1,x.1.2.2.2.1,x.2.1,x.2.2.1,x.2.2.2.1,x.2.2.2.2.1,x.2.2.2.2.2.1,())
 have key:=QY (step:=l_dg_7) (γ:=denO o_dg_7) (fun i=>(((),x.2.2.1,((x.2.2.1.length:Nat):Int),((i:Nat):Int),()),(bx,()),())) x.2.2.1 (fun (_:Nat) h=>nz (hartM h))
  (fun c=>some (.inr (.inl ((c,()),(),())))) (some (.inl (((),()),(bx,()),()))) (Qbw h2) ?_ ?_
 ·have e0:((0:Nat):Int)=0:=rfl;rw [e0] at key;unfold F_dg QaH;dsimp only;rw [QjH x.1 hp,Obn];dsimp only;by_cases g0:polM x.1=0
  case neg=>rw [if_pos (by simpa using g0),if_pos g0]
  have n0: ¬polM x.1≠0:=by simpa using g0
  have hG: ∀P:Prop, ¬P→ ¬(P∧x.2.2.1.length=x.1.1.length):=fun P h g=>h g.1
  rw [if_neg (by simpa using g0),if_neg n0,QmV _ h1,Obn]
  dsimp only;by_cases g1:QN x.2.1=0∧x.2.1.length=192
  case neg=>rw [if_neg (by simpa using g1),if_neg (hG _ g1)]
  rw [if_pos (by simpa using g1)]
  by_cases g2:x.2.2.1.length=x.1.1.length
  case neg=>
   have: ¬((x.2.2.1.length:Nat):Int)=((x.1.1.length:Nat):Int):=by omega
   rw [if_pos (by simpa using this),if_neg (fun g:(QN x.2.1=0∧x.2.1.length=192)∧x.2.2.1.length=x.1.1.length=>g2 g.2)]
  have hH:(QN x.2.1=0∧x.2.1.length=192)∧x.2.2.1.length=x.1.1.length:=⟨g1,g2⟩;rw [if_neg (by rw [g2]; simp),if_pos hH]
  show (Qd l_dg_7 lots (((),x.2.2.1,((x.2.2.1.length:Nat):Int),0,()),(bx,()),())).bind _=_;rw [key];unfold QhZ;cases scan (fun (_:Nat) h=>nz (hartM h)) 0 x.2.2.1 with
  | some c=>rfl
  | none=>
   rw [Obn];dsimp only [bx];rw [QaA,Obn];dsimp only;cases g3:inB x.2.2.2.2.2.1 0 1000000
   ·simp
   ·rw [if_neg (by simp),if_pos rfl]
    show (F_df (x.1,x.2.2.2.2.2.1,())).bind _=_;rw [Qoe x.1 _ (Qep g0) (Qdt.1 g3).1,Obn];dsimp only;by_cases g4:x.2.2.2.1=(QaZ x.1 x.2.2.2.2.2.1).1
    ·by_cases g5:x.2.2.2.2.1=(QaZ x.1 x.2.2.2.2.2.1).2
     ·rw [if_pos (by simpa using g4),if_neg (by simpa using g5),if_pos ⟨g4,g5⟩]
     ·rw [if_pos (by simpa using g4),if_pos (by simpa using g5),if_neg (fun h=>g5 h.2)]
    ·rw [if_neg (by simpa using g4),if_neg (fun h=>g4 h.1)]
 ·intro rec i hi;unfold l_dg_7;dsimp only;rw [if_pos (lt_t hi),if_pos nat0,Qn hi,QiA _ (h3 _ (List.getElem_mem hi)),Obn,QQ (lt1 hi h2)];dsimp only;unfold nz;by_cases g:hartM x.2.2.1[i]=0
  ·rw [if_neg (by simpa using g),if_neg (by simpa using g)]
  ·rw [if_pos (by simpa using g),if_pos (by simpa using g)]
 ·intro rec;unfold l_dg_7;dsimp only;rw [if_neg Qat]
theorem Qfy {x:Qw} (h:QaH x=0):polM x.1=0:=by
 unfold QaH at h;split at h
 ·rename_i h'; exact absurd h h'
 ·rename_i h'; simpa using h'
def Byt (c:List Int):Prop:=(∀b∈c,0≤b∧b≤255)∧c.length≤1048580
theorem QdW {c:List Int} (hc:Byt c) (a n:Int) (ha:0≤a∧a≤1099511627776):
  ∃v:Int,F_c ((c,a,()),n,())=some ((v,()),((c,a+1,()),()))∧0≤v∧(v< n∨v=0):=by
 unfold F_c;dsimp only;rw [Qq (n:=a+1) (by omega) (by omega),Qq (n:=a+1-1) (by omega) (by omega)]
 have e1:a+1-1=a:=by omega
 rw [e1];by_cases h1:n< 1
 ·exact ⟨0,by rw [if_pos (QB.2 h1)],Int.le_refl 0,.inr rfl⟩
 rw [if_neg (by rw [QB]; exact h1)]
 have hn: ¬n=0:=by omega
 by_cases h2:c.length=0
 ·rw [if_pos (by rw [h2]; rfl),if_neg hn,Qq (n:=a*7) (by omega) (by omega)]
  exact ⟨(a*7).tmod n,rfl,Int.tmod_nonneg _ (by omega),.inl (Int.tmod_lt_of_pos _ (by omega))⟩
 have h3: ¬((c.length:Nat):Int)=0:=by omega
 have p1:0≤a.tmod ((c.length:Nat):Int):=Int.tmod_nonneg _ ha.1;have p2:a.tmod ((c.length:Nat):Int)< ((c.length:Nat):Int):=Int.tmod_lt_of_pos _ (by omega)
 have p3:0≤(a+1).tmod ((c.length:Nat):Int):=Int.tmod_nonneg _ (by omega)
 have p4:(a+1).tmod ((c.length:Nat):Int)< ((c.length:Nat):Int):=Int.tmod_lt_of_pos _ (by omega)
 have p5:0≤a.tdiv ((c.length:Nat):Int):=Int.tdiv_nonneg ha.1 (by omega)
 have p6:a.tdiv ((c.length:Nat):Int)≤a:=Int.tdiv_le_self _ ha.1;obtain ⟨y,hy⟩: ∃y,c[(a.tmod ((c.length:Nat):Int)).toNat]?=some y:=⟨_,List.getElem?_eq_getElem (by omega)⟩
 obtain ⟨z,hz⟩: ∃z,c[((a+1).tmod ((c.length:Nat):Int)).toNat]?=some z:=⟨_,List.getElem?_eq_getElem (by omega)⟩
 have by_:=hc.1 y (List.mem_of_getElem? hy);have bz:=hc.1 z (List.mem_of_getElem? hz);rw [if_neg (by simpa using h3),if_neg h3,if_pos p1,hy,Obn]
 generalize a.tdiv ((c.length:Nat):Int)=d at p5 p6⊢;rw [Qq (n:=y) (by omega) (by omega),Qq (n:=d) (by omega) (by omega),Qq (n:=d*37) (by omega) (by omega),Qq (n:=y+d*37) (by omega) (by omega)]
 by_cases h4:(200:Int)< n
 ·rw [if_neg h3,if_pos (QB.2 h4),if_neg h3]
  rw [Qq (n:=(y+d*37)*251) (by omega) (by omega),Qq (n:=a+1) (by omega) (by omega),if_pos p3,hz,Obn,Qq (n:=z) (by omega) (by omega),Qq (n:=z*13) (by omega) (by omega),
   Qq (n:=(y+d*37)*251+z*13) (by omega) (by omega),Qq (n:=(y+d*37)*251+z*13+a) (by omega) (by omega),if_neg hn]
  exact ⟨_,rfl,Int.tmod_nonneg _ (by omega),.inl (Int.tmod_lt_of_pos _ (by omega))⟩
 ·rw [if_neg h3,if_neg (by rw [QB]; exact h4),if_neg hn]
  exact ⟨_,rfl,Int.tmod_nonneg _ (by omega),.inl (Int.tmod_lt_of_pos _ (by omega))⟩
def Qdz (x:denP P_c):Int:=match F_c x with | some r=>r.1.1 | none=>0
def QlS (x:denP P_d):Int:=match F_d x with | some r=>r.1.1 | none=>0
def QmK (x:denP P_c):Bool:=match F_s x with | some r=>r.1.1 | none=>false
def QkI (x:denP P_m):Int:=match F_t x with | some r=>r.1.1 | none=>0
theorem QqZ (x:denP P_c) (hc:Byt x.1.1) (ha:0≤x.1.2.1∧x.1.2.1≤1099511627776):F_c x=some ((Qdz x,()),((x.1.1,x.1.2.1+1,()),())):=by
 obtain ⟨⟨c,a,_⟩,n,_⟩:=x;obtain ⟨v,e,h0,h1⟩:=QdW hc a n ha;unfold Qdz;rw [e]
theorem QwH (x:denP P_c) (hc:Byt x.1.1) (ha:0≤x.1.2.1∧x.1.2.1≤1099511627776):0≤Qdz x∧(Qdz x< x.2.1∨Qdz x=0):=by
 obtain ⟨⟨c,a,_⟩,n,_⟩:=x;obtain ⟨v,e,h0,h1⟩:=QdW hc a n ha;unfold Qdz;rw [e];exact ⟨h0,h1⟩
theorem Qne {c:List Int} (hc:Byt c) (a:Int) (l:List Int) (ha:0≤a∧a≤1099511627776) (hl:l≠[]):
  ∃v:Int,F_d ((c,a,()),l,())=some ((v,()),((c,a+1,()),()))∧v∈l:=by
 have hpos:0< l.length:=List.length_pos_iff.2 hl;obtain ⟨v,e,h0,h1⟩:=QdW hc a ((l.length:Nat):Int) ha;unfold F_d;dsimp only;rw [e,Obn];dsimp only;have hv:v.toNat< l.length:=by omega
 rw [if_pos h0,List.getElem?_eq_getElem hv,Obn];exact ⟨_,rfl,List.getElem_mem hv⟩
theorem Qrf (x:denP P_d) (hl:x.2.1.isEmpty=false) (hc:Byt x.1.1) (ha:0≤x.1.2.1∧x.1.2.1≤1099511627776):F_d x=some ((QlS x,()),((x.1.1,x.1.2.1+1,()),())):=by
 obtain ⟨⟨c,a,_⟩,l,_⟩:=x;obtain ⟨v,e,h0⟩:=Qne hc a l ha (by rintro rfl; cases hl)
 unfold QlS;rw [e]
theorem QwP (x:denP P_d) (hl:x.2.1.isEmpty=false) (hc:Byt x.1.1) (ha:0≤x.1.2.1∧x.1.2.1≤1099511627776):QlS x∈x.2.1:=by
 obtain ⟨⟨c,a,_⟩,l,_⟩:=x;obtain ⟨v,e,h0⟩:=Qne hc a l ha (by rintro rfl; cases hl)
 unfold QlS;rw [e];exact h0
theorem Qlj (x:denP P_c) (hc:Byt x.1.1) (ha:0≤x.1.2.1∧x.1.2.1≤1099511627776):F_s x=some ((QmK x,()),((x.1.1,x.1.2.1+1,()),())):=by
 obtain ⟨⟨c,a,_⟩,n,_⟩:=x;obtain ⟨v,e,h0,h1⟩:=QdW hc a n ha
 have:F_s ((c,a,()),n,())=some ((v==0,()),((c,a+1,()),())):=by
  unfold F_s;dsimp only;rw [e,Obn]
 unfold QmK;rw [this]
theorem Qrz {c:List Int} (hc:Byt c) (a:Int) (ha:0≤a∧a≤1073741824): ∃v:Int,F_t ((c,a,()),())=some ((v,()),((c,a+5,()),()))∧0≤v∧v≤4294967295:=by
 obtain ⟨v1,e1,a1,b1⟩:=QdW hc a 90 (by omega)
 obtain ⟨v2,e2,a2,b2⟩:=QdW hc (a+1) 9 (by omega)
 obtain ⟨v3,e3,a3,b3⟩:=QdW hc (a+1+1) 9 (by omega)
 obtain ⟨v4,e4,a4,b4⟩:=QdW hc (a+1+1+1) 60000 (by omega)
 unfold F_t;dsimp only;rw [e1,Obn,e2,Obn,e3,Obn];dsimp only;rw [e4,Obn];dsimp only;rw [Qq (n:=4294967295-v3) (by omega) (by omega),Qq (n:=v4*70000) (by omega) (by omega)]
 obtain ⟨v,e,hv⟩:=Qne hc (a+1+1+1+1) [v1,v2,4294967295-v3,2147483648,2147483647,0,v4*70000] (by omega) (by simp)
 rw [e,Obn];refine ⟨v,?_,?_⟩
 ·have:a+1+1+1+1+1=a+5:=by omega
  rw [this]
 ·simp at hv;omega
theorem QrA (x:denP P_m) (hc:Byt x.1.1) (ha:0≤x.1.2.1∧x.1.2.1≤1073741824):F_t x=some ((QkI x,()),((x.1.1,x.1.2.1+5,()),())):=by
 obtain ⟨⟨c,a,_⟩,_⟩:=x;obtain ⟨v,e,h0⟩:=Qrz hc a ha;unfold QkI;rw [e]
theorem QwX (x:denP P_m) (hc:Byt x.1.1) (ha:0≤x.1.2.1∧x.1.2.1≤1073741824):0≤QkI x∧QkI x≤4294967295:=by
 obtain ⟨⟨c,a,_⟩,_⟩:=x;obtain ⟨v,e,h0⟩:=Qrz hc a ha;unfold QkI;rw [e];exact h0
theorem Qde {c:List Int} (hc:Byt c) (a n:Int) (ha:0≤a∧a≤1099511627776):F_c ((c,a,()),n,())=some ((Qdz ((c,a,()),n,()),()),((c,a+1,()),())):=QqZ _ hc ha
theorem Qrg {c:List Int} (hc:Byt c) (a:Int) (x:Int) (l:List Int) (ha:0≤a∧a≤1099511627776):F_d ((c,a,()),x::l,())=some ((QlS ((c,a,()),x::l,()),()),((c,a+1,()),())):=Qrf _ rfl hc ha
theorem QrN {c:List Int} (hc:Byt c) (a n:Int) (ha:0≤a∧a≤1099511627776):F_s ((c,a,()),n,())=some ((QmK ((c,a,()),n,()),()),((c,a+1,()),())):=Qlj _ hc ha
theorem QvZ {c:List Int} (hc:Byt c) (a:Int) (ha:0≤a∧a≤1073741824):F_t ((c,a,()),())=some ((QkI ((c,a,()),()),()),((c,a+5,()),())):=QrA _ hc ha
abbrev InsD:=Int×Int×Int×Int×Unit
theorem QqK (op:Int): ∃b1 b2 b3:Bool,F_n (op,())=some ((b1,b2,b3,()),()):=by
 unfold F_n;dsimp only
 repeat' split
 all_goals exact ⟨_,_,_,rfl⟩
theorem QtI {α β:Type} {P:α→β} {c:Prop} [Decidable c] {a b:β} (ha: ∃v,a=P v) (hb: ∃v,b=P v): ∃v,(if c then a else b)=P v:=by split <;> assumption
theorem Qoh (x:InsD): ∃v:Int,F_q (x,())=some ((v,()),()):=by
 obtain ⟨b1,b2,b3,e⟩:=QqK x.1;unfold F_q;dsimp only;rw [QaU,QaU,QaU,QaU,e];simp only [Obn]
 repeat' (first | exact ⟨_,rfl⟩ | refine QtI (P:=fun v:Int=>some ((v,()),())) ?_ ?_)
theorem QrQ (x:InsD): ∃v:Int×Int×Unit,F_r (x,())=some ((v,()),()):=by
 obtain ⟨v,e⟩:=Qoh x;unfold F_r;dsimp only;rw [e,Obn];dsimp only;split <;> exact ⟨_,rfl⟩
theorem Qub {c:List Int} (hc:Byt c) (a:Int) (ha:0≤a∧a≤1000000000): ∃v:InsD,F_o ((c,a,()),())=some ((v,()),((c,a+1+1+1+1+1+1+1,()),())):=by
 unfold F_o;dsimp only;rw [Qde hc,Obn];dsimp only;generalize Qdz _=v1;rw [Qde hc,Obn];dsimp only;generalize Qdz _=v2;rw [Qde hc,Obn];dsimp only;generalize Qdz _=v3;rw [Qde hc,Obn];dsimp only;generalize Qdz _=v4;rw [Qde hc,Obn];dsimp only;generalize Qdz _=v5;rw [Qde hc,Obn];dsimp only;generalize Qdz _=v6;rw [Qrg hc,Obn];dsimp only;generalize QlS _=v7;obtain ⟨b1,b2,b3,e⟩:=QqK (IntKind.i64.wrap (1+v1));rw [e,Obn];dsimp only
 repeat' (first | exact ⟨_,rfl⟩ | refine QtI (P:=fun v:InsD=>some ((v,()),((c,a+1+1+1+1+1+1+1,()),()))) ?_ ?_)
 all_goals omega
def Drew {T:Type} (o:Option ((T×Unit)×(List Int×Int×Unit)×Unit)) (c:List Int) (a k:Int):Prop:= ∃(v:T) (a':Int),o=some ((v,()),((c,a',()),()))∧a≤a'∧a'≤a+k
theorem Drew.ite {T:Type} {p:Prop} [Decidable p] {x y:Option ((T×Unit)×(List Int×Int×Unit)×Unit)} {c:List Int} {a k:Int} (hx:Drew x c a k) (hy:Drew y c a k):Drew (if p then x else y) c a k:=by split <;> assumption
theorem Quc {c:List Int} (hc:Byt c) (a:Int) (ha:0≤a∧a≤100000000):Drew (T:=InsD) (F_p ((c,a,()),())) c a 20:=by
 unfold F_p;dsimp only;rw [Qde hc,Obn];dsimp only;generalize IntKind.i64.wrap (1+Qdz _)=v1;rw [Qde hc,Obn];dsimp only;generalize Qdz _=v2;obtain ⟨v,e⟩:=Qub hc (a+1+1) (by omega)
 rw [e]
 repeat' (first
  | refine Drew.ite ?_ ?_
  | (rw [Qde hc,Obn]; dsimp only)
  | (rw [Qrg hc,Obn]; dsimp only)
  | exact ⟨_,_,rfl,by omega,by omega⟩
  | omega
  | (rw [Obn]; dsimp only))
theorem QtS {c:List Int} (hc:Byt c) (n a:Int) (ha:0≤a∧a≤10000000) (hn:n≤1000): ∃(m:List Int) (a':Int),F_u ((c,a,()),n,())=some ((m,()),((c,a',()),()))∧(m.length:Int)=(if n< 0 then 0 else n)∧a≤a'∧a'≤a+26*(if n< 0 then 0 else n):=by
 have key: ∀f (k:Nat) (m:List Int) (a:Int),k< f→k≤1000→0≤a∧a≤100000000-26*(k:Int)→m.length≤1000-k→
   ∃(m':List Int) (a':Int),Qd l_u_2 f (((),(k:Int),m,()),((c,a,()),()),())=some (.inl ((m',()),((c,a',()),()),()))∧m'.length=m.length+k∧a≤a'∧a'≤a+26*(k:Int):=by
  intro f
  induction f with
  | zero=>intro k _ _ h; omega
  | succ f ih=>
   intro k m a hk hk2 ha hm;simp only [Qd];generalize Qd l_u_2 f=rec at ih⊢;unfold l_u_2;dsimp only;by_cases h0:0< k
   ·obtain ⟨x,a1,e1,g1,g2⟩:=Quc hc a (by omega)
    obtain ⟨w,e2⟩:=QrQ x;rw [if_pos (by rw [QB]; omega),e1,Obn,e2,Obn]
    dsimp only;rw [QrN hc _ _ (by omega),Obn]
    dsimp only;have ew:IntKind.i64.wrap ((k:Int)-1)=((k-1:Nat):Int):=by rw [Qq (by omega) (by omega)]; omega
    rw [ew];split
    ·rw [QvZ hc _ (by omega),Obn]
     dsimp only;rw [if_pos (by simp; omega)]
     obtain ⟨m',a',i1,i2,i3,i4⟩:=ih (k-1) (m++[QkI ((c,a1+1,()),())]) (a1+1+5) (by omega) (by omega) (by omega) (by simp; omega)
     exact ⟨m',a',i1,by rw [i2]; simp; omega,by omega,by omega⟩
    ·rw [if_pos (by simp; omega)]
     obtain ⟨m',a',i1,i2,i3,i4⟩:=ih (k-1) (m++[w.2.1]) (a1+1) (by omega) (by omega) (by omega) (by simp; omega)
     exact ⟨m',a',i1,by rw [i2]; simp; omega,by omega,by omega⟩
   ·have:k=0:=by omega
    subst this;rw [if_neg (by rw [QB]; omega)]
    exact ⟨m,a,rfl,by omega,by omega,by omega⟩
 unfold F_u;dsimp only;by_cases h0:n< 0
 ·have:L_u_2 (((),n,[],()),((c,a,()),()),())=some (.inl (([],()),((c,a,()),()),())):=by
   show Qd l_u_2 lots _=_;rw [Qxi,QwD];unfold l_u_2;dsimp only;rw [if_neg (by rw [QB]; omega)]
  rw [this,Obn,if_pos h0];exact ⟨[],a,rfl,rfl,by omega,by omega⟩
 ·obtain ⟨m',a',i1,i2,i3,i4⟩:=key lots n.toNat [] a (by rw [QG]; omega) (by omega) (by omega) (by simp)
  have en:((n.toNat:Nat):Int)=n:=by omega
  rw [en] at i1 i4;rw [if_neg h0];show ∃m a',(Qd l_u_2 lots (((),n,[],()),((c,a,()),()),())).bind _=_∧_;rw [i1,Obn];exact ⟨m',a',rfl,by rw [i2]; simp; omega,i3,i4⟩
def QaE (x:Qw) (n:Int):Bool:=inB n 0 200 && leI (IntKind.i64.wrap (x.2.2.2.2.2.1+n)) 1000000
theorem QmX {c:Int} (h:nz c=none):c=0:=by
 unfold nz at h;split at h
 ·cases h
 ·rename_i h'; simpa using h'
theorem QcA {p:PolD} (hok:OkPol p): ∀l∈p.2.1,(isG p l.1=true∧isG p l.2.1=true∧l.1≠l.2.1)∧(0≤l.2.2.1∧l.2.2.1≤23)∧(5≤l.2.2.2.1∧l.2.2.2.1≤6)∧5≤l.2.2.2.2.1∧l.2.2.2.2.1≤6:=by
 intro l hl;obtain ⟨i,e⟩:=Qbo hok.lanes.2 l hl;have e:=QmX e;unfold Qek at e;split at e
 ·rename_i h; exact absurd e h
 ·rename_i h0;split at e
  ·rename_i h1;refine ⟨?_,Qdt.1 h1.1,Qdt.1 h1.2.1,Qdt.1 h1.2.2⟩;have h0:QcL p l.1 l.2.1=0:=by simpa using h0
   unfold QcL at h0;split at h0
   ·rename_i g1;split at h0
    ·rename_i g2;split at h0
     ·cases h0
     ·rename_i g3; exact ⟨g1,g2,g3⟩
    ·cases h0
   ·cases h0
  ·cases e
theorem QaP {p:PolD} {g:Int}:isG p g=true↔0≤g∧g< (p.1.length:Int):=by unfold isG; simp; omega
def pg (m:List Int) (p:Int):List Int:=(m.drop (8*p.toNat)).take 8
def Qai (m:List Int) (l:List Int):List Int:=l.flatMap (pg m)
theorem QjY (m:List Int) (p:Int):(pg m p).length≤8:=by unfold pg; simp; omega
theorem Qha (m:List Int): ∀l:List Int,(Qai m l).length≤8*l.length
 | []=>by simp [Qai]
 | p::r=>by
  have h1:=Qha m r;have h2:=QjY m p;unfold Qai at h1⊢;rw [List.flatMap_cons,List.length_append,List.length_cons]; omega
theorem Qqy (m:List Int) {l:List Int} {k:Nat} (h:k< l.length):Qai m (l.drop k)=pg m l[k]++Qai m (l.drop (k+1)):=by
 rw [QaT h]; rfl
theorem Qfz (m:List Int) (p:Int) (hm:m.length≤192) (hp:0≤p∧8*p+8≤(m.length:Int)):F_ea (m,p,())=some ((pg m p,()),()):=by
 obtain ⟨P,rfl⟩: ∃P:Nat,p=(P:Int):=⟨p.toNat,by omega⟩
 rw [QlR m P (by omega) hm]
 unfold pg;rw [Int.toNat_natCast]
theorem Qhr (m l:List Int) (hm:m.length≤192) (hp: ∀p∈l,0≤p∧8*p+8≤(m.length:Int)) (hl:l.length≤1000):F_eb (m,l,())=some ((Qai m l,()),()):=by
 have key:=Qfa (step:=l_eb_3) (γ:=denO o_aa_3) (fun k (out:List Int)=>((m,out,l,((l.length:Nat):Int),((k:Nat):Int),()),(),())) l.length (QaM (by omega)) (fun k out=>out.length≤8*k)
  (fun k out=>some (.inl ((out++Qai m (l.drop k),()),(),()))) ?_ 0 [] (by omega) (by simp)
 ·have e0:((0:Nat):Int)=0:=rfl;rw [e0,List.drop_zero,List.nil_append] at key;unfold F_eb;show (Qd l_eb_3 lots _).bind _=_;rw [key,Obn]
 ·rintro rec k out hk ho ih;unfold l_eb_3;dsimp only;by_cases hlt:k< l.length
  ·have hy:=hp _ (List.getElem_mem hlt);rw [if_pos (lt_t hlt),if_pos nat0,Qn hlt,Qfz m _ hm hy,Obn];dsimp only;rw [if_pos (by have:=QjY m l[k]; omega),QQ (by omega),Qqy m hlt]
   rw [ih (out++pg m l[k]) hlt (by have:=QjY m l[k]; rw [List.length_append]; omega),List.append_assoc]
  ·rw [if_neg (lt_f hlt),QbN hlt];simp [Qai]
def Qar (g:Int) (b:Bool):List QI→List Int
 | []=>[]
 | l::r=>if l.1=g then (if b=true then l.2.2.1 else l.2.2.2.1)::Qar g b r else Qar g b r
theorem QjA (g:Int) (b:Bool): ∀ls:List QI,(Qar g b ls).length≤ls.length
 | []=>by simp [Qar]
 | l::r=>by
  have:=QjA g b r;simp only [Qar];split
  ·simp only [List.length_cons]; omega
  ·simp only [List.length_cons]; omega
theorem QgQ {g:Int} {b:Bool}: ∀{ls:List QI}, ∀v∈Qar g b ls, ∃l∈ls,l.1=g∧v=if b=true then l.2.2.1 else l.2.2.2.1
 | [],v,h=>by simp [Qar] at h
 | l::r,v,h=>by
  simp only [Qar] at h;split at h
  ·rename_i hg;rcases List.mem_cons.1 h with h | h
   ·exact ⟨l,by simp,hg,h⟩
   ·obtain ⟨l',h1,h2⟩:=QgQ v h;exact ⟨l',by simp [h1],h2⟩
  ·obtain ⟨l',h1,h2⟩:=QgQ v h;exact ⟨l',by simp [h1],h2⟩
def QU:QH:=([],0,[],false,false,false,0,[],[],())
theorem Qsp (h:QH) (hl:QbQ 1048576 h):F_al (h,())=some ((h,()),()):=by
 obtain ⟨l1,l2,l3,l4⟩:=hl;unfold F_al;dsimp only;rw [if_pos (by simp only [List.length_nil]; omega),if_pos (by simp only [List.length_nil]; omega),if_pos (by simp only [List.length_nil]; omega),if_pos (by simp only [List.length_nil]; omega)]
 rfl
theorem Qhi (m:List Int) (h:m.length≤1048576):F_dh (m,())=some ((m,()),()):=by
 unfold F_dh;rw [if_pos (by simp only [List.length_nil]; omega)]
 rfl
theorem QeI (h:QH) (hl:QbQ 1048576 h):F_di (h,())=some ((h,()),()):=by
 obtain ⟨l1,l2,l3,l4⟩:=hl;unfold F_di;dsimp only;rw [Qhi _ l1,Obn,Qhi _ l2,Obn,Qhi _ l3,Obn,Qhi _ l4,Obn]
abbrev Qtr:=Int×List Int×Int×List Int×Bool×Bool×Bool×Int×List Int×List Int×List Int×List Int×Unit
def QkE (c:Int) (h:QH) (o g:List Int):Qtr:=(c,h.1,h.2.1,h.2.2.1,h.2.2.2.1,h.2.2.2.2.1,h.2.2.2.2.2.1,h.2.2.2.2.2.2.1,h.2.2.2.2.2.2.2.1,h.2.2.2.2.2.2.2.2.1,o,g,())
def Qmv (x:Qw) (g:Int):Qtr:=
 if QaH x≠0 then QkE (QaH x) QU [] []
 else if isG x.1 g=true then QkE 0 (x.2.2.1.getD g.toNat QU) (Qai x.2.1 (x.1.1.getD g.toNat [])) (Qai x.2.1 (Qar g true x.1.2.1))
 else QkE 4 QU [] []
theorem QnT {x:Qw} (h:QaH x=0):x.2.1.length=192∧x.2.2.1.length=x.1.1.length:=by
 have hp:=Qfy h;unfold QaH at h;rw [if_neg (by simpa using hp)] at h
 split at h
 ·rename_i g; exact ⟨g.1.2,g.2⟩
 ·cases h
theorem QjD {x:Qw} {g:Int} (hx:QcU 1048576 x) (h:QaH x=0) (hg:isG x.1 g=true):
  (0≤g∧x.2.2.1[g.toNat]?=some (x.2.2.1.getD g.toNat QU)∧x.1.1[g.toNat]?=some (x.1.1.getD g.toNat []))∧QbQ 1048576 (x.2.2.1.getD g.toNat QU)∧
   ((x.1.1.getD g.toNat []).length≤5∧ ∀p∈x.1.1.getD g.toNat [],0≤p∧8*p+8≤(x.2.1.length:Int))∧ ∀p∈Qar g true x.1.2.1,0≤p∧8*p+8≤(x.2.1.length:Int):=by
 obtain ⟨g0,g1⟩:=QaP.1 hg;obtain ⟨hm,hh⟩:=QnT h;have hok:=Qep (Qfy h);have hk1:g.toNat< x.1.1.length:=by omega
 have hk2:g.toNat< x.2.2.1.length:=by omega
 have e1:x.1.1[g.toNat]?=some (x.1.1.getD g.toNat []):=by rw [List.getD_eq_getElem?_getD,List.getElem?_eq_getElem hk1]; rfl
 have e2:x.2.2.1[g.toNat]?=some (x.2.2.1.getD g.toNat QU):=by rw [List.getD_eq_getElem?_getD,List.getElem?_eq_getElem hk2]; rfl
 refine ⟨⟨g0,e2,e1⟩,hx.2.2.2 _ (List.mem_of_getElem? e2),⟨(hok.own1 _ (List.mem_of_getElem? e1)).2.1,fun p hp=>?_⟩,fun p hp=>?_⟩
 ·have:=(hok.own1 _ (List.mem_of_getElem? e1)).2.2 p hp;omega
 ·obtain ⟨l,hl,_,e⟩:=QgQ p hp;rw [if_pos rfl] at e;have:=(QcA hok l hl).2.1;omega
theorem Qof (x:Qw) (g:Int) (hx:QcU 1048576 x):F_ed (x,g,())=some ((Qmv x g,()),()):=by
 unfold F_ed Qmv;dsimp only;rw [Qbe x hx,Obn];dsimp only;by_cases h0:QaH x=0
 case neg=>rw [if_pos (by simpa using h0),if_pos h0]; rfl
 rw [if_neg (by simpa using h0),if_neg (by simpa using h0),QaO x.1 g hx.1.1.1,Obn]
 dsimp only;by_cases hg:isG x.1 g=true
 case neg=>rw [if_pos (by simpa using hg),if_neg hg]; rfl
 obtain ⟨⟨g0,e1,e2⟩,a1,⟨a2,a3⟩,a4⟩:=QjD hx h0 hg;have hok:=Qep (Qfy h0);have hm:=(QnT h0).1;have hll:=hok.lanes.1;rw [if_neg (by simpa using hg),if_pos hg]
 unfold F_ec;dsimp only;rw [if_pos g0,e1,Obn,QeI _ a1,Obn,if_pos g0,e2,Obn,Qhr _ _ (by omega) a3 (by omega),Obn]
 generalize x.2.2.1.getD g.toNat QU=h at*;generalize Qai x.2.1 (x.1.1.getD g.toNat [])=ow at*;dsimp only
 have key:=Qfa (step:=l_ec_3) (γ:=denO o_ec_3)
  (fun k (out:List Int)=>((x,g,(),(),x.1.2.1,((x.1.2.1.length:Nat):Int),((k:Nat):Int),()),(([],0,[],false,false,false,0,[],[],[],[],()),(h.1,h.2.1,h.2.2.1,h.2.2.2.1,h.2.2.2.2.1,h.2.2.2.2.2.1,h.2.2.2.2.2.2.1,h.2.2.2.2.2.2.2.1,h.2.2.2.2.2.2.2.2.1,ow,out,()),()),()))
  x.1.2.1.length (QaM (by omega)) (fun k out=>out.length≤8*k)
  (fun k out=>some (.inl (((),(),()),(([],0,[],false,false,false,0,[],[],[],[],()),(h.1,h.2.1,h.2.2.1,h.2.2.2.1,h.2.2.2.2.1,h.2.2.2.2.2.1,h.2.2.2.2.2.2.1,h.2.2.2.2.2.2.2.1,h.2.2.2.2.2.2.2.2.1,ow,out++Qai x.2.1 (Qar g true (x.1.2.1.drop k)),()),()),()))) ?_ 0 [] (by omega) (by simp)
 ·have e0:((0:Nat):Int)=0:=rfl;rw [e0,List.drop_zero,List.nil_append] at key;show ((Qd l_ec_3 lots _).bind _).bind _=_;rw [key,Obn];rfl
 ·rintro rec k out hk ho ih;unfold l_ec_3;dsimp only;by_cases hlt:k< x.1.2.1.length
  ·have hln:=(QcA hok _ (List.getElem_mem hlt)).2.1;rw [if_pos (lt_t hlt),if_pos nat0,Qn hlt,QaT hlt,Qar,QQ (by omega)]
   by_cases hq:(x.1.2.1[k]).1=g
   ·rw [if_pos (by simpa using hq),if_pos hq,Qfz x.2.1 _ (by omega) (by omega),Obn]
    dsimp only;have:=QjY x.2.1 (x.1.2.1[k]).2.2.1;rw [if_pos (by omega),ih _ hlt (by rw [List.length_append]; omega),List.append_assoc]
    rfl
   ·rw [if_neg (by simpa using hq),if_neg hq]
    exact ih _ hlt (by omega)
  ·rw [if_neg (lt_f hlt),QbN hlt];simp only [Qar,Qai,List.flatMap_nil,List.append_nil]
def vrLe (r:Qtr):Prop:=r.2.1.length≤1048576∧r.2.2.2.1.length≤1048576∧r.2.2.2.2.2.2.2.2.1.length≤1048576∧r.2.2.2.2.2.2.2.2.2.1.length≤1048576∧r.2.2.2.2.2.2.2.2.2.2.1.length≤1048576∧r.2.2.2.2.2.2.2.2.2.2.2.1.length≤1048576
theorem Qmw (c:Int):vrLe (QkE c QU [] []):=by unfold vrLe QkE QU; simp
theorem QuV (x:Qw) (g:Int) (hx:QcU 1048576 x):vrLe (Qmv x g):=by
 unfold Qmv;split
 ·exact Qmw _
 ·rename_i h0;have h0:QaH x=0:=by simpa using h0
  split
  ·rename_i hg;obtain ⟨_,a1,⟨a2,a3⟩,a4⟩:=QjD hx h0 hg;have w1:=Qha x.2.1 (x.1.1.getD g.toNat []);have w2:=Qha x.2.1 (Qar g true x.1.2.1);have w3:=QjA g true x.1.2.1;have w4:=(Qep (Qfy h0)).lanes.1;exact ⟨a1.1,a1.2.1,a1.2.2.1,a1.2.2.2,by show (Qai _ _).length≤_; omega,by show (Qai _ _).length≤_; omega⟩
  ·exact Qmw _
abbrev Qbu:=QH×List TwoD×List Int×Unit
def Qou (top:Int) (p:TwoD):Option Int:=if inB p.1 (-1) (top-1)=true then (if inB p.2.1 0 7=true then (if p.1= -1 then nz (if p.2.1=0 then 0 else 1) else none) else some 3) else some 3
end Go.Proofs.YtkkljegcnnfanaaGreatDoor
