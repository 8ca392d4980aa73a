/- Plain laws: what the functions compute, and that both programs compute the same. -/
import Derived.Test.YtkkljegcnnfanaaGreatDoorGa4
set_option linter.unusedVariables false
set_option linter.unusedSimpArgs false
namespace Go.Proofs.YtkkljegcnnfanaaGreatDoor
open Go Go.RowKit S Go.Proofs
set_option maxRecDepth 100000
def okW (w:Int):Bool:=decide (w≥0) && decide (w≤4294967295)
def allW (m:List Int):Bool:=m.all okW
theorem Qcj (n a b:Int):F_e (n,a,b,())=some ((decide (n≥a) && decide (n≤b),()),()):=by
 unfold F_e;simp only [Qas,Qap,decide_eq_true_eq,ge_iff_le,gt_iff_lt];split
 ·rename_i h; simp [h]
 ·rename_i h; simp [h]
theorem Qbo (n a b:Int):F_cb (n,a,b,())=some ((decide (n≥a) && decide (n≤b),()),()):=by
 unfold F_cb;simp only [Qas,Qap,decide_eq_true_eq,ge_iff_le,gt_iff_lt];split
 ·rename_i h; simp [h]
 ·rename_i h; simp [h]
theorem Qlc (n:Int):F_cu (n,())=some ((okW n,()),()):=by
 unfold F_cu;rw [Qbo,Obn];rfl
theorem Qmd (n:Int):F_cv_1 (n,())=some ((!okW n,()),()):=by
 unfold F_cv_1;rw [Qlc,Obn]
theorem QkH {y:Int} {r:List Int}:allW (y::r)=(okW y && allW r):=rfl
theorem QpZ (m:List Int) (i:Int) (h0:0≤i) (h1:i≤(m.length:Int)) (h3:m.length≤maxLen):
  (allW (m.drop i.toNat)=true∧L_cx_2 ((m,(),((m.length:Nat):Int),i,()),(),())=some (.inl ((),(),())))∨
  (allW (m.drop i.toNat)=false∧ ∃k:Int,0≤k∧L_cx_2 ((m,(),((m.length:Nat):Int),i,()),(),())=some (.inr (.inl ((k,()),(),())))):=by
 have key: ∀(n:Nat) (i:Int),(m.length-i).toNat< n→0≤i→i≤(m.length:Int)→
   (allW (m.drop i.toNat)=true∧Qc l_cx_2 n ((m,(),((m.length:Nat):Int),i,()),(),())=some (.inl ((),(),())))∨
   (allW (m.drop i.toNat)=false∧ ∃k:Int,0≤k∧Qc l_cx_2 n ((m,(),((m.length:Nat):Int),i,()),(),())=some (.inr (.inl ((k,()),(),())))):=by
  intro n
  induction n with
  | zero=>intro i h; omega
  | succ n ih=>
   intro i hm h0 h1;simp only [Qc];generalize Qc l_cx_2 n=rec at ih⊢;unfold l_cx_2;simp only [Qas,Qap,decide_eq_true_eq,ge_iff_le,gt_iff_lt];by_cases hlt:i< (m.length:Int)
   ·obtain ⟨y,hy,_,hd⟩:=Qqj h0 hlt;rw [if_pos hlt,if_pos h0,hy,Obn,Qmd,Obn,QpU h0 hlt h3,hd,QkH];cases hw:okW y with
    | true=>simpa using ih (i+1) (by omega) (by omega) (by omega)
    | false=>exact .inr ⟨by simp,i,h0,by simp⟩
   ·rw [if_neg hlt,QgW hlt];exact .inl ⟨rfl,rfl⟩
 exact key lots i (by rw [Qcv] at h3; rw [QI]; omega) h0 h1
theorem QbT (m:List Int) (h:m.length≤maxLen):F_cv (m,())=some ((allW m,()),()):=by
 unfold F_cv F_cy_1 F_cw_1;simp only;rcases QpZ m 0 (by simp) (by simp) h with ⟨h1,h2⟩ | ⟨h1,k,h2,h3⟩
 ·simp only [Int.toNat_zero,List.drop_zero] at h1;rw [h2,h1]; rfl
 ·simp only [Int.toNat_zero,List.drop_zero] at h1;rw [h3,h1];simp [h2,Qap]
def QA (m:List Int):Int:=if m.length % 8=0∧8≤m.length∧m.length≤192 then (if allW m=true then 0 else 3) else 1
theorem QeD (m:List Int) (h:m.length≤maxLen):F_cz (m,())=some ((QA m,()),()):=by
 unfold F_cz QA;rw [QbT m h];simp only [Obn,Qas,Qap,beq_eq_false_iff_ne,decide_eq_false_iff_not,bne_iff_ne];have e:((m.length:Nat):Int).tmod 8=((m.length % 8:Nat):Int):=rfl;rw [e];by_cases h1:((m.length:Nat):Int)≠0
 ·rw [if_pos h1];by_cases h2: ¬((m.length:Nat):Int) > 192
  ·rw [if_pos h2];by_cases h3:((m.length % 8:Nat):Int)≠0
   ·rw [if_pos h3,if_neg (by omega)]
   ·have hc:m.length % 8=0∧8≤m.length∧m.length≤192:=by omega
    rw [if_neg h3,if_pos hc];cases allW m <;> rfl
  ·rw [if_neg h2,if_neg (by omega)]
 ·rw [if_neg h1,if_neg (by omega)]
theorem QjV (m:List Int) (i:Int) (h0:0≤i) (h1:i≤(m.length:Int)) (h3:m.length≤maxLen):
  L_fg_4 ((m,i,()),(),())=some (if allW (m.drop i.toNat)=true then .inl ((),(),()) else .inr (.inl ((3,()),(),()))):=by
 refine Qju (γ:=denO o_l_4) (step:=l_fg_4) (β:=Int) (fun i=>((m,i,()),(),())) (fun i=>0≤i∧i≤(m.length:Int)) (fun i=>some (if allW (m.drop i.toNat)=true then .inl ((),(),()) else .inr (.inl ((3,()),(),()))))
  (fun i=>(m.length-i).toNat) ?_ lots _ ⟨h0,h1⟩ (by rw [Qcv] at h3; rw [QI]; omega)
 rintro rec i ⟨h0,h1⟩ ih;simp only at h0 h1 ih⊢;unfold l_fg_4;simp only [Qas,Qap,decide_eq_true_eq,ge_iff_le,gt_iff_lt];by_cases hlt:i< (m.length:Int)
 ·obtain ⟨y,hy,_,hd⟩:=Qqj h0 hlt;rw [if_pos hlt,if_pos h0,hy,Obn,Qcj,Obn,QpU h0 hlt h3,hd,QkH];show (if (!okW y)=true then _ else _)=_
  cases hw:okW y with
  | true=>simpa using ih (i+1) ⟨by omega,by omega⟩ (by omega)
  | false=>simp
 ·rw [if_neg hlt,QgW hlt];rfl
theorem QmE (m:List Int) (h:m.length≤maxLen):F_fg (m,())=some ((QA m,()),()):=by
 unfold F_fg QA;simp only [Qas,Qap,beq_eq_false_iff_ne,decide_eq_false_iff_not,bne_eq_false_iff_eq,decide_eq_true_eq];have e:((m.length:Nat):Int).tmod 8=((m.length % 8:Nat):Int):=rfl;rw [e];by_cases h1:((m.length % 8:Nat):Int)=0
 ·rw [if_pos h1];by_cases h2: ¬((m.length:Nat):Int)< 8
  ·rw [if_pos h2];by_cases h3:((m.length:Nat):Int) > 192
   ·rw [if_pos h3,if_neg (by omega)]
   ·rw [if_neg h3,if_pos (by omega),QjV m 0 (by simp) (by simp) h]
    simp only [Int.toNat_zero,List.drop_zero];cases allW m <;> rfl
  ·rw [if_neg h2,if_neg (by omega)]
 ·rw [if_neg h1,if_neg (by omega)]
theorem Qks (m m2:List Int) (i:Int) (h0:0≤i) (h1:i≤(m.length:Int)) (h2:m2.length=m.length) (h3:m.length≤maxLen):
  L_fv_4 ((m,m2,((m.length:Nat):Int),i,()),(),())=some (if m.drop i.toNat=m2.drop i.toNat then .inl ((),(),()) else .inr (.inl ((false,()),(),()))):=by
 refine Qju (γ:=denO o_f_2) (step:=l_fv_4) (β:=Int) (fun i=>((m,m2,((m.length:Nat):Int),i,()),(),())) (fun i=>0≤i∧i≤(m.length:Int)) (fun i=>some (if m.drop i.toNat=m2.drop i.toNat then .inl ((),(),()) else .inr (.inl ((false,()),(),()))))
  (fun i=>(m.length-i).toNat) ?_ lots _ ⟨h0,h1⟩ (by rw [Qcv] at h3; rw [QI]; omega)
 rintro rec i ⟨h0,h1⟩ ih;simp only at h0 h1 ih⊢;unfold l_fv_4;simp only [Qas,decide_eq_true_eq];by_cases hlt:i< (m.length:Int)
 ·obtain ⟨y,hy,_,hd⟩:=Qqj h0 hlt;obtain ⟨z,hz,_,hd2⟩:=Qqj (m:=m2) h0 (by omega)
  rw [if_pos hlt,if_pos h0,hy,Obn,if_pos h0,hz,Obn,QpU h0 hlt h3,hd,hd2];by_cases e:y=z
  ·subst e;rw [if_neg (by simp),ih _ ⟨by omega,by omega⟩ (by omega)]
   simp
  ·rw [if_pos (by simpa using e)]
   simp [e]
 ·rw [if_neg hlt,QgW hlt,QgW (by omega)]
  simp
theorem Qak (x:denP P_fv) (h:x.1.length≤maxLen):F_fv x=some ((decide (x.1=x.2.1),()),()):=by
 obtain ⟨m,m2,_⟩:=x;unfold F_fv;simp only at h⊢;by_cases e:m.length=m2.length
 ·have e':((m.length:Nat):Int)=(m2.length:Nat):=by omega
  rw [if_neg (by simp; exact e'),Qks m m2 0 (by simp) (by simp) e.symm h]
  simp only [Int.toNat_zero,List.drop_zero];by_cases e2:m=m2
  ·simp [e2]
  ·simp [e2]
 ·have e': ¬((m.length:Nat):Int)=(m2.length:Nat):=by omega
  rw [if_pos (by simp; exact e')]
  have:m≠m2:=fun e2=>e (by rw [e2])
  simp [this]
abbrev QQ:=den (.pair (.slice (.int .i64)) (.pair (.int .i64) (.pair (.slice (.int .i64)) (.pair .bool (.pair .bool (.pair .bool (.pair (.int .i64) (.pair (.slice (.int .i64)) (.pair (.slice (.int .i64)) .unit)))))))))
abbrev QvB:=QQ×List Int×List Int×Unit
def Qcg (n:Nat) (h:QQ):Prop:=h.1.length≤n∧h.2.2.1.length≤n∧h.2.2.2.2.2.2.2.1.length≤n∧h.2.2.2.2.2.2.2.2.1.length≤n
def QmN (n:Nat) (v:QvB):Prop:=Qcg n v.1∧v.2.1.length≤n∧v.2.2.1.length≤n
theorem Qtl (x:denP P_gb) (h:Qcg maxLen x.1): ∃b,True∧F_gb x=some ((b,()),()):=by
 obtain ⟨h1,h2,h3,h4⟩:=h;unfold F_gb;rw [Qak (x.1.1,x.2.1.1,()) h1,Qak (x.1.2.2.1,x.2.1.2.2.1,()) h2,Qak (x.1.2.2.2.2.2.2.2.1,x.2.1.2.2.2.2.2.2.2.1,()) h3,Qak (x.1.2.2.2.2.2.2.2.2.1,x.2.1.2.2.2.2.2.2.2.2.1,()) h4];simp only [Obn]
 repeat' split
 all_goals exact ⟨_,trivial,rfl⟩
theorem Qus (x:denP P_gc) (h:QmN maxLen x.1): ∃b,True∧F_gc x=some ((b,()),()):=by
 obtain ⟨h1,h2,h3⟩:=h;obtain ⟨b,_,e2⟩:=Qtl (x.1.1,x.2.1.1,()) h1;unfold F_gc;rw [e2,Qak (x.1.2.1,x.2.1.2.1,()) h2,Qak (x.1.2.2.1,x.2.1.2.2.1,()) h3];simp only [Obn]
 repeat' split
 all_goals exact ⟨_,trivial,rfl⟩
theorem leM {n:Nat} (h:n≤1048576):n≤maxLen:=by rw [Qcv]; omega
def chA (a b:List Int) (i:Nat):Bool:=!(a[i]?==b[i]?)
def anyA (a b:List Int) (i:Nat):Nat→Bool
 | 0=>false
 | j+1=>chA a b i || anyA a b (i+1) j
def QaO (a b:List Int) (p:Nat):Nat→List Int
 | 0=>[]
 | k+1=>(if anyA a b (8*p) 8 then [(p:Int)] else [])++QaO a b (p+1) k
theorem QmW (a b:List Int): ∀(j i:Nat),i+j≤a.length→i+j≤b.length→((a.drop i).take j=(b.drop i).take j↔anyA a b i j=false)
 | 0,i,_,_=>by simp [anyA]
 | j+1,i,h1,h2=>by
  have ha:i< a.length:=by omega
  have hb:i< b.length:=by omega
  rw [List.drop_eq_getElem_cons ha,List.drop_eq_getElem_cons hb,List.take_succ_cons,List.take_succ_cons];simp only [List.cons.injEq,anyA,chA,List.getElem?_eq_getElem ha,List.getElem?_eq_getElem hb,Bool.or_eq_false_iff];rw [QmW a b j (i+1) (by omega) (by omega)]
  simp
theorem QfT (m:List Int) (p:Nat) (h:8*p+8≤m.length) (h2:m.length≤192):F_dz (m,(p:Int),())=some (((m.drop (8*p)).take 8,()),()):=by
 unfold F_dz F_dg;simp only;rw [Qw (n:=(p:Int)*8) (by omega) (by omega),Qw (n:=(p:Int)+1) (by omega) (by omega),Qw (n:=((p:Int)+1)*8) (by omega) (by omega)]
 rw [if_pos ⟨by omega,by omega,by omega⟩]
 have e1:((p:Int)*8).toNat=8*p:=by omega
 have e2:(((p:Int)+1)*8).toNat-8*p=8:=by omega
 rw [e1,e2,if_pos (by simp; omega),Obn]
 simp
theorem Qfo (a b:List Int) (hab:a.length=b.length) (hl:a.length≤192) (N:Nat) (hN:8*N≤a.length): ∀(n p:Nat) (out:List Int),N-p< n→p≤N→out.length≤p→
  Qc l_fw_8 n ((a,b,(),out,(N:Int),(p:Int),()),((0,[],()),()),())=some (.inl (((),out++QaO a b p (N-p),()),((0,[],()),()),()))
 | 0,p,out,h,_,_=>by omega
 | n+1,p,out,h,hp,ho=>by
  have ih:=Qfo a b hab hl N hN n (p+1);simp only [Qc];generalize Qc l_fw_8 n=rec at ih⊢;unfold l_fw_8;simp only [Qas,decide_eq_true_eq];by_cases hlt:p< N
  ·have hb:(p:Int)< (N:Int):=by omega
   have ek:N-p=(N-(p+1))+1:=by omega
   have en:((p+1:Nat):Int)=(p:Int)+1:=by omega
   have hla:((a.drop (8*p)).take 8).length≤maxLen:=by rw [Qcv]; simp; omega
   rw [if_pos hb,QfT a p (by omega) hl,Obn,QfT b p (by omega) (by omega),Obn,Qak ((a.drop (8*p)).take 8,(b.drop (8*p)).take 8,()) hla,Obn,Qw (n:=(p:Int)+1) (by omega) (by omega),ek,QaO]
   have hany:=QmW a b 8 (8*p) (by omega) (by omega)
   cases e:anyA a b (8*p) 8 with
   | false=>
    have e2:=hany.2 e;have:=ih out (by omega) (by omega) (by omega)
    rw [en] at this;rw [if_neg (by simp [e2]),this]
    simp
   | true=>
    have e2: ¬(a.drop (8*p)).take 8=(b.drop (8*p)).take 8:=fun h=>by rw [hany.1 h] at e; cases e
    have:=ih (out++[(p:Int)]) (by omega) (by omega) (by simp; omega)
    rw [en] at this;rw [if_pos (by simp [e2]),if_pos (by simp; omega),this]
    simp
  ·have hb: ¬(p:Int)< (N:Int):=by omega
   have ek:N-p=0:=by omega
   rw [if_neg hb,ek,QaO,List.append_nil]
theorem QoS (x y:Int):F_fu ([x,y],())=some ((if x≠0 then x else y,()),()):=by
 have key:L_fu_2 (([x,y],2,0,()),(),())=some (if x≠0 then .inr (.inl ((x,()),(),())) else if y≠0 then .inr (.inl ((y,()),(),())) else .inl ((),(),())):=by
  have e:lots=(18446744073709551613+1)+1+1:=rfl;show Qc l_fu_2 lots _=_;rw [e];generalize 18446744073709551613=n;have w1:IntKind.i64.wrap ((0:Int)+1)=1:=Qw (by omega) (by omega)
  have w2:IntKind.i64.wrap ((1:Int)+1)=2:=Qw (by omega) (by omega)
  have s3:Qc l_fu_2 (n+1) (([x,y],2,2,()),(),())=some (.inl ((),(),())):=by
   simp only [Qc];generalize Qc l_fu_2 n=rec;unfold l_fu_2;simp [Qas]
  have s2:Qc l_fu_2 (n+1+1) (([x,y],2,1,()),(),())=some (if y≠0 then .inr (.inl ((y,()),(),())) else .inl ((),(),())):=by
   rw [show Qc l_fu_2 (n+1+1) (([x,y],2,1,()),(),())=l_fu_2 (Qc l_fu_2 (n+1)) (([x,y],2,1,()),(),()) from rfl]
   generalize Qc l_fu_2 (n+1)=rec at s3⊢;unfold l_fu_2;simp only [Qas];rw [if_pos (by decide),if_pos (by decide)]
   show (some y).bind _=_;rw [Obn,w2,s3];by_cases h:y=0
   ·subst h; simp
   ·rw [if_pos (by simp; exact h)]; simp [h]
  rw [show Qc l_fu_2 (n+1+1+1) (([x,y],2,0,()),(),())=l_fu_2 (Qc l_fu_2 (n+1+1)) (([x,y],2,0,()),(),()) from rfl]
  generalize Qc l_fu_2 (n+1+1)=rec at s2⊢;unfold l_fu_2;simp only [Qas];rw [if_pos (by decide),if_pos (by decide)]
  show (some x).bind _=_;rw [Obn,w1,s2];by_cases h:x=0
  ·subst h; simp
  ·rw [if_pos (by simp; exact h)]; simp [h]
 unfold F_fu;simp only;show (L_fu_2 (([x,y],2,0,()),(),())).bind _=_;rw [key,Obn];by_cases h:x=0
 ·subst h;by_cases h2:y=0
  ·subst h2; simp
  ·simp [h2]
 ·simp [h]
def changed (a b:List Int):Int×List Int×Unit:=
 if QA a≠0 then (QA a,[],()) else if QA b≠0 then (QA b,[],()) else if a.length≠b.length then (1,[],()) else (0,QaO a b 0 (a.length / 8),())
theorem QdU {m:List Int} (h:QA m=0):m.length % 8=0∧8≤m.length∧m.length≤192:=by
 unfold QA at h;split at h
 ·assumption
 ·omega
theorem Qjq (a b:List Int) (ha:a.length≤maxLen) (hb:b.length≤maxLen):F_fw (a,b,())=some ((changed a b,()),()):=by
 unfold F_fw changed;rw [QeD a ha,Obn,QeD b hb,Obn,QoS,Obn];simp only [bne_iff_ne];by_cases h1:QA a=0
 ·have n1: ¬QA a≠0:=by simpa using h1
  simp only [if_neg n1];by_cases h2:QA b=0
  ·have n2: ¬QA b≠0:=by simpa using h2
   simp only [if_neg n2];by_cases h3:a.length=b.length
   ·have h3': ¬((a.length:Int)≠(b.length:Int)):=by omega
    have n3: ¬(a.length≠b.length):=by omega
    have hm:=QdU h1;simp only [if_neg h3',if_neg n3];have:=Qfo a b h3 hm.2.2 (a.length / 8) (by omega) lots 0 [] (by rw [QI]; omega) (by omega) (by simp)
    have hd:(a.length:Int).tdiv 8=((a.length / 8:Nat):Int):=rfl;rw [hd,Qw (n:=((a.length / 8:Nat):Int)) (by omega) (by omega)]
    have this:L_fw_8 ((a,b,(),[],((a.length / 8:Nat):Int),0,()),((0,[],()),()),())=some (.inl (((),[]++QaO a b 0 (a.length / 8-0),()),((0,[],()),()),())):=this;rw [this];simp
   ·have h3':((a.length:Int)≠(b.length:Int)):=by omega
    simp only [if_pos h3',if_pos h3]
  ·simp only [if_pos h2]
 ·simp only [if_pos h1]
theorem Qfr {X γ σ:Type} {step:(X→Option γ)→X→Option γ} (emb:Nat→σ→X) (N:Nat) (hN:N< lots) (I:Nat→σ→Prop) (out:Nat→σ→Option γ)
  (h: ∀rec i s,i≤N→I i s→(∀s',i< N→I (i+1) s'→rec (emb (i+1) s')=out (i+1) s')→step rec (emb i s)=out i s):
  ∀i s,i≤N→I i s→Qc step lots (emb i s)=out i s:=by
 have key: ∀n i s,N-i< n→i≤N→I i s→Qc step n (emb i s)=out i s:=by
  intro n
  induction n with
  | zero=>intro i s h; omega
  | succ n ih=>
   intro i s hn hi hI;simp only [Qc];exact h _ i s hi hI fun s' hlt hI'=>ih (i+1) s' (by omega) (by omega) hI'
 intro i s hi hI;exact key lots i s (by omega) hi hI
theorem QaU {n:Nat} (h:n≤9223372036854775807):n< lots:=by rw [QI]; omega
theorem QR {i:Nat} (h:i< 9223372036854775807):IntKind.i64.wrap ((i:Int)+1)=((i+1:Nat):Int):=by rw [Qw (by omega) (by omega)]; rfl
theorem nat0 {i:Nat}:(0:Int)≤(i:Int):=Int.natCast_nonneg i
theorem Qn {α γ:Type} {m:List α} {i:Nat} (h:i< m.length) (K:α→Option γ):(m[((i:Nat):Int).toNat]?).bind K=K m[i]:=by
 rw [Int.toNat_natCast,List.getElem?_eq_getElem h,Obn]
theorem Qbh {α:Type} {m:List α} {i:Nat} (h:i< m.length):m.drop i=m[i]::m.drop (i+1):=List.drop_eq_getElem_cons h
theorem Qce {α:Type} {m:List α} {i:Nat} (h: ¬i< m.length):m.drop i=[]:=List.drop_of_length_le (by omega)
theorem ltN {a b:Nat}:ltI (a:Int) (b:Int)=decide (a< b):=by
 rw [Qas]; by_cases h:a< b
 ·have:(a:Int)< b:=by omega
  simp [h,this]
 ·have: ¬(a:Int)< b:=by omega
  simp [h,this]
theorem QC {a b:Int}:ltI a b=true↔a< b:=by rw [Qas]; simp
theorem Qba {a b:Int}:leI a b=true↔a≤b:=by rw [Qap]; simp
theorem Qbb {a b:Int}:ltI a b=false↔ ¬a< b:=by rw [Qas]; simp
def scan {α β:Type} (f:Nat→α→Option β):Nat→List α→Option β
 | _,[]=>none
 | i,x::r=>match f i x with
  | some c=>some c
  | none=>scan f (i+1) r
theorem Qab {X α γ β:Type} {step:(X→Option γ)→X→Option γ} (emb:Nat→X) (m:List α) (f:Nat→α→Option β) (bad:β→Option γ) (done:Option γ) (hm:m.length≤9223372036854775807)
  (h1: ∀rec i (h:i< m.length),step rec (emb i)=match f i m[i] with | some c=>bad c | none=>rec (emb (i+1)))
  (h2: ∀rec,step rec (emb m.length)=done):Qc step lots (emb 0)=match scan f 0 m with | some c=>bad c | none=>done:=by
 have key:=Qfr (step:=step) (fun i (_:Unit)=>emb i) m.length (QaU hm) (fun _ _=>True) (fun i _=>match scan f i (m.drop i) with | some c=>bad c | none=>done) ?_ 0 () (by omega) trivial
 ·simpa using key
 ·intro rec i _ hi _ ih;by_cases hlt:i< m.length
  ·rw [h1 rec i hlt,Qbh hlt];simp only [scan];cases hf:f i m[i] with
   | some c=>rfl
   | none=>exact ih () hlt trivial
  ·have:i=m.length:=by omega
   subst this;rw [h2,List.drop_length];rfl
theorem Qeo {α β:Type} {f:Nat→α→Option β} {p:α→Bool}: ∀{m:List α} {i:Nat},(∀j (h:j< m.length),(f (i+j) m[j]).isSome=p m[j])→(scan f i m).isSome=m.any p
 | [],_,_=>rfl
 | x::r,i,h=>by
  have h0:=h 0 (by simp)
  simp only [Nat.add_zero,List.getElem_cons_zero] at h0
  have:=Qeo (f:=f) (p:=p) (m:=r) (i:=i+1) fun j hj=>by
   have:=h (j+1) (by simpa using hj)
   simpa [Nat.add_assoc,Nat.add_comm,Nat.add_left_comm] using this
  simp only [scan,List.any_cons, ←h0, ←this];cases f i x <;> rfl
theorem lt_t {i n:Nat} (h:i< n):ltI (i:Int) (n:Int)=true:=by rw [ltN]; simpa using h
theorem lt_f {i n:Nat} (h: ¬i< n): ¬ltI (i:Int) (n:Int)=true:=by rw [ltN]; simpa using h
theorem QaD {n:Nat}: ¬ltI (n:Int) (n:Int)=true:=lt_f (Nat.lt_irrefl n)
theorem lt1 {α:Type} {i:Nat} {m:List α} (h:i< m.length) (hm:m.length≤1048576):i< 9223372036854775807:=by omega
theorem Qwd {X γ:Type} (step:(X→Option γ)→X→Option γ) (n:Nat) (x:X):Qc step (n+1) x=step (Qc step n) x:=rfl
theorem QwD:lots=18446744073709551613+1+1+1:=rfl
abbrev QN:=Int×Int×Int×Int×Int×Unit
abbrev TwoD:=Int×Int×Unit
abbrev PolD:=List (List Int)×List QN×List TwoD×List TwoD×Unit
def Qfy (n:Nat) (p:PolD):Prop:=(p.1.length≤n∧ ∀l∈p.1,l.length≤n)∧p.2.1.length≤n∧p.2.2.1.length≤n∧p.2.2.2.1.length≤n
theorem Qby {n:Nat} (h:n≤1048576):n≤9223372036854775807:=by omega
theorem Qdc {α β:Type} {f:Nat→α→Option β} {P:β→Prop}: ∀{m:List α} {i:Nat},(∀j (h:j< m.length) c,f (i+j) m[j]=some c→P c)→ ∀c,scan f i m=some c→P c
 | [],_,_,c,h=>by simp [scan] at h
 | x::r,i,h,c,hc=>by
  have h0:=h 0 (by simp)
  simp only [Nat.add_zero,List.getElem_cons_zero] at h0;simp only [scan] at hc;split at hc
  ·rename_i d hd;obtain rfl:=Osj hc;exact h0 _ hd
  ·exact Qdc (m:=r) (i:=i+1) (fun j hj c' hc'=>h (j+1) (by simpa using hj) c' (by simpa [Nat.add_assoc,Nat.add_comm,Nat.add_left_comm] using hc')) c hc
theorem QnL (m:List Int) (v:Int) (hm:m.length≤1048576):F_f (m,v,())=some ((m.contains v,()),()):=by
 have key:=Qab (step:=l_f_2) (γ:=denO o_f_2) (fun i=>((m,v,((i:Nat):Int),()),(),())) m (fun _ y=>if (y==v)=true then some () else none) (fun _=>some (.inr (.inl ((true,()),(),())))) (some (.inl ((),(),()))) (Qby hm) ?_ ?_
 ·unfold F_f;show (Qc l_f_2 lots ((m,v,((0:Nat):Int),()),(),())).bind _=_;rw [key];have:=Qeo (f:=fun (_:Nat) y=>if (y==v)=true then some () else none) (p:=fun y=>y==v) (m:=m) (i:=0) (fun j hj=>by cases m[j]==v <;> rfl)
  have e:m.any (fun y=>y==v)=m.contains v:=by
   rw [Bool.eq_iff_iff,List.any_eq_true,List.contains_iff_mem];exact ⟨fun ⟨y,hy,e⟩=>by rw [←beq_iff_eq.1 e]; exact hy,fun h=>⟨v,h,by simp⟩⟩
  rw [e] at this;rw [←this];cases scan (fun (_:Nat) y=>if (y==v)=true then some () else none) 0 m <;> rfl
 ·intro rec i h;unfold l_f_2;dsimp only;rw [if_pos (lt_t h),if_pos nat0,Qn h,QR (lt1 h hm)];cases m[i]==v <;> rfl
 ·intro rec;unfold l_f_2;dsimp only;rw [if_neg QaD]
def isG (p:PolD) (g:Int):Bool:=decide (g≥0) && decide (g≤(p.1.length:Int)-1)
theorem QgF (p:PolD) (g:Int) (h:p.1.length≤1048576):F_h (p,g,())=some ((isG p g,()),()):=by
 unfold F_h isG;dsimp only;rw [Qw (by omega) (by omega),Qcj,Obn]
theorem Qdq (p:PolD) (g:Int) (h:p.1.length≤1048576):F_cd (p,g,())=some ((isG p g,()),()):=by
 unfold F_cd isG;dsimp only;rw [Qw (by omega) (by omega),Qbo,Obn]
def QcF (p:PolD) (a b:Int):Int:=if isG p a=true then (if isG p b=true then (if a=b then 1 else 0) else 4) else 4
theorem Qqq (p:PolD) (a b:Int) (h:p.1.length≤1048576):F_i (p,a,b,())=some ((QcF p a b,()),()):=by
 unfold F_i QcF;rw [QgF p a h,QgF p b h];simp only [Obn];cases isG p a <;> cases isG p b <;> by_cases e:a=b <;> simp [e]
theorem Qqy (p:PolD) (a b:Int) (h:p.1.length≤1048576):F_ce (p,a,b,())=some ((QcF p a b,()),()):=by
 unfold F_ce QcF;rw [Qdq p a h,Qdq p b h];simp only [Obn];cases isG p a <;> cases isG p b <;> by_cases e:a=b <;> simp [e]
def QiK:Option Int→Int
 | some c=>c
 | none=> -1
def Qfv (own:List (List Int)) (page:Int):Int:=QiK (scan (fun i (l:List Int)=>if l.contains page=true then some ((i:Nat):Int) else none) 0 own)
theorem QtT (p:PolD) (page:Int) (h:p.1.length≤1048576) (h2: ∀l∈p.1,l.length≤1048576):F_j (p,page,())=some ((Qfv p.1 page,()),()):=by
 have key:=Qab (step:=l_j_2) (γ:=denO o_j_2) (fun i=>((p,page,((i:Nat):Int),()),(),())) p.1 (fun i (l:List Int)=>if l.contains page=true then some ((i:Nat):Int) else none)
  (fun c=>some (.inr (.inl ((c,()),(),())))) (some (.inl ((),(),()))) (Qby h) ?_ ?_
 ·unfold F_j Qfv;show (Qc l_j_2 lots ((p,page,((0:Nat):Int),()),(),())).bind _=_;rw [key];cases scan (fun i (l:List Int)=>if l.contains page=true then some ((i:Nat):Int) else none) 0 p.1 <;> rfl
 ·intro rec i hi;unfold l_j_2;dsimp only;rw [if_pos (lt_t hi),if_pos nat0,Qn hi,QR (lt1 hi h),QnL _ _ (h2 _ (List.getElem_mem hi)),Obn];dsimp only;cases (p.1[i]).contains page <;> rfl
 ·intro rec;unfold l_j_2;dsimp only;rw [if_neg QaD]
theorem Qvn {α:Type} {P:Nat→α→Bool} {m:List α} {c:Int} (h:scan (fun i y=>if P i y=true then some ((i:Nat):Int) else none) 0 m=some c):0≤c:=by
 refine Qdc (P:=fun c=>0≤c) ?_ c h
 intro j hj c hc;split at hc
 ·obtain rfl:=Osj hc; omega
 ·cases hc
theorem Qfc {α:Type} {P:α→Bool} {m:List α} {f:Nat→α→Option Int} (hf: ∀i y,f i y=if P y=true then some ((i:Nat):Int) else none):leI 0 (QiK (scan f 0 m))=m.any P:=by
 have e:f=fun i y=>if P y=true then some ((i:Nat):Int) else none:=by funext i y; exact hf i y
 subst e;have h1:=Qeo (f:=fun i y=>if P y=true then some ((i:Nat):Int) else none) (p:=P) (m:=m) (i:=0) (fun j hj=>by cases P m[j] <;> rfl)
 rw [←h1,Qap];cases hs:scan (fun i y=>if P y=true then some ((i:Nat):Int) else none) 0 m with
 | none=>rfl
 | some c=>have:=Qvn (P:=fun _ y=>P y) hs; simp [QiK,this]
theorem Qtr (m:List Int) (v:Int) (hm:m.length≤1048576):F_cf (m,v,())=some ((QiK (scan (fun i y=>if (v==y)=true then some ((i:Nat):Int) else none) 0 m),()),()):=by
 have key:=Qab (step:=l_cf_2) (γ:=denO o_j_2) (fun i=>((m,v,((m.length:Nat):Int),((i:Nat):Int),()),(),())) m (fun i y=>if (v==y)=true then some ((i:Nat):Int) else none)
  (fun c=>some (.inr (.inl ((c,()),(),())))) (some (.inl ((),(),()))) (Qby hm) ?_ ?_
 ·unfold F_cf;show (Qc l_cf_2 lots ((m,v,((m.length:Nat):Int),((0:Nat):Int),()),(),())).bind _=_;rw [key];cases scan (fun i y=>if (v==y)=true then some ((i:Nat):Int) else none) 0 m <;> rfl
 ·intro rec i hi;unfold l_cf_2;dsimp only;rw [if_pos (lt_t hi),if_pos nat0,Qn hi,QR (lt1 hi hm)];cases v==m[i] <;> rfl
 ·intro rec;unfold l_cf_2;dsimp only;rw [if_neg QaD]
theorem Qmb (m:List Int) (v:Int):m.any (fun y=>v==y)=m.contains v:=by
 rw [Bool.eq_iff_iff,List.any_eq_true,List.contains_iff_mem];exact ⟨fun ⟨y,hy,e⟩=>by rw [beq_iff_eq.1 e]; exact hy,fun h=>⟨v,h,by simp⟩⟩
theorem Qnj (m:List Int) (v:Int) (hm:m.length≤1048576):F_cg (m,v,())=some ((m.contains v,()),()):=by
 unfold F_cg;rw [Qtr m v hm,Obn];dsimp only;rw [Qfc (P:=fun y=>v==y) (fun _ _=>rfl),Qmb]
theorem Qml (p:PolD) (page:Int) (h:p.1.length≤1048576) (h2: ∀l∈p.1,l.length≤1048576):F_ch (p,page,())=some ((Qfv p.1 page,()),()):=by
 have key:=Qab (step:=l_cj_2) (γ:=denO o_j_2) (fun i=>((p.1,(page,()),((p.1.length:Nat):Int),((i:Nat):Int),()),(),())) p.1
  (fun i (l:List Int)=>if l.contains page=true then some ((i:Nat):Int) else none) (fun c=>some (.inr (.inl ((c,()),(),())))) (some (.inl ((),(),()))) (Qby h) ?_ ?_
 ·unfold F_ch Qfv F_ci_1;show ((Qc l_cj_2 lots ((p.1,(page,()),((p.1.length:Nat):Int),((0:Nat):Int),()),(),())).bind _).bind _=_;rw [key];cases scan (fun i (l:List Int)=>if l.contains page=true then some ((i:Nat):Int) else none) 0 p.1 <;> rfl
 ·intro rec i hi;unfold l_cj_2;dsimp only;rw [if_pos (lt_t hi),if_pos nat0,Qn hi,QR (lt1 hi h)];unfold F_ch_1;rw [Qnj _ _ (h2 _ (List.getElem_mem hi)),Obn,Obn];dsimp only;cases (p.1[i]).contains page <;> rfl
 ·intro rec;unfold l_cj_2;dsimp only;rw [if_neg QaD]
def Qbx (l:QN) (g page:Int):Bool:=(l.1==g && l.2.2.2.1==page) || (l.2.1==g && l.2.2.2.2.1==page)
theorem Qqw (l:QN) (g page:Int):F_k (l,g,page,())=some ((Qbx l g page,()),()):=by
 unfold F_k Qbx;cases l.1==g <;> cases l.2.2.2.1==page <;> cases l.2.1==g <;> rfl
theorem QqQ (l:QN) (g page:Int):F_ck (l,g,page,())=some ((Qbx l g page,()),()):=by
 unfold F_ck Qbx;cases l.1==g <;> cases l.2.2.2.1==page <;> cases l.2.1==g <;> rfl
def clash (l o:QN):Bool:=o.2.2.1==l.2.2.1 || (Qbx o l.1 l.2.2.2.1 || Qbx o l.2.1 l.2.2.2.2.1)
def inB (n a b:Int):Bool:=decide (n≥a) && decide (n≤b)
theorem QaH (n a b:Int):F_cb (n,a,b,())=some ((inB n a b,()),()):=Qbo n a b
theorem QaR (n a b:Int):F_e (n,a,b,())=some ((inB n a b,()),()):=Qcj n a b
def Qeg (p:PolD) (l:QN) (ahead:List QN):Int:=
 if QcF p l.1 l.2.1≠0 then QcF p l.1 l.2.1
 else if inB l.2.2.1 0 23=true∧inB l.2.2.2.1 5 6=true∧inB l.2.2.2.2.1 5 6=true then
  (if leI 0 (Qfv p.1 l.2.2.1)=true then 6 else if ahead.any (clash l)=true then 6 else 0) else 3
theorem Qty (l o:QN):F_cl_1 (o,l,())=some ((clash l o,()),()):=by
 unfold F_cl_1 clash;dsimp only;rw [QqQ,QqQ];simp only [Obn];cases o.2.2.1==l.2.2.1 <;> cases Qbx o l.1 l.2.2.2.1 <;> rfl
theorem QnM (l:QN) (m:List QN) (hm:m.length≤1048576):F_co_1 (m,(l,()),())=some ((m.any (clash l),()),()):=by
 have key:=Qab (step:=l_cn_2) (γ:=denO o_j_2) (fun i=>((m,(l,()),((m.length:Nat):Int),((i:Nat):Int),()),(),())) m
  (fun i o=>if clash l o=true then some ((i:Nat):Int) else none) (fun c=>some (.inr (.inl ((c,()),(),())))) (some (.inl ((),(),()))) (Qby hm) ?_ ?_
 ·unfold F_co_1 F_cm_1;show ((Qc l_cn_2 lots ((m,(l,()),((m.length:Nat):Int),((0:Nat):Int),()),(),())).bind _).bind _=_;rw [key, ←Qfc (P:=clash l) (m:=m) (f:=fun i o=>if clash l o=true then some ((i:Nat):Int) else none) (fun _ _=>rfl)]
  cases scan (fun i o=>if clash l o=true then some ((i:Nat):Int) else none) 0 m <;> rfl
 ·intro rec i hi;unfold l_cn_2;dsimp only;rw [if_pos (lt_t hi),if_pos nat0,Qn hi,QR (lt1 hi hm),Qty,Obn];dsimp only;cases clash l m[i] <;> rfl
 ·intro rec;unfold l_cn_2;dsimp only;rw [if_neg QaD]
theorem Qmq (p:PolD) (l:QN) (ahead:List QN) (h:p.1.length≤1048576) (h2: ∀l∈p.1,l.length≤1048576) (hm:ahead.length≤1048576):F_cl (p,l,ahead,())=some ((Qeg p l ahead,()),()):=by
 unfold F_cl Qeg;dsimp only;rw [Qqy p _ _ h,QaH,QaH,QaH,Qml p _ h h2,QnM l ahead hm];simp only [Obn];by_cases h0:QcF p l.1 l.2.1=0
 ·rw [h0];cases b1:inB l.2.2.1 0 23 <;> cases b2:inB l.2.2.2.1 5 6 <;> cases b3:inB l.2.2.2.2.1 5 6 <;> cases b4:leI 0 (Qfv p.1 l.2.2.1) <;> cases b5:ahead.any (clash l) <;> simp
 ·simp [h0]
def nz (c:Int):Option Int:=if c≠0 then some c else none
def QbL (p:PolD):Option Int:=scan (fun i l=>nz (Qeg p l (p.2.1.take i))) 0 p.2.1
theorem QmD (p:PolD) (i:Nat) (hi:i< p.2.1.length) (hm:p.2.1.length≤1048576) (l:QN) (a1:Int) (a2 a3:Bool) (a4:Int) (a5 a6:Bool):
  (((p.2.1.take i).any (clash l)=true∧Qc l_l_15 lots ((p,(i:Int),(),0,(),a1,a2,a3,(),a4,a5,a6,()),((l.1,l.2.1,l.2.2.1,l.2.2.2.1,l.2.2.2.2.1,()),()),())=some (.inr (.inl ((6,()),(),()))))∨
   ((p.2.1.take i).any (clash l)=false∧ ∃x,Qc l_l_15 lots ((p,(i:Int),(),0,(),a1,a2,a3,(),a4,a5,a6,()),((l.1,l.2.1,l.2.2.1,l.2.2.2.1,l.2.2.2.2.1,()),()),())=some (.inl x)∧x.1.1=p∧x.1.2.1=(i:Int))):=by
 have hl:(p.2.1.take i).length=i:=by simp; omega
 obtain ⟨x,hx,hx1,hx2⟩: ∃x,(∀rec,l_l_15 rec ((p,(i:Int),(),(i:Int),(),a1,a2,a3,(),a4,a5,a6,()),((l.1,l.2.1,l.2.2.1,l.2.2.2.1,l.2.2.2.2.1,()),()),())=some (.inl x))∧x.1.1=p∧x.1.2.1=(i:Int):=by
  refine ⟨((p,(i:Int),(),a1,a2,a3,(),a4,a5,a6,()),((l.1,l.2.1,l.2.2.1,l.2.2.2.1,l.2.2.2.2.1,()),()),()),fun rec=>?_,rfl,rfl⟩
  unfold l_l_15;dsimp only;rw [if_neg QaD]
 have key:=Qab (step:=l_l_15) (γ:=denO o_l_15) (fun k=>((p,(i:Int),(),((k:Nat):Int),(),a1,a2,a3,(),a4,a5,a6,()),((l.1,l.2.1,l.2.2.1,l.2.2.2.1,l.2.2.2.2.1,()),()),())) (p.2.1.take i)
  (fun _ o=>if clash l o=true then some () else none) (fun _=>some (.inr (.inl ((6,()),(),())))) (some (.inl x)) (Qby (by omega)) ?_ ?_
 ·have h1:=Qeo (f:=fun (_:Nat) o=>if clash l o=true then some () else none) (p:=clash l) (m:=p.2.1.take i) (i:=0) (fun j hj=>by cases clash l (p.2.1.take i)[j] <;> rfl)
  have e0:((0:Nat):Int)=0:=rfl;rw [e0] at key;rw [key, ←h1];cases scan (fun (_:Nat) o=>if clash l o=true then some () else none) 0 (p.2.1.take i) with
  | some c=>exact .inl ⟨rfl,rfl⟩
  | none=>exact .inr ⟨rfl,x,rfl,hx1,hx2⟩
 ·intro rec k hk;have hk':k< i:=by omega
  unfold l_l_15;dsimp only;rw [if_pos (lt_t hk'),if_pos nat0,Qn (by omega),QR (by omega),Qqw,Qqw,List.getElem_take]
  simp only [Obn,clash];rcases Bool.eq_false_or_eq_true ((p.2.1[k]).2.2.1==l.2.2.1) with c1 | c1 <;> rcases Bool.eq_false_or_eq_true (Qbx p.2.1[k] l.1 l.2.2.2.1) with c2 | c2 <;> rcases Bool.eq_false_or_eq_true (Qbx p.2.1[k] l.2.1 l.2.2.2.2.1) with c3 | c3 <;> simp [c1,c2,c3]
 ·intro rec;rw [hl];exact hx rec
theorem Qhu (p:PolD) (h:p.1.length≤1048576) (h2: ∀l∈p.1,l.length≤1048576) (hm:p.2.1.length≤1048576):
  F_l (p,())=some ((if p.2.1.length≤4∧p.2.2.1.length≤4 then (match QbL p with | some c=>c | none=>0) else 2,()),()):=by
 have key:=Qab (step:=l_l_4) (γ:=denO o_l_4) (fun i=>((p,((i:Nat):Int),()),(),())) p.2.1 (fun i l=>nz (Qeg p l (p.2.1.take i)))
  (fun c=>some (.inr (.inl ((c,()),(),())))) (some (.inl ((),(),()))) (Qby hm) ?_ ?_
 ·have e0:((0:Nat):Int)=0:=rfl;rw [e0] at key;unfold F_l QbL;dsimp only;by_cases h1:p.2.1.length≤4
  ·rw [if_pos (by rw [Qbb]; omega)]
   by_cases h3:p.2.2.1.length≤4
   ·rw [if_neg (by rw [QC]; omega),if_pos ⟨h1,h3⟩]
    show (Qc l_l_4 lots ((p,0,()),(),())).bind _=_;rw [key];cases scan (fun i l=>nz (Qeg p l (p.2.1.take i))) 0 p.2.1 <;> rfl
   ·rw [if_pos (by rw [QC]; omega),if_neg (by omega)]
  ·rw [if_neg (by rw [Qbb]; omega),if_neg (by omega)]
 ·intro rec i hi;unfold l_l_4;dsimp only;rw [if_pos (lt_t hi),if_pos nat0,Qn hi,Qqq p _ _ h,QaR,QaR,QaR,QtT p _ h h2];simp only [Obn];generalize p.2.1[i]=l;unfold Qeg;by_cases h0:QcF p l.1 l.2.1=0
  ·rw [h0];cases b1:inB l.2.2.1 0 23
   ·simp [nz]
   cases b2:inB l.2.2.2.1 5 6
   ·simp [nz]
   cases b3:inB l.2.2.2.2.1 5 6
   ·simp [nz]
   cases b4:leI 0 (Qfv p.1 l.2.2.1)
   ·rw [if_neg (by simp),if_pos (by simp),if_pos (by simp),if_neg (by simp),if_neg (by simp),if_neg (by simp),if_pos (by simp),if_neg (by simp)]
    rcases QmD p i hi hm l l.2.2.2.1 true (!true) l.2.2.2.2.1 true (!true) with ⟨g1,g2⟩ | ⟨g1,x,g2,g3,g4⟩
    ·show (Qc l_l_15 lots ((p,(i:Int),(),0,(),l.2.2.2.1,true,(!true),(),l.2.2.2.2.1,true,(!true),()),((l.1,l.2.1,l.2.2.1,l.2.2.2.1,l.2.2.2.2.1,()),()),())).bind _=_;rw [g1,g2];rfl
    ·show (Qc l_l_15 lots ((p,(i:Int),(),0,(),l.2.2.2.1,true,(!true),(),l.2.2.2.2.1,true,(!true),()),((l.1,l.2.1,l.2.2.1,l.2.2.2.1,l.2.2.2.2.1,()),()),())).bind _=_;rw [g1,g2,Obn];dsimp only;rw [g3,g4,QR (lt1 hi hm)];rfl
   ·simp [nz]
  ·simp [h0,nz]
 ·intro rec;unfold l_l_4;dsimp only;rw [if_neg QaD]
def Qao (b o:TwoD):Bool:=(b.1==o.1) && ((b.2.1==o.2.1) && true)
def Qfa (p:PolD) (b:TwoD) (ahead:List TwoD):Int:=if QcF p b.1 b.2.1≠0 then QcF p b.1 b.2.1 else if ahead.any (Qao b)=true then 6 else 0
def QdR (p:PolD):Option Int:=scan (fun i b=>nz (Qfa p b (p.2.2.1.take i))) 0 p.2.2.1
def Qiu (p:PolD):Int:=if 1≤p.2.2.2.1.length∧p.2.2.2.1.length≤8 then
 (match scan (fun (_:Nat) (s:TwoD)=>if isG p s.1=true then (if inB s.2.1 1 50=true then none else some (3:Int)) else some 4) 0 p.2.2.2.1 with | some c=>c | none=>0) else 2
theorem QpD (b o:TwoD):Qao b o=Qao o b:=by
 unfold Qao;rw [Bool.eq_iff_iff];simp;constructor <;> rintro ⟨h1,h2⟩ <;> exact ⟨h1.symm,h2.symm⟩
theorem Qif (b:TwoD) (m:List TwoD) (hm:m.length≤1048576):F_cq (m,b,())=some ((m.any (Qao b),()),()):=by
 have key:=Qab (step:=l_cp_2) (γ:=denO o_j_2) (fun i=>((m,(),((m.length:Nat):Int),((i:Nat):Int),()),((b.1,b.2.1,()),()),())) m
  (fun i o=>if Qao b o=true then some ((i:Nat):Int) else none) (fun c=>some (.inr (.inl ((c,()),(),())))) (some (.inl ((),(),()))) (Qby hm) ?_ ?_
 ·unfold F_cq F_cp;show ((Qc l_cp_2 lots ((m,(),((m.length:Nat):Int),((0:Nat):Int),()),((b.1,b.2.1,()),()),())).bind _).bind _=_;rw [key, ←Qfc (P:=Qao b) (m:=m) (f:=fun i o=>if Qao b o=true then some ((i:Nat):Int) else none) (fun _ _=>rfl)]
  cases scan (fun i o=>if Qao b o=true then some ((i:Nat):Int) else none) 0 m <;> rfl
 ·intro rec i hi;unfold l_cp_2;dsimp only;rw [if_pos (lt_t hi),if_pos nat0,Qn hi,QR (lt1 hi hm)];show (if Qao b m[i]=true then _ else _)=_
  cases Qao b m[i] <;> rfl
 ·intro rec;unfold l_cp_2;dsimp only;rw [if_neg QaD]
theorem Qme (p:PolD) (b:TwoD) (ahead:List TwoD) (h:p.1.length≤1048576) (hm:ahead.length≤1048576):F_cr (p,b,ahead,())=some ((Qfa p b ahead,()),()):=by
 unfold F_cr Qfa;dsimp only;rw [Qqy p _ _ h,Qif b ahead hm];simp only [Obn];by_cases h0:QcF p b.1 b.2.1=0
 ·rw [h0];cases ahead.any (Qao b) <;> simp
 ·simp [h0]
theorem QhX (p:PolD) (i:Nat) (hi:i< p.2.2.1.length) (hm:p.2.2.1.length≤1048576) (b:TwoD):
  Qc l_w_9 lots ((p,(i:Int),(),0,()),((b.1,b.2.1,()),()),())=if (p.2.2.1.take i).any (Qao b)=true then some (.inr (.inl ((6,()),(),()))) else some (.inl ((p,(i:Int),()),(),())):=by
 have hl:(p.2.2.1.take i).length=i:=by simp; omega
 have key:=Qab (step:=l_w_9) (γ:=denO o_w_9) (fun k=>((p,(i:Int),(),((k:Nat):Int),()),((b.1,b.2.1,()),()),())) (p.2.2.1.take i)
  (fun _ o=>if Qao b o=true then some () else none) (fun _=>some (.inr (.inl ((6,()),(),())))) (some (.inl ((p,(i:Int),()),(),()))) (Qby (by omega)) ?_ ?_
 ·have h1:=Qeo (f:=fun (_:Nat) o=>if Qao b o=true then some () else none) (p:=Qao b) (m:=p.2.2.1.take i) (i:=0) (fun j hj=>by cases Qao b (p.2.2.1.take i)[j] <;> rfl)
  have e0:((0:Nat):Int)=0:=rfl;rw [e0] at key;rw [key, ←h1];cases scan (fun (_:Nat) o=>if Qao b o=true then some () else none) 0 (p.2.2.1.take i) <;> rfl
 ·intro rec k hk;have hk':k< i:=by omega
  unfold l_w_9;dsimp only;rw [if_pos (lt_t hk'),if_pos nat0,Qn (by omega),QR (by omega),List.getElem_take]
  show (if Qao p.2.2.1[k] b=true then _ else _)=_
  rw [QpD];cases Qao b p.2.2.1[k] <;> rfl
 ·intro rec;unfold l_w_9;dsimp only;rw [hl,if_neg QaD]
theorem Qkx (p:PolD) (h:p.1.length≤1048576) (hm:p.2.2.2.1.length≤1048576):
  Qc l_w_16 lots ((p,0,()),(),())=match scan (fun (_:Nat) (s:TwoD)=>if isG p s.1=true then (if inB s.2.1 1 50=true then none else some (3:Int)) else some 4) 0 p.2.2.2.1 with
   | some c=>some (.inr (.inl ((c,()),(),()))) | none=>some (.inl ((),(),())):=by
 have key:=Qab (step:=l_w_16) (γ:=denO o_g_15) (fun i=>((p,((i:Nat):Int),()),(),())) p.2.2.2.1 (fun (_:Nat) (s:TwoD)=>if isG p s.1=true then (if inB s.2.1 1 50=true then none else some (3:Int)) else some 4) (fun c=>some (.inr (.inl ((c,()),(),())))) (some (.inl ((),(),()))) (Qby hm) ?_ ?_
 ·have e0:((0:Nat):Int)=0:=rfl;rw [e0] at key;rw [key];cases scan (fun (_:Nat) (s:TwoD)=>if isG p s.1=true then (if inB s.2.1 1 50=true then none else some (3:Int)) else some 4) 0 p.2.2.2.1 <;> rfl
 ·intro rec i hi;unfold l_w_16;dsimp only;rw [if_pos (lt_t hi),if_pos nat0,Qn hi,QgF p _ h,Obn];cases b1:isG p (p.2.2.2.1[i]).1
  ·simp
  ·rw [if_neg (by simp),if_pos nat0,Qn hi,QaR,Obn]
   cases b2:inB (p.2.2.2.1[i]).2.1 1 50
   ·simp
   ·rw [if_neg (by simp),QR (lt1 hi hm)]; simp
 ·intro rec;unfold l_w_16;dsimp only;rw [if_neg QaD]
theorem Qon (p:PolD) (h:p.1.length≤1048576) (h3:p.2.2.1.length≤1048576) (h4:p.2.2.2.1.length≤1048576):
  F_w (p,())=some ((match QdR p with | some c=>c | none=>Qiu p,()),()):=by
 have key:=Qab (step:=l_w_2) (γ:=denO o_g_4) (fun i=>((p,((i:Nat):Int),()),(),())) p.2.2.1 (fun i b=>nz (Qfa p b (p.2.2.1.take i)))
  (fun c=>some (.inr (.inl ((c,()),(),())))) (some (.inl ((p,()),(),()))) (Qby h3) ?_ ?_
 ·have e0:((0:Nat):Int)=0:=rfl;rw [e0] at key;unfold F_w QdR;show (Qc l_w_2 lots ((p,0,()),(),())).bind _=_;rw [key];cases scan (fun i b=>nz (Qfa p b (p.2.2.1.take i))) 0 p.2.2.1 with
  | some c=>rfl
  | none=>
   rw [Obn];dsimp only;unfold Qiu;by_cases g1:1≤p.2.2.2.1.length
   ·rw [if_pos (by rw [Qbb]; omega)]
    by_cases g2:p.2.2.2.1.length≤8
    ·rw [if_neg (by rw [QC]; omega),if_pos ⟨g1,g2⟩]
     show (Qc l_w_16 lots ((p,0,()),(),())).bind _=_;rw [Qkx p h h4];cases scan (fun (_:Nat) (s:TwoD)=>if isG p s.1=true then (if inB s.2.1 1 50=true then none else some (3:Int)) else some 4) 0 p.2.2.2.1 <;> rfl
    ·rw [if_pos (by rw [QC]; omega),if_neg (by omega)]
   ·rw [if_neg (by rw [Qbb]; omega),if_neg (by omega)]
 ·intro rec i hi;unfold l_w_2;dsimp only;rw [if_pos (lt_t hi),if_pos nat0,Qn hi,Qqq p _ _ h,Obn];generalize p.2.2.1[i]=b;unfold Qfa;by_cases h0:QcF p b.1 b.2.1=0
  ·rw [h0,if_neg (by simp)]
   show (Qc l_w_9 lots ((p,(i:Int),(),0,()),((b.1,b.2.1,()),()),())).bind _=_;rw [QhX p i hi h3 b];cases (p.2.2.1.take i).any (Qao b)
   ·rw [if_neg (by simp),Obn]
    dsimp only;rw [QR (lt1 hi h3)];rfl
   ·rfl
  ·simp [h0,nz]
 ·intro rec;unfold l_w_2;dsimp only;rw [if_neg QaD]
theorem Qnz (p:PolD) (h:p.1.length≤1048576) (hm:p.2.2.2.1.length≤1048576):F_cs (p,())=some ((Qiu p,()),()):=by
 have key:=Qab (step:=l_cs_4) (γ:=denO o_l_4) (fun i=>((p,p.2.2.2.1,((p.2.2.2.1.length:Nat):Int),((i:Nat):Int),()),(),())) p.2.2.2.1
  (fun (_:Nat) (s:TwoD)=>if isG p s.1=true then (if inB s.2.1 1 50=true then none else some (3:Int)) else some 4) (fun c=>some (.inr (.inl ((c,()),(),())))) (some (.inl ((),(),()))) (Qby hm) ?_ ?_
 ·have e0:((0:Nat):Int)=0:=rfl;rw [e0] at key;unfold F_cs Qiu;dsimp only;rw [QaH,Obn];by_cases g:1≤p.2.2.2.1.length∧p.2.2.2.1.length≤8
  ·have:inB ((p.2.2.2.1.length:Nat):Int) 1 8=true:=by unfold inB; simp; omega
   rw [this,if_neg (by simp),if_pos g]
   show (Qc l_cs_4 lots ((p,p.2.2.2.1,((p.2.2.2.1.length:Nat):Int),0,()),(),())).bind _=_;rw [key];cases scan (fun (_:Nat) (s:TwoD)=>if isG p s.1=true then (if inB s.2.1 1 50=true then none else some (3:Int)) else some 4) 0 p.2.2.2.1 <;> rfl
  ·have:inB ((p.2.2.2.1.length:Nat):Int) 1 8=false:=by unfold inB; simp; omega
   rw [this,if_pos (by simp),if_neg g]
 ·intro rec i hi;unfold l_cs_4;dsimp only;rw [if_pos (lt_t hi),if_pos nat0,Qn hi,Qdq p _ h,Obn,QaH,Obn,QR (lt1 hi hm)];cases b1:isG p (p.2.2.2.1[i]).1
  ·simp
  ·cases b2:inB (p.2.2.2.1[i]).2.1 1 50 <;> simp
 ·intro rec;unfold l_cs_4;dsimp only;rw [if_neg QaD]
def own1 (l:List Int):Option Int:=if 1≤l.length∧l.length≤5 then scan (fun (_:Nat) x=>if inB x 0 23=true then none else some (3:Int)) 0 l else some 2
def dupM:List Int→List Int→Bool
 | _,[]=>false
 | seen,x::r=>seen.contains x || dupM (seen++[x]) r
def QdQ (own:List (List Int)):Int:=if 1≤own.length∧own.length≤3 then (match scan (fun (_:Nat) l=>own1 l) 0 own with | some c=>c | none=>if dupM [] own.flatten=true then 6 else 0) else 2
theorem Qol {T:Type} (p:PolD) (i:Nat) (hi:i< p.1.length) (hl:(p.1[i]).length≤1048576) (a1 a2:PolD) (b1 b2:List (List Int)) (c:Int) (d1 d2:List Int) (e1:Int) (e2:Bool):
  ((scan (fun (_:Nat) x=>if inB x 0 23=true then none else some (3:Int)) 0 p.1[i]=none∧ ∃x,Qc l_g_9 lots ((p,(i:Int),0,a1,a2,b1,b2,c,d1,d2,e1,e2,()),(),())=some (.inl x)∧x.1.1=p∧x.1.2.1=(i:Int))∨
   (scan (fun (_:Nat) x=>if inB x 0 23=true then none else some (3:Int)) 0 p.1[i]=some 3∧Qc l_g_9 lots ((p,(i:Int),0,a1,a2,b1,b2,c,d1,d2,e1,e2,()),(),())=some (.inr (.inl ((3,()),(),()))))):=by
 have key:=Qab (step:=l_g_9) (γ:=denO o_g_9) (fun k=>((p,(i:Int),((k:Nat):Int),a1,a2,b1,b2,c,d1,d2,e1,e2,()),(),())) p.1[i]
  (fun (_:Nat) x=>if inB x 0 23=true then none else some (3:Int)) (fun c=>some (.inr (.inl ((c,()),(),())))) (some (.inl ((p,(i:Int),a1,a2,b1,b2,c,d1,d2,e1,e2,()),(),()))) (Qby hl) ?_ ?_
 ·have e0:((0:Nat):Int)=0:=rfl;rw [e0] at key;rw [key];cases hs:scan (fun (_:Nat) x=>if inB x 0 23=true then none else some (3:Int)) 0 p.1[i] with
  | none=>exact .inl ⟨rfl,_,rfl,rfl,rfl⟩
  | some c=>
   have:c=3:=Qdc (P:=fun c=>c=3) (fun j hj c hc=>by
    split at hc
    ·cases hc
    ·exact (Osj hc).symm) c hs
   subst this;exact .inr ⟨rfl,rfl⟩
 ·intro rec k hk;unfold l_g_9;dsimp only;rw [if_pos nat0,Qn hi,if_pos (lt_t hk),if_pos nat0,Qn hi,if_pos nat0,Qn hk,QaR,Obn,QR (lt1 hk hl)];cases inB (p.1[i])[k] 0 23 <;> rfl
 ·intro rec;unfold l_g_9;dsimp only;rw [if_pos nat0,Qn hi,if_neg QaD]
theorem Qfe: ∀(l seen r:List Int),dupM seen (l++r)=(dupM seen l || dupM (seen++l) r)
 | [],seen,r=>by simp [dupM]
 | x::l,seen,r=>by
  simp only [List.cons_append,dupM,Qfe l (seen++[x]) r,Bool.or_assoc,List.append_assoc,List.singleton_append,List.nil_append]
theorem Qoo (p:PolD) (seen:List Int) (i:Nat) (hi:i< p.1.length) (hl:(p.1[i]).length≤1048576) (hs:seen.length≤4194304) (hs2:seen.length+(p.1[i]).length≤1048576):
  Qc l_g_18 lots ((p,seen,(i:Int),0,()),(),())=if dupM seen p.1[i]=true then some (.inr (.inl ((6,()),(),()))) else some (.inl ((p,seen++p.1[i],(i:Int),()),(),())):=by
 have key:=Qfr (step:=l_g_18) (γ:=denO o_g_18) (fun k (s:List Int)=>((p,s,(i:Int),((k:Nat):Int),()),(),())) (p.1[i]).length (QaU (Qby hl)) (fun k s=>s=seen++(p.1[i]).take k)
  (fun k s=>if dupM s ((p.1[i]).drop k)=true then some (.inr (.inl ((6,()),(),()))) else some (.inl ((p,seen++p.1[i],(i:Int),()),(),()))) ?_ 0 seen (by omega) (by simp)
 ·exact key
 ·rintro rec k s hk hsk ih;unfold l_g_18;dsimp only;rw [if_pos nat0,Qn hi];by_cases hlt:k< (p.1[i]).length
  ·have hsl:s.length=seen.length+k:=by rw [hsk]; simp; omega
   rw [if_pos (lt_t hlt),if_pos nat0,Qn hi,if_pos nat0,Qn hlt,QnL _ _ (by omega),Obn,Qbh hlt]
   rw [show dupM s ((p.1[i])[k]::(p.1[i]).drop (k+1))=(s.contains (p.1[i])[k] || dupM (s++[(p.1[i])[k]]) ((p.1[i]).drop (k+1))) from rfl]
   by_cases hc:s.contains (p.1[i])[k]=true
   ·rw [if_pos hc,hc];simp
   ·rw [if_neg hc,if_pos nat0,Qn hi,if_pos nat0,Qn hlt,if_pos (by simp; omega),QR (lt1 hlt hl)]
    have hc':s.contains (p.1[i])[k]=false:=by simpa using hc
    rw [hc',Bool.false_or];refine ih _ hlt ?_;rw [hsk,List.append_assoc,List.take_add_one,List.getElem?_eq_getElem hlt];rfl
  ·rw [if_neg (lt_f hlt),Qce hlt];rw [show dupM s []=false from rfl]
   rw [hsk,List.take_of_length_le (by omega)]
   simp
theorem QkW {own:List (List Int)} {i:Nat} (hi:i< own.length):(own.take (i+1)).flatten=(own.take i).flatten++own[i]:=by
 have e:own.take (i+1)=own.take i++[own[i]]:=by rw [List.take_add_one,List.getElem?_eq_getElem hi]; rfl
 rw [e,List.flatten_append];simp
theorem QtS {l:List Int} (h:own1 l=none):l.length≤5:=by
 unfold own1 at h;split at h
 ·rename_i h'; exact h'.2
 ·cases h
theorem QfX {α β:Type} {f:Nat→α→Option β}: ∀{m:List α} {i:Nat},scan f i m=none→ ∀j (h:j< m.length),f (i+j) m[j]=none
 | [],_,_,j,h=>by simp at h
 | x::r,i,hs,j,h=>by
  simp only [scan] at hs;split at hs
  ·cases hs
  ·rename_i h0;cases j with
   | zero=>simpa using h0
   | succ j=>
    have:=QfX hs j (by simpa using h)
    simpa [Nat.add_assoc,Nat.add_comm,Nat.add_left_comm] using this
theorem Qnl {own:List (List Int)} (h: ∀j (hj:j< own.length),(own[j]).length≤5): ∀i,i≤own.length→(own.take i).flatten.length≤5*i
 | 0,_=>by simp
 | i+1,hi=>by
  rw [QkW (by omega),List.length_append]
  have:=Qnl h i (by omega)
  have:=h i (by omega)
  omega
theorem QiB (p:PolD) (h:p.1.length≤1048576) (h2: ∀l∈p.1,l.length≤1048576):F_g (p,())=some ((QdQ p.1,()),()):=by
 unfold F_g QdQ;dsimp only;by_cases g1:1≤p.1.length
 case neg=>rw [if_neg (by rw [Qbb]; omega),if_neg (by omega)]
 rw [if_pos (by rw [Qbb]; omega)]
 by_cases g2:p.1.length≤3
 case neg=>rw [if_pos (by rw [QC]; omega),if_neg (by omega)]
 rw [if_neg (by rw [QC]; omega),if_pos ⟨g1,g2⟩]
 have key:=Qab (step:=l_g_4) (γ:=denO o_g_4) (fun i=>((p,((i:Nat):Int),()),(),())) p.1 (fun (_:Nat) l=>own1 l)
  (fun c=>some (.inr (.inl ((c,()),(),())))) (some (.inl ((p,()),(),()))) (Qby h) ?_ ?_
 ·have e0:((0:Nat):Int)=0:=rfl;rw [e0] at key;show (Qc l_g_4 lots ((p,0,()),(),())).bind _=_;rw [key];cases hs:scan (fun (_:Nat) l=>own1 l) 0 p.1 with
  | some c=>rfl
  | none=>
   rw [Obn];dsimp only;have h5: ∀j (hj:j< p.1.length),(p.1[j]).length≤5:=fun j hj=>QtS (QfX hs j hj)
   have key2:=Qfr (step:=l_g_15) (γ:=denO o_g_15) (fun k (s:List Int)=>((p,s,((k:Nat):Int),()),(),())) p.1.length (QaU (Qby h)) (fun k s=>s=(p.1.take k).flatten)
    (fun k s=>if dupM s ((p.1.drop k).flatten)=true then some (.inr (.inl ((6,()),(),()))) else some (.inl ((),(),()))) ?_ 0 [] (by omega) (by simp)
   ·show (Qc l_g_15 lots ((p,[],0,()),(),())).bind _=_;rw [e0] at key2;rw [key2,List.drop_zero];cases dupM [] p.1.flatten <;> rfl
   ·rintro rec k s hk hsk ih;unfold l_g_15;dsimp only;by_cases hlt:k< p.1.length
    ·have hfl:=Qnl h5 k hk;rw [←hsk] at hfl;have:=h5 k hlt;rw [if_pos (lt_t hlt),Qbh hlt,List.flatten_cons,Qfe];show (Qc l_g_18 lots ((p,s,(k:Int),0,()),(),())).bind _=_;rw [Qoo p s k hlt (by omega) (by omega) (by omega)]
     cases hd:dupM s p.1[k]
     ·rw [if_neg (by simp),Obn]
      dsimp only;rw [QR (lt1 hlt h),Bool.false_or];exact ih _ hlt (by rw [hsk,QkW hlt])
     ·rfl
    ·rw [if_neg (lt_f hlt),Qce hlt];rfl
 ·intro rec i hi;unfold l_g_4;dsimp only;have hl:=h2 _ (List.getElem_mem hi);rw [if_pos (lt_t hi),if_pos nat0,Qn hi];unfold own1;by_cases k1:1≤(p.1[i]).length
  case neg=>rw [if_neg (by rw [Qbb]; omega),if_neg (by omega)]
  rw [if_pos (by rw [Qbb]; omega),if_pos nat0,Qn hi]
  by_cases k2:(p.1[i]).length≤5
  case neg=>rw [if_pos (by rw [QC]; omega),if_neg (by omega)]
  rw [if_neg (by rw [QC]; omega),if_pos ⟨k1,k2⟩]
  rcases Qol (T:=Unit) p i hi hl p p p.1 p.1 (i:Int) p.1[i] p.1[i] (((p.1[i]).length:Nat):Int) (ltI 5 (((p.1[i]).length:Nat):Int)) with ⟨g,x,g3,g4,g5⟩ | ⟨g,g3⟩
  ·show (Qc l_g_9 lots _).bind _=_;rw [g,g3,Obn];dsimp only;rw [g4,g5,QR (lt1 hi h)]
  ·show (Qc l_g_9 lots _).bind _=_;rw [g,g3];rfl
 ·intro rec;unfold l_g_4;dsimp only;rw [if_neg QaD]
theorem Qry (es:List (Int×Bool)) (x y:Int):getM (setM es x true) y=(y==x || getM es y):=by
 induction es with
 | nil=>
  simp only [setM,getM];by_cases e:x=y
  ·subst e; simp
  ·rw [if_neg e]; simp [Ne.symm e]
 | cons a r ih=>
  simp only [setM,getM];by_cases e:a.1=x
  ·rw [if_pos e];simp only [getM];by_cases e2:x=y
   ·subst e2; simp
   ·rw [if_neg e2,if_neg (by rw [e]; exact e2)]; simp [Ne.symm e2]
  ·rw [if_neg e];simp only [getM];by_cases e2:a.1=y
   ·subst e2; rw [if_pos rfl,if_pos rfl]; simp [e]
   ·rw [if_neg e2,if_neg e2,ih]
theorem Qmm {T1 T2 T3:Int} (es:List (Int×Bool)) (t:Bool) (own:List (List Int)) (a b:Int) (l:List Int) (hl:l.length≤1048576) (seen:List Int) (hes: ∀y,getM es y=seen.contains y):
  (∃es',scan (fun (_:Nat) x=>if inB x 0 23=true then none else some (3:Int)) 0 l=none∧(∀y,getM es' y=(seen++l).contains y)∧
   Qc l_cc_10 lots ((es,t,own,a,b,l,((l.length:Nat):Int),0,()),(),())=some (.inl ((es',t || dupM seen l,own,a,b,()),(),())))∨
  (scan (fun (_:Nat) x=>if inB x 0 23=true then none else some (3:Int)) 0 l=some 3∧Qc l_cc_10 lots ((es,t,own,a,b,l,((l.length:Nat):Int),0,()),(),())=some (.inr (.inl ((3,()),(),())))):=by
 have key: ∀n (k:Nat) (es:List (Int×Bool)) (t:Bool) (seen:List Int),l.length-k< n→k≤l.length→(∀y,getM es y=seen.contains y)→
   (∃es',scan (fun (_:Nat) x=>if inB x 0 23=true then none else some (3:Int)) k (l.drop k)=none∧(∀y,getM es' y=(seen++l.drop k).contains y)∧
   Qc l_cc_10 n ((es,t,own,a,b,l,((l.length:Nat):Int),((k:Nat):Int),()),(),())=some (.inl ((es',t || dupM seen (l.drop k),own,a,b,()),(),())))∨
   (scan (fun (_:Nat) x=>if inB x 0 23=true then none else some (3:Int)) k (l.drop k)=some 3∧Qc l_cc_10 n ((es,t,own,a,b,l,((l.length:Nat):Int),((k:Nat):Int),()),(),())=some (.inr (.inl ((3,()),(),())))):=by
  intro n
  induction n with
  | zero=>intro k _ _ _ h; omega
  | succ n ih=>
   intro k es t seen hn hk hes;simp only [Qc];generalize Qc l_cc_10 n=rec at ih⊢;by_cases hlt:k< l.length
   ·have hw:IntKind.i64.wrap ((k:Int)+1)=((k+1:Nat):Int):=QR (lt1 hlt hl);rw [Qbh hlt];simp only [scan,dupM]
    have hes2: ∀y,getM (setM es l[k] true) y=(seen++[l[k]]).contains y:=by
     intro y;rw [Qry,hes];rw [Bool.eq_iff_iff];simp [or_comm]
    cases hb:inB l[k] 0 23
    ·right;refine ⟨by simp,?_⟩
     unfold l_cc_10;dsimp only;rw [if_pos (lt_t hlt),if_pos nat0,Qn hlt,QaH,Obn,hb];rfl
    ·have go:l_cc_10 rec ((es,t,own,a,b,l,((l.length:Nat):Int),((k:Nat):Int),()),(),())=rec ((setM es l[k] true,t || seen.contains l[k],own,a,b,l,((l.length:Nat):Int),((k+1:Nat):Int),()),(),()):=by
      unfold l_cc_10;dsimp only;rw [if_pos (lt_t hlt),if_pos nat0,Qn hlt,QaH,Obn,hb,if_neg (by simp),hw, ←hes]
      cases t <;> rfl
     rw [go];rcases ih (k+1) (setM es l[k] true) (t || seen.contains l[k]) (seen++[l[k]]) (by omega) (by omega) hes2 with ⟨es',g1,g2,g3⟩ | ⟨g1,g2⟩
     ·left;refine ⟨es',by simpa using g1,fun y=>by rw [g2]; simp,?_⟩
      rw [g3,Bool.or_assoc]
     ·right;exact ⟨by simpa using g1,g2⟩
   ·left;rw [Qce hlt];refine ⟨es,rfl,by simpa using hes,?_⟩
    unfold l_cc_10;dsimp only;rw [if_neg (lt_f hlt)];simp [dupM]
 simpa using key lots 0 es t seen (by have:=QaU (Qby hl); omega) (by omega) hes
theorem Qny (p:PolD) (h:p.1.length≤1048576) (h2: ∀l∈p.1,l.length≤1048576):F_cc (p,())=some ((QdQ p.1,()),()):=by
 unfold F_cc QdQ;dsimp only;rw [QaH,Obn];by_cases g:1≤p.1.length∧p.1.length≤3
 case neg=>
  have:inB ((p.1.length:Nat):Int) 1 3=false:=by unfold inB; simp; omega
  rw [this,if_pos (by simp),if_neg g]
 have:inB ((p.1.length:Nat):Int) 1 3=true:=by unfold inB; simp; omega
 rw [this,if_neg (by simp),if_pos g]
 have key: ∀n (k:Nat) (es:List (Int×Bool)) (t:Bool) (seen:List Int),p.1.length-k< n→k≤p.1.length→(∀y,getM es y=seen.contains y)→
   (Qc l_cc_5 n ((es,t,p.1,((p.1.length:Nat):Int),((k:Nat):Int),()),(),())=match scan (fun (_:Nat) l=>own1 l) k (p.1.drop k) with
    | some c=>some (.inr (.inl ((c,()),(),()))) | none=>some (.inl ((t || dupM seen (p.1.drop k).flatten,()),(),()))):=by
  intro n
  induction n with
  | zero=>intro k _ _ _ h; omega
  | succ n ih=>
   intro k es t seen hn hk hes;simp only [Qc];generalize Qc l_cc_5 n=rec at ih⊢;by_cases hlt:k< p.1.length
   ·have hl:=h2 _ (List.getElem_mem hlt);rw [Qbh hlt];simp only [scan,List.flatten_cons,Qfe];unfold l_cc_5 own1;dsimp only;rw [if_pos (lt_t hlt),if_pos nat0,Qn hlt,QaH,Obn];by_cases g1:1≤(p.1[k]).length∧(p.1[k]).length≤5
    ·have:inB (((p.1[k]).length:Nat):Int) 1 5=true:=by unfold inB; simp; omega
     rw [this,if_neg (by simp),if_pos g1]
     rcases Qmm (T1:=0) (T2:=0) (T3:=0) es t p.1 ((p.1.length:Nat):Int) ((k:Nat):Int) p.1[k] hl seen hes with ⟨es',q1,q2,q3⟩ | ⟨q1,q2⟩
     ·show (Qc l_cc_10 lots _).bind _=_;rw [q1,q3,Obn];dsimp only;rw [QR (lt1 hlt h),ih (k+1) es' _ (seen++p.1[k]) (by omega) (by omega) q2,Bool.or_assoc]
      rfl
     ·show (Qc l_cc_10 lots _).bind _=_;rw [q1,q2];rfl
    ·have:inB (((p.1[k]).length:Nat):Int) 1 5=false:=by unfold inB; simp; omega
     rw [this,if_pos (by simp),if_neg g1]
   ·rw [Qce hlt];unfold l_cc_5;dsimp only;rw [if_neg (lt_f hlt)];simp [scan,dupM]
 have k0:=key lots 0 [] false [] (by have:=QaU (Qby h); omega) (by omega) (fun y=>by simp [getM])
 have e0:((0:Nat):Int)=0:=rfl;rw [e0,List.drop_zero] at k0;show (Qc l_cc_5 lots (([],false,p.1,((p.1.length:Nat):Int),0,()),(),())).bind _=_;rw [k0];cases scan (fun (_:Nat) l=>own1 l) 0 p.1 with
 | some c=>rfl
 | none=>
  rw [Obn];dsimp only;cases dupM [] p.1.flatten <;> rfl
def polM (p:PolD):Int:=
 if QdQ p.1≠0 then QdQ p.1
 else if p.2.1.length≤4∧p.2.2.1.length≤4 then (match QbL p with | some c=>c | none=>match QdR p with | some c=>c | none=>Qiu p) else 2
theorem QvF {c d:Int} (h:nz c=some d):d≠0:=by
 unfold nz at h;split at h
 ·rename_i h'; rw [←Osj h]; exact h'
 ·cases h
theorem QhN {p:PolD} {c:Int} (h:QbL p=some c):c≠0:=Qdc (P:=fun c=>c≠0) (fun j hj c hc=>QvF hc) c h
theorem Qrj {p:PolD} {c:Int} (h:QdR p=some c):c≠0:=Qdc (P:=fun c=>c≠0) (fun j hj c hc=>QvF hc) c h
theorem QjT (p:PolD) (h:Qfy 1048576 p):F_x (p,())=some ((polM p,()),()):=by
 obtain ⟨⟨a1,a2⟩,a3,a4,a5⟩:=h;unfold F_x polM;rw [QiB p a1 a2,Qhu p a1 a2 a3,Qon p a1 a4 a5];simp only [Obn];by_cases h0:QdQ p.1=0
 ·simp only [h0,bne_self_eq_false,Bool.false_eq_true,if_false,ne_eq,not_true_eq_false];by_cases h4:p.2.1.length≤4∧p.2.2.1.length≤4
  ·simp only [if_pos h4];cases hl:QbL p with
   | some c=>have:=QhN hl; simp [this]
   | none=>simp <;> (cases QdR p <;> rfl)
  ·simp [if_neg h4]
 ·rw [if_pos (by simpa using h0),if_pos h0]
theorem Qjr (p:PolD) (h:Qfy 1048576 p):F_ct (p,())=some ((polM p,()),()):=by
 obtain ⟨⟨a1,a2⟩,a3,a4,a5⟩:=h;unfold F_ct polM;dsimp only;rw [Qny p a1 a2,Obn];dsimp only;by_cases h0:QdQ p.1=0
 case neg=>rw [if_pos (by simpa using h0),if_pos h0]
 simp only [h0,bne_self_eq_false,Bool.false_eq_true,if_false,ne_eq,not_true_eq_false];by_cases h1:p.2.1.length≤4
 case neg=>rw [if_neg (by rw [Qbb]; omega),if_neg (by omega)]
 rw [if_pos (by rw [Qbb]; omega)]
 by_cases h3:p.2.2.1.length≤4
 case neg=>rw [if_pos (by rw [QC]; omega),if_neg (by omega)]
 rw [if_neg (by rw [QC]; omega),if_pos ⟨h1,h3⟩]
 have key1:=Qab (step:=l_ct_7) (γ:=denO o_ct_7) (fun i=>(((),p.2.1,((p.2.1.length:Nat):Int),((i:Nat):Int),()),(p,()),())) p.2.1 (fun i l=>nz (Qeg p l (p.2.1.take i)))
  (fun c=>some (.inr (.inl ((c,()),(),())))) (some (.inl (((),()),(p,()),()))) (Qby a3) ?_ ?_
 ·have key2:=Qab (step:=l_ct_14) (γ:=denO o_ct_14) (fun i=>(((),p.2.2.1,((p.2.2.1.length:Nat):Int),((i:Nat):Int),()),(p,()),())) p.2.2.1 (fun i b=>nz (Qfa p b (p.2.2.1.take i)))
   (fun c=>some (.inr (.inl ((c,()),(),())))) (some (.inl (((),()),(p,()),()))) (Qby a4) ?_ ?_
  ·have e0:((0:Nat):Int)=0:=rfl;rw [e0] at key1 key2;show (Qc l_ct_7 lots (((),p.2.1,((p.2.1.length:Nat):Int),0,()),(p,()),())).bind _=_;rw [key1];unfold QbL;cases scan (fun i l=>nz (Qeg p l (p.2.1.take i))) 0 p.2.1 with
   | some c=>rfl
   | none=>
    rw [Obn];dsimp only;show (Qc l_ct_14 lots (((),p.2.2.1,((p.2.2.1.length:Nat):Int),0,()),(p,()),())).bind _=_;rw [key2];unfold QdR;cases scan (fun i b=>nz (Qfa p b (p.2.2.1.take i))) 0 p.2.2.1 with
    | some c=>rfl
    | none=>
     rw [Obn];dsimp only;rw [Qnz p a1 a5,Obn]
  ·intro rec i hi;unfold l_ct_14;dsimp only;rw [if_pos (lt_t hi),if_pos nat0,Qn hi,if_pos (show (0:Int)≤0∧(0:Int)≤(i:Int)∧(i:Int)≤((p.2.2.1.length:Nat):Int) from ⟨by omega,by omega,by omega⟩),QR (lt1 hi a4)]
   have e:(p.2.2.1.drop (0:Int).toNat).take (((i:Nat):Int).toNat-(0:Int).toNat)=p.2.2.1.take i:=by simp
   rw [e,Qme p _ _ a1 (by simp; omega),Obn]
   dsimp only;unfold nz;by_cases g:Qfa p p.2.2.1[i] (p.2.2.1.take i)=0
   ·rw [if_neg (by simpa using g),if_neg (by simpa using g)]
   ·rw [if_pos (by simpa using g),if_pos (by simpa using g)]
  ·intro rec;unfold l_ct_14;dsimp only;rw [if_neg QaD]
 ·intro rec i hi;unfold l_ct_7;dsimp only;rw [if_pos (lt_t hi),if_pos nat0,Qn hi,if_pos (show (0:Int)≤0∧(0:Int)≤(i:Int)∧(i:Int)≤((p.2.1.length:Nat):Int) from ⟨by omega,by omega,by omega⟩),QR (lt1 hi a3)]
  have e:(p.2.1.drop (0:Int).toNat).take (((i:Nat):Int).toNat-(0:Int).toNat)=p.2.1.take i:=by simp
  rw [e,Qmq p _ _ a1 a2 (by simp; omega),Obn]
  dsimp only;unfold nz;by_cases g:Qeg p p.2.1[i] (p.2.1.take i)=0
  ·rw [if_neg (by simpa using g),if_neg (by simpa using g)]
  ·rw [if_pos (by simpa using g),if_pos (by simpa using g)]
 ·intro rec;unfold l_ct_7;dsimp only;rw [if_neg QaD]
def askM (p:PolD) (g:Int):Int:=if polM p≠0 then polM p else if isG p g=true then 0 else 4
theorem QoV (p:PolD) (g:Int) (h:Qfy 1048576 p):F_fn (p,g,())=some ((askM p g,()),()):=by
 unfold F_fn askM;rw [Qjr p h,Qdq p g h.1.1];simp only [Obn];by_cases h0:polM p=0
 ·rw [h0]; cases isG p g <;> simp
 ·rw [if_neg (by simpa using h0),if_pos h0]
theorem Qbm {α β:Type} {f:Nat→α→Option β} {m:List α} (h:scan f 0 m=none): ∀x∈m, ∃i,f i x=none:=by
 intro x hx;obtain ⟨i,hi,rfl⟩:=List.mem_iff_getElem.1 hx;exact ⟨_,QfX h i hi⟩
structure OkPol (p:PolD):Prop where
 own:1≤p.1.length∧p.1.length≤3
 own1: ∀l∈p.1,1≤l.length∧l.length≤5∧ ∀x∈l,0≤x∧x≤23
 nodup:dupM [] p.1.flatten=false
 lanes:p.2.1.length≤4∧QbL p=none
 bells:p.2.2.1.length≤4∧QdR p=none
 plan:1≤p.2.2.2.1.length∧p.2.2.2.1.length≤8
 slots: ∀s∈p.2.2.2.1,isG p s.1=true∧1≤s.2.1∧s.2.1≤50
theorem Qee {n a b:Int}:inB n a b=true↔a≤n∧n≤b:=by unfold inB; simp
theorem QeT {p:PolD} (h:polM p=0):OkPol p:=by
 unfold polM at h;split at h
 ·rename_i h'; exact absurd h h'
 rename_i h0;have h0:QdQ p.1=0:=by simpa using h0
 split at h
 case isFalse=>cases h
 rename_i h4;cases hl:QbL p with
 | some c=>rw [hl] at h; exact absurd h (QhN hl)
 | none=>
 rw [hl] at h;dsimp only at h;cases hb:QdR p with
 | some c=>rw [hb] at h; exact absurd h (Qrj hb)
 | none=>
 rw [hb] at h;dsimp only at h;unfold QdQ at h0;split at h0
 case isFalse=>cases h0
 rename_i g1;unfold Qiu at h;split at h
 case isFalse=>cases h
 rename_i g2;cases ho:scan (fun (_:Nat) l=>Go.Proofs.YtkkljegcnnfanaaGreatDoor.own1 l) 0 p.1 with
 | some c=>
  rw [ho] at h0;dsimp only at h0;subst h0
  have:(0:Int)≠0:=Qdc (P:=fun c=>c≠0) (fun j hj c hc=>by
   unfold Go.Proofs.YtkkljegcnnfanaaGreatDoor.own1 at hc;split at hc
   ·exact Qdc (P:=fun c=>c≠0) (fun j hj c hc=>by
     split at hc
     ·cases hc
     ·rw [←Osj hc]; decide) c hc
   ·rw [←Osj hc]; decide) _ ho
  exact absurd rfl this
 | none=>
  rw [ho] at h0;dsimp only at h0
  have hd:dupM [] p.1.flatten=false:=by
   split at h0
   ·cases h0
   ·rename_i h'; simpa using h'
  refine ⟨g1,?_,hd,⟨h4.1,hl⟩,⟨h4.2,hb⟩,g2,?_⟩
  ·intro l hl';obtain ⟨_,e⟩:=Qbm ho l hl';unfold Go.Proofs.YtkkljegcnnfanaaGreatDoor.own1 at e;split at e
   ·rename_i g;refine ⟨g.1,g.2,fun x hx=>?_⟩
    obtain ⟨_,e2⟩:=Qbm e x hx;split at e2
    ·rename_i g3; exact Qee.1 g3
    ·cases e2
   ·cases e
  ·intro s hs;cases hp:scan (fun (_:Nat) (s:TwoD)=>if isG p s.1=true then (if inB s.2.1 1 50=true then none else some (3:Int)) else some 4) 0 p.2.2.2.1 with
   | some c=>
    rw [hp] at h;dsimp only at h;subst h
    have:(0:Int)≠0:=Qdc (P:=fun c=>c≠0) (fun j hj c hc=>by
     split at hc
     ·split at hc
      ·cases hc
      ·rw [←Osj hc]; decide
     ·rw [←Osj hc]; decide) _ hp
    exact absurd rfl this
   | none=>
    obtain ⟨_,e⟩:=Qbm hp s hs;split at e
    ·rename_i g;split at e
     ·rename_i g3; exact ⟨g,Qee.1 g3⟩
     ·cases e
    ·cases e
def QsH (m:List TwoD):Prop:=m.length≤8∧ ∀s∈m,1≤s.2.1∧s.2.1≤50
theorem OkPol.okPlan {p:PolD} (h:OkPol p):QsH p.2.2.2.1:=⟨h.plan.2,fun s hs=>(h.slots s hs).2⟩
def QH (g:Int):List TwoD→Int
 | []=>0
 | s::r=>(if g< 0∨s.1=g then s.2.1 else 0)+QH g r
theorem Qdi {g:Int}: ∀{m:List TwoD},(∀s∈m,1≤s.2.1∧s.2.1≤50)→0≤QH g m∧QH g m≤50*(m.length:Int)
 | [],_=>by simp [QH]
 | s::r,h=>by
  have h1:=h s (by simp)
  have:=Qdi (g:=g) (m:=r) fun s hs=>h s (List.mem_cons_of_mem _ hs)
  simp only [QH,List.length_cons];split <;> omega
theorem QrU {α:Type} {m:List α} {i:Nat} {P:α→Prop} (h: ∀s∈m,P s): ∀s∈m.drop i,P s:=fun s hs=>h s (List.mem_of_mem_drop hs)
theorem QpV (p:PolD) (g:Int) (h:QsH p.2.2.2.1):F_dc (p,g,())=some ((QH g p.2.2.2.1,()),()):=by
 obtain ⟨hl,hs⟩:=h
 have key:=Qfr (step:=l_dc_3) (γ:=denO o_dc_3) (fun k (a:Int)=>((g,a,p.2.2.2.1,((p.2.2.2.1.length:Nat):Int),((k:Nat):Int),()),(),())) p.2.2.2.1.length (QaU (by omega)) (fun k a=>0≤a∧a≤50*(k:Int))
  (fun k a=>some (.inl ((a+QH g (p.2.2.2.1.drop k),()),(),()))) ?_ 0 0 (by omega) (by omega)
 ·have e0:((0:Nat):Int)=0:=rfl;rw [e0] at key;unfold F_dc;show (Qc l_dc_3 lots ((g,0,p.2.2.2.1,((p.2.2.2.1.length:Nat):Int),0,()),(),())).bind _=_;rw [key,Obn];simp
 ·rintro rec k a hk ha ih;unfold l_dc_3;dsimp only;by_cases hlt:k< p.2.2.2.1.length
  ·have hb:=hs _ (List.getElem_mem hlt);rw [if_pos (lt_t hlt),if_pos nat0,Qn hlt,Qw (n:=a+(p.2.2.2.1[k]).2.1) (by omega) (by omega),QR (by omega),Qbh hlt]
   rw [show QH g (p.2.2.2.1[k]::p.2.2.2.1.drop (k+1))=(if g< 0∨(p.2.2.2.1[k]).1=g then (p.2.2.2.1[k]).2.1 else 0)+QH g (p.2.2.2.1.drop (k+1)) from rfl]
   by_cases hg:g< 0
   ·rw [if_neg (by rw [Qbb]; omega),ih _ hlt (by omega),if_pos (.inl hg),Int.add_assoc]
   ·rw [if_pos (by rw [Qbb]; omega)]
    by_cases hg2:(p.2.2.2.1[k]).1=g
    ·rw [if_pos (by simpa using hg2),ih _ hlt (by omega),if_pos (.inr hg2),Int.add_assoc]
    ·rw [if_neg (by simpa using hg2),ih _ hlt (by omega),if_neg (by omega),Int.zero_add]
  ·rw [if_neg (lt_f hlt),Qce hlt];simp [QH]
abbrev QF:=PolD×List Int×List QQ×Int×Int×Int×Unit
theorem Qhz {γ:Type} {m:List Int} {z:Int} (n:Nat) (hz:z.toNat=n) (h:n< m.length) (K:Int→Option γ):(m[z.toNat]?).bind K=K (m.getD n 0):=by
 rw [hz,List.getElem?_eq_getElem h,Obn,List.getD_eq_getElem?_getD,List.getElem?_eq_getElem h];rfl
theorem QhL (n:Int):F_ad (n,())=some ((okW n,()),()):=by
 unfold F_ad;rw [Qcj,Obn];rfl
theorem Qqi {α:Type} {p:α→Bool}: ∀(m:List α),m.any (fun y=>!p y)=!m.all p
 | []=>rfl
 | x::r=>by simp only [List.any_cons,List.all_cons,Qqi r,Bool.not_and]
theorem QbI (m:List Int) (hm:m.length≤1048576):F_ae (m,())=some ((allW m,()),()):=by
 have key:=Qab (step:=l_ae_2) (γ:=denO o_ae_2) (fun i=>((m,((i:Nat):Int),()),(),())) m (fun _ y=>if okW y=true then none else some ())
  (fun _=>some (.inr (.inl ((false,()),(),())))) (some (.inl ((),(),()))) (Qby hm) ?_ ?_
 ·have e0:((0:Nat):Int)=0:=rfl;rw [e0] at key;have:=Qeo (f:=fun (_:Nat) y=>if okW y=true then none else some ()) (p:=fun y=>!okW y) (m:=m) (i:=0) (fun j hj=>by cases okW m[j] <;> rfl)
  rw [Qqi] at this;have e:allW m=!(scan (fun (_:Nat) y=>if okW y=true then none else some ()) 0 m).isSome:=by rw [this,Bool.not_not]; rfl
  unfold F_ae;show (Qc l_ae_2 lots ((m,0,()),(),())).bind _=_;rw [key,e];cases scan (fun (_:Nat) y=>if okW y=true then none else some ()) 0 m <;> rfl
 ·intro rec i h;unfold l_ae_2;dsimp only;rw [if_pos (lt_t h),if_pos nat0,Qn h,QhL,Obn,QR (lt1 h hm)];cases okW m[i] <;> rfl
 ·intro rec;unfold l_ae_2;dsimp only;rw [if_neg QaD]
def hartM (h:QQ):Int:=
 if h.1.length=16∧h.2.2.1.length=11∧h.1.getD 0 0=0 then
  (if allW h.1=true∧okW h.2.1=true∧allW h.2.2.1=true∧allW h.2.2.2.2.2.2.2.1=true∧allW h.2.2.2.2.2.2.2.2.1=true then
   (if h.2.2.2.2.2.2.2.1.length≤40∧h.2.2.2.2.2.2.2.2.1.length≤40 then
    (if inB h.2.2.2.2.2.2.1 0 1000000000=true then
     (if h.2.2.1.getD 0 0≤3∧h.2.2.1.getD 7 0≤7∧h.2.2.1.getD 10 0≤8∧h.2.2.1.getD 6 0=0∧h.2.2.1.getD 8 0=0 then 0 else 1) else 3) else 2) else 3) else 1
theorem Qiz (h:QQ) (hl:Qcg 1048576 h):F_fi (h,())=some ((hartM h,()),()):=by
 obtain ⟨l1,l2,l3,l4⟩:=hl;unfold F_fi hartM;dsimp only;by_cases a1:h.1.length=16
 case neg=>
  have: ¬((h.1.length:Nat):Int)=16:=by omega
  simp [a1,this]
 rw [if_pos (by rw [a1]; rfl)]
 by_cases a2:h.2.2.1.length=11
 case neg=>
  have: ¬((h.2.2.1.length:Nat):Int)=11:=by omega
  simp [a2,this]
 rw [if_pos (by rw [a2]; rfl),Qhz (z:=0) 0 rfl (by omega)]
 by_cases a3:h.1.getD 0 0=0
 case neg=>rw [if_pos (by simpa using a3),if_neg (fun g=>a3 g.2.2)]
 have hA:h.1.length=16∧h.2.2.1.length=11∧h.1.getD 0 0=0:=⟨a1,a2,a3⟩;rw [if_neg (by simpa using a3),if_pos hA,QbI _ l1,QhL,QbI _ l2,QbI _ l3,QbI _ l4]
 simp only [Obn];cases b1:allW h.1
 ·simp
 cases b2:okW h.2.1
 ·simp
 cases b3:allW h.2.2.1
 ·simp
 cases b4:allW h.2.2.2.2.2.2.2.1
 ·simp
 cases b5:allW h.2.2.2.2.2.2.2.2.1
 ·simp
 simp only [Bool.not_true,and_self,if_true,Bool.false_eq_true,if_false];by_cases c1:h.2.2.2.2.2.2.2.1.length≤40
 case neg=>rw [if_neg (by rw [Qbb]; omega),if_neg (fun g=>c1 g.1)]
 rw [if_pos (by rw [Qbb]; omega)]
 by_cases c2:h.2.2.2.2.2.2.2.2.1.length≤40
 case neg=>rw [if_pos (by rw [QC]; omega),if_neg (fun g=>c2 g.2)]
 have hC:h.2.2.2.2.2.2.2.1.length≤40∧h.2.2.2.2.2.2.2.2.1.length≤40:=⟨c1,c2⟩;rw [if_neg (by rw [QC]; omega),if_pos hC,QaR,Obn]
 dsimp only;cases b6:inB h.2.2.2.2.2.2.1 0 1000000000
 ·simp
 rw [if_neg (by simp),if_pos rfl,Qhz (z:=0) 0 rfl (by omega)]
 by_cases d1:h.2.2.1.getD 0 0≤3
 case neg=>rw [if_neg (by rw [Qbb]; exact fun g=>g (Int.not_le.1 d1)),if_neg (fun g=>d1 g.1)]
 rw [if_pos (by rw [Qbb]; exact Int.not_lt.2 d1),Qhz (z:=7) 7 rfl (by omega)]
 by_cases d2:h.2.2.1.getD 7 0≤7
 case neg=>rw [if_neg (by rw [Qbb]; exact fun g=>g (Int.not_le.1 d2)),if_neg (fun g=>d2 g.2.1)]
 rw [if_pos (by rw [Qbb]; exact Int.not_lt.2 d2),Qhz (z:=10) 10 rfl (by omega)]
 by_cases d3:h.2.2.1.getD 10 0≤8
 case neg=>rw [if_neg (by rw [Qbb]; exact fun g=>g (Int.not_le.1 d3)),if_neg (fun g=>d3 g.2.2.1)]
 rw [if_pos (by rw [Qbb]; exact Int.not_lt.2 d3),Qhz (z:=6) 6 rfl (by omega)]
 by_cases d4:h.2.2.1.getD 6 0=0
 case neg=>rw [if_neg (by simpa using d4),if_neg (fun g=>d4 g.2.2.2.1)]
 rw [if_pos (by simpa using d4),Qhz (z:=8) 8 rfl (by omega)]
 by_cases d5:h.2.2.1.getD 8 0=0
 case neg=>rw [if_pos (by simpa using d5),if_neg (fun g=>d5 g.2.2.2.2)]
 have hD:h.2.2.1.getD 0 0≤3∧h.2.2.1.getD 7 0≤7∧h.2.2.1.getD 10 0≤8∧h.2.2.1.getD 6 0=0∧h.2.2.1.getD 8 0=0:=⟨d1,d2,d3,d4,d5⟩;rw [if_neg (by simpa using d5),if_pos hD]
theorem Qnx (h:QQ) (hl:Qcg 1048576 h):F_db (h,())=some ((hartM h,()),()):=by
 rw [←Qiz h hl];obtain ⟨l1,l2,l3,l4⟩:=hl;unfold F_db F_fi;rw [QbT _ (leM l1),Qlc,QbT _ (leM l2),QbT _ (leM l3),QbT _ (leM l4),QaH];rw [QbI _ l1,QhL,QbI _ l2,QbI _ l3,QbI _ l4,QaR]
def QE:Nat→List TwoD→Int→Nat×Int×Int
 | k,[],at_=>(k,at_,0)
 | k,s::r,at_=>if s.2.1≤at_ then QE (k+1) r (at_-s.2.1) else (k,at_,s.2.1-at_)
theorem Qbf: ∀{m:List TwoD} {k:Nat} {a:Int},(∀s∈m,1≤s.2.1∧s.2.1≤50)→0≤a→a< QH (-1) m→
  k≤(QE k m a).1∧ ∃s,m[(QE k m a).1-k]?=some s∧(QE k m a).2.2=s.2.1-(QE k m a).2.1∧0≤(QE k m a).2.1∧(QE k m a).2.1< s.2.1
 | [],k,a,_,h0,h1=>by simp [QH] at h1; omega
 | s::r,k,a,hs,h0,h1=>by
  simp only [QH] at h1;rw [if_pos (.inl (by decide))] at h1
  simp only [QE];by_cases h:s.2.1≤a
  ·rw [if_pos h];obtain ⟨g0,q,g1,g2⟩:=Qbf (m:=r) (k:=k+1) (a:=a-s.2.1) (fun s hs'=>hs s (List.mem_cons_of_mem _ hs')) (by omega) (by omega)
   refine ⟨by omega,q,?_,g2⟩
   have e:(QE (k+1) r (a-s.2.1)).1-k=((QE (k+1) r (a-s.2.1)).1-(k+1))+1:=by omega
   rw [e,List.getElem?_cons_succ];exact g1
  ·rw [if_neg h];exact ⟨Nat.le_refl _,s,by simp,rfl,h0,by show a< s.2.1; omega⟩
def QaV (p:PolD) (clock:Int):Int×Int:=let e:=QE 0 p.2.2.2.1 (clock % QH (-1) p.2.2.2.1); ((e.1:Int),e.2.2)
theorem QdE {m:List TwoD} (h: ∀s∈m,1≤s.2.1∧s.2.1≤50) (hl:1≤m.length):1≤QH (-1) m:=by
 cases m with
 | nil=>simp at hl
 | cons s r=>
  have:=Qdi (g:= -1) (m:=r) fun s hs=>h s (List.mem_cons_of_mem _ hs)
  have:=h s (by simp)
  simp only [QH];rw [if_pos (.inl (by decide))]
  omega
theorem QoB {a b:Int} (h:0≤a):a.tmod b=a % b:=by
 rw [Int.tmod_eq_emod_of_nonneg h]
theorem QlJ {γ:Type} {p:PolD} (hok:OkPol p) {step:((PolD×Int×Int×Unit)×Unit×Unit→Option (((PolD×Int×Int×Unit)×Unit×Unit) ⊕ γ))→(PolD×Int×Int×Unit)×Unit×Unit→Option (((PolD×Int×Int×Unit)×Unit×Unit) ⊕ γ)}
  (hstep: ∀rec p a i,step rec ((p,a,i,()),(),())=if 0≤i then (p.2.2.2.1[i.toNat]?).bind fun y=>if leI y.2.1 a=true then (if 0≤i then (p.2.2.2.1[i.toNat]?).bind fun y=>
   rec ((p,IntKind.i64.wrap (a-y.2.1),IntKind.i64.wrap (i+1),()),(),()) else none) else some (.inl ((p,a,i,()),(),())) else none)
  (a:Int) (h0:0≤a) (h1:a< QH (-1) p.2.2.2.1):Qc step lots ((p,a,0,()),(),())=some (.inl ((p,(QE 0 p.2.2.2.1 a).2.1,((QE 0 p.2.2.2.1 a).1:Int),()),(),())):=by
 obtain ⟨hl,hs⟩:=hok.okPlan
 have key:=Qfr (step:=step) (fun k (a:Int)=>((p,a,((k:Nat):Int),()),(),())) p.2.2.2.1.length (QaU (by omega)) (fun k a=>0≤a∧a< QH (-1) (p.2.2.2.1.drop k))
  (fun k a=>some (.inl ((p,(QE k (p.2.2.2.1.drop k) a).2.1,((QE k (p.2.2.2.1.drop k) a).1:Int),()),(),()))) ?_ 0 a (by omega) ⟨h0,by simpa using h1⟩
 ·exact key
 ·rintro rec k a hk ⟨g0,g1⟩ ih;by_cases hlt:k< p.2.2.2.1.length
  ·have hb:=hs _ (List.getElem_mem hlt);have hle:=(Qdi (g:= -1) (QrU (i:=k) hs)).2;rw [List.length_drop] at hle;rw [hstep,if_pos nat0,Qn hlt,if_pos nat0,Qn hlt,QR (by omega),Qw (n:=a-(p.2.2.2.1[k]).2.1) (by omega) (by omega)]
   rw [Qbh hlt] at g1;simp only [QH] at g1;rw [if_pos (.inl (by decide))] at g1
   by_cases h:(p.2.2.2.1[k]).2.1≤a
   ·have e:QE k (p.2.2.2.1.drop k) a=QE (k+1) (p.2.2.2.1.drop (k+1)) (a-(p.2.2.2.1[k]).2.1):=by
     rw [Qbh hlt]; simp only [QE]; rw [if_pos h]
    rw [if_pos (Qba.2 h),e];exact ih _ hlt ⟨by omega,by omega⟩
   ·have e:QE k (p.2.2.2.1.drop k) a=(k,a,(p.2.2.2.1[k]).2.1-a):=by
     rw [Qbh hlt]; simp only [QE]; rw [if_neg h]
    rw [if_neg (by rw [Qba]; exact h),e]
  ·rw [Qce hlt] at g1;simp [QH] at g1;omega
theorem QnF (p:PolD) (clock:Int) (hok:OkPol p) (h0:0≤clock):F_dd (p,clock,())=some (((QaV p clock).1,(QaV p clock).2,()),()):=by
 obtain ⟨hl,hs⟩:=hok.okPlan;have hpos:=QdE hs hok.plan.1;have hle:=(Qdi (g:= -1) hs).2;unfold F_dd;dsimp only;rw [QpV p (-1) hok.okPlan,Obn];dsimp only;have a0:0≤clock % QH (-1) p.2.2.2.1:=Int.emod_nonneg _ (by omega)
 have a1:clock % QH (-1) p.2.2.2.1< QH (-1) p.2.2.2.1:=Int.emod_lt_of_pos _ (by omega)
 have hne: ¬QH (-1) p.2.2.2.1=0:=by omega
 rw [if_neg hne,QoB h0];show (Qc l_dd_3 lots ((p,clock % QH (-1) p.2.2.2.1,0,()),(),())).bind _=_;rw [QlJ hok (step:=l_dd_3) (fun _ _ _ _=>rfl) _ a0 a1,Obn]
 dsimp only;obtain ⟨_,s,g1,g2,g3,g4⟩:=Qbf (k:=0) hs a0 a1;rw [Nat.sub_zero] at g1;have hb:=hs s (List.mem_of_getElem? g1);rw [if_pos nat0,Int.toNat_natCast,g1,Obn,Qw (by omega) (by omega), ←g2]
 rfl
theorem Qot (p:PolD) (clock:Int) (hok:OkPol p) (h0:0≤clock):F_fj (p,clock,())=some (((QaV p clock).1,(QaV p clock).2,()),()):=by
 obtain ⟨hl,hs⟩:=hok.okPlan;have hpos:=QdE hs hok.plan.1;have hle:=(Qdi (g:= -1) hs).2;have a0:0≤clock % QH (-1) p.2.2.2.1:=Int.emod_nonneg _ (by omega)
 have a1:clock % QH (-1) p.2.2.2.1< QH (-1) p.2.2.2.1:=Int.emod_lt_of_pos _ (by omega)
 have key:=Qfr (step:=l_fj_3) (γ:=denO o_dd_3) (fun k (a:Int)=>((p,clock,a,((k:Nat):Int),()),(),())) p.2.2.2.1.length (QaU (by omega)) (fun k a=>0≤a∧a≤50*(k:Int))
  (fun k a=>some (.inl ((p,clock,a+QH (-1) (p.2.2.2.1.drop k),()),(),()))) ?_ 0 0 (by omega) (by omega)
 ·have e0:((0:Nat):Int)=0:=rfl;rw [e0,List.drop_zero,Int.zero_add] at key;unfold F_fj;show (Qc l_fj_3 lots ((p,clock,0,0,()),(),())).bind _=_;rw [key,Obn];dsimp only;have hne: ¬QH (-1) p.2.2.2.1=0:=by omega
  rw [if_neg hne,QoB h0];show (Qc l_fj_8 lots ((p,clock % QH (-1) p.2.2.2.1,0,()),(),())).bind _=_;rw [QlJ hok (step:=l_fj_8) (fun _ _ _ _=>rfl) _ a0 a1,Obn]
  dsimp only;obtain ⟨_,s,g1,g2,g3,g4⟩:=Qbf (k:=0) hs a0 a1;rw [Nat.sub_zero] at g1;have hb:=hs s (List.mem_of_getElem? g1);rw [if_pos nat0,Int.toNat_natCast,g1,Obn,Qw (by omega) (by omega), ←g2]
  rfl
 ·rintro rec k a hk ha ih;unfold l_fj_3;dsimp only;by_cases hlt:k< p.2.2.2.1.length
  ·have hb:=hs _ (List.getElem_mem hlt);rw [if_pos (lt_t hlt),if_pos nat0,Qn hlt,Qw (n:=a+(p.2.2.2.1[k]).2.1) (by omega) (by omega),QR (by omega),Qbh hlt]
   rw [show QH (-1) (p.2.2.2.1[k]::p.2.2.2.1.drop (k+1))=(p.2.2.2.1[k]).2.1+QH (-1) (p.2.2.2.1.drop (k+1)) from by simp only [QH]; rw [if_pos (.inl (by decide))], ←Int.add_assoc]
   exact ih _ hlt (by omega)
  ·rw [if_neg (lt_f hlt),Qce hlt];simp [QH]
def QdS (n:Nat) (x:QF):Prop:=Qfy n x.1∧x.2.1.length≤n∧x.2.2.1.length≤n∧ ∀h∈x.2.2.1,Qcg n h
def QhI (m:List QQ):Option Int:=scan (fun (_:Nat) h=>nz (hartM h)) 0 m
def Qch (x:QF):Int:=
 if polM x.1≠0 then polM x.1
 else if (QA x.2.1=0∧x.2.1.length=192)∧x.2.2.1.length=x.1.1.length then
  (match QhI x.2.2.1 with
   | some c=>c
   | none=>if inB x.2.2.2.2.2.1 0 1000000=true then (if x.2.2.2.1=(QaV x.1 x.2.2.2.2.2.1).1∧x.2.2.2.2.1=(QaV x.1 x.2.2.2.2.2.1).2 then 0 else 1) else 3)
 else 1
theorem QmI (m:List Int) (h:m.length≤1048576):F_fh (m,())=some ((decide (QA m=0∧m.length=192),()),()):=by
 unfold F_fh;rw [QmE m (leM h),Obn];dsimp only;by_cases h0:QA m=0
 ·rw [if_pos (by simpa using h0)]
  by_cases h1:m.length=192
  ·simp [h0,h1]
  ·have: ¬((m.length:Nat):Int)=192:=by omega
   simp [h0,h1,this]
 ·rw [if_neg (by simpa using h0)]
  simp [h0]
theorem Qmo (m:List Int) (h:m.length≤1048576):F_da (m,())=some ((decide (QA m=0∧m.length=192),()),()):=by
 unfold F_da;rw [QeD m (leM h),Obn];dsimp only;by_cases h0:QA m=0
 ·rw [if_pos (by simpa using h0)]
  by_cases h1:m.length=192
  ·simp [h0,h1]
  ·have: ¬((m.length:Nat):Int)=192:=by omega
   simp [h0,h1,this]
 ·rw [if_neg (by simpa using h0)]
  simp [h0]
theorem QiA (x:QF) (h:QdS 1048576 x):F_fk (x,())=some ((Qch x,()),()):=by
 obtain ⟨hp,h1,h2,h3⟩:=h
 have key:=Qab (step:=l_fk_7) (γ:=denO o_fk_7) (fun i=>((x,((i:Nat):Int),()),(),())) x.2.2.1 (fun (_:Nat) h=>nz (hartM h))
  (fun c=>some (.inr (.inl ((c,()),(),())))) (some (.inl ((x,()),(),()))) (Qby h2) ?_ ?_
 ·have e0:((0:Nat):Int)=0:=rfl;rw [e0] at key;unfold F_fk Qch;dsimp only;rw [QjT x.1 hp,Obn];dsimp only;by_cases g0:polM x.1=0
  case neg=>rw [if_pos (by simpa using g0),if_pos g0]
  have n0: ¬polM x.1≠0:=by simpa using g0
  have hG: ∀P:Prop, ¬P→ ¬(P∧x.2.2.1.length=x.1.1.length):=fun P h g=>h g.1
  rw [if_neg (by simpa using g0),if_neg n0,QmI _ h1,Obn]
  dsimp only;by_cases g1:QA x.2.1=0∧x.2.1.length=192
  case neg=>rw [if_neg (by simpa using g1),if_neg (hG _ g1)]
  rw [if_pos (by simpa using g1)]
  by_cases g2:x.2.2.1.length=x.1.1.length
  case neg=>
   have: ¬((x.2.2.1.length:Nat):Int)=((x.1.1.length:Nat):Int):=by omega
   rw [if_pos (by simpa using this),if_neg (fun g:(QA x.2.1=0∧x.2.1.length=192)∧x.2.2.1.length=x.1.1.length=>g2 g.2)]
  have hH:(QA x.2.1=0∧x.2.1.length=192)∧x.2.2.1.length=x.1.1.length:=⟨g1,g2⟩;rw [if_neg (by rw [g2]; simp),if_pos hH]
  show (Qc l_fk_7 lots ((x,0,()),(),())).bind _=_;rw [key];unfold QhI;cases scan (fun (_:Nat) h=>nz (hartM h)) 0 x.2.2.1 with
  | some c=>rfl
  | none=>
   rw [Obn];dsimp only;rw [QaR,Obn];dsimp only;cases g3:inB x.2.2.2.2.2.1 0 1000000
   ·simp
   ·rw [if_neg (by simp),if_pos rfl,Qot x.1 _ (QeT g0) (Qee.1 g3).1,Obn]
    dsimp only;by_cases g4:x.2.2.2.1=(QaV x.1 x.2.2.2.2.2.1).1
    ·by_cases g5:x.2.2.2.2.1=(QaV x.1 x.2.2.2.2.2.1).2
     ·rw [if_pos (by simpa using g4),if_neg (by simpa using g5),if_pos ⟨g4,g5⟩]
     ·rw [if_pos (by simpa using g4),if_pos (by simpa using g5),if_neg (fun h=>g5 h.2)]
    ·rw [if_neg (by simpa using g4),if_neg (fun h=>g4 h.1)]
 ·intro rec i hi;unfold l_fk_7;dsimp only;rw [if_pos (lt_t hi),if_pos nat0,Qn hi,Qiz _ (h3 _ (List.getElem_mem hi)),Obn,QR (lt1 hi h2)];dsimp only;unfold nz;by_cases g:hartM x.2.2.1[i]=0
  ·rw [if_neg (by simpa using g),if_neg (by simpa using g)]
  ·rw [if_pos (by simpa using g),if_pos (by simpa using g)]
 ·intro rec;unfold l_fk_7;dsimp only;rw [if_neg QaD]
theorem QcI (x:QF) (h:QdS 1048576 x):F_de (x,())=some ((Qch x,()),()):=by
 obtain ⟨hp,h1,h2,h3⟩:=h
 let bx:(den (.slice (.slice (.int .i64))))×List QN×List TwoD×List TwoD×List Int×List QQ×Int×Int×Int×Unit:=(x.1.1,x.1.2.1,x.1.2.2.1,x.1.2.2.2.1,x.2.1,x.2.2.1,x.2.2.2.1,x.2.2.2.2.1,x.2.2.2.2.2.1,())
 have key:=Qab (step:=l_de_7) (γ:=denO o_de_7) (fun i=>(((),x.2.2.1,((x.2.2.1.length:Nat):Int),((i:Nat):Int),()),(bx,()),())) x.2.2.1 (fun (_:Nat) h=>nz (hartM h))
  (fun c=>some (.inr (.inl ((c,()),(),())))) (some (.inl (((),()),(bx,()),()))) (Qby h2) ?_ ?_
 ·have e0:((0:Nat):Int)=0:=rfl;rw [e0] at key;unfold F_de Qch;dsimp only;rw [Qjr x.1 hp,Obn];dsimp only;by_cases g0:polM x.1=0
  case neg=>rw [if_pos (by simpa using g0),if_pos g0]
  have n0: ¬polM x.1≠0:=by simpa using g0
  have hG: ∀P:Prop, ¬P→ ¬(P∧x.2.2.1.length=x.1.1.length):=fun P h g=>h g.1
  rw [if_neg (by simpa using g0),if_neg n0,Qmo _ h1,Obn]
  dsimp only;by_cases g1:QA x.2.1=0∧x.2.1.length=192
  case neg=>rw [if_neg (by simpa using g1),if_neg (hG _ g1)]
  rw [if_pos (by simpa using g1)]
  by_cases g2:x.2.2.1.length=x.1.1.length
  case neg=>
   have: ¬((x.2.2.1.length:Nat):Int)=((x.1.1.length:Nat):Int):=by omega
   rw [if_pos (by simpa using this),if_neg (fun g:(QA x.2.1=0∧x.2.1.length=192)∧x.2.2.1.length=x.1.1.length=>g2 g.2)]
  have hH:(QA x.2.1=0∧x.2.1.length=192)∧x.2.2.1.length=x.1.1.length:=⟨g1,g2⟩;rw [if_neg (by rw [g2]; simp),if_pos hH]
  show (Qc l_de_7 lots (((),x.2.2.1,((x.2.2.1.length:Nat):Int),0,()),(bx,()),())).bind _=_;rw [key];unfold QhI;cases scan (fun (_:Nat) h=>nz (hartM h)) 0 x.2.2.1 with
  | some c=>rfl
  | none=>
   rw [Obn];dsimp only [bx];rw [QaH,Obn];dsimp only;cases g3:inB x.2.2.2.2.2.1 0 1000000
   ·simp
   ·rw [if_neg (by simp),if_pos rfl]
    show (F_dd (x.1,x.2.2.2.2.2.1,())).bind _=_;rw [QnF x.1 _ (QeT g0) (Qee.1 g3).1,Obn];dsimp only;by_cases g4:x.2.2.2.1=(QaV x.1 x.2.2.2.2.2.1).1
    ·by_cases g5:x.2.2.2.2.1=(QaV x.1 x.2.2.2.2.2.1).2
     ·rw [if_pos (by simpa using g4),if_neg (by simpa using g5),if_pos ⟨g4,g5⟩]
     ·rw [if_pos (by simpa using g4),if_pos (by simpa using g5),if_neg (fun h=>g5 h.2)]
    ·rw [if_neg (by simpa using g4),if_neg (fun h=>g4 h.1)]
 ·intro rec i hi;unfold l_de_7;dsimp only;rw [if_pos (lt_t hi),if_pos nat0,Qn hi,Qnx _ (h3 _ (List.getElem_mem hi)),Obn,QR (lt1 hi h2)];dsimp only;unfold nz;by_cases g:hartM x.2.2.1[i]=0
  ·rw [if_neg (by simpa using g),if_neg (by simpa using g)]
  ·rw [if_pos (by simpa using g),if_pos (by simpa using g)]
 ·intro rec;unfold l_de_7;dsimp only;rw [if_neg QaD]
theorem Qfn {x:QF} (h:Qch x=0):polM x.1=0:=by
 unfold Qch at h;split at h
 ·rename_i h'; exact absurd h h'
 ·rename_i h'; simpa using h'
def Byt (c:List Int):Prop:=(∀b∈c,0≤b∧b≤255)∧c.length≤1048580
theorem QdP {c:List Int} (hc:Byt c) (a n:Int) (ha:0≤a∧a≤1099511627776):
  ∃v:Int,F_c ((c,a,()),n,())=some ((v,()),((c,a+1,()),()))∧0≤v∧(v< n∨v=0):=by
 unfold F_c;dsimp only;rw [Qw (n:=a+1) (by omega) (by omega),Qw (n:=a+1-1) (by omega) (by omega)]
 have e1:a+1-1=a:=by omega
 rw [e1];by_cases h1:n< 1
 ·exact ⟨0,by rw [if_pos (QC.2 h1)],Int.le_refl 0,.inr rfl⟩
 rw [if_neg (by rw [QC]; exact h1)]
 have hn: ¬n=0:=by omega
 by_cases h2:c.length=0
 ·rw [if_pos (by rw [h2]; rfl),if_neg hn,Qw (n:=a*7) (by omega) (by omega)]
  exact ⟨(a*7).tmod n,rfl,Int.tmod_nonneg _ (by omega),.inl (Int.tmod_lt_of_pos _ (by omega))⟩
 have h3: ¬((c.length:Nat):Int)=0:=by omega
 have p1:0≤a.tmod ((c.length:Nat):Int):=Int.tmod_nonneg _ ha.1;have p2:a.tmod ((c.length:Nat):Int)< ((c.length:Nat):Int):=Int.tmod_lt_of_pos _ (by omega)
 have p3:0≤(a+1).tmod ((c.length:Nat):Int):=Int.tmod_nonneg _ (by omega)
 have p4:(a+1).tmod ((c.length:Nat):Int)< ((c.length:Nat):Int):=Int.tmod_lt_of_pos _ (by omega)
 have p5:0≤a.tdiv ((c.length:Nat):Int):=Int.tdiv_nonneg ha.1 (by omega)
 have p6:a.tdiv ((c.length:Nat):Int)≤a:=Int.tdiv_le_self _ ha.1;obtain ⟨y,hy⟩: ∃y,c[(a.tmod ((c.length:Nat):Int)).toNat]?=some y:=⟨_,List.getElem?_eq_getElem (by omega)⟩
 obtain ⟨z,hz⟩: ∃z,c[((a+1).tmod ((c.length:Nat):Int)).toNat]?=some z:=⟨_,List.getElem?_eq_getElem (by omega)⟩
 have by_:=hc.1 y (List.mem_of_getElem? hy);have bz:=hc.1 z (List.mem_of_getElem? hz);rw [if_neg (by simpa using h3),if_neg h3,if_pos p1,hy,Obn]
 generalize a.tdiv ((c.length:Nat):Int)=d at p5 p6⊢;rw [Qw (n:=y) (by omega) (by omega),Qw (n:=d) (by omega) (by omega),Qw (n:=d*37) (by omega) (by omega),Qw (n:=y+d*37) (by omega) (by omega)]
 by_cases h4:(200:Int)< n
 ·rw [if_neg h3,if_pos (QC.2 h4),if_neg h3]
  rw [Qw (n:=(y+d*37)*251) (by omega) (by omega),Qw (n:=a+1) (by omega) (by omega),if_pos p3,hz,Obn,Qw (n:=z) (by omega) (by omega),Qw (n:=z*13) (by omega) (by omega),
   Qw (n:=(y+d*37)*251+z*13) (by omega) (by omega),Qw (n:=(y+d*37)*251+z*13+a) (by omega) (by omega),if_neg hn]
  exact ⟨_,rfl,Int.tmod_nonneg _ (by omega),.inl (Int.tmod_lt_of_pos _ (by omega))⟩
 ·rw [if_neg h3,if_neg (by rw [QC]; exact h4),if_neg hn]
  exact ⟨_,rfl,Int.tmod_nonneg _ (by omega),.inl (Int.tmod_lt_of_pos _ (by omega))⟩
def Qdu (x:denP P_c):Int:=match F_c x with | some r=>r.1.1 | none=>0
def Qlq (x:denP P_d):Int:=match F_d x with | some r=>r.1.1 | none=>0
def Qmi (x:denP P_c):Bool:=match F_s x with | some r=>r.1.1 | none=>false
def Qkm (x:denP P_m):Int:=match F_t x with | some r=>r.1.1 | none=>0
theorem QqA (x:denP P_c) (hc:Byt x.1.1) (ha:0≤x.1.2.1∧x.1.2.1≤1099511627776):F_c x=some ((Qdu x,()),((x.1.1,x.1.2.1+1,()),())):=by
 obtain ⟨⟨c,a,_⟩,n,_⟩:=x;obtain ⟨v,e,h0,h1⟩:=QdP hc a n ha;unfold Qdu;rw [e]
theorem Qwh (x:denP P_c) (hc:Byt x.1.1) (ha:0≤x.1.2.1∧x.1.2.1≤1099511627776):0≤Qdu x∧(Qdu x< x.2.1∨Qdu x=0):=by
 obtain ⟨⟨c,a,_⟩,n,_⟩:=x;obtain ⟨v,e,h0,h1⟩:=QdP hc a n ha;unfold Qdu;rw [e];exact ⟨h0,h1⟩
theorem QmB {c:List Int} (hc:Byt c) (a:Int) (l:List Int) (ha:0≤a∧a≤1099511627776) (hl:l≠[]):
  ∃v:Int,F_d ((c,a,()),l,())=some ((v,()),((c,a+1,()),()))∧v∈l:=by
 have hpos:0< l.length:=List.length_pos_iff.2 hl;obtain ⟨v,e,h0,h1⟩:=QdP hc a ((l.length:Nat):Int) ha;unfold F_d;dsimp only;rw [e,Obn];dsimp only;have hv:v.toNat< l.length:=by omega
 rw [if_pos h0,List.getElem?_eq_getElem hv,Obn];exact ⟨_,rfl,List.getElem_mem hv⟩
theorem QqH (x:denP P_d) (hl:x.2.1.isEmpty=false) (hc:Byt x.1.1) (ha:0≤x.1.2.1∧x.1.2.1≤1099511627776):F_d x=some ((Qlq x,()),((x.1.1,x.1.2.1+1,()),())):=by
 obtain ⟨⟨c,a,_⟩,l,_⟩:=x;obtain ⟨v,e,h0⟩:=QmB hc a l ha (by rintro rfl; cases hl)
 unfold Qlq;rw [e]
theorem Qwo (x:denP P_d) (hl:x.2.1.isEmpty=false) (hc:Byt x.1.1) (ha:0≤x.1.2.1∧x.1.2.1≤1099511627776):Qlq x∈x.2.1:=by
 obtain ⟨⟨c,a,_⟩,l,_⟩:=x;obtain ⟨v,e,h0⟩:=QmB hc a l ha (by rintro rfl; cases hl)
 unfold Qlq;rw [e];exact h0
theorem QkN (x:denP P_c) (hc:Byt x.1.1) (ha:0≤x.1.2.1∧x.1.2.1≤1099511627776):F_s x=some ((Qmi x,()),((x.1.1,x.1.2.1+1,()),())):=by
 obtain ⟨⟨c,a,_⟩,n,_⟩:=x;obtain ⟨v,e,h0,h1⟩:=QdP hc a n ha
 have:F_s ((c,a,()),n,())=some ((v==0,()),((c,a+1,()),())):=by
  unfold F_s;dsimp only;rw [e,Obn]
 unfold Qmi;rw [this]
theorem Qrb {c:List Int} (hc:Byt c) (a:Int) (ha:0≤a∧a≤1073741824): ∃v:Int,F_t ((c,a,()),())=some ((v,()),((c,a+5,()),()))∧0≤v∧v≤4294967295:=by
 obtain ⟨v1,e1,a1,b1⟩:=QdP hc a 90 (by omega)
 obtain ⟨v2,e2,a2,b2⟩:=QdP hc (a+1) 9 (by omega)
 obtain ⟨v3,e3,a3,b3⟩:=QdP hc (a+1+1) 9 (by omega)
 obtain ⟨v4,e4,a4,b4⟩:=QdP hc (a+1+1+1) 60000 (by omega)
 unfold F_t;dsimp only;rw [e1,Obn,e2,Obn,e3,Obn];dsimp only;rw [e4,Obn];dsimp only;rw [Qw (n:=4294967295-v3) (by omega) (by omega),Qw (n:=v4*70000) (by omega) (by omega)]
 obtain ⟨v,e,hv⟩:=QmB hc (a+1+1+1+1) [v1,v2,4294967295-v3,2147483648,2147483647,0,v4*70000] (by omega) (by simp)
 rw [e,Obn];refine ⟨v,?_,?_⟩
 ·have:a+1+1+1+1+1=a+5:=by omega
  rw [this]
 ·simp at hv;omega
theorem Qrc (x:denP P_m) (hc:Byt x.1.1) (ha:0≤x.1.2.1∧x.1.2.1≤1073741824):F_t x=some ((Qkm x,()),((x.1.1,x.1.2.1+5,()),())):=by
 obtain ⟨⟨c,a,_⟩,_⟩:=x;obtain ⟨v,e,h0⟩:=Qrb hc a ha;unfold Qkm;rw [e]
theorem Qwu (x:denP P_m) (hc:Byt x.1.1) (ha:0≤x.1.2.1∧x.1.2.1≤1073741824):0≤Qkm x∧Qkm x≤4294967295:=by
 obtain ⟨⟨c,a,_⟩,_⟩:=x;obtain ⟨v,e,h0⟩:=Qrb hc a ha;unfold Qkm;rw [e];exact h0
theorem QcZ {c:List Int} (hc:Byt c) (a n:Int) (ha:0≤a∧a≤1099511627776):F_c ((c,a,()),n,())=some ((Qdu ((c,a,()),n,()),()),((c,a+1,()),())):=QqA _ hc ha
theorem QqI {c:List Int} (hc:Byt c) (a:Int) (x:Int) (l:List Int) (ha:0≤a∧a≤1099511627776):F_d ((c,a,()),x::l,())=some ((Qlq ((c,a,()),x::l,()),()),((c,a+1,()),())):=QqH _ rfl hc ha
theorem Qrq {c:List Int} (hc:Byt c) (a n:Int) (ha:0≤a∧a≤1099511627776):F_s ((c,a,()),n,())=some ((Qmi ((c,a,()),n,()),()),((c,a+1,()),())):=QkN _ hc ha
theorem Qvx {c:List Int} (hc:Byt c) (a:Int) (ha:0≤a∧a≤1073741824):F_t ((c,a,()),())=some ((Qkm ((c,a,()),()),()),((c,a+5,()),())):=Qrc _ hc ha
abbrev InsD:=Int×Int×Int×Int×Unit
theorem Qqk (op:Int): ∃b1 b2 b3:Bool,F_n (op,())=some ((b1,b2,b3,()),()):=by
 unfold F_n;dsimp only
 repeat' split
 all_goals exact ⟨_,_,_,rfl⟩
theorem Qtg {α β:Type} {P:α→β} {c:Prop} [Decidable c] {a b:β} (ha: ∃v,a=P v) (hb: ∃v,b=P v): ∃v,(if c then a else b)=P v:=by split <;> assumption
theorem QnI (x:InsD): ∃v:Int,F_q (x,())=some ((v,()),()):=by
 obtain ⟨b1,b2,b3,e⟩:=Qqk x.1;unfold F_q;dsimp only;rw [QaR,QaR,QaR,QaR,e];simp only [Obn]
 repeat' (first | exact ⟨_,rfl⟩ | refine Qtg (P:=fun v:Int=>some ((v,()),())) ?_ ?_)
theorem Qrs (x:InsD): ∃v:Int×Int×Unit,F_r (x,())=some ((v,()),()):=by
 obtain ⟨v,e⟩:=QnI x;unfold F_r;dsimp only;rw [e,Obn];dsimp only;split <;> exact ⟨_,rfl⟩
theorem Qtu {c:List Int} (hc:Byt c) (a:Int) (ha:0≤a∧a≤1000000000): ∃v:InsD,F_o ((c,a,()),())=some ((v,()),((c,a+1+1+1+1+1+1+1,()),())):=by
 unfold F_o;dsimp only;rw [QcZ hc,Obn];dsimp only;generalize Qdu _=v1;rw [QcZ hc,Obn];dsimp only;generalize Qdu _=v2;rw [QcZ hc,Obn];dsimp only;generalize Qdu _=v3;rw [QcZ hc,Obn];dsimp only;generalize Qdu _=v4;rw [QcZ hc,Obn];dsimp only;generalize Qdu _=v5;rw [QcZ hc,Obn];dsimp only;generalize Qdu _=v6;rw [QqI hc,Obn];dsimp only;generalize Qlq _=v7;obtain ⟨b1,b2,b3,e⟩:=Qqk (IntKind.i64.wrap (1+v1));rw [e,Obn];dsimp only
 repeat' (first | exact ⟨_,rfl⟩ | refine Qtg (P:=fun v:InsD=>some ((v,()),((c,a+1+1+1+1+1+1+1,()),()))) ?_ ?_)
 all_goals omega
def Drew {T:Type} (o:Option ((T×Unit)×(List Int×Int×Unit)×Unit)) (c:List Int) (a k:Int):Prop:= ∃(v:T) (a':Int),o=some ((v,()),((c,a',()),()))∧a≤a'∧a'≤a+k
theorem Drew.ite {T:Type} {p:Prop} [Decidable p] {x y:Option ((T×Unit)×(List Int×Int×Unit)×Unit)} {c:List Int} {a k:Int} (hx:Drew x c a k) (hy:Drew y c a k):Drew (if p then x else y) c a k:=by split <;> assumption
theorem Qtv {c:List Int} (hc:Byt c) (a:Int) (ha:0≤a∧a≤100000000):Drew (T:=InsD) (F_p ((c,a,()),())) c a 20:=by
 unfold F_p;dsimp only;rw [QcZ hc,Obn];dsimp only;generalize IntKind.i64.wrap (1+Qdu _)=v1;rw [QcZ hc,Obn];dsimp only;generalize Qdu _=v2;obtain ⟨v,e⟩:=Qtu hc (a+1+1) (by omega)
 rw [e]
 repeat' (first
  | refine Drew.ite ?_ ?_
  | (rw [QcZ hc,Obn]; dsimp only)
  | (rw [QqI hc,Obn]; dsimp only)
  | exact ⟨_,_,rfl,by omega,by omega⟩
  | omega
  | (rw [Obn]; dsimp only))
theorem Qtn {c:List Int} (hc:Byt c) (n a:Int) (ha:0≤a∧a≤10000000) (hn:n≤1000): ∃(m:List Int) (a':Int),F_u ((c,a,()),n,())=some ((m,()),((c,a',()),()))∧(m.length:Int)=(if n< 0 then 0 else n)∧a≤a'∧a'≤a+26*(if n< 0 then 0 else n):=by
 have key: ∀f (k:Nat) (m:List Int) (a:Int),k< f→k≤1000→0≤a∧a≤100000000-26*(k:Int)→m.length≤1000-k→
   ∃(m':List Int) (a':Int),Qc l_u_2 f (((),(k:Int),m,()),((c,a,()),()),())=some (.inl ((m',()),((c,a',()),()),()))∧m'.length=m.length+k∧a≤a'∧a'≤a+26*(k:Int):=by
  intro f
  induction f with
  | zero=>intro k _ _ h; omega
  | succ f ih=>
   intro k m a hk hk2 ha hm;simp only [Qc];generalize Qc l_u_2 f=rec at ih⊢;unfold l_u_2;dsimp only;by_cases h0:0< k
   ·obtain ⟨x,a1,e1,g1,g2⟩:=Qtv hc a (by omega)
    obtain ⟨w,e2⟩:=Qrs x;rw [if_pos (by rw [QC]; omega),e1,Obn,e2,Obn]
    dsimp only;rw [Qrq hc _ _ (by omega),Obn]
    dsimp only;have ew:IntKind.i64.wrap ((k:Int)-1)=((k-1:Nat):Int):=by rw [Qw (by omega) (by omega)]; omega
    rw [ew];split
    ·rw [Qvx hc _ (by omega),Obn]
     dsimp only;rw [if_pos (by simp; omega)]
     obtain ⟨m',a',i1,i2,i3,i4⟩:=ih (k-1) (m++[Qkm ((c,a1+1,()),())]) (a1+1+5) (by omega) (by omega) (by omega) (by simp; omega)
     exact ⟨m',a',i1,by rw [i2]; simp; omega,by omega,by omega⟩
    ·rw [if_pos (by simp; omega)]
     obtain ⟨m',a',i1,i2,i3,i4⟩:=ih (k-1) (m++[w.2.1]) (a1+1) (by omega) (by omega) (by omega) (by simp; omega)
     exact ⟨m',a',i1,by rw [i2]; simp; omega,by omega,by omega⟩
   ·have:k=0:=by omega
    subst this;rw [if_neg (by rw [QC]; omega)]
    exact ⟨m,a,rfl,by omega,by omega,by omega⟩
 unfold F_u;dsimp only;by_cases h0:n< 0
 ·have:L_u_2 (((),n,[],()),((c,a,()),()),())=some (.inl (([],()),((c,a,()),()),())):=by
   show Qc l_u_2 lots _=_;rw [QwD,Qwd];unfold l_u_2;dsimp only;rw [if_neg (by rw [QC]; omega)]
  rw [this,Obn,if_pos h0];exact ⟨[],a,rfl,rfl,by omega,by omega⟩
 ·obtain ⟨m',a',i1,i2,i3,i4⟩:=key lots n.toNat [] a (by rw [QI]; omega) (by omega) (by omega) (by simp)
  have en:((n.toNat:Nat):Int)=n:=by omega
  rw [en] at i1 i4;rw [if_neg h0];show ∃m a',(Qc l_u_2 lots (((),n,[],()),((c,a,()),()),())).bind _=_∧_;rw [i1,Obn];exact ⟨m',a',rfl,by rw [i2]; simp; omega,i3,i4⟩
theorem Qmr {c:Int} (h:nz c=none):c=0:=by
 unfold nz at h;split at h
 ·cases h
 ·rename_i h'; simpa using h'
theorem QbO {p:PolD} (hok:OkPol p): ∀l∈p.2.1,(isG p l.1=true∧isG p l.2.1=true∧l.1≠l.2.1)∧(0≤l.2.2.1∧l.2.2.1≤23)∧(5≤l.2.2.2.1∧l.2.2.2.1≤6)∧5≤l.2.2.2.2.1∧l.2.2.2.2.1≤6:=by
 intro l hl;obtain ⟨i,e⟩:=Qbm hok.lanes.2 l hl;have e:=Qmr e;unfold Qeg at e;split at e
 ·rename_i h; exact absurd e h
 ·rename_i h0;split at e
  ·rename_i h1;refine ⟨?_,Qee.1 h1.1,Qee.1 h1.2.1,Qee.1 h1.2.2⟩;have h0:QcF p l.1 l.2.1=0:=by simpa using h0
   unfold QcF at h0;split at h0
   ·rename_i g1;split at h0
    ·rename_i g2;split at h0
     ·cases h0
     ·rename_i g3; exact ⟨g1,g2,g3⟩
    ·cases h0
   ·cases h0
  ·cases e
theorem Qbi {p:PolD} {g:Int}:isG p g=true↔0≤g∧g< (p.1.length:Int):=by unfold isG; simp; omega
def pg (m:List Int) (p:Int):List Int:=(m.drop (8*p.toNat)).take 8
def Qaq (m:List Int) (l:List Int):List Int:=l.flatMap (pg m)
theorem Qmx (m:List Int) (p:Int):(pg m p).length≤8:=by unfold pg; simp; omega
theorem QgN (m:List Int): ∀l:List Int,(Qaq m l).length≤8*l.length
 | []=>by simp [Qaq]
 | p::r=>by
  have h1:=QgN m r;have h2:=Qmx m p;unfold Qaq at h1⊢;rw [List.flatMap_cons,List.length_append,List.length_cons]; omega
theorem QpY (m:List Int) {l:List Int} {k:Nat} (h:k< l.length):Qaq m (l.drop k)=pg m l[k]++Qaq m (l.drop (k+1)):=by
 rw [Qbh h]; rfl
theorem Qil (m:List Int) (p:Int) (hm:m.length≤192) (hp:0≤p∧8*p+8≤(m.length:Int)):F_dz (m,p,())=some ((pg m p,()),()):=by
 obtain ⟨P,rfl⟩: ∃P:Nat,p=(P:Int):=⟨p.toNat,by omega⟩
 rw [QfT m P (by omega) hm]
 unfold pg;rw [Int.toNat_natCast]
theorem Qmp (m l:List Int) (hm:m.length≤192) (hp: ∀p∈l,0≤p∧8*p+8≤(m.length:Int)) (hl:l.length≤1000):F_fy (m,l,())=some ((Qaq m l,()),()):=by
 have key:=Qfr (step:=l_fy_3) (γ:=denO o_aa_3) (fun k (out:List Int)=>((m,out,l,((l.length:Nat):Int),((k:Nat):Int),()),(),())) l.length (QaU (by omega)) (fun k out=>out.length≤8*k)
  (fun k out=>some (.inl ((out++Qaq m (l.drop k),()),(),()))) ?_ 0 [] (by omega) (by simp)
 ·have e0:((0:Nat):Int)=0:=rfl;rw [e0,List.drop_zero,List.nil_append] at key;unfold F_fy;show (Qc l_fy_3 lots _).bind _=_;rw [key,Obn]
 ·rintro rec k out hk ho ih;unfold l_fy_3;dsimp only;by_cases hlt:k< l.length
  ·have hy:=hp _ (List.getElem_mem hlt);rw [if_pos (lt_t hlt),if_pos nat0,Qn hlt,Qil m _ hm hy,Obn];dsimp only;rw [if_pos (by have:=Qmx m l[k]; omega),QR (by omega),QpY m hlt]
   rw [ih (out++pg m l[k]) hlt (by have:=Qmx m l[k]; rw [List.length_append]; omega),List.append_assoc]
  ·rw [if_neg (lt_f hlt),Qce hlt];simp [Qaq]
def QaM (g:Int) (b:Bool):List QN→List Int
 | []=>[]
 | l::r=>if l.1=g then (if b=true then l.2.2.1 else l.2.2.2.1)::QaM g b r else QaM g b r
theorem Qjk (g:Int) (b:Bool): ∀ls:List QN,(QaM g b ls).length≤ls.length
 | []=>by simp [QaM]
 | l::r=>by
  have:=Qjk g b r;simp only [QaM];split
  ·simp only [List.length_cons]; omega
  ·simp only [List.length_cons]; omega
theorem QgB {g:Int} {b:Bool}: ∀{ls:List QN}, ∀v∈QaM g b ls, ∃l∈ls,l.1=g∧v=if b=true then l.2.2.1 else l.2.2.2.1
 | [],v,h=>by simp [QaM] at h
 | l::r,v,h=>by
  simp only [QaM] at h;split at h
  ·rename_i hg;rcases List.mem_cons.1 h with h | h
   ·exact ⟨l,by simp,hg,h⟩
   ·obtain ⟨l',h1,h2⟩:=QgB v h;exact ⟨l',by simp [h1],h2⟩
  ·obtain ⟨l',h1,h2⟩:=QgB v h;exact ⟨l',by simp [h1],h2⟩
def QY:QQ:=([],0,[],false,false,false,0,[],[],())
theorem QgU (m:List Int) (h:m.length≤1048576):F_dg (m,())=some ((m,()),()):=by
 unfold F_dg;rw [if_pos (by simp only [List.length_nil]; omega)]
 rfl
theorem Qjn (h:QQ) (hl:Qcg 1048576 h):F_dm (h,())=some ((h,()),()):=by
 obtain ⟨l1,l2,l3,l4⟩:=hl;unfold F_dm;dsimp only;rw [QgU _ l1,Obn,QgU _ l2,Obn,QgU _ l3,Obn,QgU _ l4,Obn]
abbrev QsP:=Int×List Int×Int×List Int×Bool×Bool×Bool×Int×List Int×List Int×List Int×List Int×Unit
def QlS (c:Int) (h:QQ) (o g:List Int):QsP:=(c,h.1,h.2.1,h.2.2.1,h.2.2.2.1,h.2.2.2.2.1,h.2.2.2.2.2.1,h.2.2.2.2.2.2.1,h.2.2.2.2.2.2.2.1,h.2.2.2.2.2.2.2.2.1,o,g,())
def QlR (x:QF) (g:Int):QsP:=
 if Qch x≠0 then QlS (Qch x) QY [] []
 else if isG x.1 g=true then QlS 0 (x.2.2.1.getD g.toNat QY) (Qaq x.2.1 (x.1.1.getD g.toNat [])) (Qaq x.2.1 (QaM g true x.1.2.1))
 else QlS 4 QY [] []
theorem Qnw {x:QF} (h:Qch x=0):x.2.1.length=192∧x.2.2.1.length=x.1.1.length:=by
 have hp:=Qfn h;unfold Qch at h;rw [if_neg (by simpa using hp)] at h
 split at h
 ·rename_i g; exact ⟨g.1.2,g.2⟩
 ·cases h
theorem Qnt {x:QF} {g:Int} (hx:QdS 1048576 x) (h:Qch x=0) (hg:isG x.1 g=true):
  (0≤g∧x.2.2.1[g.toNat]?=some (x.2.2.1.getD g.toNat QY)∧x.1.1[g.toNat]?=some (x.1.1.getD g.toNat []))∧Qcg 1048576 (x.2.2.1.getD g.toNat QY)∧
   ((x.1.1.getD g.toNat []).length≤5∧ ∀p∈x.1.1.getD g.toNat [],0≤p∧8*p+8≤(x.2.1.length:Int))∧ ∀p∈QaM g true x.1.2.1,0≤p∧8*p+8≤(x.2.1.length:Int):=by
 obtain ⟨g0,g1⟩:=Qbi.1 hg;obtain ⟨hm,hh⟩:=Qnw h;have hok:=QeT (Qfn h);have hk1:g.toNat< x.1.1.length:=by omega
 have hk2:g.toNat< x.2.2.1.length:=by omega
 have e1:x.1.1[g.toNat]?=some (x.1.1.getD g.toNat []):=by rw [List.getD_eq_getElem?_getD,List.getElem?_eq_getElem hk1]; rfl
 have e2:x.2.2.1[g.toNat]?=some (x.2.2.1.getD g.toNat QY):=by rw [List.getD_eq_getElem?_getD,List.getElem?_eq_getElem hk2]; rfl
 refine ⟨⟨g0,e2,e1⟩,hx.2.2.2 _ (List.mem_of_getElem? e2),⟨(hok.own1 _ (List.mem_of_getElem? e1)).2.1,fun p hp=>?_⟩,fun p hp=>?_⟩
 ·have:=(hok.own1 _ (List.mem_of_getElem? e1)).2.2 p hp;omega
 ·obtain ⟨l,hl,_,e⟩:=QgB p hp;rw [if_pos rfl] at e;have:=(QbO hok l hl).2.1;omega
end Go.Proofs.YtkkljegcnnfanaaGreatDoor
