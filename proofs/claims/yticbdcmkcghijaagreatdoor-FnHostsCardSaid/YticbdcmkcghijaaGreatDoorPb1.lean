/- Plain laws: what the functions compute, and that both programs compute the same. -/
import Derived.Test.YticbdcmkcghijaaGreatDoorGa4
namespace Go.Proofs.YticbdcmkcghijaaGreatDoor
open Go Go.RowKit S Go.Proofs
set_option maxRecDepth 100000
def okW (w:Int):Bool:=decide (w≥0) && decide (w≤4294967295)
def allW (m:List Int):Bool:=m.all okW
theorem Qcf (n a b:Int):F_e (n,a,b,())=some ((decide (n≥a) && decide (n≤b),()),()):=by
 unfold F_e;simp only [QaH,Qan,decide_eq_true_eq,ge_iff_le,gt_iff_lt];split
 ·rename_i h; simp [h]
 ·rename_i h; simp [h]
theorem Qbh (n a b:Int):F_cb (n,a,b,())=some ((decide (n≥a) && decide (n≤b),()),()):=by
 unfold F_cb;simp only [QaH,Qan,decide_eq_true_eq,ge_iff_le,gt_iff_lt];split
 ·rename_i h; simp [h]
 ·rename_i h; simp [h]
theorem QkK (n:Int):F_cu (n,())=some ((okW n,()),()):=by
 unfold F_cu;rw [Qbh,Obn];rfl
theorem QlH (n:Int):F_cv_1 (n,())=some ((!okW n,()),()):=by
 unfold F_cv_1;rw [QkK,Obn]
theorem Qko {y:Int} {r:List Int}:allW (y::r)=(okW y && allW r):=rfl
theorem Qpq (m:List Int) (i:Int) (h0:0≤i) (h1:i≤(m.length:Int)) (h3:m.length≤maxLen):
  (allW (m.drop i.toNat)=true∧L_cx_2 ((m,(),((m.length:Nat):Int),i,()),(),())=some (.inl ((),(),())))∨
  (allW (m.drop i.toNat)=false∧ ∃k:Int,0≤k∧L_cx_2 ((m,(),((m.length:Nat):Int),i,()),(),())=some (.inr (.inl ((k,()),(),())))):=by
 have key: ∀(n:Nat) (i:Int),(m.length-i).toNat< n→0≤i→i≤(m.length:Int)→
   (allW (m.drop i.toNat)=true∧Qd l_cx_2 n ((m,(),((m.length:Nat):Int),i,()),(),())=some (.inl ((),(),())))∨
   (allW (m.drop i.toNat)=false∧ ∃k:Int,0≤k∧Qd l_cx_2 n ((m,(),((m.length:Nat):Int),i,()),(),())=some (.inr (.inl ((k,()),(),())))):=by
  intro n
  induction n with
  | zero=>intro i h; omega
  | succ n ih=>
   intro i hm h0 h1;simp only [Qd];generalize Qd l_cx_2 n=rec at ih⊢;unfold l_cx_2;simp only [QaH,Qan,decide_eq_true_eq,ge_iff_le,gt_iff_lt];by_cases hlt:i< (m.length:Int)
   ·obtain ⟨y,hy,_,hd⟩:=QuF h0 hlt;rw [if_pos hlt,if_pos h0,hy,Obn,QlH,Obn,Qtw h0 hlt h3,hd,Qko];cases hw:okW y with
    | true=>simpa using ih (i+1) (by omega) (by omega) (by omega)
    | false=>exact .inr ⟨by simp,i,h0,by simp⟩
   ·rw [if_neg hlt,QmK hlt];exact .inl ⟨rfl,rfl⟩
 exact key lots i (by rw [Qee] at h3; rw [QW]; omega) h0 h1
theorem QbQ (m:List Int) (h:m.length≤maxLen):F_cv (m,())=some ((allW m,()),()):=by
 unfold F_cv F_cy_1 F_cw_1;simp only;rcases Qpq m 0 (by simp) (by simp) h with ⟨h1,h2⟩ | ⟨h1,k,h2,h3⟩
 ·simp only [Int.toNat_zero,List.drop_zero] at h1;rw [h2,h1]; rfl
 ·simp only [Int.toNat_zero,List.drop_zero] at h1;rw [h3,h1];simp [h2,Qan]
def QJ (m:List Int):Int:=if m.length % 8=0∧8≤m.length∧m.length≤192 then (if allW m=true then 0 else 3) else 1
theorem QlP (m:List Int) (h:m.length≤maxLen):F_cz (m,())=some ((QJ m,()),()):=by
 unfold F_cz QJ;rw [QbQ m h];simp only [Obn,QaH,Qan,beq_eq_false_iff_ne,decide_eq_false_iff_not,bne_iff_ne];have e:((m.length:Nat):Int).tmod 8=((m.length % 8:Nat):Int):=rfl;rw [e];by_cases h1:((m.length:Nat):Int)≠0
 ·rw [if_pos h1];by_cases h2: ¬((m.length:Nat):Int) > 192
  ·rw [if_pos h2];by_cases h3:((m.length % 8:Nat):Int)≠0
   ·rw [if_pos h3,if_neg (by omega)]
   ·have hc:m.length % 8=0∧8≤m.length∧m.length≤192:=by omega
    rw [if_neg h3,if_pos hc];cases allW m <;> rfl
  ·rw [if_neg h2,if_neg (by omega)]
 ·rw [if_neg h1,if_neg (by omega)]
theorem QjD (m:List Int) (i:Int) (h0:0≤i) (h1:i≤(m.length:Int)) (h3:m.length≤maxLen):
  L_fg_4 ((m,i,()),(),())=some (if allW (m.drop i.toNat)=true then .inl ((),(),()) else .inr (.inl ((3,()),(),()))):=by
 refine Qni (γ:=denO o_l_4) (step:=l_fg_4) (β:=Int) (fun i=>((m,i,()),(),())) (fun i=>0≤i∧i≤(m.length:Int)) (fun i=>some (if allW (m.drop i.toNat)=true then .inl ((),(),()) else .inr (.inl ((3,()),(),()))))
  (fun i=>(m.length-i).toNat) ?_ lots _ ⟨h0,h1⟩ (by rw [Qee] at h3; rw [QW]; omega)
 rintro rec i ⟨h0,h1⟩ ih;simp only at h0 h1 ih⊢;unfold l_fg_4;simp only [QaH,Qan,decide_eq_true_eq,ge_iff_le,gt_iff_lt];by_cases hlt:i< (m.length:Int)
 ·obtain ⟨y,hy,_,hd⟩:=QuF h0 hlt;rw [if_pos hlt,if_pos h0,hy,Obn,Qcf,Obn,Qtw h0 hlt h3,hd,Qko];show (if (!okW y)=true then _ else _)=_
  cases hw:okW y with
  | true=>simpa using ih (i+1) ⟨by omega,by omega⟩ (by omega)
  | false=>simp
 ·rw [if_neg hlt,QmK hlt];rfl
theorem Qmg (m:List Int) (h:m.length≤maxLen):F_fg (m,())=some ((QJ m,()),()):=by
 unfold F_fg QJ;simp only [QaH,Qan,beq_eq_false_iff_ne,decide_eq_false_iff_not,bne_eq_false_iff_eq,decide_eq_true_eq];have e:((m.length:Nat):Int).tmod 8=((m.length % 8:Nat):Int):=rfl;rw [e];by_cases h1:((m.length % 8:Nat):Int)=0
 ·rw [if_pos h1];by_cases h2: ¬((m.length:Nat):Int)< 8
  ·rw [if_pos h2];by_cases h3:((m.length:Nat):Int) > 192
   ·rw [if_pos h3,if_neg (by omega)]
   ·rw [if_neg h3,if_pos (by omega),QjD m 0 (by simp) (by simp) h]
    simp only [Int.toNat_zero,List.drop_zero];cases allW m <;> rfl
  ·rw [if_neg h2,if_neg (by omega)]
 ·rw [if_neg h1,if_neg (by omega)]
abbrev QO:=den (.pair (.slice (.int .i64)) (.pair (.int .i64) (.pair (.slice (.int .i64)) (.pair .bool (.pair .bool (.pair .bool (.pair (.int .i64) (.pair (.slice (.int .i64)) (.pair (.slice (.int .i64)) .unit)))))))))
def Qdi (n:Nat) (h:QO):Prop:=h.1.length≤n∧h.2.2.1.length≤n∧h.2.2.2.2.2.2.2.1.length≤n∧h.2.2.2.2.2.2.2.2.1.length≤n
theorem leM {n:Nat} (h:n≤1048576):n≤maxLen:=by rw [Qee]; omega
theorem Qrr (m:List Int) (p:Nat) (h:8*p+8≤m.length) (h2:m.length≤192):F_dz (m,(p:Int),())=some (((m.drop (8*p)).take 8,()),()):=by
 unfold F_dz F_dg;simp only;rw [Qm (n:=(p:Int)*8) (by omega) (by omega),Qm (n:=(p:Int)+1) (by omega) (by omega),Qm (n:=((p:Int)+1)*8) (by omega) (by omega)]
 rw [if_pos ⟨by omega,by omega,by omega⟩]
 have e1:((p:Int)*8).toNat=8*p:=by omega
 have e2:(((p:Int)+1)*8).toNat-8*p=8:=by omega
 rw [e1,e2,if_pos (by simp; omega),Obn]
 simp
theorem QfZ {m:List Int} (h:QJ m=0):m.length % 8=0∧8≤m.length∧m.length≤192:=by
 unfold QJ at h;split at h
 ·assumption
 ·omega
theorem QgU {X γ σ:Type} {step:(X→Option γ)→X→Option γ} (emb:Nat→σ→X) (N:Nat) (hN:N< lots) (I:Nat→σ→Prop) (out:Nat→σ→Option γ)
  (h: ∀rec i s,i≤N→I i s→(∀s',i< N→I (i+1) s'→rec (emb (i+1) s')=out (i+1) s')→step rec (emb i s)=out i s):
  ∀i s,i≤N→I i s→Qd step lots (emb i s)=out i s:=by
 have key: ∀n i s,N-i< n→i≤N→I i s→Qd step n (emb i s)=out i s:=by
  intro n
  induction n with
  | zero=>intro i s h; omega
  | succ n ih=>
   intro i s hn hi hI;simp only [Qd];exact h _ i s hi hI fun s' hlt hI'=>ih (i+1) s' (by omega) (by omega) hI'
 intro i s hi hI;exact key lots i s (by omega) hi hI
theorem Qbv {n:Nat} (h:n≤9223372036854775807):n< lots:=by rw [QW]; omega
theorem Qaa {i:Nat} (h:i< 9223372036854775807):IntKind.i64.wrap ((i:Int)+1)=((i+1:Nat):Int):=by rw [Qm (by omega) (by omega)]; rfl
theorem nat0 {i:Nat}:(0:Int)≤(i:Int):=Int.natCast_nonneg i
theorem Qw {α γ:Type} {m:List α} {i:Nat} (h:i< m.length) (K:α→Option γ):(m[((i:Nat):Int).toNat]?).bind K=K m[i]:=by
 rw [Int.toNat_natCast,List.getElem?_eq_getElem h,Obn]
theorem QbF {α:Type} {m:List α} {i:Nat} (h:i< m.length):m.drop i=m[i]::m.drop (i+1):=List.drop_eq_getElem_cons h
theorem Qdh {α:Type} {m:List α} {i:Nat} (h: ¬i< m.length):m.drop i=[]:=List.drop_of_length_le (by omega)
theorem ltN {a b:Nat}:ltI (a:Int) (b:Int)=decide (a< b):=by
 rw [QaH]; by_cases h:a< b
 ·have:(a:Int)< b:=by omega
  simp [h,this]
 ·have: ¬(a:Int)< b:=by omega
  simp [h,this]
theorem QD {a b:Int}:ltI a b=true↔a< b:=by rw [QaH]; simp
theorem Qba {a b:Int}:leI a b=true↔a≤b:=by rw [Qan]; simp
theorem QaR {a b:Int}:ltI a b=false↔ ¬a< b:=by rw [QaH]; simp
def scan {α β:Type} (f:Nat→α→Option β):Nat→List α→Option β
 | _,[]=>none
 | i,x::r=>match f i x with
  | some c=>some c
  | none=>scan f (i+1) r
theorem QY {X α γ β:Type} {step:(X→Option γ)→X→Option γ} (emb:Nat→X) (m:List α) (f:Nat→α→Option β) (bad:β→Option γ) (done:Option γ) (hm:m.length≤9223372036854775807)
  (h1: ∀rec i (h:i< m.length),step rec (emb i)=match f i m[i] with | some c=>bad c | none=>rec (emb (i+1)))
  (h2: ∀rec,step rec (emb m.length)=done):Qd step lots (emb 0)=match scan f 0 m with | some c=>bad c | none=>done:=by
 have key:=QgU (step:=step) (fun i (_:Unit)=>emb i) m.length (Qbv hm) (fun _ _=>True) (fun i _=>match scan f i (m.drop i) with | some c=>bad c | none=>done) ?_ 0 () (by omega) trivial
 ·simpa using key
 ·intro rec i _ hi _ ih;by_cases hlt:i< m.length
  ·rw [h1 rec i hlt,QbF hlt];simp only [scan];cases hf:f i m[i] with
   | some c=>rfl
   | none=>exact ih () hlt trivial
  ·have:i=m.length:=by omega
   subst this;rw [h2,List.drop_length];rfl
theorem Qei {α β:Type} {f:Nat→α→Option β} {p:α→Bool}: ∀{m:List α} {i:Nat},(∀j (h:j< m.length),(f (i+j) m[j]).isSome=p m[j])→(scan f i m).isSome=m.any p
 | [],_,_=>rfl
 | x::r,i,h=>by
  have h0:=h 0 (by simp)
  simp only [Nat.add_zero,List.getElem_cons_zero] at h0
  have:=Qei (f:=f) (p:=p) (m:=r) (i:=i+1) fun j hj=>by
   have:=h (j+1) (by simpa using hj)
   simpa [Nat.add_assoc,Nat.add_comm,Nat.add_left_comm] using this
  simp only [scan,List.any_cons, ←h0, ←this];cases f i x <;> rfl
theorem lt_t {i n:Nat} (h:i< n):ltI (i:Int) (n:Int)=true:=by rw [ltN]; simpa using h
theorem lt_f {i n:Nat} (h: ¬i< n): ¬ltI (i:Int) (n:Int)=true:=by rw [ltN]; simpa using h
theorem Qay {n:Nat}: ¬ltI (n:Int) (n:Int)=true:=lt_f (Nat.lt_irrefl n)
theorem lt1 {α:Type} {i:Nat} {m:List α} (h:i< m.length) (hm:m.length≤1048576):i< 9223372036854775807:=by omega
theorem Qve {X γ:Type} (step:(X→Option γ)→X→Option γ) (n:Nat) (x:X):Qd step (n+1) x=step (Qd step n) x:=rfl
theorem QvC:lots=18446744073709551613+1+1+1:=rfl
abbrev QP:=Int×Int×Int×Int×Int×Unit
abbrev TwoD:=Int×Int×Unit
abbrev PolD:=List (List Int)×List QP×List TwoD×List TwoD×Unit
def Qhc (n:Nat) (p:PolD):Prop:=(p.1.length≤n∧ ∀l∈p.1,l.length≤n)∧p.2.1.length≤n∧p.2.2.1.length≤n∧p.2.2.2.1.length≤n
theorem Qbu {n:Nat} (h:n≤1048576):n≤9223372036854775807:=by omega
theorem QcW {α β:Type} {f:Nat→α→Option β} {P:β→Prop}: ∀{m:List α} {i:Nat},(∀j (h:j< m.length) c,f (i+j) m[j]=some c→P c)→ ∀c,scan f i m=some c→P c
 | [],_,_,c,h=>by simp [scan] at h
 | x::r,i,h,c,hc=>by
  have h0:=h 0 (by simp)
  simp only [Nat.add_zero,List.getElem_cons_zero] at h0;simp only [scan] at hc;split at hc
  ·rename_i d hd;obtain rfl:=Osj hc;exact h0 _ hd
  ·exact QcW (m:=r) (i:=i+1) (fun j hj c' hc'=>h (j+1) (by simpa using hj) c' (by simpa [Nat.add_assoc,Nat.add_comm,Nat.add_left_comm] using hc')) c hc
theorem Qnj (m:List Int) (v:Int) (hm:m.length≤1048576):F_f (m,v,())=some ((m.contains v,()),()):=by
 have key:=QY (step:=l_f_2) (γ:=denO o_f_2) (fun i=>((m,v,((i:Nat):Int),()),(),())) m (fun _ y=>if (y==v)=true then some () else none) (fun _=>some (.inr (.inl ((true,()),(),())))) (some (.inl ((),(),()))) (Qbu hm) ?_ ?_
 ·unfold F_f;show (Qd l_f_2 lots ((m,v,((0:Nat):Int),()),(),())).bind _=_;rw [key];have:=Qei (f:=fun (_:Nat) y=>if (y==v)=true then some () else none) (p:=fun y=>y==v) (m:=m) (i:=0) (fun j hj=>by cases m[j]==v <;> rfl)
  have e:m.any (fun y=>y==v)=m.contains v:=by
   rw [Bool.eq_iff_iff,List.any_eq_true,List.contains_iff_mem];exact ⟨fun ⟨y,hy,e⟩=>by rw [←beq_iff_eq.1 e]; exact hy,fun h=>⟨v,h,by simp⟩⟩
  rw [e] at this;rw [←this];cases scan (fun (_:Nat) y=>if (y==v)=true then some () else none) 0 m <;> rfl
 ·intro rec i h;unfold l_f_2;dsimp only;rw [if_pos (lt_t h),if_pos nat0,Qw h,Qaa (lt1 h hm)];cases m[i]==v <;> rfl
 ·intro rec;unfold l_f_2;dsimp only;rw [if_neg Qay]
def isG (p:PolD) (g:Int):Bool:=decide (g≥0) && decide (g≤(p.1.length:Int)-1)
theorem Qgu (p:PolD) (g:Int) (h:p.1.length≤1048576):F_h (p,g,())=some ((isG p g,()),()):=by
 unfold F_h isG;dsimp only;rw [Qm (by omega) (by omega),Qcf,Obn]
theorem QeA (p:PolD) (g:Int) (h:p.1.length≤1048576):F_cd (p,g,())=some ((isG p g,()),()):=by
 unfold F_cd isG;dsimp only;rw [Qm (by omega) (by omega),Qbh,Obn]
def QcB (p:PolD) (a b:Int):Int:=if isG p a=true then (if isG p b=true then (if a=b then 1 else 0) else 4) else 4
theorem QpG (p:PolD) (a b:Int) (h:p.1.length≤1048576):F_i (p,a,b,())=some ((QcB p a b,()),()):=by
 unfold F_i QcB;rw [Qgu p a h,Qgu p b h];simp only [Obn];cases isG p a <;> cases isG p b <;> by_cases e:a=b <;> simp [e]
theorem QpQ (p:PolD) (a b:Int) (h:p.1.length≤1048576):F_ce (p,a,b,())=some ((QcB p a b,()),()):=by
 unfold F_ce QcB;rw [QeA p a h,QeA p b h];simp only [Obn];cases isG p a <;> cases isG p b <;> by_cases e:a=b <;> simp [e]
def Qiv:Option Int→Int
 | some c=>c
 | none=> -1
def Qfn (own:List (List Int)) (page:Int):Int:=Qiv (scan (fun i (l:List Int)=>if l.contains page=true then some ((i:Nat):Int) else none) 0 own)
theorem Qti (p:PolD) (page:Int) (h:p.1.length≤1048576) (h2: ∀l∈p.1,l.length≤1048576):F_j (p,page,())=some ((Qfn p.1 page,()),()):=by
 have key:=QY (step:=l_j_2) (γ:=denO o_j_2) (fun i=>((p,page,((i:Nat):Int),()),(),())) p.1 (fun i (l:List Int)=>if l.contains page=true then some ((i:Nat):Int) else none)
  (fun c=>some (.inr (.inl ((c,()),(),())))) (some (.inl ((),(),()))) (Qbu h) ?_ ?_
 ·unfold F_j Qfn;show (Qd l_j_2 lots ((p,page,((0:Nat):Int),()),(),())).bind _=_;rw [key];cases scan (fun i (l:List Int)=>if l.contains page=true then some ((i:Nat):Int) else none) 0 p.1 <;> rfl
 ·intro rec i hi;unfold l_j_2;dsimp only;rw [if_pos (lt_t hi),if_pos nat0,Qw hi,Qaa (lt1 hi h),Qnj _ _ (h2 _ (List.getElem_mem hi)),Obn];dsimp only;cases (p.1[i]).contains page <;> rfl
 ·intro rec;unfold l_j_2;dsimp only;rw [if_neg Qay]
theorem Qut {α:Type} {P:Nat→α→Bool} {m:List α} {c:Int} (h:scan (fun i y=>if P i y=true then some ((i:Nat):Int) else none) 0 m=some c):0≤c:=by
 refine QcW (P:=fun c=>0≤c) ?_ c h
 intro j hj c hc;split at hc
 ·obtain rfl:=Osj hc; omega
 ·cases hc
theorem QeW {α:Type} {P:α→Bool} {m:List α} {f:Nat→α→Option Int} (hf: ∀i y,f i y=if P y=true then some ((i:Nat):Int) else none):leI 0 (Qiv (scan f 0 m))=m.any P:=by
 have e:f=fun i y=>if P y=true then some ((i:Nat):Int) else none:=by funext i y; exact hf i y
 subst e;have h1:=Qei (f:=fun i y=>if P y=true then some ((i:Nat):Int) else none) (p:=P) (m:=m) (i:=0) (fun j hj=>by cases P m[j] <;> rfl)
 rw [←h1,Qan];cases hs:scan (fun i y=>if P y=true then some ((i:Nat):Int) else none) 0 m with
 | none=>rfl
 | some c=>have:=Qut (P:=fun _ y=>P y) hs; simp [Qiv,this]
theorem QsG (m:List Int) (v:Int) (hm:m.length≤1048576):F_cf (m,v,())=some ((Qiv (scan (fun i y=>if (v==y)=true then some ((i:Nat):Int) else none) 0 m),()),()):=by
 have key:=QY (step:=l_cf_2) (γ:=denO o_j_2) (fun i=>((m,v,((m.length:Nat):Int),((i:Nat):Int),()),(),())) m (fun i y=>if (v==y)=true then some ((i:Nat):Int) else none)
  (fun c=>some (.inr (.inl ((c,()),(),())))) (some (.inl ((),(),()))) (Qbu hm) ?_ ?_
 ·unfold F_cf;show (Qd l_cf_2 lots ((m,v,((m.length:Nat):Int),((0:Nat):Int),()),(),())).bind _=_;rw [key];cases scan (fun i y=>if (v==y)=true then some ((i:Nat):Int) else none) 0 m <;> rfl
 ·intro rec i hi;unfold l_cf_2;dsimp only;rw [if_pos (lt_t hi),if_pos nat0,Qw hi,Qaa (lt1 hi hm)];cases v==m[i] <;> rfl
 ·intro rec;unfold l_cf_2;dsimp only;rw [if_neg Qay]
theorem QlF (m:List Int) (v:Int):m.any (fun y=>v==y)=m.contains v:=by
 rw [Bool.eq_iff_iff,List.any_eq_true,List.contains_iff_mem];exact ⟨fun ⟨y,hy,e⟩=>by rw [beq_iff_eq.1 e]; exact hy,fun h=>⟨v,h,by simp⟩⟩
theorem QmI (m:List Int) (v:Int) (hm:m.length≤1048576):F_cg (m,v,())=some ((m.contains v,()),()):=by
 unfold F_cg;rw [QsG m v hm,Obn];dsimp only;rw [QeW (P:=fun y=>v==y) (fun _ _=>rfl),QlF]
theorem QlQ (p:PolD) (page:Int) (h:p.1.length≤1048576) (h2: ∀l∈p.1,l.length≤1048576):F_ch (p,page,())=some ((Qfn p.1 page,()),()):=by
 have key:=QY (step:=l_cj_2) (γ:=denO o_j_2) (fun i=>((p.1,(page,()),((p.1.length:Nat):Int),((i:Nat):Int),()),(),())) p.1
  (fun i (l:List Int)=>if l.contains page=true then some ((i:Nat):Int) else none) (fun c=>some (.inr (.inl ((c,()),(),())))) (some (.inl ((),(),()))) (Qbu h) ?_ ?_
 ·unfold F_ch Qfn F_ci_1;show ((Qd l_cj_2 lots ((p.1,(page,()),((p.1.length:Nat):Int),((0:Nat):Int),()),(),())).bind _).bind _=_;rw [key];cases scan (fun i (l:List Int)=>if l.contains page=true then some ((i:Nat):Int) else none) 0 p.1 <;> rfl
 ·intro rec i hi;unfold l_cj_2;dsimp only;rw [if_pos (lt_t hi),if_pos nat0,Qw hi,Qaa (lt1 hi h)];unfold F_ch_1;rw [QmI _ _ (h2 _ (List.getElem_mem hi)),Obn,Obn];dsimp only;cases (p.1[i]).contains page <;> rfl
 ·intro rec;unfold l_cj_2;dsimp only;rw [if_neg Qay]
def Qbt (l:QP) (g page:Int):Bool:=(l.1==g && l.2.2.2.1==page) || (l.2.1==g && l.2.2.2.2.1==page)
theorem QpO (l:QP) (g page:Int):F_k (l,g,page,())=some ((Qbt l g page,()),()):=by
 unfold F_k Qbt;cases l.1==g <;> cases l.2.2.2.1==page <;> cases l.2.1==g <;> rfl
theorem Qqf (l:QP) (g page:Int):F_ck (l,g,page,())=some ((Qbt l g page,()),()):=by
 unfold F_ck Qbt;cases l.1==g <;> cases l.2.2.2.1==page <;> cases l.2.1==g <;> rfl
def clash (l o:QP):Bool:=o.2.2.1==l.2.2.1 || (Qbt o l.1 l.2.2.2.1 || Qbt o l.2.1 l.2.2.2.2.1)
def inB (n a b:Int):Bool:=decide (n≥a) && decide (n≤b)
theorem Qae (n a b:Int):F_cb (n,a,b,())=some ((inB n a b,()),()):=Qbh n a b
theorem QaE (n a b:Int):F_e (n,a,b,())=some ((inB n a b,()),()):=Qcf n a b
def Qea (p:PolD) (l:QP) (ahead:List QP):Int:=
 if QcB p l.1 l.2.1≠0 then QcB p l.1 l.2.1
 else if inB l.2.2.1 0 23=true∧inB l.2.2.2.1 5 6=true∧inB l.2.2.2.2.1 5 6=true then
  (if leI 0 (Qfn p.1 l.2.2.1)=true then 6 else if ahead.any (clash l)=true then 6 else 0) else 3
theorem QsN (l o:QP):F_cl_1 (o,l,())=some ((clash l o,()),()):=by
 unfold F_cl_1 clash;dsimp only;rw [Qqf,Qqf];simp only [Obn];cases o.2.2.1==l.2.2.1 <;> cases Qbt o l.1 l.2.2.2.1 <;> rfl
theorem Qnk (l:QP) (m:List QP) (hm:m.length≤1048576):F_co_1 (m,(l,()),())=some ((m.any (clash l),()),()):=by
 have key:=QY (step:=l_cn_2) (γ:=denO o_j_2) (fun i=>((m,(l,()),((m.length:Nat):Int),((i:Nat):Int),()),(),())) m
  (fun i o=>if clash l o=true then some ((i:Nat):Int) else none) (fun c=>some (.inr (.inl ((c,()),(),())))) (some (.inl ((),(),()))) (Qbu hm) ?_ ?_
 ·unfold F_co_1 F_cm_1;show ((Qd l_cn_2 lots ((m,(l,()),((m.length:Nat):Int),((0:Nat):Int),()),(),())).bind _).bind _=_;rw [key, ←QeW (P:=clash l) (m:=m) (f:=fun i o=>if clash l o=true then some ((i:Nat):Int) else none) (fun _ _=>rfl)]
  cases scan (fun i o=>if clash l o=true then some ((i:Nat):Int) else none) 0 m <;> rfl
 ·intro rec i hi;unfold l_cn_2;dsimp only;rw [if_pos (lt_t hi),if_pos nat0,Qw hi,Qaa (lt1 hi hm),QsN,Obn];dsimp only;cases clash l m[i] <;> rfl
 ·intro rec;unfold l_cn_2;dsimp only;rw [if_neg Qay]
theorem QlW (p:PolD) (l:QP) (ahead:List QP) (h:p.1.length≤1048576) (h2: ∀l∈p.1,l.length≤1048576) (hm:ahead.length≤1048576):F_cl (p,l,ahead,())=some ((Qea p l ahead,()),()):=by
 unfold F_cl Qea;dsimp only;rw [QpQ p _ _ h,Qae,Qae,Qae,QlQ p _ h h2,Qnk l ahead hm];simp only [Obn];by_cases h0:QcB p l.1 l.2.1=0
 ·rw [h0];cases b1:inB l.2.2.1 0 23 <;> cases b2:inB l.2.2.2.1 5 6 <;> cases b3:inB l.2.2.2.2.1 5 6 <;> cases b4:leI 0 (Qfn p.1 l.2.2.1) <;> cases b5:ahead.any (clash l) <;> simp
 ·simp [h0]
def nz (c:Int):Option Int:=if c≠0 then some c else none
def QbK (p:PolD):Option Int:=scan (fun i l=>nz (Qea p l (p.2.1.take i))) 0 p.2.1
theorem Qmf (p:PolD) (i:Nat) (hi:i< p.2.1.length) (hm:p.2.1.length≤1048576) (l:QP) (a1:Int) (a2 a3:Bool) (a4:Int) (a5 a6:Bool):
  (((p.2.1.take i).any (clash l)=true∧Qd l_l_15 lots ((p,(i:Int),(),0,(),a1,a2,a3,(),a4,a5,a6,()),((l.1,l.2.1,l.2.2.1,l.2.2.2.1,l.2.2.2.2.1,()),()),())=some (.inr (.inl ((6,()),(),()))))∨
   ((p.2.1.take i).any (clash l)=false∧ ∃x,Qd l_l_15 lots ((p,(i:Int),(),0,(),a1,a2,a3,(),a4,a5,a6,()),((l.1,l.2.1,l.2.2.1,l.2.2.2.1,l.2.2.2.2.1,()),()),())=some (.inl x)∧x.1.1=p∧x.1.2.1=(i:Int))):=by
 have hl:(p.2.1.take i).length=i:=by simp; omega
 obtain ⟨x,hx,hx1,hx2⟩: ∃x,(∀rec,l_l_15 rec ((p,(i:Int),(),(i:Int),(),a1,a2,a3,(),a4,a5,a6,()),((l.1,l.2.1,l.2.2.1,l.2.2.2.1,l.2.2.2.2.1,()),()),())=some (.inl x))∧x.1.1=p∧x.1.2.1=(i:Int):=by
  refine ⟨((p,(i:Int),(),a1,a2,a3,(),a4,a5,a6,()),((l.1,l.2.1,l.2.2.1,l.2.2.2.1,l.2.2.2.2.1,()),()),()),fun rec=>?_,rfl,rfl⟩
  unfold l_l_15;dsimp only;rw [if_neg Qay]
 have key:=QY (step:=l_l_15) (γ:=denO o_l_15) (fun k=>((p,(i:Int),(),((k:Nat):Int),(),a1,a2,a3,(),a4,a5,a6,()),((l.1,l.2.1,l.2.2.1,l.2.2.2.1,l.2.2.2.2.1,()),()),())) (p.2.1.take i)
  (fun _ o=>if clash l o=true then some () else none) (fun _=>some (.inr (.inl ((6,()),(),())))) (some (.inl x)) (Qbu (by omega)) ?_ ?_
 ·have h1:=Qei (f:=fun (_:Nat) o=>if clash l o=true then some () else none) (p:=clash l) (m:=p.2.1.take i) (i:=0) (fun j hj=>by cases clash l (p.2.1.take i)[j] <;> rfl)
  have e0:((0:Nat):Int)=0:=rfl;rw [e0] at key;rw [key, ←h1];cases scan (fun (_:Nat) o=>if clash l o=true then some () else none) 0 (p.2.1.take i) with
  | some c=>exact .inl ⟨rfl,rfl⟩
  | none=>exact .inr ⟨rfl,x,rfl,hx1,hx2⟩
 ·intro rec k hk;have hk':k< i:=by omega
  unfold l_l_15;dsimp only;rw [if_pos (lt_t hk'),if_pos nat0,Qw (by omega),Qaa (by omega),QpO,QpO,List.getElem_take]
  simp only [Obn,clash];rcases Bool.eq_false_or_eq_true ((p.2.1[k]).2.2.1==l.2.2.1) with c1 | c1 <;> rcases Bool.eq_false_or_eq_true (Qbt p.2.1[k] l.1 l.2.2.2.1) with c2 | c2 <;> rcases Bool.eq_false_or_eq_true (Qbt p.2.1[k] l.2.1 l.2.2.2.2.1) with c3 | c3 <;> simp [c1,c2,c3]
 ·intro rec;rw [hl];exact hx rec
theorem Qhh (p:PolD) (h:p.1.length≤1048576) (h2: ∀l∈p.1,l.length≤1048576) (hm:p.2.1.length≤1048576):
  F_l (p,())=some ((if p.2.1.length≤4∧p.2.2.1.length≤4 then (match QbK p with | some c=>c | none=>0) else 2,()),()):=by
 have key:=QY (step:=l_l_4) (γ:=denO o_l_4) (fun i=>((p,((i:Nat):Int),()),(),())) p.2.1 (fun i l=>nz (Qea p l (p.2.1.take i)))
  (fun c=>some (.inr (.inl ((c,()),(),())))) (some (.inl ((),(),()))) (Qbu hm) ?_ ?_
 ·have e0:((0:Nat):Int)=0:=rfl;rw [e0] at key;unfold F_l QbK;dsimp only;by_cases h1:p.2.1.length≤4
  ·rw [if_pos (by rw [QaR]; omega)]
   by_cases h3:p.2.2.1.length≤4
   ·rw [if_neg (by rw [QD]; omega),if_pos ⟨h1,h3⟩]
    show (Qd l_l_4 lots ((p,0,()),(),())).bind _=_;rw [key];cases scan (fun i l=>nz (Qea p l (p.2.1.take i))) 0 p.2.1 <;> rfl
   ·rw [if_pos (by rw [QD]; omega),if_neg (by omega)]
  ·rw [if_neg (by rw [QaR]; omega),if_neg (by omega)]
 ·intro rec i hi;unfold l_l_4;dsimp only;rw [if_pos (lt_t hi),if_pos nat0,Qw hi,QpG p _ _ h,QaE,QaE,QaE,Qti p _ h h2];simp only [Obn];generalize p.2.1[i]=l;unfold Qea;by_cases h0:QcB p l.1 l.2.1=0
  ·rw [h0];cases b1:inB l.2.2.1 0 23
   ·simp [nz]
   cases b2:inB l.2.2.2.1 5 6
   ·simp [nz]
   cases b3:inB l.2.2.2.2.1 5 6
   ·simp [nz]
   cases b4:leI 0 (Qfn p.1 l.2.2.1)
   ·rw [if_neg (by simp),if_pos (by simp),if_pos (by simp),if_neg (by simp),if_neg (by simp),if_neg (by simp),if_pos (by simp),if_neg (by simp)]
    rcases Qmf p i hi hm l l.2.2.2.1 true (!true) l.2.2.2.2.1 true (!true) with ⟨g1,g2⟩ | ⟨g1,x,g2,g3,g4⟩
    ·show (Qd l_l_15 lots ((p,(i:Int),(),0,(),l.2.2.2.1,true,(!true),(),l.2.2.2.2.1,true,(!true),()),((l.1,l.2.1,l.2.2.1,l.2.2.2.1,l.2.2.2.2.1,()),()),())).bind _=_;rw [g1,g2];rfl
    ·show (Qd l_l_15 lots ((p,(i:Int),(),0,(),l.2.2.2.1,true,(!true),(),l.2.2.2.2.1,true,(!true),()),((l.1,l.2.1,l.2.2.1,l.2.2.2.1,l.2.2.2.2.1,()),()),())).bind _=_;rw [g1,g2,Obn];dsimp only;rw [g3,g4,Qaa (lt1 hi hm)];rfl
   ·simp [nz]
  ·simp [h0,nz]
 ·intro rec;unfold l_l_4;dsimp only;rw [if_neg Qay]
def Qam (b o:TwoD):Bool:=(b.1==o.1) && ((b.2.1==o.2.1) && true)
def QeU (p:PolD) (b:TwoD) (ahead:List TwoD):Int:=if QcB p b.1 b.2.1≠0 then QcB p b.1 b.2.1 else if ahead.any (Qam b)=true then 6 else 0
def QdM (p:PolD):Option Int:=scan (fun i b=>nz (QeU p b (p.2.2.1.take i))) 0 p.2.2.1
def Qih (p:PolD):Int:=if 1≤p.2.2.2.1.length∧p.2.2.2.1.length≤8 then
 (match scan (fun (_:Nat) (s:TwoD)=>if isG p s.1=true then (if inB s.2.1 1 50=true then none else some (3:Int)) else some 4) 0 p.2.2.2.1 with | some c=>c | none=>0) else 2
theorem QoX (b o:TwoD):Qam b o=Qam o b:=by
 unfold Qam;rw [Bool.eq_iff_iff];simp;constructor <;> rintro ⟨h1,h2⟩ <;> exact ⟨h1.symm,h2.symm⟩
theorem QhT (b:TwoD) (m:List TwoD) (hm:m.length≤1048576):F_cq (m,b,())=some ((m.any (Qam b),()),()):=by
 have key:=QY (step:=l_cp_2) (γ:=denO o_j_2) (fun i=>((m,(),((m.length:Nat):Int),((i:Nat):Int),()),((b.1,b.2.1,()),()),())) m
  (fun i o=>if Qam b o=true then some ((i:Nat):Int) else none) (fun c=>some (.inr (.inl ((c,()),(),())))) (some (.inl ((),(),()))) (Qbu hm) ?_ ?_
 ·unfold F_cq F_cp;show ((Qd l_cp_2 lots ((m,(),((m.length:Nat):Int),((0:Nat):Int),()),((b.1,b.2.1,()),()),())).bind _).bind _=_;rw [key, ←QeW (P:=Qam b) (m:=m) (f:=fun i o=>if Qam b o=true then some ((i:Nat):Int) else none) (fun _ _=>rfl)]
  cases scan (fun i o=>if Qam b o=true then some ((i:Nat):Int) else none) 0 m <;> rfl
 ·intro rec i hi;unfold l_cp_2;dsimp only;rw [if_pos (lt_t hi),if_pos nat0,Qw hi,Qaa (lt1 hi hm)];show (if Qam b m[i]=true then _ else _)=_
  cases Qam b m[i] <;> rfl
 ·intro rec;unfold l_cp_2;dsimp only;rw [if_neg Qay]
theorem QlI (p:PolD) (b:TwoD) (ahead:List TwoD) (h:p.1.length≤1048576) (hm:ahead.length≤1048576):F_cr (p,b,ahead,())=some ((QeU p b ahead,()),()):=by
 unfold F_cr QeU;dsimp only;rw [QpQ p _ _ h,QhT b ahead hm];simp only [Obn];by_cases h0:QcB p b.1 b.2.1=0
 ·rw [h0];cases ahead.any (Qam b) <;> simp
 ·simp [h0]
theorem QhL (p:PolD) (i:Nat) (hi:i< p.2.2.1.length) (hm:p.2.2.1.length≤1048576) (b:TwoD):
  Qd l_w_9 lots ((p,(i:Int),(),0,()),((b.1,b.2.1,()),()),())=if (p.2.2.1.take i).any (Qam b)=true then some (.inr (.inl ((6,()),(),()))) else some (.inl ((p,(i:Int),()),(),())):=by
 have hl:(p.2.2.1.take i).length=i:=by simp; omega
 have key:=QY (step:=l_w_9) (γ:=denO o_w_9) (fun k=>((p,(i:Int),(),((k:Nat):Int),()),((b.1,b.2.1,()),()),())) (p.2.2.1.take i)
  (fun _ o=>if Qam b o=true then some () else none) (fun _=>some (.inr (.inl ((6,()),(),())))) (some (.inl ((p,(i:Int),()),(),()))) (Qbu (by omega)) ?_ ?_
 ·have h1:=Qei (f:=fun (_:Nat) o=>if Qam b o=true then some () else none) (p:=Qam b) (m:=p.2.2.1.take i) (i:=0) (fun j hj=>by cases Qam b (p.2.2.1.take i)[j] <;> rfl)
  have e0:((0:Nat):Int)=0:=rfl;rw [e0] at key;rw [key, ←h1];cases scan (fun (_:Nat) o=>if Qam b o=true then some () else none) 0 (p.2.2.1.take i) <;> rfl
 ·intro rec k hk;have hk':k< i:=by omega
  unfold l_w_9;dsimp only;rw [if_pos (lt_t hk'),if_pos nat0,Qw (by omega),Qaa (by omega),List.getElem_take]
  show (if Qam p.2.2.1[k] b=true then _ else _)=_
  rw [QoX];cases Qam b p.2.2.1[k] <;> rfl
 ·intro rec;unfold l_w_9;dsimp only;rw [hl,if_neg Qay]
theorem Qke (p:PolD) (h:p.1.length≤1048576) (hm:p.2.2.2.1.length≤1048576):
  Qd l_w_16 lots ((p,0,()),(),())=match scan (fun (_:Nat) (s:TwoD)=>if isG p s.1=true then (if inB s.2.1 1 50=true then none else some (3:Int)) else some 4) 0 p.2.2.2.1 with
   | some c=>some (.inr (.inl ((c,()),(),()))) | none=>some (.inl ((),(),())):=by
 have key:=QY (step:=l_w_16) (γ:=denO o_g_15) (fun i=>((p,((i:Nat):Int),()),(),())) p.2.2.2.1 (fun (_:Nat) (s:TwoD)=>if isG p s.1=true then (if inB s.2.1 1 50=true then none else some (3:Int)) else some 4) (fun c=>some (.inr (.inl ((c,()),(),())))) (some (.inl ((),(),()))) (Qbu hm) ?_ ?_
 ·have e0:((0:Nat):Int)=0:=rfl;rw [e0] at key;rw [key];cases scan (fun (_:Nat) (s:TwoD)=>if isG p s.1=true then (if inB s.2.1 1 50=true then none else some (3:Int)) else some 4) 0 p.2.2.2.1 <;> rfl
 ·intro rec i hi;unfold l_w_16;dsimp only;rw [if_pos (lt_t hi),if_pos nat0,Qw hi,Qgu p _ h,Obn];cases b1:isG p (p.2.2.2.1[i]).1
  ·simp
  ·rw [if_neg (by simp),if_pos nat0,Qw hi,QaE,Obn]
   cases b2:inB (p.2.2.2.1[i]).2.1 1 50
   ·simp
   ·rw [if_neg (by simp),Qaa (lt1 hi hm)]; simp
 ·intro rec;unfold l_w_16;dsimp only;rw [if_neg Qay]
theorem QnJ (p:PolD) (h:p.1.length≤1048576) (h3:p.2.2.1.length≤1048576) (h4:p.2.2.2.1.length≤1048576):
  F_w (p,())=some ((match QdM p with | some c=>c | none=>Qih p,()),()):=by
 have key:=QY (step:=l_w_2) (γ:=denO o_g_4) (fun i=>((p,((i:Nat):Int),()),(),())) p.2.2.1 (fun i b=>nz (QeU p b (p.2.2.1.take i)))
  (fun c=>some (.inr (.inl ((c,()),(),())))) (some (.inl ((p,()),(),()))) (Qbu h3) ?_ ?_
 ·have e0:((0:Nat):Int)=0:=rfl;rw [e0] at key;unfold F_w QdM;show (Qd l_w_2 lots ((p,0,()),(),())).bind _=_;rw [key];cases scan (fun i b=>nz (QeU p b (p.2.2.1.take i))) 0 p.2.2.1 with
  | some c=>rfl
  | none=>
   rw [Obn];dsimp only;unfold Qih;by_cases g1:1≤p.2.2.2.1.length
   ·rw [if_pos (by rw [QaR]; omega)]
    by_cases g2:p.2.2.2.1.length≤8
    ·rw [if_neg (by rw [QD]; omega),if_pos ⟨g1,g2⟩]
     show (Qd l_w_16 lots ((p,0,()),(),())).bind _=_;rw [Qke p h h4];cases scan (fun (_:Nat) (s:TwoD)=>if isG p s.1=true then (if inB s.2.1 1 50=true then none else some (3:Int)) else some 4) 0 p.2.2.2.1 <;> rfl
    ·rw [if_pos (by rw [QD]; omega),if_neg (by omega)]
   ·rw [if_neg (by rw [QaR]; omega),if_neg (by omega)]
 ·intro rec i hi;unfold l_w_2;dsimp only;rw [if_pos (lt_t hi),if_pos nat0,Qw hi,QpG p _ _ h,Obn];generalize p.2.2.1[i]=b;unfold QeU;by_cases h0:QcB p b.1 b.2.1=0
  ·rw [h0,if_neg (by simp)]
   show (Qd l_w_9 lots ((p,(i:Int),(),0,()),((b.1,b.2.1,()),()),())).bind _=_;rw [QhL p i hi h3 b];cases (p.2.2.1.take i).any (Qam b)
   ·rw [if_neg (by simp),Obn]
    dsimp only;rw [Qaa (lt1 hi h3)];rfl
   ·rfl
  ·simp [h0,nz]
 ·intro rec;unfold l_w_2;dsimp only;rw [if_neg Qay]
theorem QmZ (p:PolD) (h:p.1.length≤1048576) (hm:p.2.2.2.1.length≤1048576):F_cs (p,())=some ((Qih p,()),()):=by
 have key:=QY (step:=l_cs_4) (γ:=denO o_l_4) (fun i=>((p,p.2.2.2.1,((p.2.2.2.1.length:Nat):Int),((i:Nat):Int),()),(),())) p.2.2.2.1
  (fun (_:Nat) (s:TwoD)=>if isG p s.1=true then (if inB s.2.1 1 50=true then none else some (3:Int)) else some 4) (fun c=>some (.inr (.inl ((c,()),(),())))) (some (.inl ((),(),()))) (Qbu hm) ?_ ?_
 ·have e0:((0:Nat):Int)=0:=rfl;rw [e0] at key;unfold F_cs Qih;dsimp only;rw [Qae,Obn];by_cases g:1≤p.2.2.2.1.length∧p.2.2.2.1.length≤8
  ·have:inB ((p.2.2.2.1.length:Nat):Int) 1 8=true:=by unfold inB; simp; omega
   rw [this,if_neg (by simp),if_pos g]
   show (Qd l_cs_4 lots ((p,p.2.2.2.1,((p.2.2.2.1.length:Nat):Int),0,()),(),())).bind _=_;rw [key];cases scan (fun (_:Nat) (s:TwoD)=>if isG p s.1=true then (if inB s.2.1 1 50=true then none else some (3:Int)) else some 4) 0 p.2.2.2.1 <;> rfl
  ·have:inB ((p.2.2.2.1.length:Nat):Int) 1 8=false:=by unfold inB; simp; omega
   rw [this,if_pos (by simp),if_neg g]
 ·intro rec i hi;unfold l_cs_4;dsimp only;rw [if_pos (lt_t hi),if_pos nat0,Qw hi,QeA p _ h,Obn,Qae,Obn,Qaa (lt1 hi hm)];cases b1:isG p (p.2.2.2.1[i]).1
  ·simp
  ·cases b2:inB (p.2.2.2.1[i]).2.1 1 50 <;> simp
 ·intro rec;unfold l_cs_4;dsimp only;rw [if_neg Qay]
def own1 (l:List Int):Option Int:=if 1≤l.length∧l.length≤5 then scan (fun (_:Nat) x=>if inB x 0 23=true then none else some (3:Int)) 0 l else some 2
def dupM:List Int→List Int→Bool
 | _,[]=>false
 | seen,x::r=>seen.contains x || dupM (seen++[x]) r
def QdK (own:List (List Int)):Int:=if 1≤own.length∧own.length≤3 then (match scan (fun (_:Nat) l=>own1 l) 0 own with | some c=>c | none=>if dupM [] own.flatten=true then 6 else 0) else 2
theorem QnH {T:Type} (p:PolD) (i:Nat) (hi:i< p.1.length) (hl:(p.1[i]).length≤1048576) (a1 a2:PolD) (b1 b2:List (List Int)) (c:Int) (d1 d2:List Int) (e1:Int) (e2:Bool):
  ((scan (fun (_:Nat) x=>if inB x 0 23=true then none else some (3:Int)) 0 p.1[i]=none∧ ∃x,Qd l_g_9 lots ((p,(i:Int),0,a1,a2,b1,b2,c,d1,d2,e1,e2,()),(),())=some (.inl x)∧x.1.1=p∧x.1.2.1=(i:Int))∨
   (scan (fun (_:Nat) x=>if inB x 0 23=true then none else some (3:Int)) 0 p.1[i]=some 3∧Qd l_g_9 lots ((p,(i:Int),0,a1,a2,b1,b2,c,d1,d2,e1,e2,()),(),())=some (.inr (.inl ((3,()),(),()))))):=by
 have key:=QY (step:=l_g_9) (γ:=denO o_g_9) (fun k=>((p,(i:Int),((k:Nat):Int),a1,a2,b1,b2,c,d1,d2,e1,e2,()),(),())) p.1[i]
  (fun (_:Nat) x=>if inB x 0 23=true then none else some (3:Int)) (fun c=>some (.inr (.inl ((c,()),(),())))) (some (.inl ((p,(i:Int),a1,a2,b1,b2,c,d1,d2,e1,e2,()),(),()))) (Qbu hl) ?_ ?_
 ·have e0:((0:Nat):Int)=0:=rfl;rw [e0] at key;rw [key];cases hs:scan (fun (_:Nat) x=>if inB x 0 23=true then none else some (3:Int)) 0 p.1[i] with
  | none=>exact .inl ⟨rfl,_,rfl,rfl,rfl⟩
  | some c=>
   have:c=3:=QcW (P:=fun c=>c=3) (fun j hj c hc=>by
    split at hc
    ·cases hc
    ·exact (Osj hc).symm) c hs
   subst this;exact .inr ⟨rfl,rfl⟩
 ·intro rec k hk;unfold l_g_9;dsimp only;rw [if_pos nat0,Qw hi,if_pos (lt_t hk),if_pos nat0,Qw hi,if_pos nat0,Qw hk,QaE,Obn,Qaa (lt1 hk hl)];cases inB (p.1[i])[k] 0 23 <;> rfl
 ·intro rec;unfold l_g_9;dsimp only;rw [if_pos nat0,Qw hi,if_neg Qay]
theorem QeY: ∀(l seen r:List Int),dupM seen (l++r)=(dupM seen l || dupM (seen++l) r)
 | [],seen,r=>by simp [dupM]
 | x::l,seen,r=>by
  simp only [List.cons_append,dupM,QeY l (seen++[x]) r,Bool.or_assoc,List.append_assoc,List.singleton_append,List.nil_append]
theorem QnK (p:PolD) (seen:List Int) (i:Nat) (hi:i< p.1.length) (hl:(p.1[i]).length≤1048576) (hs:seen.length≤4194304) (hs2:seen.length+(p.1[i]).length≤1048576):
  Qd l_g_18 lots ((p,seen,(i:Int),0,()),(),())=if dupM seen p.1[i]=true then some (.inr (.inl ((6,()),(),()))) else some (.inl ((p,seen++p.1[i],(i:Int),()),(),())):=by
 have key:=QgU (step:=l_g_18) (γ:=denO o_g_18) (fun k (s:List Int)=>((p,s,(i:Int),((k:Nat):Int),()),(),())) (p.1[i]).length (Qbv (Qbu hl)) (fun k s=>s=seen++(p.1[i]).take k)
  (fun k s=>if dupM s ((p.1[i]).drop k)=true then some (.inr (.inl ((6,()),(),()))) else some (.inl ((p,seen++p.1[i],(i:Int),()),(),()))) ?_ 0 seen (by omega) (by simp)
 ·exact key
 ·rintro rec k s hk hsk ih;unfold l_g_18;dsimp only;rw [if_pos nat0,Qw hi];by_cases hlt:k< (p.1[i]).length
  ·have hsl:s.length=seen.length+k:=by rw [hsk]; simp; omega
   rw [if_pos (lt_t hlt),if_pos nat0,Qw hi,if_pos nat0,Qw hlt,Qnj _ _ (by omega),Obn,QbF hlt]
   rw [show dupM s ((p.1[i])[k]::(p.1[i]).drop (k+1))=(s.contains (p.1[i])[k] || dupM (s++[(p.1[i])[k]]) ((p.1[i]).drop (k+1))) from rfl]
   by_cases hc:s.contains (p.1[i])[k]=true
   ·rw [if_pos hc,hc];simp
   ·rw [if_neg hc,if_pos nat0,Qw hi,if_pos nat0,Qw hlt,if_pos (by simp; omega),Qaa (lt1 hlt hl)]
    have hc':s.contains (p.1[i])[k]=false:=by simpa using hc
    rw [hc',Bool.false_or];refine ih _ hlt ?_;rw [hsk,List.append_assoc,List.take_add_one,List.getElem?_eq_getElem hlt];rfl
  ·rw [if_neg (lt_f hlt),Qdh hlt];rw [show dupM s []=false from rfl]
   rw [hsk,List.take_of_length_le (by omega)]
   simp
theorem QkD {own:List (List Int)} {i:Nat} (hi:i< own.length):(own.take (i+1)).flatten=(own.take i).flatten++own[i]:=by
 have e:own.take (i+1)=own.take i++[own[i]]:=by rw [List.take_add_one,List.getElem?_eq_getElem hi]; rfl
 rw [e,List.flatten_append];simp
theorem Qth {l:List Int} (h:own1 l=none):l.length≤5:=by
 unfold own1 at h;split at h
 ·rename_i h'; exact h'.2
 ·cases h
theorem QfM {α β:Type} {f:Nat→α→Option β}: ∀{m:List α} {i:Nat},scan f i m=none→ ∀j (h:j< m.length),f (i+j) m[j]=none
 | [],_,_,j,h=>by simp at h
 | x::r,i,hs,j,h=>by
  simp only [scan] at hs;split at hs
  ·cases hs
  ·rename_i h0;cases j with
   | zero=>simpa using h0
   | succ j=>
    have:=QfM hs j (by simpa using h)
    simpa [Nat.add_assoc,Nat.add_comm,Nat.add_left_comm] using this
theorem QmL {own:List (List Int)} (h: ∀j (hj:j< own.length),(own[j]).length≤5): ∀i,i≤own.length→(own.take i).flatten.length≤5*i
 | 0,_=>by simp
 | i+1,hi=>by
  rw [QkD (by omega),List.length_append]
  have:=QmL h i (by omega)
  have:=h i (by omega)
  omega
theorem Qin (p:PolD) (h:p.1.length≤1048576) (h2: ∀l∈p.1,l.length≤1048576):F_g (p,())=some ((QdK p.1,()),()):=by
 unfold F_g QdK;dsimp only;by_cases g1:1≤p.1.length
 case neg=>rw [if_neg (by rw [QaR]; omega),if_neg (by omega)]
 rw [if_pos (by rw [QaR]; omega)]
 by_cases g2:p.1.length≤3
 case neg=>rw [if_pos (by rw [QD]; omega),if_neg (by omega)]
 rw [if_neg (by rw [QD]; omega),if_pos ⟨g1,g2⟩]
 have key:=QY (step:=l_g_4) (γ:=denO o_g_4) (fun i=>((p,((i:Nat):Int),()),(),())) p.1 (fun (_:Nat) l=>own1 l)
  (fun c=>some (.inr (.inl ((c,()),(),())))) (some (.inl ((p,()),(),()))) (Qbu h) ?_ ?_
 ·have e0:((0:Nat):Int)=0:=rfl;rw [e0] at key;show (Qd l_g_4 lots ((p,0,()),(),())).bind _=_;rw [key];cases hs:scan (fun (_:Nat) l=>own1 l) 0 p.1 with
  | some c=>rfl
  | none=>
   rw [Obn];dsimp only;have h5: ∀j (hj:j< p.1.length),(p.1[j]).length≤5:=fun j hj=>Qth (QfM hs j hj)
   have key2:=QgU (step:=l_g_15) (γ:=denO o_g_15) (fun k (s:List Int)=>((p,s,((k:Nat):Int),()),(),())) p.1.length (Qbv (Qbu h)) (fun k s=>s=(p.1.take k).flatten)
    (fun k s=>if dupM s ((p.1.drop k).flatten)=true then some (.inr (.inl ((6,()),(),()))) else some (.inl ((),(),()))) ?_ 0 [] (by omega) (by simp)
   ·show (Qd l_g_15 lots ((p,[],0,()),(),())).bind _=_;rw [e0] at key2;rw [key2,List.drop_zero];cases dupM [] p.1.flatten <;> rfl
   ·rintro rec k s hk hsk ih;unfold l_g_15;dsimp only;by_cases hlt:k< p.1.length
    ·have hfl:=QmL h5 k hk;rw [←hsk] at hfl;have:=h5 k hlt;rw [if_pos (lt_t hlt),QbF hlt,List.flatten_cons,QeY];show (Qd l_g_18 lots ((p,s,(k:Int),0,()),(),())).bind _=_;rw [QnK p s k hlt (by omega) (by omega) (by omega)]
     cases hd:dupM s p.1[k]
     ·rw [if_neg (by simp),Obn]
      dsimp only;rw [Qaa (lt1 hlt h),Bool.false_or];exact ih _ hlt (by rw [hsk,QkD hlt])
     ·rfl
    ·rw [if_neg (lt_f hlt),Qdh hlt];rfl
 ·intro rec i hi;unfold l_g_4;dsimp only;have hl:=h2 _ (List.getElem_mem hi);rw [if_pos (lt_t hi),if_pos nat0,Qw hi];unfold own1;by_cases k1:1≤(p.1[i]).length
  case neg=>rw [if_neg (by rw [QaR]; omega),if_neg (by omega)]
  rw [if_pos (by rw [QaR]; omega),if_pos nat0,Qw hi]
  by_cases k2:(p.1[i]).length≤5
  case neg=>rw [if_pos (by rw [QD]; omega),if_neg (by omega)]
  rw [if_neg (by rw [QD]; omega),if_pos ⟨k1,k2⟩]
  rcases QnH (T:=Unit) p i hi hl p p p.1 p.1 (i:Int) p.1[i] p.1[i] (((p.1[i]).length:Nat):Int) (ltI 5 (((p.1[i]).length:Nat):Int)) with ⟨g,x,g3,g4,g5⟩ | ⟨g,g3⟩
  ·show (Qd l_g_9 lots _).bind _=_;rw [g,g3,Obn];dsimp only;rw [g4,g5,Qaa (lt1 hi h)]
  ·show (Qd l_g_9 lots _).bind _=_;rw [g,g3];rfl
 ·intro rec;unfold l_g_4;dsimp only;rw [if_neg Qay]
theorem QqM (es:List (Int×Bool)) (x y:Int):getM (setM es x true) y=(y==x || getM es y):=by
 induction es with
 | nil=>
  simp only [setM,getM];by_cases e:x=y
  ·subst e; simp
  ·rw [if_neg e]; simp [Ne.symm e]
 | cons a r ih=>
  simp only [setM,getM];by_cases e:a.1=x
  ·rw [if_pos e];simp only [getM];by_cases e2:x=y
   ·subst e2; simp
   ·rw [if_neg e2,if_neg (by rw [e]; exact e2)]; simp [Ne.symm e2]
  ·rw [if_neg e];simp only [getM];by_cases e2:a.1=y
   ·subst e2; rw [if_pos rfl,if_pos rfl]; simp [e]
   ·rw [if_neg e2,if_neg e2,ih]
theorem QlR {T1 T2 T3:Int} (es:List (Int×Bool)) (t:Bool) (own:List (List Int)) (a b:Int) (l:List Int) (hl:l.length≤1048576) (seen:List Int) (hes: ∀y,getM es y=seen.contains y):
  (∃es',scan (fun (_:Nat) x=>if inB x 0 23=true then none else some (3:Int)) 0 l=none∧(∀y,getM es' y=(seen++l).contains y)∧
   Qd l_cc_10 lots ((es,t,own,a,b,l,((l.length:Nat):Int),0,()),(),())=some (.inl ((es',t || dupM seen l,own,a,b,()),(),())))∨
  (scan (fun (_:Nat) x=>if inB x 0 23=true then none else some (3:Int)) 0 l=some 3∧Qd l_cc_10 lots ((es,t,own,a,b,l,((l.length:Nat):Int),0,()),(),())=some (.inr (.inl ((3,()),(),())))):=by
 have key: ∀n (k:Nat) (es:List (Int×Bool)) (t:Bool) (seen:List Int),l.length-k< n→k≤l.length→(∀y,getM es y=seen.contains y)→
   (∃es',scan (fun (_:Nat) x=>if inB x 0 23=true then none else some (3:Int)) k (l.drop k)=none∧(∀y,getM es' y=(seen++l.drop k).contains y)∧
   Qd l_cc_10 n ((es,t,own,a,b,l,((l.length:Nat):Int),((k:Nat):Int),()),(),())=some (.inl ((es',t || dupM seen (l.drop k),own,a,b,()),(),())))∨
   (scan (fun (_:Nat) x=>if inB x 0 23=true then none else some (3:Int)) k (l.drop k)=some 3∧Qd l_cc_10 n ((es,t,own,a,b,l,((l.length:Nat):Int),((k:Nat):Int),()),(),())=some (.inr (.inl ((3,()),(),())))):=by
  intro n
  induction n with
  | zero=>intro k _ _ _ h; omega
  | succ n ih=>
   intro k es t seen hn hk hes;simp only [Qd];generalize Qd l_cc_10 n=rec at ih⊢;by_cases hlt:k< l.length
   ·have hw:IntKind.i64.wrap ((k:Int)+1)=((k+1:Nat):Int):=Qaa (lt1 hlt hl);rw [QbF hlt];simp only [scan,dupM]
    have hes2: ∀y,getM (setM es l[k] true) y=(seen++[l[k]]).contains y:=by
     intro y;rw [QqM,hes];rw [Bool.eq_iff_iff];simp [or_comm]
    cases hb:inB l[k] 0 23
    ·right;refine ⟨by simp,?_⟩
     unfold l_cc_10;dsimp only;rw [if_pos (lt_t hlt),if_pos nat0,Qw hlt,Qae,Obn,hb];rfl
    ·have go:l_cc_10 rec ((es,t,own,a,b,l,((l.length:Nat):Int),((k:Nat):Int),()),(),())=rec ((setM es l[k] true,t || seen.contains l[k],own,a,b,l,((l.length:Nat):Int),((k+1:Nat):Int),()),(),()):=by
      unfold l_cc_10;dsimp only;rw [if_pos (lt_t hlt),if_pos nat0,Qw hlt,Qae,Obn,hb,if_neg (by simp),hw, ←hes]
      cases t <;> rfl
     rw [go];rcases ih (k+1) (setM es l[k] true) (t || seen.contains l[k]) (seen++[l[k]]) (by omega) (by omega) hes2 with ⟨es',g1,g2,g3⟩ | ⟨g1,g2⟩
     ·left;refine ⟨es',by simpa using g1,fun y=>by rw [g2]; simp,?_⟩
      rw [g3,Bool.or_assoc]
     ·right;exact ⟨by simpa using g1,g2⟩
   ·left;rw [Qdh hlt];refine ⟨es,rfl,by simpa using hes,?_⟩
    unfold l_cc_10;dsimp only;rw [if_neg (lt_f hlt)];simp [dupM]
 simpa using key lots 0 es t seen (by have:=Qbv (Qbu hl); omega) (by omega) hes
theorem QmX (p:PolD) (h:p.1.length≤1048576) (h2: ∀l∈p.1,l.length≤1048576):F_cc (p,())=some ((QdK p.1,()),()):=by
 unfold F_cc QdK;dsimp only;rw [Qae,Obn];by_cases g:1≤p.1.length∧p.1.length≤3
 case neg=>
  have:inB ((p.1.length:Nat):Int) 1 3=false:=by unfold inB; simp; omega
  rw [this,if_pos (by simp),if_neg g]
 have:inB ((p.1.length:Nat):Int) 1 3=true:=by unfold inB; simp; omega
 rw [this,if_neg (by simp),if_pos g]
 have key: ∀n (k:Nat) (es:List (Int×Bool)) (t:Bool) (seen:List Int),p.1.length-k< n→k≤p.1.length→(∀y,getM es y=seen.contains y)→
   (Qd l_cc_5 n ((es,t,p.1,((p.1.length:Nat):Int),((k:Nat):Int),()),(),())=match scan (fun (_:Nat) l=>own1 l) k (p.1.drop k) with
    | some c=>some (.inr (.inl ((c,()),(),()))) | none=>some (.inl ((t || dupM seen (p.1.drop k).flatten,()),(),()))):=by
  intro n
  induction n with
  | zero=>intro k _ _ _ h; omega
  | succ n ih=>
   intro k es t seen hn hk hes;simp only [Qd];generalize Qd l_cc_5 n=rec at ih⊢;by_cases hlt:k< p.1.length
   ·have hl:=h2 _ (List.getElem_mem hlt);rw [QbF hlt];simp only [scan,List.flatten_cons,QeY];unfold l_cc_5 own1;dsimp only;rw [if_pos (lt_t hlt),if_pos nat0,Qw hlt,Qae,Obn];by_cases g1:1≤(p.1[k]).length∧(p.1[k]).length≤5
    ·have:inB (((p.1[k]).length:Nat):Int) 1 5=true:=by unfold inB; simp; omega
     rw [this,if_neg (by simp),if_pos g1]
     rcases QlR (T1:=0) (T2:=0) (T3:=0) es t p.1 ((p.1.length:Nat):Int) ((k:Nat):Int) p.1[k] hl seen hes with ⟨es',q1,q2,q3⟩ | ⟨q1,q2⟩
     ·show (Qd l_cc_10 lots _).bind _=_;rw [q1,q3,Obn];dsimp only;rw [Qaa (lt1 hlt h),ih (k+1) es' _ (seen++p.1[k]) (by omega) (by omega) q2,Bool.or_assoc]
      rfl
     ·show (Qd l_cc_10 lots _).bind _=_;rw [q1,q2];rfl
    ·have:inB (((p.1[k]).length:Nat):Int) 1 5=false:=by unfold inB; simp; omega
     rw [this,if_pos (by simp),if_neg g1]
   ·rw [Qdh hlt];unfold l_cc_5;dsimp only;rw [if_neg (lt_f hlt)];simp [scan,dupM]
 have k0:=key lots 0 [] false [] (by have:=Qbv (Qbu h); omega) (by omega) (fun y=>by simp [getM])
 have e0:((0:Nat):Int)=0:=rfl;rw [e0,List.drop_zero] at k0;show (Qd l_cc_5 lots (([],false,p.1,((p.1.length:Nat):Int),0,()),(),())).bind _=_;rw [k0];cases scan (fun (_:Nat) l=>own1 l) 0 p.1 with
 | some c=>rfl
 | none=>
  rw [Obn];dsimp only;cases dupM [] p.1.flatten <;> rfl
def polM (p:PolD):Int:=
 if QdK p.1≠0 then QdK p.1
 else if p.2.1.length≤4∧p.2.2.1.length≤4 then (match QbK p with | some c=>c | none=>match QdM p with | some c=>c | none=>Qih p) else 2
theorem QuJ {c d:Int} (h:nz c=some d):d≠0:=by
 unfold nz at h;split at h
 ·rename_i h'; rw [←Osj h]; exact h'
 ·cases h
theorem QhB {p:PolD} {c:Int} (h:QbK p=some c):c≠0:=QcW (P:=fun c=>c≠0) (fun j hj c hc=>QuJ hc) c h
theorem Qqw {p:PolD} {c:Int} (h:QdM p=some c):c≠0:=QcW (P:=fun c=>c≠0) (fun j hj c hc=>QuJ hc) c h
theorem QjB (p:PolD) (h:Qhc 1048576 p):F_x (p,())=some ((polM p,()),()):=by
 obtain ⟨⟨a1,a2⟩,a3,a4,a5⟩:=h;unfold F_x polM;rw [Qin p a1 a2,Qhh p a1 a2 a3,QnJ p a1 a4 a5];simp only [Obn];by_cases h0:QdK p.1=0
 ·simp only [h0,bne_self_eq_false,Bool.false_eq_true,if_false,ne_eq,not_true_eq_false];by_cases h4:p.2.1.length≤4∧p.2.2.1.length≤4
  ·simp only [if_pos h4];cases hl:QbK p with
   | some c=>have:=QhB hl; simp [this]
   | none=>simp <;> (cases QdM p <;> rfl)
  ·simp [if_neg h4]
 ·rw [if_pos (by simpa using h0),if_pos h0]
theorem Qey (p:PolD) (h:Qhc 1048576 p):F_ct (p,())=some ((polM p,()),()):=by
 obtain ⟨⟨a1,a2⟩,a3,a4,a5⟩:=h;unfold F_ct polM;dsimp only;rw [QmX p a1 a2,Obn];dsimp only;by_cases h0:QdK p.1=0
 case neg=>rw [if_pos (by simpa using h0),if_pos h0]
 simp only [h0,bne_self_eq_false,Bool.false_eq_true,if_false,ne_eq,not_true_eq_false];by_cases h1:p.2.1.length≤4
 case neg=>rw [if_neg (by rw [QaR]; omega),if_neg (by omega)]
 rw [if_pos (by rw [QaR]; omega)]
 by_cases h3:p.2.2.1.length≤4
 case neg=>rw [if_pos (by rw [QD]; omega),if_neg (by omega)]
 rw [if_neg (by rw [QD]; omega),if_pos ⟨h1,h3⟩]
 have key1:=QY (step:=l_ct_7) (γ:=denO o_ct_7) (fun i=>(((),p.2.1,((p.2.1.length:Nat):Int),((i:Nat):Int),()),(p,()),())) p.2.1 (fun i l=>nz (Qea p l (p.2.1.take i)))
  (fun c=>some (.inr (.inl ((c,()),(),())))) (some (.inl (((),()),(p,()),()))) (Qbu a3) ?_ ?_
 ·have key2:=QY (step:=l_ct_14) (γ:=denO o_ct_14) (fun i=>(((),p.2.2.1,((p.2.2.1.length:Nat):Int),((i:Nat):Int),()),(p,()),())) p.2.2.1 (fun i b=>nz (QeU p b (p.2.2.1.take i)))
   (fun c=>some (.inr (.inl ((c,()),(),())))) (some (.inl (((),()),(p,()),()))) (Qbu a4) ?_ ?_
  ·have e0:((0:Nat):Int)=0:=rfl;rw [e0] at key1 key2;show (Qd l_ct_7 lots (((),p.2.1,((p.2.1.length:Nat):Int),0,()),(p,()),())).bind _=_;rw [key1];unfold QbK;cases scan (fun i l=>nz (Qea p l (p.2.1.take i))) 0 p.2.1 with
   | some c=>rfl
   | none=>
    rw [Obn];dsimp only;show (Qd l_ct_14 lots (((),p.2.2.1,((p.2.2.1.length:Nat):Int),0,()),(p,()),())).bind _=_;rw [key2];unfold QdM;cases scan (fun i b=>nz (QeU p b (p.2.2.1.take i))) 0 p.2.2.1 with
    | some c=>rfl
    | none=>
     rw [Obn];dsimp only;rw [QmZ p a1 a5,Obn]
  ·intro rec i hi;unfold l_ct_14;dsimp only;rw [if_pos (lt_t hi),if_pos nat0,Qw hi,if_pos (show (0:Int)≤0∧(0:Int)≤(i:Int)∧(i:Int)≤((p.2.2.1.length:Nat):Int) from ⟨by omega,by omega,by omega⟩),Qaa (lt1 hi a4)]
   have e:(p.2.2.1.drop (0:Int).toNat).take (((i:Nat):Int).toNat-(0:Int).toNat)=p.2.2.1.take i:=by simp
   rw [e,QlI p _ _ a1 (by simp; omega),Obn]
   dsimp only;unfold nz;by_cases g:QeU p p.2.2.1[i] (p.2.2.1.take i)=0
   ·rw [if_neg (by simpa using g),if_neg (by simpa using g)]
   ·rw [if_pos (by simpa using g),if_pos (by simpa using g)]
  ·intro rec;unfold l_ct_14;dsimp only;rw [if_neg Qay]
 ·intro rec i hi;unfold l_ct_7;dsimp only;rw [if_pos (lt_t hi),if_pos nat0,Qw hi,if_pos (show (0:Int)≤0∧(0:Int)≤(i:Int)∧(i:Int)≤((p.2.1.length:Nat):Int) from ⟨by omega,by omega,by omega⟩),Qaa (lt1 hi a3)]
  have e:(p.2.1.drop (0:Int).toNat).take (((i:Nat):Int).toNat-(0:Int).toNat)=p.2.1.take i:=by simp
  rw [e,QlW p _ _ a1 a2 (by simp; omega),Obn]
  dsimp only;unfold nz;by_cases g:Qea p p.2.1[i] (p.2.1.take i)=0
  ·rw [if_neg (by simpa using g),if_neg (by simpa using g)]
  ·rw [if_pos (by simpa using g),if_pos (by simpa using g)]
 ·intro rec;unfold l_ct_7;dsimp only;rw [if_neg Qay]
theorem Qbf {α β:Type} {f:Nat→α→Option β} {m:List α} (h:scan f 0 m=none): ∀x∈m, ∃i,f i x=none:=by
 intro x hx;obtain ⟨i,hi,rfl⟩:=List.mem_iff_getElem.1 hx;exact ⟨_,QfM h i hi⟩
structure OkPol (p:PolD):Prop where
 own:1≤p.1.length∧p.1.length≤3
 own1: ∀l∈p.1,1≤l.length∧l.length≤5∧ ∀x∈l,0≤x∧x≤23
 nodup:dupM [] p.1.flatten=false
 lanes:p.2.1.length≤4∧QbK p=none
 bells:p.2.2.1.length≤4∧QdM p=none
 plan:1≤p.2.2.2.1.length∧p.2.2.2.1.length≤8
 slots: ∀s∈p.2.2.2.1,isG p s.1=true∧1≤s.2.1∧s.2.1≤50
theorem QbR {n a b:Int}:inB n a b=true↔a≤n∧n≤b:=by unfold inB; simp
theorem Qgb {p:PolD} (h:polM p=0):OkPol p:=by
 unfold polM at h;split at h
 ·rename_i h'; exact absurd h h'
 rename_i h0;have h0:QdK p.1=0:=by simpa using h0
 split at h
 case isFalse=>cases h
 rename_i h4;cases hl:QbK p with
 | some c=>rw [hl] at h; exact absurd h (QhB hl)
 | none=>
 rw [hl] at h;dsimp only at h;cases hb:QdM p with
 | some c=>rw [hb] at h; exact absurd h (Qqw hb)
 | none=>
 rw [hb] at h;dsimp only at h;unfold QdK at h0;split at h0
 case isFalse=>cases h0
 rename_i g1;unfold Qih at h;split at h
 case isFalse=>cases h
 rename_i g2;cases ho:scan (fun (_:Nat) l=>Go.Proofs.YticbdcmkcghijaaGreatDoor.own1 l) 0 p.1 with
 | some c=>
  rw [ho] at h0;dsimp only at h0;subst h0
  have:(0:Int)≠0:=QcW (P:=fun c=>c≠0) (fun j hj c hc=>by
   unfold Go.Proofs.YticbdcmkcghijaaGreatDoor.own1 at hc;split at hc
   ·exact QcW (P:=fun c=>c≠0) (fun j hj c hc=>by
     split at hc
     ·cases hc
     ·rw [←Osj hc]; decide) c hc
   ·rw [←Osj hc]; decide) _ ho
  exact absurd rfl this
 | none=>
  rw [ho] at h0;dsimp only at h0
  have hd:dupM [] p.1.flatten=false:=by
   split at h0
   ·cases h0
   ·rename_i h'; simpa using h'
  refine ⟨g1,?_,hd,⟨h4.1,hl⟩,⟨h4.2,hb⟩,g2,?_⟩
  ·intro l hl';obtain ⟨_,e⟩:=Qbf ho l hl';unfold Go.Proofs.YticbdcmkcghijaaGreatDoor.own1 at e;split at e
   ·rename_i g;refine ⟨g.1,g.2,fun x hx=>?_⟩
    obtain ⟨_,e2⟩:=Qbf e x hx;split at e2
    ·rename_i g3; exact QbR.1 g3
    ·cases e2
   ·cases e
  ·intro s hs;cases hp:scan (fun (_:Nat) (s:TwoD)=>if isG p s.1=true then (if inB s.2.1 1 50=true then none else some (3:Int)) else some 4) 0 p.2.2.2.1 with
   | some c=>
    rw [hp] at h;dsimp only at h;subst h
    have:(0:Int)≠0:=QcW (P:=fun c=>c≠0) (fun j hj c hc=>by
     split at hc
     ·split at hc
      ·cases hc
      ·rw [←Osj hc]; decide
     ·rw [←Osj hc]; decide) _ hp
    exact absurd rfl this
   | none=>
    obtain ⟨_,e⟩:=Qbf hp s hs;split at e
    ·rename_i g;split at e
     ·rename_i g3; exact ⟨g,QbR.1 g3⟩
     ·cases e
    ·cases e
def QrW (m:List TwoD):Prop:=m.length≤8∧ ∀s∈m,1≤s.2.1∧s.2.1≤50
theorem OkPol.okPlan {p:PolD} (h:OkPol p):QrW p.2.2.2.1:=⟨h.plan.2,fun s hs=>(h.slots s hs).2⟩
def Qi (g:Int):List TwoD→Int
 | []=>0
 | s::r=>(if g< 0∨s.1=g then s.2.1 else 0)+Qi g r
theorem QaJ {g:Int}: ∀{m:List TwoD},(∀s∈m,1≤s.2.1∧s.2.1≤50)→0≤Qi g m∧Qi g m≤50*(m.length:Int)
 | [],_=>by simp [Qi]
 | s::r,h=>by
  have h1:=h s (by simp)
  have:=QaJ (g:=g) (m:=r) fun s hs=>h s (List.mem_cons_of_mem _ hs)
  simp only [Qi,List.length_cons];split <;> omega
theorem Qri {α:Type} {m:List α} {i:Nat} {P:α→Prop} (h: ∀s∈m,P s): ∀s∈m.drop i,P s:=fun s hs=>h s (List.mem_of_mem_drop hs)
theorem Qdw (p:PolD) (g:Int) (h:QrW p.2.2.2.1):F_dc (p,g,())=some ((Qi g p.2.2.2.1,()),()):=by
 obtain ⟨hl,hs⟩:=h
 have key:=QgU (step:=l_dc_3) (γ:=denO o_dc_3) (fun k (a:Int)=>((g,a,p.2.2.2.1,((p.2.2.2.1.length:Nat):Int),((k:Nat):Int),()),(),())) p.2.2.2.1.length (Qbv (by omega)) (fun k a=>0≤a∧a≤50*(k:Int))
  (fun k a=>some (.inl ((a+Qi g (p.2.2.2.1.drop k),()),(),()))) ?_ 0 0 (by omega) (by omega)
 ·have e0:((0:Nat):Int)=0:=rfl;rw [e0] at key;unfold F_dc;show (Qd l_dc_3 lots ((g,0,p.2.2.2.1,((p.2.2.2.1.length:Nat):Int),0,()),(),())).bind _=_;rw [key,Obn];simp
 ·rintro rec k a hk ha ih;unfold l_dc_3;dsimp only;by_cases hlt:k< p.2.2.2.1.length
  ·have hb:=hs _ (List.getElem_mem hlt);rw [if_pos (lt_t hlt),if_pos nat0,Qw hlt,Qm (n:=a+(p.2.2.2.1[k]).2.1) (by omega) (by omega),Qaa (by omega),QbF hlt]
   rw [show Qi g (p.2.2.2.1[k]::p.2.2.2.1.drop (k+1))=(if g< 0∨(p.2.2.2.1[k]).1=g then (p.2.2.2.1[k]).2.1 else 0)+Qi g (p.2.2.2.1.drop (k+1)) from rfl]
   by_cases hg:g< 0
   ·rw [if_neg (by rw [QaR]; omega),ih _ hlt (by omega),if_pos (.inl hg),Int.add_assoc]
   ·rw [if_pos (by rw [QaR]; omega)]
    by_cases hg2:(p.2.2.2.1[k]).1=g
    ·rw [if_pos (by simpa using hg2),ih _ hlt (by omega),if_pos (.inr hg2),Int.add_assoc]
    ·rw [if_neg (by simpa using hg2),ih _ hlt (by omega),if_neg (by omega),Int.zero_add]
  ·rw [if_neg (lt_f hlt),Qdh hlt];simp [Qi]
abbrev QF:=PolD×List Int×List QO×Int×Int×Int×Unit
theorem Qhm {γ:Type} {m:List Int} {z:Int} (n:Nat) (hz:z.toNat=n) (h:n< m.length) (K:Int→Option γ):(m[z.toNat]?).bind K=K (m.getD n 0):=by
 rw [hz,List.getElem?_eq_getElem h,Obn,List.getD_eq_getElem?_getD,List.getElem?_eq_getElem h];rfl
theorem Qhz (n:Int):F_ad (n,())=some ((okW n,()),()):=by
 unfold F_ad;rw [Qcf,Obn];rfl
theorem Qpz {α:Type} {p:α→Bool}: ∀(m:List α),m.any (fun y=>!p y)=!m.all p
 | []=>rfl
 | x::r=>by simp only [List.any_cons,List.all_cons,Qpz r,Bool.not_and]
theorem QbG (m:List Int) (hm:m.length≤1048576):F_ae (m,())=some ((allW m,()),()):=by
 have key:=QY (step:=l_ae_2) (γ:=denO o_ae_2) (fun i=>((m,((i:Nat):Int),()),(),())) m (fun _ y=>if okW y=true then none else some ())
  (fun _=>some (.inr (.inl ((false,()),(),())))) (some (.inl ((),(),()))) (Qbu hm) ?_ ?_
 ·have e0:((0:Nat):Int)=0:=rfl;rw [e0] at key;have:=Qei (f:=fun (_:Nat) y=>if okW y=true then none else some ()) (p:=fun y=>!okW y) (m:=m) (i:=0) (fun j hj=>by cases okW m[j] <;> rfl)
  rw [Qpz] at this;have e:allW m=!(scan (fun (_:Nat) y=>if okW y=true then none else some ()) 0 m).isSome:=by rw [this,Bool.not_not]; rfl
  unfold F_ae;show (Qd l_ae_2 lots ((m,0,()),(),())).bind _=_;rw [key,e];cases scan (fun (_:Nat) y=>if okW y=true then none else some ()) 0 m <;> rfl
 ·intro rec i h;unfold l_ae_2;dsimp only;rw [if_pos (lt_t h),if_pos nat0,Qw h,Qhz,Obn,Qaa (lt1 h hm)];cases okW m[i] <;> rfl
 ·intro rec;unfold l_ae_2;dsimp only;rw [if_neg Qay]
def hartM (h:QO):Int:=
 if h.1.length=16∧h.2.2.1.length=11∧h.1.getD 0 0=0 then
  (if allW h.1=true∧okW h.2.1=true∧allW h.2.2.1=true∧allW h.2.2.2.2.2.2.2.1=true∧allW h.2.2.2.2.2.2.2.2.1=true then
   (if h.2.2.2.2.2.2.2.1.length≤40∧h.2.2.2.2.2.2.2.2.1.length≤40 then
    (if inB h.2.2.2.2.2.2.1 0 1000000000=true then
     (if h.2.2.1.getD 0 0≤3∧h.2.2.1.getD 7 0≤7∧h.2.2.1.getD 10 0≤8∧h.2.2.1.getD 6 0=0∧h.2.2.1.getD 8 0=0 then 0 else 1) else 3) else 2) else 3) else 1
theorem Qim (h:QO) (hl:Qdi 1048576 h):F_fi (h,())=some ((hartM h,()),()):=by
 obtain ⟨l1,l2,l3,l4⟩:=hl;unfold F_fi hartM;dsimp only;by_cases a1:h.1.length=16
 case neg=>
  have: ¬((h.1.length:Nat):Int)=16:=by omega
  simp [a1,this]
 rw [if_pos (by rw [a1]; rfl)]
 by_cases a2:h.2.2.1.length=11
 case neg=>
  have: ¬((h.2.2.1.length:Nat):Int)=11:=by omega
  simp [a2,this]
 rw [if_pos (by rw [a2]; rfl),Qhm (z:=0) 0 rfl (by omega)]
 by_cases a3:h.1.getD 0 0=0
 case neg=>rw [if_pos (by simpa using a3),if_neg (fun g=>a3 g.2.2)]
 have hA:h.1.length=16∧h.2.2.1.length=11∧h.1.getD 0 0=0:=⟨a1,a2,a3⟩;rw [if_neg (by simpa using a3),if_pos hA,QbG _ l1,Qhz,QbG _ l2,QbG _ l3,QbG _ l4]
 simp only [Obn];cases b1:allW h.1
 ·simp
 cases b2:okW h.2.1
 ·simp
 cases b3:allW h.2.2.1
 ·simp
 cases b4:allW h.2.2.2.2.2.2.2.1
 ·simp
 cases b5:allW h.2.2.2.2.2.2.2.2.1
 ·simp
 simp only [Bool.not_true,and_self,if_true,Bool.false_eq_true,if_false];by_cases c1:h.2.2.2.2.2.2.2.1.length≤40
 case neg=>rw [if_neg (by rw [QaR]; omega),if_neg (fun g=>c1 g.1)]
 rw [if_pos (by rw [QaR]; omega)]
 by_cases c2:h.2.2.2.2.2.2.2.2.1.length≤40
 case neg=>rw [if_pos (by rw [QD]; omega),if_neg (fun g=>c2 g.2)]
 have hC:h.2.2.2.2.2.2.2.1.length≤40∧h.2.2.2.2.2.2.2.2.1.length≤40:=⟨c1,c2⟩;rw [if_neg (by rw [QD]; omega),if_pos hC,QaE,Obn]
 dsimp only;cases b6:inB h.2.2.2.2.2.2.1 0 1000000000
 ·simp
 rw [if_neg (by simp),if_pos rfl,Qhm (z:=0) 0 rfl (by omega)]
 by_cases d1:h.2.2.1.getD 0 0≤3
 case neg=>rw [if_neg (by rw [QaR]; exact fun g=>g (Int.not_le.1 d1)),if_neg (fun g=>d1 g.1)]
 rw [if_pos (by rw [QaR]; exact Int.not_lt.2 d1),Qhm (z:=7) 7 rfl (by omega)]
 by_cases d2:h.2.2.1.getD 7 0≤7
 case neg=>rw [if_neg (by rw [QaR]; exact fun g=>g (Int.not_le.1 d2)),if_neg (fun g=>d2 g.2.1)]
 rw [if_pos (by rw [QaR]; exact Int.not_lt.2 d2),Qhm (z:=10) 10 rfl (by omega)]
 by_cases d3:h.2.2.1.getD 10 0≤8
 case neg=>rw [if_neg (by rw [QaR]; exact fun g=>g (Int.not_le.1 d3)),if_neg (fun g=>d3 g.2.2.1)]
 rw [if_pos (by rw [QaR]; exact Int.not_lt.2 d3),Qhm (z:=6) 6 rfl (by omega)]
 by_cases d4:h.2.2.1.getD 6 0=0
 case neg=>rw [if_neg (by simpa using d4),if_neg (fun g=>d4 g.2.2.2.1)]
 rw [if_pos (by simpa using d4),Qhm (z:=8) 8 rfl (by omega)]
 by_cases d5:h.2.2.1.getD 8 0=0
 case neg=>rw [if_pos (by simpa using d5),if_neg (fun g=>d5 g.2.2.2.2)]
 have hD:h.2.2.1.getD 0 0≤3∧h.2.2.1.getD 7 0≤7∧h.2.2.1.getD 10 0≤8∧h.2.2.1.getD 6 0=0∧h.2.2.1.getD 8 0=0:=⟨d1,d2,d3,d4,d5⟩;rw [if_neg (by simpa using d5),if_pos hD]
theorem QmW (h:QO) (hl:Qdi 1048576 h):F_db (h,())=some ((hartM h,()),()):=by
 rw [←Qim h hl];obtain ⟨l1,l2,l3,l4⟩:=hl;unfold F_db F_fi;rw [QbQ _ (leM l1),QkK,QbQ _ (leM l2),QbQ _ (leM l3),QbQ _ (leM l4),Qae];rw [QbG _ l1,Qhz,QbG _ l2,QbG _ l3,QbG _ l4,QaE]
def Qu:Nat→List TwoD→Int→Nat×Int×Int
 | k,[],at_=>(k,at_,0)
 | k,s::r,at_=>if s.2.1≤at_ then Qu (k+1) r (at_-s.2.1) else (k,at_,s.2.1-at_)
theorem QaY: ∀{m:List TwoD} {k:Nat} {a:Int},(∀s∈m,1≤s.2.1∧s.2.1≤50)→0≤a→a< Qi (-1) m→
  k≤(Qu k m a).1∧ ∃s,m[(Qu k m a).1-k]?=some s∧(Qu k m a).2.2=s.2.1-(Qu k m a).2.1∧0≤(Qu k m a).2.1∧(Qu k m a).2.1< s.2.1
 | [],k,a,_,h0,h1=>by simp [Qi] at h1; omega
 | s::r,k,a,hs,h0,h1=>by
  simp only [Qi] at h1;rw [if_pos (.inl (by decide))] at h1
  simp only [Qu];by_cases h:s.2.1≤a
  ·rw [if_pos h];obtain ⟨g0,q,g1,g2⟩:=QaY (m:=r) (k:=k+1) (a:=a-s.2.1) (fun s hs'=>hs s (List.mem_cons_of_mem _ hs')) (by omega) (by omega)
   refine ⟨by omega,q,?_,g2⟩
   have e:(Qu (k+1) r (a-s.2.1)).1-k=((Qu (k+1) r (a-s.2.1)).1-(k+1))+1:=by omega
   rw [e,List.getElem?_cons_succ];exact g1
  ·rw [if_neg h];exact ⟨Nat.le_refl _,s,by simp,rfl,h0,by show a< s.2.1; omega⟩
def Qap (p:PolD) (clock:Int):Int×Int:=let e:=Qu 0 p.2.2.2.1 (clock % Qi (-1) p.2.2.2.1); ((e.1:Int),e.2.2)
theorem QaM {m:List TwoD} (h: ∀s∈m,1≤s.2.1∧s.2.1≤50) (hl:1≤m.length):1≤Qi (-1) m:=by
 cases m with
 | nil=>simp at hl
 | cons s r=>
  have:=QaJ (g:= -1) (m:=r) fun s hs=>h s (List.mem_cons_of_mem _ hs)
  have:=h s (by simp)
  simp only [Qi];rw [if_pos (.inl (by decide))]
  omega
theorem Qfx {a b:Int} (h:0≤a):a.tmod b=a % b:=by
 rw [Int.tmod_eq_emod_of_nonneg h]
theorem Qls {γ:Type} {p:PolD} (hok:OkPol p) {step:((PolD×Int×Int×Unit)×Unit×Unit→Option (((PolD×Int×Int×Unit)×Unit×Unit) ⊕ γ))→(PolD×Int×Int×Unit)×Unit×Unit→Option (((PolD×Int×Int×Unit)×Unit×Unit) ⊕ γ)}
  (hstep: ∀rec p a i,step rec ((p,a,i,()),(),())=if 0≤i then (p.2.2.2.1[i.toNat]?).bind fun y=>if leI y.2.1 a=true then (if 0≤i then (p.2.2.2.1[i.toNat]?).bind fun y=>
   rec ((p,IntKind.i64.wrap (a-y.2.1),IntKind.i64.wrap (i+1),()),(),()) else none) else some (.inl ((p,a,i,()),(),())) else none)
  (a:Int) (h0:0≤a) (h1:a< Qi (-1) p.2.2.2.1):Qd step lots ((p,a,0,()),(),())=some (.inl ((p,(Qu 0 p.2.2.2.1 a).2.1,((Qu 0 p.2.2.2.1 a).1:Int),()),(),())):=by
 obtain ⟨hl,hs⟩:=hok.okPlan
 have key:=QgU (step:=step) (fun k (a:Int)=>((p,a,((k:Nat):Int),()),(),())) p.2.2.2.1.length (Qbv (by omega)) (fun k a=>0≤a∧a< Qi (-1) (p.2.2.2.1.drop k))
  (fun k a=>some (.inl ((p,(Qu k (p.2.2.2.1.drop k) a).2.1,((Qu k (p.2.2.2.1.drop k) a).1:Int),()),(),()))) ?_ 0 a (by omega) ⟨h0,by simpa using h1⟩
 ·exact key
 ·rintro rec k a hk ⟨g0,g1⟩ ih;by_cases hlt:k< p.2.2.2.1.length
  ·have hb:=hs _ (List.getElem_mem hlt);have hle:=(QaJ (g:= -1) (Qri (i:=k) hs)).2;rw [List.length_drop] at hle;rw [hstep,if_pos nat0,Qw hlt,if_pos nat0,Qw hlt,Qaa (by omega),Qm (n:=a-(p.2.2.2.1[k]).2.1) (by omega) (by omega)]
   rw [QbF hlt] at g1;simp only [Qi] at g1;rw [if_pos (.inl (by decide))] at g1
   by_cases h:(p.2.2.2.1[k]).2.1≤a
   ·have e:Qu k (p.2.2.2.1.drop k) a=Qu (k+1) (p.2.2.2.1.drop (k+1)) (a-(p.2.2.2.1[k]).2.1):=by
     rw [QbF hlt]; simp only [Qu]; rw [if_pos h]
    rw [if_pos (Qba.2 h),e];exact ih _ hlt ⟨by omega,by omega⟩
   ·have e:Qu k (p.2.2.2.1.drop k) a=(k,a,(p.2.2.2.1[k]).2.1-a):=by
     rw [QbF hlt]; simp only [Qu]; rw [if_neg h]
    rw [if_neg (by rw [Qba]; exact h),e]
  ·rw [Qdh hlt] at g1;simp [Qi] at g1;omega
theorem QhZ (p:PolD) (clock:Int) (hok:OkPol p) (h0:0≤clock):F_dd (p,clock,())=some (((Qap p clock).1,(Qap p clock).2,()),()):=by
 obtain ⟨hl,hs⟩:=hok.okPlan;have hpos:=QaM hs hok.plan.1;have hle:=(QaJ (g:= -1) hs).2;unfold F_dd;dsimp only;rw [Qdw p (-1) hok.okPlan,Obn];dsimp only;have a0:0≤clock % Qi (-1) p.2.2.2.1:=Int.emod_nonneg _ (by omega)
 have a1:clock % Qi (-1) p.2.2.2.1< Qi (-1) p.2.2.2.1:=Int.emod_lt_of_pos _ (by omega)
 have hne: ¬Qi (-1) p.2.2.2.1=0:=by omega
 rw [if_neg hne,Qfx h0];show (Qd l_dd_3 lots ((p,clock % Qi (-1) p.2.2.2.1,0,()),(),())).bind _=_;rw [Qls hok (step:=l_dd_3) (fun _ _ _ _=>rfl) _ a0 a1,Obn]
 dsimp only;obtain ⟨_,s,g1,g2,g3,g4⟩:=QaY (k:=0) hs a0 a1;rw [Nat.sub_zero] at g1;have hb:=hs s (List.mem_of_getElem? g1);rw [if_pos nat0,Int.toNat_natCast,g1,Obn,Qm (by omega) (by omega), ←g2]
 rfl
theorem QnP (p:PolD) (clock:Int) (hok:OkPol p) (h0:0≤clock):F_fj (p,clock,())=some (((Qap p clock).1,(Qap p clock).2,()),()):=by
 obtain ⟨hl,hs⟩:=hok.okPlan;have hpos:=QaM hs hok.plan.1;have hle:=(QaJ (g:= -1) hs).2;have a0:0≤clock % Qi (-1) p.2.2.2.1:=Int.emod_nonneg _ (by omega)
 have a1:clock % Qi (-1) p.2.2.2.1< Qi (-1) p.2.2.2.1:=Int.emod_lt_of_pos _ (by omega)
 have key:=QgU (step:=l_fj_3) (γ:=denO o_dd_3) (fun k (a:Int)=>((p,clock,a,((k:Nat):Int),()),(),())) p.2.2.2.1.length (Qbv (by omega)) (fun k a=>0≤a∧a≤50*(k:Int))
  (fun k a=>some (.inl ((p,clock,a+Qi (-1) (p.2.2.2.1.drop k),()),(),()))) ?_ 0 0 (by omega) (by omega)
 ·have e0:((0:Nat):Int)=0:=rfl;rw [e0,List.drop_zero,Int.zero_add] at key;unfold F_fj;show (Qd l_fj_3 lots ((p,clock,0,0,()),(),())).bind _=_;rw [key,Obn];dsimp only;have hne: ¬Qi (-1) p.2.2.2.1=0:=by omega
  rw [if_neg hne,Qfx h0];show (Qd l_fj_8 lots ((p,clock % Qi (-1) p.2.2.2.1,0,()),(),())).bind _=_;rw [Qls hok (step:=l_fj_8) (fun _ _ _ _=>rfl) _ a0 a1,Obn]
  dsimp only;obtain ⟨_,s,g1,g2,g3,g4⟩:=QaY (k:=0) hs a0 a1;rw [Nat.sub_zero] at g1;have hb:=hs s (List.mem_of_getElem? g1);rw [if_pos nat0,Int.toNat_natCast,g1,Obn,Qm (by omega) (by omega), ←g2]
  rfl
 ·rintro rec k a hk ha ih;unfold l_fj_3;dsimp only;by_cases hlt:k< p.2.2.2.1.length
  ·have hb:=hs _ (List.getElem_mem hlt);rw [if_pos (lt_t hlt),if_pos nat0,Qw hlt,Qm (n:=a+(p.2.2.2.1[k]).2.1) (by omega) (by omega),Qaa (by omega),QbF hlt]
   rw [show Qi (-1) (p.2.2.2.1[k]::p.2.2.2.1.drop (k+1))=(p.2.2.2.1[k]).2.1+Qi (-1) (p.2.2.2.1.drop (k+1)) from by simp only [Qi]; rw [if_pos (.inl (by decide))], ←Int.add_assoc]
   exact ih _ hlt (by omega)
  ·rw [if_neg (lt_f hlt),Qdh hlt];simp [Qi]
def Qfh (n:Nat) (x:QF):Prop:=Qhc n x.1∧x.2.1.length≤n∧x.2.2.1.length≤n∧ ∀h∈x.2.2.1,Qdi n h
def Qhw (m:List QO):Option Int:=scan (fun (_:Nat) h=>nz (hartM h)) 0 m
def QdG (x:QF):Int:=
 if polM x.1≠0 then polM x.1
 else if (QJ x.2.1=0∧x.2.1.length=192)∧x.2.2.1.length=x.1.1.length then
  (match Qhw x.2.2.1 with
   | some c=>c
   | none=>if inB x.2.2.2.2.2.1 0 1000000=true then (if x.2.2.2.1=(Qap x.1 x.2.2.2.2.2.1).1∧x.2.2.2.2.1=(Qap x.1 x.2.2.2.2.2.1).2 then 0 else 1) else 3)
 else 1
theorem Qmk (m:List Int) (h:m.length≤1048576):F_fh (m,())=some ((decide (QJ m=0∧m.length=192),()),()):=by
 unfold F_fh;rw [Qmg m (leM h),Obn];dsimp only;by_cases h0:QJ m=0
 ·rw [if_pos (by simpa using h0)]
  by_cases h1:m.length=192
  ·simp [h0,h1]
  ·have: ¬((m.length:Nat):Int)=192:=by omega
   simp [h0,h1,this]
 ·rw [if_neg (by simpa using h0)]
  simp [h0]
theorem QlV (m:List Int) (h:m.length≤1048576):F_da (m,())=some ((decide (QJ m=0∧m.length=192),()),()):=by
 unfold F_da;rw [QlP m (leM h),Obn];dsimp only;by_cases h0:QJ m=0
 ·rw [if_pos (by simpa using h0)]
  by_cases h1:m.length=192
  ·simp [h0,h1]
  ·have: ¬((m.length:Nat):Int)=192:=by omega
   simp [h0,h1,this]
 ·rw [if_neg (by simpa using h0)]
  simp [h0]
theorem QdL (x:QF) (h:Qfh 1048576 x):F_fk (x,())=some ((QdG x,()),()):=by
 obtain ⟨hp,h1,h2,h3⟩:=h
 have key:=QY (step:=l_fk_7) (γ:=denO o_fk_7) (fun i=>((x,((i:Nat):Int),()),(),())) x.2.2.1 (fun (_:Nat) h=>nz (hartM h))
  (fun c=>some (.inr (.inl ((c,()),(),())))) (some (.inl ((x,()),(),()))) (Qbu h2) ?_ ?_
 ·have e0:((0:Nat):Int)=0:=rfl;rw [e0] at key;unfold F_fk QdG;dsimp only;rw [QjB x.1 hp,Obn];dsimp only;by_cases g0:polM x.1=0
  case neg=>rw [if_pos (by simpa using g0),if_pos g0]
  have n0: ¬polM x.1≠0:=by simpa using g0
  have hG: ∀P:Prop, ¬P→ ¬(P∧x.2.2.1.length=x.1.1.length):=fun P h g=>h g.1
  rw [if_neg (by simpa using g0),if_neg n0,Qmk _ h1,Obn]
  dsimp only;by_cases g1:QJ x.2.1=0∧x.2.1.length=192
  case neg=>rw [if_neg (by simpa using g1),if_neg (hG _ g1)]
  rw [if_pos (by simpa using g1)]
  by_cases g2:x.2.2.1.length=x.1.1.length
  case neg=>
   have: ¬((x.2.2.1.length:Nat):Int)=((x.1.1.length:Nat):Int):=by omega
   rw [if_pos (by simpa using this),if_neg (fun g:(QJ x.2.1=0∧x.2.1.length=192)∧x.2.2.1.length=x.1.1.length=>g2 g.2)]
  have hH:(QJ x.2.1=0∧x.2.1.length=192)∧x.2.2.1.length=x.1.1.length:=⟨g1,g2⟩;rw [if_neg (by rw [g2]; simp),if_pos hH]
  show (Qd l_fk_7 lots ((x,0,()),(),())).bind _=_;rw [key];unfold Qhw;cases scan (fun (_:Nat) h=>nz (hartM h)) 0 x.2.2.1 with
  | some c=>rfl
  | none=>
   rw [Obn];dsimp only;rw [QaE,Obn];dsimp only;cases g3:inB x.2.2.2.2.2.1 0 1000000
   ·simp
   ·rw [if_neg (by simp),if_pos rfl,QnP x.1 _ (Qgb g0) (QbR.1 g3).1,Obn]
    dsimp only;by_cases g4:x.2.2.2.1=(Qap x.1 x.2.2.2.2.2.1).1
    ·by_cases g5:x.2.2.2.2.1=(Qap x.1 x.2.2.2.2.2.1).2
     ·rw [if_pos (by simpa using g4),if_neg (by simpa using g5),if_pos ⟨g4,g5⟩]
     ·rw [if_pos (by simpa using g4),if_pos (by simpa using g5),if_neg (fun h=>g5 h.2)]
    ·rw [if_neg (by simpa using g4),if_neg (fun h=>g4 h.1)]
 ·intro rec i hi;unfold l_fk_7;dsimp only;rw [if_pos (lt_t hi),if_pos nat0,Qw hi,Qim _ (h3 _ (List.getElem_mem hi)),Obn,Qaa (lt1 hi h2)];dsimp only;unfold nz;by_cases g:hartM x.2.2.1[i]=0
  ·rw [if_neg (by simpa using g),if_neg (by simpa using g)]
  ·rw [if_pos (by simpa using g),if_pos (by simpa using g)]
 ·intro rec;unfold l_fk_7;dsimp only;rw [if_neg Qay]
theorem Qbq (x:QF) (h:Qfh 1048576 x):F_de (x,())=some ((QdG x,()),()):=by
 obtain ⟨hp,h1,h2,h3⟩:=h
 let bx:(den (.slice (.slice (.int .i64))))×List QP×List TwoD×List TwoD×List Int×List QO×Int×Int×Int×Unit:=(x.1.1,x.1.2.1,x.1.2.2.1,x.1.2.2.2.1,x.2.1,x.2.2.1,x.2.2.2.1,x.2.2.2.2.1,x.2.2.2.2.2.1,())
 have key:=QY (step:=l_de_7) (γ:=denO o_de_7) (fun i=>(((),x.2.2.1,((x.2.2.1.length:Nat):Int),((i:Nat):Int),()),(bx,()),())) x.2.2.1 (fun (_:Nat) h=>nz (hartM h))
  (fun c=>some (.inr (.inl ((c,()),(),())))) (some (.inl (((),()),(bx,()),()))) (Qbu h2) ?_ ?_
 ·have e0:((0:Nat):Int)=0:=rfl;rw [e0] at key;unfold F_de QdG;dsimp only;rw [Qey x.1 hp,Obn];dsimp only;by_cases g0:polM x.1=0
  case neg=>rw [if_pos (by simpa using g0),if_pos g0]
  have n0: ¬polM x.1≠0:=by simpa using g0
  have hG: ∀P:Prop, ¬P→ ¬(P∧x.2.2.1.length=x.1.1.length):=fun P h g=>h g.1
  rw [if_neg (by simpa using g0),if_neg n0,QlV _ h1,Obn]
  dsimp only;by_cases g1:QJ x.2.1=0∧x.2.1.length=192
  case neg=>rw [if_neg (by simpa using g1),if_neg (hG _ g1)]
  rw [if_pos (by simpa using g1)]
  by_cases g2:x.2.2.1.length=x.1.1.length
  case neg=>
   have: ¬((x.2.2.1.length:Nat):Int)=((x.1.1.length:Nat):Int):=by omega
   rw [if_pos (by simpa using this),if_neg (fun g:(QJ x.2.1=0∧x.2.1.length=192)∧x.2.2.1.length=x.1.1.length=>g2 g.2)]
  have hH:(QJ x.2.1=0∧x.2.1.length=192)∧x.2.2.1.length=x.1.1.length:=⟨g1,g2⟩;rw [if_neg (by rw [g2]; simp),if_pos hH]
  show (Qd l_de_7 lots (((),x.2.2.1,((x.2.2.1.length:Nat):Int),0,()),(bx,()),())).bind _=_;rw [key];unfold Qhw;cases scan (fun (_:Nat) h=>nz (hartM h)) 0 x.2.2.1 with
  | some c=>rfl
  | none=>
   rw [Obn];dsimp only [bx];rw [Qae,Obn];dsimp only;cases g3:inB x.2.2.2.2.2.1 0 1000000
   ·simp
   ·rw [if_neg (by simp),if_pos rfl]
    show (F_dd (x.1,x.2.2.2.2.2.1,())).bind _=_;rw [QhZ x.1 _ (Qgb g0) (QbR.1 g3).1,Obn];dsimp only;by_cases g4:x.2.2.2.1=(Qap x.1 x.2.2.2.2.2.1).1
    ·by_cases g5:x.2.2.2.2.1=(Qap x.1 x.2.2.2.2.2.1).2
     ·rw [if_pos (by simpa using g4),if_neg (by simpa using g5),if_pos ⟨g4,g5⟩]
     ·rw [if_pos (by simpa using g4),if_pos (by simpa using g5),if_neg (fun h=>g5 h.2)]
    ·rw [if_neg (by simpa using g4),if_neg (fun h=>g4 h.1)]
 ·intro rec i hi;unfold l_de_7;dsimp only;rw [if_pos (lt_t hi),if_pos nat0,Qw hi,QmW _ (h3 _ (List.getElem_mem hi)),Obn,Qaa (lt1 hi h2)];dsimp only;unfold nz;by_cases g:hartM x.2.2.1[i]=0
  ·rw [if_neg (by simpa using g),if_neg (by simpa using g)]
  ·rw [if_pos (by simpa using g),if_pos (by simpa using g)]
 ·intro rec;unfold l_de_7;dsimp only;rw [if_neg Qay]
theorem QsA {x:QF} (h:QdG x=0):polM x.1=0:=by
 unfold QdG at h;split at h
 ·rename_i h'; exact absurd h h'
 ·rename_i h'; simpa using h'
def Byt (c:List Int):Prop:=(∀b∈c,0≤b∧b≤255)∧c.length≤1048580
theorem QdJ {c:List Int} (hc:Byt c) (a n:Int) (ha:0≤a∧a≤1099511627776):
  ∃v:Int,F_c ((c,a,()),n,())=some ((v,()),((c,a+1,()),()))∧0≤v∧(v< n∨v=0):=by
 unfold F_c;dsimp only;rw [Qm (n:=a+1) (by omega) (by omega),Qm (n:=a+1-1) (by omega) (by omega)]
 have e1:a+1-1=a:=by omega
 rw [e1];by_cases h1:n< 1
 ·exact ⟨0,by rw [if_pos (QD.2 h1)],Int.le_refl 0,.inr rfl⟩
 rw [if_neg (by rw [QD]; exact h1)]
 have hn: ¬n=0:=by omega
 by_cases h2:c.length=0
 ·rw [if_pos (by rw [h2]; rfl),if_neg hn,Qm (n:=a*7) (by omega) (by omega)]
  exact ⟨(a*7).tmod n,rfl,Int.tmod_nonneg _ (by omega),.inl (Int.tmod_lt_of_pos _ (by omega))⟩
 have h3: ¬((c.length:Nat):Int)=0:=by omega
 have p1:0≤a.tmod ((c.length:Nat):Int):=Int.tmod_nonneg _ ha.1;have p2:a.tmod ((c.length:Nat):Int)< ((c.length:Nat):Int):=Int.tmod_lt_of_pos _ (by omega)
 have p3:0≤(a+1).tmod ((c.length:Nat):Int):=Int.tmod_nonneg _ (by omega)
 have p4:(a+1).tmod ((c.length:Nat):Int)< ((c.length:Nat):Int):=Int.tmod_lt_of_pos _ (by omega)
 have p5:0≤a.tdiv ((c.length:Nat):Int):=Int.tdiv_nonneg ha.1 (by omega)
 have p6:a.tdiv ((c.length:Nat):Int)≤a:=Int.tdiv_le_self _ ha.1;obtain ⟨y,hy⟩: ∃y,c[(a.tmod ((c.length:Nat):Int)).toNat]?=some y:=⟨_,List.getElem?_eq_getElem (by omega)⟩
 obtain ⟨z,hz⟩: ∃z,c[((a+1).tmod ((c.length:Nat):Int)).toNat]?=some z:=⟨_,List.getElem?_eq_getElem (by omega)⟩
 have by_:=hc.1 y (List.mem_of_getElem? hy);have bz:=hc.1 z (List.mem_of_getElem? hz);rw [if_neg (by simpa using h3),if_neg h3,if_pos p1,hy,Obn]
 generalize a.tdiv ((c.length:Nat):Int)=d at p5 p6⊢;rw [Qm (n:=y) (by omega) (by omega),Qm (n:=d) (by omega) (by omega),Qm (n:=d*37) (by omega) (by omega),Qm (n:=y+d*37) (by omega) (by omega)]
 by_cases h4:(200:Int)< n
 ·rw [if_neg h3,if_pos (QD.2 h4),if_neg h3]
  rw [Qm (n:=(y+d*37)*251) (by omega) (by omega),Qm (n:=a+1) (by omega) (by omega),if_pos p3,hz,Obn,Qm (n:=z) (by omega) (by omega),Qm (n:=z*13) (by omega) (by omega),
   Qm (n:=(y+d*37)*251+z*13) (by omega) (by omega),Qm (n:=(y+d*37)*251+z*13+a) (by omega) (by omega),if_neg hn]
  exact ⟨_,rfl,Int.tmod_nonneg _ (by omega),.inl (Int.tmod_lt_of_pos _ (by omega))⟩
 ·rw [if_neg h3,if_neg (by rw [QD]; exact h4),if_neg hn]
  exact ⟨_,rfl,Int.tmod_nonneg _ (by omega),.inl (Int.tmod_lt_of_pos _ (by omega))⟩
def Qdm (x:denP P_c):Int:=match F_c x with | some r=>r.1.1 | none=>0
def QkY (x:denP P_d):Int:=match F_d x with | some r=>r.1.1 | none=>0
def QlM (x:denP P_c):Bool:=match F_s x with | some r=>r.1.1 | none=>false
def QjV (x:denP P_m):Int:=match F_t x with | some r=>r.1.1 | none=>0
theorem QpS (x:denP P_c) (hc:Byt x.1.1) (ha:0≤x.1.2.1∧x.1.2.1≤1099511627776):F_c x=some ((Qdm x,()),((x.1.1,x.1.2.1+1,()),())):=by
 obtain ⟨⟨c,a,_⟩,n,_⟩:=x;obtain ⟨v,e,h0,h1⟩:=QdJ hc a n ha;unfold Qdm;rw [e]
theorem Qvi (x:denP P_c) (hc:Byt x.1.1) (ha:0≤x.1.2.1∧x.1.2.1≤1099511627776):0≤Qdm x∧(Qdm x< x.2.1∨Qdm x=0):=by
 obtain ⟨⟨c,a,_⟩,n,_⟩:=x;obtain ⟨v,e,h0,h1⟩:=QdJ hc a n ha;unfold Qdm;rw [e];exact ⟨h0,h1⟩
theorem Qme {c:List Int} (hc:Byt c) (a:Int) (l:List Int) (ha:0≤a∧a≤1099511627776) (hl:l≠[]):
  ∃v:Int,F_d ((c,a,()),l,())=some ((v,()),((c,a+1,()),()))∧v∈l:=by
 have hpos:0< l.length:=List.length_pos_iff.2 hl;obtain ⟨v,e,h0,h1⟩:=QdJ hc a ((l.length:Nat):Int) ha;unfold F_d;dsimp only;rw [e,Obn];dsimp only;have hv:v.toNat< l.length:=by omega
 rw [if_pos h0,List.getElem?_eq_getElem hv,Obn];exact ⟨_,rfl,List.getElem_mem hv⟩
theorem QpY (x:denP P_d) (hl:x.2.1.isEmpty=false) (hc:Byt x.1.1) (ha:0≤x.1.2.1∧x.1.2.1≤1099511627776):F_d x=some ((QkY x,()),((x.1.1,x.1.2.1+1,()),())):=by
 obtain ⟨⟨c,a,_⟩,l,_⟩:=x;obtain ⟨v,e,h0⟩:=Qme hc a l ha (by rintro rfl; cases hl)
 unfold QkY;rw [e]
theorem Qvp (x:denP P_d) (hl:x.2.1.isEmpty=false) (hc:Byt x.1.1) (ha:0≤x.1.2.1∧x.1.2.1≤1099511627776):QkY x∈x.2.1:=by
 obtain ⟨⟨c,a,_⟩,l,_⟩:=x;obtain ⟨v,e,h0⟩:=Qme hc a l ha (by rintro rfl; cases hl)
 unfold QkY;rw [e];exact h0
theorem Qku (x:denP P_c) (hc:Byt x.1.1) (ha:0≤x.1.2.1∧x.1.2.1≤1099511627776):F_s x=some ((QlM x,()),((x.1.1,x.1.2.1+1,()),())):=by
 obtain ⟨⟨c,a,_⟩,n,_⟩:=x;obtain ⟨v,e,h0,h1⟩:=QdJ hc a n ha
 have:F_s ((c,a,()),n,())=some ((v==0,()),((c,a+1,()),())):=by
  unfold F_s;dsimp only;rw [e,Obn]
 unfold QlM;rw [this]
theorem Qqp {c:List Int} (hc:Byt c) (a:Int) (ha:0≤a∧a≤1073741824): ∃v:Int,F_t ((c,a,()),())=some ((v,()),((c,a+5,()),()))∧0≤v∧v≤4294967295:=by
 obtain ⟨v1,e1,a1,b1⟩:=QdJ hc a 90 (by omega)
 obtain ⟨v2,e2,a2,b2⟩:=QdJ hc (a+1) 9 (by omega)
 obtain ⟨v3,e3,a3,b3⟩:=QdJ hc (a+1+1) 9 (by omega)
 obtain ⟨v4,e4,a4,b4⟩:=QdJ hc (a+1+1+1) 60000 (by omega)
 unfold F_t;dsimp only;rw [e1,Obn,e2,Obn,e3,Obn];dsimp only;rw [e4,Obn];dsimp only;rw [Qm (n:=4294967295-v3) (by omega) (by omega),Qm (n:=v4*70000) (by omega) (by omega)]
 obtain ⟨v,e,hv⟩:=Qme hc (a+1+1+1+1) [v1,v2,4294967295-v3,2147483648,2147483647,0,v4*70000] (by omega) (by simp)
 rw [e,Obn];refine ⟨v,?_,?_⟩
 ·have:a+1+1+1+1+1=a+5:=by omega
  rw [this]
 ·simp at hv;omega
theorem Qqq (x:denP P_m) (hc:Byt x.1.1) (ha:0≤x.1.2.1∧x.1.2.1≤1073741824):F_t x=some ((QjV x,()),((x.1.1,x.1.2.1+5,()),())):=by
 obtain ⟨⟨c,a,_⟩,_⟩:=x;obtain ⟨v,e,h0⟩:=Qqp hc a ha;unfold QjV;rw [e]
theorem Qvu (x:denP P_m) (hc:Byt x.1.1) (ha:0≤x.1.2.1∧x.1.2.1≤1073741824):0≤QjV x∧QjV x≤4294967295:=by
 obtain ⟨⟨c,a,_⟩,_⟩:=x;obtain ⟨v,e,h0⟩:=Qqp hc a ha;unfold QjV;rw [e];exact h0
theorem QcT {c:List Int} (hc:Byt c) (a n:Int) (ha:0≤a∧a≤1099511627776):F_c ((c,a,()),n,())=some ((Qdm ((c,a,()),n,()),()),((c,a+1,()),())):=QpS _ hc ha
theorem QpZ {c:List Int} (hc:Byt c) (a:Int) (x:Int) (l:List Int) (ha:0≤a∧a≤1099511627776):F_d ((c,a,()),x::l,())=some ((QkY ((c,a,()),x::l,()),()),((c,a+1,()),())):=QpY _ rfl hc ha
theorem QqD {c:List Int} (hc:Byt c) (a n:Int) (ha:0≤a∧a≤1099511627776):F_s ((c,a,()),n,())=some ((QlM ((c,a,()),n,()),()),((c,a+1,()),())):=Qku _ hc ha
theorem QuB {c:List Int} (hc:Byt c) (a:Int) (ha:0≤a∧a≤1073741824):F_t ((c,a,()),())=some ((QjV ((c,a,()),()),()),((c,a+5,()),())):=Qqq _ hc ha
abbrev InsD:=Int×Int×Int×Int×Unit
theorem QpA (op:Int): ∃b1 b2 b3:Bool,F_n (op,())=some ((b1,b2,b3,()),()):=by
 unfold F_n;dsimp only
 repeat' split
 all_goals exact ⟨_,_,_,rfl⟩
theorem Qsv {α β:Type} {P:α→β} {c:Prop} [Decidable c] {a b:β} (ha: ∃v,a=P v) (hb: ∃v,b=P v): ∃v,(if c then a else b)=P v:=by split <;> assumption
theorem Qnf (x:InsD): ∃v:Int,F_q (x,())=some ((v,()),()):=by
 obtain ⟨b1,b2,b3,e⟩:=QpA x.1;unfold F_q;dsimp only;rw [QaE,QaE,QaE,QaE,e];simp only [Obn]
 repeat' (first | exact ⟨_,rfl⟩ | refine Qsv (P:=fun v:Int=>some ((v,()),())) ?_ ?_)
theorem QqG (x:InsD): ∃v:Int×Int×Unit,F_r (x,())=some ((v,()),()):=by
 obtain ⟨v,e⟩:=Qnf x;unfold F_r;dsimp only;rw [e,Obn];dsimp only;split <;> exact ⟨_,rfl⟩
theorem QsJ {c:List Int} (hc:Byt c) (a:Int) (ha:0≤a∧a≤1000000000): ∃v:InsD,F_o ((c,a,()),())=some ((v,()),((c,a+1+1+1+1+1+1+1,()),())):=by
 unfold F_o;dsimp only;rw [QcT hc,Obn];dsimp only;generalize Qdm _=v1;rw [QcT hc,Obn];dsimp only;generalize Qdm _=v2;rw [QcT hc,Obn];dsimp only;generalize Qdm _=v3;rw [QcT hc,Obn];dsimp only;generalize Qdm _=v4;rw [QcT hc,Obn];dsimp only;generalize Qdm _=v5;rw [QcT hc,Obn];dsimp only;generalize Qdm _=v6;rw [QpZ hc,Obn];dsimp only;generalize QkY _=v7;obtain ⟨b1,b2,b3,e⟩:=QpA (IntKind.i64.wrap (1+v1));rw [e,Obn];dsimp only
 repeat' (first | exact ⟨_,rfl⟩ | refine Qsv (P:=fun v:InsD=>some ((v,()),((c,a+1+1+1+1+1+1+1,()),()))) ?_ ?_)
 all_goals omega
def Drew {T:Type} (o:Option ((T×Unit)×(List Int×Int×Unit)×Unit)) (c:List Int) (a k:Int):Prop:= ∃(v:T) (a':Int),o=some ((v,()),((c,a',()),()))∧a≤a'∧a'≤a+k
theorem Drew.ite {T:Type} {p:Prop} [Decidable p] {x y:Option ((T×Unit)×(List Int×Int×Unit)×Unit)} {c:List Int} {a k:Int} (hx:Drew x c a k) (hy:Drew y c a k):Drew (if p then x else y) c a k:=by split <;> assumption
theorem QsK {c:List Int} (hc:Byt c) (a:Int) (ha:0≤a∧a≤100000000):Drew (T:=InsD) (F_p ((c,a,()),())) c a 20:=by
 unfold F_p;dsimp only;rw [QcT hc,Obn];dsimp only;generalize IntKind.i64.wrap (1+Qdm _)=v1;rw [QcT hc,Obn];dsimp only;generalize Qdm _=v2;obtain ⟨v,e⟩:=QsJ hc (a+1+1) (by omega)
 rw [e]
 repeat' (first
  | refine Drew.ite ?_ ?_
  | (rw [QcT hc,Obn]; dsimp only)
  | (rw [QpZ hc,Obn]; dsimp only)
  | exact ⟨_,_,rfl,by omega,by omega⟩
  | omega
  | (rw [Obn]; dsimp only))
theorem QsC {c:List Int} (hc:Byt c) (n a:Int) (ha:0≤a∧a≤10000000) (hn:n≤1000): ∃(m:List Int) (a':Int),F_u ((c,a,()),n,())=some ((m,()),((c,a',()),()))∧(m.length:Int)=(if n< 0 then 0 else n)∧a≤a'∧a'≤a+26*(if n< 0 then 0 else n):=by
 have key: ∀f (k:Nat) (m:List Int) (a:Int),k< f→k≤1000→0≤a∧a≤100000000-26*(k:Int)→m.length≤1000-k→
   ∃(m':List Int) (a':Int),Qd l_u_2 f (((),(k:Int),m,()),((c,a,()),()),())=some (.inl ((m',()),((c,a',()),()),()))∧m'.length=m.length+k∧a≤a'∧a'≤a+26*(k:Int):=by
  intro f
  induction f with
  | zero=>intro k _ _ h; omega
  | succ f ih=>
   intro k m a hk hk2 ha hm;simp only [Qd];generalize Qd l_u_2 f=rec at ih⊢;unfold l_u_2;dsimp only;by_cases h0:0< k
   ·obtain ⟨x,a1,e1,g1,g2⟩:=QsK hc a (by omega)
    obtain ⟨w,e2⟩:=QqG x;rw [if_pos (by rw [QD]; omega),e1,Obn,e2,Obn]
    dsimp only;rw [QqD hc _ _ (by omega),Obn]
    dsimp only;have ew:IntKind.i64.wrap ((k:Int)-1)=((k-1:Nat):Int):=by rw [Qm (by omega) (by omega)]; omega
    rw [ew];split
    ·rw [QuB hc _ (by omega),Obn]
     dsimp only;rw [if_pos (by simp; omega)]
     obtain ⟨m',a',i1,i2,i3,i4⟩:=ih (k-1) (m++[QjV ((c,a1+1,()),())]) (a1+1+5) (by omega) (by omega) (by omega) (by simp; omega)
     exact ⟨m',a',i1,by rw [i2]; simp; omega,by omega,by omega⟩
    ·rw [if_pos (by simp; omega)]
     obtain ⟨m',a',i1,i2,i3,i4⟩:=ih (k-1) (m++[w.2.1]) (a1+1) (by omega) (by omega) (by omega) (by simp; omega)
     exact ⟨m',a',i1,by rw [i2]; simp; omega,by omega,by omega⟩
   ·have:k=0:=by omega
    subst this;rw [if_neg (by rw [QD]; omega)]
    exact ⟨m,a,rfl,by omega,by omega,by omega⟩
 unfold F_u;dsimp only;by_cases h0:n< 0
 ·have:L_u_2 (((),n,[],()),((c,a,()),()),())=some (.inl (([],()),((c,a,()),()),())):=by
   show Qd l_u_2 lots _=_;rw [QvC,Qve];unfold l_u_2;dsimp only;rw [if_neg (by rw [QD]; omega)]
  rw [this,Obn,if_pos h0];exact ⟨[],a,rfl,rfl,by omega,by omega⟩
 ·obtain ⟨m',a',i1,i2,i3,i4⟩:=key lots n.toNat [] a (by rw [QW]; omega) (by omega) (by omega) (by simp)
  have en:((n.toNat:Nat):Int)=n:=by omega
  rw [en] at i1 i4;rw [if_neg h0];show ∃m a',(Qd l_u_2 lots (((),n,[],()),((c,a,()),()),())).bind _=_∧_;rw [i1,Obn];exact ⟨m',a',rfl,by rw [i2]; simp; omega,i3,i4⟩
theorem QlX {c:Int} (h:nz c=none):c=0:=by
 unfold nz at h;split at h
 ·cases h
 ·rename_i h'; simpa using h'
theorem QdP {p:PolD} (hok:OkPol p): ∀l∈p.2.1,(isG p l.1=true∧isG p l.2.1=true∧l.1≠l.2.1)∧(0≤l.2.2.1∧l.2.2.1≤23)∧(5≤l.2.2.2.1∧l.2.2.2.1≤6)∧5≤l.2.2.2.2.1∧l.2.2.2.2.1≤6:=by
 intro l hl;obtain ⟨i,e⟩:=Qbf hok.lanes.2 l hl;have e:=QlX e;unfold Qea at e;split at e
 ·rename_i h; exact absurd e h
 ·rename_i h0;split at e
  ·rename_i h1;refine ⟨?_,QbR.1 h1.1,QbR.1 h1.2.1,QbR.1 h1.2.2⟩;have h0:QcB p l.1 l.2.1=0:=by simpa using h0
   unfold QcB at h0;split at h0
   ·rename_i g1;split at h0
    ·rename_i g2;split at h0
     ·cases h0
     ·rename_i g3; exact ⟨g1,g2,g3⟩
    ·cases h0
   ·cases h0
  ·cases e
theorem Qbs {p:PolD} {g:Int}:isG p g=true↔0≤g∧g< (p.1.length:Int):=by unfold isG; simp; omega
def pg (m:List Int) (p:Int):List Int:=(m.drop (8*p.toNat)).take 8
def QU:QO:=([],0,[],false,false,false,0,[],[],())
theorem QgH (m:List Int) (h:m.length≤1048576):F_dg (m,())=some ((m,()),()):=by
 unfold F_dg;rw [if_pos (by simp only [List.length_nil]; omega)]
 rfl
theorem Qop (h:QO) (hl:Qdi 1048576 h):F_dm (h,())=some ((h,()),()):=by
 obtain ⟨l1,l2,l3,l4⟩:=hl;unfold F_dm;dsimp only;rw [QgH _ l1,Obn,QgH _ l2,Obn,QgH _ l3,Obn,QgH _ l4,Obn]
abbrev QbC:=QO×List TwoD×List Int×Unit
def Qnt (top:Int) (p:TwoD):Option Int:=if inB p.1 (-1) (top-1)=true then (if inB p.2.1 0 7=true then (if p.1= -1 then nz (if p.2.1=0 then 0 else 1) else none) else some 3) else some 3
def QhH (l:List TwoD) (top:Int):Int:=if inB top 1 24=true then (if l.length=8 then (match scan (fun (_:Nat) p=>Qnt top p) 0 l with | some c=>c | none=>0) else 1) else 3
def QcM (x:QbC):Int:=if hartM x.1≠0 then hartM x.1 else if QhH x.2.1 8≠0 then QhH x.2.1 8 else if QJ x.2.2.1=0∧x.2.2.1.length=64 then 0 else 1
theorem QfP {x:QbC} (h:QcM x=0):hartM x.1=0∧QhH x.2.1 8=0∧QJ x.2.2.1=0∧x.2.2.1.length=64:=by
 unfold QcM at h;split at h
 ·rename_i g; exact absurd h g
 ·rename_i g0;split at h
  ·rename_i g; exact absurd h g
  ·rename_i g1;split at h
   ·rename_i g2; exact ⟨by simpa using g0,by simpa using g1,g2⟩
   ·cases h
def WW (n:Int):Prop:=0≤n∧n≤4294967295
theorem Qvg (n:Int):iand .i64 n 4294967295=n % 4294967296:=by
 have h1:(BitVec.ofInt 64 4294967295).toNat=2 ^ 32-1:=by decide
 have key:(BitVec.ofInt 64 n &&& BitVec.ofInt 64 4294967295).toNat=(n % ((2 ^ 64:Nat):Int)).toNat % 2 ^ 32:=by
  rw [BitVec.toNat_and,BitVec.toNat_ofInt,h1,Nat.and_two_pow_sub_one_eq_mod]
 show IntKind.i64.wrap ((BitVec.ofInt 64 n &&& BitVec.ofInt 64 4294967295).toNat:Nat)=_;rw [key,IntKind.wrap_i64];omega
theorem QoG (n:Int):iand .i64 n 65535=n % 65536:=by
 have h1:(BitVec.ofInt 64 65535).toNat=2 ^ 16-1:=by decide
 have key:(BitVec.ofInt 64 n &&& BitVec.ofInt 64 65535).toNat=(n % ((2 ^ 64:Nat):Int)).toNat % 2 ^ 16:=by
  rw [BitVec.toNat_and,BitVec.toNat_ofInt,h1,Nat.and_two_pow_sub_one_eq_mod]
 show IntKind.i64.wrap ((BitVec.ofInt 64 n &&& BitVec.ofInt 64 65535).toNat:Nat)=_;rw [key,IntKind.wrap_i64];omega
theorem QpR (n:Int):iand .i64 n 15=n % 16:=by
 have h1:(BitVec.ofInt 64 15).toNat=2 ^ 4-1:=by decide
 have key:(BitVec.ofInt 64 n &&& BitVec.ofInt 64 15).toNat=(n % ((2 ^ 64:Nat):Int)).toNat % 2 ^ 4:=by
  rw [BitVec.toNat_and,BitVec.toNat_ofInt,h1,Nat.and_two_pow_sub_one_eq_mod]
 show IntKind.i64.wrap ((BitVec.ofInt 64 n &&& BitVec.ofInt 64 15).toNat:Nat)=_;rw [key,IntKind.wrap_i64];omega
def wd (n:Int):Int:=n % 4294967296
theorem Qag (n:Int):WW (wd n):=by unfold wd WW; omega
theorem QfS {n:Int} (h:WW n):wd n=n:=by unfold wd WW at *; omega
theorem QvI (n:Int):wd (wd n)=wd n:=QfS (Qag n)
theorem Qdy (n:Int):IntKind.u32.wrap n=wd n:=by rw [IntKind.wrap_u32]; rfl
theorem Qew (n:Int):IntKind.i64.wrap (wd n)=wd n:=by rw [IntKind.wrap_i64]; unfold wd; omega
theorem Qy {n:Int} (h0: -9223372036854775808≤n) (h1:n≤9223372036854775807):IntKind.i64.wrap n=n:=Qm h0 h1
theorem Qdv (n:Int):F_z (n,())=some ((wd n,()),()):=by
 unfold F_z; simp only [Qdy,Qew]
theorem Qio (x):F_z x=some ((wd x.1,()),()):=Qdv x.1
theorem Qgs (n:Int):F_ej (n,())=some ((wd n,()),()):=by
 unfold F_ej; simp only [Qvg]; rfl
theorem Qbr (x):F_ej x=some ((wd x.1,()),()):=Qgs x.1
def sg (n:Int):Int:=if wd n< 2147483648 then wd n else wd n-4294967296
theorem QeK (n:Int):F_bf (n,())=some ((sg n,()),()):=by
 unfold F_bf sg;simp only [Qdy];have h:=Qag n;generalize wd n=w at*;unfold WW at h
 have e:IntKind.i64.wrap (IntKind.i32.wrap w)=if w< 2147483648 then w else w-4294967296:=by
  rw [IntKind.wrap_i64,IntKind.wrap_i32];split <;> omega
 rw [e]
theorem QdT (x):F_bf x=some ((sg x.1,()),()):=QeK x.1
theorem Qez (n:Int):F_er (n,())=some ((sg n,()),()):=by
 unfold F_er sg;simp only [Qbr,Obn];have h:=Qag n;generalize wd n=w at*;unfold WW at h;by_cases hw:w< 2147483648
 ·rw [if_pos (QD.2 hw),if_pos hw]
 ·rw [if_neg (by rw [QD]; exact hw),if_neg hw,Qy (n:=w-4294967295) (by omega) (by omega),Qy (n:=w-4294967295-1) (by omega) (by omega),show w-4294967295-1=w-4294967296 by omega]
theorem QdO (x):F_er x=some ((sg x.1,()),()):=Qez x.1
theorem QuO (n:Int): -2147483648≤sg n∧sg n≤2147483647:=by
 unfold sg; have:=Qag n; unfold WW at this; split <;> omega
theorem QfO (n:Int):sg n=0↔wd n=0:=by
 unfold sg; have:=Qag n; unfold WW at this; split <;> omega
def addW (a b:Int):Int:=wd (a+b)
theorem Qdb (a b:Int):F_ay (a,b,())=some ((addW a b,()),()):=by
 unfold F_ay addW;simp only [Qdy,Qew,show wd (wd a+wd b)=wd (a+b) by unfold wd; omega]
theorem Qpa (x):F_ay x=some ((addW x.1 x.2.1,()),()):=Qdb x.1 x.2.1
theorem QfB (a b:Int):F_ek (a,b,())=some ((addW a b,()),()):=by
 unfold F_ek addW;simp only [Qbr,Obn];have ha:=Qag a; have hb:=Qag b;unfold WW at ha hb;rw [Qy (by omega) (by omega),show wd (wd a+wd b)=wd (a+b) by unfold wd; omega]
theorem Qor (x):F_ek x=some ((addW x.1 x.2.1,()),()):=QfB x.1 x.2.1
theorem Qkl (a b:Int):WW (addW a b):=Qag _
theorem QtF (n:Int):IntKind.i16.wrap n=(n+32768) % 65536-32768:=by
 simp only [IntKind.wrap,IntKind.bits,IntKind.signed,Bool.true_and,ge_iff_le,decide_eq_true_eq,Int.reducePow,Nat.reduceSub];split <;> omega
def off (n:Int):Int:=if 32768≤n % 65536 then n % 65536-65536 else n % 65536
theorem Qlj (n:Int):F_az (n,())=some ((off n,()),()):=by
 unfold F_az off
 have e:IntKind.i64.wrap (IntKind.i16.wrap (IntKind.u16.wrap n))=if 32768≤n % 65536 then n % 65536-65536 else n % 65536:=by
  rw [IntKind.wrap_i64,QtF,IntKind.wrap_u16];split <;> omega
 simp only [e]
theorem QqZ (n:Int):F_el (n,())=some ((off n,()),()):=by
 unfold F_el off;simp only [QoG];by_cases h:32768≤n % 65536
 ·rw [if_pos (Qba.2 h),if_pos h,Qy (by omega) (by omega)]
 ·rw [if_neg (by rw [Qba]; exact h),if_neg h]
def mulW (a b:Int):Int:=wd (wd a*wd b)
theorem QrK (a b:Int):F_bj (a,b,())=some ((mulW a b,()),()):=by
 unfold F_bj mulW; simp only [Qdy,Qew]
theorem Qph (x):F_bj x=some ((mulW x.1 x.2.1,()),()):=QrK x.1 x.2.1
theorem QqY (a b:Int):F_eu (a,b,())=some ((mulW a b,()),()):=by
 unfold F_eu mulW; simp only [Qdy,Qew]
theorem Qow (x):F_eu x=some ((mulW x.1 x.2.1,()),()):=QqY x.1 x.2.1
theorem Qqj (a b:Int) (h: -2147483648≤a∧a≤2147483647): -2147483648≤a.tdiv b∧a.tdiv b≤2147483648:=by
 have h1:(a.tdiv b).natAbs=a.natAbs / b.natAbs:=Int.natAbs_tdiv a b;have h2:a.natAbs / b.natAbs≤a.natAbs:=Nat.div_le_self _ _;omega
def divW (a b:Int):Int:=if wd b=0 then 4294967295 else wd ((sg a).tdiv (sg b))
theorem QrE (a b:Int):F_bk (a,b,())=some ((divW a b,()),()):=by
 unfold F_bk divW;simp only [Qio,QdT,Obn];by_cases h:wd b=0
 ·rw [if_pos (by simpa using h),if_pos h]
 ·have hs: ¬sg b=0:=fun e=>h ((QfO b).1 e)
  have:=Qqj (sg a) (sg b) (QuO a);rw [if_neg (by simpa using h),if_neg h,if_neg hs,Qy (by omega) (by omega)]
theorem Qpg (x):F_bk x=some ((divW x.1 x.2.1,()),()):=QrE x.1 x.2.1
theorem QqT (a b:Int):F_ev (a,b,())=some ((divW a b,()),()):=by
 unfold F_ev divW;simp only [Qbr,QdO,Obn];by_cases h:wd b=0
 ·rw [if_pos (by simpa using (QfO b).2 h),if_pos h]
 ·have hs: ¬sg b=0:=fun e=>h ((QfO b).1 e)
  have:=Qqj (sg a) (sg b) (QuO a);rw [if_neg (by simpa using hs),if_neg h,if_neg hs,Qy (by omega) (by omega)]
theorem Qou (x):F_ev x=some ((divW x.1 x.2.1,()),()):=QqT x.1 x.2.1
def remW (a b:Int):Int:=if wd b=0 then wd a else wd ((sg a).tmod (sg b))
theorem QrM (a b:Int):F_bl (a,b,())=some ((remW a b,()),()):=by
 unfold F_bl remW;simp only [Qio,QdT,Obn];by_cases h:wd b=0
 ·rw [if_pos (by simpa using h),if_pos h]
 ·have hs: ¬sg b=0:=fun e=>h ((QfO b).1 e)
  rw [if_neg (by simpa using h),if_neg h,if_neg hs]
theorem Qpk (x):F_bl x=some ((remW x.1 x.2.1,()),()):=QrM x.1 x.2.1
theorem Qrb (a b:Int):F_ew (a,b,())=some ((remW a b,()),()):=by
 unfold F_ew remW;simp only [Qbr,QdO,Obn];by_cases h:wd b=0
 ·rw [if_pos (by simpa using (QfO b).2 h),if_pos h]
 ·have hs: ¬sg b=0:=fun e=>h ((QfO b).1 e)
  rw [if_neg (by simpa using hs),if_neg h,if_neg hs]
theorem Qoy (x):F_ew x=some ((remW x.1 x.2.1,()),()):=Qrb x.1 x.2.1
theorem QhO (n:Int): ∃k:Nat,wd n=(k:Int)∧k< 4294967296:=⟨(wd n).toNat,by have:=Qag n; unfold WW at this; omega,by have:=Qag n; unfold WW at this; omega⟩
theorem QfG {k:Nat} (h:k< 4294967296):(BitVec.ofInt 32 (k:Int)).toNat=k:=by
 rw [BitVec.ofInt_natCast,BitVec.toNat_ofNat]; exact Nat.mod_eq_of_lt (by omega)
theorem QfH {k:Nat} (h:k< 4294967296):(BitVec.ofInt 64 (k:Int)).toNat=k:=by
 rw [BitVec.ofInt_natCast,BitVec.toNat_ofNat]; exact Nat.mod_eq_of_lt (by omega)
def bitN (op:Int) (a b:Nat):Nat:=if op=1 then a &&& b else if op=2 then a ||| b else a ^^^ b
def bitW (op a b:Int):Int:=(bitN op (wd a).toNat (wd b).toNat:Int)
theorem QlJ (op:Int) {a b:Nat} (ha:a< 4294967296) (hb:b< 4294967296):bitN op a b< 4294967296:=by
 unfold bitN;split
 ·exact Nat.and_lt_two_pow (n:=32) _ (by omega)
 ·split
  ·exact Nat.or_lt_two_pow (n:=32) (by omega) (by omega)
  ·exact Nat.xor_lt_two_pow (n:=32) (by omega) (by omega)
theorem Qqy (op a b:Int):WW (bitW op a b):=by
 obtain ⟨x,hx,hx2⟩:=QhO a;obtain ⟨y,hy,hy2⟩:=QhO b;unfold bitW WW;rw [hx,hy];have:=QlJ op hx2 hy2;simp only [Int.toNat_natCast];omega
theorem QhM (op a b:Int) (h:op=1∨op=2∨op=3):F_bm (op,a,b,())=some (((0,bitW op a b,()),()),()):=by
 unfold F_bm bitW;simp only [Qdy];obtain ⟨x,hx,hx2⟩:=QhO a;obtain ⟨y,hy,hy2⟩:=QhO b;rw [hx,hy];simp only [Int.toNat_natCast];have hlt:=QlJ op hx2 hy2;rcases h with rfl | rfl | rfl
 ·rw [if_pos (by decide)]
  show some (((0,IntKind.i64.wrap (IntKind.u32.wrap ((BitVec.ofInt 32 (x:Int) &&& BitVec.ofInt 32 (y:Int)).toNat:Int)),()),()),())=_;have:bitN 1 x y=x &&& y:=rfl;rw [BitVec.toNat_and,QfG hx2,QfG hy2, ←this,Qdy,Qew,QfS (by unfold WW; omega)]
 ·rw [if_neg (by decide),if_pos (by decide)]
  show some (((0,IntKind.i64.wrap (IntKind.u32.wrap ((BitVec.ofInt 32 (x:Int) ||| BitVec.ofInt 32 (y:Int)).toNat:Int)),()),()),())=_
  have:bitN 2 x y=x ||| y:=rfl
  rw [BitVec.toNat_or,QfG hx2,QfG hy2, ←this,Qdy,Qew,QfS (by unfold WW; omega)]
 ·rw [if_neg (by decide),if_neg (by decide),if_pos (by decide)]
  show some (((0,IntKind.i64.wrap (IntKind.u32.wrap ((BitVec.ofInt 32 (x:Int) ^^^ BitVec.ofInt 32 (y:Int)).toNat:Int)),()),()),())=_;have:bitN 3 x y=x ^^^ y:=rfl;rw [BitVec.toNat_xor,QfG hx2,QfG hy2, ←this,Qdy,Qew,QfS (by unfold WW; omega)]
theorem Qhx (op a b:Int) (h:op=1∨op=2∨op=3):F_ex (op,a,b,())=some (((0,bitW op a b,()),()),()):=by
 unfold F_ex bitW;simp only [Qbr,Obn];obtain ⟨x,hx,hx2⟩:=QhO a;obtain ⟨y,hy,hy2⟩:=QhO b;rw [hx,hy];simp only [Int.toNat_natCast];have hlt:=QlJ op hx2 hy2;rcases h with rfl | rfl | rfl
 ·rw [if_pos (by decide)]
  show some (((0,IntKind.i64.wrap ((BitVec.ofInt 64 (x:Int) &&& BitVec.ofInt 64 (y:Int)).toNat:Int),()),()),())=_;have:bitN 1 x y=x &&& y:=rfl;rw [BitVec.toNat_and,QfH hx2,QfH hy2, ←this,Qy (by omega) (by omega)]
 ·rw [if_neg (by decide),if_pos (by decide)]
  show some (((0,IntKind.i64.wrap ((BitVec.ofInt 64 (x:Int) ||| BitVec.ofInt 64 (y:Int)).toNat:Int),()),()),())=_
  have:bitN 2 x y=x ||| y:=rfl
  rw [BitVec.toNat_or,QfH hx2,QfH hy2, ←this,Qy (by omega) (by omega)]
 ·rw [if_neg (by decide),if_neg (by decide),if_pos (by decide)]
  show some (((0,IntKind.i64.wrap ((BitVec.ofInt 64 (x:Int) ^^^ BitVec.ofInt 64 (y:Int)).toNat:Int),()),()),())=_;have:bitN 3 x y=x ^^^ y:=rfl;rw [BitVec.toNat_xor,QfH hx2,QfH hy2, ←this,Qy (by omega) (by omega)]
def shW (a b:Int) (left:Bool):Int:=if left=true then wd (wd a*2 ^ (wd b % 32).toNat) else wd a / 2 ^ (wd b % 32).toNat
theorem QnE {a:Int} (h:WW a) (k:Nat):WW (a / 2 ^ k):=by
 unfold WW at*;have h2:(0:Int)< 2 ^ k:=Int.pow_pos (by omega)
 exact ⟨Int.ediv_nonneg h.1 (by omega),Int.le_trans (Int.ediv_le_self _ h.1) h.2⟩
theorem Qts (a b:Int) (l:Bool):WW (shW a b l):=by
 unfold shW; split
 ·exact Qag _
 ·exact QnE (Qag a) _
theorem Qtm {k:Nat} (h:k< 32):(2:Int) ^ k≤2147483648:=by
 have:(2:Nat) ^ k≤2 ^ 31:=Nat.pow_le_pow_right (by omega) (by omega)
 have h2:((2 ^ k:Nat):Int)≤((2 ^ 31:Nat):Int):=Int.ofNat_le.2 this;simpa using h2
theorem Qtx {w:Int} (h:WW w):w.tmod 32=w % 32:=Int.tmod_eq_emod_of_nonneg h.1
theorem QcC {a:Int} (h:0≤a) (k:Nat):a.fdiv (2 ^ k)=a / 2 ^ k:=Int.fdiv_eq_ediv_of_nonneg _ (Int.le_of_lt (Int.pow_pos (by omega)))
theorem QnL (a b:Int) (l:Bool):F_bn (a,b,l,())=some ((shW a b l,()),()):=by
 unfold F_bn shW;simp only [Qdy,Qtx (Qag b)];have hw:=Qag a;have hb:0≤wd b % 32∧wd b % 32< 32:=by omega
 have e:IntKind.u64.wrap (wd b % 32)=wd b % 32:=by rw [IntKind.wrap_u64]; omega
 have e2:min (wd b % 32).toNat 32=(wd b % 32).toNat:=by omega
 rw [e,e2];cases l
 ·rw [if_neg (by decide),if_neg (by omega),if_neg (by decide),QcC hw.1]
  have:=QnE hw (wd b % 32).toNat;unfold WW at this;rw [Qy (by omega) (by omega)]
 ·rw [if_pos rfl,if_neg (by omega),if_pos rfl,Qew]
theorem Qmj (x):F_bn x=some ((shW x.1 x.2.1 x.2.2.1,()),()):=QnL x.1 x.2.1 x.2.2.1
end Go.Proofs.YticbdcmkcghijaaGreatDoor
