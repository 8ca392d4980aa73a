/- Plain laws: what the functions compute, and that both programs compute the same. -/
import Derived.Test.YtkkljegcnnfanaaGreatDoorPb1
set_option linter.unusedVariables false
set_option linter.unusedSimpArgs false
namespace Go.Proofs.YtkkljegcnnfanaaGreatDoor
open Go Go.RowKit S Go.Proofs
set_option maxRecDepth 100000
theorem QhC (m:List Int): ∀l:List Int,(QP m l).length≤8*l.length
 | []=>by simp [QP]
 | p::r=>by
  have h1:=QhC m r;have a:=Qhu m p;unfold QP at h1⊢;rw [List.flatMap_cons,List.length_append,List.length_cons]; omega
theorem Qlv (m:List Int) {l:List Int} {k:Nat} (h:k< l.length):QP m (l.drop k)=pg m l[k]++QP m (l.drop (k+1)):=by
 rw [QaQ h]; rfl
theorem QxO (m:List Int) (P:Nat) (h:8*P+8≤m.length) (h2:m.length≤192):
  (0≤IntKind.i64.wrap ((P:Int)*8)∧IntKind.i64.wrap ((P:Int)*8)≤IntKind.i64.wrap (IntKind.i64.wrap ((P:Int)+1)*8)∧IntKind.i64.wrap (IntKind.i64.wrap ((P:Int)+1)*8)≤((m.length:Nat):Int))∧
   (m.drop (IntKind.i64.wrap ((P:Int)*8)).toNat).take ((IntKind.i64.wrap (IntKind.i64.wrap ((P:Int)+1)*8)).toNat-(IntKind.i64.wrap ((P:Int)*8)).toNat)=pg m (P:Int):=by
 rw [Qj (n:=(P:Int)*8) (by omega) (by omega),Qj (n:=(P:Int)+1) (by omega) (by omega),Qj (n:=((P:Int)+1)*8) (by omega) (by omega)]
 refine ⟨⟨by omega,by omega,by omega⟩,?_⟩
 have a:((P:Int)*8).toNat=8*P:=by omega
 have b:(((P:Int)+1)*8).toNat-8*P=8:=by omega
 rw [a,b];unfold pg;rw [Int.toNat_natCast]
theorem Qbu (m l:List Int) (hm:m.length≤192) (hp: ∀p∈l,0≤p∧8*p+8≤(m.length:Int)) (hl:l.length≤1000):F_dw (m,l,())=some ((QP m l,()),()):=by
 have c:=Qdj (step:=l_dw_3) (γ:=denO o_aa_3) (fun k (b:List Int)=>((m,l,b,((k:Nat):Int),()),(),())) l.length (Qao (by omega)) (fun k b=>b.length≤8*k)
  (fun k b=>some (.inl ((b++QP m (l.drop k),()),(),()))) ?_ 0 [] (by omega) (by simp)
 ·have h:((0:Nat):Int)=0:=rfl;rw [h,List.drop_zero,List.nil_append] at c;unfold F_dw;show (Qb l_dw_3 lots _).bind _=_;rw [c,Obn]
 ·rintro rec k b hk ho ih;unfold l_dw_3;dsimp only;by_cases a:k< l.length
  ·have j:=hp _ (List.getElem_mem a);have e:=Qlv m a;generalize i:l[k]=y at j e;obtain ⟨P,rfl⟩: ∃P:Nat,y=(P:Int):=⟨y.toNat,by omega⟩
   obtain ⟨f,g⟩:=QxO m P (by omega) hm
   have d:l[((k:Nat):Int).toNat]?=some (P:Int):=by rw [Int.toNat_natCast,List.getElem?_eq_getElem a,i]
   rw [if_pos (lt_t a),if_pos nat0,d,Obn,if_pos nat0,Obn,g,if_pos f,if_pos (by have:=Qhu m (P:Int); omega),QH (by omega),e]
   rw [ih (b++pg m (P:Int)) a (by have:=Qhu m (P:Int); rw [List.length_append]; omega),List.append_assoc]
  ·rw [if_neg (lt_f a),Qbl a];simp [QP]
theorem Qdh (m:List Int) (p:Int) (hm:m.length≤192) (hp:0≤p∧8*p+8≤(m.length:Int)):F_dm (m,p,())=some ((pg m p,()),()):=by
 obtain ⟨P,rfl⟩: ∃P:Nat,p=(P:Int):=⟨p.toNat,by omega⟩
 rw [QmH m P (by omega) hm]
 unfold pg;rw [Int.toNat_natCast]
theorem QnN (m l:List Int) (hm:m.length≤192) (hp: ∀p∈l,0≤p∧8*p+8≤(m.length:Int)) (hl:l.length≤1000):F_eo (m,l,())=some ((QP m l,()),()):=by
 have c:=Qdj (step:=l_eo_3) (γ:=denO o_aa_3) (fun k (b:List Int)=>((m,b,l,((l.length:Nat):Int),((k:Nat):Int),()),(),())) l.length (Qao (by omega)) (fun k b=>b.length≤8*k)
  (fun k b=>some (.inl ((b++QP m (l.drop k),()),(),()))) ?_ 0 [] (by omega) (by simp)
 ·have d:((0:Nat):Int)=0:=rfl;rw [d,List.drop_zero,List.nil_append] at c;unfold F_eo;show (Qb l_eo_3 lots _).bind _=_;rw [c,Obn]
 ·rintro rec k b hk ho ih;unfold l_eo_3;dsimp only;by_cases a:k< l.length
  ·have e:=hp _ (List.getElem_mem a);rw [if_pos (lt_t a),if_pos nat0,Ql a,Qdh m _ hm e,Obn];dsimp only;rw [if_pos (by have:=Qhu m l[k]; omega),QH (by omega),Qlv m a]
   rw [ih (b++pg m l[k]) a (by have:=Qhu m l[k]; rw [List.length_append]; omega),List.append_assoc]
  ·rw [if_neg (lt_f a),Qbl a];simp [QP]
def Qag (g:Int) (b:Bool):List QJ→List Int
 | []=>[]
 | l::r=>if l.1=g then (if b=true then l.2.2.1 else l.2.2.2.1)::Qag g b r else Qag g b r
theorem Qfa (g:Int) (b:Bool): ∀ls:List QJ,(Qag g b ls).length≤ls.length
 | []=>by simp [Qag]
 | l::r=>by
  have:=Qfa g b r;simp only [Qag];split
  ·simp only [List.length_cons]; omega
  ·simp only [List.length_cons]; omega
theorem Qfb {g:Int} {b:Bool}: ∀{ls:List QJ}, ∀v∈Qag g b ls, ∃l∈ls,l.1=g∧v=if b=true then l.2.2.1 else l.2.2.2.1
 | [],v,h=>by simp [Qag] at h
 | l::r,v,h=>by
  simp only [Qag] at h;split at h
  ·rename_i hg;rcases List.mem_cons.1 h with h | h
   ·exact ⟨l,by simp,hg,h⟩
   ·obtain ⟨l',h1,h2⟩:=Qfb v h;exact ⟨l',by simp [h1],h2⟩
  ·obtain ⟨l',h1,h2⟩:=Qfb v h;exact ⟨l',by simp [h1],h2⟩
theorem QoP (p:PolD) (g:Int) (b:Bool) (hl:p.2.1.length≤4):F_gs (p,g,b,())=some ((Qag g b p.2.1,()),()):=by
 have d:=Qdj (step:=l_gs_3) (γ:=denO o_gs_3) (fun k (c:List Int)=>((p,g,b,c,((k:Nat):Int),()),(),())) p.2.1.length (Qao (by omega)) (fun k c=>c.length≤k)
  (fun k c=>some (.inl ((c++Qag g b (p.2.1.drop k),()),(),()))) ?_ 0 [] (by omega) (by simp)
 ·have e:((0:Nat):Int)=0:=rfl;rw [e,List.drop_zero,List.nil_append] at d;unfold F_gs;show (Qb l_gs_3 lots _).bind _=_;rw [d,Obn]
 ·rintro rec k c hk ho ih;unfold l_gs_3;dsimp only;by_cases a:k< p.2.1.length
  ·rw [if_pos (lt_t a),if_pos nat0,Ql a,QaQ a,Qag,QH (by omega)]
   by_cases h:(p.2.1[k]).1=g
   ·rw [if_neg (by simpa using h),if_pos h]
    cases b
    ·rw [if_neg (by simp),if_pos nat0,Ql a,if_pos (by simp only [List.length_cons,List.length_nil]; omega),ih _ a (by simp; omega),if_neg (by simp),List.append_assoc]
     rfl
    ·rw [if_pos rfl,if_pos nat0,Ql a,if_pos (by simp only [List.length_cons,List.length_nil]; omega),ih _ a (by simp; omega),if_pos rfl,List.append_assoc]
     rfl
   ·rw [if_pos (by simpa using h),if_neg h]
    exact ih _ a (by omega)
  ·rw [if_neg (lt_f a),Qbl a,Qag,List.append_nil]
def QO:QM:=([],0,[],false,false,false,0,[],[],())
theorem Qgt (h:QM) (hl:Qbz 1048576 h):F_al (h,())=some ((h,()),()):=by
 obtain ⟨a,b,c,d⟩:=hl;unfold F_al;dsimp only;rw [if_pos (by simp only [List.length_nil]; omega),if_pos (by simp only [List.length_nil]; omega),if_pos (by simp only [List.length_nil]; omega),if_pos (by simp only [List.length_nil]; omega)]
 rfl
theorem QfB (m:List Int) (h:m.length≤1048576):F_dl (m,())=some ((m,()),()):=by
 unfold F_dl;rw [if_pos (by simp only [List.length_nil]; omega)]
 rfl
theorem QdK (h:QM) (hl:Qbz 1048576 h):F_dn (h,())=some ((h,()),()):=by
 obtain ⟨a,b,c,d⟩:=hl;unfold F_dn;dsimp only;rw [QfB _ a,Obn,QfB _ b,Obn,QfB _ c,Obn,QfB _ d,Obn]
abbrev QrH:=Int×List Int×Int×List Int×Bool×Bool×Bool×Int×List Int×List Int×List Int×List Int×Unit
def Qhh (c:Int) (h:QM) (o g:List Int):QrH:=(c,h.1,h.2.1,h.2.2.1,h.2.2.2.1,h.2.2.2.2.1,h.2.2.2.2.2.1,h.2.2.2.2.2.2.1,h.2.2.2.2.2.2.2.1,h.2.2.2.2.2.2.2.2.1,o,g,())
def QsD (x:Qo) (g:Int):QrH:=
 if Qak x≠0 then Qhh (Qak x) QO [] []
 else if isG x.1 g=true then Qhh 0 (x.2.2.1.getD g.toNat QO) (QP x.2.1 (x.1.1.getD g.toNat [])) (QP x.2.1 (Qag g true x.1.2.1))
 else Qhh 4 QO [] []
theorem Qkn {x:Qo} (h:Qak x=0):x.2.1.length=192∧x.2.2.1.length=x.1.1.length:=by
 have a:=Qdg h;unfold Qak at h;rw [if_neg (by simpa using a)] at h
 split at h
 ·rename_i g; exact ⟨g.1.2,g.2⟩
 ·cases h
theorem Qkl {x:Qo} {g:Int} (hx:Qcc 1048576 x) (h:Qak x=0) (hg:isG x.1 g=true):
  (0≤g∧x.2.2.1[g.toNat]?=some (x.2.2.1.getD g.toNat QO)∧x.1.1[g.toNat]?=some (x.1.1.getD g.toNat []))∧Qbz 1048576 (x.2.2.1.getD g.toNat QO)∧
   ((x.1.1.getD g.toNat []).length≤5∧ ∀p∈x.1.1.getD g.toNat [],0≤p∧8*p+8≤(x.2.1.length:Int))∧ ∀p∈Qag g true x.1.2.1,0≤p∧8*p+8≤(x.2.1.length:Int):=by
 obtain ⟨j,m⟩:=Qbn.1 hg;obtain ⟨o,n⟩:=Qkn h;have a:=QdQ (Qdg h);have f:g.toNat< x.1.1.length:=by omega
 have i:g.toNat< x.2.2.1.length:=by omega
 have b:x.1.1[g.toNat]?=some (x.1.1.getD g.toNat []):=by rw [List.getD_eq_getElem?_getD,List.getElem?_eq_getElem f]; rfl
 have d:x.2.2.1[g.toNat]?=some (x.2.2.1.getD g.toNat QO):=by rw [List.getD_eq_getElem?_getD,List.getElem?_eq_getElem i]; rfl
 refine ⟨⟨j,d,b⟩,hx.2.2.2 _ (List.mem_of_getElem? d),⟨(a.own1 _ (List.mem_of_getElem? b)).2.1,fun p c=>?_⟩,fun p c=>?_⟩
 ·have:=(a.own1 _ (List.mem_of_getElem? b)).2.2 p c;omega
 ·obtain ⟨l,k,_,e⟩:=Qfb p c;rw [if_pos rfl] at e;have:=(QbI a l k).2.1;omega
theorem Qjb {m:List QM} {i:Nat} (h: ∀y∈m,Qbz 1048576 y):Qbz 1048576 (m.getD i QO):=by
 rw [List.getD_eq_getElem?_getD];cases e:m[i]? with
 | none=>exact ⟨by simp [QO],by simp [QO],by simp [QO],by simp [QO]⟩
 | some y=>exact h y (List.mem_of_getElem? e)
def vrLe (r:QrH):Prop:=r.2.1.length≤1048576∧r.2.2.2.1.length≤1048576∧r.2.2.2.2.2.2.2.2.1.length≤1048576∧r.2.2.2.2.2.2.2.2.2.1.length≤1048576∧r.2.2.2.2.2.2.2.2.2.2.1.length≤1048576∧r.2.2.2.2.2.2.2.2.2.2.2.1.length≤1048576
theorem Qnr (c:Int):vrLe (Qhh c QO [] []):=by unfold vrLe Qhh QO; simp
theorem QvR (x:Qo) (g:Int) (hx:Qcc 1048576 x):vrLe (QsD x g):=by
 unfold QsD;split
 ·exact Qnr _
 ·rename_i b;have b:Qak x=0:=by simpa using b
  split
  ·rename_i c;obtain ⟨_,a,⟨d,e⟩,f⟩:=Qkl hx b c;have h:=QhC x.2.1 (x.1.1.getD g.toNat []);have i:=QhC x.2.1 (Qag g true x.1.2.1);have j:=Qfa g true x.1.2.1;have k:=(QdQ (Qdg b)).lanes.1;exact ⟨a.1,a.2.1,a.2.2.1,a.2.2.2,by show (QP _ _).length≤_; omega,by show (QP _ _).length≤_; omega⟩
  ·exact Qnr _
abbrev QQ:=QM×List TwoD×List Int×Unit
def Qfs (top:Int) (p:TwoD):Option Int:=if inB p.1 (-1) (top-1)=true then (if inB p.2.1 0 7=true then (if p.1= -1 then nz (if p.2.1=0 then 0 else 1) else none) else some 3) else some 3
def QaG (l:List TwoD) (top:Int):Int:=if inB top 1 24=true then (if l.length=8 then (match scan (fun (_:Nat) p=>Qfs top p) 0 l with | some c=>c | none=>0) else 1) else 3
theorem QlG (l:List TwoD) (top:Int) (hl:l.length≤1048576):F_gn (l,top,())=some ((QaG l top,()),()):=by
 unfold F_gn QaG;dsimp only;rw [QaA,Obn];dsimp only;by_cases d:inB top 1 24=true
 case neg=>rw [if_pos (by simpa using d),if_neg d]
 rw [if_neg (by simpa using d),if_pos d]
 by_cases h:l.length=8
 case neg=>rw [if_pos (by simp; omega),if_neg h]
 rw [if_neg (by rw [h]; decide),if_pos h]
 have o:=QbA.1 d;have g:=QW (step:=l_gn_6) (γ:=denO o_j_2) (fun i=>((l,top,((i:Nat):Int),()),(),())) l (fun (_:Nat) p=>Qfs top p) (fun c=>some (.inr (.inl ((c,()),(),())))) (some (.inl ((),(),()))) (Qbo hl) ?_ ?_
 ·have k:((0:Nat):Int)=0:=rfl;rw [k] at g;show (Qb l_gn_6 lots ((l,top,0,()),(),())).bind _=_;rw [g];cases scan (fun (_:Nat) p=>Qfs top p) 0 l <;> rfl
 ·intro rec i a;unfold l_gn_6;dsimp only;rw [if_pos (lt_t a),if_pos nat0,Ql a,Qj (n:=top-1) (by omega) (by omega),QaA,Obn,if_pos nat0,Ql a,QaA,Obn,if_pos nat0,Ql a,if_pos nat0,Ql a,QH (lt1 a hl)]
  dsimp only;unfold Qfs;by_cases b:inB (l[i]).1 (-1) (top-1)=true
  ·have m:=QbA.1 b;rw [if_pos (show (!inB (l[i]).1 (-1) (top-1))=false by rw [b]; rfl),if_pos b]
   by_cases e:inB (l[i]).2.1 0 7=true
   ·rw [if_neg (by simpa using e),if_pos e]
    by_cases j:(l[i]).1= -1
    ·rw [if_pos (QB.2 (by omega)),if_pos j]
     by_cases f:(l[i]).2.1=0
     ·rw [if_neg (by simpa using f),if_pos f]; rfl
     ·rw [if_pos (by simpa using f),if_neg f]; rfl
    ·rw [if_neg (by rw [QB]; omega),if_neg j]
   ·rw [if_pos (by simpa using e),if_neg e]
  ·rw [if_neg (by simpa using b),if_neg b]
 ·intro rec;unfold l_gn_6;dsimp only;rw [if_neg Qax]
theorem QlA (l:List TwoD) (top:Int) (hl:l.length≤1048576):F_ea (l,top,())=some ((QaG l top,()),()):=by
 unfold F_ea QaG;dsimp only;rw [Qah,Obn];dsimp only;by_cases b:inB top 1 24=true
 case neg=>rw [if_pos (by simpa using b),if_neg b]
 rw [if_neg (by simpa using b),if_pos b]
 by_cases h:l.length=8
 case neg=>rw [if_pos (by simp; omega),if_neg h]
 rw [if_neg (by rw [h]; decide),if_pos h]
 have o:=QbA.1 b;have g:=QW (step:=l_ea_6) (γ:=denO o_ea_6) (fun i=>((top,l,((l.length:Nat):Int),((i:Nat):Int),()),(),())) l (fun (_:Nat) p=>Qfs top p) (fun c=>some (.inr (.inl ((c,()),(),())))) (some (.inl ((),(),()))) (Qbo hl) ?_ ?_
 ·have k:((0:Nat):Int)=0:=rfl;rw [k] at g;show (Qb l_ea_6 lots ((top,l,((l.length:Nat):Int),0,()),(),())).bind _=_;rw [g];cases scan (fun (_:Nat) p=>Qfs top p) 0 l <;> rfl
 ·intro rec i j;unfold l_ea_6;dsimp only;rw [if_pos (lt_t j),if_pos nat0,Ql j,Qj (n:=top-1) (by omega) (by omega),Qah,Obn,Qah,Obn,QH (lt1 j hl)]
  dsimp only;unfold Qfs;by_cases a:inB (l[i]).1 (-1) (top-1)=true
  ·have m:=QbA.1 a;rw [if_pos (show (!inB (l[i]).1 (-1) (top-1))=false by rw [a]; rfl),if_pos a]
   by_cases d:inB (l[i]).2.1 0 7=true
   ·rw [if_neg (by simpa using d),if_pos d]
    by_cases e:(l[i]).1= -1
    ·rw [if_pos (by simpa using e),if_pos e]
     by_cases f:(l[i]).2.1=0
     ·rw [if_neg (by simpa using f),if_pos f]; rfl
     ·rw [if_pos (by simpa using f),if_neg f]; rfl
    ·rw [if_neg (by simpa using e),if_neg e]
   ·rw [if_pos (by simpa using d),if_neg d]
  ·rw [if_neg (by simpa using a),if_neg a]
 ·intro rec;unfold l_ea_6;dsimp only;rw [if_neg Qax]
def Qge (n:Nat) (x:QQ):Prop:=Qbz n x.1∧x.2.1.length≤n∧x.2.2.1.length≤n
def QX (x:QQ):Int:=if hartM x.1≠0 then hartM x.1 else if QaG x.2.1 8≠0 then QaG x.2.1 8 else if QF x.2.2.1=0∧x.2.2.1.length=64 then 0 else 1
theorem QpD {m:List Int}:(if (QF m !=0)=false then (if (((m.length:Nat):Int) !=64)=true then some ((((1:Int),()),()):(Int×Unit)×Unit) else some (((0:Int),()),())) else some (((1:Int),()),()))=some ((if QF m=0∧m.length=64 then 0 else 1,()),()):=by
 by_cases a:QF m=0
 ·by_cases b:m.length=64
  ·simp [a,b]
  ·have: ¬((m.length:Nat):Int)=64:=by omega
   simp [a,b,this]
 ·simp [a]
theorem Qgj (x:QQ) (h:Qge 1048576 x):F_go (x,())=some ((QX x,()),()):=by
 obtain ⟨d,e,f⟩:=h;unfold F_go QX;dsimp only;rw [Qgf _ d,Obn];dsimp only;by_cases a:hartM x.1=0
 case neg=>rw [if_pos (c:=(hartM x.1 !=0)=true) (by simpa using a),if_pos (c:=hartM x.1≠0) a]
 rw [if_neg (c:=(hartM x.1 !=0)=true) (by simpa using a),if_neg (c:=hartM x.1≠0) (by simpa using a),QlG _ _ e,Obn]
 dsimp only;by_cases b:QaG x.2.1 8=0
 case neg=>rw [if_pos (c:=(QaG x.2.1 8 !=0)=true) (by simpa using b),if_pos (c:=QaG x.2.1 8≠0) b]
 rw [if_neg (c:=(QaG x.2.1 8 !=0)=true) (by simpa using b),if_neg (c:=QaG x.2.1 8≠0) (by simpa using b),Qik _ (leM f),Obn]
 exact QpD
theorem Qjf (x:QQ) (h:Qge 1048576 x):F_ec (x,())=some ((QX x,()),()):=by
 obtain ⟨e,f,g⟩:=h;unfold F_ec QX;dsimp only;rw [Qje _ e,Obn,QlA _ _ f,Obn,Qca,Obn];dsimp only;by_cases a:hartM x.1=0
 case neg=>
  have d:(if hartM x.1≠0 then hartM x.1 else QaG x.2.1 8)=hartM x.1:=if_pos a
  rw [d,if_pos (c:=(hartM x.1 !=0)=true) (by simpa using a),if_pos (c:=hartM x.1≠0) a]
 have d:(if hartM x.1≠0 then hartM x.1 else QaG x.2.1 8)=QaG x.2.1 8:=if_neg (by simpa using a)
 rw [d,if_neg (c:=hartM x.1≠0) (by simpa using a)]
 by_cases b:QaG x.2.1 8=0
 case neg=>rw [if_pos (c:=(QaG x.2.1 8 !=0)=true) (by simpa using b),if_pos (c:=QaG x.2.1 8≠0) b]
 rw [if_neg (c:=(QaG x.2.1 8 !=0)=true) (by simpa using b),if_neg (c:=QaG x.2.1 8≠0) (by simpa using b),QhS _ (leM g),Obn]
 exact QpD
theorem QbQ {x:QQ} (h:QX x=0):hartM x.1=0∧QaG x.2.1 8=0∧QF x.2.2.1=0∧x.2.2.1.length=64:=by
 unfold QX at h;split at h
 ·rename_i g; exact absurd h g
 ·rename_i a;split at h
  ·rename_i g; exact absurd h g
  ·rename_i b;split at h
   ·rename_i c; exact ⟨by simpa using a,by simpa using b,c⟩
   ·cases h
theorem Qnp (m:List Int): ∀(n k:Nat),QP m (QbY (k:Int) n)=(m.drop (8*k)).take (8*n)
 | 0,k=>by simp [QbY,QP]
 | n+1,k=>by
  have ih:=Qnp m n (k+1);have e:((k+1:Nat):Int)=(k:Int)+1:=by omega
  rw [e] at ih;simp only [QbY,QP,List.flatMap_cons] at ih⊢;rw [ih];unfold pg;rw [Int.toNat_natCast,show 8*(n+1)=8+8*n by omega,List.take_add,List.drop_drop]
  congr 2
theorem Qjt: ∀{n:Nat} {k:Int} {v:Int},v∈QbY k n→k≤v∧v< k+(n:Int)
 | 0,k,v,h=>by simp [QbY] at h
 | n+1,k,v,h=>by
  simp only [QbY] at h;rcases List.mem_cons.1 h with h | h
  ·omega
  ·have:=Qjt h; omega
def QgH (p:PolD) (x:QQ) (g:Int):QrH:=
 if askM p g≠0 then Qhh (askM p g) QO [] []
 else if QX x≠0 then Qhh (QX x) QO [] []
 else Qhh 0 x.1 (x.2.2.1.take (8*(p.1.getD g.toNat []).length)) (QP x.2.2.1 (Qag g false p.2.1))
theorem QlW {p:PolD} {g:Int} (h:askM p g=0):OkPol p∧0≤g∧p.1[g.toNat]?=some (p.1.getD g.toNat [])∧(p.1.getD g.toNat []).length≤5:=by
 obtain ⟨a,c,e⟩:=Qxg h;have d:g.toNat< p.1.length:=by omega
 have b:p.1[g.toNat]?=some (p.1.getD g.toNat []):=by rw [List.getD_eq_getElem?_getD,List.getElem?_eq_getElem d]; rfl
 exact ⟨a,c,b,(a.own1 _ (List.mem_of_getElem? b)).2.1⟩
theorem QuJ {p:PolD} (hok:OkPol p) {g:Int} {n:Nat} (hn:64≤n): ∀q∈Qag g false p.2.1,0≤q∧8*q+8≤(n:Int):=by
 intro q b;obtain ⟨l,a,_,e⟩:=Qfb q b;rw [if_neg (by simp)] at e
 have:=(QbI hok l a).2.2.1;omega
theorem QjA (p:PolD) (x:QQ) (g:Int) (hp:QfX 1048576 p) (hx:Qge 1048576 x):F_gv (p,x,g,())=some ((QgH p x g,()),()):=by
 unfold F_gv QgH;dsimp only;rw [Qrh p g hp,Obn];dsimp only;by_cases b:askM p g=0
 case neg=>rw [if_pos (by simpa using b),if_pos b]; rfl
 rw [if_neg (by simpa using b),if_neg (by simpa using b),Qgj x hx,Obn]
 dsimp only;by_cases c:QX x=0
 case neg=>rw [if_pos (by simpa using c),if_pos c]; rfl
 rw [if_neg (by simpa using c),if_neg (by simpa using c)]
 obtain ⟨e,n,l,r⟩:=QlW b;obtain ⟨_,_,_,s⟩:=QbQ c;generalize p.1.getD g.toNat []=ow at*
 have f:=Qdj (step:=l_gv_9) (γ:=denO o_gv_9)
  (fun k (a:List Int)=>((g,(),(),(),a,((k:Nat):Int),()),((p.1,p.2.1,p.2.2.1,p.2.2.2.1,()),(x.1.1,x.1.2.1,x.1.2.2.1,x.1.2.2.2.1,x.1.2.2.2.2.1,x.1.2.2.2.2.2.1,x.1.2.2.2.2.2.2.1,x.1.2.2.2.2.2.2.2.1,x.1.2.2.2.2.2.2.2.2.1,x.2.1,x.2.2.1,()),(0,[],0,[],false,false,false,0,[],[],[],[],()),()),()))
  ow.length (Qao (by omega)) (fun k a=>a.length=k)
  (fun k a=>some (.inl ((g,(),(),(),a++QbY (k:Int) (ow.length-k),()),((p.1,p.2.1,p.2.2.1,p.2.2.2.1,()),(x.1.1,x.1.2.1,x.1.2.2.1,x.1.2.2.2.1,x.1.2.2.2.2.1,x.1.2.2.2.2.2.1,x.1.2.2.2.2.2.2.1,x.1.2.2.2.2.2.2.2.1,x.1.2.2.2.2.2.2.2.2.1,x.2.1,x.2.2.1,()),(0,[],0,[],false,false,false,0,[],[],[],[],()),()),()))) ?_ 0 [] (by omega) rfl
 ·have i:((0:Nat):Int)=0:=rfl;rw [i,Nat.sub_zero,List.nil_append] at f;show (Qb l_gv_9 lots _).bind _=_;rw [f,Obn];dsimp only;show (F_al (x.1,())).bind _=_;have j:=Qnp x.2.2.1 ow.length 0;rw [i,Nat.mul_zero,List.drop_zero] at j;rw [Qgt _ hx.1,Obn,Qbu _ _ (by omega) (fun q o=>by have:=Qjt o; omega) (by rw [Qjs]; omega),Obn,j]
  show (F_gs (p,g,false,())).bind _=_;rw [QoP p g false e.lanes.1,Obn,Qbu _ _ (by omega) (QuJ e (by omega)) (by have:=Qfa g false p.2.1; have:=e.lanes.1; omega),Obn]
  rfl
 ·rintro rec k a hk ho ih;unfold l_gv_9;dsimp only;rw [if_pos n,l,Obn];by_cases d:k< ow.length
  ·rw [if_pos (lt_t d),if_pos (by simp only [List.length_cons,List.length_nil]; omega),QH (by omega),ih _ d (by simp [ho])]
   have h:ow.length-k=(ow.length-(k+1))+1:=by omega
   have m:((k+1:Nat):Int)=(k:Int)+1:=by omega
   rw [h,QbY,m,List.append_assoc];rfl
  ·have h:ow.length-k=0:=by omega
   rw [if_neg (lt_f d),h,QbY,List.append_nil]
def WW (n:Int):Prop:=0≤n∧n≤4294967295
theorem Qxt (n:Int):iand .i64 n 4294967295=n % 4294967296:=by
 have b:(BitVec.ofInt 64 4294967295).toNat=2 ^ 32-1:=by decide
 have a:(BitVec.ofInt 64 n &&& BitVec.ofInt 64 4294967295).toNat=(n % ((2 ^ 64:Nat):Int)).toNat % 2 ^ 32:=by
  rw [BitVec.toNat_and,BitVec.toNat_ofInt,b,Nat.and_two_pow_sub_one_eq_mod]
 show IntKind.i64.wrap ((BitVec.ofInt 64 n &&& BitVec.ofInt 64 4294967295).toNat:Nat)=_;rw [a,IntKind.wrap_i64];omega
theorem QqN (n:Int):iand .i64 n 65535=n % 65536:=by
 have b:(BitVec.ofInt 64 65535).toNat=2 ^ 16-1:=by decide
 have a:(BitVec.ofInt 64 n &&& BitVec.ofInt 64 65535).toNat=(n % ((2 ^ 64:Nat):Int)).toNat % 2 ^ 16:=by
  rw [BitVec.toNat_and,BitVec.toNat_ofInt,b,Nat.and_two_pow_sub_one_eq_mod]
 show IntKind.i64.wrap ((BitVec.ofInt 64 n &&& BitVec.ofInt 64 65535).toNat:Nat)=_;rw [a,IntKind.wrap_i64];omega
theorem QrZ (n:Int):iand .i64 n 15=n % 16:=by
 have b:(BitVec.ofInt 64 15).toNat=2 ^ 4-1:=by decide
 have a:(BitVec.ofInt 64 n &&& BitVec.ofInt 64 15).toNat=(n % ((2 ^ 64:Nat):Int)).toNat % 2 ^ 4:=by
  rw [BitVec.toNat_and,BitVec.toNat_ofInt,b,Nat.and_two_pow_sub_one_eq_mod]
 show IntKind.i64.wrap ((BitVec.ofInt 64 n &&& BitVec.ofInt 64 15).toNat:Nat)=_;rw [a,IntKind.wrap_i64];omega
def wd (n:Int):Int:=n % 4294967296
theorem Qaj (n:Int):WW (wd n):=by unfold wd WW; omega
theorem QgL {n:Int} (h:WW n):wd n=n:=by unfold wd WW at *; omega
theorem QxT (n:Int):wd (wd n)=wd n:=QgL (Qaj n)
theorem Qeb (n:Int):IntKind.u32.wrap n=wd n:=by rw [IntKind.wrap_u32]; rfl
theorem Qfc (n:Int):IntKind.i64.wrap (wd n)=wd n:=by rw [IntKind.wrap_i64]; unfold wd; omega
theorem Qw {n:Int} (h0: -9223372036854775808≤n) (h1:n≤9223372036854775807):IntKind.i64.wrap n=n:=Qj h0 h1
theorem QdZ (n:Int):F_z (n,())=some ((wd n,()),()):=by
 unfold F_z; simp only [Qeb,Qfc]
theorem Qjw (x):F_z x=some ((wd x.1,()),()):=QdZ x.1
theorem Qhq (n:Int):F_fn (n,())=some ((wd n,()),()):=by
 unfold F_fn; simp only [Qxt]; rfl
theorem QbG (x):F_fn x=some ((wd x.1,()),()):=Qhq x.1
def sg (n:Int):Int:=if wd n< 2147483648 then wd n else wd n-4294967296
theorem Qfn (n:Int):F_bf (n,())=some ((sg n,()),()):=by
 unfold F_bf sg;simp only [Qeb];have h:=Qaj n;generalize wd n=w at*;unfold WW at h
 have e:IntKind.i64.wrap (IntKind.i32.wrap w)=if w< 2147483648 then w else w-4294967296:=by
  rw [IntKind.wrap_i64,IntKind.wrap_i32];split <;> omega
 rw [e]
theorem Qeu (x):F_bf x=some ((sg x.1,()),()):=Qfn x.1
theorem Qfe (n:Int):F_fv (n,())=some ((sg n,()),()):=by
 unfold F_fv sg;simp only [QbG,Obn];have h:=Qaj n;generalize wd n=w at*;unfold WW at h;by_cases a:w< 2147483648
 ·rw [if_pos (QB.2 a),if_pos a]
 ·rw [if_neg (by rw [QB]; exact a),if_neg a,Qw (n:=w-4294967295) (by omega) (by omega),Qw (n:=w-4294967295-1) (by omega) (by omega),show w-4294967295-1=w-4294967296 by omega]
theorem Qeq (x):F_fv x=some ((sg x.1,()),()):=Qfe x.1
theorem Qxa (n:Int): -2147483648≤sg n∧sg n≤2147483647:=by
 unfold sg; have:=Qaj n; unfold WW at this; split <;> omega
theorem QgG (n:Int):sg n=0↔wd n=0:=by
 unfold sg; have:=Qaj n; unfold WW at this; split <;> omega
def addW (a b:Int):Int:=wd (a+b)
theorem QdF (a b:Int):F_ay (a,b,())=some ((addW a b,()),()):=by
 unfold F_ay addW;simp only [Qeb,Qfc,show wd (wd a+wd b)=wd (a+b) by unfold wd; omega]
theorem Qrg (x):F_ay x=some ((addW x.1 x.2.1,()),()):=QdF x.1 x.2.1
theorem Qgr (a b:Int):F_fo (a,b,())=some ((addW a b,()),()):=by
 unfold F_fo addW;simp only [QbG,Obn];have c:=Qaj a; have d:=Qaj b;unfold WW at c d;rw [Qw (by omega) (by omega),show wd (wd a+wd b)=wd (a+b) by unfold wd; omega]
theorem Qqu (x):F_fo x=some ((addW x.1 x.2.1,()),()):=Qgr x.1 x.2.1
theorem QlQ (a b:Int):WW (addW a b):=Qaj _
theorem QvV (n:Int):IntKind.i16.wrap n=(n+32768) % 65536-32768:=by
 simp only [IntKind.wrap,IntKind.bits,IntKind.signed,Bool.true_and,ge_iff_le,decide_eq_true_eq,Int.reducePow,Nat.reduceSub];split <;> omega
def off (n:Int):Int:=if 32768≤n % 65536 then n % 65536-65536 else n % 65536
theorem QmW (n:Int):F_az (n,())=some ((off n,()),()):=by
 unfold F_az off
 have e:IntKind.i64.wrap (IntKind.i16.wrap (IntKind.u16.wrap n))=if 32768≤n % 65536 then n % 65536-65536 else n % 65536:=by
  rw [IntKind.wrap_i64,QvV,IntKind.wrap_u16];split <;> omega
 simp only [e]
theorem Qtp (n:Int):F_fp (n,())=some ((off n,()),()):=by
 unfold F_fp off;simp only [QqN];by_cases h:32768≤n % 65536
 ·rw [if_pos (QaB.2 h),if_pos h,Qw (by omega) (by omega)]
 ·rw [if_neg (by rw [QaB]; exact h),if_neg h]
def mulW (a b:Int):Int:=wd (wd a*wd b)
theorem QtX (a b:Int):F_bj (a,b,())=some ((mulW a b,()),()):=by
 unfold F_bj mulW; simp only [Qeb,Qfc]
theorem Qrn (x):F_bj x=some ((mulW x.1 x.2.1,()),()):=QtX x.1 x.2.1
theorem Qto (a b:Int):F_fy (a,b,())=some ((mulW a b,()),()):=by
 unfold F_fy mulW; simp only [Qeb,Qfc]
theorem QqA (x):F_fy x=some ((mulW x.1 x.2.1,()),()):=Qto x.1 x.2.1
theorem Qsv (a b:Int) (h: -2147483648≤a∧a≤2147483647): -2147483648≤a.tdiv b∧a.tdiv b≤2147483648:=by
 have c:(a.tdiv b).natAbs=a.natAbs / b.natAbs:=Int.natAbs_tdiv a b;have d:a.natAbs / b.natAbs≤a.natAbs:=Nat.div_le_self _ _;omega
def divW (a b:Int):Int:=if wd b=0 then 4294967295 else wd ((sg a).tdiv (sg b))
theorem QtR (a b:Int):F_bk (a,b,())=some ((divW a b,()),()):=by
 unfold F_bk divW;simp only [Qjw,Qeu,Obn];by_cases h:wd b=0
 ·rw [if_pos (by simpa using h),if_pos h]
 ·have c: ¬sg b=0:=fun e=>h ((QgG b).1 e)
  have:=Qsv (sg a) (sg b) (Qxa a);rw [if_neg (by simpa using h),if_neg h,if_neg c,Qw (by omega) (by omega)]
theorem Qrm (x):F_bk x=some ((divW x.1 x.2.1,()),()):=QtR x.1 x.2.1
theorem Qti (a b:Int):F_fz (a,b,())=some ((divW a b,()),()):=by
 unfold F_fz divW;simp only [QbG,Qeq,Obn];by_cases h:wd b=0
 ·rw [if_pos (by simpa using (QgG b).2 h),if_pos h]
 ·have c: ¬sg b=0:=fun e=>h ((QgG b).1 e)
  have:=Qsv (sg a) (sg b) (Qxa a);rw [if_neg (by simpa using c),if_neg h,if_neg c,Qw (by omega) (by omega)]
theorem Qqx (x):F_fz x=some ((divW x.1 x.2.1,()),()):=Qti x.1 x.2.1
def remW (a b:Int):Int:=if wd b=0 then wd a else wd ((sg a).tmod (sg b))
theorem QtY (a b:Int):F_bl (a,b,())=some ((remW a b,()),()):=by
 unfold F_bl remW;simp only [Qjw,Qeu,Obn];by_cases h:wd b=0
 ·rw [if_pos (by simpa using h),if_pos h]
 ·have c: ¬sg b=0:=fun e=>h ((QgG b).1 e)
  rw [if_neg (by simpa using h),if_neg h,if_neg c]
theorem Qrq (x):F_bl x=some ((remW x.1 x.2.1,()),()):=QtY x.1 x.2.1
theorem Qtr (a b:Int):F_ga (a,b,())=some ((remW a b,()),()):=by
 unfold F_ga remW;simp only [QbG,Qeq,Obn];by_cases h:wd b=0
 ·rw [if_pos (by simpa using (QgG b).2 h),if_pos h]
 ·have c: ¬sg b=0:=fun e=>h ((QgG b).1 e)
  rw [if_neg (by simpa using c),if_neg h,if_neg c]
theorem QqC (x):F_ga x=some ((remW x.1 x.2.1,()),()):=Qtr x.1 x.2.1
theorem QiQ (n:Int): ∃k:Nat,wd n=(k:Int)∧k< 4294967296:=⟨(wd n).toNat,by have:=Qaj n; unfold WW at this; omega,by have:=Qaj n; unfold WW at this; omega⟩
theorem Qgx {k:Nat} (h:k< 4294967296):(BitVec.ofInt 32 (k:Int)).toNat=k:=by
 rw [BitVec.ofInt_natCast,BitVec.toNat_ofNat]; exact Nat.mod_eq_of_lt (by omega)
theorem Qgy {k:Nat} (h:k< 4294967296):(BitVec.ofInt 64 (k:Int)).toNat=k:=by
 rw [BitVec.ofInt_natCast,BitVec.toNat_ofNat]; exact Nat.mod_eq_of_lt (by omega)
def bitN (op:Int) (a b:Nat):Nat:=if op=1 then a &&& b else if op=2 then a ||| b else a ^^^ b
def bitW (op a b:Int):Int:=(bitN op (wd a).toNat (wd b).toNat:Int)
theorem QnB (op:Int) {a b:Nat} (ha:a< 4294967296) (hb:b< 4294967296):bitN op a b< 4294967296:=by
 unfold bitN;split
 ·exact Nat.and_lt_two_pow (n:=32) _ (by omega)
 ·split
  ·exact Nat.or_lt_two_pow (n:=32) (by omega) (by omega)
  ·exact Nat.xor_lt_two_pow (n:=32) (by omega) (by omega)
theorem QsN (op a b:Int):WW (bitW op a b):=by
 obtain ⟨x,e,c⟩:=QiQ a;obtain ⟨y,f,d⟩:=QiQ b;unfold bitW WW;rw [e,f];have:=QnB op c d;simp only [Int.toNat_natCast];omega
theorem QiO (op a b:Int) (h:op=1∨op=2∨op=3):F_bm (op,a,b,())=some (((0,bitW op a b,()),()),()):=by
 unfold F_bm bitW;simp only [Qeb];obtain ⟨x,e,c⟩:=QiQ a;obtain ⟨y,f,d⟩:=QiQ b;rw [e,f];simp only [Int.toNat_natCast];have g:=QnB op c d;rcases h with rfl | rfl | rfl
 ·rw [if_pos (by decide)]
  show some (((0,IntKind.i64.wrap (IntKind.u32.wrap ((BitVec.ofInt 32 (x:Int) &&& BitVec.ofInt 32 (y:Int)).toNat:Int)),()),()),())=_;have:bitN 1 x y=x &&& y:=rfl;rw [BitVec.toNat_and,Qgx c,Qgx d, ←this,Qeb,Qfc,QgL (by unfold WW; omega)]
 ·rw [if_neg (by decide),if_pos (by decide)]
  show some (((0,IntKind.i64.wrap (IntKind.u32.wrap ((BitVec.ofInt 32 (x:Int) ||| BitVec.ofInt 32 (y:Int)).toNat:Int)),()),()),())=_
  have:bitN 2 x y=x ||| y:=rfl
  rw [BitVec.toNat_or,Qgx c,Qgx d, ←this,Qeb,Qfc,QgL (by unfold WW; omega)]
 ·rw [if_neg (by decide),if_neg (by decide),if_pos (by decide)]
  show some (((0,IntKind.i64.wrap (IntKind.u32.wrap ((BitVec.ofInt 32 (x:Int) ^^^ BitVec.ofInt 32 (y:Int)).toNat:Int)),()),()),())=_;have:bitN 3 x y=x ^^^ y:=rfl;rw [BitVec.toNat_xor,Qgx c,Qgx d, ←this,Qeb,Qfc,QgL (by unfold WW; omega)]
theorem QiA (op a b:Int) (h:op=1∨op=2∨op=3):F_gb (op,a,b,())=some (((0,bitW op a b,()),()),()):=by
 unfold F_gb bitW;simp only [QbG,Obn];obtain ⟨x,e,c⟩:=QiQ a;obtain ⟨y,f,d⟩:=QiQ b;rw [e,f];simp only [Int.toNat_natCast];have g:=QnB op c d;rcases h with rfl | rfl | rfl
 ·rw [if_pos (by decide)]
  show some (((0,IntKind.i64.wrap ((BitVec.ofInt 64 (x:Int) &&& BitVec.ofInt 64 (y:Int)).toNat:Int),()),()),())=_;have:bitN 1 x y=x &&& y:=rfl;rw [BitVec.toNat_and,Qgy c,Qgy d, ←this,Qw (by omega) (by omega)]
 ·rw [if_neg (by decide),if_pos (by decide)]
  show some (((0,IntKind.i64.wrap ((BitVec.ofInt 64 (x:Int) ||| BitVec.ofInt 64 (y:Int)).toNat:Int),()),()),())=_
  have:bitN 2 x y=x ||| y:=rfl
  rw [BitVec.toNat_or,Qgy c,Qgy d, ←this,Qw (by omega) (by omega)]
 ·rw [if_neg (by decide),if_neg (by decide),if_pos (by decide)]
  show some (((0,IntKind.i64.wrap ((BitVec.ofInt 64 (x:Int) ^^^ BitVec.ofInt 64 (y:Int)).toNat:Int),()),()),())=_;have:bitN 3 x y=x ^^^ y:=rfl;rw [BitVec.toNat_xor,Qgy c,Qgy d, ←this,Qw (by omega) (by omega)]
def shW (a b:Int) (left:Bool):Int:=if left=true then wd (wd a*2 ^ (wd b % 32).toNat) else wd a / 2 ^ (wd b % 32).toNat
theorem Qpz {a:Int} (h:WW a) (k:Nat):WW (a / 2 ^ k):=by
 unfold WW at*;have b:(0:Int)< 2 ^ k:=Int.pow_pos (by omega)
 exact ⟨Int.ediv_nonneg h.1 (by omega),Int.le_trans (Int.ediv_le_self _ h.1) h.2⟩
theorem QvD (a b:Int) (l:Bool):WW (shW a b l):=by
 unfold shW; split
 ·exact Qaj _
 ·exact Qpz (Qaj a) _
theorem Qvx {k:Nat} (h:k< 32):(2:Int) ^ k≤2147483648:=by
 have:(2:Nat) ^ k≤2 ^ 31:=Nat.pow_le_pow_right (by omega) (by omega)
 have a:((2 ^ k:Nat):Int)≤((2 ^ 31:Nat):Int):=Int.ofNat_le.2 this;simpa using a
theorem QvK {w:Int} (h:WW w):w.tmod 32=w % 32:=Int.tmod_eq_emod_of_nonneg h.1
theorem Qde {a:Int} (h:0≤a) (k:Nat):a.fdiv (2 ^ k)=a / 2 ^ k:=Int.fdiv_eq_ediv_of_nonneg _ (Int.le_of_lt (Int.pow_pos (by omega)))
theorem QpM (a b:Int) (l:Bool):F_bn (a,b,l,())=some ((shW a b l,()),()):=by
 unfold F_bn shW;simp only [Qeb,QvK (Qaj b)];have c:=Qaj a;have f:0≤wd b % 32∧wd b % 32< 32:=by omega
 have e:IntKind.u64.wrap (wd b % 32)=wd b % 32:=by rw [IntKind.wrap_u64]; omega
 have d:min (wd b % 32).toNat 32=(wd b % 32).toNat:=by omega
 rw [e,d];cases l
 ·rw [if_neg (by decide),if_neg (by omega),if_neg (by decide),Qde c.1]
  have:=Qpz c (wd b % 32).toNat;unfold WW at this;rw [Qw (by omega) (by omega)]
 ·rw [if_pos rfl,if_neg (by omega),if_pos rfl,Qfc]
theorem Qoa (x):F_bn x=some ((shW x.1 x.2.1 x.2.2.1,()),()):=QpM x.1 x.2.1 x.2.2.1
theorem QoX (a b:Int) (l:Bool):F_gc (a,b,l,())=some ((shW a b l,()),()):=by
 unfold F_gc shW;simp only [QbG,Obn,QvK (Qaj b)];have c:=Qaj a;have g:0≤wd b % 32∧wd b % 32< 32:=by omega
 have d:min (wd b % 32).toNat 64=(wd b % 32).toNat:=by omega
 rw [d];cases l
 ·rw [if_neg (by decide),if_neg (by omega),if_neg (by decide),Qde c.1]
 ·rw [if_pos rfl,if_neg (by omega),if_pos rfl]
  have e:=Qvx (k:=(wd b % 32).toNat) (by omega)
  have f:(0:Int)< 2 ^ (wd b % 32).toNat:=Int.pow_pos (by omega)
  unfold WW at c;generalize (2:Int) ^ (wd b % 32).toNat=p at*;have h:0≤wd a*p:=Int.mul_nonneg c.1 (by omega)
  have i:wd a*p≤4294967295*2147483648:=Int.mul_le_mul c.2 e (by omega) (by omega)
  rw [Qw (by omega) (by omega)]
theorem QnJ (x):F_gc x=some ((shW x.1 x.2.1 x.2.2.1,()),()):=QoX x.1 x.2.1 x.2.2.1
def aluW (op a b:Int):Int:=
 if op=1 then addW a b else if op=2 then wd (wd a-wd b) else if op=3 then mulW a b else if op=4 then divW a b else if op=5 then remW a b
 else if op=6 then bitW 1 a b else if op=7 then bitW 2 a b else if op=8 then bitW 3 a b else if op=9 then shW a b true else if op=10 then shW a b false
 else if sg a< sg b then 1 else 0
theorem QsH (op a b:Int):WW (aluW op a b):=by
 unfold aluW;have c:WW (divW a b):=by unfold divW; split; unfold WW; omega; exact Qaj _
 have d:WW (remW a b):=by unfold remW; split <;> exact Qaj _
 repeat' split
 all_goals first | exact QlQ _ _ | exact Qaj _ | exact c | exact d | exact QsN _ _ _ | exact QvD _ _ _ | (unfold WW; omega)
theorem QtP (op a b:Int):F_bo (op,a,b,())=some ((aluW op a b,()),()):=by
 unfold F_bo aluW;simp only [Qrg,Qrn,Qrm,Qrq,Qoa,Qeu,Obn,Qeb,Qfc];by_cases d:op=1
 ·subst d; rfl
 rw [if_neg (by simpa using d),if_neg d]
 by_cases e:op=2
 ·subst e; rfl
 rw [if_neg (by simpa using e),if_neg e]
 by_cases f:op=3
 ·subst f; rfl
 rw [if_neg (by simpa using f),if_neg f]
 by_cases g:op=4
 ·subst g; rfl
 rw [if_neg (by simpa using g),if_neg g]
 by_cases i:op=5
 ·subst i; rfl
 rw [if_neg (by simpa using i),if_neg i]
 by_cases j:op=6
 ·subst j;rw [if_pos (by decide),if_pos rfl,show IntKind.i64.wrap (IntKind.i64.wrap ((6:Int)-6)+1)=1 from by decide+kernel,QiO 1 a b (by omega)]; rfl
 rw [if_neg (by simpa using j),if_neg j]
 by_cases k:op=7
 ·subst k;rw [if_pos (by decide),if_pos rfl,show IntKind.i64.wrap (IntKind.i64.wrap ((7:Int)-6)+1)=2 from by decide+kernel,QiO 2 a b (by omega)]; rfl
 rw [if_neg (by simpa using k),if_neg k]
 by_cases l:op=8
 ·subst l;rw [if_pos (by decide),if_pos rfl,show IntKind.i64.wrap (IntKind.i64.wrap ((8:Int)-6)+1)=3 from by decide+kernel,QiO 3 a b (by omega)]; rfl
 rw [if_neg (by simpa using l),if_neg l]
 by_cases m:op=9
 ·subst m; rfl
 rw [if_neg (by simpa using m),if_neg m]
 by_cases c:op=10
 ·subst c; rfl
 rw [if_neg (by simpa using c),if_neg c]
 by_cases h:sg a< sg b
 ·rw [if_pos (QB.2 h),if_pos h]
 ·rw [if_neg (by rw [QB]; exact h),if_neg h]
theorem Qtg (op a b:Int) (ha:WW a) (hb:WW b) (h:1≤op∧op≤11):F_gd (op,a,b,())=some (((0,aluW op a b,()),()),()):=by
 unfold F_gd aluW;simp only [QbG,Obn,QgL ha,QgL hb,Qqu,QqA,Qqx,QqC,QnJ,Qeq];by_cases d:op=1
 ·subst d; rfl
 rw [if_neg (by simpa using d),if_neg d]
 by_cases e:op=2
 ·subst e;unfold WW at ha hb;rw [if_pos (by decide),if_pos rfl,Qw (by omega) (by omega)]
 rw [if_neg (by simpa using e),if_neg e]
 by_cases f:op=3
 ·subst f; rfl
 rw [if_neg (by simpa using f),if_neg f]
 by_cases g:op=4
 ·subst g; rfl
 rw [if_neg (by simpa using g),if_neg g]
 by_cases i:op=5
 ·subst i; rfl
 rw [if_neg (by simpa using i),if_neg i]
 by_cases j:op=6
 ·subst j;rw [if_pos (by decide),if_pos rfl,show IntKind.i64.wrap (IntKind.i64.wrap ((6:Int)-6)+1)=1 from by decide+kernel,QiA 1 a b (by omega)]; rfl
 rw [if_neg (by simpa using j),if_neg j]
 by_cases k:op=7
 ·subst k;rw [if_pos (by decide),if_pos rfl,show IntKind.i64.wrap (IntKind.i64.wrap ((7:Int)-6)+1)=2 from by decide+kernel,QiA 2 a b (by omega)]; rfl
 rw [if_neg (by simpa using k),if_neg k]
 by_cases l:op=8
 ·subst l;rw [if_pos (by decide),if_pos rfl,show IntKind.i64.wrap (IntKind.i64.wrap ((8:Int)-6)+1)=3 from by decide+kernel,QiA 3 a b (by omega)]; rfl
 rw [if_neg (by simpa using l),if_neg l]
 by_cases m:op=9
 ·subst m; rfl
 rw [if_neg (by simpa using m),if_neg m]
 by_cases c:op=10
 ·subst c; rfl
 rw [if_neg (by simpa using c),if_neg c,if_pos (by simpa using (show op=11 by omega))]
 by_cases h:sg a< sg b
 ·rw [if_pos (QB.2 h),if_pos h]
 ·rw [if_neg (by rw [QB]; exact h),if_neg h]
structure OkC (cs:List Int):Prop where
 len:cs.length=11
 words: ∀w∈cs,WW w
 st:cs.getD 0 0≤3
 msk:cs.getD 7 0≤7
 tb:cs.getD 10 0≤8
 pd:cs.getD 6 0=0
 tm:cs.getD 8 0=0
structure OkR (r:List Int):Prop where
 len:r.length=16
 words: ∀w∈r,WW w
 zero:r.getD 0 0=0
structure OkQ (q:List Int):Prop where
 len:q.length≤40
 words: ∀w∈q,WW w
structure OkL (l:List TwoD) (m:List Int):Prop where
 len:l.length=8
 pgs: ∀p∈l,(-1≤p.1∧p.1≤23)∧(0≤p.2.1∧p.2.1≤7)∧8*p.1+8≤(m.length:Int)
 words: ∀w∈m,WW w
 mlen:m.length≤192
theorem QaH {α:Type} {l:List α} {k:Nat} {d:α} (h:k< l.length):l.getD k d∈l:=by
 rw [List.getD_eq_getElem?_getD,List.getElem?_eq_getElem h]; exact List.getElem_mem h
theorem QcI {α:Type} {l:List α} {k:Nat} (d:α) (h:k< l.length):l[k]?=some (l.getD k d):=by
 rw [List.getD_eq_getElem?_getD,List.getElem?_eq_getElem h]; rfl
theorem Qs {α γ:Type} {l:List α} {i:Int} (d:α) (h:i.toNat< l.length) (K:α→Option γ):(l[i.toNat]?).bind K=K (l.getD i.toNat d):=by
 rw [QcI d h]; rfl
theorem OkC.w {cs:List Int} (h:OkC cs) {k:Nat} (hk:k< 11):WW (cs.getD k 0):=h.words _ (QaH (by rw [h.len]; exact hk))
theorem OkR.w {cs:List Int} (h:OkR cs) {k:Nat} (hk:k< 16):WW (cs.getD k 0):=h.words _ (QaH (by rw [h.len]; exact hk))
def QdU (cs:List Int) (ru:Bool) (dn:Int) (iq:List Int):Int:=
 (if cs.getD 9 0≠0∧cs.getD 9 0≤dn then 1 else 0)+(if ru=true then 2 else 0)+(if 0< iq.length then 4 else 0)
theorem Qic (cs:List Int) (ru:Bool) (dn:Int) (iq:List Int):0≤QdU cs ru dn iq∧QdU cs ru dn iq≤7:=by
 unfold QdU; repeat' split
 all_goals omega
section
variable {r cs iq oq:List Int} {pc dn:Int} {ha wa ru:Bool}
theorem Qfm (hc:OkC cs):F_an ((r,pc,cs,ha,wa,ru,dn,iq,oq,()),())=some ((QdU cs ru dn iq,()),()):=by
 unfold F_an QdU;dsimp only
 have e:ltI 0 ((iq.length:Nat):Int)=decide (0< iq.length):=by
  have:=ltN (a:=0) (b:=iq.length);simpa using this
 rw [Qs 0 (by rw [hc.len]; decide)]
 simp only [e,show ((9:Int)).toNat=9 from rfl,QcI (l:=cs) (k:=9) 0 (by rw [hc.len]; decide),Obn]
 generalize cs.getD 9 0=a;by_cases d:a=0
 ·cases ru <;> by_cases c:0< iq.length <;> simp [d,c]
 ·by_cases f:a≤dn <;> cases ru <;> by_cases c:0< iq.length <;> simp [d,f,c,Qan]
theorem Qfd (hc:OkC cs):F_ez ((r,pc,cs,ha,wa,ru,dn,iq,oq,()),())=some ((QdU cs ru dn iq,()),()):=by
 have g:ior .i64 0 1=1:=by decide+kernel
 have h:ior .i64 1 2=3:=by decide+kernel
 have i:ior .i64 3 4=7:=by decide+kernel
 have j:ior .i64 1 4=5:=by decide+kernel
 have m:ior .i64 0 2=2:=by decide+kernel
 have n:ior .i64 2 4=6:=by decide+kernel
 have o:ior .i64 0 4=4:=by decide+kernel
 unfold F_ez QdU;dsimp only
 have e:ltI 0 ((iq.length:Nat):Int)=decide (0< iq.length):=by
  have:=ltN (a:=0) (b:=iq.length);simpa using this
 rw [Qs 0 (by rw [hc.len]; decide)]
 simp only [e,show ((9:Int)).toNat=9 from rfl,QcI (l:=cs) (k:=9) 0 (by rw [hc.len]; decide),Obn,g,h,i,j,m,n,o]
 generalize cs.getD 9 0=a;by_cases d:a=0
 ·cases ru <;> by_cases c:0< iq.length <;> simp [d,c]
 ·by_cases f:a≤dn <;> cases ru <;> by_cases c:0< iq.length <;> simp [d,f,c,Qan]
def lowB (v:Int):Int:=if v % 2=1 then 0 else if v / 2 % 2=1 then 1 else if v / 4 % 2=1 then 2 else -1
def dueM (cs:List Int) (ru:Bool) (dn:Int) (iq:List Int):Int:=if cs.getD 0 0 % 2=0 then -1 else lowB (iand .i64 (QdU cs ru dn iq) (cs.getD 7 0))
theorem QsI: ∀p:Fin 8, ∀m:Fin 8,0≤iand .i64 ((p.val:Nat):Int) ((m.val:Nat):Int)∧iand .i64 ((p.val:Nat):Int) ((m.val:Nat):Int)≤7:=by decide+kernel
theorem QrI {p m:Int} (h:0≤p∧p≤7) (h2:0≤m∧m≤7):0≤iand .i64 p m∧iand .i64 p m≤7:=by
 have:=QsI ⟨p.toNat,by omega⟩ ⟨m.toNat,by omega⟩
 simp only [show ((p.toNat:Nat):Int)=p from by omega,show ((m.toNat:Nat):Int)=m from by omega] at this
 exact this
def lowT (v:Int):Option (denO o_l_4):=if lowB v= -1 then some (.inl ((),((),()))) else some (.inr (.inl ((lowB v,()),((),()))))
theorem low0:L_ao_5 (((0:Int),(0,())),((),()))=lowT 0:=by kernel_rfl
theorem low1:L_ao_5 (((1:Int),(0,())),((),()))=lowT 1:=by kernel_rfl
theorem low2:L_ao_5 (((2:Int),(0,())),((),()))=lowT 2:=by kernel_rfl
theorem low3:L_ao_5 (((3:Int),(0,())),((),()))=lowT 3:=by kernel_rfl
theorem low4:L_ao_5 (((4:Int),(0,())),((),()))=lowT 4:=by kernel_rfl
theorem low5:L_ao_5 (((5:Int),(0,())),((),()))=lowT 5:=by kernel_rfl
theorem low6:L_ao_5 (((6:Int),(0,())),((),()))=lowT 6:=by kernel_rfl
theorem low7:L_ao_5 (((7:Int),(0,())),((),()))=lowT 7:=by kernel_rfl
theorem Qwp {v:Int} (h:0≤v∧v≤7):L_ao_5 ((v,(0,())),((),()))=lowT v:=by
 have:v=0∨v=1∨v=2∨v=3∨v=4∨v=5∨v=6∨v=7:=by omega
 rcases this with rfl | rfl | rfl | rfl | rfl | rfl | rfl | rfl
 ·exact low0
 ·exact low1
 ·exact low2
 ·exact low3
 ·exact low4
 ·exact low5
 ·exact low6
 ·exact low7
theorem Qwo: ∀v:Fin 8,v.val≠0→tzF (IntKind.u64.wrap ((v.val:Nat):Int))=some (lowB ((v.val:Nat):Int))∧lowB ((v.val:Nat):Int)≠ -1:=by decide+kernel
theorem Qwn (v:Int): -1≤lowB v∧lowB v≤2:=by
 unfold lowB; repeat' split
 all_goals omega
theorem QtS (hc:OkC cs):F_ao ((r,pc,cs,ha,wa,ru,dn,iq,oq,()),())=some ((dueM cs ru dn iq,()),()):=by
 unfold F_ao dueM;dsimp only;rw [Qfm hc,Obn];dsimp only;rw [Qs 0 (by rw [hc.len]; decide),Qs 0 (by rw [hc.len]; decide)]
 have d:=hc.w (k:=0) (by decide)
 have c:=hc.w (k:=7) (by decide)
 have b:=hc.msk;have e:=QrI (Qic cs ru dn iq) ⟨c.1,b⟩;simp only [show ((7:Int)).toNat=7 from rfl,show ((0:Int)).toNat=0 from rfl,Int.tmod_eq_emod_of_nonneg d.1]
 generalize iand .i64 (QdU cs ru dn iq) (cs.getD 7 0)=v at*;by_cases h:cs.getD 0 0 % 2=0
 ·rw [if_pos (by simpa using h),if_pos h]
 ·rw [if_neg (by simpa using h),if_neg h]
  rw [Qwp e];unfold lowT;by_cases a:lowB v= -1
  ·rw [if_pos a,a]; rfl
  ·rw [if_neg a]; rfl
theorem Qtj (hc:OkC cs):F_fb ((r,pc,cs,ha,wa,ru,dn,iq,oq,()),())=some ((dueM cs ru dn iq,()),()):=by
 unfold F_fb dueM;dsimp only;rw [Qfd hc,Obn];dsimp only;rw [Qs 0 (by rw [hc.len]; decide),Qs 0 (by rw [hc.len]; decide)]
 have c:=hc.w (k:=0) (by decide)
 have b:=hc.w (k:=7) (by decide)
 have a:=hc.msk;have e:=QrI (Qic cs ru dn iq) ⟨b.1,a⟩;simp only [show ((7:Int)).toNat=7 from rfl,show ((0:Int)).toNat=0 from rfl,Int.tmod_eq_emod_of_nonneg c.1]
 generalize iand .i64 (QdU cs ru dn iq) (cs.getD 7 0)=v at*;by_cases h:cs.getD 0 0 % 2=0
 ·rw [if_neg (by simpa using h),if_pos h]
 ·rw [if_pos (by simpa using h),if_neg h]
  by_cases d:v=0
  ·subst d; rfl
  ·rw [if_neg (by simpa using d)]
   have:=Qwo ⟨v.toNat,by omega⟩ (by simp only; omega)
   simp only [show ((v.toNat:Nat):Int)=v from by omega] at this
   unfold F_fa;dsimp only;rw [this.1];rfl
def Qhf (cs:List Int) (pc cause tval:Int):List Int:=(((cs.set 2 pc).set 3 cause).set 4 tval).set 0 (cs.getD 0 0 % 2*2)
theorem getD_set_ne {l:List Int} {i j:Nat} {y d:Int} (h:i≠j):(l.set i y).getD j d=l.getD j d:=by
 simp [List.getD_eq_getElem?_getD,List.getElem?_set_ne h]
theorem QfK {l:List Int} {i:Nat} {y d:Int} (h:i< l.length):(l.set i y).getD i d=y:=by
 simp [List.getD_eq_getElem?_getD,List.getElem?_set_self h]
theorem OkC.set {cs:List Int} (h:OkC cs) {k:Nat} {w:Int} (hw:WW w) (hk:k≠6∧k≠8) (h0:k=0→w≤3) (h7:k=7→w≤7) (h10:k=10→w≤8):OkC (cs.set k w):=by
 by_cases b:k< 11
 ·refine ⟨by simp [h.len],fun z a=>?_,?_,?_,?_,?_,?_⟩
  ·rcases List.mem_or_eq_of_mem_set a with a | rfl
   ·exact h.words z a
   ·exact hw
  ·by_cases e:k=0
   ·subst e; rw [QfK (by rw [h.len]; decide)]; exact h0 rfl
   ·rw [getD_set_ne e]; exact h.st
  ·by_cases e:k=7
   ·subst e; rw [QfK (by rw [h.len]; decide)]; exact h7 rfl
   ·rw [getD_set_ne e]; exact h.msk
  ·by_cases e:k=10
   ·subst e; rw [QfK (by rw [h.len]; decide)]; exact h10 rfl
   ·rw [getD_set_ne e]; exact h.tb
  ·rw [getD_set_ne hk.1]; exact h.pd
  ·rw [getD_set_ne hk.2]; exact h.tm
 ·rw [List.set_eq_of_length_le (by rw [h.len]; omega)]; exact h
theorem QvM (hc:OkC cs) (hp:WW pc) {cause tval:Int} (h1:WW cause) (h2:WW tval):OkC (Qhf cs pc cause tval):=by
 unfold Qhf;have:=hc.w (k:=0) (by decide)
 unfold WW at this
 exact (((hc.set hp (by decide) (fun e=>absurd e (by decide)) (fun e=>absurd e (by decide)) (fun e=>absurd e (by decide))).set h1 (by decide) (fun e=>absurd e (by decide)) (fun e=>absurd e (by decide)) (fun e=>absurd e (by decide))).set h2 (by decide) (fun e=>absurd e (by decide)) (fun e=>absurd e (by decide)) (fun e=>absurd e (by decide))).set
  (by unfold WW; omega) (by decide) (fun _=>by omega) (fun e=>absurd e (by decide)) (fun e=>absurd e (by decide))
theorem Qlb (hc:OkC cs) (cause tval:Int):F_ap ((r,pc,cs,ha,wa,ru,dn,iq,oq,()),cause,tval,())=
  some ((),((r,cs.getD 1 0,Qhf cs pc cause tval,ha,false,ru,dn,iq,oq,()),())):=by
 have b:=hc.w (k:=0) (by decide)
 have a:=hc.len;have c:IntKind.i64.wrap (cs.getD 0 0 % 2*2)=cs.getD 0 0 % 2*2:=Qw (by omega) (by omega)
 unfold F_ap Qhf
 simp only [show ((2:Int)).toNat=2 from rfl,show ((3:Int)).toNat=3 from rfl,show ((4:Int)).toNat=4 from rfl,show ((0:Int)).toNat=0 from rfl,show ((1:Int)).toNat=1 from rfl,
  List.length_set,a,show (0:Int)≤2∧(2:Int)< ((11:Nat):Int) from by decide,show (0:Int)≤3∧(3:Int)< ((11:Nat):Int) from by decide,show (0:Int)≤4∧(4:Int)< ((11:Nat):Int) from by decide,
  show (0:Int)≤0∧(0:Int)< ((11:Nat):Int) from by decide,show (0:Int)≤1∧(1:Int)< ((11:Nat):Int) from by decide,and_self,if_true]
 rw [QcI (l:=cs) (k:=2) 0 (by omega),Obn,QcI (k:=3) 0 (by simp [a]),Obn,QcI (k:=4) 0 (by simp [a]),Obn]
 rw [QcI (l:=((cs.set 2 pc).set 3 cause).set 4 tval) (k:=0) 0 (by simp [a]),Obn,Obn]
 rw [getD_set_ne (by decide),getD_set_ne (by decide),getD_set_ne (by decide),Int.tmod_eq_emod_of_nonneg b.1,c]
 rw [QcI (k:=1) 0 (by simp [a]),Obn]
 rw [getD_set_ne (by decide),getD_set_ne (by decide),getD_set_ne (by decide),getD_set_ne (by decide)]
theorem QqG (hc:OkC cs) (cause tval:Int):F_fc ((r,pc,cs,ha,wa,ru,dn,iq,oq,()),cause,tval,())=
  some ((),((r,cs.getD 1 0,Qhf cs pc cause tval,ha,false,ru,dn,iq,oq,()),())):=Qlb hc cause tval
def QjR (cs:List Int):List Int:=cs.set 0 (2+cs.getD 0 0 / 2)
theorem Qur (hc:OkC cs):OkC (QjR cs):=by
 have:=hc.w (k:=0) (by decide)
 have a:=hc.st;unfold WW at this;exact hc.set (by unfold WW; omega) (by decide) (fun _=>by omega) (fun e=>absurd e (by decide)) (fun e=>absurd e (by decide))
theorem QkW (hc:OkC cs):F_bi ((r,pc,cs,ha,wa,ru,dn,iq,oq,()),())=some ((),((r,cs.getD 2 0,QjR cs,ha,wa,ru,dn,iq,oq,()),())):=by
 have a:=hc.w (k:=0) (by decide)
 have b:=hc.len;unfold WW at a;unfold F_bi QjR;simp only [show ((2:Int)).toNat=2 from rfl,show ((0:Int)).toNat=0 from rfl,b,show (0:Int)≤2∧(2:Int)< ((11:Nat):Int) from by decide,show (0:Int)≤0∧(0:Int)< ((11:Nat):Int) from by decide,and_self,if_true]
 rw [QcI (l:=cs) (k:=2) 0 (by omega),Obn,QcI (l:=cs) (k:=0) 0 (by omega),Obn,Obn]
 rw [Int.tdiv_eq_ediv_of_nonneg a.1,Qw (n:=cs.getD 0 0 / 2) (by omega) (by omega),Qw (by omega) (by omega)]
theorem Qqv (hc:OkC cs):F_fx ((r,pc,cs,ha,wa,ru,dn,iq,oq,()),())=some ((),((r,cs.getD 2 0,QjR cs,ha,wa,ru,dn,iq,oq,()),())):=QkW hc
def getM (cs:List Int) (ru:Bool) (dn:Int) (iq:List Int) (k:Int):Int:=if k=6 then QdU cs ru dn iq else if k=8 then dn else cs.getD k.toNat 0
theorem QtU (hc:OkC cs) {k:Int} (hk:0≤k∧k≤10):F_bh ((r,pc,cs,ha,wa,ru,dn,iq,oq,()),k,())=some ((getM cs ru dn iq k,()),()):=by
 unfold F_bh getM;dsimp only;rw [Qfm hc,Obn];by_cases a:k=6
 ·rw [if_pos (by simpa using a),if_pos a]
 rw [if_neg (by simpa using a),if_neg a]
 by_cases b:k=8
 ·rw [if_pos (by simpa using b),if_pos b]
 rw [if_neg (by simpa using b),if_neg b,if_pos hk.1,Qs 0 (by rw [hc.len]; omega)]
theorem Qtm (hc:OkC cs) {k:Int} (hk:0≤k∧k≤10):F_fw ((r,pc,cs,ha,wa,ru,dn,iq,oq,()),k,())=some ((getM cs ru dn iq k,()),()):=by
 unfold F_fw getM;dsimp only;rw [Qfd hc,Obn];by_cases a:k=6
 ·rw [if_pos (by simpa using a),if_pos a]
 rw [if_neg (by simpa using a),if_neg a]
 by_cases b:k=8
 ·rw [if_pos (by simpa using b),if_pos b]
 rw [if_neg (by simpa using b),if_neg b,if_pos hk.1,Qs 0 (by rw [hc.len]; omega)]
theorem Qtc (hc:OkC cs) {k:Int} (hk:0≤k∧k≤10) (hd:0≤dn∧dn≤1000000000):WW (getM cs ru dn iq k):=by
 unfold getM;have:=Qic cs ru dn iq;split
 ·unfold WW; omega
 ·split
  ·unfold WW; omega
  ·exact hc.w (by omega)
def setC (cs:List Int) (k w:Int):List Int:=
 if k=0 then cs.set 0 (wd w % 4) else if k=7 then cs.set 7 (wd w % 8) else if k=10 then cs.set 10 (if wd w≤8 then wd w else 0) else if k=6∨k=8 then cs else cs.set k.toNat (wd w)
def setR (ru:Bool) (k w:Int):Bool:=if k=6∧2≤wd w % 4 then false else ru
theorem QwG (hc:OkC cs) {k w:Int} (hk:0≤k∧k≤10):OkC (setC cs k w):=by
 have h:=Qaj w;have a:=h;unfold WW at a;unfold setC;split
 ·exact hc.set (by unfold WW; omega) (by decide) (fun _=>by omega) (fun e=>absurd e (by decide)) (fun e=>absurd e (by decide))
 split
 ·exact hc.set (by unfold WW; omega) (by decide) (fun e=>absurd e (by decide)) (fun _=>by omega) (fun e=>absurd e (by decide))
 split
 ·exact hc.set (by split; exact h; unfold WW; omega) (by decide) (fun e=>absurd e (by decide)) (fun e=>absurd e (by decide)) (fun _=>by split <;> omega)
 split
 ·exact hc
 ·exact hc.set h (by omega) (by omega) (by omega) (by omega)
theorem QmY (hc:OkC cs) {k:Int} (hk:0≤k∧k≤10) (w:Int):F_bc ((r,pc,cs,ha,wa,ru,dn,iq,oq,()),k,w,())=
  some ((),((r,pc,setC cs k w,ha,wa,setR ru k w,dn,iq,oq,()),())):=by
 have h:=Qaj w;unfold WW at h;have j:0≤k∧k< ((cs.length:Nat):Int):=by rw [hc.len]; omega
 have g:cs[k.toNat]?=some (cs.getD k.toNat 0):=QcI 0 (by rw [hc.len]; omega)
 unfold F_bc setC setR;dsimp only;rw [QdZ,Obn];dsimp only;generalize wd w=v at*;rw [Int.tmod_eq_emod_of_nonneg h.1,Int.tmod_eq_emod_of_nonneg h.1,g];by_cases d:k=0
 ·subst d; simp [hc.len]
 by_cases f:k=7
 ·subst f; simp [hc.len]
 by_cases b:k=10
 ·subst b;by_cases a:v≤8 <;> simp [hc.len,Qan,a]
 by_cases e:k=6
 ·subst e;cases ru <;> by_cases i:2≤v % 4 <;> simp [i,Qav,Qan] <;> omega
 by_cases a:k=8
 ·subst a; simp
 have c:k< 11:=by omega
 simp [d,f,b,e,a,hc.len,hk.1,c]
theorem QiB (hc:OkC cs) {k:Int} (hk:0≤k∧k≤10) (w:Int):F_fs ((r,pc,cs,ha,wa,ru,dn,iq,oq,()),k,w,())=
  some ((),((r,pc,setC cs k w,ha,wa,setR ru k w,dn,iq,oq,()),())):=by
 have h:=Qaj w;unfold WW at h;have j:0≤k∧k< ((cs.length:Nat):Int):=by rw [hc.len]; omega
 have g:cs[k.toNat]?=some (cs.getD k.toNat 0):=QcI 0 (by rw [hc.len]; omega)
 unfold F_fs setC setR;dsimp only;rw [Qhq,Obn];dsimp only;generalize wd w=v at*;rw [Int.tmod_eq_emod_of_nonneg h.1,Int.tmod_eq_emod_of_nonneg h.1,g];by_cases d:k=0
 ·subst d; simp [hc.len]
 by_cases f:k=7
 ·subst f; simp [hc.len]
 by_cases b:k=10
 ·subst b;by_cases a:v≤8 <;> simp [hc.len,Qan,a]
 by_cases e:k=6
 ·subst e;cases ru <;> by_cases i:2≤v % 4 <;> simp [i,Qav,Qan] <;> omega
 by_cases a:k=8
 ·subst a; simp
 have c:k< 11:=by omega
 simp [d,f,b,e,a,hc.len,hk.1,c]
end
def mayP (p:TwoD) (kind:Int):Bool:=decide (0≤p.1) && !(iand .i64 p.2.1 kind==0)
def Qai (l:List TwoD) (at_ kind:Int):Int:=
 if 0≤at_∧at_≤63 then (if mayP (l.getD (at_ / 8).toNat (-1,0,())) kind=true then (l.getD (at_ / 8).toNat (-1,0,())).1*8+at_ % 8 else -1) else -1
def QiX (kind:Int):Int:=if kind=1 then 7 else if kind=2 then 8 else 9
structure OkP (l:List TwoD):Prop where
 len:l.length=8
 pgs: ∀p∈l, -1≤p.1∧p.1≤23
theorem OkP.at {l:List TwoD} (h:OkP l) {k:Nat} (hk:k< 8): -1≤(l.getD k (-1,0,())).1∧(l.getD k (-1,0,())).1≤23:=h.pgs _ (QaH (by rw [h.len]; exact hk))
theorem OkL.p {l:List TwoD} {m:List Int} (h:OkL l m):OkP l:=⟨h.len,fun p a=>(h.pgs p a).1⟩
theorem Qlt {l:List TwoD} (h:OkP l) (at_ kind:Int): -1≤Qai l at_ kind∧Qai l at_ kind≤191:=by
 unfold Qai;split
 ·have:=h.at (k:=(at_ / 8).toNat) (by omega)
  split
  ·rename_i a;simp only [mayP,Bool.and_eq_true,decide_eq_true_eq] at a;omega
  ·omega
 ·omega
theorem Qrl (kind:Int):F_av (kind,())=some ((QiX kind,()),()):=by
 unfold F_av QiX;by_cases a:kind=1
 ·simp [a]
 ·by_cases b:kind=2 <;> simp [a,b]
theorem Qqw {kind:Int} (h:kind=1∨kind=2∨kind=4):F_fi (kind,())=some ((QiX kind,()),()):=by
 rcases h with rfl | rfl | rfl <;> rfl
theorem QdJ (kind:Int):QiX kind≠0:=by
 unfold QiX; repeat' split
 all_goals omega
theorem Qhz {l:List TwoD} (h:OkP l) (at_ kind:Int):F_ar (l,at_,kind,())=some ((Qai l at_ kind,()),()):=by
 unfold F_ar Qai;dsimp only;rw [QbX,Obn];dsimp only;by_cases a:0≤at_∧at_≤63
 ·rw [if_neg (by simp [a.1,a.2]),if_pos a,Int.tdiv_eq_ediv_of_nonneg a.1,Qw (by omega) (by omega),if_pos (by omega)]
  rw [Qs ((-1,0,()):TwoD) (by rw [h.len]; omega)]
  have d:=h.at (k:=(at_ / 8).toNat) (by omega)
  generalize l.getD (at_ / 8).toNat (-1,0,())=p at*;unfold mayP;by_cases c:0≤p.1
  ·rw [if_pos (Qbe.2 (by omega))]
   by_cases b:iand .i64 p.2.1 kind=0
   ·rw [if_pos (by simpa using b),if_neg (by simp [b])]
   ·rw [if_neg (by simpa using b),if_pos (by simp [b,c]),Int.tmod_eq_emod_of_nonneg a.1,Qw (n:=p.1*8) (by omega) (by omega),Qw (by omega) (by omega)]
  ·rw [if_neg (by rw [Qbe]; omega),if_neg (by simp [c])]
 ·rw [if_pos (by simp; omega),if_neg a]
theorem Qkt {l:List TwoD} (h:OkP l) (at_:Int) {kind:Int} (hkd:kind=1∨kind=2∨kind=4):
  F_fj (l,at_,kind,())=some ((if Qai l at_ kind< 0 then (QiX kind,0,()) else (0,Qai l at_ kind,()),()),()):=by
 unfold F_fj F_fh Qai;dsimp only;rw [Qbw,Obn,Obn,Qqw hkd,Obn];dsimp only;by_cases a:0≤at_∧at_≤63
 ·rw [if_pos (by simp [a.1,a.2]),if_pos a,Int.tdiv_eq_ediv_of_nonneg a.1,Qw (by omega) (by omega),if_pos (by omega)]
  rw [Qs ((-1,0,()):TwoD) (by rw [h.len]; omega),Qs ((-1,0,()):TwoD) (by rw [h.len]; omega),Qs ((-1,0,()):TwoD) (by rw [h.len]; omega)]
  have f:=h.at (k:=(at_ / 8).toNat) (by omega)
  have e:0≤at_ / 8:=by omega
  generalize l.getD (at_ / 8).toNat (-1,0,())=p at*;unfold mayP;by_cases d:0≤p.1
  ·rw [if_pos (Qbe.2 (by omega)),if_pos e]
   by_cases b:iand .i64 p.2.1 kind=0
   ·rw [if_pos (by simpa using b),if_neg (c:=(decide (0≤p.1) && !(iand .i64 p.2.1 kind==0))=true) (by simp [b]),if_pos (by decide)]
   ·rw [if_neg (by simpa using b),if_pos e,if_pos (c:=(decide (0≤p.1) && !(iand .i64 p.2.1 kind==0))=true) (by simp [b,d]),Int.tmod_eq_emod_of_nonneg a.1,
     Qw (n:=p.1*8) (by omega) (by omega),Qw (by omega) (by omega),if_neg (by omega)]
  ·rw [if_neg (by rw [Qbe]; omega),if_neg (c:=(decide (0≤p.1) && !(iand .i64 p.2.1 kind==0))=true) (by simp [d]),if_pos (by decide)]
 ·rw [if_neg (by simp; omega),if_neg a,if_pos (by decide)]
def entM (w:Int):TwoD:=if w % 8≠0∧w / 8< 8 then (w / 8,w % 8,()) else (-1,0,())
theorem QtT {w:Int} (h:WW w):F_as (w,())=some ((entM w,()),()):=by
 unfold WW at h;unfold F_as entM F_ai;dsimp only;rw [Int.tdiv_eq_ediv_of_nonneg h.1,Int.tmod_eq_emod_of_nonneg h.1,Qw (by omega) (by omega)]
 by_cases a:w % 8=0
 ·simp [a]
 ·by_cases b:w / 8< 8
  ·have: ¬(8:Int)≤w / 8:=by omega
   simp [a,b,Qan,this]
  ·have:(8:Int)≤w / 8:=by omega
   simp [a,b,Qan,this]
theorem Qtk {w:Int} (h:WW w):F_fe (w,())=some ((entM w,()),()):=by
 unfold WW at h;unfold F_fe entM F_dg;dsimp only;rw [Int.tdiv_eq_ediv_of_nonneg h.1,Int.tmod_eq_emod_of_nonneg h.1,Qw (by omega) (by omega)]
 by_cases a:w % 8=0
 ·simp [a]
 ·by_cases b:w / 8< 8
  ·have: ¬(8:Int)≤w / 8:=by omega
   simp [a,b,Qan,this]
  ·have:(8:Int)≤w / 8:=by omega
   simp [a,b,Qan,this]
theorem Qwe {w:Int} (h:WW w): -1≤(entM w).1∧(entM w).1≤7:=by
 unfold WW at h;unfold entM; split
 ·simp only; omega
 ·simp only; omega
theorem Qgz {w:Int}:okW w=true↔WW w:=by unfold okW WW; simp
theorem Qau {m:List Int}:allW m=true↔ ∀w∈m,WW w:=by
 unfold allW; rw [List.all_eq_true]; exact ⟨fun h w a=>Qgz.1 (h w a),fun h w a=>Qgz.2 (h w a)⟩
theorem Qlh {α:Type} {l:List α} {i:Nat} (h:i< l.length):l.take (i+1)=l.take i++[l[i]]:=by rw [List.take_add_one,List.getElem?_eq_getElem h]; rfl
theorem Qjz {ws:List Int} (hl:ws.length=8) (hw: ∀w∈ws,WW w):F_at (ws,())=some (((0,ws.map entM,()),()),()):=by
 have g:=Qdj (step:=l_at_5) (γ:=denO o_at_5) (fun k (s:List TwoD)=>((ws,(),(),((k:Nat):Int),()),((0,[],()),((0,s,()),())),())) 8 (Qao (by omega)) (fun k s=>s=(ws.take k).map entM)
  (fun _ _=>some (.inl (((),(),()),(((0,[],()),((0,ws.map entM,()),())),())))) ?_ 0 [] (by omega) (by simp)
 ·unfold F_at;dsimp only;rw [if_neg (by rw [hl]; decide)]
  show (Qb l_at_5 lots ((ws,(),(),0,()),((0,[],()),((0,[],()),())),())).bind _=_;rw [show ((0:Int))=(((0:Nat):Nat):Int) from rfl] at*
  rw [g];rfl
 ·intro rec i s j c h;unfold l_at_5;dsimp only;by_cases d:i< 8
  ·have a:i< ws.length:=by omega
   have b:WW ws[i]:=hw _ (List.getElem_mem a);rw [if_pos (lt_t a),if_pos nat0,Ql a,QbX,Obn];dsimp only;have e:(decide (ws[i]≥0) && decide (ws[i]≤4294967295))=true:=Qgz.2 b;rw [if_neg (by rw [e]; decide),if_pos nat0,Ql a,QtT b,Obn]
   dsimp only;have f:s.length=i:=by rw [c,List.length_map,List.length_take]; omega
   rw [if_pos (by rw [f]; simp; omega),QH (by omega)]
   exact h _ d (by rw [c,Qlh a,List.map_append]; rfl)
  ·have:i=8:=by omega
   subst this;rw [if_neg (by rw [hl]; decide)]
   have:s=ws.map entM:=by rw [c,List.take_of_length_le (by omega)]
   rw [this]
theorem Qjx {ws:List Int} (hl:ws.length=8) (hw: ∀w∈ws,WW w):F_ff (ws,())=some (((0,ws.map entM,()),()),()):=by
 have f:=Qdj (step:=l_ff_7) (γ:=denO o_ff_7) (fun k (s:List TwoD)=>(((),s,ws,8,((k:Nat):Int),()),((0,[],()),()),())) 8 (Qao (by omega)) (fun k s=>s=(ws.take k).map entM)
  (fun _ _=>some (.inl (((),ws.map entM,()),((0,[],()),()),()))) ?_ 0 [] (by omega) (by simp)
 ·unfold F_ff;dsimp only;rw [if_neg (by rw [hl]; decide),Qcj _ (by rw [hl,QcM]; omega),Obn]
  dsimp only;rw [Qau.2 hw,if_neg (by decide),hl]
  show (Qb l_ff_7 lots (((),[],ws,8,0,()),((0,[],()),()),())).bind _=_;rw [show ((0:Int))=(((0:Nat):Nat):Int) from rfl] at*
  rw [f];rfl
 ·intro rec i s h b g;unfold l_ff_7;dsimp only;by_cases d:i< 8
  ·have a:i< ws.length:=by omega
   have c:WW ws[i]:=hw _ (List.getElem_mem a);rw [if_pos (QB.2 (by omega)),if_pos nat0,Ql a,Qtk c,Obn]
   dsimp only;have e:s.length=i:=by rw [b,List.length_map,List.length_take]; omega
   rw [if_pos (by rw [e]; simp; omega),QH (by omega)]
   exact g _ d (by rw [b,Qlh a,List.map_append]; rfl)
  ·have:i=8:=by omega
   subst this;rw [if_neg (by decide)]
   have:s=ws.map entM:=by rw [b,List.take_of_length_le (by omega)]
   rw [this]
def idsM:List TwoD:=[(0,7,()),(1,7,()),(2,7,()),(3,7,()),(4,7,()),(5,7,()),(6,7,()),(7,7,())]
theorem QwH:L_au_5 ((([]:List TwoD),((0:Int),())),((),()))=some (.inl ((idsM,()),((),()))):=by kernel_rfl
theorem Qwk:L_fg_5 (((),(([]:List TwoD),((0:Int),()))),((((0:Int),(([]:List TwoD),())),()),()))=some (.inl (((),(idsM,())),((((0:Int),(([]:List TwoD),())),()),()))):=by kernel_rfl
theorem Qwi:OkP idsM:=⟨rfl,by decide⟩
def Qcg (cs:List Int) (l:List TwoD) (m:List Int):Option (List TwoD):=
 if cs.getD 10 0=0 then some idsM else if cs.getD 10 0=8 then none
 else if Qai l ((cs.getD 10 0-1)*8) 1< 0 then none else some (((m.drop (Qai l ((cs.getD 10 0-1)*8) 1).toNat).take 8).map entM)
section
variable {r cs iq oq m:List Int} {pc dn ring fall:Int} {ha wa ru:Bool} {l:List TwoD}
theorem OkL.at {l:List TwoD} {m:List Int} (h:OkL l m) {k:Nat} (hk:k< 8):(-1≤(l.getD k (-1,0,())).1∧(l.getD k (-1,0,())).1≤23)∧8*(l.getD k (-1,0,())).1+8≤(m.length:Int):=by
 have:=h.pgs _ (QaH (l:=l) (k:=k) (d:=(-1,0,())) (by rw [h.len]; exact hk)); exact ⟨this.1,this.2.2⟩
theorem Qls (h:OkL l m) (at_ kind:Int) (h0:0≤Qai l at_ kind):Qai l at_ kind< (m.length:Int)∧(at_ % 8=0→Qai l at_ kind+8≤(m.length:Int)):=by
 unfold Qai at*;split at h0
 ·have:=h.at (k:=(at_ / 8).toNat) (by omega)
  rename_i a;rw [if_pos a];split at h0
  ·rename_i b;rw [if_pos b];omega
  ·omega
 ·omega
theorem Qhs (h:OkL l m) {f:Int} (h0:0≤f) (h1:f+8≤(m.length:Int)):((m.drop f.toNat).take 8).length=8∧ ∀w∈(m.drop f.toNat).take 8,WW w:=
 ⟨by rw [List.length_take,List.length_drop]; omega,fun w a=>h.words w (List.mem_of_mem_drop (List.mem_of_mem_take a))⟩
theorem QpN (hc:OkC cs) (h:OkL l m):F_au ((l,m,ring,(r,pc,cs,ha,wa,ru,dn,iq,oq,()),fall,()),())=
  some ((match Qcg cs l m with | some s=>(s,true,()) | none=>([],false,())),()):=by
 have j:=hc.w (k:=10) (by decide)
 have p:=hc.tb;unfold WW at j;unfold F_au Qcg;dsimp only;rw [Qs 0 (by rw [hc.len]; decide)]
 simp only [show ((10:Int)).toNat=10 from rfl]
 generalize cs.getD 10 0=t at*;by_cases b:t=0
 ·subst b;rw [if_pos (by decide),if_pos rfl]
  show (L_au_5 _).bind _=_;rw [QwH]; rfl
 ·rw [if_neg (by simpa using b),if_neg b,Qw (n:=t-1) (by omega) (by omega),Qw (n:=(t-1)*8) (by omega) (by omega),Qhz h.p,Obn]
  dsimp only;by_cases d:t=8
  ·subst d; rfl
  ·rw [if_pos (by simpa using d),if_neg d]
   have g:=Qls h ((t-1)*8) 1;have o:=Qlt h.p ((t-1)*8) 1;generalize Qai l ((t-1)*8) 1=f at*;by_cases a:f< 0
   ·rw [if_pos (QB.2 a),if_pos a]
   ·have e:=(g (by omega)).2 (by omega)
    rw [if_neg (by rw [QB]; exact a),if_neg a,Qw (by omega) (by omega),if_pos (c:=(0:Int)≤f∧f≤f+8∧f+8≤((m.length:Nat):Int)) ⟨Int.not_lt.1 a,by omega,e⟩,show (f+8).toNat-f.toNat=8 by omega]
    have i:=Qhs h (f:=f) (by omega) e
    rw [Qjz i.1 i.2]; rfl
theorem QoY (hc:OkC cs) (h:OkL l m):F_fg ((r,pc,cs,ha,wa,ru,dn,iq,oq,()),l,m,())=
  some ((match Qcg cs l m with | some s=>(0,s,()) | none=>(7,[],()),()),()):=by
 have u:=hc.w (k:=10) (by decide)
 have x:=hc.tb;unfold WW at u;unfold F_fg Qcg;dsimp only;rw [Qs 0 (by rw [hc.len]; decide)]
 simp only [show ((10:Int)).toNat=10 from rfl]
 generalize cs.getD 10 0=t at*;rw [Qw (n:=t-1) (by omega) (by omega)]
 by_cases o:t=0
 ·subst o;rw [if_pos (by decide),if_pos rfl]
  show (L_fg_5 _).bind _=_;rw [Qwk]; rfl
 ·have e:0≤t-1:=by omega
  rw [if_neg (by rw [QB]; omega),if_neg o,if_pos e]
  have b:(t-1).toNat< l.length:=by rw [h.len]; omega
  rw [Qs ((-1,0,()):TwoD) b,Qs ((-1,0,()):TwoD) b,Qs ((-1,0,()):TwoD) b];have w:=h.at (k:=(t-1).toNat) (by omega)
  have v:Qai l ((t-1)*8) 1=if mayP (l.getD (t-1).toNat (-1,0,())) 1=true then (l.getD (t-1).toNat (-1,0,())).1*8 else -1:=by
   unfold Qai;rw [if_pos (by omega),show (t-1)*8 / 8=t-1 by omega,show (t-1)*8 % 8=0 by omega,Int.add_zero]
  rw [v];generalize l.getD (t-1).toNat (-1,0,())=p at*;unfold mayP;by_cases i:0≤p.1
  ·rw [if_pos (Qbe.2 (by omega)),if_pos e]
   by_cases g:iand .i64 p.2.1 1=0
   ·rw [if_neg (by simp [g])]
    by_cases a:t=8
    ·rw [if_pos a]
    ·rw [if_neg a,if_neg (c:=(decide (0≤p.1) && !(iand .i64 p.2.1 1==0))=true) (by simp [g]),if_pos (by decide)]
   ·rw [if_pos (by simpa using g)]
    by_cases a:t=8
    ·subst a; rfl
    ·have q: ¬t-1=7:=by omega
     rw [if_neg (by simpa using q),if_pos e,if_neg a,if_pos (c:=(decide (0≤p.1) && !(iand .i64 p.2.1 1==0))=true) (by simp [g,i]),if_neg (by omega)]
     have j:=QmH m p.1.toNat (by omega) h.mlen
     rw [show ((p.1.toNat:Nat):Int)=p.1 by omega] at j
     rw [j,Obn];dsimp only;rw [show (p.1*8).toNat=8*p.1.toNat by omega]
     have d:=Qhs h (f:=p.1*8) (by omega) (by omega)
     rw [show (p.1*8).toNat=8*p.1.toNat by omega] at d
     rw [Qjx d.1 d.2]; rfl
  ·rw [if_neg (by rw [Qbe]; omega)]
   by_cases a:t=8
   ·rw [if_pos a]
   ·rw [if_neg a,if_neg (c:=(decide (0≤p.1) && !(iand .i64 p.2.1 1==0))=true) (by simp [i]),if_pos (by decide)]
theorem QmU (hc:OkC cs) (h:OkL l m) {s:List TwoD} (hs:Qcg cs l m=some s):OkP s∧ ∀p∈s,p.1≤7:=by
 have g:=hc.w (k:=10) (by decide)
 have j:=hc.tb;unfold WW at g;unfold Qcg at hs;split at hs
 ·obtain rfl:=Osj hs; exact ⟨Qwi,by decide⟩
 ·split at hs
  ·cases hs
  ·split at hs
   ·cases hs
   ·rename_i n o;obtain rfl:=Osj hs;have e:=(Qls h ((cs.getD 10 0-1)*8) 1 (by omega)).2 (by omega)
    have c:=Qhs h (f:=Qai l ((cs.getD 10 0-1)*8) 1) (by omega) e
    have a: ∀p∈List.map entM (((m.drop (Qai l ((cs.getD 10 0-1)*8) 1).toNat).take 8)), -1≤p.1∧p.1≤7:=by
     intro p d;obtain ⟨w,i,rfl⟩:=List.mem_map.1 d;exact Qwe (c.2 w i)
    exact ⟨⟨by rw [List.length_map]; exact c.1,fun p b=>⟨(a p b).1,by have:=(a p b).2; omega⟩⟩,fun p b=>(a p b).2⟩
def Qv (cs:List Int) (l:List TwoD) (m:List Int) (at_ kind:Int):Int×Int:=
 match Qcg cs l m with
 | none=>(0,7)
 | some s=>if Qai s at_ kind< 0 then (0,QiX kind) else if Qai s at_ kind / 8=7 then (if kind=4 then (0,9) else (1000+Qai s at_ kind % 8,0))
  else if Qai l (Qai s at_ kind) kind< 0 then (0,QiX kind) else (Qai l (Qai s at_ kind) kind,0)
theorem Qcm (hc:OkC cs) (h:OkL l m) (at_:Int) (kind:Int) (h0:(Qv cs l m at_ kind).2=0):
  (1000≤(Qv cs l m at_ kind).1∧(Qv cs l m at_ kind).1≤1007∧kind≠4)∨(0≤(Qv cs l m at_ kind).1∧(Qv cs l m at_ kind).1< (m.length:Int)):=by
 unfold Qv at*;cases b:Qcg cs l m with
 | none=>rw [b] at h0; simp at h0
 | some s=>
  rw [b] at h0;simp only at h0⊢;split at h0
  ·exact absurd h0 (QdJ kind)
  ·rename_i c;rw [if_neg c];split at h0
   ·rename_i a;rw [if_pos a];split at h0
    ·simp at h0
    ·rename_i e;rw [if_neg e];left;simp only;omega
   ·rename_i a;rw [if_neg a];split at h0
    ·exact absurd h0 (QdJ kind)
    ·rename_i d;rw [if_neg d];right;exact ⟨by simp only; omega,(Qls h _ _ (by omega)).1⟩
theorem Qgh (hc:OkC cs) (h:OkL l m) (at_ kind:Int):F_aw ((l,m,ring,(r,pc,cs,ha,wa,ru,dn,iq,oq,()),fall,()),at_,kind,())=
  some (((Qv cs l m at_ kind).1,(Qv cs l m at_ kind).2,()),()):=by
 unfold F_aw Qv;dsimp only;rw [QpN hc h,Obn];cases f:Qcg cs l m with
 | none=>rfl
 | some s=>
  have e:=(QmU hc h f).1;dsimp only;rw [if_neg (by decide),Qhz e,Obn,Qrl,Obn]
  dsimp only;have i:=Qlt e at_ kind;generalize Qai s at_ kind=g at*;by_cases d:g< 0
  ·rw [if_pos (QB.2 d),if_pos d]
  ·rw [if_neg (by rw [QB]; exact d),if_neg d,Int.tdiv_eq_ediv_of_nonneg (by omega),Int.tmod_eq_emod_of_nonneg (by omega),Qw (n:=g / 8) (by omega) (by omega)]
   by_cases b:g / 8=7
   ·rw [if_pos (by simpa using b),if_pos b]
    by_cases a:kind=4
    ·rw [if_pos (by simpa using a),if_pos a]
    ·rw [if_neg (by simpa using a),if_neg a,Qw (by omega) (by omega)]
   ·rw [if_neg (by simpa using b),if_neg b,Qhz h.p,Obn]
    dsimp only;by_cases c:Qai l g kind< 0
    ·rw [if_pos (QB.2 c),if_pos c]
    ·rw [if_neg (by rw [QB]; exact c),if_neg c]
theorem QfP (hc:OkC cs) (h:OkL l m) (at_:Int) {kind:Int} (hk:kind=1∨kind=2∨kind=4):F_fk ((r,pc,cs,ha,wa,ru,dn,iq,oq,()),l,m,at_,kind,())=
  some ((((Qv cs l m at_ kind).2,(Qv cs l m at_ kind).1,()),()),()):=by
 unfold F_fk Qv;dsimp only;rw [QoY hc h,Obn];cases i:Qcg cs l m with
 | none=>rfl
 | some s=>
  have f:=(QmU hc h i).1;dsimp only;rw [if_neg (by decide),Qkt f _ hk,Obn]
  dsimp only;have j:=Qlt f at_ kind;have e:=QdJ kind;generalize Qai s at_ kind=g at*;by_cases d:g< 0
  ·rw [if_pos d]; dsimp only; rw [if_pos (by simpa using e),if_pos d]
  ·rw [if_neg d]; dsimp only;rw [if_neg (by decide),if_neg d,Int.tdiv_eq_ediv_of_nonneg (by omega),Int.tmod_eq_emod_of_nonneg (by omega),Qw (n:=g / 8) (by omega) (by omega)]
   by_cases b:g / 8=7
   ·rw [if_neg (by simpa using b),if_pos b]
    by_cases a:kind=4
    ·rw [if_pos (by simpa using a),if_pos a]
    ·rw [if_neg (by simpa using a),if_neg a,Qw (by omega) (by omega)]
   ·rw [if_pos (by simpa using b),if_neg b,Qkt h.p _ hk,Obn]
    by_cases c:Qai l g kind< 0
    ·rw [if_pos c,if_pos c]
    ·rw [if_neg c,if_neg c]
theorem QcW {q:List Int} (h:q.length≤1048576):F_dl (q,())=some ((q,()),()):=by
 unfold F_dl;dsimp only;rw [if_pos (by simp; omega)]
 rfl
def Qga (cs:List Int) (ru:Bool) (dn:Int) (iq:List Int) (k:Int):Int×List Int:=
 if k=1 then (iq.getD 0 0,iq.drop 1) else if k=2 then (dn,iq) else if k=3 then (cs.getD 9 0,iq) else if k=4 then (QdU cs ru dn iq,iq) else if k=6 then ((iq.length:Int),iq) else (0,iq)
theorem Qrp (hc:OkC cs) (hq:OkQ iq) (k:Int):F_bb ((r,pc,cs,ha,wa,ru,dn,iq,oq,()),k,())=
  some (((Qga cs ru dn iq k).1,()),((r,pc,cs,ha,wa,ru,dn,(Qga cs ru dn iq k).2,oq,()),())):=by
 unfold F_bb Qga;dsimp only;rw [Qfm hc,Obn];by_cases a:k=1
 ·subst a;rw [if_pos (by decide),if_pos rfl]
  cases iq with
  | nil=>rfl
  | cons w t=>
   rw [if_neg (by simp; omega)]
   simp only [show ((0:Int)).toNat=0 from rfl,show ((1:Int)).toNat=1 from rfl,List.getElem?_cons_zero,Obn]
   rw [if_pos (by simp; omega)]
   simp
 rw [if_neg (by simpa using a),if_neg a]
 by_cases b:k=2
 ·subst b; rfl
 rw [if_neg (by simpa using b),if_neg b]
 by_cases c:k=3
 ·subst c;rw [if_pos (by decide),if_pos rfl,if_pos (by rw [hc.len]; decide),Qs 0 (by rw [hc.len]; decide)]; rfl
 rw [if_neg (by simpa using c),if_neg c]
 by_cases d:k=4
 ·subst d; rfl
 rw [if_neg (by simpa using d),if_neg d]
 by_cases e:k=6
 ·subst e; rfl
 rw [if_neg (by simpa using e),if_neg e]
theorem QqB (hc:OkC cs) (hq:OkQ iq) (k:Int):F_fq ((r,pc,cs,ha,wa,ru,dn,iq,oq,()),k,())=
  some (((Qga cs ru dn iq k).1,()),((r,pc,cs,ha,wa,ru,dn,(Qga cs ru dn iq k).2,oq,()),())):=by
 unfold F_fq Qga;dsimp only;rw [Qfd hc,Obn];have h:=hq.len;by_cases a:k=1
 ·subst a;rw [if_pos (by decide),if_pos rfl]
  cases iq with
  | nil=>rfl
  | cons w t=>
   have g:ltI 0 (((w::t).length:Nat):Int)=true:=QB.2 (by simp only [List.length_cons]; omega)
   rw [if_pos g,if_pos (by simp only [List.length_cons]; omega)]
   simp only [show ((0:Int)).toNat=0 from rfl,show ((1:Int)).toNat=1 from rfl,List.getElem?_cons_zero,Obn]
   rw [if_pos (by simp only [List.length_cons]; omega)]
   have e:((w::t).drop 1).take ((((w::t).length:Nat):Int).toNat-1)=t:=by simp
   rw [e,QcW (by simp at h; omega),Obn]
   rfl
 rw [if_neg (by simpa using a),if_neg a]
 by_cases b:k=2
 ·subst b; rfl
 rw [if_neg (by simpa using b),if_neg b]
 by_cases c:k=3
 ·subst c;rw [if_pos (by decide),if_pos rfl,if_pos (by rw [hc.len]; decide),Qs 0 (by rw [hc.len]; decide)]; rfl
 rw [if_neg (by simpa using c),if_neg c]
 by_cases d:k=4
 ·subst d; rfl
 rw [if_neg (by simpa using d),if_neg d]
 by_cases f:k=6
 ·subst f; rfl
 rw [if_neg (by simpa using f),if_neg f]
theorem Qvz (hc:OkC cs) (hq:OkQ iq) (hd:0≤dn∧dn≤1000000000) (k:Int):WW (Qga cs ru dn iq k).1∧OkQ (Qga cs ru dn iq k).2:=by
 have d:=Qic cs ru dn iq;have c:=hq.len;have a:=hc.w (k:=9) (by decide)
 unfold Qga
 repeat' split
 ·refine ⟨?_,⟨by simp only [List.length_drop]; omega,fun w b=>hq.words w (List.mem_of_mem_drop b)⟩⟩
  cases iq with
  | nil=>unfold WW; simp
  | cons w t=>exact hq.words w (by simp)
 all_goals refine ⟨?_,hq⟩
 ·unfold WW; simp only; omega
 ·exact a
 ·unfold WW; simp only; omega
 ·unfold WW; simp only; omega
 ·unfold WW; simp
def Qjr (k w:Int):Int:=if k=5 then wd w else -1
def wrC (cs:List Int) (k w:Int):List Int:=if k=3 then cs.set 9 (wd w) else cs
def wrR (ru:Bool) (k w:Int):Bool:=if k=4 then setR ru 6 (wd w) else ru
def wrO (oq:List Int) (k w:Int):List Int:=if k=0∧oq.length< 40 then oq++[wd w] else oq
theorem QwZ (w:Int):setC cs 6 w=cs:=by unfold setC; simp
theorem QxQ (w:Int):setC cs 9 w=cs.set 9 (wd w):=by unfold setC; simp
theorem QxR (w:Int):setR ru 9 w=ru:=by unfold setR; simp
theorem QpR (hc:OkC cs) (hq:OkQ oq) (k w:Int):F_bd ((r,pc,cs,ha,wa,ru,dn,iq,oq,()),k,w,())=
  some ((Qjr k w,()),((r,pc,wrC cs k w,ha,wa,wrR ru k w,dn,iq,wrO oq k w,()),())):=by
 unfold F_bd Qjr wrC wrR wrO;dsimp only;rw [QdZ,Obn,QmY hc (by omega),Obn,QwZ]
 dsimp only;have g:=hq.len;by_cases e:k=0
 ·subst e;by_cases f:oq.length< 40
  ·have:ltI ((oq.length:Nat):Int) 40=true:=QB.2 (by omega)
   rw [if_pos (by decide),if_pos this,if_pos (by simp; omega),if_neg (by decide),if_neg (by decide),if_neg (by decide),if_pos ⟨rfl,f⟩]
  ·have: ¬ltI ((oq.length:Nat):Int) 40=true:=by rw [QB]; omega
   rw [if_pos (by decide),if_neg this,if_neg (by decide),if_neg (by decide),if_neg (by decide),if_neg (by omega)]
 rw [if_neg (by simpa using e),if_neg (c:=k=0∧oq.length< 40) (by omega)]
 by_cases a:k=3
 ·subst a;rw [if_pos (by decide),if_pos (by rw [hc.len]; decide),Qs 0 (by rw [hc.len]; decide)]; rfl
 rw [if_neg (by simpa using a),if_neg a]
 by_cases b:k=4
 ·subst b; rfl
 rw [if_neg (by simpa using b),if_neg b]
 by_cases d:k=5
 ·subst d; rfl
 rw [if_neg (by simpa using d),if_neg d]
theorem Qpb (hc:OkC cs) (hq:OkQ oq) (k w:Int):F_ft ((r,pc,cs,ha,wa,ru,dn,iq,oq,()),k,w,())=
  some ((Qjr k w,()),((r,pc,wrC cs k w,ha,wa,wrR ru k w,dn,iq,wrO oq k w,()),())):=by
 have g:=hq.len;unfold F_ft Qjr wrC wrR wrO;dsimp only;rw [Qhq,Obn,QcW (by omega),Obn]
 dsimp only;rw [QiB hc (by omega),Obn,QiB hc (by omega),Obn,QwZ,QxQ,QxR,QxT]
 by_cases e:k=0
 ·subst e;by_cases f:oq.length< 40
  ·have:ltI ((oq.length:Nat):Int) 40=true:=QB.2 (by omega)
   rw [if_pos (by decide),if_pos this,if_pos (by simp; omega),if_neg (by decide),if_neg (by decide),if_neg (by decide),if_pos ⟨rfl,f⟩]
  ·have: ¬ltI ((oq.length:Nat):Int) 40=true:=by rw [QB]; omega
   rw [if_pos (by decide),if_neg this,if_neg (by decide),if_neg (by decide),if_neg (by decide),if_neg (by omega)]
 rw [if_neg (by simpa using e),if_neg (c:=k=0∧oq.length< 40) (by omega)]
 by_cases a:k=3
 ·subst a; rfl
 rw [if_neg (by simpa using a),if_neg a]
 by_cases b:k=4
 ·subst b; rfl
 rw [if_neg (by simpa using b),if_neg b]
 by_cases d:k=5
 ·subst d; rfl
 rw [if_neg (by simpa using d),if_neg d]
theorem QxH (hc:OkC cs) (k w:Int):OkC (wrC cs k w):=by
 unfold wrC; split
 ·exact hc.set (Qaj w) (by decide) (fun e=>absurd e (by decide)) (fun e=>absurd e (by decide)) (fun e=>absurd e (by decide))
 ·exact hc
theorem QxI (hq:OkQ oq) (k w:Int):OkQ (wrO oq k w):=by
 unfold wrO; split
 ·rename_i h;refine ⟨by simp; omega,fun z a=>?_⟩
  rcases List.mem_append.1 a with a | a
  ·exact hq.words z a
  ·rw [List.mem_singleton.1 a]; exact Qaj w
 ·exact hq
def badI (op d a i:Int):Bool:=
 if op≤11 then decide (15< i) else if op=13∨op=19 then decide (a≠0) else if op=21 then decide (10< i∨a≠0) else if op=22 then decide (10< i∨d≠0)
 else if 23≤op then decide (d≠0∨a≠0∨i≠0) else false
def insM (op d a i:Int):Int:=
 if (1≤op∧op≤26)∧(0≤d∧d≤15)∧(0≤a∧a≤15)∧(0≤i∧i≤65535) then (if badI op d a i=true then 1 else 0) else 3
theorem Qtn (op d a i:Int):F_fl ((op,d,a,i,()),())=some ((insM op d a i,()),()):=by
 unfold F_fl insM;dsimp only;rw [Qbw,Obn,Qbw,Obn,Qbw,Obn,Qbw,Obn];dsimp only;by_cases b:1≤op∧op≤26
 ·by_cases e:0≤d∧d≤15
  ·by_cases f:0≤a∧a≤15
   ·by_cases g:0≤i∧i≤65535
    ·rw [if_pos (c:=(1≤op∧op≤26)∧(0≤d∧d≤15)∧(0≤a∧a≤15)∧(0≤i∧i≤65535)) ⟨b,e,f,g⟩,if_pos (by simp [b]),if_pos (by simp [e]),if_pos (by simp [f]),if_neg (by simp [g])]
     unfold badI;simp only [Qan,Qav,beq_iff_eq,bne_iff_ne,decide_eq_true_eq,decide_eq_false_iff_not,Bool.not_eq_true,bne_eq_false_iff_eq,ne_eq]
     repeat' split
     all_goals first | rfl | (exfalso; simp_all; done) | (exfalso; simp_all; omega) | (exfalso; omega)
    ·rw [if_neg (c:=(1≤op∧op≤26)∧(0≤d∧d≤15)∧(0≤a∧a≤15)∧(0≤i∧i≤65535)) (by omega),if_pos (by simp [b]),if_pos (by simp [e]),if_pos (by simp [f]),if_pos (by simp; omega)]
   ·rw [if_neg (c:=(1≤op∧op≤26)∧(0≤d∧d≤15)∧(0≤a∧a≤15)∧(0≤i∧i≤65535)) (by omega),if_pos (by simp [b]),if_pos (by simp [e]),if_neg (by simp; omega)]
  ·rw [if_neg (c:=(1≤op∧op≤26)∧(0≤d∧d≤15)∧(0≤a∧a≤15)∧(0≤i∧i≤65535)) (by omega),if_pos (by simp [b]),if_neg (by simp; omega)]
 ·rw [if_neg (c:=(1≤op∧op≤26)∧(0≤d∧d≤15)∧(0≤a∧a≤15)∧(0≤i∧i≤65535)) (by omega),if_neg (by simp; omega)]
def QoA (op:Int):Bool:=decide (op=22∨23≤op)
def Qoz (op:Int):Bool:=decide (op=13∨op=19∨op=21∨23≤op)
def QoB (op:Int):Bool:=decide (23≤op)
theorem Qri {op:Int} (h:op≤26):F_n (op,())=some ((QoA op,Qoz op,QoB op,()),()):=by
 have b:op=13∨op=19∨op=21∨op=22∨op=23∨op=24∨op=25∨op=26∨(¬op=13∧ ¬op=19∧ ¬op=21∧ ¬op=22∧ ¬op=23∧ ¬op=24∧ ¬op=25∧ ¬op=26):=by omega
 rcases b with rfl | rfl | rfl | rfl | rfl | rfl | rfl | rfl | ⟨n1,n2,n3,n4,n5,n6,n7,n8⟩
 iterate 8 rfl
 have a: ¬23≤op:=by omega
 unfold F_n QoA Qoz QoB;simp [n1,n2,n3,n4,n5,n6,n7,n8,a]
theorem QtV (op d a i:Int):F_q ((op,d,a,i,()),())=some ((insM op d a i,()),()):=by
 unfold F_q insM;dsimp only;rw [QbX,Obn,QbX,Obn,QbX,Obn,QbX,Obn];dsimp only;by_cases l:1≤op∧op≤26
 ·by_cases p:0≤d∧d≤15
  ·by_cases r:0≤a∧a≤15
   ·by_cases w:0≤i∧i≤65535
    ·rw [if_pos (c:=(1≤op∧op≤26)∧(0≤d∧d≤15)∧(0≤a∧a≤15)∧(0≤i∧i≤65535)) ⟨l,p,r,w⟩,if_pos (by simp [l]),if_pos (by simp [p]),if_pos (by simp [r]),if_neg (by simp [w]),Qri l.2,Obn]
     unfold badI;dsimp only
     have b:(QoA op=true↔(op=22∨23≤op))∧(Qoz op=true↔(op=13∨op=19∨op=21∨23≤op))∧(QoB op=true↔23≤op):=by
      unfold QoA Qoz QoB; simp
     generalize QoA op=bd at*;generalize Qoz op=ba at*;generalize QoB op=bi at*;by_cases n:op≤11
     ·have g:bd=false:=by rw [Bool.eq_false_iff]; intro e; have:=b.1.1 e; omega
      have f:ba=false:=by rw [Bool.eq_false_iff]; intro e; have:=b.2.1.1 e; omega
      have j:bi=false:=by rw [Bool.eq_false_iff]; intro e; have:=b.2.2.1 e; omega
      have t: ¬op=21:=by omega
      have u: ¬op=22:=by omega
      by_cases k:15< i <;> simp [g,f,j,n,k,Qan,Qav,t,u]
     ·by_cases m:23≤op
      ·have g:bd=true:=b.1.2 (.inr m);have f:ba=true:=b.2.1.2 (.inr (.inr (.inr m)));have j:bi=true:=b.2.2.2 m;have t: ¬op=21:=by omega
       have u: ¬op=22:=by omega
       have x: ¬op=13:=by omega
       have y: ¬op=19:=by omega
       by_cases s:d=0 <;> by_cases h:a=0 <;> by_cases k:i=0 <;> simp [g,f,j,n,m,s,h,k,Qan,Qav,t,u,x,y]
      ·have j:bi=false:=by rw [Bool.eq_false_iff]; intro e; have:=b.2.2.1 e; omega
       by_cases o:op=22
       ·have g:bd=true:=b.1.2 (.inl o);have f:ba=false:=by rw [Bool.eq_false_iff]; intro e; have:=b.2.1.1 e; omega
        subst o;by_cases s:d=0 <;> by_cases k:10< i <;> simp [g,f,j,s,k,Qan,Qav]
       ·have g:bd=false:=by rw [Bool.eq_false_iff]; intro e; have:=b.1.1 e; omega
        by_cases q:op=21
        ·have f:ba=true:=b.2.1.2 (by omega)
         subst q;by_cases h:a=0 <;> by_cases k:10< i <;> simp [g,f,j,h,k,Qan,Qav]
        ·by_cases v:op=13∨op=19
         ·have f:ba=true:=b.2.1.2 (by omega)
          by_cases h:a=0 <;> simp [g,f,j,h,n,o,q,v,Qan,Qav]
         ·have f:ba=false:=by rw [Bool.eq_false_iff]; intro e; have:=b.2.1.1 e; omega
          simp [g,f,j,n,m,o,q,v,Qan,Qav]
    ·rw [if_neg (c:=(1≤op∧op≤26)∧(0≤d∧d≤15)∧(0≤a∧a≤15)∧(0≤i∧i≤65535)) (by omega),if_pos (by simp [l]),if_pos (by simp [p]),if_pos (by simp [r]),if_pos (by simp; omega)]
   ·rw [if_neg (c:=(1≤op∧op≤26)∧(0≤d∧d≤15)∧(0≤a∧a≤15)∧(0≤i∧i≤65535)) (by omega),if_pos (by simp [l]),if_pos (by simp [p]),if_neg (by simp; omega)]
  ·rw [if_neg (c:=(1≤op∧op≤26)∧(0≤d∧d≤15)∧(0≤a∧a≤15)∧(0≤i∧i≤65535)) (by omega),if_pos (by simp [l]),if_neg (by simp; omega)]
 ·rw [if_neg (c:=(1≤op∧op≤26)∧(0≤d∧d≤15)∧(0≤a∧a≤15)∧(0≤i∧i≤65535)) (by omega),if_neg (by simp; omega)]
abbrev InsW:=Int×Int×Int×Int×Unit
def decM (w:Int):InsW:=(w / 16777216,w / 1048576 % 16,w / 65536 % 16,w % 65536,())
def decF (w:Int):Int:=insM (decM w).1 (decM w).2.1 (decM w).2.2.1 (decM w).2.2.2.1
theorem QtQ {w:Int} (h:WW w):F_ax (w,())=some ((decM w,decide (decF w=0),()),()):=by
 unfold F_ax;dsimp only;rw [QbX,Obn];dsimp only;have a:(decide (w≥0) && decide (w≤4294967295))=true:=Qgz.2 h;rw [if_neg (by rw [a]; decide),QrZ,QrZ,QqN,Qde h.1,Qde h.1,Qde h.1,QtV,Obn]
 rfl
theorem Qth {w:Int} (h:WW w):F_fm (w,())=some ((if decF w=0 then (0,decM w,()) else (5,(0,0,0,0,()),()),()),()):=by
 unfold F_fm;dsimp only;rw [QrZ,QrZ,QqN,Qde h.1,Qde h.1,Qde h.1,Qtn,Obn];dsimp only;have e:insM (w / 2 ^ 24) (w / 2 ^ 20 % 16) (w / 2 ^ 16 % 16) (w % 65536)=decF w:=rfl;rw [e];by_cases a:decF w=0
 ·rw [if_neg (by simpa using a),if_pos a]; rfl
 ·rw [if_pos (by simpa using a),if_neg a]
theorem Qwd {w:Int} (h:decF w=0):(1≤(decM w).1∧(decM w).1≤26)∧(0≤(decM w).2.1∧(decM w).2.1≤15)∧(0≤(decM w).2.2.1∧(decM w).2.2.1≤15)∧(0≤(decM w).2.2.2.1∧(decM w).2.2.2.1≤65535)∧
  ((decM w).1≤11→(decM w).2.2.2.1≤15)∧((decM w).1=21∨(decM w).1=22→(decM w).2.2.2.1≤10):=by
 unfold decF insM at h;generalize decM w=x at*;obtain ⟨g,d,a,i,_⟩:=x;simp only at*;split at h
 ·rename_i c;split at h
  ·omega
  ·rename_i b;refine ⟨c.1,c.2.1,c.2.2.1,c.2.2.2,fun f=>?_,fun e=>?_⟩
   ·unfold badI at b;rw [if_pos f] at b;simpa using b
   ·unfold badI at b;rw [if_neg (by omega),if_neg (by omega)] at b
    rcases e with e | e
    ·rw [if_pos e] at b; simp at b; omega
    ·rw [if_neg (by omega),if_pos e] at b; simp at b; omega
 ·omega
end
structure Mc where
 r:List Int
 pc:Int
 cs:List Int
 ha:Bool
 wa:Bool
 ru:Bool
 dn:Int
 iq:List Int
 oq:List Int
 m:List Int
 ring:Int
 fall:Int
abbrev BusD:=List TwoD×List Int×Int×List Int×Int×List Int×Bool×Bool×Bool×Int×List Int×List Int×Int×Unit
abbrev QwO:=List Int×Int×List Int×Bool×Bool×Bool×Int×List Int×List Int×List TwoD×List Int×Int×Int×Unit
def Mc.bus (s:Mc) (l:List TwoD):BusD:=(l,s.m,s.ring,s.r,s.pc,s.cs,s.ha,s.wa,s.ru,s.dn,s.iq,s.oq,s.fall,())
def Mc.core (s:Mc) (l:List TwoD):QwO:=(s.r,s.pc,s.cs,s.ha,s.wa,s.ru,s.dn,s.iq,s.oq,l,s.m,s.fall,s.ring,())
def Mc.trap (s:Mc) (cause tval:Int):Mc:={ s with pc:=s.cs.getD 1 0,cs:=Qhf s.cs s.pc cause tval,wa:=false,fall:=cause }
structure OkS (s:Mc) (l:List TwoD):Prop where
 r:OkR s.r
 pc:WW s.pc
 c:OkC s.cs
 i:OkQ s.iq
 o:OkQ s.oq
 d:0≤s.dn∧s.dn≤1000000000
 l:OkL l s.m
section
variable {r cs iq oq m:List Int} {pc dn ring fall:Int} {ha wa ru:Bool} {l:List TwoD} {s:Mc}
theorem QgK (h:OkS s l) {cause tval:Int} (h1:WW cause) (h2:WW tval):OkS (s.trap cause tval) l:=
 ⟨h.r,h.c.w (by decide),QvM h.c h.pc h1 h2,h.i,h.o,h.d,h.l⟩
theorem QcS (hc:OkC cs) (cause tval:Int):F_aq ((l,m,ring,r,pc,cs,ha,wa,ru,dn,iq,oq,fall,()),cause,tval,())=
  some ((),((l,m,ring,r,cs.getD 1 0,Qhf cs pc cause tval,ha,false,ru,dn,iq,oq,cause,()),())):=by
 unfold F_aq;dsimp only;rw [Qlb hc,Obn]
theorem QcJ (hc:OkC cs) (cause tval:Int):F_fd ((r,pc,cs,ha,wa,ru,dn,iq,oq,l,m,fall,ring,()),cause,tval,())=
  some ((),((r,cs.getD 1 0,Qhf cs pc cause tval,ha,false,ru,dn,iq,oq,l,m,cause,ring,()),())):=by
 unfold F_fd;dsimp only;rw [QqG hc,Obn]
def Qea (op d a:Int):Bool:=if op=16 then decide (d=a) else if op=17 then decide (d≠a) else decide (sg d< sg a)
def exM (s:Mc) (l:List TwoD) (op d a i:Int):Bool×Int×Int×Mc:=
 let next:=addW s.pc 1
 let far:=addW s.pc (off i)
 let rd:=s.r.getD d.toNat 0
 let ra:=s.r.getD a.toNat 0
 let p:=addW ra (off i)
 if op=12 then (true,next,p,s)
 else if op=13 then (true,next,i*65536,s)
 else if op=14 then
  (if (Qv s.cs l s.m p 1).2≠0 then (false,0,0,s.trap 3 p)
   else if 1000≤(Qv s.cs l s.m p 1).1 then (true,next,(Qga s.cs s.ru s.dn s.iq ((Qv s.cs l s.m p 1).1-1000)).1,{ s with iq:=(Qga s.cs s.ru s.dn s.iq ((Qv s.cs l s.m p 1).1-1000)).2 })
   else (true,next,s.m.getD (Qv s.cs l s.m p 1).1.toNat 0,s))
 else if op=15 then
  (if (Qv s.cs l s.m p 2).2≠0 then (false,0,0,s.trap 4 p)
   else if 1000≤(Qv s.cs l s.m p 2).1 then (true,next,0,{ s with ring:=Qjr ((Qv s.cs l s.m p 2).1-1000) rd,cs:=wrC s.cs ((Qv s.cs l s.m p 2).1-1000) rd,ru:=wrR s.ru ((Qv s.cs l s.m p 2).1-1000) rd,oq:=wrO s.oq ((Qv s.cs l s.m p 2).1-1000) rd })
   else (true,next,0,{ s with m:=s.m.set (Qv s.cs l s.m p 2).1.toNat rd }))
 else if op=16∨op=17∨op=18 then (true,if Qea op rd ra=true then far else next,0,s)
 else if op=19 then (true,far,next,s)
 else if op=20 then (true,p,next,s)
 else if op=21 then (true,next,getM s.cs s.ru s.dn s.iq i,s)
 else if op=22 then (true,next,0,{ s with cs:=setC s.cs i ra,ru:=setR s.ru i ra })
 else if op=23 then (false,0,0,s.trap 5 0)
 else if op=24 then (true,s.cs.getD 2 0,0,{ s with pc:=s.cs.getD 2 0,cs:=QjR s.cs })
 else if op=25 then (true,next,0,{ s with wa:=true })
 else if op=26 then (true,s.pc,0,{ s with ha:=true })
 else (true,next,aluW op ra (s.r.getD i.toNat 0),s)
def wrD (op:Int):Bool:=decide ((1≤op∧op≤14)∨(19≤op∧op≤21))
def doM (s:Mc) (l:List TwoD) (op d a i:Int):Bool×Mc:=
 let e:=exM s l op d a i
 if e.1=true then (true,{ e.2.2.2 with pc:=e.2.1,r:=if wrD op=true∧0< d then e.2.2.2.r.set d.toNat e.2.2.1 else e.2.2.2.r }) else (false,e.2.2.2)
structure OkI (op d a i:Int):Prop where
 hop:1≤op∧op≤26
 hd:0≤d∧d≤15
 ha:0≤a∧a≤15
 hi:0≤i∧i≤65535
 i11:op≤11→i≤15
 i21:op=21∨op=22→i≤10
theorem QeN (hr:OkR r) {d:Int} (hd:0≤d∧d≤15) (w:Int):F_ba ((l,m,ring,r,pc,cs,ha,wa,ru,dn,iq,oq,fall,()),d,w,())=
  some ((),((l,m,ring,if 0< d then r.set d.toNat w else r,pc,cs,ha,wa,ru,dn,iq,oq,fall,()),())):=by
 unfold F_ba;dsimp only;by_cases a:d=0
 ·subst a; rfl
 ·have b:0≤d∧d< ((r.length:Nat):Int):=by rw [hr.len]; omega
  rw [if_pos (by simpa using a),if_pos b,Qs 0 (by rw [hr.len]; omega),if_pos (c:=0< d) (by omega)]
theorem QpO (hr:OkR r) {op d a i:Int} (hd:0≤d∧d≤15) (hA:0≤a∧a≤15):F_bg ((r,pc,cs,ha,wa,ru,dn,iq,oq,()),(op,d,a,i,()),())=
  some ((Qea op (r.getD d.toNat 0) (r.getD a.toNat 0),()),()):=by
 unfold F_bg Qea;dsimp only;rw [if_pos hd.1,Qs 0 (by rw [hr.len]; omega),if_pos hA.1,Qs 0 (by rw [hr.len]; omega),Qfn,Obn,Qfn,Obn]
 by_cases b:op=16
 ·subst b; rfl
 rw [if_neg (by simpa using b),if_neg b]
 by_cases c:op=17
 ·subst c;rw [if_pos (by decide),if_pos rfl]
  generalize r.getD d.toNat 0=x;generalize r.getD a.toNat 0=y;by_cases e:x=y <;> simp [e]
 rw [if_neg (by simpa using c),if_neg c,Qav]
theorem QuM {i:Int} (h:0≤i∧i≤65535):IntKind.i64.wrap (i*65536)=i*65536:=Qw (by omega) (by omega)
theorem QtW (h:OkS s l) {op d a i:Int} (hi:OkI op d a i) (hop:op=14∨op=15) {e:Bool×Int×Int×Mc} (he:exM s l op d a i=e):F_be (s.bus l,(op,d,a,i,()),())=
  some ((e.1,()),(({ e.2.2.2 with r:=if e.1=true∧op=14∧0< d then e.2.2.2.r.set d.toNat e.2.2.1 else e.2.2.2.r }).bus l,())):=by
 obtain ⟨r,pc,t,ha,wa,ru,dn,iq,oq,m,ring,aa⟩:=s;obtain ⟨k,ad,f,x,z,ac,j⟩:=h;have u:=hi.hd;have ab:=hi.ha;unfold F_be Mc.bus;unfold exM Mc.trap at he;dsimp only at*;have v:a.toNat< r.length:=by rw [k.len]; omega
 have o:d.toNat< r.length:=by rw [k.len]; omega
 have w:0≤a∧a< ((r.length:Nat):Int):=by rw [k.len]; omega
 have p:0≤d∧d< ((r.length:Nat):Int):=by rw [k.len]; omega
 rw [if_pos w,Qs 0 v,QmW,Obn];dsimp only;rw [QdF,Obn];dsimp only;rcases hop with rfl | rfl
 ·rw [if_neg (by decide),if_neg (by decide),if_pos rfl] at he
  rw [if_neg (by decide),Qgh f j,Obn]
  dsimp only;have g:=Qcm f j (addW (r.getD a.toNat 0) (off i)) 1;generalize Qv t l m (addW (r.getD a.toNat 0) (off i)) 1=q at*;by_cases b:q.2=0
  ·rw [if_neg (by simpa using b)] at he
   rw [if_neg (by simpa using b),if_pos (by decide)]
   by_cases c:1000≤q.1
   ·have y:q.1≤1007:=by have:=j.mlen; rcases g b with h | h <;> omega
    rw [if_pos c] at he;subst he;rw [if_pos (QaB.2 c),Qw (by omega) (by omega),Qrp f x,Obn]
    dsimp only;rw [QeN k u,Obn];simp
   ·have n:0≤q.1∧q.1< ((m.length:Nat):Int):=by rcases g b with h | h; omega; exact h
    rw [if_neg c] at he;subst he;rw [if_neg (by rw [QaB]; exact c),if_pos (by decide),if_pos n,Qs 0 (by omega),QeN k u,Obn]
    simp
  ·rw [if_pos b] at he;subst he;rw [if_pos (by simpa using b),QcS f,Obn]
   simp
 ·rw [if_neg (by decide),if_neg (by decide),if_neg (by decide),if_pos rfl] at he
  rw [if_pos (by decide),Qgh f j,Obn]
  dsimp only;have g:=Qcm f j (addW (r.getD a.toNat 0) (off i)) 2;generalize Qv t l m (addW (r.getD a.toNat 0) (off i)) 2=q at*;by_cases b:q.2=0
  ·rw [if_neg (by simpa using b)] at he
   rw [if_neg (by simpa using b),if_neg (by decide),if_neg (by decide)]
   by_cases c:1000≤q.1
   ·have y:q.1≤1007:=by have:=j.mlen; rcases g b with h | h <;> omega
    rw [if_pos c] at he;subst he;rw [if_pos (QaB.2 c),Qw (by omega) (by omega),if_pos p,Qs 0 o,QpR f z,Obn]
    simp
   ·have n:0≤q.1∧q.1< ((m.length:Nat):Int):=by rcases g b with h | h; omega; exact h
    rw [if_neg c] at he;subst he;rw [if_neg (by rw [QaB]; exact c),if_pos p,Qs 0 o,if_pos n,Qs 0 (by omega)]
    simp
  ·rw [if_pos b] at he;subst he;rw [if_pos (by simpa using b),QcS f,Obn]
   simp
end
section
variable {l:List TwoD} {s:Mc}
theorem QvF (h:OkS s l) {op d a i:Int} (hi:OkI op d a i) {e:Bool×Mc} (he:doM s l op d a i=e):F_bp (s.bus l,(op,d,a,i,()),())=some ((e.1,()),(e.2.bus l,())):=by
 have g:=QtW h hi;obtain ⟨r,pc,cs,ha,wa,ru,dn,iq,oq,m,ring,fall⟩:=s;obtain ⟨k,a5,hc,a3,a4,a2,hl⟩:=h;have hd:=hi.hd;have au:=hi.ha;unfold doM at he;unfold F_bp;unfold Mc.bus at g⊢;dsimp only at*;have p:a.toNat< r.length:=by rw [k.len]; omega
 have t:0≤a∧a< ((r.length:Nat):Int):=by rw [k.len]; omega
 rw [QdF,Obn];dsimp only;rw [QmW,Obn];dsimp only;rw [QdF,Obn];dsimp only;by_cases u:op=12
 ·subst u;rw [show exM ⟨r,pc,cs,ha,wa,ru,dn,iq,oq,m,ring,fall⟩ l 12 d a i=(true,addW pc 1,addW (r.getD a.toNat 0) (off i),⟨r,pc,cs,ha,wa,ru,dn,iq,oq,m,ring,fall⟩) from rfl] at he
  subst he;rw [if_pos (by decide),if_pos t,Qs 0 p,Obn]
  dsimp only;rw [QdF,Obn];dsimp only;rw [QeN k hd,Obn];simp [wrD]
 rw [if_neg (by simpa using u)]
 by_cases v:op=13
 ·subst v;rw [show exM ⟨r,pc,cs,ha,wa,ru,dn,iq,oq,m,ring,fall⟩ l 13 d a i=(true,addW pc 1,i*65536,⟨r,pc,cs,ha,wa,ru,dn,iq,oq,m,ring,fall⟩) from rfl] at he
  subst he;rw [if_pos (by decide),QuM hi.hi,QeN k hd,Obn]
  simp [wrD]
 rw [if_neg (by simpa using v)]
 by_cases y:op=14
 ·subst y;rw [if_pos (by decide),g (.inl rfl) rfl,Obn]
  generalize hx:exM ⟨r,pc,cs,ha,wa,ru,dn,iq,oq,m,ring,fall⟩ l 14 d a i=x at*
  have hn:x.1=true→x.2.1=addW pc 1:=by
   rw [←hx]; unfold exM; dsimp only;rw [if_neg (by decide),if_neg (by decide),if_pos rfl]
   repeat' split
   all_goals simp
  obtain ⟨b,nx,rs,s1⟩:=x;cases b
  ·subst he; simp
  ·subst he;simp only at hn;simp [wrD,hn]
 rw [if_neg (by simpa using y)]
 by_cases z:op=15
 ·subst z;rw [if_pos (by decide),g (.inr rfl) rfl,Obn]
  generalize hx:exM ⟨r,pc,cs,ha,wa,ru,dn,iq,oq,m,ring,fall⟩ l 15 d a i=x at*
  have hn:x.1=true→x.2.1=addW pc 1:=by
   rw [←hx]; unfold exM; dsimp only;rw [if_neg (by decide),if_neg (by decide),if_neg (by decide),if_pos rfl]
   repeat' split
   all_goals simp
  obtain ⟨b,nx,rs,s1⟩:=x;cases b
  ·subst he; simp
  ·subst he;simp only at hn;simp [wrD,hn]
 rw [if_neg (by simpa using z)]
 have f:exM ⟨r,pc,cs,ha,wa,ru,dn,iq,oq,m,ring,fall⟩ l op d a i=
   (if op=16∨op=17∨op=18 then (true,if Qea op (r.getD d.toNat 0) (r.getD a.toNat 0)=true then addW pc (off i) else addW pc 1,0,⟨r,pc,cs,ha,wa,ru,dn,iq,oq,m,ring,fall⟩)
   else if op=19 then (true,addW pc (off i),addW pc 1,⟨r,pc,cs,ha,wa,ru,dn,iq,oq,m,ring,fall⟩)
   else if op=20 then (true,addW (r.getD a.toNat 0) (off i),addW pc 1,⟨r,pc,cs,ha,wa,ru,dn,iq,oq,m,ring,fall⟩)
   else if op=21 then (true,addW pc 1,getM cs ru dn iq i,⟨r,pc,cs,ha,wa,ru,dn,iq,oq,m,ring,fall⟩)
   else if op=22 then (true,addW pc 1,0,⟨r,pc,setC cs i (r.getD a.toNat 0),ha,wa,setR ru i (r.getD a.toNat 0),dn,iq,oq,m,ring,fall⟩)
   else if op=23 then (false,0,0,⟨r,cs.getD 1 0,Qhf cs pc 5 0,ha,false,ru,dn,iq,oq,m,ring,5⟩)
   else if op=24 then (true,cs.getD 2 0,0,⟨r,cs.getD 2 0,QjR cs,ha,wa,ru,dn,iq,oq,m,ring,fall⟩)
   else if op=25 then (true,addW pc 1,0,⟨r,pc,cs,ha,true,ru,dn,iq,oq,m,ring,fall⟩)
   else if op=26 then (true,pc,0,⟨r,pc,cs,true,wa,ru,dn,iq,oq,m,ring,fall⟩)
   else (true,addW pc 1,aluW op (r.getD a.toNat 0) (r.getD i.toNat 0),⟨r,pc,cs,ha,wa,ru,dn,iq,oq,m,ring,fall⟩)):=by
  unfold exM Mc.trap;dsimp only;rw [if_neg u,if_neg v,if_neg y,if_neg z]
 clear g;have aj:=fun o=>QpO (pc:=pc) (cs:=cs) (ha:=ha) (wa:=wa) (ru:=ru) (dn:=dn) (iq:=iq) (oq:=oq) k (op:=o) (i:=i) hd au
 have j:=fun pc cs ha wa ru w=>QeN (l:=l) (m:=m) (ring:=ring) (pc:=pc) (cs:=cs) (ha:=ha) (wa:=wa) (ru:=ru) (dn:=dn) (iq:=iq) (oq:=oq) (fall:=fall) k hd w
 by_cases am:op=16
 ·subst am;rw [if_pos (.inl rfl)] at f;rw [f] at he;subst he;rw [if_pos (by decide),aj,Obn]
  cases Qea 16 (r.getD d.toNat 0) (r.getD a.toNat 0) <;> simp [wrD]
 rw [if_neg (by simpa using am)]
 by_cases ao:op=17
 ·subst ao;rw [if_pos (.inr (.inl rfl))] at f;rw [f] at he;subst he;rw [if_pos (by decide),aj,Obn]
  cases Qea 17 (r.getD d.toNat 0) (r.getD a.toNat 0) <;> simp [wrD]
 rw [if_neg (by simpa using ao)]
 by_cases ap:op=18
 ·subst ap;rw [if_pos (.inr (.inr rfl))] at f;rw [f] at he;subst he;rw [if_pos (by decide),aj,Obn]
  cases Qea 18 (r.getD d.toNat 0) (r.getD a.toNat 0) <;> simp [wrD]
 rw [if_neg (by simpa using ap)]
 rw [if_neg (c:=op=16∨op=17∨op=18) (by omega)] at f
 by_cases aa:op=19
 ·subst aa;rw [if_pos rfl] at f;rw [f] at he;subst he;rw [if_pos (by decide),j,Obn]
  simp [wrD]
 rw [if_neg (by simpa using aa)]
 rw [if_neg aa] at f;by_cases ab:op=20
 ·subst ab;rw [if_pos rfl] at f;rw [f] at he;subst he;rw [if_pos (by decide),if_pos t,Qs 0 p,Obn]
  dsimp only;rw [QdF,Obn];dsimp only;rw [j,Obn];simp [wrD]
 rw [if_neg (by simpa using ab)]
 rw [if_neg ab] at f;by_cases ac:op=21
 ·subst ac;rw [if_pos rfl] at f;rw [f] at he;subst he;have n:=hi.i21 (.inl rfl);have q:=hi.hi;rw [if_pos (by decide),QtU hc ⟨q.1,n⟩,Obn]
  dsimp only;rw [j,Obn];simp [wrD]
 rw [if_neg (by simpa using ac)]
 rw [if_neg ac] at f;by_cases ad:op=22
 ·subst ad;rw [if_pos rfl] at f;rw [f] at he;subst he;have n:=hi.i21 (.inr rfl);have q:=hi.hi;rw [if_pos (by decide),if_pos t,Qs 0 p,QmY hc ⟨q.1,n⟩,Obn]
  simp [wrD]
 rw [if_neg (by simpa using ad)]
 rw [if_neg ad] at f;by_cases ae:op=23
 ·subst ae;rw [if_pos rfl] at f;rw [f] at he;subst he;rw [if_pos (by decide),QcS hc,Obn]
  simp
 rw [if_neg (by simpa using ae)]
 rw [if_neg ae] at f;by_cases af:op=24
 ·subst af;rw [if_pos rfl] at f;rw [f] at he;subst he;rw [if_pos (by decide),QkW hc,Obn]
  simp [wrD]
 rw [if_neg (by simpa using af)]
 rw [if_neg af] at f;by_cases ag:op=25
 ·subst ag;rw [if_pos rfl] at f;rw [f] at he;subst he;rw [if_pos (by decide)]
  simp [wrD]
 rw [if_neg (by simpa using ag)]
 rw [if_neg ag] at f;by_cases ah:op=26
 ·subst ah;rw [if_pos rfl] at f;rw [f] at he;subst he;rw [if_pos (by decide)]
  simp [wrD]
 rw [if_neg (by simpa using ah)]
 rw [if_neg ah] at f;have h1:=hi.hop;have ar:op≤11:=by omega
 have ax:=hi.i11 ar;have q:=hi.hi;have aw:0≤i∧i< ((r.length:Nat):Int):=by rw [k.len]; omega
 have av:i.toNat< r.length:=by rw [k.len]; omega
 rw [f] at he;subst he;rw [if_pos t,Qs 0 p,if_pos aw,Qs 0 av,QtP,Obn];dsimp only;rw [j,Obn];have hw:wrD op=true:=by unfold wrD; rw [decide_eq_true_eq]; omega
 simp [hw]
theorem Qqz (h:OkS s l) {op d a i:Int} (h14:op=14) {e:Bool×Int×Int×Mc} (he:exM s l op d a i=e):F_fr (s.core l,addW (s.r.getD a.toNat 0) (off i),())=
  some ((e.2.2.1,e.1,()),(e.2.2.2.core l,())):=by
 subst h14;obtain ⟨r,pc,o,y,wa,ru,x,iq,oq,m,ring,p⟩:=s;obtain ⟨z,w,c,k,v,t,j⟩:=h;unfold F_fr Mc.core;unfold exM Mc.trap at he;dsimp only at*;rw [if_neg (by decide),if_neg (by decide),if_pos rfl] at he
 rw [QfP c j _ (.inl rfl),Obn];dsimp only;have g:=Qcm c j (addW (r.getD a.toNat 0) (off i)) 1;generalize Qv o l m (addW (r.getD a.toNat 0) (off i)) 1=q at*;by_cases b:q.2=0
 ·rw [if_neg (by simpa using b)] at he
  rw [if_neg (by simpa using b)]
  by_cases f:1000≤q.1
  ·have u:q.1≤1007:=by have:=j.mlen; rcases g b with h | h <;> omega
   rw [if_pos f] at he;subst he;rw [if_pos (QaB.2 f),Qw (by omega) (by omega),QqB c k,Obn]
  ·have n:0≤q.1∧q.1< ((m.length:Nat):Int):=by rcases g b with h | h; omega; exact h
   rw [if_neg f] at he;subst he;rw [if_neg (by rw [QaB]; exact f),if_pos n,Qs 0 (by omega)]
 ·rw [if_pos b] at he;subst he;rw [if_pos (by simpa using b),QcJ c,Obn]
theorem QoZ (h:OkS s l) {op d a i:Int} (h15:op=15) {e:Bool×Int×Int×Mc} (he:exM s l op d a i=e):F_fu (s.core l,addW (s.r.getD a.toNat 0) (off i),s.r.getD d.toNat 0,())=
  some ((e.1,()),(e.2.2.2.core l,())):=by
 subst h15;obtain ⟨r,pc,o,y,wa,ru,x,iq,oq,m,ring,p⟩:=s;obtain ⟨z,w,c,u,n,t,j⟩:=h;unfold F_fu Mc.core;unfold exM Mc.trap at he;dsimp only at*;rw [if_neg (by decide),if_neg (by decide),if_neg (by decide),if_pos rfl] at he
 rw [QfP c j _ (.inr (.inl rfl)),Obn];dsimp only;have g:=Qcm c j (addW (r.getD a.toNat 0) (off i)) 2;generalize Qv o l m (addW (r.getD a.toNat 0) (off i)) 2=q at*;by_cases b:q.2=0
 ·rw [if_neg (by simpa using b)] at he
  rw [if_neg (by simpa using b)]
  by_cases f:1000≤q.1
  ·have v:q.1≤1007:=by have:=j.mlen; rcases g b with h | h <;> omega
   rw [if_pos f] at he;subst he;rw [if_pos (QaB.2 f),Qw (by omega) (by omega),Qpb c n,Obn]
  ·have k:0≤q.1∧q.1< ((m.length:Nat):Int):=by rcases g b with h | h; omega; exact h
   rw [if_neg f] at he;subst he;rw [if_neg (by rw [QaB]; exact f),if_pos k,Qs 0 (by omega)]
 ·rw [if_pos b] at he;subst he;rw [if_pos (by simpa using b),QcJ c,Obn]
end
end Go.Proofs.YtkkljegcnnfanaaGreatDoor
