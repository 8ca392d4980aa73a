/- Plain laws: what the functions compute, and that both programs compute the same. -/
import Derived.Test.YtkkljegcnnfanaaGreatDoorPb3
set_option linter.unusedVariables false
set_option linter.unusedSimpArgs false
namespace Go.Proofs.YtkkljegcnnfanaaGreatDoor
open Go Go.RowKit S Go.Proofs
set_option maxRecDepth 100000
theorem Qgk {x:Qo} (h:HK x) (hc:x.2.2.2.2.2.1< 1000000):F_bt (boxH x,())=some ((),(boxH (Qbm x),())):=by
 obtain ⟨h1,h2,u,h4⟩:=h.turn;obtain ⟨s,t,g3⟩:=h.guest u;have hS:=h.okS;have ai:FR (QT x):=QpT (Mc.of (x.2.2.1.getD (turnG x).toNat QO) x.2.1) (pgM x.1 (turnG x));have g:F_br ((Mc.of (x.2.2.1.getD (turnG x).toNat QO) x.2.1).bus (pgM x.1 (turnG x)),())=some ((),((QT x).bus (pgM x.1 (turnG x)),())):=Qla hS;have hm:=h.mem.2;have c:=QjI h;have ah:=h.clock;have v:=QfL g3;have aj:=h.ok.plan;refine Dr.eq ?_;unfold F_bt;refine Dr.guard h1.1 (Dr.step h4 (Dr.guard s (Dr.step t (Dr.step (Qgg h.ok u) (Dr.step (QmV _ _ _ v (by show x.2.1.length≤1048576; omega)) (Dr.step g ?_))))))
 refine Dr.guard s (Dr.step t ?_);have n:IntKind.i64.wrap (x.2.2.2.2.2.1+1)=x.2.2.2.2.2.1+1:=Qj (by omega) (by omega)
 have o:IntKind.i64.wrap (x.2.2.2.2.1-1)=x.2.2.2.2.1-1:=Qj (by omega) (by omega)
 have p:IntKind.i64.wrap (x.2.2.2.1+1)=x.2.2.2.1+1:=Qj (by omega) (by omega)
 have l:0< (x.1.2.2.2.1.length:Int):=by omega
 have k:(x.2.2.2.1+1).tmod ((x.1.2.2.2.1.length:Nat):Int)=(x.2.2.2.1+1) % (x.1.2.2.2.1.length:Int):=Int.tmod_eq_emod_of_nonneg (by omega)
 have m0:=Int.emod_nonneg (x.2.2.2.1+1) (b:=(x.1.2.2.2.1.length:Int)) (by omega)
 have m1:=Int.emod_lt_of_pos (x.2.2.2.1+1) (b:=(x.1.2.2.2.1.length:Int)) l;have w:((x.2.2.2.1+1) % (x.1.2.2.2.1.length:Int)).toNat< x.1.2.2.2.1.length:=by omega
 have hd:x.1.2.2.2.1[((x.2.2.2.1+1) % (x.1.2.2.2.1.length:Int)).toNat]?=some (x.1.2.2.2.1.getD ((x.2.2.2.1+1) % (x.1.2.2.2.1.length:Int)).toNat (0,0,())):=by
  rw [List.getD_eq_getElem?_getD,List.getElem?_eq_getElem w]; rfl
 --what is behind the bell
 have j: ∀d:List QM,d=(if Qcn x=true then Qbq (QT x).ring (QS x) else QS x)→
   (∀(a:Int),a=x.2.2.2.2.1-1→Dr (if (a==(0:Int))=true then (if ((x.1.2.2.2.1.length:Nat):Int)=0 then none else if 0≤(x.2.2.2.1+1).tmod ((x.1.2.2.2.1.length:Nat):Int) then (x.1.2.2.2.1[((x.2.2.2.1+1).tmod ((x.1.2.2.2.1.length:Nat):Int)).toNat]?).bind fun y=>some ((),((x.1.1,x.1.2.1,x.1.2.2.1,x.1.2.2.2.1,(QT x).m,d,(x.2.2.2.1+1).tmod ((x.1.2.2.2.1.length:Nat):Int),y.2.1,x.2.2.2.2.2.1+1,()),())) else none)
    else some ((),((x.1.1,x.1.2.1,x.1.2.2.1,x.1.2.2.2.1,(QT x).m,d,x.2.2.2.1,a,x.2.2.2.2.2.1+1,()),()))) fun r=>r=((),(boxH (Qbm x),()))):=by
  rintro d rfl a rfl;rw [k];by_cases i:x.2.2.2.2.1-1=0
  ·refine Dr.pos (by simpa using i) (Dr.nguard (by omega) (Dr.guard m0 (Dr.step hd (Dr.ret ?_))))
   unfold boxH Qbm Qfr;dsimp only;rw [if_pos i]
  ·refine Dr.neg (by simpa using i) (Dr.ret ?_)
   unfold boxH Qbm Qfr;dsimp only;rw [if_neg i]
 by_cases m:0≤(QT x).ring
 ·refine Dr.pos (QaB.2 m) ?_
  have f:=Qrr (Qpu (boxH (x.1,(QT x).m,x.2.2.1,x.2.2.2.1,x.2.2.2.2.1,x.2.2.2.2.2.1,())) (QS x)) (turnG x) (QT x).ring (by have:=h.ok.bells.1; show x.1.2.2.1.length≤1000; omega) (fun y hy d=>by
   have e:Qcn x=true:=List.any_eq_true.2 ⟨y,hy,d⟩;have:=Qbn.1 (c e);show 0≤(QT x).ring∧(QT x).ring< ((QS x).length:Int);rw [Qcb,h.len];exact this)
  refine Dr.step f ?_;have q:=j (if Qcn x=true then Qbq (QT x).ring (QS x) else QS x) rfl (IntKind.i64.wrap (x.2.2.2.2.1-1)) o
  rw [←n, ←p] at q;exact q
 ·refine Dr.neg (by rw [QaB]; exact m) ?_
  have z: ¬Qcn x=true:=fun e=>m (by have:=Qbn.1 (c e); omega)
  have q:=j (QS x) (by rw [if_neg z]) (IntKind.i64.wrap (x.2.2.2.2.1-1)) o
  rw [←n, ←p] at q;exact q
theorem Qkr {h:QM} {l:List TwoD} {m:List Int} (hh:Qbz 1048576 h) (hm:m.length≤1048576) (ho:OkS (Mc.of h m) l):F_gh (h,l,m,1,())=some (((Qac (Mc.of h m) l).res (Qac (Mc.of h m) l).fall (Qac (Mc.of h m) l).ring,()),()):=by
 rw [QgT h l m 1 hh hm ho (by decide),show (1:Int).toNat=1 from rfl]
 simp only [QcB];obtain ⟨c,d⟩:=QpT (Mc.of h m) l;have a:(if 0≤(Qac (Mc.of h m) l).fall then (Qac (Mc.of h m) l).fall else -1)=(Qac (Mc.of h m) l).fall:=by split <;> omega
 have b:(if 0≤(Qac (Mc.of h m) l).ring then (Qac (Mc.of h m) l).ring else -1)=(Qac (Mc.of h m) l).ring:=by split <;> omega
 rw [a,b]
theorem Qjg {x:Qo} (h:HK x) (hc:x.2.2.2.2.2.1< 1000000):F_gk (boxH x,())=some ((),(boxH (Qbm x),())):=by
 obtain ⟨h1,h2,s,h4⟩:=h.turn;obtain ⟨o,p,g3⟩:=h.guest s;have hS:=h.okS;have hm:=h.mem.2;have e:=QjI h;have ai:=h.clock;have t:=QfL g3;have aj:=h.ok.plan
 have f:F_ev (x,())=some ((turnG x,()),()):=by
  refine Dr.eq ?_;unfold F_ev;exact Dr.guard h1.1 (Dr.step h4 (Dr.ret rfl))
 have v:F_gh (x.2.2.1.getD (turnG x).toNat QO,pgM x.1 (turnG x),x.2.1,1,())=some (((QT x).res (QT x).fall (QT x).ring,()),()):=Qkr t (by omega) hS
 refine Dr.eq ?_;unfold F_gk;refine Dr.step f (Dr.guard o (Dr.step p (Dr.step (QfO h.ok s) (Dr.step v ?_))));refine Dr.guard o (Dr.step p ?_);refine Dr.step (QiW (turnG x,(QT x).ring,()) x.1.2.2.1 (by have:=h.ok.bells.1; omega)) ?_
 have k:IntKind.i64.wrap (x.2.2.2.2.2.1+1)=x.2.2.2.2.2.1+1:=Qj (by omega) (by omega)
 have l:IntKind.i64.wrap (x.2.2.2.2.1-1)=x.2.2.2.2.1-1:=Qj (by omega) (by omega)
 have m:IntKind.i64.wrap (x.2.2.2.1+1)=x.2.2.2.1+1:=Qj (by omega) (by omega)
 have j:0< (x.1.2.2.2.1.length:Int):=by omega
 have i:(x.2.2.2.1+1).tmod ((x.1.2.2.2.1.length:Nat):Int)=(x.2.2.2.1+1) % (x.1.2.2.2.1.length:Int):=Int.tmod_eq_emod_of_nonneg (by omega)
 have m0:=Int.emod_nonneg (x.2.2.2.1+1) (b:=(x.1.2.2.2.1.length:Int)) (by omega)
 have m1:=Int.emod_lt_of_pos (x.2.2.2.1+1) (b:=(x.1.2.2.2.1.length:Int)) j;have u:((x.2.2.2.1+1) % (x.1.2.2.2.1.length:Int)).toNat< x.1.2.2.2.1.length:=by omega
 have hd:x.1.2.2.2.1[((x.2.2.2.1+1) % (x.1.2.2.2.1.length:Int)).toNat]?=some (x.1.2.2.2.1.getD ((x.2.2.2.1+1) % (x.1.2.2.2.1.length:Int)).toNat (0,0,())):=by
  rw [List.getD_eq_getElem?_getD,List.getElem?_eq_getElem u]; rfl
 have g: ∀hs:List QM,hs=(if Qcn x=true then Qbq (QT x).ring (QS x) else QS x)→
   (∀(a:Int),a=x.2.2.2.2.1-1→Dr (if (a==(0:Int))=true then (if ((x.1.2.2.2.1.length:Nat):Int)=0 then none else if 0≤(x.2.2.2.1+1).tmod ((x.1.2.2.2.1.length:Nat):Int) then (x.1.2.2.2.1[((x.2.2.2.1+1).tmod ((x.1.2.2.2.1.length:Nat):Int)).toNat]?).bind fun y=>some ((),((x.1.1,x.1.2.1,x.1.2.2.1,x.1.2.2.2.1,(QT x).m,hs,(x.2.2.2.1+1).tmod ((x.1.2.2.2.1.length:Nat):Int),y.2.1,x.2.2.2.2.2.1+1,()),())) else none)
    else some ((),((x.1.1,x.1.2.1,x.1.2.2.1,x.1.2.2.2.1,(QT x).m,hs,x.2.2.2.1,a,x.2.2.2.2.2.1+1,()),()))) fun r=>r=((),(boxH (Qbm x),()))):=by
  rintro hs rfl a rfl;rw [i];by_cases d:x.2.2.2.2.1-1=0
  ·refine Dr.pos (by simpa using d) (Dr.nguard (by omega) (Dr.guard m0 (Dr.step hd (Dr.ret ?_))))
   unfold boxH Qbm Qfr;dsimp only;rw [if_pos d]
  ·refine Dr.neg (by simpa using d) (Dr.ret ?_)
   unfold boxH Qbm Qfr;dsimp only;rw [if_neg d]
 by_cases c:Qcn x=true
 ·refine Dr.pos c ?_;have hg:=Qbn.1 (e c);refine Dr.gatE (n:=(QS x).length) rfl (by rw [Qcb,h.len]; exact hg) fun z d=>?_
  have w:(QS x)[(QT x).ring.toNat]?=some z:=d
  have ez:Qbq (QT x).ring (QS x)=(QS x).set (QT x).ring.toNat (Qsm z):=by
   unfold Qbq;rw [List.getD_eq_getElem?_getD,w];rfl
  have q:=g ((QS x).set (QT x).ring.toNat (Qsm z)) (by rw [if_pos c,ez]) (IntKind.i64.wrap (x.2.2.2.2.1-1)) l
  rw [←k, ←m] at q;exact q
 ·refine Dr.neg c ?_;have q:=g (QS x) (by rw [if_neg c]) (IntKind.i64.wrap (x.2.2.2.2.1-1)) l
  rw [←k, ←m] at q;exact q
theorem Qnb {X:Type} {xs:List X} {i:Nat} (h:i< xs.length):xs.take i++[xs[i]]=xs.take (i+1):=by
 rw [List.take_add_one,List.getElem?_eq_getElem h];rfl
theorem Qgd {X:Type} {xs:List X} {i:Nat} (h:i< xs.length):xs.set i xs[i]=xs:=by
 apply List.ext_getElem (by simp)
 intro j a b;rw [List.getElem_set];split
 ·rename_i e; subst e; rfl
 ·rfl
theorem Qhe {p:PolD} (hok:OkPol p):F_ac (p,())=some (((p.1,p.2.1,p.2.2.1,p.2.2.2.1,()),()),()):=by
 have c:=QgB hok;have f:=hok.own;have d:=hok.bells.1;have g:=hok.plan.2;have e:=hok.lanes.1;refine Dr.eq ?_;unfold F_ac;dsimp only;refine Dr.pos (by simp; omega) (.pos (by simp; omega) (.pos (by simp; omega) ?_))
 have b:Dr (L_ac_3 (((),((),((),((0:Int),())))),((p,(([],([],([],([],())))),(([],([]++p.2.1,([]++p.2.2.1,([]++p.2.2.2.1,())))),()))),()))) fun o=>o= .inl (((),((),())),((([],([],([],([],())))),((p.1,(p.2.1,(p.2.2.1,(p.2.2.2.1,())))),())),())):=by
  refine Qab (fun n u=> ∃i:Nat,u=(((),((),((),((i:Int),())))),((p,(([],([],([],([],())))),((p.1.take i,([]++p.2.1,([]++p.2.2.1,([]++p.2.2.2.1,())))),()))),()))∧n=p.1.length-i∧i≤p.1.length) ?_ _ _ ⟨0,rfl,rfl,Nat.zero_le _⟩ (by rw [QE]; omega)
  rintro rec n _ ⟨i,rfl,hn,hi⟩ ih;unfold l_ac_3;dsimp only;by_cases a:i< p.1.length
  case neg=>
   rw [if_neg (lt_f a),List.take_of_length_le (by omega)]
   exact Dr.ret rfl
  have j:=(hok.own1 _ (List.getElem_mem a)).2.1;rw [if_pos (lt_t a),if_pos nat0,Ql a,QH (by omega)]
  refine Dr.pos (by simp; omega) (.pos (by simp; omega) ?_)
  exact ih (n-1) _ (by omega) ⟨i+1,by rw [List.nil_append,Qnb a],by omega,by omega⟩
 refine b.bind fun o h=>?_
 subst h;exact Dr.ret rfl
theorem QoT {x:Qo} (h:HK x):F_gq (x,())=some ((boxH x,()),()):=by
 have b:=h.le;have e:=h.mem.2;have d:=b.2.2.1;refine Dr.eq ?_;unfold F_gq;refine Dr.step (Qhe h.ok) ?_;unfold F_ak;dsimp only;rw [if_pos (by simp; omega),Obn]
 have c:Dr (L_gq_3 (((),((),((),((0:Int),())))),((boxH x,(([],([],([],([],([],([],((0:Int),((0:Int),((0:Int),()))))))))),((x.1.1,(x.1.2.1,(x.1.2.2.1,(x.1.2.2.2.1,([]++x.2.1,([],(x.2.2.2.1,(x.2.2.2.2.1,(x.2.2.2.2.2.1,()))))))))),()))),()))) fun o=>o= .inl (((),((),())),((([],([],([],([],([],([],((0:Int),((0:Int),((0:Int),()))))))))),(boxH x,())),())):=by
  refine Qab (fun n u=> ∃i:Nat,u=(((),((),((),((i:Int),())))),((boxH x,(([],([],([],([],([],([],((0:Int),((0:Int),((0:Int),()))))))))),((x.1.1,(x.1.2.1,(x.1.2.2.1,(x.1.2.2.2.1,([]++x.2.1,(x.2.2.1.take i,(x.2.2.2.1,(x.2.2.2.2.1,(x.2.2.2.2.2.1,()))))))))),()))),()))∧n=x.2.2.1.length-i∧i≤x.2.2.1.length) ?_ _ _ ⟨0,rfl,rfl,Nat.zero_le _⟩ (by rw [QE]; omega)
  rintro rec n _ ⟨i,rfl,hn,hi⟩ ih;unfold l_gq_3 boxH;dsimp only;by_cases a:i< x.2.2.1.length
  case neg=>
   rw [if_neg (lt_f a),List.take_of_length_le (by omega),List.nil_append]
   exact Dr.ret rfl
  rw [if_pos (lt_t a),if_pos nat0,Ql a,QH (by omega),Qgt _ (b.2.2.2 _ (List.getElem_mem a)),Obn]
  dsimp only;refine Dr.pos (by simp; omega) ?_
  exact ih (n-1) _ (by omega) ⟨i+1,by rw [Qnb a]; rfl,by omega,by omega⟩
 refine c.bind fun o h=>?_
 subst h;exact Dr.ret rfl
theorem QlB {p:PolD} (hok:OkPol p):F_el (p,())=some (((p.1,p.2.1,p.2.2.1,p.2.2.2.1,()),()),()):=by
 have c:=QgB hok;have f:=hok.own;have d:=hok.bells.1;have g:=hok.plan.2;have e:=hok.lanes.1;refine Dr.eq ?_;unfold F_el F_eh;dsimp only;rw [if_pos (by simp; omega),Obn]
 have b:Dr (L_el_3 (((),((),(((p.1.length:Nat):Int),((0:Int),())))),(((p.1,(p.2.1,(p.2.2.1,(p.2.2.2.1,())))),(([],([],([],([],())))),())),()))) fun o=>o= .inl (((),((),())),(((p.1,(p.2.1,(p.2.2.1,(p.2.2.2.1,())))),(([],([],([],([],())))),())),())):=by
  refine Qab (fun n u=> ∃i:Nat,u=(((),((),(((p.1.length:Nat):Int),((i:Int),())))),(((p.1,(p.2.1,(p.2.2.1,(p.2.2.2.1,())))),(([],([],([],([],())))),())),()))∧n=p.1.length-i∧i≤p.1.length) ?_ _ _ ⟨0,rfl,rfl,Nat.zero_le _⟩ (by rw [QE]; omega)
  rintro rec n _ ⟨i,rfl,hn,hi⟩ ih;unfold l_el_3;dsimp only;by_cases a:i< p.1.length
  case neg=>
   rw [if_neg (lt_f a)];exact Dr.ret rfl
  have j:=(hok.own1 _ (List.getElem_mem a)).2.1;rw [if_pos (lt_t a),if_pos ⟨nat0,Int.ofNat_lt.2 a⟩,Ql a,QH (by omega),QcW (by omega),Obn,if_pos ⟨nat0,Int.ofNat_lt.2 a⟩,Ql a,Int.toNat_natCast]
  dsimp only;rw [Qgd a];exact ih (n-1) _ (by omega) ⟨i+1,rfl,by omega,by omega⟩
 refine b.bind fun o h=>?_
 subst h;unfold F_ei F_ej F_ek;dsimp only;rw [if_pos (by simp; omega),Obn,if_pos (by simp; omega),Obn,if_pos (by simp; omega),Obn]
 exact Dr.ret rfl
theorem QoS {x:Qo} (h:HK x):F_en (x,())=some ((boxH x,()),()):=by
 have b:=h.le;have e:=h.mem.2;have d:=b.2.2.1;refine Dr.eq ?_;unfold F_en;refine Dr.step (QlB h.ok) (.step (QcW (q:=x.2.1) (by omega)) ?_)
 unfold F_em;dsimp only;rw [if_pos (by simp; omega),Obn]
 have c:Dr (L_en_5 (((),((),(((x.2.2.1.length:Nat):Int),((0:Int),())))),((boxH x,(([],([],([],([],([],([],((0:Int),((0:Int),((0:Int),()))))))))),())),()))) fun o=>o= .inl (((),((),())),((boxH x,(([],([],([],([],([],([],((0:Int),((0:Int),((0:Int),()))))))))),())),())):=by
  refine Qab (fun n u=> ∃i:Nat,u=(((),((),(((x.2.2.1.length:Nat):Int),((i:Int),())))),((boxH x,(([],([],([],([],([],([],((0:Int),((0:Int),((0:Int),()))))))))),())),()))∧n=x.2.2.1.length-i∧i≤x.2.2.1.length) ?_ _ _ ⟨0,rfl,rfl,Nat.zero_le _⟩ (by rw [QE]; omega)
  rintro rec n _ ⟨i,rfl,hn,hi⟩ ih;unfold l_en_5 boxH;dsimp only;by_cases a:i< x.2.2.1.length
  case neg=>
   rw [if_neg (lt_f a)];exact Dr.ret rfl
  rw [if_pos (lt_t a),if_pos ⟨nat0,Int.ofNat_lt.2 a⟩,Ql a,QH (by omega),QdK _ (b.2.2.2 _ (List.getElem_mem a)),Obn,if_pos ⟨nat0,Int.ofNat_lt.2 a⟩,Ql a,Int.toNat_natCast]
  dsimp only;rw [Qgd a];exact ih (n-1) _ (by omega) ⟨i+1,rfl,by omega,by omega⟩
 refine c.bind fun o h=>?_
 subst h;exact Dr.ret rfl
abbrev Qfp:=List Int×Int×List Int×Bool×Bool×Bool×Int×List Int×List Int×List Int×List Int×Unit
def QbR (x:Qo) (g:Int):Qfp:=(Qhh 0 (x.2.2.1.getD g.toNat QO) (QP x.2.1 (x.1.1.getD g.toNat [])) (QP x.2.1 (Qag g true x.1.2.1))).2
def vD (r:Qfp):QwR:=((r.1,r.2.1,r.2.2.1,r.2.2.2.1,r.2.2.2.2.1,r.2.2.2.2.2.1,r.2.2.2.2.2.2.1,r.2.2.2.2.2.2.2.1,r.2.2.2.2.2.2.2.2.1,()),r.2.2.2.2.2.2.2.2.2.1,r.2.2.2.2.2.2.2.2.2.2.1,())
theorem QvS {x:Qo} {g:Int} (h:HK x) (hg:isG x.1 g=true):QsD x g=(0,QbR x g):=by
 unfold QsD QbR;rw [if_neg (by simpa using h.to),if_pos hg]
 rfl
theorem QpQ {x:Qo} {g:Int} (h:HK x) (hg:isG x.1 g=true):F_gt (x,g,())=some ((QbR x g,()),()):=by
 obtain ⟨⟨b,f,i⟩,c,⟨k,d⟩,e⟩:=Qkl h.le h.to hg;have a:=h.ok;have l:=h.mem.2;have j:=a.lanes.1;unfold F_gt;dsimp only;rw [if_pos b,f,Obn,Qgt _ c,Obn,if_pos b,i,Obn,Qbu _ _ (by omega) d (by omega),Obn]
 rw [QoP x.1 g true a.lanes.1,Obn,Qbu _ _ (by omega) e (by have:=Qfa g true x.1.2.1; have:=a.lanes.1; omega),Obn]
 rfl
theorem Qpa {x:Qo} {g:Int} (hk:HK x) (hg:isG x.1 g=true):F_ep (x,g,())=some ((QbR x g,()),()):=by
 obtain ⟨⟨f,m,n⟩,i,⟨q,j⟩,r⟩:=Qkl hk.le hk.to hg;have d:=hk.ok;have s:=hk.mem.2;have o:=d.lanes.1;unfold QbR;unfold F_ep;dsimp only;rw [if_pos f,m,Obn,QdK _ i,Obn,if_pos f,n,Obn,QnN _ _ (by omega) j (by omega),Obn]
 generalize x.2.2.1.getD g.toNat QO=h at*;generalize QP x.2.1 (x.1.1.getD g.toNat [])=ow at*;dsimp only
 have e:=Qdj (step:=l_ep_3) (γ:=denO o_ep_3)
  (fun k (b:List Int)=>((x,g,(),(),x.1.2.1,((x.1.2.1.length:Nat):Int),((k:Nat):Int),()),(([],0,[],false,false,false,0,[],[],[],[],()),(h.1,h.2.1,h.2.2.1,h.2.2.2.1,h.2.2.2.2.1,h.2.2.2.2.2.1,h.2.2.2.2.2.2.1,h.2.2.2.2.2.2.2.1,h.2.2.2.2.2.2.2.2.1,ow,b,()),()),()))
  x.1.2.1.length (Qao (by omega)) (fun k b=>b.length≤8*k)
  (fun k b=>some (.inl (((),(),()),(([],0,[],false,false,false,0,[],[],[],[],()),(h.1,h.2.1,h.2.2.1,h.2.2.2.1,h.2.2.2.2.1,h.2.2.2.2.2.1,h.2.2.2.2.2.2.1,h.2.2.2.2.2.2.2.1,h.2.2.2.2.2.2.2.2.1,ow,b++QP x.2.1 (Qag g true (x.1.2.1.drop k)),()),()),()))) ?_ 0 [] (by omega) (by simp)
 ·have l:((0:Nat):Int)=0:=rfl;rw [l,List.drop_zero,List.nil_append] at e;show (Qb l_ep_3 lots _).bind _=_;rw [e,Obn];rfl
 ·rintro rec k b hk' ho ih;unfold l_ep_3;dsimp only;by_cases a:k< x.1.2.1.length
  ·have p:=(QbI d _ (List.getElem_mem a)).2.1;rw [if_pos (lt_t a),if_pos nat0,Ql a,QaQ a,Qag,QH (by omega)]
   by_cases c:(x.1.2.1[k]).1=g
   ·rw [if_pos (by simpa using c),if_pos c,Qdh x.2.1 _ (by omega) (by omega),Obn]
    dsimp only;have:=Qhu x.2.1 (x.1.2.1[k]).2.2.1;rw [if_pos (by omega),ih _ a (by rw [List.length_append]; omega),List.append_assoc]
    rfl
   ·rw [if_neg (by simpa using c),if_neg c]
    exact ih _ a (by omega)
  ·rw [if_neg (lt_f a),Qbl a];simp only [Qag,QP,List.flatMap_nil,List.append_nil]
def Qhd (v w:Qfp):Bool:=match F_gy (vD v,vD w,()) with
 | some r=>r.1.1
 | none=>false
theorem Qsn {v w:Qfp} (h:Qoi maxLen (vD v)):F_gy (vD v,vD w,())=some ((Qhd v w,()),())∧F_et (vD v,vD w,())=some ((Qhd v w,()),()):=by
 obtain ⟨b,a,c⟩:=QvT (vD v,vD w,()) h;unfold Qhd;rw [a,c];exact ⟨rfl,rfl⟩
theorem Qlq {x:Qo} {g:Int} (h:HK x) (hg:isG x.1 g=true):Qoi maxLen (vD (QbR x g)):=by
 have:=QvR x g h.le;rw [QvS h hg] at this;obtain ⟨a,b,c,d,e,f⟩:=this;exact ⟨⟨leM a,leM b,leM c,leM d⟩,leM e,leM f⟩
abbrev Quf:=Int×Int×Bool×Unit
theorem QmZ {x:Qo} {n:Int} (h:HK x) (hs:Qaq x n=true):(0≤n∧n≤200)∧x.2.2.2.2.2.1+n≤1000000:=by
 unfold Qaq at hs;obtain ⟨a,b⟩:=Bool.and_eq_true_iff.1 hs;have a:=QbA.1 a;have c:=h.clock;rw [Qj (by omega) (by omega)] at b
 refine ⟨a,?_⟩;rw [Qan] at b;have:=of_decide_eq_true b;omega
def Qkf (v:Qfp):Bool:=v.2.2.2.2.2.1
def setF (v:Qfp) (b:Bool):Qfp:=(v.1,v.2.1,v.2.2.1,v.2.2.2.1,v.2.2.2.2.1,b,v.2.2.2.2.2.2)
theorem Qrd (v w:Qfp) (b c:Bool):Qhd (setF v b) (setF w b)=Qhd (setF v c) (setF w c):=by
 unfold Qhd vD setF F_gy F_gx;simp only [beq_self_eq_true,if_true]
def QeY (v w:Qfp):Bool:=Qhd v (setF w (Qkf v))
theorem QsG (v w:Qfp):Qhd (setF v (Qkf w)) w=QeY v w:=Qrd v w (Qkf w) (Qkf v)
def sB (s:QQ):QiT:=(s.1.1,s.1.2.1,s.1.2.2.1,s.1.2.2.2.1,s.1.2.2.2.2.1,s.1.2.2.2.2.2.1,s.1.2.2.2.2.2.2.1,s.1.2.2.2.2.2.2.2.1,s.1.2.2.2.2.2.2.2.2.1,s.2.1,s.2.2.1,())
def setM (s:QQ) (m:List Int):QQ:=(s.1,s.2.1,m,())
def QwY (s:QQ) (h:QM):QQ:=((s.1.1,s.1.2.1,s.1.2.2.1,s.1.2.2.2.1,s.1.2.2.2.2.1,h.2.2.2.2.2.1,s.1.2.2.2.2.2.2),s.2.1,s.2.2.1,())
theorem Qgn {m:List Int} (h:QF m=0): ∀w∈m,WW w:=by
 unfold QF at h;split at h
 ·split at h
  ·exact Qau.1 ‹_›
  ·cases h
 ·cases h
theorem QuF {m:List Int} (hl:m.length=64) (h: ∀w∈m,WW w):QF m=0:=by
 unfold QF;rw [if_pos (by rw [hl]; decide),if_pos (Qau.2 h)]
theorem Qii {s:QQ} (h1:hartM s.1=0) (h2:QaG s.2.1 8=0) (h3:s.2.2.1.length=64) (h4: ∀w∈s.2.2.1,WW w):QX s=0:=by
 unfold QX;rw [if_neg (by simpa using h1),if_neg (by simpa using h2),if_pos ⟨QuF h3 h4,h3⟩]
theorem QdY {s:QQ} (h:QX s=0):Qge 1048576 s:=by
 obtain ⟨a,b,c,d⟩:=QbQ h;have:=(Qht (by decide) b).1
 exact ⟨QfL a,by omega,by omega⟩
theorem QkU {s:QQ} (h:QX s=0) {m:List Int} (hl:m.length=64) (hw: ∀w∈m,WW w):QX (setM s m)=0:=by
 obtain ⟨a,b,c,d⟩:=QbQ h;exact Qii a b hl hw
theorem QpC {s:QQ} (h:QX s=0) (y:QM):QX (QwY s y)=0:=by
 obtain ⟨a,b,c,d⟩:=QbQ h;exact Qii a b d (Qgn c)
def Qcw (m:List Int) (g:Int):List QJ→List Int→List Int
 | [],q=>q
 | l::r,q=>Qcw m g r (if l.2.1=g then Qdn q l.2.2.2.2.1.toNat (pg m l.2.2.1) else q)
theorem QfZ {s ws:List Int} {k:Nat} (h1: ∀w∈s,WW w) (h2: ∀w∈ws,WW w): ∀w∈Qdn s k ws,WW w:=by
 intro w a;unfold Qdn at a;rcases List.mem_append.1 a with a | a
 ·exact h1 w (List.mem_of_mem_take a)
 ·rcases List.mem_append.1 a with a | a
  ·exact h2 w a
  ·exact h1 w (List.mem_of_mem_drop a)
theorem Qpq {m:List Int} {p:Int} (h: ∀w∈m,WW w): ∀w∈pg m p,WW w:=fun w a=>h w (List.mem_of_mem_drop (List.mem_of_mem_take a))
theorem Qry (m:List Int) (p:Int):QP m [p]=pg m p:=by simp [QP]
theorem QjE {x:Qo} (h:HK x) {l:QJ} (hl:l∈x.1.2.1):(0≤l.2.2.1∧8*l.2.2.1+8≤(x.2.1.length:Int))∧(0≤l.2.2.2.2.1∧l.2.2.2.2.1< 8)∧(pg x.2.1 l.2.2.1).length=8∧ ∀w∈pg x.2.1 l.2.2.1,WW w:=by
 have d:=h.mem.2;obtain ⟨_,a,b,c⟩:=QbI h.ok l hl;have e:0≤l.2.2.1∧8*l.2.2.1+8≤(x.2.1.length:Int):=by omega
 exact ⟨e,by omega,QcY e,Qpq (Qgn h.mem.1)⟩
theorem Qkc {x:Qo} (h:HK x) {g:Int}: ∀{r:List QJ} {q:List Int},(∀l∈r,l∈x.1.2.1)→q.length=64→(∀w∈q,WW w)→(Qcw x.2.1 g r q).length=64∧ ∀w∈Qcw x.2.1 g r q,WW w
 | [],q,_,h1,h2=>⟨h1,h2⟩
 | l::r,q,hr,h1,h2=>by
  obtain ⟨_,l2,l3,l4⟩:=QjE h (hr l (by simp))
  rw [Qcw];split
  ·exact Qkc h (fun y a=>hr y (List.mem_cons_of_mem _ a)) (QbP h1 (by omega) l3) (QfZ h2 l4)
  ·exact Qkc h (fun y a=>hr y (List.mem_cons_of_mem _ a)) h1 h2
def fedS (x:Qo) (s:QQ) (g:Int):QQ:=setM s (Qcw x.2.1 g x.1.2.1 s.2.2.1)
def Qhc (x:Qo) (s:QQ) (g:Int):QQ:=QwY (fedS x s g) (x.2.2.1.getD g.toNat QO)
def Qij (x:Qo) (s:QQ) (g:Int):Mc:=Qac (Mc.of (Qhc x s g).1 (Qhc x s g).2.2.1) (Qhc x s g).2.1
def QmT (x:Qo) (s:QQ) (g:Int):QQ:=((Qij x s g).hart,s.2.1,(Qij x s g).m,())
theorem Qwg {x:Qo} {s:QQ} (g:Int) (hx:HK x) (hs:QX s=0):QX (fedS x s g)=0:=by
 obtain ⟨e,f,c,d⟩:=QbQ hs;obtain ⟨a,b⟩:=Qkc hx (g:=g) (r:=x.1.2.1) (q:=s.2.2.1) (fun _ h=>h) d (Qgn c)
 exact QkU hs a b
theorem QkQ {x:Qo} {s:QQ} (g:Int) (hx:HK x) (hs:QX s=0):QX (Qhc x s g)=0:=QpC (Qwg g hx hs) _
theorem QkV {x:Qo} {s:QQ} (g:Int) (hx:HK x) (hs:QX s=0):QX (QmT x s g)=0:=by
 have b:=QkQ g hx hs;have a:OkS (Qij x s g) (Qhc x s g).2.1:=Qim (QkE b);have e:=a.l;obtain ⟨f,c,h,d⟩:=QbQ b;exact Qii a.hartM c (by show (Qij x s g).m.length=64; unfold Qij; rw [Qle]; exact d) e.words
abbrev DB:=Int×Int×Bool×Unit
theorem QpH {x:Qo} {s:QQ} {g n k:Int} {z:DB} (hx:HK x) (hs:QX s=0):
  L_hb_21 ((g,(n,((),((),((),(k,((0:Int),()))))))),((z,(boxH x,(sB s,()))),()))=some (.inl ((g,(n,((),((),((),(k,())))))),((z,(boxH x,(sB (fedS x s g),()))),()))):=by
 obtain ⟨_,_,_,h⟩:=QbQ hs;have j:=hx.ok.lanes.1;have l:=hx.mem.2;refine Dr.eq ?_;refine Qab (fun m u=> ∃(i:Nat) (q:List Int),u=((g,(n,((),((),((),(k,((i:Int),()))))))),((z,(boxH x,(sB (setM s q),()))),()))∧m=x.1.2.1.length-i∧i≤x.1.2.1.length∧q.length=64∧Qcw x.2.1 g (x.1.2.1.drop i) q=Qcw x.2.1 g x.1.2.1 s.2.2.1) ?_ _ _ ⟨0,s.2.2.1,rfl,rfl,Nat.zero_le _,h,rfl⟩ (by rw [QE]; omega)
 rintro rec m _ ⟨i,q,rfl,hn,hi,hq,he⟩ ih;unfold l_hb_21 boxH;dsimp only;by_cases a:i< x.1.2.1.length
 case neg=>
  rw [if_neg (lt_f a)];rw [List.drop_of_length_le (by omega),Qcw] at he
  exact Dr.ret (by rw [he]; rfl)
 rw [if_pos (lt_t a),if_pos nat0,Ql a,QH (by omega)]
 rw [List.drop_eq_getElem_cons a,Qcw] at he;obtain ⟨e,f,c,o⟩:=QjE hx (List.getElem_mem a);generalize x.1.2.1[i]=y at*;by_cases b:y.2.1=g
 ·rw [if_pos b] at he;rw [if_pos (by simpa using b)]
  have d:=Qbu x.2.1 [y.2.2.1] (by omega) (by simpa using e) (by simp)
  rw [Qry] at d;refine Dr.step d (.step (QkY (sB (setM s q)) y.2.2.2.2.1 (pg x.2.1 y.2.2.1) hq f c) ?_);exact ih (m-1) _ (by omega) ⟨i+1,_,rfl,by omega,by omega,QbP hq (by omega) c,he⟩
 ·rw [if_neg b] at he;rw [if_neg (by simpa using b)]
  exact ih (m-1) _ (by omega) ⟨i+1,_,rfl,by omega,by omega,hq,he⟩
theorem Qtl {s:QQ} {k:Int} {ws:List Int} (hs:QX s=0) (hk:0≤k∧k< 8) (hw:ws.length=8):F_ey (s,k,ws,())=some ((sB (setM s (Qdn s.2.2.1 k.toNat ws)),()),()):=by
 obtain ⟨K,rfl⟩: ∃K:Nat,k=(K:Int):=⟨k.toNat,by omega⟩
 obtain ⟨d,e,f,a⟩:=QbQ hs;have g:=(Qht (by decide) e).1
 refine Dr.eq ?_;unfold F_ey;dsimp only;rw [QcW (by omega),Obn]
 dsimp only;rw [Qj (n:=(K:Int)*8) (by omega) (by omega),if_pos (by rw [a]; omega),if_pos (by rw [a,hw]; omega),a]
 have b:((K:Int)*8).toNat=8*K:=by omega
 have c:(((64:Nat):Int)).toNat=64:=rfl;rw [b,c,QpS a (by omega) hw]
 refine Dr.step (QdK _ (QfL d)) ?_;unfold F_ex F_ew;dsimp only;rw [if_pos (by simp; omega),Obn,Obn]
 exact Dr.ret rfl
theorem QqD {s:QQ} (hs:QX s=0):F_gi (s,1,())=some ((sB ((Qac (Mc.of s.1 s.2.2.1) s.2.1).hart,s.2.1,(Qac (Mc.of s.1 s.2.2.1) s.2.1).m,()),()),()):=by
 have a:=QdY hs;have b:=a.2.1;refine Dr.eq ?_;unfold F_gi F_ex F_ew;dsimp only;rw [QgT s.1 s.2.1 s.2.2.1 1 a.1 a.2.2 (QkE hs) (by omega),Obn,if_pos (by simp; omega),Obn,Obn,QrY]
 exact Dr.ret rfl
theorem Qrs {s:QQ} (hs:QX s=0):F_ha (s,1,())=some ((Qxb (Qac (Mc.of s.1 s.2.2.1) s.2.1) s.2.1,()),()):=by
 rw [QlI s 1 (QdY hs)];unfold QkN;rw [if_neg (by simpa using hs),if_pos (by omega)]
 rfl
theorem QnL {x:Qo} {s:QQ} {g:Int} (hx:HK x) (hg:isG x.1 g=true) (hs:QX s=0):F_gj (x,s,g,())=some ((sB (QmT x s g),()),()):=by
 obtain ⟨_,_,l,n⟩:=QbQ hs;have p:=hx.ok.lanes.1;have r:=hx.mem.2;refine Dr.eq ?_;unfold F_gj
 have f:Dr (L_gj_2 ((x,(g,((),((),(x.1.2.1,(((x.1.2.1.length:Nat):Int),((0:Int),()))))))),((sB s,(([],((0:Int),([],(false,(false,(false,((0:Int),([],([],([],([],()))))))))))),())),()))) fun o=>o= .inl ((x,(g,((),((),())))),((sB (fedS x s g),(([],((0:Int),([],(false,(false,(false,((0:Int),([],([],([],([],()))))))))))),())),())):=by
  refine Qab (fun m u=> ∃(i:Nat) (q:List Int),u=((x,(g,((),((),(x.1.2.1,(((x.1.2.1.length:Nat):Int),((i:Int),()))))))),((sB (setM s q),(([],((0:Int),([],(false,(false,(false,((0:Int),([],([],([],([],()))))))))))),())),()))∧m=x.1.2.1.length-i∧i≤x.1.2.1.length∧(q.length=64∧ ∀w∈q,WW w)∧Qcw x.2.1 g (x.1.2.1.drop i) q=Qcw x.2.1 g x.1.2.1 s.2.2.1) ?_ _ _ ⟨0,s.2.2.1,rfl,rfl,Nat.zero_le _,⟨n,Qgn l⟩,rfl⟩ (by rw [QE]; omega)
  rintro rec m _ ⟨i,q,rfl,hn,hi,hq,he⟩ ih;unfold l_gj_2;dsimp only;by_cases a:i< x.1.2.1.length
  case neg=>
   rw [if_neg (lt_f a)];rw [List.drop_of_length_le (by omega),Qcw] at he
   exact Dr.ret (by rw [he]; rfl)
  rw [if_pos (lt_t a),if_pos nat0,Ql a,QH (by omega)]
  rw [List.drop_eq_getElem_cons a,Qcw] at he;obtain ⟨h,j,b,k⟩:=QjE hx (List.getElem_mem a);generalize x.1.2.1[i]=y at*;by_cases hg:y.2.1=g
  ·rw [if_pos hg] at he;rw [if_pos (by simpa using hg)]
   refine Dr.step (Qdh x.2.1 y.2.2.1 (by omega) h) (.step (Qtl (s:=setM s q) (QkU hs hq.1 hq.2) j b) ?_)
   exact ih (m-1) _ (by omega) ⟨i+1,_,rfl,by omega,by omega,⟨QbP hq.1 (by omega) b,QfZ hq.2 k⟩,he⟩
  ·rw [if_neg hg] at he;rw [if_neg (by simpa using hg)]
   exact ih (m-1) _ (by omega) ⟨i+1,_,rfl,by omega,by omega,hq,he⟩
 refine f.bind fun o e=>?_
 subst e;obtain ⟨c,d,_⟩:=hx.guest hg;dsimp only;rw [if_pos c.1,d,Obn];exact Dr.step (QqD (s:=Qhc x s g) (QkQ g hx hs)) (.ret rfl)
def Qdp (p:PolD) (s:QQ) (g:Int):Qfp:=(Qhh 0 s.1 (s.2.2.1.take (8*(p.1.getD g.toNat []).length)) (QP s.2.2.1 (Qag g false p.2.1))).2
theorem Qoy {p:PolD} {g:Int} (hp:polM p=0) (hg:isG p g=true):askM p g=0:=by
 unfold askM;rw [if_neg (by simpa using hp),if_pos hg]
theorem QpE {p:PolD} {s:QQ} {g:Int} (hp:polM p=0) (hg:isG p g=true) (hs:QX s=0):QgH p s g=(0,Qdp p s g):=by
 unfold QgH Qdp;rw [if_neg (by simpa using Qoy hp hg),if_neg (by simpa using hs)]
 rfl
theorem Qjy {p:PolD} {x:QQ} {g:Int} (hp:polM p=0) (hg:isG p g=true) (h1:QX x=0):F_eq (x,p,g,())=some ((Qdp p x g,()),()):=by
 have m:=QdY h1;obtain ⟨d,l,i,q⟩:=QlW (Qoy hp hg);obtain ⟨_,_,_,s⟩:=QbQ h1;unfold Qdp;generalize p.1.getD g.toNat []=ow at*;unfold F_eq;dsimp only;rw [QdK _ m.1,Obn,if_pos l,i,Obn,Qj (n:=((ow.length:Nat):Int)*8) (by omega) (by omega),if_pos ⟨by omega,by omega,by omega⟩]
 have j:(x.2.2.1.drop (0:Int).toNat).take ((((ow.length:Nat):Int)*8).toNat-(0:Int).toNat)=x.2.2.1.take (8*ow.length):=by
  have a:(((ow.length:Nat):Int)*8).toNat-(0:Int).toNat=8*ow.length:=by omega
  rw [a]; rfl
 rw [j,QfB _ (by simp; omega),Obn]
 dsimp only;generalize x.2.2.1.take (8*ow.length)=tk at*
 have f:=Qdj (step:=l_eq_3) (γ:=denO o_eq_3)
  (fun k (c:List Int)=>((g,(),(),(),p.2.1,((p.2.1.length:Nat):Int),((k:Nat):Int),()),((x.1.1,x.1.2.1,x.1.2.2.1,x.1.2.2.2.1,x.1.2.2.2.2.1,x.1.2.2.2.2.2.1,x.1.2.2.2.2.2.2.1,x.1.2.2.2.2.2.2.2.1,x.1.2.2.2.2.2.2.2.2.1,x.2.1,x.2.2.1,()),([],0,[],false,false,false,0,[],[],[],[],()),(x.1.1,x.1.2.1,x.1.2.2.1,x.1.2.2.2.1,x.1.2.2.2.2.1,x.1.2.2.2.2.2.1,x.1.2.2.2.2.2.2.1,x.1.2.2.2.2.2.2.2.1,x.1.2.2.2.2.2.2.2.2.1,tk,c,()),()),()))
  p.2.1.length (Qao (by have:=d.lanes.1; omega)) (fun k c=>c.length≤8*k)
  (fun k c=>some (.inl (((),(),()),(([],0,[],false,false,false,0,[],[],[],[],()),(x.1.1,x.1.2.1,x.1.2.2.1,x.1.2.2.2.1,x.1.2.2.2.2.1,x.1.2.2.2.2.2.1,x.1.2.2.2.2.2.2.1,x.1.2.2.2.2.2.2.2.1,x.1.2.2.2.2.2.2.2.2.1,tk,c++QP x.2.2.1 (Qag g false (p.2.1.drop k)),()),()),()))) ?_ 0 [] (by omega) (by simp)
 ·have h:((0:Nat):Int)=0:=rfl;rw [h,List.drop_zero,List.nil_append] at f;show (Qb l_eq_3 lots _).bind _=_;rw [f,Obn];rfl
 ·rintro rec k c hk ho ih;have o:=d.lanes.1;unfold l_eq_3;dsimp only;by_cases b:k< p.2.1.length
  ·have r:=(QbI d _ (List.getElem_mem b)).2.2.1;rw [if_pos (lt_t b),if_pos nat0,Ql b,QaQ b,Qag,QH (by omega)]
   by_cases e:(p.2.1[k]).1=g
   ·rw [if_pos (by simpa using e),if_pos e,Qdh x.2.2.1 _ (by omega) (by omega),Obn]
    dsimp only;have:=Qhu x.2.2.1 (p.2.1[k]).2.2.2.1;rw [if_pos (by omega),ih _ b (by rw [List.length_append]; omega),List.append_assoc]
    rfl
   ·rw [if_neg (by simpa using e),if_neg e]
    exact ih _ b (by omega)
  ·rw [if_neg (lt_f b),Qbl b];simp only [Qag,QP,List.flatMap_nil,List.append_nil]
theorem QpF {x:Qo} {s:QQ} {g:Int} (hx:HK x) (hg:isG x.1 g=true) (hs:QX s=0):F_gz (x,s,g,())=some ((QeY (QbR x g) (Qdp x.1 s g),()),()):=by
 refine Dr.eq ?_;unfold F_gz;have a:=QjA x.1 s g (QgB hx.ok) (QdY hs);rw [QpE hx.pol hg hs] at a;exact Dr.step (QpQ hx hg) (.step a (.step (Qsn (w:=setF (Qdp x.1 s g) (Qkf (QbR x g))) (Qlq hx hg)).1 (.ret rfl)))
theorem Qly {x:Qo} {s:QQ} {g:Int} (hx:HK x) (hg:isG x.1 g=true):F_eu (vD (QbR x g),vD (Qdp x.1 s g),())=some ((QeY (QbR x g) (Qdp x.1 s g),()),()):=by
 refine Dr.eq ?_;unfold F_eu;have e:=(Qsn (v:=setF (QbR x g) (Qkf (Qdp x.1 s g))) (w:=Qdp x.1 s g) (Qlq hx hg)).2;rw [QsG] at e;exact Dr.step e (.ret rfl)
def sdGo (g:Int):Nat→Int→Qo→QQ→Quf
 | 0,k,x,s=>if QeY (QbR x g) (Qdp x.1 s g)=true then (0,0,true,()) else (0,k,false,())
 | r+1,k,x,s=>if QeY (QbR x g) (Qdp x.1 s g)=true then sdGo g r (k+1) (Qbm x) (if turnG x=g then QmT x s g else s) else (0,k,false,())
theorem Qrt {g n:Int} {x:Qo} {s:QQ} (hx:HK x) (hs:QX s=0) (gx:isG x.1 g=true) (hn:0≤n∧n≤200) (cx:x.2.2.2.2.2.1+n≤1000000):
  L_hb_15 ((g,(n,((),((),((),((0:Int),())))))),((((0:Int),((0:Int),(false,()))),(boxH x,(sB s,()))),()))=some (.inl (((),()),((sdGo g n.toNat 0 x s,()),()))):=by
 refine Dr.eq ?_;refine Qab (fun m u=> ∃(k:Int) (x':Qo) (s':QQ),u=((g,(n,((),((),((),(k,())))))),((((0:Int),((0:Int),(false,()))),(boxH x',(sB s',()))),()))∧k+(m:Int)=n∧0≤k∧HK x'∧QX s'=0∧isG x'.1 g=true∧x'.2.2.2.2.2.1+(m:Int)≤1000000∧sdGo g m k x' s'=sdGo g n.toNat 0 x s) ?_ n.toNat _ ⟨0,x,s,rfl,by omega,by omega,hx,hs,gx,by omega,rfl⟩ (by rw [QE]; omega)
 rintro rec m _ ⟨k,x,s,rfl,hk,h0,hx,hs,gx,cx,he⟩ ih;unfold l_hb_15;refine Dr.step (QpF (x:=x) (s:=s) hx gx hs) ?_;cases a:QeY (QbR x g) (Qdp x.1 s g) with
 | false=>
  refine Dr.pos rfl (.ret ?_);cases m with
  | zero=>rw [←he,sdGo,a]; rfl
  | succ m=>rw [←he,sdGo,a]; rfl
 | true=>
  refine Dr.neg (by simp) ?_
  cases m with
  | zero=>
   have e:k=n:=by omega
   refine Dr.pos (by simpa using e) (.ret ?_)
   rw [←he,sdGo,a]; rfl
  | succ m=>
   have e: ¬k=n:=by omega
   rw [sdGo,a,if_pos rfl] at he;obtain ⟨f,_,_,i⟩:=hx.turn;obtain ⟨c,d,_⟩:=hx.guest gx;refine Dr.neg (by simpa using e) (.pos f.1 (.step i ?_))
   by_cases b:turnG x=g
   ·rw [if_pos b] at he;refine Dr.pos (beq_iff_eq.2 b) (.step (QpH hx hs) (.pos c (.step d (.step (Qrs (s:=Qhc x s g) (QkQ g hx hs)) (.step (Qgk hx (by omega)) ?_)))))
    dsimp only;rw [Qj (n:=k+1) (by omega) (by omega)]
    refine ih m _ (by omega) ⟨k+1,Qbm x,QmT x s g,rfl,by omega,by omega,hx.next (by omega),QkV g hx hs,gx,?_,he⟩
    show x.2.2.2.2.2.1+1+(m:Int)≤1000000;omega
   ·rw [if_neg b] at he;refine Dr.neg (fun h=>b (beq_iff_eq.1 h)) (.step (Qgk hx (by omega)) ?_)
    dsimp only;rw [Qj (n:=k+1) (by omega) (by omega)]
    refine ih m _ (by omega) ⟨k+1,Qbm x,s,rfl,by omega,by omega,hx.next (by omega),hs,gx,?_,he⟩
    show x.2.2.2.2.2.1+1+(m:Int)≤1000000;omega
theorem QqE {g n:Int} {x:Qo} {s:QQ} (hx:HK x) (hs:QX s=0) (gx:isG x.1 g=true) (hn:0≤n∧n≤200) (cx:x.2.2.2.2.2.1+n≤1000000):
  L_gl_10 ((g,(n,((),((),((),((0:Int),())))))),((sB s,(((0:Int),((0:Int),(false,()))),(boxH x,()))),()))=some (.inl (((),()),((sdGo g n.toNat 0 x s,()),()))):=by
 refine Dr.eq ?_;refine Qab (fun m u=> ∃(k:Int) (x':Qo) (s':QQ),u=((g,(n,((),((),((),(k,())))))),((sB s',(((0:Int),((0:Int),(false,()))),(boxH x',()))),()))∧k+(m:Int)=n∧0≤k∧HK x'∧QX s'=0∧isG x'.1 g=true∧x'.2.2.2.2.2.1+(m:Int)≤1000000∧sdGo g m k x' s'=sdGo g n.toNat 0 x s) ?_ n.toNat _ ⟨0,x,s,rfl,by omega,by omega,hx,hs,gx,by omega,rfl⟩ (by rw [QE]; omega)
 rintro rec m _ ⟨k,x,s,rfl,hk,h0,hx,hs,gx,cx,he⟩ ih;unfold l_gl_10;refine Dr.step (Qpa (x:=x) hx gx) (.step (Qjy (x:=s) (p:=x.1) hx.pol gx hs) (.step (Qly (x:=x) (s:=s) hx gx) ?_));cases a:QeY (QbR x g) (Qdp x.1 s g) with
 | false=>
  refine Dr.pos rfl (.ret ?_);cases m with
  | zero=>rw [←he,sdGo,a]; rfl
  | succ m=>rw [←he,sdGo,a]; rfl
 | true=>
  refine Dr.neg (by simp) ?_
  cases m with
  | zero=>
   have e:k=n:=by omega
   refine Dr.pos (by simpa using e) (.ret ?_)
   rw [←he,sdGo,a]; rfl
  | succ m=>
   have e: ¬k=n:=by omega
   rw [sdGo,a,if_pos rfl] at he
   have c:F_ev (x,())=some ((turnG x,()),()):=by
    obtain ⟨d,_,_,f⟩:=hx.turn;unfold F_ev;dsimp only;rw [if_pos d.1,f];rfl
   refine Dr.neg (by simpa using e) (.step c ?_)
   by_cases b:turnG x=g
   ·rw [if_pos b] at he;refine Dr.pos (by simpa using b) (.step (QnL hx gx hs) (.step (Qjg hx (by omega)) ?_))
    dsimp only;rw [Qj (n:=k+1) (by omega) (by omega)]
    refine ih m _ (by omega) ⟨k+1,Qbm x,QmT x s g,rfl,by omega,by omega,hx.next (by omega),QkV g hx hs,gx,?_,he⟩
    show x.2.2.2.2.2.1+1+(m:Int)≤1000000;omega
   ·rw [if_neg b] at he;refine Dr.neg (by simpa using b) (.step (Qjg hx (by omega)) ?_)
    dsimp only;rw [Qj (n:=k+1) (by omega) (by omega)]
    refine ih m _ (by omega) ⟨k+1,Qbm x,s,rfl,by omega,by omega,hx.next (by omega),hs,gx,?_,he⟩
    show x.2.2.2.2.2.1+1+(m:Int)≤1000000;omega
def sdM (x:Qo) (s:QQ) (g n:Int):Quf:=
 if Qak x≠0 then (Qak x,0,false,())
 else if QX s≠0 then (QX s,0,false,())
 else if isG x.1 g=true then
  if Qaq x n=true then sdGo g n.toNat 0 x s else (3,0,false,())
 else (4,0,false,())
theorem QvG (x:Qo) (s:QQ) (g n:Int) (lx:Qcc 1048576 x) (ls:Qge 1048576 s):F_hb (x,s,g,n,())=some ((sdM x s g n,()),()):=by
 refine Dr.eq ?_;unfold F_hb F_gm sdM;refine Dr.step (Qju x lx) ?_;dsimp only;by_cases a:Qak x=0
 case neg=>
  rw [if_pos (by simpa using a),if_pos a]
  exact Dr.ret rfl
 rw [if_neg (by simpa using a),if_neg (by simpa using a)]
 refine Dr.step (Qgj s ls) ?_;dsimp only;by_cases b:QX s=0
 case neg=>
  rw [if_pos (by simpa using b),if_pos b]
  exact Dr.ret rfl
 rw [if_neg (by simpa using b),if_neg (by simpa using b)]
 have e:=HK.of a;refine Dr.step (QcL x.1 g lx.1.1.1) ?_;dsimp only;by_cases c:isG x.1 g=true
 case neg=>
  rw [if_pos (by simpa using c),if_neg c]
  exact Dr.ret rfl
 rw [if_neg (by simpa using c),if_pos c]
 refine Dr.step (Qob x n) ?_;dsimp only;by_cases d:Qaq x n=true
 case neg=>
  rw [if_pos (by simpa using d),if_neg d]
  exact Dr.ret rfl
 rw [if_neg (by simpa using d),if_pos d]
 have f:=QmZ e d;exact Dr.step (QoT e) (.step (Qgi s ls) (.step (Qrt e b c f.1 f.2) (.ret rfl)))
theorem QuQ (x:Qo) (s:QQ) (g n:Int) (lx:Qcc 1048576 x) (ls:Qge 1048576 s):F_gl (x,s,g,n,())=some ((sdM x s g n,()),()):=by
 refine Dr.eq ?_;unfold F_gl sdM;have f:=Qca (Qak x) (QX s);refine Dr.step (QfN x lx) (.step (Qjf s ls) ?_);by_cases a:Qak x=0
 case neg=>
  rw [if_pos a] at f;refine Dr.step f ?_;dsimp only;rw [if_neg (by simpa using a)]
  have b:=Qca (Qak x) (if Qaq x n=true then 0 else 3)
  rw [if_pos a] at b;refine Dr.step (Qcy x n) (.step b ?_);dsimp only;rw [if_pos (by simpa using a),if_pos a]
  exact Dr.ret rfl
 rw [if_neg (by simpa using a)] at f
 refine Dr.step f ?_;dsimp only;by_cases c:QX s=0
 case neg=>
  rw [if_neg (by simpa using c)]
  have b:=Qca (QX s) (if Qaq x n=true then 0 else 3)
  rw [if_pos c] at b;refine Dr.step (Qcy x n) (.step b ?_);dsimp only;rw [if_pos (by simpa using c),if_neg (by simpa using a),if_pos c]
  exact Dr.ret rfl
 rw [if_pos (by simpa using c),if_neg (by simpa using a),if_neg (by simpa using c)]
 have h:=HK.of a;refine Dr.step (QcK x.1 g lx.1.1.1) ?_;dsimp only;by_cases d:isG x.1 g=true
 case neg=>
  rw [if_pos (by simpa using d),if_neg d]
  refine Dr.step (Qcy x n) (.step (Qca _ _) ?_);dsimp only;rw [if_pos (show (4:Int)≠0 by decide),if_pos (by decide)]
  exact Dr.ret rfl
 rw [if_neg (by simpa using d),if_pos d]
 have b:=Qca (QX s) (if Qaq x n=true then 0 else 3)
 rw [if_neg (show ¬QX s≠0 by simpa using c)] at b
 refine Dr.step (Qcy x n) (.step b ?_);dsimp only;by_cases e:Qaq x n=true
 case neg=>
  rw [if_neg e,if_neg e,if_pos (by decide)]
  exact Dr.ret rfl
 rw [if_pos e,if_pos e,if_neg (by decide)]
 have i:=QmZ h e;exact Dr.step (QoS h) (.step (QqE h c d i.1 i.2) (.ret rfl))
abbrev pgAt (l:List TwoD) (k:Nat):TwoD:=l.getD k (-1,0,())
theorem QeB {α:Type} {l:List α} {k:Nat} {d:α}:l.getD k d=(l[k]?).getD d:=List.getD_eq_getElem?_getD
theorem Qsf {m:List Int} {a:Int} {o:Nat} (ho:o< 8):(pg m a).getD o 0=m.getD (8*a.toNat+o) 0:=by
 unfold pg;rw [QeB,QeB,List.getElem?_take,if_pos ho,List.getElem?_drop]
theorem Qvw {m:List Int} {a b:Int} {o:Nat} {w:Int} (ho:o< 8) (ha:0≤a) (hb:0≤b):pg (m.set (8*a.toNat+o) w) b=if a=b then (pg m b).set o w else pg m b:=by
 unfold pg;by_cases h:a=b
 ·subst h;rw [if_pos rfl];apply List.ext_getElem?;intro i;by_cases c:i< 8
  ·simp only [List.getElem?_take,if_pos c,List.getElem?_drop,List.getElem?_set,List.length_take,List.length_drop];by_cases e:o=i
   ·subst e;simp only [if_true];by_cases d:8*a.toNat+o< m.length
    ·rw [if_pos d,if_pos (by omega)]
    ·rw [if_neg d,if_neg (by omega)]
   ·rw [if_neg (by omega),if_neg e]
  ·rw [List.getElem?_eq_none (by simp; omega),List.getElem?_eq_none (by simp; omega)]
 ·rw [if_neg h];apply List.ext_getElem?;intro i;by_cases c:i< 8
  ·simp only [List.getElem?_take,if_pos c,List.getElem?_drop,List.getElem?_set];rw [if_neg (by omega)]
  ·rw [List.getElem?_eq_none (by simp; omega),List.getElem?_eq_none (by simp; omega)]
structure Sim (l l':List TwoD) (m m':List Int):Prop where
 len:l.length=8∧l'.length=8
 kind: ∀k,k< 8→(pgAt l' k).2=(pgAt l k).2
 neg: ∀k,k< 8→(0≤(pgAt l k).1↔0≤(pgAt l' k).1)
 top: ∀k,k< 8→(pgAt l k).1≤23∧(pgAt l' k).1≤23
 inj: ∀i j,i< 8→j< 8→0≤(pgAt l i).1→(pgAt l i).1=(pgAt l j).1→i=j
 inj': ∀i j,i< 8→j< 8→0≤(pgAt l' i).1→(pgAt l' i).1=(pgAt l' j).1→i=j
 same: ∀k,k< 8→0≤(pgAt l k).1→pg m (pgAt l k).1=pg m' (pgAt l' k).1
section
variable {l l':List TwoD} {m m' cs:List Int}
def Spot (l l':List TwoD) (kind:Int) (x y:Int):Prop:= ∃k o:Nat,k< 8∧o< 8∧0≤(pgAt l k).1∧mayP (pgAt l k) kind=true∧x=(pgAt l k).1*8+(o:Int)∧y=(pgAt l' k).1*8+(o:Int)
theorem Sim.walk (h:Sim l l' m m') (at_ kind:Int):(Qai l at_ kind= -1∧Qai l' at_ kind= -1)∨
  ∃k o:Nat,k< 8∧o< 8∧at_=8*(k:Int)+(o:Int)∧0≤(pgAt l k).1∧mayP (pgAt l k) kind=true∧Qai l at_ kind=(pgAt l k).1*8+(o:Int)∧Qai l' at_ kind=(pgAt l' k).1*8+(o:Int):=by
 unfold Qai;by_cases b:0≤at_∧at_≤63
 ·rw [if_pos b,if_pos b];have c:(at_ / 8).toNat< 8:=by omega
  have e:mayP (l'.getD (at_ / 8).toNat (-1,0,())) kind=mayP (l.getD (at_ / 8).toNat (-1,0,())) kind:=by
   unfold mayP;rw [show (l'.getD (at_ / 8).toNat (-1,0,())).2.1=(l.getD (at_ / 8).toNat (-1,0,())).2.1 from congrArg (·.1) (h.kind _ c),decide_eq_decide.2 (h.neg _ c)]
  rw [e];by_cases a:mayP (l.getD (at_ / 8).toNat (-1,0,())) kind=true
  ·rw [if_pos a,if_pos a];refine .inr ⟨(at_ / 8).toNat,(at_ % 8).toNat,c,by omega,by omega,?_,a,by dsimp only [pgAt]; omega,by dsimp only [pgAt]; omega⟩
   simp only [mayP,Bool.and_eq_true,decide_eq_true_eq] at a;exact a.1
  ·rw [if_neg a,if_neg a]; exact .inl ⟨rfl,rfl⟩
 ·rw [if_neg b,if_neg b]; exact .inl ⟨rfl,rfl⟩
theorem Sim.space (h:Sim l l' m m') (cs:List Int):Qcg cs l m=Qcg cs l' m':=by
 unfold Qcg;by_cases a:cs.getD 10 0=0
 ·rw [if_pos a,if_pos a]
 by_cases b:cs.getD 10 0=8
 ·rw [if_neg a,if_neg a,if_pos b,if_pos b]
 rw [if_neg a,if_neg a,if_neg b,if_neg b];rcases h.walk ((cs.getD 10 0-1)*8) 1 with ⟨c,d⟩ | ⟨k,o,e,n,j,f,_,c,d⟩
 ·rw [c,d]; rfl
 ·have i:=(h.neg k e).1 f;have g:o=0:=by omega
  subst g;rw [if_neg (by omega),if_neg (by omega),c,d]
  have:=h.same k e f;unfold pg at this;rw [show ((pgAt l k).1*8+((0:Nat):Int)).toNat=8*(pgAt l k).1.toNat by omega,show ((pgAt l' k).1*8+((0:Nat):Int)).toNat=8*(pgAt l' k).1.toNat by omega,this]
theorem Sim.place (h:Sim l l' m m') (cs:List Int) (at_ kind:Int):
  (Qv cs l m at_ kind=Qv cs l' m' at_ kind∧((Qv cs l m at_ kind).2=0→1000≤(Qv cs l m at_ kind).1∧kind≠4))∨
  ((Qv cs l m at_ kind).2=0∧(Qv cs l' m' at_ kind).2=0∧Spot l l' kind (Qv cs l m at_ kind).1 (Qv cs l' m' at_ kind).1):=by
 unfold Qv;rw [←h.space cs];cases Qcg cs l m with
 | none=>exact .inl ⟨rfl,fun h=>by simp at h⟩
 | some s=>
  dsimp only;by_cases a:Qai s at_ kind< 0
  ·rw [if_pos a,if_pos a]; exact .inl ⟨rfl,fun h=>absurd h (QdJ kind)⟩
  rw [if_neg a,if_neg a];by_cases b:Qai s at_ kind / 8=7
  ·rw [if_pos b,if_pos b];refine .inl ⟨rfl,fun i=>?_⟩
   by_cases e:kind=4
   ·rw [if_pos e] at i; simp at i
   ·rw [if_neg e]; dsimp only; omega
  rw [if_neg b,if_neg b];rcases h.walk (Qai s at_ kind) kind with ⟨c,d⟩ | ⟨k,o,f,n,q,g,j,c,d⟩
  ·rw [c,d]; exact .inl ⟨rfl,fun h=>absurd h (QdJ kind)⟩
  ·have p:=(h.neg k f).1 g;rw [c,d,if_neg (by omega),if_neg (by omega)]
   exact .inr ⟨rfl,rfl,k,o,f,n,g,j,rfl,rfl⟩
theorem Sim.spot {kind x y:Int} (h:Sim l l' m m') (hs:Spot l l' kind x y):(0≤x∧x< 1000)∧(0≤y∧y< 1000)∧m.getD x.toNat 0=m'.getD y.toNat 0∧ ∀w,Sim l l' (m.set x.toNat w) (m'.set y.toNat w):=by
 obtain ⟨k,o,a,d,f,_,rfl,rfl⟩:=hs;have g:=(h.neg k a).1 f;have r:=h.top k a;have p:((pgAt l k).1*8+(o:Int)).toNat=8*(pgAt l k).1.toNat+o:=by omega
 have q:((pgAt l' k).1*8+(o:Int)).toNat=8*(pgAt l' k).1.toNat+o:=by omega
 rw [p,q];refine ⟨by omega,by omega,?_,fun w=>?_⟩
 ·rw [←Qsf d, ←Qsf d,h.same k a f]
 ·refine { h with same:=fun j b i=>?_ }
  have n:=(h.neg j b).1 i;rw [Qvw d f i,Qvw d g n,h.same j b i];by_cases e:k=j
  ·subst e; rw [if_pos rfl,if_pos rfl]
  ·rw [if_neg fun c=>e (h.inj k j a b f c),if_neg fun c=>e (h.inj' k j a b g c)]
def Like (l l':List TwoD) (s t:Mc):Prop:=t={ s with m:=t.m }∧Sim l l' s.m t.m
def Qfo (l l':List TwoD) (x y:Bool×Int×Int×Mc):Prop:=x.1=y.1∧x.2.1=y.2.1∧x.2.2.1=y.2.2.1∧Like l l' x.2.2.2 y.2.2.2
theorem QhW {b:Bool} {n r:Int} {s t:Mc} (h:Like l l' s t):Qfo l l' (b,n,r,s) (b,n,r,t):=⟨rfl,rfl,rfl,h⟩
theorem QaI {α:Type} {R:α→α→Prop} {c:Prop} [Decidable c] {a b x y:α} (h1:c→R a x) (h2: ¬c→R b y):R (if c then a else b) (if c then x else y):=by
 by_cases h:c
 ·rw [if_pos h,if_pos h]; exact h1 h
 ·rw [if_neg h,if_neg h]; exact h2 h
theorem QuC {s:Mc} (h:Sim l l' s.m m') (op d a i:Int):Qfo l l' (exM s l op d a i) (exM { s with m:=m' } l' op d a i):=by
 unfold exM;dsimp only;have t: ∀{c v:Int},Qfo l l' (false,0,0,s.trap c v) (false,0,0,Mc.trap { s with m:=m' } c v):=QhW ⟨rfl,h⟩
 refine QaI (R:=Qfo l l') (fun _=>QhW ⟨rfl,h⟩) fun _=>QaI (R:=Qfo l l') (fun _=>QhW ⟨rfl,h⟩) fun _=>QaI (R:=Qfo l l') (fun _=>?_) fun _=>QaI (R:=Qfo l l') (fun _=>?_) fun _=>?_
 ·rcases h.place s.cs (addW (s.r.getD a.toNat 0) (off i)) 1 with ⟨e,n⟩ | ⟨f,g,b⟩
  ·rw [←e];exact QaI (R:=Qfo l l') (fun _=>t) fun c=>QaI (R:=Qfo l l') (fun _=>QhW ⟨rfl,h⟩) fun j=>absurd (n (by simpa using c)).1 j
  ·obtain ⟨o,p,k,_⟩:=h.spot b;rw [if_neg (c:=(Qv s.cs l s.m (addW (s.r.getD a.toNat 0) (off i)) 1).2≠0) (by rw [f]; simp),if_neg (c:=(Qv s.cs l' m' (addW (s.r.getD a.toNat 0) (off i)) 1).2≠0) (by rw [g]; simp),if_neg (c:=1000≤(Qv s.cs l s.m (addW (s.r.getD a.toNat 0) (off i)) 1).1) (by omega),if_neg (c:=1000≤(Qv s.cs l' m' (addW (s.r.getD a.toNat 0) (off i)) 1).1) (by omega),k]
   exact QhW ⟨rfl,h⟩
 ·rcases h.place s.cs (addW (s.r.getD a.toNat 0) (off i)) 2 with ⟨e,n⟩ | ⟨f,g,b⟩
  ·rw [←e];exact QaI (R:=Qfo l l') (fun _=>t) fun c=>QaI (R:=Qfo l l') (fun _=>QhW ⟨rfl,h⟩) fun j=>absurd (n (by simpa using c)).1 j
  ·generalize Qv s.cs l s.m (addW (s.r.getD a.toNat 0) (off i)) 2=P at f b⊢;generalize Qv s.cs l' m' (addW (s.r.getD a.toNat 0) (off i)) 2=Q at g b⊢;obtain ⟨o,p,_,k⟩:=h.spot b;rw [if_neg (c:=P.2≠0) (by rw [f]; simp),if_neg (c:=Q.2≠0) (by rw [g]; simp),if_neg (c:=1000≤P.1) (by omega),if_neg (c:=1000≤Q.1) (by omega)]
   exact QhW ⟨rfl,k _⟩
 repeat' (refine QaI (R:=Qfo l l') (fun _=>QhW ⟨rfl,h⟩) fun _=>?_)
 exact QhW ⟨rfl,h⟩
theorem QuA {s:Mc} (h:Sim l l' s.m m') (op d a i:Int):(doM s l op d a i).1=(doM { s with m:=m' } l' op d a i).1∧Like l l' (doM s l op d a i).2 (doM { s with m:=m' } l' op d a i).2:=by
 have c:=QuC h op d a i;unfold doM;dsimp only;generalize exM s l op d a i=x at c;generalize exM { s with m:=m' } l' op d a i=y at c
 obtain ⟨k,n,o,p⟩:=x;obtain ⟨q,r,t,u⟩:=y;obtain ⟨e,f,g,j,b⟩:=c;dsimp only at e f g j b⊢;subst e f g;rw [j];dsimp only;split
 ·exact ⟨rfl,rfl,b⟩
 ·exact ⟨rfl,rfl,b⟩
theorem QmP {s:Mc} (h:Sim l l' s.m m'):Like l l' (runM s l) (runM { s with m:=m' } l'):=by
 have t: ∀{c v:Int},Like l l' (s.trap c v) (Mc.trap { s with m:=m' } c v):=⟨rfl,h⟩
 unfold runM;dsimp only
 have k: ∀w:Int,Like l l' (if decF w=0 then (if (doM s l (decM w).1 (decM w).2.1 (decM w).2.2.1 (decM w).2.2.2.1).1=true then QfS (doM s l (decM w).1 (decM w).2.1 (decM w).2.2.1 (decM w).2.2.2.1).2 else (doM s l (decM w).1 (decM w).2.1 (decM w).2.2.1 (decM w).2.2.2.1).2) else s.trap 1 w)
   (if decF w=0 then (if (doM { s with m:=m' } l' (decM w).1 (decM w).2.1 (decM w).2.2.1 (decM w).2.2.2.1).1=true then QfS (doM { s with m:=m' } l' (decM w).1 (decM w).2.1 (decM w).2.2.1 (decM w).2.2.2.1).2 else (doM { s with m:=m' } l' (decM w).1 (decM w).2.1 (decM w).2.2.1 (decM w).2.2.2.1).2) else Mc.trap { s with m:=m' } 1 w):=fun w=>by
  refine QaI (R:=Like l l') (fun _=>?_) fun _=>t
  obtain ⟨d,a,b⟩:=QuA h (decM w).1 (decM w).2.1 (decM w).2.2.1 (decM w).2.2.2.1;rw [←d];refine QaI (R:=Like l l') (fun _=>⟨?_,b⟩) fun _=>⟨a,b⟩
  unfold QfS;rw [a]
 rcases h.place s.cs s.pc 4 with ⟨e,f⟩ | ⟨d,a,g⟩
 ·rw [←e];refine QaI (R:=Like l l') (fun _=>t) fun c=>?_
  have c:(Qv s.cs l s.m s.pc 4).2=0:=by simpa using c
  exact absurd rfl (f c).2
 ·obtain ⟨i,j,b,_⟩:=h.spot g;rw [if_neg (c:=(Qv s.cs l s.m s.pc 4).2≠0) (by rw [d]; simp),if_neg (c:=(Qv s.cs l' m' s.pc 4).2≠0) (by rw [a]; simp), ←b]
  exact k _
theorem Qld {s:Mc} (h:Sim l l' s.m m'):Like l l' (Qac s l) (Qac { s with m:=m' } l'):=by
 unfold Qac;dsimp only;refine QaI (R:=Like l l') (fun _=>⟨rfl,h⟩) fun _=>QaI (R:=Like l l') (fun _=>⟨rfl,h⟩) fun _=>QaI (R:=Like l l') (fun _=>QaI (R:=Like l l') (fun _=>⟨rfl,h⟩) fun _=>?_) fun _=>?_
 ·exact QmP (s:={ s with ring:= -1,fall:= -1,wa:=false }) h
 ·exact QmP (s:={ s with ring:= -1,fall:= -1 }) h
end
theorem Qdy {α:Type} {l:List α} {i j:Nat} {y d:α} (h:i≠j):(l.set i y).getD j d=l.getD j d:=by rw [QeB,QeB,List.getElem?_set_ne h]
theorem Qei {α:Type} {l:List α} {i:Nat} {y d:α} (h:i< l.length):(l.set i y).getD i d=y:=by rw [QeB,List.getElem?_set_self h]; rfl
theorem gget {α:Type} {l:List α} {i:Nat} {d:α} (h:i< l.length):l.getD i d=l[i]:=by rw [QeB,List.getElem?_eq_getElem h]; rfl
theorem QjZ: ∀{l seen:List Int},dupM seen l=false→l.Nodup∧ ∀x∈l,x∉seen
 | [],_,_=>⟨List.nodup_nil,by simp⟩
 | x::r,seen,h=>by
  simp only [dupM,Bool.or_eq_false_iff] at h;obtain ⟨h1,h2⟩:=QjZ h.2;have c:x∉seen:=by simpa using h.1
  refine ⟨List.nodup_cons.2 ⟨fun a=>h2 x a (by simp),h1⟩,fun y b=>?_⟩
  rcases List.mem_cons.1 b with rfl | b
  ·exact c
  ·exact fun a=>h2 y b (List.mem_append_left _ a)
theorem QmF {p:PolD} (hok:OkPol p):(∀l∈p.1,l.Nodup)∧p.1.Pairwise fun a b=> ∀x∈a, ∀y∈b,x≠y:=by
 have:=(QjZ hok.nodup).1;unfold List.Nodup at this;rw [List.pairwise_flatten] at this;exact this
abbrev ownL (p:PolD) (g:Int):List Int:=p.1.getD g.toNat []
theorem QtF {p:PolD} (hok:OkPol p) {g t:Int} (hg:isG p g=true) (ht:isG p t=true) (hne:t≠g) {x:Int} (h1:x∈ownL p g) (h2:x∈ownL p t):False:=by
 have a:=Qbn.1 hg;have b:=Qbn.1 ht;have d:=List.pairwise_iff_getElem.1 (QmF hok).2;rw [ownL,gget (by omega)] at h1 h2
 rcases Nat.lt_or_gt_of_ne (show g.toNat≠t.toNat by omega) with c | c
 ·exact d g.toNat t.toNat (by omega) (by omega) c x h1 x h2 rfl
 ·exact d t.toNat g.toNat (by omega) (by omega) c x h2 x h1 rfl
theorem Qmv {p:PolD} (hok:OkPol p) {j:Nat} (hj:j< p.2.1.length):QeD p p.2.1[j] (p.2.1.take j)=0:=by
 have e:=hok.lanes.2;unfold Qcd at e;have:=QnP (QgE e j hj);rw [Nat.zero_add] at this;exact this
theorem QhV {p:PolD} (hok:OkPol p):p.2.1.Pairwise fun o l=>clash l o=false:=by
 rw [List.pairwise_iff_getElem];intro i j c a b;have e:=Qmv hok a;unfold QeD at e;split at e
 ·rename_i h; exact absurd e h
 split at e
 ·split at e
  ·cases e
  ·split at e
   ·cases e
   ·rename_i h;have h:(p.2.1.take j).any (clash p.2.1[j])=false:=by simpa using h
    rw [List.any_eq_false] at h
    have:=h p.2.1[i] (by
     rw [←List.getElem_take (j:=j) (h:=by rw [List.length_take]; omega)]
     exact List.getElem_mem _)
    simpa using this
 ·cases e
theorem QiD {p:PolD} (hok:OkPol p) {x:QJ} (hx:x∈p.2.1) {l:List Int} (hl:l∈p.1):x.2.2.1∉l:=by
 obtain ⟨j,f,rfl⟩:=List.mem_iff_getElem.1 hx;have e:=Qmv hok f;unfold QeD at e;split at e
 ·rename_i h; exact absurd e h
 split at e
 ·split at e
  ·cases e
  ·rename_i h;intro g;apply h;rw [Qan,decide_eq_true_eq];unfold QfU;cases d:scan (fun i (l:List Int)=>if l.contains p.2.1[j].2.2.1=true then some ((i:Nat):Int) else none) 0 p.1 with
   | none=>
    obtain ⟨i,b⟩:=Qbt d l hl;rw [if_pos (by simpa using g)] at b
    cases b
   | some k=>
    refine QcZ (P:=fun c:Int=>0≤c) (fun i b c a=>?_) _ d
    split at a
    ·obtain rfl:=Osj a; omega
    ·cases a
 ·cases e
theorem QeE {p:PolD} (hok:OkPol p) {x y:QJ} (hx:x∈p.2.1) (hy:y∈p.2.1) (h:x.2.2.1=y.2.2.1):x=y:=by
 obtain ⟨i,a,rfl⟩:=List.mem_iff_getElem.1 hx;obtain ⟨j,b,rfl⟩:=List.mem_iff_getElem.1 hy;have g:=List.pairwise_iff_getElem.1 (QhV hok)
 have d: ∀{i j:Nat} (a:i< p.2.1.length) (b:j< p.2.1.length),i< j→p.2.1[i].2.2.1=p.2.1[j].2.2.1→False:=fun a b f e=>by
  have:=g _ _ a b f;unfold clash at this;rw [e] at this;simp at this
 rcases Nat.lt_trichotomy i j with c | c | c
 ·exact (d a b c h).elim
 ·subst c; rfl
 ·exact (d b a c h.symm).elim
theorem QhZ: ∀(r:List Int) (k:Nat) (l:List TwoD) (j:Nat),k+r.length≤l.length→pgAt (QbK k r l) j=if k≤j∧j< k+r.length then (r.getD (j-k) 0,7,()) else pgAt l j
 | [],k,l,j,_=>by rw [if_neg (by simp only [List.length_nil]; omega)]; rfl
 | p::r,k,l,j,h=>by
  simp only [List.length_cons] at h;rw [QbK,QhZ r (k+1) _ j (by rw [List.length_set]; omega)]
  simp only [List.length_cons];by_cases e:j=k
  ·subst e;rw [if_neg (by omega),if_pos (by omega),Nat.sub_self]
   exact Qei (by omega)
  ·by_cases c:k+1≤j∧j< k+1+r.length
   ·rw [if_pos c,if_pos (by omega),show j-k=(j-(k+1))+1 by omega]; rfl
   ·rw [if_neg c,if_neg (by omega)]; exact Qdy (Ne.symm e)
theorem QrL (j:Nat):pgAt QaV j=(-1,0,()):=by
 match j with
 | 0 | 1 | 2 | 3 | 4 | 5 | 6 | 7=>rfl
 | n+8=>rfl
theorem QdL {x:QJ} {g k:Int}:QbH x g k=true↔(x.1=g∧x.2.2.2.1=k)∨(x.2.1=g∧x.2.2.2.2.1=k):=by
 unfold QbH;simp
theorem Qwc {l o:QJ}:clash l o=false↔o.2.2.1≠l.2.2.1∧ ¬(QbH o l.1 l.2.2.2.1=true)∧ ¬(QbH o l.2.1 l.2.2.2.2.1=true):=by
 unfold clash;simp [Bool.or_eq_false_iff]
theorem Qiu {z x:QJ} (h:clash z x=false) {g k:Int} (hx:QbH x g k=true):QbH z g k=false:=by
 obtain ⟨_,c,d⟩:=Qwc.1 h;rw [←Bool.not_eq_true];intro e;rcases QdL.1 e with ⟨a,b⟩ | ⟨a,b⟩
 ·exact c (by rw [a,b]; exact hx)
 ·exact d (by rw [a,b]; exact hx)
def QeS (x:QJ):Prop:=x.1≠x.2.1∧(5≤x.2.2.2.1∧x.2.2.2.1≤6)∧(5≤x.2.2.2.2.1∧x.2.2.2.2.1≤6)
theorem QhU {g:Int} {x:QJ} (hx:QeS x) {l:List TwoD} (hl:l.length=8) (k:Nat):pgAt (QcA g x l) k=if x.1=g∧x.2.2.2.1=(k:Int) then (x.2.2.1,3,()) else if x.2.1=g∧x.2.2.2.2.1=(k:Int) then (x.2.2.1,1,()) else pgAt l k:=by
 obtain ⟨e,f,h⟩:=hx;unfold QcA;dsimp only;by_cases a:x.1=g
 ·have b: ¬x.2.1=g:=fun b=>e (a.trans b.symm)
  rw [if_neg b,if_pos a,if_neg (c:=x.2.1=g∧_) (fun c=>b c.1)]
  by_cases c:x.2.2.2.1=(k:Int)
  ·rw [if_pos ⟨a,c⟩,show x.2.2.2.1.toNat=k by omega]; exact Qei (by omega)
  ·rw [if_neg (fun d=>c d.2)]; exact Qdy (by omega)
 ·rw [if_neg a,if_neg (c:=x.1=g∧_) (fun c=>a c.1)]
  by_cases b:x.2.1=g
  ·rw [if_pos b];by_cases c:x.2.2.2.2.1=(k:Int)
   ·rw [if_pos ⟨b,c⟩,show x.2.2.2.2.1.toNat=k by omega]; exact Qei (by omega)
   ·rw [if_neg (fun d=>c d.2)]; exact Qdy (by omega)
  ·rw [if_neg b,if_neg (fun c=>b c.1)]
theorem Qej {g:Int} {k:Nat}: ∀(r:List QJ) (l:List TwoD),l.length=8→(∀x∈r,QeS x)→(∀x∈r,QbH x g (k:Int)=false)→pgAt (QaX g r l) k=pgAt l k
 | [],_,_,_,_=>rfl
 | x::r,l,hl,h1,h2=>by
  rw [QaX,Qej r _ (by rw [QbO]; exact hl) (fun y hy=>h1 y (List.mem_cons_of_mem _ hy)) (fun y hy=>h2 y (List.mem_cons_of_mem _ hy)),QhU (h1 x (by simp)) hl]
  have:=h2 x (by simp)
  have: ¬QbH x g (k:Int)=true:=by rw [this]; simp
  rw [QdL] at this;rw [if_neg fun c=>this (.inl c),if_neg fun c=>this (.inr c)]
theorem Qjj {g:Int} {x:QJ}: ∀(r:List QJ) (l:List TwoD),l.length=8→(∀y∈r,QeS y)→r.Pairwise (fun o l=>clash l o=false)→x∈r→x.1=g→pgAt (QaX g r l) x.2.2.2.1.toNat=(x.2.2.1,3,())
 | y::r,l,hl,h1,h2,hx,hg=>by
  rw [List.pairwise_cons] at h2;rw [QaX];rcases List.mem_cons.1 hx with rfl | hx
  ·have b:=h1 x (by simp)
   have e:((x.2.2.2.1.toNat:Nat):Int)=x.2.2.2.1:=by have:=b.2.1; omega
   rw [Qej r _ (by rw [QbO]; exact hl) (fun y a=>h1 y (List.mem_cons_of_mem _ a)) (fun z c=>Qiu (h2.1 z c) (QdL.2 (.inl ⟨hg,e.symm⟩))),QhU b hl,if_pos ⟨hg,e.symm⟩]
  ·exact Qjj r _ (by rw [QbO]; exact hl) (fun y a=>h1 y (List.mem_cons_of_mem _ a)) h2.2 hx hg
theorem Qmu {g:Int} {x:QJ}: ∀(r:List QJ) (l:List TwoD),l.length=8→(∀y∈r,QeS y)→r.Pairwise (fun o l=>clash l o=false)→x∈r→x.2.1=g→pgAt (QaX g r l) x.2.2.2.2.1.toNat=(x.2.2.1,1,())
 | y::r,l,hl,h1,h2,hx,hg=>by
  rw [List.pairwise_cons] at h2;rw [QaX];rcases List.mem_cons.1 hx with rfl | hx
  ·have b:=h1 x (by simp)
   have e:((x.2.2.2.2.1.toNat:Nat):Int)=x.2.2.2.2.1:=by have:=b.2.2; omega
   rw [Qej r _ (by rw [QbO]; exact hl) (fun y a=>h1 y (List.mem_cons_of_mem _ a)) (fun z d=>Qiu (h2.1 z d) (QdL.2 (.inr ⟨hg,e.symm⟩))),QhU b hl,if_neg (fun c=>b.1 (c.1.trans hg.symm)),if_pos ⟨hg,e.symm⟩]
  ·exact Qmu r _ (by rw [QbO]; exact hl) (fun y a=>h1 y (List.mem_cons_of_mem _ a)) h2.2 hx hg
theorem Qfg {g:Int} {k:Nat}: ∀(r:List QJ) (l:List TwoD),l.length=8→(∀y∈r,QeS y)→pgAt (QaX g r l) k=pgAt l k∨
  (∃x∈r,x.1=g∧x.2.2.2.1=(k:Int)∧pgAt (QaX g r l) k=(x.2.2.1,3,()))∨(∃x∈r,x.2.1=g∧x.2.2.2.2.1=(k:Int)∧pgAt (QaX g r l) k=(x.2.2.1,1,()))
 | [],_,_,_=> .inl rfl
 | y::r,l,hl,h1=>by
  rw [QaX];rcases Qfg (k:=k) r (QcA g y l) (by rw [QbO]; exact hl) (fun y hy=>h1 y (List.mem_cons_of_mem _ hy)) with e | ⟨x,hx,e⟩ | ⟨x,hx,e⟩
  ·rw [e,QhU (h1 y (by simp)) hl]
   by_cases a:y.1=g∧y.2.2.2.1=(k:Int)
   ·rw [if_pos a]; exact .inr (.inl ⟨y,by simp,a.1,a.2,rfl⟩)
   ·rw [if_neg a];by_cases b:y.2.1=g∧y.2.2.2.2.1=(k:Int)
    ·rw [if_pos b]; exact .inr (.inr ⟨y,by simp,b.1,b.2,rfl⟩)
    ·rw [if_neg b]; exact .inl rfl
  ·exact .inr (.inl ⟨x,List.mem_cons_of_mem _ hx,e⟩)
  ·exact .inr (.inr ⟨x,List.mem_cons_of_mem _ hx,e⟩)
theorem QbW {p:PolD} (hok:OkPol p): ∀x∈p.2.1,QeS x:=fun x a=>by
 have:=QbI hok x a;exact ⟨this.1.2.2,this.2.2.1,this.2.2.2⟩
theorem Qdm {p:PolD} {g:Int} (hok:OkPol p) (hg:isG p g=true):1≤(ownL p g).length∧(ownL p g).length≤5:=by
 have:=hok.own1 _ (QcX hok hg);exact ⟨this.1,this.2.1⟩
theorem own8 (p:PolD) (g:Int):(QbK 0 (ownL p g) QaV).length=8:=by rw [QeI]; rfl
theorem QkH {p:PolD} {g:Int} (hok:OkPol p) (hg:isG p g=true) {k:Nat} (hk:k< (ownL p g).length):pgAt (pgM p g) k=((ownL p g).getD k 0,7,()):=by
 have b:=(Qdm hok hg).2;unfold pgM;rw [Qej _ _ (own8 p g) (QbW hok) (fun x a=>?_),QhZ _ _ _ _ (by show 0+(ownL p g).length≤8; omega),if_pos (by omega),Nat.sub_zero]
 have a:=QbW hok x a;rw [←Bool.not_eq_true,QdL];have:=a.2;omega
theorem QgA {p:PolD} {g:Int} (hok:OkPol p) (hg:isG p g=true) {x:QJ} (hx:x∈p.2.1) (h:x.1=g):pgAt (pgM p g) x.2.2.2.1.toNat=(x.2.2.1,3,()):=Qjj _ _ (own8 p g) (QbW hok) (QhV hok) hx h
theorem QxP {p:PolD} {g:Int} (hok:OkPol p) (hg:isG p g=true) {x:QJ} (hx:x∈p.2.1) (h:x.2.1=g):pgAt (pgM p g) x.2.2.2.2.1.toNat=(x.2.2.1,1,()):=Qmu _ _ (own8 p g) (QbW hok) (QhV hok) hx h
theorem QfW {p:PolD} {g:Int} (hok:OkPol p) (hg:isG p g=true) {k:Nat} (h0:0≤(pgAt (pgM p g) k).1):(k< (ownL p g).length∧pgAt (pgM p g) k=((ownL p g).getD k 0,7,()))∨
  (∃x∈p.2.1,x.1=g∧x.2.2.2.1=(k:Int)∧pgAt (pgM p g) k=(x.2.2.1,3,()))∨(∃x∈p.2.1,x.2.1=g∧x.2.2.2.2.1=(k:Int)∧pgAt (pgM p g) k=(x.2.2.1,1,())):=by
 have a:=(Qdm hok hg).2;rcases Qfg (g:=g) (k:=k) p.2.1 (QbK 0 (ownL p g) QaV) (own8 p g) (QbW hok) with e | e | e
 ·refine .inl ?_;have e:pgAt (pgM p g) k=pgAt (QbK 0 (ownL p g) QaV) k:=e;rw [e,QhZ _ _ _ _ (by show 0+(ownL p g).length≤8; omega)] at h0⊢
  by_cases c:0≤k∧k< 0+(ownL p g).length
  ·rw [if_pos c] at h0⊢;exact ⟨by omega,by rw [Nat.sub_zero]⟩
  ·rw [if_neg c,QrL] at h0;exact absurd h0 (by decide)
 ·exact .inr (.inl e)
 ·exact .inr (.inr e)
theorem QfT {p:PolD} {g:Int} {k:Nat} (hk:k< (ownL p g).length):(ownL p g).getD k 0∈ownL p g:=QaH hk
theorem QqV {p:PolD} {g:Int} (hok:OkPol p) (hg:isG p g=true) (i j:Nat) (h0:0≤(pgAt (pgM p g) i).1) (he:(pgAt (pgM p g) i).1=(pgAt (pgM p g) j).1):i=j:=by
 have l:=QcX hok hg;have m:=List.pairwise_iff_getElem.1 ((QmF hok).1 _ l);have f:=fun {x:QJ} (hx:x∈p.2.1)=>QiD hok hx l
 have h:=fun {x:QJ} (hx:x∈p.2.1)=>(QbW hok x hx).1
 rcases QfW hok hg h0 with ⟨a1,a2⟩ | ⟨x,hx,a1,a2,a3⟩ | ⟨x,hx,a1,a2,a3⟩ <;> rcases QfW hok hg (k:=j) (by omega) with ⟨a,e⟩ | ⟨y,d,a,e,b⟩ | ⟨y,d,a,e,b⟩
 ·rw [a2,e] at he;dsimp only at he;rw [gget a1,gget a] at he;rcases Nat.lt_trichotomy i j with c | c | c
  ·exact (m i j a1 a c he).elim
  ·exact c
  ·exact (m j i a a1 c he.symm).elim
 ·rw [a2,b] at he; exact (f d (he▸QfT a1)).elim
 ·rw [a2,b] at he; exact (f d (he▸QfT a1)).elim
 ·rw [a3,e] at he; exact (f hx (he.symm▸QfT a)).elim
 ·rw [a3,b] at he;obtain rfl:=QeE hok hx d he;omega
 ·rw [a3,b] at he;obtain rfl:=QeE hok hx d he;exact (h hx (a1.trans a.symm)).elim
 ·rw [a3,e] at he; exact (f hx (he.symm▸QfT a)).elim
 ·rw [a3,b] at he;obtain rfl:=QeE hok hx d he;exact (h hx (a.trans a1.symm)).elim
 ·rw [a3,b] at he;obtain rfl:=QeE hok hx d he;omega
theorem Qvv (p:PolD) (g:Int) {k:Nat} (hk:k< 8):pgAt (pgM p g) k∈pgM p g:=QaH (by rw [Qbi]; exact hk)
theorem QnV {p:PolD} {g:Int} (hok:OkPol p) (hg:isG p g=true) {k:Nat} (hk:k< 8): -1≤(pgAt (pgM p g) k).1∧(pgAt (pgM p g) k).1≤23:=(QiK hok hg _ (Qvv p g hk)).1
theorem Qvj {p:PolD} {g t:Int} (hok:OkPol p) (hg:isG p g=true) (ht:isG p t=true) (hne:t≠g) {P:Int} (h0:0≤P) (hP:P∈ownL p g∨ ∃y∈p.2.1,y.1=g∧y.2.2.1=P): ∀q∈pgM p t,q.1=P→iand .i64 q.2.1 2=0:=by
 intro q j e;obtain ⟨k,i,rfl⟩:=List.mem_iff_getElem.1 j;have h:(pgM p t)[k]=pgAt (pgM p t) k:=(gget i).symm;rw [h] at e⊢;rcases QfW hok ht (k:=k) (by omega) with ⟨a,b⟩ | ⟨x,d,a,b,c⟩ | ⟨x,d,a,b,c⟩
 ·rw [b] at e;have f:P∈ownL p t:=e▸QfT a;rcases hP with hP | ⟨y,hy,c1,c2⟩
  ·exact (QtF hok hg ht hne hP f).elim
  ·exact (QiD hok hy (QcX hok ht) (c2▸f)).elim
 ·rw [c] at e;dsimp only at e;rcases hP with hP | ⟨y,hy,c1,c2⟩
  ·exact (QiD hok d (QcX hok hg) (e▸hP)).elim
  ·obtain rfl:=QeE hok d hy (e.trans c2.symm);exact (hne (a.symm.trans c1)).elim
 ·rw [c]; show iand .i64 1 2=0; decide
theorem Qwq {l:List TwoD} {m m':List Int} (h:MemW l m m') {P:Int} (h0:0≤P) (hq: ∀q∈l,q.1=P→iand .i64 q.2.1 2=0):pg m' P=pg m P:=by
 unfold pg;apply List.ext_getElem?;intro i;by_cases d:i< 8
 ·simp only [List.getElem?_take,if_pos d,List.getElem?_drop];apply Decidable.byContradiction;intro a;obtain ⟨q,e,b,c⟩:=h _ a;exact c (hq q e (by rw [b]; omega))
 ·rw [List.getElem?_eq_none (by simp; omega),List.getElem?_eq_none (by simp; omega)]
theorem QhI {l:List TwoD} (hl:l.length=8) {k:Nat} (hk:k< 8):pgAt (QaM l) k=if 0≤(pgAt l k).1 then ((k:Int),(pgAt l k).2) else pgAt l k:=by
 have a:k< l.length:=by omega
 rw [pgAt,gget (by rw [QbE]; exact a),Qez a,pgAt,gget a]
theorem QtO {p:PolD} {g:Int} (hok:OkPol p) (hg:isG p g=true) {m m':List Int} (h: ∀k,k< 8→0≤(pgAt (pgM p g) k).1→pg m (pgAt (pgM p g) k).1=pg m' (k:Nat)):Sim (pgM p g) (QaM (pgM p g)) m m':=by
 have f:=Qbi p g;have d:=fun {k:Nat} (a:k< 8)=>QhI f a
 refine ⟨⟨f,by rw [QbE]; exact f⟩,fun k a=>?_,fun k a=>?_,fun k a=>⟨(QnV hok hg a).2,?_⟩,fun i j _ _=>QqV hok hg i j,fun i j l n b e=>?_,fun k a b=>?_⟩
 ·rw [d a]; split <;> rfl
 ·rw [d a]; split
  ·rename_i c; exact ⟨fun _=>by dsimp only; omega,fun _=>c⟩
  ·exact Iff.rfl
 ·have:=(QnV hok hg a).2;rw [d a]; split
  ·dsimp only; omega
  ·exact this
 ·rw [d l] at b e;rw [d n] at e;split at b
  ·rename_i c;rw [if_pos c] at e;split at e
   ·dsimp only at e; omega
   ·dsimp only at e; omega
  ·rename_i c; exact absurd b c
 ·rw [d a,if_pos b]; exact h k a b
theorem QnU {s ws:List Int} {k:Nat} {j:Int} (hs:s.length=64) (hk:k< 8) (hw:ws.length=8) (hj:0≤j∧j< 8):pg (Qdn s k ws) j=if j=(k:Int) then ws else pg s j:=by
 obtain ⟨J,rfl⟩: ∃J:Nat,j=(J:Int):=⟨j.toNat,by omega⟩
 unfold pg Qdn;rw [Int.toNat_natCast];apply List.ext_getElem?;intro i;by_cases a:i< 8
 ·rw [List.getElem?_take,if_pos a,List.getElem?_drop];by_cases c:J=k
  ·subst c;rw [if_pos rfl,List.getElem?_append_right (by simp; omega),List.length_take,Nat.min_eq_left (by omega),Nat.add_sub_cancel_left,List.getElem?_append_left (by omega)]
  ·rw [if_neg (by omega),List.getElem?_take,if_pos a,List.getElem?_drop]
   by_cases d:J< k
   ·rw [List.getElem?_append_left (by simp; omega),List.getElem?_take,if_pos (by omega)]
   ·rw [List.getElem?_append_right (by simp; omega),List.length_take,Nat.min_eq_left (by omega),List.getElem?_append_right (by omega),List.getElem?_drop,hw]
    congr 1;omega
 ·rw [List.getElem?_eq_none (by simp; omega)]
  split
  ·rw [List.getElem?_eq_none (by omega)]
  ·rw [List.getElem?_eq_none (by simp; omega)]
def calm (h:QM):QM:=(h.1,h.2.1,h.2.2.1,h.2.2.2.1,h.2.2.2.2.1,false,h.2.2.2.2.2.2)
theorem Qwb {h k:QM} (e:calm h=calm k) (er:h.2.2.2.2.2.1=k.2.2.2.2.2.1):h=k:=by
 obtain ⟨a,b,c,d,f,g,i⟩:=h;obtain ⟨j,l,m,n,o,p,q⟩:=k;unfold calm at e;simp only [Pmi] at e er;obtain ⟨rfl,rfl,rfl,rfl,rfl,_,rfl⟩:=e;rw [er]
structure Rl (x:Qo) (s:QQ) (g:Int):Prop where
 hk:HK x
 hs:QX s=0
 hg:isG x.1 g=true
 pages:s.2.1=QaM (pgM x.1 g)
 hart:calm s.1=calm (x.2.2.1.getD g.toNat QO)
 own: ∀k,k< (ownL x.1 g).length→pg x.2.1 ((ownL x.1 g).getD k 0)=pg s.2.2.1 (k:Nat)
 gives: ∀y∈x.1.2.1,y.1=g→pg x.2.1 y.2.2.1=pg s.2.2.1 y.2.2.2.1
theorem Qlw {m m':List Int}: ∀{l:List Int} {k:Nat},(∀i,i< l.length→pg m (l.getD i 0)=pg m' ((k+i:Nat):Int))→k+l.length≤8→m'.length=64→QP m l=(m'.drop (8*k)).take (8*l.length)
 | [],k,_,_,_=>by simp [QP]
 | a::r,k,h,hk,hl=>by
  simp only [List.length_cons] at hk;have h0:=h 0 (by simp)
  have b:=Qlw (l:=r) (k:=k+1) (fun i d=>by
   have:=h (i+1) (by simp; omega)
   rw [show k+1+i=k+(i+1) by omega]
   exact this) (by omega) hl
  unfold QP at b⊢;rw [List.flatMap_cons,b];have c:pg m a=(m'.drop (8*k)).take 8:=h0;rw [c,List.length_cons,show 8*(r.length+1)=8+8*r.length by omega,List.take_add,List.drop_drop,show 8*k+8=8*(k+1) by omega]
theorem Qkk {m m':List Int} {g:Int}: ∀{r:List QJ},(∀y∈r,y.1=g→pg m y.2.2.1=pg m' y.2.2.2.1)→QP m (Qag g true r)=QP m' (Qag g false r)
 | [],_=>rfl
 | y::r,h=>by
  have ih:=Qkk (r:=r) fun z a=>h z (List.mem_cons_of_mem _ a)
  simp only [Qag];by_cases c:y.1=g
  ·rw [if_pos c,if_pos c,if_pos trivial,if_neg (by simp)]
   unfold QP at ih⊢;rw [List.flatMap_cons,List.flatMap_cons,h y (by simp) c,ih]
  ·rw [if_neg c,if_neg c]; exact ih
theorem Rl.views {x:Qo} {s:QQ} {g:Int} (h:Rl x s g):setF (Qdp x.1 s g) (Qkf (QbR x g))=QbR x g:=by
 have h5:=(Qdm h.hk.ok h.hg).2;have e:s.2.2.1.length=64:=(QbQ h.hs).2.2.2;have b:=Qlw (m:=x.2.1) (m':=s.2.2.1) (l:=ownL x.1 g) (k:=0) (fun i d=>by rw [Nat.zero_add]; exact h.own i d) (by omega) e
 rw [Nat.mul_zero,List.drop_zero] at b;have c:=Qkk (m:=x.2.1) (m':=s.2.2.1) (g:=g) h.gives;have a:=h.hart;unfold Qdp QbR;rw [←b, ←c];generalize QP x.2.1 (ownL x.1 g)=W;generalize QP x.2.1 (Qag g true x.1.2.1)=G;generalize x.2.2.1.getD g.toNat QO=k at a;generalize s.1=q at a;obtain ⟨f,j,n,o,p,r,t,u,v,_⟩:=q;obtain ⟨w,y,z,b4,b5,b6,b7,b8,b9,_⟩:=k;unfold calm at a;simp only [Pmi] at a;obtain ⟨rfl,rfl,rfl,rfl,rfl,_,rfl,rfl,rfl,_⟩:=a;rfl
theorem Qgq {m:List Int} {g:Int} {j:Int}: ∀{r:List QJ} {q:List Int},q.length=64→(∀y∈r,QeS y∧(pg m y.2.2.1).length=8)→0≤j∧j< 8→(∀y∈r,y.2.1=g→y.2.2.2.2.1≠j)→pg (Qcw m g r q) j=pg q j
 | [],_,_,_,_,_=>rfl
 | y::r,q,hq,h1,hj,h2=>by
  have b:=h1 y (by simp)
  rw [Qcw];by_cases c:y.2.1=g
  ·rw [if_pos c,Qgq (QbP hq (by have:=b.1.2.2; omega) b.2) (fun z a=>h1 z (List.mem_cons_of_mem _ a)) hj (fun z a=>h2 z (List.mem_cons_of_mem _ a)),QnU hq (by have:=b.1.2.2; omega) b.2 hj,if_neg (by have:=h2 y (by simp) c; have:=b.1.2.2; omega)]
  ·rw [if_neg c];exact Qgq hq (fun z a=>h1 z (List.mem_cons_of_mem _ a)) hj (fun z a=>h2 z (List.mem_cons_of_mem _ a))
theorem QrR {m:List Int} {g:Int} {x:QJ}: ∀{r:List QJ} {q:List Int},q.length=64→(∀y∈r,QeS y∧(pg m y.2.2.1).length=8)→r.Pairwise (fun o l=>clash l o=false)→x∈r→x.2.1=g→pg (Qcw m g r q) x.2.2.2.2.1=pg m x.2.2.1
 | y::r,q,hq,h1,h2,hx,hg=>by
  have b:=h1 y (by simp)
  rw [List.pairwise_cons] at h2;have c:(Qdn q y.2.2.2.2.1.toNat (pg m y.2.2.1)).length=64:=QbP hq (by have:=b.1.2.2; omega) b.2
  rw [Qcw];rcases List.mem_cons.1 hx with rfl | hx
  ·have:=b.1.2.2;rw [if_pos hg,Qgq c (fun z a=>h1 z (List.mem_cons_of_mem _ a)) (by omega) (fun z a e d=>?_),QnU hq (by omega) b.2 (by omega),if_pos (by omega)]
   have:=Qiu (h2.1 z a) (QdL (x:=x) (g:=g) (k:=x.2.2.2.2.1).2 (.inr ⟨hg,rfl⟩));rw [QdL.2 (.inr ⟨e,d⟩)] at this;cases this
  ·exact QrR (by split; exact c; exact hq) (fun z a=>h1 z (List.mem_cons_of_mem _ a)) h2.2 hx hg
section
variable {x:Qo} {s:QQ} {g:Int}
theorem Rl.lanes (h:Rl x s g): ∀y∈x.1.2.1,QeS y∧(pg x.2.1 y.2.2.1).length=8:=fun y a=>⟨QbW h.hk.ok y a,(QjE h.hk a).2.2.1⟩
theorem Rl.sim (h:Rl x s g):Sim (pgM x.1 g) (QaM (pgM x.1 g)) x.2.1 (Qcw x.2.1 g x.1.2.1 s.2.2.1):=by
 have a:=h.hk.ok;have j:s.2.2.1.length=64:=(QbQ h.hs).2.2.2;refine QtO a h.hg fun k t n=>?_
 have f:(∀y∈x.1.2.1,y.2.1=g→y.2.2.2.2.1≠(k:Int))→pg (Qcw x.2.1 g x.1.2.1 s.2.2.1) ((k:Nat):Int)=pg s.2.2.1 (k:Nat):=fun c=>Qgq j h.lanes (by omega) c
 rcases QfW a h.hg n with ⟨b,d⟩ | ⟨y,e,b,d,i⟩ | ⟨y,e,b,d,i⟩
 ·have r:=(Qdm a h.hg).2;rw [d,f fun y e _=>by have:=(QbW a y e).2.2; omega]
  exact h.own k b
 ·rw [i,f fun z o q p=>?_]
  ·rw [←d]; exact h.gives y e b
  ·have l:=QgA a h.hg e b;have m:=QxP a h.hg o q;rw [d] at l;rw [p,l] at m;exact absurd (congrArg (fun w:TwoD=>w.2.1) m) (by dsimp only; decide)
 ·rw [i, ←d];exact (QrR j h.lanes (QhV a) e b).symm
theorem Qkm (x:Qo) (g:Int):calm ((Qbm x).2.2.1.getD g.toNat QO)=calm ((QS x).getD g.toNat QO):=by
 unfold Qbm;dsimp only;split
 ·unfold Qbq;by_cases e:(QT x).ring.toNat=g.toNat
  ·rw [e];by_cases a:g.toNat< (QS x).length
   ·rw [Qei a]; rfl
   ·rw [List.set_eq_of_length_le (by omega)]
  ·rw [Qdy e]
 ·rfl
theorem HK.stepP (h:HK x):StepP (pgM x.1 (turnG x)) { (Mc.of (x.2.2.1.getD (turnG x).toNat QO) x.2.1) with ring:= -1,fall:= -1 } (QT x):=by
 have:=(QwJ (Qbi x.1 (turnG x)) (Mc.of (x.2.2.1.getD (turnG x).toNat QO) x.2.1) (h.okS.d.2)).1;exact this
theorem HK.stays (h:HK x) (hg:isG x.1 g=true) (hne:turnG x≠g) {P:Int} (h0:0≤P) (hP:P∈ownL x.1 g∨ ∃y∈x.1.2.1,y.1=g∧y.2.2.1=P):pg (Qbm x).2.1 P=pg x.2.1 P:=
 Qwq (l:=pgM x.1 (turnG x)) (m:=x.2.1) (m':=(QT x).m) h.stepP.mem h0 (Qvj h.ok hg h.turn.2.2.1 hne h0 hP)
theorem HK.ownP (h:HK x) (hg:isG x.1 g=true) {k:Nat} (hk:k< (ownL x.1 g).length):0≤(ownL x.1 g).getD k 0:=((h.ok.own1 _ (QcX h.ok hg)).2.2 _ (QfT hk)).1
theorem Rl.next (h:Rl x s g) (hc:x.2.2.2.2.2.1< 1000000):Rl (Qbm x) (if turnG x=g then QmT x s g else s) g:=by
 have c:=h.hk.ok;by_cases i:turnG x=g
 ·rw [if_pos i];have o:(Qhc x s g).1=x.2.2.1.getD g.toNat QO:=Qwb h.hart rfl;have p:(Qhc x s g).2.1=QaM (pgM x.1 g):=h.pages;have j:Sim (pgM x.1 g) (QaM (pgM x.1 g)) x.2.1 (Qhc x s g).2.2.1:=h.sim
  have m:Like (pgM x.1 g) (QaM (pgM x.1 g)) (QT x) (Qij x s g):=by
   unfold QT Qij;rw [o,p,i];exact Qld (s:=Mc.of (x.2.2.1.getD g.toNat QO) x.2.1) j
  obtain ⟨u,l⟩:=m;have t:(Qij x s g).hart=(QT x).hart:=by rw [u]; rfl
  refine ⟨h.hk.next hc,QkV g h.hk h.hs,h.hg,h.pages,?_,fun k d=>?_,fun y e f=>?_⟩
  ·rw [Qkm];have:=(h.hk.guest h.hg).1;show calm (Qij x s g).hart=_;rw [t];unfold QS;rw [i,Qei (by omega)]
  ·have v:=(Qdm c h.hg).2;have d:k< (ownL x.1 g).length:=d;have q:=l.same k (by omega) (by rw [QkH c h.hg d]; exact h.hk.ownP h.hg d)
   rw [QhI (Qbi x.1 g) (by omega),QkH c h.hg d,if_pos (by exact h.hk.ownP h.hg d)] at q
   exact q
  ·have e:y∈x.1.2.1:=e;have b:=QbW c y e;have r:((y.2.2.2.1.toNat:Nat):Int)=y.2.2.2.1:=by have:=b.2.1; omega
   have n:=(QbI c y e).2.1.1;have q:=l.same y.2.2.2.1.toNat (by have:=b.2.1; omega) (by rw [QgA c h.hg e f]; exact n)
   rw [QhI (Qbi x.1 g) (by have:=b.2.1; omega),QgA c h.hg e f,if_pos (by exact n)] at q
   rw [r] at q;exact q
 ·rw [if_neg i];refine ⟨h.hk.next hc,h.hs,h.hg,h.pages,?_,fun k d=>?_,fun y e f=>?_⟩
  ·rw [Qkm];unfold QS;have a:=Qbn.1 h.hg;have b:=Qbn.1 h.hk.turn.2.2.1;rw [Qdy (by omega)]
   exact h.hart
  ·have d:k< (ownL x.1 g).length:=d;rw [←h.own k d];exact h.hk.stays h.hg i (h.hk.ownP h.hg d) (.inl (QfT d))
  ·rw [←h.gives y e f];exact h.hk.stays h.hg i (QbI c y e).2.1.1 (.inr ⟨y,e,f,rfl⟩)
end
structure Shut (p:PolD) (A:Int→Prop):Prop where
 lane: ∀y∈p.2.1,A y.2.1→A y.1
 bell: ∀b∈p.2.2.1,A b.2.1→A b.1
structure Tw (x y:Qo) (A:Int→Prop):Prop where
 hx:HK x
 hy:HK y
 pol:x.1=y.1
 slot:x.2.2.2.1=y.2.2.2.1
 left:x.2.2.2.2.1=y.2.2.2.2.1
 clock:x.2.2.2.2.2.1=y.2.2.2.2.2.1
 shut:Shut x.1 A
 hart: ∀g,isG x.1 g=true→A g→x.2.2.1.getD g.toNat QO=y.2.2.1.getD g.toNat QO
 own: ∀g,isG x.1 g=true→A g→ ∀P∈ownL x.1 g,pg x.2.1 P=pg y.2.1 P
 gives: ∀l∈x.1.2.1,A l.1→pg x.2.1 l.2.2.1=pg y.2.1 l.2.2.1
section
variable {x y:Qo} {A:Int→Prop} {g:Int}
theorem Qgm {m m':List Int}: ∀{l:List Int},(∀P∈l,pg m P=pg m' P)→QP m l=QP m' l
 | [],_=>rfl
 | a::r,h=>by
  have ih:=Qgm (l:=r) fun P b=>h P (List.mem_cons_of_mem _ b)
  unfold QP at ih⊢;rw [List.flatMap_cons,List.flatMap_cons,h a (by simp),ih]
theorem Qkj {g:Int}: ∀{r:List QJ} {P:Int},P∈Qag g true r→ ∃l∈r,l.1=g∧l.2.2.1=P
 | [],_,h=>by simp [Qag] at h
 | l::r,P,h=>by
  simp only [Qag] at h;by_cases c:l.1=g
  ·rw [if_pos c] at h;rcases List.mem_cons.1 h with h | h
   ·exact ⟨l,by simp,c,by rw [h,if_pos trivial]⟩
   ·obtain ⟨z,hz,e⟩:=Qkj h;exact ⟨z,List.mem_cons_of_mem _ hz,e⟩
  ·rw [if_neg c] at h;obtain ⟨z,hz,e⟩:=Qkj h;exact ⟨z,List.mem_cons_of_mem _ hz,e⟩
theorem Tw.views (h:Tw x y A) (hg:isG x.1 g=true) (ha:A g):QbR x g=QbR y g:=by
 unfold QbR
 rw [←h.pol,h.hart g hg ha,Qgm (h.own g hg ha),Qgm (m:=x.2.1) (m':=y.2.1) (l:=Qag g true x.1.2.1) fun P c=>by
  obtain ⟨l,d,a,b⟩:=Qkj c;rw [←b];exact h.gives l d (a▸ha)]
theorem Tw.turnEq (h:Tw x y A):turnG y=turnG x:=by
 unfold turnG;rw [←h.pol, ←h.slot]
theorem Qmq (x:Qo) (g:Int) (hne:Qcn x=true→(QT x).ring.toNat≠g.toNat):(Qbm x).2.2.1.getD g.toNat QO=(QS x).getD g.toNat QO:=by
 unfold Qbm;dsimp only;split
 ·rename_i a;unfold Qbq;rw [Qdy (hne a)]
 ·rfl
theorem QhQ {g:Int} (h:HK x) (hg:isG x.1 g=true) (hne:turnG x≠g):(QS x).getD g.toNat QO=x.2.2.1.getD g.toNat QO:=by
 have a:=Qbn.1 hg;have b:=Qbn.1 h.turn.2.2.1;unfold QS;rw [Qdy (by omega)]
theorem QoR (h:HK x):(QS x).getD (turnG x).toNat QO=(QT x).hart:=by
 have:=(h.guest h.turn.2.2.1).1;unfold QS;rw [Qei (by omega)]
theorem Tw.sim (h:Tw x y A) (ha:A (turnG x)):Sim (pgM x.1 (turnG x)) (pgM x.1 (turnG x)) x.2.1 y.2.1:=by
 have a:=h.hx.ok;have c:=h.hx.turn.2.2.1;have b:=Qbi x.1 (turnG x);refine ⟨⟨b,b⟩,fun _ _=>rfl,fun _ _=>Iff.rfl,fun k g=>⟨(QnV a c g).2,(QnV a c g).2⟩,fun i j _ _=>QqV a c i j,fun i j _ _=>QqV a c i j,fun k g m=>?_⟩
 rcases QfW a c m with ⟨d,e⟩ | ⟨l,b,d,e,f⟩ | ⟨l,b,d,e,f⟩
 ·rw [e]; exact h.own _ c ha _ (QfT d)
 ·rw [f]; exact h.gives l b (d▸ha)
 ·rw [f]; exact h.gives l b (h.shut.lane l b (d▸ha))
theorem Tw.next (h:Tw x y A) (hc:x.2.2.2.2.2.1< 1000000):Tw (Qbm x) (Qbm y) A:=by
 have i:=h.hx.ok;have p:=h.turnEq;have aa:y.2.2.2.2.2.1< 1000000:=by rw [←h.clock]; exact hc
 have m:Qfr x.1.2.2.2.1 x.2.2.2.1 x.2.2.2.2.1=Qfr y.1.2.2.2.1 y.2.2.2.1 y.2.2.2.2.1:=by rw [h.pol,h.slot,h.left]
 have ay:=h.hy.ok
 have n: ∀g,isG x.1 g=true→turnG x≠g→ ∀P,0≤P→(P∈ownL x.1 g∨ ∃l∈x.1.2.1,l.1=g∧l.2.2.1=P)→pg x.2.1 P=pg y.2.1 P→pg (Qbm x).2.1 P=pg (Qbm y).2.1 P:=fun g a o P h0 f e=>by
  rw [h.hx.stays a o h0 f,h.hy.stays (by rw [←h.pol]; exact a) (by rw [p]; exact o) h0 (by rw [←h.pol]; exact f)]
  exact e
 have v: ∀g,isG x.1 g=true→ ∀P∈ownL x.1 g,0≤P:=fun g a P f=>((i.own1 _ (QcX i a)).2.2 P f).1
 by_cases t:A (turnG x)
 ·have ht:=h.hx.turn.2.2.1
  have am:Like (pgM x.1 (turnG x)) (pgM x.1 (turnG x)) (QT x) (QT y):=by
   unfold QT;rw [p, ←h.pol, ←h.hart _ ht t];exact Qld (s:=Mc.of (x.2.2.1.getD (turnG x).toNat QO) x.2.1) (h.sim t)
  obtain ⟨k1,k2⟩:=am;have eh:(QT y).hart=(QT x).hart:=by rw [k1]; rfl
  have er:(QT y).ring=(QT x).ring:=by rw [k1]
  have r:Qcn y=Qcn x:=by unfold Qcn; rw [p,er,h.pol]
  have hh: ∀g,isG x.1 g=true→A g→(QS x).getD g.toNat QO=(QS y).getD g.toNat QO:=fun g a d=>by
   by_cases e:turnG x=g
   ·subst e;rw [QoR h.hx, ←p,QoR h.hy,eh]
   ·rw [QhQ h.hx a e,QhQ h.hy (by rw [←h.pol]; exact a) (by rw [p]; exact e)]
    exact h.hart g a d
  refine ⟨h.hx.next hc,h.hy.next aa,h.pol,congrArg (·.1) m,congrArg (·.2) m,congrArg (· +1) h.clock,h.shut,fun g a d=>?_,fun g a d P f=>?_,fun l j w=>?_⟩
  ·have a:isG x.1 g=true:=a;show (if Qcn x=true then Qbq (QT x).ring (QS x) else QS x).getD g.toNat QO=(if Qcn y=true then Qbq (QT y).ring (QS y) else QS y).getD g.toNat QO
   rw [r,er];by_cases c:Qcn x=true
   ·rw [if_pos c,if_pos c];unfold Qbq;by_cases e:(QT x).ring.toNat=g.toNat
    ·have ax:=(h.hx.guest a).1;have au:=(h.hy.guest (g:=g) (by rw [←h.pol]; exact a)).1
     rw [e,Qei (by rw [Qcb]; omega),Qei (by rw [Qcb]; omega),hh g a d]
    ·rw [Qdy e,Qdy e,hh g a d]
   ·rw [if_neg c,if_neg c,hh g a d]
  ·have a:isG x.1 g=true:=a;have f:P∈ownL x.1 g:=f;by_cases e:turnG x=g
   ·subst e;obtain ⟨k,u,ek⟩:=List.mem_iff_getElem.1 f;have p0:=h.hx.ownP a u;have h5:=(Qdm i a).2;have q:=k2.same k (by omega) (by rw [QkH i a u]; exact p0)
    rw [QkH i a u] at q;dsimp only at q;rw [gget u,ek] at q;exact q
   ·exact n g a e P (v g a P f) (.inl f) (h.own g a d P f)
  ·have j:l∈x.1.2.1:=j;have b:=QbI i l j;by_cases e:turnG x=l.1
   ·have q:=k2.same l.2.2.2.1.toNat (by have:=b.2.2.1; omega) (by rw [QgA i ht j e.symm]; exact b.2.1.1)
    rw [QgA i ht j e.symm] at q;exact q
   ·exact n l.1 b.1.1 e _ b.2.1.1 (.inr ⟨l,j,rfl,rfl⟩) (h.gives l j w)
 ·have ring: ∀z:Qo,HK z→z.1=x.1→turnG z=turnG x→ ∀g,A g→isG x.1 g=true→Qcn z=true→(QT z).ring.toNat≠g.toNat:=fun z hz ez et g d a hr e=>by
   have u:=Qbn.1 (QjI hz hr);have ab:=Qbn.1 a;have e:(QT z).ring=g:=by omega
   unfold Qcn at hr;obtain ⟨b,hb,r⟩:=List.any_eq_true.1 hr;unfold Qas at r;simp only [Bool.and_true,Bool.and_eq_true,beq_iff_eq] at r;rw [ez] at hb;have:=h.shut.bell b hb (by rw [←r.2,e]; exact d)
   rw [←r.1,et] at this;exact t this
  refine ⟨h.hx.next hc,h.hy.next aa,h.pol,congrArg (·.1) m,congrArg (·.2) m,congrArg (· +1) h.clock,h.shut,fun g a d=>?_,fun g a d P f=>?_,fun l j w=>?_⟩
  ·have a:isG x.1 g=true:=a;have o:turnG x≠g:=fun e=>t (e▸d)
   have ab:isG y.1 g=true:=by rw [←h.pol]; exact a
   rw [Qmq x g (ring x h.hx rfl rfl g d a),Qmq y g (ring y h.hy h.pol.symm p g d a),QhQ h.hx a o,QhQ h.hy ab (by rw [p]; exact o)]
   exact h.hart g a d
  ·have a:isG x.1 g=true:=a;have f:P∈ownL x.1 g:=f;exact n g a (fun e=>t (e▸d)) P (v g a P f) (.inl f) (h.own g a d P f)
  ·have j:l∈x.1.2.1:=j;have b:=QbI i l j;exact n l.1 b.1.1 (fun e=>t (e▸w)) _ b.2.1.1 (.inr ⟨l,j,rfl,rfl⟩) (h.gives l j w)
end
theorem QeL {α β:Type} {f:Nat→α→Option β}: ∀{m:List α} {i:Nat},(∀j x,x∈m→f j x=none)→scan f i m=none
 | [],_,_=>rfl
 | x::r,i,h=>by
  simp only [scan];rw [h i x (by simp)]
  exact QeL fun j y hy=>h j y (List.mem_cons_of_mem _ hy)
def imgH (own:List Int):Nat→List Int→List Int→List Int
 | _,[],m=>m
 | i,w::r,m=>imgH own (i+1) r (m.set (8*(own.getD (i / 8) 0).toNat+i % 8) (wd w))
def Qdi:List (List Int)→List (List Int)→List Int→List Int
 | own::ro,im::ri,m=>Qdi ro ri (imgH own 0 im m)
 | _,_,m=>m
theorem Qko (own:List Int): ∀(im:List Int) (i:Nat) (m:List Int),(imgH own i im m).length=m.length
 | [],_,_=>rfl
 | w::r,i,m=>by rw [imgH,Qko own r]; simp
theorem QiF: ∀(L I:List (List Int)) (m:List Int),(Qdi L I m).length=m.length
 | [],_,_=>by simp [Qdi]
 | _::_,[],_=>by simp [Qdi]
 | own::ro,im::ri,m=>by rw [Qdi,QiF ro ri,Qko]
theorem QtM {m:List Int} {i:Nat} {w:Int} (h: ∀x∈m,WW x) (hw:WW w): ∀x∈m.set i w,WW x:=fun x a=>by
 rcases List.mem_or_eq_of_mem_set a with a | rfl
 ·exact h x a
 ·exact hw
theorem Qkp (own:List Int): ∀(im:List Int) (i:Nat) (m:List Int),(∀x∈m,WW x)→ ∀x∈imgH own i im m,WW x
 | [],_,_,h=>h
 | w::r,i,m,h=>Qkp own r (i+1) _ (QtM h (Qaj w))
theorem Qjn: ∀(L I:List (List Int)) (m:List Int),(∀x∈m,WW x)→ ∀x∈Qdi L I m,WW x
 | [],_,_,h=>by simpa [Qdi] using h
 | _::_,[],_,h=>by simpa [Qdi] using h
 | own::ro,im::ri,m,h=>Qjn ro ri _ (Qkp own im 0 m h)
def Qjc (q:List Int):QM:=(List.replicate 16 0,0,List.replicate 11 0,false,false,false,0,q,[],())
def Quw (p:PolD) (I J:List (List Int)):Qo:=(p,Qdi p.1 I (List.replicate 192 0),J.map Qjc,0,(p.2.2.2.1.getD 0 (0,0,())).2.1,0,())
theorem QuK {q:List Int} (h:OkQ q):hartM (Qjc q)=0:=by
 unfold hartM Qjc;dsimp only;rw [if_pos ⟨by simp,by simp,by simp⟩,if_pos ⟨by decide,by decide,by decide,Qau.2 h.words,by decide⟩,if_pos ⟨h.len,by simp⟩,if_pos (by decide),if_pos (by decide)]
theorem Qnj {p:PolD} (hok:OkPol p):QaF p 0=(0,(p.2.2.2.1.getD 0 (0,0,())).2.1):=by
 unfold QaF;dsimp only;rw [Int.zero_emod,QpY (QeM hok) hok.plan.1];rfl
theorem QmL (n:Nat): ∀x∈List.replicate n (0:Int),WW x:=fun x a=>by
 rw [(List.mem_replicate.1 a).2]; unfold WW; omega
theorem Qux {p:PolD} {I J:List (List Int)} (hp:polM p=0) (hj:J.length=p.1.length) (hq: ∀q∈J,OkQ q):HK (Quw p I J):=by
 have a:=QdQ hp;refine ⟨hp,⟨?_,?_⟩,?_,fun h b=>?_,by show (0:Int)≤0∧(0:Int)≤1000000; omega,?_,?_⟩
 ·show QF (Qdi p.1 I (List.replicate 192 0))=0;unfold QF;rw [QiF,if_pos (by simp),if_pos (Qau.2 (Qjn _ _ _ (QmL _)))]
 ·show (Qdi p.1 I (List.replicate 192 0)).length=192;rw [QiF]; simp
 ·show (J.map Qjc).length=p.1.length;rw [List.length_map]; exact hj
 ·obtain ⟨q,c,rfl⟩:=List.mem_map.1 (show h∈J.map Qjc from b)
  exact QuK (hq q c)
 ·show (0:Int)=(QaF p 0).1;rw [Qnj a]
 ·show (p.2.2.2.1.getD 0 (0,0,())).2.1=(QaF p 0).2;rw [Qnj a]
theorem Qos {p:PolD} {g:Int} (hok:OkPol p) (hg:isG p g=true):QaG (QaM (pgM p g)) 8=0:=by
 have f:=Qbi p g;unfold QaG;rw [if_pos (by decide),if_pos (by rw [QbE]; exact f),QeL]
 intro _ q j;obtain ⟨k,b,rfl⟩:=List.mem_iff_getElem.1 j;rw [QbE,f] at b;have h:(QaM (pgM p g))[k]=pgAt (QaM (pgM p g)) k:=(gget (by rw [QbE,f]; exact b)).symm
 have i:=QiK hok hg _ (Qvv p g b);rw [h,QhI f b];unfold Qfs;by_cases a:0≤(pgAt (pgM p g) k).1
 ·rw [if_pos a];dsimp only;rw [if_pos (QbA.2 (by omega)),if_pos (QbA.2 i.2),if_neg (by omega)]
 ·rw [if_neg a]
  have e:pgAt (pgM p g) k=(-1,0,()):=by
   rcases Qfg (g:=g) (k:=k) p.2.1 (QbK 0 (ownL p g) QaV) (own8 p g) (QbW hok) with e | ⟨x,hx,_,_,e⟩ | ⟨x,hx,_,_,e⟩
   ·have e:pgAt (pgM p g) k=pgAt (QbK 0 (ownL p g) QaV) k:=e;have m:=(Qdm hok hg).2;rw [QhZ _ _ _ _ (by show 0+(ownL p g).length≤8; omega)] at e
    by_cases c:0≤k∧k< 0+(ownL p g).length
    ·rw [if_pos c] at e;rw [e] at a;exact absurd ((hok.own1 _ (QcX hok hg)).2.2 _ (QaH (l:=ownL p g) (k:=k-0) (d:=0) (by omega))).1 a
    ·rw [if_neg c,QrL] at e;exact e
   ·have e:pgAt (pgM p g) k=(x.2.2.1,3,()):=e;rw [e] at a;exact absurd (QbI hok x hx).2.1.1 a
   ·have e:pgAt (pgM p g) k=(x.2.2.1,1,()):=e;rw [e] at a;exact absurd (QbI hok x hx).2.1.1 a
  rw [e];decide
theorem bdLt {n x:Int} (h:Bd n x) (hn:1≤n):0≤x∧x< n:=by unfold Bd at h; omega
structure OwnI (L:List (List Int)) (page:Int):Prop where
 one: ∀l∈L,1≤l.length∧l.length≤3
 up:L.flatten.Pairwise (· < ·)
 bd: ∀x∈L.flatten,0≤x∧x< page
 top:0≤page∧page≤2+3*(L.length:Int)
theorem OwnI.snoc {L:List (List Int)} {page:Int} (h:OwnI L page) {own:List Int} {K:Nat} (hK:1≤K∧K≤3) (hl:own.length=K) (hu:own.Pairwise (· < ·)) (hb: ∀x∈own,page≤x∧x< page+(K:Int)):OwnI (L++[own]) (page+(K:Int)):=by
 have i:=h.top;have e:(L++[own]).flatten=L.flatten++own:=by simp
 refine ⟨fun l d=>?_,?_,fun x c=>?_,?_⟩
 ·rcases List.mem_append.1 d with d | d
  ·exact h.one l d
  ·rw [List.mem_singleton.1 d]; omega
 ·rw [e,List.pairwise_append];exact ⟨h.up,hu,fun a g b f=>by have:=(h.bd a g).2; have:=(hb b f).1; omega⟩
 ·rw [e] at c;rcases List.mem_append.1 c with c | c
  ·have:=h.bd x c; omega
  ·have:=hb x c; omega
 ·rw [List.length_append,List.length_singleton]; omega
theorem Qmf: ∀{l seen:List Int},l.Nodup→(∀x∈l,x∉seen)→dupM seen l=false
 | [],_,_,_=>rfl
 | x::r,seen,h,hs=>by
  rw [List.nodup_cons] at h;simp only [dupM,Bool.or_eq_false_iff];refine ⟨by simpa using hs x (by simp),Qmf h.2 fun y hy hm=>?_⟩
  rcases List.mem_append.1 hm with hm | hm
  ·exact hs y (List.mem_cons_of_mem _ hy) hm
  ·rw [List.mem_singleton.1 hm] at hy; exact h.1 hy
theorem OwnI.owns {L:List (List Int)} {page:Int} (h:OwnI L page) (hl:1≤L.length∧L.length≤3):Qen L=0:=by
 have c:=h.top
 have e:scan (fun (_:Nat) l=>Go.Proofs.YtkkljegcnnfanaaGreatDoor.own1 l) 0 L=none:=QeL fun _ l a=>by
  have:=h.one l a;unfold Go.Proofs.YtkkljegcnnfanaaGreatDoor.own1;rw [if_pos (by omega)]
  refine QeL fun _ x b=>?_
  have:=h.bd x (List.mem_flatten.2 ⟨l,a,b⟩);rw [if_pos (QbA.2 (by omega))]
 unfold Qen;rw [if_pos hl,e,Qmf (h.up.imp fun h=>Int.ne_of_lt h) (by simp)]
 rfl
theorem QxD {X p:PolD} {s:SrcD} {page g:Int} (K:Nat) (hp:0≤page∧page≤1000) (hK:K≤10):
  Dr (L_m_8 (((),((),((),(page,(g,(([]:List Int),((K:Int),()))))))),((X,(p,(s,()))),()))) fun o=> ∃own:List Int,o= .inl (((),((),((),(page+(K:Int),(g,(own,())))))),((X,(p,(s,()))),()))∧own.length=K∧own.Pairwise (· < ·)∧ ∀x∈own,page≤x∧x< page+(K:Int):=by
 refine Qab (fun m u=> ∃own:List Int,u=(((),((),((),(page+(own.length:Int),(g,(own,((m:Int),()))))))),((X,(p,(s,()))),()))∧own.length+m=K∧own.Pairwise (· < ·)∧ ∀x∈own,page≤x∧x< page+(own.length:Int)) ?_ K _ ⟨[],by simp,by simp,by simp,by simp⟩ (by rw [QE]; omega)
 rintro rec m _ ⟨own,rfl,hm,hu,hb⟩ ih;unfold l_m_8;dsimp only;by_cases c:0< m
 ·rw [if_pos (by rw [QB]; omega)]
  refine Dr.guard (by simp; omega) ?_
  rw [Qj (by omega) (by omega),Qj (by omega) (by omega)]
  refine ih (m-1) _ (by omega) ⟨own++[page+(own.length:Int)],?_,by simp; omega,?_,fun x d=>?_⟩
  ·rw [List.length_append,List.length_singleton,show page+(own.length:Int)+1=page+((own.length+1:Nat):Int) by omega,show ((m:Int)-1)=((m-1:Nat):Int) by omega]
  ·rw [List.pairwise_append];exact ⟨hu,by simp,fun a f b e=>by rw [List.mem_singleton.1 e]; exact (hb a f).2⟩
  ·rw [List.length_append,List.length_singleton];rcases List.mem_append.1 d with d | d
   ·have:=hb x d; omega
   ·rw [List.mem_singleton.1 d]; omega
 ·obtain rfl:m=0:=by omega
  rw [if_neg (by rw [QB]; omega)]
  have:own.length=K:=by omega
  subst this;exact Dr.ret ⟨own,rfl,rfl,hu,hb⟩
theorem QxC {X:PolD} {s:SrcD} {k page:Int} (G:Nat) (hG:1≤G∧G≤3) (hp:0≤page∧page≤2) (hs:Sr s k) (hk:k≤1000000):
  Dr (L_m_4 (((),((),((),(page,((G:Int),()))))),((X,((([]:List (List Int)),(([]:List QJ),(([]:List TwoD),(([]:List TwoD),())))),(s,()))),()))) fun o=> ∃(L:List (List Int)) (page':Int) (s':SrcD),
   o= .inl (((),((),((),(page',())))),((X,((L,(([]:List QJ),(([]:List TwoD),(([]:List TwoD),())))),(s',()))),()))∧Sr s' (k+3)∧L.length=G∧OwnI L page':=by
 have j:=hs.pos
 refine Qab (fun m u=> ∃(L:List (List Int)) (page':Int) (s':SrcD),u=(((),((),((),(page',((m:Int),()))))),((X,((L,(([]:List QJ),(([]:List TwoD),(([]:List TwoD),())))),(s',()))),()))∧Sr s' (k+(G:Int)-(m:Int))∧L.length+m=G∧OwnI L page') ?_ G _
  ⟨[],page,s,rfl,hs.le (by omega),by simp,⟨by simp,by simp,by simp,by simp; omega⟩⟩ (by rw [QE]; omega)
 rintro rec m _ ⟨L,pa,s',rfl,hs',hl,hI⟩ ih;unfold l_m_4;dsimp only;have l:=hI.top;by_cases c:0< m
 ·rw [if_pos (by rw [QB]; omega)]
  refine (QY hs' (by omega) _).bind fun a b=>?_
  have n:=bdLt b.2 (by omega)
  have e:IntKind.i64.wrap (1+(a.1.1:Int))=((a.1.1.toNat+1:Nat):Int):=by rw [Qj (by omega) (by omega)]; omega
  rw [e];refine (QxD (a.1.1.toNat+1) (by omega) (by omega)).bind fun z i=>?_
  obtain ⟨f,rfl,g,h,d⟩:=i;dsimp only;refine Dr.guard (by simp; omega) ?_
  rw [Qj (by omega) (by omega)]
  refine ih (m-1) _ (by omega) ⟨L++[f],pa+((a.1.1.toNat+1:Nat):Int),a.2.1,?_,b.1.le (by omega),by simp; omega,hI.snoc (by omega) g h d⟩
  rw [show ((m:Int)-1)=((m-1:Nat):Int) by omega]
 ·obtain rfl:m=0:=by omega
  rw [if_neg (by rw [QB]; omega)]
  exact Dr.ret ⟨L,pa,s',rfl,hs'.le (by omega),by omega,hI⟩
theorem QwA {X:PolD} {L:List (List Int)} {s:SrcD} {k page:Int} (hL:Qen L=0) (hl:1≤L.length∧L.length≤3) (hl2: ∀l∈L,l.length≤1048576) (hp:0≤page∧page≤100) (K:Nat) (hK:K≤3) (hs:Sr s k) (hk:k≤1000000):
  Dr (L_m_15 (((),((),((),(page,(((L.length:Nat):Int),((K:Int),())))))),((X,((L,(([]:List QJ),(([]:List TwoD),(([]:List TwoD),())))),(s,()))),()))) fun o=> ∃(ls:List QJ) (s':SrcD),
   o= .inl (((),((),((),(((L.length:Nat):Int),())))),((X,((L,(ls,(([]:List TwoD),(([]:List TwoD),())))),(s',()))),()))∧Sr s' (k+12)∧ls.length≤3∧Qcd (L,ls,[],[],())=none:=by
 have t:=hs.pos
 refine Qab (fun m u=> ∃(ls:List QJ) (pa:Int) (s':SrcD),u=(((),((),((),(pa,(((L.length:Nat):Int),((m:Int),())))))),((X,((L,(ls,(([]:List TwoD),(([]:List TwoD),())))),(s',()))),()))∧Sr s' (k+4*(3-(m:Int)))∧ls.length+m≤3∧(0≤pa∧pa+(m:Int)≤103)∧Qcd (L,ls,[],[],())=none) ?_ K _
  ⟨[],page,s,rfl,hs.le (by omega),by simp; omega,by omega,rfl⟩ (by rw [QE]; omega)
 rintro rec m _ ⟨ls,pa,s',rfl,hs',hm,hpa,hI⟩ ih;unfold l_m_15;dsimp only;by_cases c:0< m
 ·rw [if_pos (by rw [QB]; omega)]
  refine Dr.guard (by simp; omega) ?_
  refine (QY hs' (by omega) _).bind fun j f=>(QY f.1 (by omega) _).bind fun p g=>(QY g.1 (by omega) _).bind fun q h=>(QY h.1 (by omega) _).bind fun a d=>?_
  have e:((m:Int)-1)=((m-1:Nat):Int):=by omega
  dsimp only [List.nil_append];refine Dr.guard (by simp; omega) ?_
  rw [Qj (n:=pa+1) (by omega) (by omega),Qj (n:=(m:Int)-1) (by omega) (by omega)]
  generalize w:((j.1.1,(p.1.1,(pa,(IntKind.i64.wrap (5+q.1.1),(IntKind.i64.wrap (5+a.1.1),()))))):QJ)=x;have r:(ls++[x]).length=ls.length+1:=by simp
  have skip:Dr (rec (((),((),((),(pa,(((L.length:Nat):Int),((m:Int)-1,())))))),((X,((L,(ls,(([]:List TwoD),(([]:List TwoD),())))),(a.2.1,()))),()))) fun o=> ∃(ls:List QJ) (s':SrcD),
    o= .inl (((),((),((),(((L.length:Nat):Int),())))),((X,((L,(ls,(([]:List TwoD),(([]:List TwoD),())))),(s',()))),()))∧Sr s' (k+12)∧ls.length≤3∧Qcd (L,ls,[],[],())=none:=
   ih (m-1) _ (by omega) ⟨ls,pa,a.2.1,by rw [e],d.1.le (by omega),by omega,by omega,hI⟩
  refine Dr.step (Qjv (L,ls++[x],[],[],()) (by dsimp only; omega) hl2) (Dr.ite (fun _=>?_) fun _=>skip)
  refine Dr.step (Qil (L,ls++[x],[],[],()) (by dsimp only; omega) hl2 (by dsimp only; omega)) (Dr.ite (fun b=>?_) fun _=>skip)
  refine ih (m-1) _ (by omega) ⟨ls++[x],pa+1,a.2.1,by rw [e],d.1.le (by omega),by omega,by omega,?_⟩
  dsimp only at b;rw [if_pos (by simp; omega)] at b
  cases i:Qcd (L,ls++[x],[],[],()) with
  | none=>rfl
  | some v=>
   rw [i] at b;exact absurd (by simpa using b) (QiE i)
 ·obtain rfl:m=0:=by omega
  rw [if_neg (by rw [QB]; omega)]
  exact Dr.ret ⟨ls,s',rfl,hs'.le (by omega),by omega,hI⟩
theorem QwB {X:PolD} {L:List (List Int)} {ls:List QJ} {s:SrcD} {k:Int} (hl:1≤L.length∧L.length≤3) (K:Nat) (hK:K≤3) (hs:Sr s k) (hk:k≤1000000):
  Dr (L_m_23 (((),((),((),(((L.length:Nat):Int),((K:Int),()))))),((X,((L,(ls,(([]:List TwoD),(([]:List TwoD),())))),(s,()))),()))) fun o=> ∃(bs:List TwoD) (s':SrcD),
   o= .inl (((),((),((),(((L.length:Nat):Int),())))),((X,((L,(ls,(bs,(([]:List TwoD),())))),(s',()))),()))∧Sr s' (k+6)∧bs.length≤1∧ ∀b∈bs,(0≤b.1∧b.1< (L.length:Int))∧(0≤b.2.1∧b.2.1< (L.length:Int))∧b.1≠b.2.1:=by
 have v:=hs.pos
 refine Qab (fun m u=> ∃(bs:List TwoD) (s':SrcD),u=(((),((),((),(((L.length:Nat):Int),((m:Int),()))))),((X,((L,(ls,(bs,(([]:List TwoD),())))),(s',()))),()))∧Sr s' (k+2*(3-(m:Int)))∧m≤3∧bs.length≤1∧ ∀b∈bs,(0≤b.1∧b.1< (L.length:Int))∧(0≤b.2.1∧b.2.1< (L.length:Int))∧b.1≠b.2.1) ?_ K _
  ⟨[],s,rfl,hs.le (by omega),hK,by simp,by simp⟩ (by rw [QE]; omega)
 rintro rec m _ ⟨bs,s',rfl,hs',hm,hb1,hI⟩ ih;unfold l_m_23;dsimp only;by_cases c:0< m
 ·rw [if_pos (by rw [QB]; omega)]
  refine (QY hs' (by omega) _).bind fun j e=>(QY e.1 (by omega) _).bind fun a d=>?_
  have g:((m:Int)-1)=((m-1:Nat):Int):=by omega
  have l:=bdLt e.2 (by omega)
  have p:=bdLt d.2 (by omega)
  rw [Qj (n:=(m:Int)-1) (by omega) (by omega)]
  have skip: ∀{Q},(∀x,(∃(bs:List TwoD) (s':SrcD),x=(((),((),((),(((L.length:Nat):Int),(((m-1:Nat):Int),()))))),((X,((L,(ls,(bs,(([]:List TwoD),())))),(s',()))),()))∧Sr s' (k+2*(3-((m-1:Nat):Int)))∧m-1≤3∧bs.length≤1∧ ∀b∈bs,(0≤b.1∧b.1< (L.length:Int))∧(0≤b.2.1∧b.2.1< (L.length:Int))∧b.1≠b.2.1)→Dr (rec x) Q)→Dr (rec (((),((),((),(((L.length:Nat):Int),((m:Int)-1,()))))),((X,((L,(ls,(bs,(([]:List TwoD),())))),(a.2.1,()))),()))) Q:=fun h=>
   h _ ⟨bs,a.2.1,by rw [g],d.1.le (by omega),by omega,hb1,hI⟩
  refine Dr.ite (fun i=>Dr.ite (fun r=>Dr.guard (by simp; omega) ?_) fun _=>skip fun x f=>ih (m-1) x (by omega) f) fun _=>skip fun x f=>ih (m-1) x (by omega) f
  rw [QB] at r;have q:bs=[]:=List.eq_nil_of_length_eq_zero (by omega)
  subst q;refine ih (m-1) _ (by omega) ⟨[(j.1.1,(a.1.1,()))],a.2.1,by rw [g]; rfl,d.1.le (by omega),by omega,by simp,fun b t=>?_⟩
  rw [List.mem_singleton.1 t];exact ⟨l,p,by simpa using i⟩
 ·obtain rfl:m=0:=by omega
  rw [if_neg (by rw [QB]; omega)]
  exact Dr.ret ⟨bs,s',rfl,hs'.le (by omega),hb1,hI⟩
theorem QwC {X:PolD} {L:List (List Int)} {ls:List QJ} {bs:List TwoD} {s:SrcD} {k:Int} (hl:1≤L.length∧L.length≤3) (K:Nat) (hK:K≤4) (hs:Sr s k) (hk:k≤1000000):
  Dr (L_m_29 (((),((),((),(((L.length:Nat):Int),((K:Int),()))))),((X,((L,(ls,(bs,(([]:List TwoD),())))),(s,()))),()))) fun o=> ∃(pl:List TwoD) (s':SrcD),
   o= .inl (((),((),())),((X,((L,(ls,(bs,(pl,())))),(s',()))),()))∧Sr s' (k+8)∧pl.length=K∧ ∀b∈pl,(0≤b.1∧b.1< (L.length:Int))∧1≤b.2.1∧b.2.1≤9:=by
 have j:=hs.pos
 refine Qab (fun m u=> ∃(pl:List TwoD) (s':SrcD),u=(((),((),((),(((L.length:Nat):Int),((m:Int),()))))),((X,((L,(ls,(bs,(pl,())))),(s',()))),()))∧Sr s' (k+2*(4-(m:Int)))∧pl.length+m=K∧ ∀b∈pl,(0≤b.1∧b.1< (L.length:Int))∧1≤b.2.1∧b.2.1≤9) ?_ K _
  ⟨[],s,rfl,hs.le (by omega),by simp,by simp⟩ (by rw [QE]; omega)
 rintro rec m _ ⟨pl,s',rfl,hs',hm,hI⟩ ih;unfold l_m_29;dsimp only;by_cases c:0< m
 ·rw [if_pos (by rw [QB]; omega)]
  refine (QY hs' (by omega) _).bind fun g e=>(QY e.1 (by omega) _).bind fun d f=>?_
  have i:((m:Int)-1)=((m-1:Nat):Int):=by omega
  have h:=bdLt e.2 (by omega)
  have l:=bdLt f.2 (by omega)
  rw [Qj (n:=(m:Int)-1) (by omega) (by omega),Qj (n:=1+(d.1.1:Int)) (by omega) (by omega)]
  refine Dr.guard (by simp; omega) ?_
  refine ih (m-1) _ (by omega) ⟨pl++[(g.1.1,(1+(d.1.1:Int),()))],d.2.1,by rw [i],f.1.le (by omega),by simp; omega,fun b a=>?_⟩
  rcases List.mem_append.1 a with a | a
  ·exact hI b a
  ·rw [List.mem_singleton.1 a]; exact ⟨h,by dsimp only; omega,by dsimp only; omega⟩
 ·obtain rfl:m=0:=by omega
  rw [if_neg (by rw [QB]; omega)]
  exact Dr.ret ⟨pl,s',rfl,hs'.le (by omega),by omega,hI⟩
theorem QtJ {L:List (List Int)} {ls:List QJ} {bs pl:List TwoD} (h1:Qen L=0) (h2:ls.length≤3) (h3:Qcd (L,ls,[],[],())=none) (h4:bs.length≤1)
  (h5: ∀b∈bs,(0≤b.1∧b.1< (L.length:Int))∧(0≤b.2.1∧b.2.1< (L.length:Int))∧b.1≠b.2.1) (h6:1≤pl.length∧pl.length≤4) (h7: ∀b∈pl,(0≤b.1∧b.1< (L.length:Int))∧1≤b.2.1∧b.2.1≤9):polM (L,ls,bs,pl,())=0:=by
 have a:Qcd (L,ls,bs,pl,())=none:=h3
 have c:Qep (L,ls,bs,pl,())=none:=by
  unfold Qep
  match bs,h4,h5 with
  | [],_,_=>rfl
  | [b],_,h5=>
   have:=h5 b (by simp)
   simp only [scan];unfold Qfz Qdd;rw [if_pos (Qbn.2 this.1),if_pos (Qbn.2 this.2.1),if_neg this.2.2];rfl
 have d:Qjp (L,ls,bs,pl,())=0:=by
  unfold Qjp;rw [if_pos (by dsimp only; omega),QeL]
  intro _ b e;have:=h7 b e;rw [if_pos (Qbn.2 this.1),if_pos (QbA.2 (by omega))]
 unfold polM;rw [if_neg (by simpa using h1),if_pos (by dsimp only; omega),a]
 dsimp only;rw [c];exact d
theorem Qus {n x:Int} (h:Bd n x): ∃K:Nat,x=(K:Int)∧((K:Int)< n∨K=0):=⟨x.toNat,by unfold Bd at h; omega,by unfold Bd at h; omega⟩
theorem Qku {s:SrcD} {k:Int} (hs:Sr s k) (hk:k≤900000):Dr (F_m (s,())) fun r=>Sr r.2.1 (k+100)∧polM r.1.1=0:=by
 have am:=hs.pos;unfold F_m;refine (QY hs (by omega) _).bind fun r1 h=>(QbS h.1 (by omega) _ _).bind fun r2 i=>?_
 have b1:=bdLt h.2 (by omega)
 obtain ⟨G,eG,hG⟩: ∃G:Nat,(r2.1.1:Int)=(G:Int)∧1≤G∧G≤3:=by
  have aa: ∀v:Int,v∈[(2:Int),3,3,1]→ ∃G:Nat,v=(G:Int)∧1≤G∧G≤3:=fun v hv=>by
   simp only [List.mem_cons,List.not_mem_nil,or_false] at hv;exact ⟨v.toNat,by omega,by omega⟩
  exact aa _ i.2
 rw [eG];refine (QxC G hG (by omega) i.1 (by omega)).bind fun z a=>?_
 obtain ⟨L,ak,s1,rfl,u,hl,g⟩:=a;dsimp only;have b:1≤L.length∧L.length≤3:=by omega
 have j:=g.owns b;have hp:=g.top;have o: ∀l∈L,l.length≤1048576:=fun l hm=>by have:=g.one l hm; omega
 refine (QY u (by omega) _).bind fun ap c=>?_
 obtain ⟨K1,e1,c1⟩:=Qus c.2;rw [e1];refine (QwA j b o (by omega) K1 (by omega) c.1 (by omega)).bind fun z a=>?_
 obtain ⟨ls,s2,rfl,w,q,p⟩:=a;dsimp only;refine (QY w (by omega) _).bind fun aq d=>?_
 obtain ⟨K2,e2,c2⟩:=Qus d.2;rw [e2];refine (QwB b K2 (by omega) d.1 (by omega)).bind fun z a=>?_
 obtain ⟨bs,s3,rfl,x,n,m⟩:=a;dsimp only;refine (QY x (by omega) _).bind fun ar e=>?_
 obtain ⟨f,e3,c3⟩:=Qus e.2;rw [e3,Qj (by omega) (by omega),show (1:Int)+(f:Int)=((f+1:Nat):Int) by omega]
 refine (QwC b (f+1) (by omega) e.1 (by omega)).bind fun z a=>?_
 obtain ⟨pl,s4,rfl,y,ao,t⟩:=a;exact Dr.ret ⟨y.le (by omega),QtJ j q p n m (by omega) t⟩
def Fit (p:PolD) (I:List (List Int)):Prop:=I.length=p.1.length∧ ∀j (h1:j< p.1.length) (h2:j< I.length),I[j].length≤8*p.1[j].length
theorem Qtf {p:PolD} {s:SrcD} {k:Int} (hok:OkPol p) (hs:Sr s k) (hk:k≤1000000):Dr (F_v (s,p,())) fun r=>Sr r.2.1 (k+4000)∧Fit p r.1.1:=by
 have y:=hs.pos;have h3:=hok.own;unfold F_v
 have t:Dr (L_v_3 (((),((),(([]:List (List Int)),((0:Int),())))),(((p.1,(p.2.1,(p.2.2.1,(p.2.2.2.1,())))),(s,())),()))) fun o=> ∃(I:List (List Int)) (a:SrcD),o= .inl ((I,()),((a,()),()))∧Sr a (k+4000)∧Fit p I:=by
  refine Qab (fun m u=> ∃(I:List (List Int)) (a:SrcD),u=(((),((),(I,(((I.length:Nat):Int),())))),((p,(a,())),()))∧Sr a (k+1100*(I.length:Int))∧I.length+m=p.1.length∧ ∀j (i:j< p.1.length) (d:j< I.length),I[j].length≤8*p.1[j].length) ?_ p.1.length _
   ⟨[],s,rfl,hs.le (by simp),by simp,fun j _ d=>by simp at d⟩ (by rw [QE]; omega)
  rintro rec m _ ⟨I,a,rfl,b,hm,e⟩ ih;unfold l_v_3;dsimp only;by_cases c:I.length< p.1.length
  ·have q:p.1[I.length]∈p.1:=List.getElem_mem c;have h5:=hok.own1 _ q;rw [if_pos (lt_t c),if_pos nat0,Ql c];rw [Qj (n:=(((p.1[I.length]).length:Nat):Int)*8) (by omega) (by omega),Qj (n:=(((p.1[I.length]).length:Nat):Int)*8+1) (by omega) (by omega)]
   refine (QY b (by omega) _).bind fun x l=>?_
   have v:=bdLt l.2 (by omega)
   refine (Qwj l.1 (by omega) x.1.1 v.1 (by omega)).bind fun g f=>?_
   refine Dr.guard (by simp; omega) ?_
   rw [QH (by omega)]
   refine ih (m-1) _ (by omega) ⟨I++[g.1.1],g.2.1,by simp,f.1.le (by simp; omega),by simp; omega,fun j i d=>?_⟩
   by_cases h:j< I.length
   ·rw [List.getElem_append_left h]; exact e j i h
   ·have:j=I.length:=by simp at d; omega
    subst this;rw [List.getElem_concat_length (by rfl)]
    have:=f.2;omega
  ·rw [if_neg (lt_f c)];exact Dr.ret ⟨I,a,rfl,b.le (by omega),by omega,e⟩
 refine t.bind fun z w=>?_
 obtain ⟨I,a,rfl,b,e⟩:=w;exact Dr.ret ⟨b,e⟩
def FitQ (p:PolD) (J:List (List Int)):Prop:=J.length=p.1.length∧ ∀q∈J,OkQ q
end Go.Proofs.YtkkljegcnnfanaaGreatDoor
