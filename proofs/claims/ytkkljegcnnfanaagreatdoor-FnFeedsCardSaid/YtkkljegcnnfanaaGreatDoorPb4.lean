/- Plain laws: what the functions compute, and that both programs compute the same. -/
import Derived.Test.YtkkljegcnnfanaaGreatDoorPb3
set_option linter.unusedVariables false
set_option linter.unusedSimpArgs false
namespace Go.Proofs.YtkkljegcnnfanaaGreatDoor
open Go Go.RowKit S Go.Proofs
set_option maxRecDepth 100000
theorem QsF {p:PolD} (hok:OkPol p) {g t:Int} (hg:isG p g=true) (ht:isG p t=true) (hne:t≠g) {x:Int} (h1:x∈ownL p g) (h2:x∈ownL p t):False:=by
 have a:=QaP.1 hg;have b:=QaP.1 ht;have hp:=List.pairwise_iff_getElem.1 (QlP hok).2;rw [ownL,gget (by omega)] at h1 h2
 rcases Nat.lt_or_gt_of_ne (show g.toNat≠t.toNat by omega) with c | c
 ·exact hp g.toNat t.toNat (by omega) (by omega) c x h1 x h2 rfl
 ·exact hp t.toNat g.toNat (by omega) (by omega) c x h2 x h1 rfl
theorem QlE {p:PolD} (hok:OkPol p) {j:Nat} (hj:j< p.2.1.length):Qek p p.2.1[j] (p.2.1.take j)=0:=by
 have e:=hok.lanes.2;unfold QbS at e;have:=QmX (Qgk e j hj);rw [Nat.zero_add] at this;exact this
theorem Qhu {p:PolD} (hok:OkPol p):p.2.1.Pairwise fun o l=>clash l o=false:=by
 rw [List.pairwise_iff_getElem];intro i j hi hj hij;have e:=QlE hok hj;unfold Qek at e;split at e
 ·rename_i h; exact absurd e h
 split at e
 ·split at e
  ·cases e
  ·split at e
   ·cases e
   ·rename_i h;have h:(p.2.1.take j).any (clash p.2.1[j])=false:=by simpa using h
    rw [List.any_eq_false] at h
    have:=h p.2.1[i] (by
     rw [←List.getElem_take (j:=j) (h:=by rw [List.length_take]; omega)]
     exact List.getElem_mem _)
    simpa using this
 ·cases e
theorem Qid {p:PolD} (hok:OkPol p) {x:QI} (hx:x∈p.2.1) {l:List Int} (hl:l∈p.1):x.2.2.1∉l:=by
 obtain ⟨j,hj,rfl⟩:=List.mem_iff_getElem.1 hx;have e:=QlE hok hj;unfold Qek at e;split at e
 ·rename_i h; exact absurd e h
 split at e
 ·split at e
  ·cases e
  ·rename_i h;intro hm;apply h;rw [Qal,decide_eq_true_eq];unfold QfG;cases hs:scan (fun i (l:List Int)=>if l.contains p.2.1[j].2.2.1=true then some ((i:Nat):Int) else none) 0 p.1 with
   | none=>
    obtain ⟨i,hi⟩:=Qbo hs l hl;rw [if_pos (by simpa using hm)] at hi
    cases hi
   | some k=>
    refine Qdh (P:=fun c:Int=>0≤c) (fun i hi c hc=>?_) _ hs
    split at hc
    ·obtain rfl:=Osj hc; omega
    ·cases hc
 ·cases e
theorem Qel {p:PolD} (hok:OkPol p) {x y:QI} (hx:x∈p.2.1) (hy:y∈p.2.1) (h:x.2.2.1=y.2.2.1):x=y:=by
 obtain ⟨i,hi,rfl⟩:=List.mem_iff_getElem.1 hx;obtain ⟨j,hj,rfl⟩:=List.mem_iff_getElem.1 hy;have hp:=List.pairwise_iff_getElem.1 (Qhu hok)
 have key: ∀{i j:Nat} (hi:i< p.2.1.length) (hj:j< p.2.1.length),i< j→p.2.1[i].2.2.1=p.2.1[j].2.2.1→False:=fun hi hj hij e=>by
  have:=hp _ _ hi hj hij;unfold clash at this;rw [e] at this;simp at this
 rcases Nat.lt_trichotomy i j with c | c | c
 ·exact (key hi hj c h).elim
 ·subst c; rfl
 ·exact (key hj hi c h.symm).elim
theorem QjW: ∀(r:List Int) (k:Nat) (l:List TwoD) (j:Nat),k+r.length≤l.length→pgAt (QbO k r l) j=if k≤j∧j< k+r.length then (r.getD (j-k) 0,7,()) else pgAt l j
 | [],k,l,j,_=>by rw [if_neg (by simp only [List.length_nil]; omega)]; rfl
 | p::r,k,l,j,h=>by
  simp only [List.length_cons] at h;rw [QbO,QjW r (k+1) _ j (by rw [List.length_set]; omega)]
  simp only [List.length_cons];by_cases e:j=k
  ·subst e;rw [if_neg (by omega),if_pos (by omega),Nat.sub_self]
   exact QdT (by omega)
  ·by_cases c:k+1≤j∧j< k+1+r.length
   ·rw [if_pos c,if_pos (by omega),show j-k=(j-(k+1))+1 by omega]; rfl
   ·rw [if_neg c,if_neg (by omega)]; exact QcG (Ne.symm e)
theorem Qvg (j:Nat):pgAt Qbs j=(-1,0,()):=by
 match j with
 | 0 | 1 | 2 | 3 | 4 | 5 | 6 | 7=>rfl
 | n+8=>rfl
theorem Qdv {x:QI} {g k:Int}:QbF x g k=true↔(x.1=g∧x.2.2.2.1=k)∨(x.2.1=g∧x.2.2.2.2.1=k):=by
 unfold QbF;simp
theorem Qvi {l o:QI}:clash l o=false↔o.2.2.1≠l.2.2.1∧ ¬(QbF o l.1 l.2.2.2.1=true)∧ ¬(QbF o l.2.1 l.2.2.2.2.1=true):=by
 unfold clash;simp [Bool.or_eq_false_iff]
theorem QhS {z x:QI} (h:clash z x=false) {g k:Int} (hx:QbF x g k=true):QbF z g k=false:=by
 obtain ⟨_,h1,h2⟩:=Qvi.1 h;rw [←Bool.not_eq_true];intro hz;rcases Qdv.1 hz with ⟨a,b⟩ | ⟨a,b⟩
 ·exact h1 (by rw [a,b]; exact hx)
 ·exact h2 (by rw [a,b]; exact hx)
def QeB (x:QI):Prop:=x.1≠x.2.1∧(5≤x.2.2.2.1∧x.2.2.2.1≤6)∧(5≤x.2.2.2.2.1∧x.2.2.2.2.1≤6)
theorem Qhs {g:Int} {x:QI} (hx:QeB x) {l:List TwoD} (hl:l.length=8) (k:Nat):pgAt (Qcn g x l) k=if x.1=g∧x.2.2.2.1=(k:Int) then (x.2.2.1,3,()) else if x.2.1=g∧x.2.2.2.2.1=(k:Int) then (x.2.2.1,1,()) else pgAt l k:=by
 obtain ⟨h0,h1,h2⟩:=hx;unfold Qcn;dsimp only;by_cases a:x.1=g
 ·have b: ¬x.2.1=g:=fun b=>h0 (a.trans b.symm)
  rw [if_neg b,if_pos a,if_neg (c:=x.2.1=g∧_) (fun c=>b c.1)]
  by_cases c:x.2.2.2.1=(k:Int)
  ·rw [if_pos ⟨a,c⟩,show x.2.2.2.1.toNat=k by omega]; exact QdT (by omega)
  ·rw [if_neg (fun d=>c d.2)]; exact QcG (by omega)
 ·rw [if_neg a,if_neg (c:=x.1=g∧_) (fun c=>a c.1)]
  by_cases b:x.2.1=g
  ·rw [if_pos b];by_cases c:x.2.2.2.2.1=(k:Int)
   ·rw [if_pos ⟨b,c⟩,show x.2.2.2.2.1.toNat=k by omega]; exact QdT (by omega)
   ·rw [if_neg (fun d=>c d.2)]; exact QcG (by omega)
  ·rw [if_neg b,if_neg (fun c=>b c.1)]
theorem QdU {g:Int} {k:Nat}: ∀(r:List QI) (l:List TwoD),l.length=8→(∀x∈r,QeB x)→(∀x∈r,QbF x g (k:Int)=false)→pgAt (QaV g r l) k=pgAt l k
 | [],_,_,_,_=>rfl
 | x::r,l,hl,h1,h2=>by
  rw [QaV,QdU r _ (by rw [QbL]; exact hl) (fun y hy=>h1 y (List.mem_cons_of_mem _ hy)) (fun y hy=>h2 y (List.mem_cons_of_mem _ hy)),Qhs (h1 x (by simp)) hl]
  have:=h2 x (by simp)
  have: ¬QbF x g (k:Int)=true:=by rw [this]; simp
  rw [Qdv] at this;rw [if_neg fun c=>this (.inl c),if_neg fun c=>this (.inr c)]
theorem QiE {g:Int} {x:QI}: ∀(r:List QI) (l:List TwoD),l.length=8→(∀y∈r,QeB y)→r.Pairwise (fun o l=>clash l o=false)→x∈r→x.1=g→pgAt (QaV g r l) x.2.2.2.1.toNat=(x.2.2.1,3,())
 | y::r,l,hl,h1,h2,hx,hg=>by
  rw [List.pairwise_cons] at h2;rw [QaV];rcases List.mem_cons.1 hx with rfl | hx
  ·have b:=h1 x (by simp)
   have e:((x.2.2.2.1.toNat:Nat):Int)=x.2.2.2.1:=by have:=b.2.1; omega
   rw [QdU r _ (by rw [QbL]; exact hl) (fun y hy=>h1 y (List.mem_cons_of_mem _ hy)) (fun z hz=>QhS (h2.1 z hz) (Qdv.2 (.inl ⟨hg,e.symm⟩))),Qhs b hl,if_pos ⟨hg,e.symm⟩]
  ·exact QiE r _ (by rw [QbL]; exact hl) (fun y hy=>h1 y (List.mem_cons_of_mem _ hy)) h2.2 hx hg
theorem QlD {g:Int} {x:QI}: ∀(r:List QI) (l:List TwoD),l.length=8→(∀y∈r,QeB y)→r.Pairwise (fun o l=>clash l o=false)→x∈r→x.2.1=g→pgAt (QaV g r l) x.2.2.2.2.1.toNat=(x.2.2.1,1,())
 | y::r,l,hl,h1,h2,hx,hg=>by
  rw [List.pairwise_cons] at h2;rw [QaV];rcases List.mem_cons.1 hx with rfl | hx
  ·have b:=h1 x (by simp)
   have e:((x.2.2.2.2.1.toNat:Nat):Int)=x.2.2.2.2.1:=by have:=b.2.2; omega
   rw [QdU r _ (by rw [QbL]; exact hl) (fun y hy=>h1 y (List.mem_cons_of_mem _ hy)) (fun z hz=>QhS (h2.1 z hz) (Qdv.2 (.inr ⟨hg,e.symm⟩))),Qhs b hl,if_neg (fun c=>b.1 (c.1.trans hg.symm)),if_pos ⟨hg,e.symm⟩]
  ·exact QlD r _ (by rw [QbL]; exact hl) (fun y hy=>h1 y (List.mem_cons_of_mem _ hy)) h2.2 hx hg
theorem Qht {g:Int} {k:Nat}: ∀(r:List QI) (l:List TwoD),l.length=8→(∀y∈r,QeB y)→pgAt (QaV g r l) k=pgAt l k∨
  (∃x∈r,x.1=g∧x.2.2.2.1=(k:Int)∧pgAt (QaV g r l) k=(x.2.2.1,3,()))∨(∃x∈r,x.2.1=g∧x.2.2.2.2.1=(k:Int)∧pgAt (QaV g r l) k=(x.2.2.1,1,()))
 | [],_,_,_=> .inl rfl
 | y::r,l,hl,h1=>by
  rw [QaV];rcases Qht (k:=k) r (Qcn g y l) (by rw [QbL]; exact hl) (fun y hy=>h1 y (List.mem_cons_of_mem _ hy)) with e | ⟨x,hx,e⟩ | ⟨x,hx,e⟩
  ·rw [e,Qhs (h1 y (by simp)) hl]
   by_cases a:y.1=g∧y.2.2.2.1=(k:Int)
   ·rw [if_pos a]; exact .inr (.inl ⟨y,by simp,a.1,a.2,rfl⟩)
   ·rw [if_neg a];by_cases b:y.2.1=g∧y.2.2.2.2.1=(k:Int)
    ·rw [if_pos b]; exact .inr (.inr ⟨y,by simp,b.1,b.2,rfl⟩)
    ·rw [if_neg b]; exact .inl rfl
  ·exact .inr (.inl ⟨x,List.mem_cons_of_mem _ hx,e⟩)
  ·exact .inr (.inr ⟨x,List.mem_cons_of_mem _ hx,e⟩)
theorem Qco {p:PolD} (hok:OkPol p): ∀x∈p.2.1,QeB x:=fun x hx=>by
 have:=QcA hok x hx;exact ⟨this.1.2.2,this.2.2.1,this.2.2.2⟩
theorem Qeq {p:PolD} {g:Int} (hok:OkPol p) (hg:isG p g=true):1≤(ownL p g).length∧(ownL p g).length≤5:=by
 have:=hok.own1 _ (Qdf hok hg);exact ⟨this.1,this.2.1⟩
theorem own8 (p:PolD) (g:Int):(QbO 0 (ownL p g) Qbs).length=8:=by rw [Qer]; rfl
theorem Qnc {p:PolD} {g:Int} (hok:OkPol p) (hg:isG p g=true) {k:Nat} (hk:k< (ownL p g).length):pgAt (pgM p g) k=((ownL p g).getD k 0,7,()):=by
 have h5:=(Qeq hok hg).2;unfold pgM;rw [QdU _ _ (own8 p g) (Qco hok) (fun x hx=>?_),QjW _ _ _ _ (by show 0+(ownL p g).length≤8; omega),if_pos (by omega),Nat.sub_zero]
 have hx:=Qco hok x hx;rw [←Bool.not_eq_true,Qdv];have:=hx.2;omega
theorem QhB {p:PolD} {g:Int} (hok:OkPol p) (hg:isG p g=true) {x:QI} (hx:x∈p.2.1) (h:x.1=g):pgAt (pgM p g) x.2.2.2.1.toNat=(x.2.2.1,3,()):=QiE _ _ (own8 p g) (Qco hok) (Qhu hok) hx h
theorem Qxj {p:PolD} {g:Int} (hok:OkPol p) (hg:isG p g=true) {x:QI} (hx:x∈p.2.1) (h:x.2.1=g):pgAt (pgM p g) x.2.2.2.2.1.toNat=(x.2.2.1,1,()):=QlD _ _ (own8 p g) (Qco hok) (Qhu hok) hx h
theorem QfI {p:PolD} {g:Int} (hok:OkPol p) (hg:isG p g=true) {k:Nat} (h0:0≤(pgAt (pgM p g) k).1):(k< (ownL p g).length∧pgAt (pgM p g) k=((ownL p g).getD k 0,7,()))∨
  (∃x∈p.2.1,x.1=g∧x.2.2.2.1=(k:Int)∧pgAt (pgM p g) k=(x.2.2.1,3,()))∨(∃x∈p.2.1,x.2.1=g∧x.2.2.2.2.1=(k:Int)∧pgAt (pgM p g) k=(x.2.2.1,1,())):=by
 have h5:=(Qeq hok hg).2;rcases Qht (g:=g) (k:=k) p.2.1 (QbO 0 (ownL p g) Qbs) (own8 p g) (Qco hok) with e | e | e
 ·refine .inl ?_;have e:pgAt (pgM p g) k=pgAt (QbO 0 (ownL p g) Qbs) k:=e;rw [e,QjW _ _ _ _ (by show 0+(ownL p g).length≤8; omega)] at h0⊢
  by_cases c:0≤k∧k< 0+(ownL p g).length
  ·rw [if_pos c] at h0⊢;exact ⟨by omega,by rw [Nat.sub_zero]⟩
  ·rw [if_neg c,Qvg] at h0;exact absurd h0 (by decide)
 ·exact .inr (.inl e)
 ·exact .inr (.inr e)
theorem QfF {p:PolD} {g:Int} {k:Nat} (hk:k< (ownL p g).length):(ownL p g).getD k 0∈ownL p g:=QaG hk
theorem QpV {p:PolD} {g:Int} (hok:OkPol p) (hg:isG p g=true) (i j:Nat) (h0:0≤(pgAt (pgM p g) i).1) (he:(pgAt (pgM p g) i).1=(pgAt (pgM p g) j).1):i=j:=by
 have hm:=Qdf hok hg;have nd:=List.pairwise_iff_getElem.1 ((QlP hok).1 _ hm);have lf:=fun {x:QI} (hx:x∈p.2.1)=>Qid hok hx hm
 have sep:=fun {x:QI} (hx:x∈p.2.1)=>(Qco hok x hx).1
 rcases QfI hok hg h0 with ⟨a1,a2⟩ | ⟨x,hx,a1,a2,a3⟩ | ⟨x,hx,a1,a2,a3⟩ <;> rcases QfI hok hg (k:=j) (by omega) with ⟨b1,b2⟩ | ⟨y,hy,b1,b2,b3⟩ | ⟨y,hy,b1,b2,b3⟩
 ·rw [a2,b2] at he;dsimp only at he;rw [gget a1,gget b1] at he;rcases Nat.lt_trichotomy i j with c | c | c
  ·exact (nd i j a1 b1 c he).elim
  ·exact c
  ·exact (nd j i b1 a1 c he.symm).elim
 ·rw [a2,b3] at he; exact (lf hy (he▸QfF a1)).elim
 ·rw [a2,b3] at he; exact (lf hy (he▸QfF a1)).elim
 ·rw [a3,b2] at he; exact (lf hx (he.symm▸QfF b1)).elim
 ·rw [a3,b3] at he;obtain rfl:=Qel hok hx hy he;omega
 ·rw [a3,b3] at he;obtain rfl:=Qel hok hx hy he;exact (sep hx (a1.trans b1.symm)).elim
 ·rw [a3,b2] at he; exact (lf hx (he.symm▸QfF b1)).elim
 ·rw [a3,b3] at he;obtain rfl:=Qel hok hx hy he;exact (sep hx (b1.trans a1.symm)).elim
 ·rw [a3,b3] at he;obtain rfl:=Qel hok hx hy he;omega
theorem QwN (p:PolD) (g:Int) {k:Nat} (hk:k< 8):pgAt (pgM p g) k∈pgM p g:=QaG (by rw [QeQ]; exact hk)
theorem Qnd {p:PolD} {g:Int} (hok:OkPol p) (hg:isG p g=true) {k:Nat} (hk:k< 8): -1≤(pgAt (pgM p g) k).1∧(pgAt (pgM p g) k).1≤23:=(QpU hok hg _ (QwN p g hk)).1
theorem Qup {p:PolD} {g t:Int} (hok:OkPol p) (hg:isG p g=true) (ht:isG p t=true) (hne:t≠g) {P:Int} (h0:0≤P) (hP:P∈ownL p g∨ ∃y∈p.2.1,y.1=g∧y.2.2.1=P): ∀q∈pgM p t,q.1=P→iand .i64 q.2.1 2=0:=by
 intro q hq e;obtain ⟨k,hk,rfl⟩:=List.mem_iff_getElem.1 hq;have ek:(pgM p t)[k]=pgAt (pgM p t) k:=(gget hk).symm;rw [ek] at e⊢;rcases QfI hok ht (k:=k) (by omega) with ⟨a1,a2⟩ | ⟨x,hx,a1,a2,a3⟩ | ⟨x,hx,a1,a2,a3⟩
 ·rw [a2] at e;have hm:P∈ownL p t:=e▸QfF a1;rcases hP with hP | ⟨y,hy,c1,c2⟩
  ·exact (QsF hok hg ht hne hP hm).elim
  ·exact (Qid hok hy (Qdf hok ht) (c2▸hm)).elim
 ·rw [a3] at e;dsimp only at e;rcases hP with hP | ⟨y,hy,c1,c2⟩
  ·exact (Qid hok hx (Qdf hok hg) (e▸hP)).elim
  ·obtain rfl:=Qel hok hx hy (e.trans c2.symm);exact (hne (a1.symm.trans c1)).elim
 ·rw [a3]; show iand .i64 1 2=0; decide
theorem QvB {l:List TwoD} {m m':List Int} (h:MemW l m m') {P:Int} (h0:0≤P) (hq: ∀q∈l,q.1=P→iand .i64 q.2.1 2=0):pg m' P=pg m P:=by
 unfold pg;apply List.ext_getElem?;intro i;by_cases hi:i< 8
 ·simp only [List.getElem?_take,if_pos hi,List.getElem?_drop];apply Decidable.byContradiction;intro hne;obtain ⟨q,hm,e1,e2⟩:=h _ hne;exact e2 (hq q hm (by rw [e1]; omega))
 ·rw [List.getElem?_eq_none (by simp; omega),List.getElem?_eq_none (by simp; omega)]
theorem Qjf {l:List TwoD} (hl:l.length=8) {k:Nat} (hk:k< 8):pgAt (Qdq l) k=if 0≤(pgAt l k).1 then ((k:Int),(pgAt l k).2) else pgAt l k:=by
 have h1:k< l.length:=by omega
 rw [pgAt,gget (by rw [QgJ]; exact h1),QrB h1,pgAt,gget h1]
theorem QsP {p:PolD} {g:Int} (hok:OkPol p) (hg:isG p g=true) {m m':List Int} (h: ∀k,k< 8→0≤(pgAt (pgM p g) k).1→pg m (pgAt (pgM p g) k).1=pg m' (k:Nat)):Sim (pgM p g) (Qdq (pgM p g)) m m':=by
 have hl:=QeQ p g;have ha:=fun {k:Nat} (hk:k< 8)=>Qjf hl hk
 refine ⟨⟨hl,by rw [QgJ]; exact hl⟩,fun k hk=>?_,fun k hk=>?_,fun k hk=>⟨(Qnd hok hg hk).2,?_⟩,fun i j _ _=>QpV hok hg i j,fun i j hi hj h0 he=>?_,fun k hk h0=>?_⟩
 ·rw [ha hk]; split <;> rfl
 ·rw [ha hk]; split
  ·rename_i c; exact ⟨fun _=>by dsimp only; omega,fun _=>c⟩
  ·exact Iff.rfl
 ·have:=(Qnd hok hg hk).2;rw [ha hk]; split
  ·dsimp only; omega
  ·exact this
 ·rw [ha hi] at h0 he;rw [ha hj] at he;split at h0
  ·rename_i c;rw [if_pos c] at he;split at he
   ·dsimp only at he; omega
   ·dsimp only at he; omega
  ·rename_i c; exact absurd h0 c
 ·rw [ha hk,if_pos h0]; exact h k hk h0
theorem QuB {s ws:List Int} {k:Nat} {j:Int} (hs:s.length=64) (hk:k< 8) (hw:ws.length=8) (hj:0≤j∧j< 8):pg (QiK s k ws) j=if j=(k:Int) then ws else pg s j:=by
 obtain ⟨J,rfl⟩: ∃J:Nat,j=(J:Int):=⟨j.toNat,by omega⟩
 unfold pg QiK;rw [Int.toNat_natCast];apply List.ext_getElem?;intro i;by_cases hi:i< 8
 ·rw [List.getElem?_take,if_pos hi,List.getElem?_drop];by_cases c:J=k
  ·subst c;rw [if_pos rfl,List.getElem?_append_right (by simp; omega),List.length_take,Nat.min_eq_left (by omega),Nat.add_sub_cancel_left,List.getElem?_append_left (by omega)]
  ·rw [if_neg (by omega),List.getElem?_take,if_pos hi,List.getElem?_drop]
   by_cases d:J< k
   ·rw [List.getElem?_append_left (by simp; omega),List.getElem?_take,if_pos (by omega)]
   ·rw [List.getElem?_append_right (by simp; omega),List.length_take,Nat.min_eq_left (by omega),List.getElem?_append_right (by omega),List.getElem?_drop,hw]
    congr 1;omega
 ·rw [List.getElem?_eq_none (by simp; omega)]
  split
  ·rw [List.getElem?_eq_none (by omega)]
  ·rw [List.getElem?_eq_none (by simp; omega)]
def calm (h:QH):QH:=(h.1,h.2.1,h.2.2.1,h.2.2.2.1,h.2.2.2.2.1,false,h.2.2.2.2.2.2)
theorem Qvh {h k:QH} (e:calm h=calm k) (er:h.2.2.2.2.2.1=k.2.2.2.2.2.1):h=k:=by
 obtain ⟨a1,a2,a3,a4,a5,a6,a7⟩:=h;obtain ⟨b1,b2,b3,b4,b5,b6,b7⟩:=k;unfold calm at e;simp only [Pmi] at e er;obtain ⟨rfl,rfl,rfl,rfl,rfl,_,rfl⟩:=e;rw [er]
structure Rl (x:Qw) (s:Qbu) (g:Int):Prop where
 hk:HK x
 hs:QcY s=0
 hg:isG x.1 g=true
 pages:s.2.1=Qdq (pgM x.1 g)
 hart:calm s.1=calm (x.2.2.1.getD g.toNat QU)
 own: ∀k,k< (ownL x.1 g).length→pg x.2.1 ((ownL x.1 g).getD k 0)=pg s.2.2.1 (k:Nat)
 gives: ∀y∈x.1.2.1,y.1=g→pg x.2.1 y.2.2.1=pg s.2.2.1 y.2.2.2.1
theorem QkK {m m':List Int}: ∀{l:List Int} {k:Nat},(∀i,i< l.length→pg m (l.getD i 0)=pg m' ((k+i:Nat):Int))→k+l.length≤8→m'.length=64→Qai m l=(m'.drop (8*k)).take (8*l.length)
 | [],k,_,_,_=>by simp [Qai]
 | a::r,k,h,hk,hl=>by
  simp only [List.length_cons] at hk;have h0:=h 0 (by simp)
  have ih:=QkK (l:=r) (k:=k+1) (fun i hi=>by
   have:=h (i+1) (by simp; omega)
   rw [show k+1+i=k+(i+1) by omega]
   exact this) (by omega) hl
  unfold Qai at ih⊢;rw [List.flatMap_cons,ih];have e0:pg m a=(m'.drop (8*k)).take 8:=h0;rw [e0,List.length_cons,show 8*(r.length+1)=8+8*r.length by omega,List.take_add,List.drop_drop,show 8*k+8=8*(k+1) by omega]
theorem QjC {m m':List Int} {g:Int}: ∀{r:List QI},(∀y∈r,y.1=g→pg m y.2.2.1=pg m' y.2.2.2.1)→Qai m (Qar g true r)=Qai m' (Qar g false r)
 | [],_=>rfl
 | y::r,h=>by
  have ih:=QjC (r:=r) fun z hz=>h z (List.mem_cons_of_mem _ hz)
  simp only [Qar];by_cases c:y.1=g
  ·rw [if_pos c,if_pos c,if_pos trivial,if_neg (by simp)]
   unfold Qai at ih⊢;rw [List.flatMap_cons,List.flatMap_cons,h y (by simp) c,ih]
  ·rw [if_neg c,if_neg c]; exact ih
theorem Rl.views {x:Qw} {s:Qbu} {g:Int} (h:Rl x s g):setF (Qwo x.1 s g) (Qxg (QaQ x g))=QaQ x g:=by
 have h5:=(Qeq h.hk.ok h.hg).2;have hm:s.2.2.1.length=64:=(QeU h.hs).2.2.2;have e1:=QkK (m:=x.2.1) (m':=s.2.2.1) (l:=ownL x.1 g) (k:=0) (fun i hi=>by rw [Nat.zero_add]; exact h.own i hi) (by omega) hm
 rw [Nat.mul_zero,List.drop_zero] at e1;have e2:=QjC (m:=x.2.1) (m':=s.2.2.1) (g:=g) h.gives;have eh:=h.hart;unfold Qwo QaQ;rw [←e1, ←e2];generalize Qai x.2.1 (ownL x.1 g)=W;generalize Qai x.2.1 (Qar g true x.1.2.1)=G;generalize x.2.2.1.getD g.toNat QU=k at eh;generalize s.1=q at eh;obtain ⟨a1,a2,a3,a4,a5,a6,a7,a8,a9,_⟩:=q;obtain ⟨b1,b2,b3,b4,b5,b6,b7,b8,b9,_⟩:=k;unfold calm at eh;simp only [Pmi] at eh;obtain ⟨rfl,rfl,rfl,rfl,rfl,_,rfl,rfl,rfl,_⟩:=eh;rfl
theorem QfY {m:List Int} {g:Int} {j:Int}: ∀{r:List QI} {q:List Int},q.length=64→(∀y∈r,QeB y∧(pg m y.2.2.1).length=8)→0≤j∧j< 8→(∀y∈r,y.2.1=g→y.2.2.2.2.1≠j)→pg (Qfq m g r q) j=pg q j
 | [],_,_,_,_,_=>rfl
 | y::r,q,hq,h1,hj,h2=>by
  have b:=h1 y (by simp)
  rw [Qfq];by_cases c:y.2.1=g
  ·rw [if_pos c,QfY (Qil hq (by have:=b.1.2.2; omega) b.2) (fun z hz=>h1 z (List.mem_cons_of_mem _ hz)) hj (fun z hz=>h2 z (List.mem_cons_of_mem _ hz)),QuB hq (by have:=b.1.2.2; omega) b.2 hj,if_neg (by have:=h2 y (by simp) c; have:=b.1.2.2; omega)]
  ·rw [if_neg c];exact QfY hq (fun z hz=>h1 z (List.mem_cons_of_mem _ hz)) hj (fun z hz=>h2 z (List.mem_cons_of_mem _ hz))
theorem QqQ {m:List Int} {g:Int} {x:QI}: ∀{r:List QI} {q:List Int},q.length=64→(∀y∈r,QeB y∧(pg m y.2.2.1).length=8)→r.Pairwise (fun o l=>clash l o=false)→x∈r→x.2.1=g→pg (Qfq m g r q) x.2.2.2.2.1=pg m x.2.2.1
 | y::r,q,hq,h1,h2,hx,hg=>by
  have b:=h1 y (by simp)
  rw [List.pairwise_cons] at h2;have hp:(QiK q y.2.2.2.2.1.toNat (pg m y.2.2.1)).length=64:=Qil hq (by have:=b.1.2.2; omega) b.2
  rw [Qfq];rcases List.mem_cons.1 hx with rfl | hx
  ·have:=b.1.2.2;rw [if_pos hg,QfY hp (fun z hz=>h1 z (List.mem_cons_of_mem _ hz)) (by omega) (fun z hz zg ze=>?_),QuB hq (by omega) b.2 (by omega),if_pos (by omega)]
   have:=QhS (h2.1 z hz) (Qdv (x:=x) (g:=g) (k:=x.2.2.2.2.1).2 (.inr ⟨hg,rfl⟩));rw [Qdv.2 (.inr ⟨zg,ze⟩)] at this;cases this
  ·exact QqQ (by split; exact hp; exact hq) (fun z hz=>h1 z (List.mem_cons_of_mem _ hz)) h2.2 hx hg
section
variable {x:Qw} {s:Qbu} {g:Int}
theorem Rl.lanes (h:Rl x s g): ∀y∈x.1.2.1,QeB y∧(pg x.2.1 y.2.2.1).length=8:=fun y hy=>⟨Qco h.hk.ok y hy,(QqW h.hk hy).2.2.1⟩
theorem Rl.sim (h:Rl x s g):Sim (pgM x.1 g) (Qdq (pgM x.1 g)) x.2.1 (Qfq x.2.1 g x.1.2.1 s.2.2.1):=by
 have hok:=h.hk.ok;have hm:s.2.2.1.length=64:=(QeU h.hs).2.2.2;refine QsP hok h.hg fun k hk h0=>?_
 have keep:(∀y∈x.1.2.1,y.2.1=g→y.2.2.2.2.1≠(k:Int))→pg (Qfq x.2.1 g x.1.2.1 s.2.2.1) ((k:Nat):Int)=pg s.2.2.1 (k:Nat):=fun c=>QfY hm h.lanes (by omega) c
 rcases QfI hok h.hg h0 with ⟨a1,a2⟩ | ⟨y,hy,a1,a2,a3⟩ | ⟨y,hy,a1,a2,a3⟩
 ·have h5:=(Qeq hok h.hg).2;rw [a2,keep fun y hy _=>by have:=(Qco hok y hy).2.2; omega]
  exact h.own k a1
 ·rw [a3,keep fun z hz zg ze=>?_]
  ·rw [←a2]; exact h.gives y hy a1
  ·have q1:=QhB hok h.hg hy a1;have q2:=Qxj hok h.hg hz zg;rw [a2] at q1;rw [ze,q1] at q2;exact absurd (congrArg (fun w:TwoD=>w.2.1) q2) (by dsimp only; decide)
 ·rw [a3, ←a2];exact (QqQ hm h.lanes (Qhu hok) hy a1).symm
theorem QjE (x:Qw) (g:Int):calm ((Qbv x).2.2.1.getD g.toNat QU)=calm ((QS x).getD g.toNat QU):=by
 unfold Qbv;dsimp only;split
 ·unfold Qbl;by_cases e:(QT x).ring.toNat=g.toNat
  ·rw [e];by_cases hl:g.toNat< (QS x).length
   ·rw [QdT hl]; rfl
   ·rw [List.set_eq_of_length_le (by omega)]
  ·rw [QcG e]
 ·rfl
theorem HK.stepP (h:HK x):StepP (pgM x.1 (turnG x)) { (Mc.of (x.2.2.1.getD (turnG x).toNat QU) x.2.1) with ring:= -1,fall:= -1 } (QT x):=by
 have:=(QvV (QeQ x.1 (turnG x)) (Mc.of (x.2.2.1.getD (turnG x).toNat QU) x.2.1) (h.okS.d.2)).1;exact this
theorem HK.stays (h:HK x) (hg:isG x.1 g=true) (hne:turnG x≠g) {P:Int} (h0:0≤P) (hP:P∈ownL x.1 g∨ ∃y∈x.1.2.1,y.1=g∧y.2.2.1=P):pg (Qbv x).2.1 P=pg x.2.1 P:=
 QvB (l:=pgM x.1 (turnG x)) (m:=x.2.1) (m':=(QT x).m) h.stepP.mem h0 (Qup h.ok hg h.turn.2.2.1 hne h0 hP)
theorem HK.ownP (h:HK x) (hg:isG x.1 g=true) {k:Nat} (hk:k< (ownL x.1 g).length):0≤(ownL x.1 g).getD k 0:=((h.ok.own1 _ (Qdf h.ok hg)).2.2 _ (QfF hk)).1
theorem Rl.next (h:Rl x s g) (hc:x.2.2.2.2.2.1< 1000000):Rl (Qbv x) (if turnG x=g then Qwn x s g else s) g:=by
 have hok:=h.hk.ok;by_cases ht:turnG x=g
 ·rw [if_pos ht];have e1:(QiN x s g).1=x.2.2.1.getD g.toNat QU:=Qvh h.hart rfl;have e2:(QiN x s g).2.1=Qdq (pgM x.1 g):=h.pages;have hsim:Sim (pgM x.1 g) (Qdq (pgM x.1 g)) x.2.1 (QiN x s g).2.2.1:=h.sim
  have key:Like (pgM x.1 g) (Qdq (pgM x.1 g)) (QT x) (QhI x s g):=by
   unfold QT QhI;rw [e1,e2,ht];exact Qkr (s:=Mc.of (x.2.2.1.getD g.toNat QU) x.2.1) hsim
  obtain ⟨k1,k2⟩:=key;have eh:(QhI x s g).hart=(QT x).hart:=by rw [k1]; rfl
  refine ⟨h.hk.next hc,QuL g h.hk h.hs,h.hg,h.pages,?_,fun k hk=>?_,fun y hy hyg=>?_⟩
  ·rw [QjE];have:=(h.hk.guest h.hg).1;show calm (QhI x s g).hart=_;rw [eh];unfold QS;rw [ht,QdT (by omega)]
  ·have h5:=(Qeq hok h.hg).2;have hk:k< (ownL x.1 g).length:=hk;have q:=k2.same k (by omega) (by rw [Qnc hok h.hg hk]; exact h.hk.ownP h.hg hk)
   rw [Qjf (QeQ x.1 g) (by omega),Qnc hok h.hg hk,if_pos (by exact h.hk.ownP h.hg hk)] at q
   exact q
  ·have hy:y∈x.1.2.1:=hy;have b:=Qco hok y hy;have e5:((y.2.2.2.1.toNat:Nat):Int)=y.2.2.2.1:=by have:=b.2.1; omega
   have p0:=(QcA hok y hy).2.1.1;have q:=k2.same y.2.2.2.1.toNat (by have:=b.2.1; omega) (by rw [QhB hok h.hg hy hyg]; exact p0)
   rw [Qjf (QeQ x.1 g) (by have:=b.2.1; omega),QhB hok h.hg hy hyg,if_pos (by exact p0)] at q
   rw [e5] at q;exact q
 ·rw [if_neg ht];refine ⟨h.hk.next hc,h.hs,h.hg,h.pages,?_,fun k hk=>?_,fun y hy hyg=>?_⟩
  ·rw [QjE];unfold QS;have a:=QaP.1 h.hg;have b:=QaP.1 h.hk.turn.2.2.1;rw [QcG (by omega)]
   exact h.hart
  ·have hk:k< (ownL x.1 g).length:=hk;rw [←h.own k hk];exact h.hk.stays h.hg ht (h.hk.ownP h.hg hk) (.inl (QfF hk))
  ·rw [←h.gives y hy hyg];exact h.hk.stays h.hg ht (QcA hok y hy).2.1.1 (.inr ⟨y,hy,hyg,rfl⟩)
end
structure Shut (p:PolD) (A:Int→Prop):Prop where
 lane: ∀y∈p.2.1,A y.2.1→A y.1
 bell: ∀b∈p.2.2.1,A b.2.1→A b.1
structure Tw (x y:Qw) (A:Int→Prop):Prop where
 hx:HK x
 hy:HK y
 pol:x.1=y.1
 slot:x.2.2.2.1=y.2.2.2.1
 left:x.2.2.2.2.1=y.2.2.2.2.1
 clock:x.2.2.2.2.2.1=y.2.2.2.2.2.1
 shut:Shut x.1 A
 hart: ∀g,isG x.1 g=true→A g→x.2.2.1.getD g.toNat QU=y.2.2.1.getD g.toNat QU
 own: ∀g,isG x.1 g=true→A g→ ∀P∈ownL x.1 g,pg x.2.1 P=pg y.2.1 P
 gives: ∀l∈x.1.2.1,A l.1→pg x.2.1 l.2.2.1=pg y.2.1 l.2.2.1
section
variable {x y:Qw} {A:Int→Prop} {g:Int}
theorem QfV {m m':List Int}: ∀{l:List Int},(∀P∈l,pg m P=pg m' P)→Qai m l=Qai m' l
 | [],_=>rfl
 | a::r,h=>by
  have ih:=QfV (l:=r) fun P hP=>h P (List.mem_cons_of_mem _ hP)
  unfold Qai at ih⊢;rw [List.flatMap_cons,List.flatMap_cons,h a (by simp),ih]
theorem QjB {g:Int}: ∀{r:List QI} {P:Int},P∈Qar g true r→ ∃l∈r,l.1=g∧l.2.2.1=P
 | [],_,h=>by simp [Qar] at h
 | l::r,P,h=>by
  simp only [Qar] at h;by_cases c:l.1=g
  ·rw [if_pos c] at h;rcases List.mem_cons.1 h with h | h
   ·exact ⟨l,by simp,c,by rw [h,if_pos trivial]⟩
   ·obtain ⟨z,hz,e⟩:=QjB h;exact ⟨z,List.mem_cons_of_mem _ hz,e⟩
  ·rw [if_neg c] at h;obtain ⟨z,hz,e⟩:=QjB h;exact ⟨z,List.mem_cons_of_mem _ hz,e⟩
theorem Tw.views (h:Tw x y A) (hg:isG x.1 g=true) (ha:A g):QaQ x g=QaQ y g:=by
 unfold QaQ
 rw [←h.pol,h.hart g hg ha,QfV (h.own g hg ha),QfV (m:=x.2.1) (m':=y.2.1) (l:=Qar g true x.1.2.1) fun P hP=>by
  obtain ⟨l,hl,e1,e2⟩:=QjB hP;rw [←e2];exact h.gives l hl (e1▸ha)]
theorem Tw.turnEq (h:Tw x y A):turnG y=turnG x:=by
 unfold turnG;rw [←h.pol, ←h.slot]
theorem Qlz (x:Qw) (g:Int) (hne:Qca x=true→(QT x).ring.toNat≠g.toNat):(Qbv x).2.2.1.getD g.toNat QU=(QS x).getD g.toNat QU:=by
 unfold Qbv;dsimp only;split
 ·rename_i hr;unfold Qbl;rw [QcG (hne hr)]
 ·rfl
theorem Qhp {g:Int} (h:HK x) (hg:isG x.1 g=true) (hne:turnG x≠g):(QS x).getD g.toNat QU=x.2.2.1.getD g.toNat QU:=by
 have a:=QaP.1 hg;have b:=QaP.1 h.turn.2.2.1;unfold QS;rw [QcG (by omega)]
theorem QnS (h:HK x):(QS x).getD (turnG x).toNat QU=(QT x).hart:=by
 have:=(h.guest h.turn.2.2.1).1;unfold QS;rw [QdT (by omega)]
theorem Tw.sim (h:Tw x y A) (ha:A (turnG x)):Sim (pgM x.1 (turnG x)) (pgM x.1 (turnG x)) x.2.1 y.2.1:=by
 have hok:=h.hx.ok;have ht:=h.hx.turn.2.2.1;have hl:=QeQ x.1 (turnG x);refine ⟨⟨hl,hl⟩,fun _ _=>rfl,fun _ _=>Iff.rfl,fun k hk=>⟨(Qnd hok ht hk).2,(Qnd hok ht hk).2⟩,fun i j _ _=>QpV hok ht i j,fun i j _ _=>QpV hok ht i j,fun k hk h0=>?_⟩
 rcases QfI hok ht h0 with ⟨a1,a2⟩ | ⟨l,hl,a1,a2,a3⟩ | ⟨l,hl,a1,a2,a3⟩
 ·rw [a2]; exact h.own _ ht ha _ (QfF a1)
 ·rw [a3]; exact h.gives l hl (a1▸ha)
 ·rw [a3]; exact h.gives l hl (h.shut.lane l hl (a1▸ha))
theorem Tw.next (h:Tw x y A) (hc:x.2.2.2.2.2.1< 1000000):Tw (Qbv x) (Qbv y) A:=by
 have hok:=h.hx.ok;have te:=h.turnEq;have hc':y.2.2.2.2.2.1< 1000000:=by rw [←h.clock]; exact hc
 have slots:Qfc x.1.2.2.2.1 x.2.2.2.1 x.2.2.2.2.1=Qfc y.1.2.2.2.1 y.2.2.2.1 y.2.2.2.2.1:=by rw [h.pol,h.slot,h.left]
 have ok':=h.hy.ok
 have stay: ∀g,isG x.1 g=true→turnG x≠g→ ∀P,0≤P→(P∈ownL x.1 g∨ ∃l∈x.1.2.1,l.1=g∧l.2.2.1=P)→pg x.2.1 P=pg y.2.1 P→pg (Qbv x).2.1 P=pg (Qbv y).2.1 P:=fun g hg hne P h0 hP e=>by
  rw [h.hx.stays hg hne h0 hP,h.hy.stays (by rw [←h.pol]; exact hg) (by rw [te]; exact hne) h0 (by rw [←h.pol]; exact hP)]
  exact e
 have own0: ∀g,isG x.1 g=true→ ∀P∈ownL x.1 g,0≤P:=fun g hg P hP=>((hok.own1 _ (Qdf hok hg)).2.2 P hP).1
 by_cases ha:A (turnG x)
 ·have ht:=h.hx.turn.2.2.1
  have key:Like (pgM x.1 (turnG x)) (pgM x.1 (turnG x)) (QT x) (QT y):=by
   unfold QT;rw [te, ←h.pol, ←h.hart _ ht ha];exact Qkr (s:=Mc.of (x.2.2.1.getD (turnG x).toNat QU) x.2.1) (h.sim ha)
  obtain ⟨k1,k2⟩:=key;have eh:(QT y).hart=(QT x).hart:=by rw [k1]; rfl
  have er:(QT y).ring=(QT x).ring:=by rw [k1]
  have eb:Qca y=Qca x:=by unfold Qca; rw [te,er,h.pol]
  have hh: ∀g,isG x.1 g=true→A g→(QS x).getD g.toNat QU=(QS y).getD g.toNat QU:=fun g hg ag=>by
   by_cases e:turnG x=g
   ·subst e;rw [QnS h.hx, ←te,QnS h.hy,eh]
   ·rw [Qhp h.hx hg e,Qhp h.hy (by rw [←h.pol]; exact hg) (by rw [te]; exact e)]
    exact h.hart g hg ag
  refine ⟨h.hx.next hc,h.hy.next hc',h.pol,congrArg (·.1) slots,congrArg (·.2) slots,congrArg (· +1) h.clock,h.shut,fun g hg ag=>?_,fun g hg ag P hP=>?_,fun l hl al=>?_⟩
  ·have hg:isG x.1 g=true:=hg;show (if Qca x=true then Qbl (QT x).ring (QS x) else QS x).getD g.toNat QU=(if Qca y=true then Qbl (QT y).ring (QS y) else QS y).getD g.toNat QU
   rw [eb,er];by_cases c:Qca x=true
   ·rw [if_pos c,if_pos c];unfold Qbl;by_cases e:(QT x).ring.toNat=g.toNat
    ·have hlt:=(h.hx.guest hg).1;have hlt':=(h.hy.guest (g:=g) (by rw [←h.pol]; exact hg)).1
     rw [e,QdT (by rw [QbR]; omega),QdT (by rw [QbR]; omega),hh g hg ag]
    ·rw [QcG e,QcG e,hh g hg ag]
   ·rw [if_neg c,if_neg c,hh g hg ag]
  ·have hg:isG x.1 g=true:=hg;have hP:P∈ownL x.1 g:=hP;by_cases e:turnG x=g
   ·subst e;obtain ⟨k,hk,ek⟩:=List.mem_iff_getElem.1 hP;have p0:=h.hx.ownP hg hk;have h5:=(Qeq hok hg).2;have q:=k2.same k (by omega) (by rw [Qnc hok hg hk]; exact p0)
    rw [Qnc hok hg hk] at q;dsimp only at q;rw [gget hk,ek] at q;exact q
   ·exact stay g hg e P (own0 g hg P hP) (.inl hP) (h.own g hg ag P hP)
  ·have hl:l∈x.1.2.1:=hl;have b:=QcA hok l hl;by_cases e:turnG x=l.1
   ·have q:=k2.same l.2.2.2.1.toNat (by have:=b.2.2.1; omega) (by rw [QhB hok ht hl e.symm]; exact b.2.1.1)
    rw [QhB hok ht hl e.symm] at q;exact q
   ·exact stay l.1 b.1.1 e _ b.2.1.1 (.inr ⟨l,hl,rfl,rfl⟩) (h.gives l hl al)
 ·have ring: ∀z:Qw,HK z→z.1=x.1→turnG z=turnG x→ ∀g,A g→isG x.1 g=true→Qca z=true→(QT z).ring.toNat≠g.toNat:=fun z hz ez et g ag hg hr e=>by
   have hk:=QaP.1 (QiY hz hr);have hg':=QaP.1 hg;have e:(QT z).ring=g:=by omega
   unfold Qca at hr;obtain ⟨b,hb,eb⟩:=List.any_eq_true.1 hr;unfold Qaq at eb;simp only [Bool.and_true,Bool.and_eq_true,beq_iff_eq] at eb;rw [ez] at hb;have:=h.shut.bell b hb (by rw [←eb.2,e]; exact ag)
   rw [←eb.1,et] at this;exact ha this
  refine ⟨h.hx.next hc,h.hy.next hc',h.pol,congrArg (·.1) slots,congrArg (·.2) slots,congrArg (· +1) h.clock,h.shut,fun g hg ag=>?_,fun g hg ag P hP=>?_,fun l hl al=>?_⟩
  ·have hg:isG x.1 g=true:=hg;have hne:turnG x≠g:=fun e=>ha (e▸ag)
   have hg':isG y.1 g=true:=by rw [←h.pol]; exact hg
   rw [Qlz x g (ring x h.hx rfl rfl g ag hg),Qlz y g (ring y h.hy h.pol.symm te g ag hg),Qhp h.hx hg hne,Qhp h.hy hg' (by rw [te]; exact hne)]
   exact h.hart g hg ag
  ·have hg:isG x.1 g=true:=hg;have hP:P∈ownL x.1 g:=hP;exact stay g hg (fun e=>ha (e▸ag)) P (own0 g hg P hP) (.inl hP) (h.own g hg ag P hP)
  ·have hl:l∈x.1.2.1:=hl;have b:=QcA hok l hl;exact stay l.1 b.1.1 (fun e=>ha (e▸al)) _ b.2.1.1 (.inr ⟨l,hl,rfl,rfl⟩) (h.gives l hl al)
end
theorem Qgj {α β:Type} {f:Nat→α→Option β}: ∀{m:List α} {i:Nat},(∀j x,x∈m→f j x=none)→scan f i m=none
 | [],_,_=>rfl
 | x::r,i,h=>by
  simp only [scan];rw [h i x (by simp)]
  exact Qgj fun j y hy=>h j y (List.mem_cons_of_mem _ hy)
def imgH (own:List Int):Nat→List Int→List Int→List Int
 | _,[],m=>m
 | i,w::r,m=>imgH own (i+1) r (m.set (8*(own.getD (i / 8) 0).toNat+i % 8) (wd w))
def QcP:List (List Int)→List (List Int)→List Int→List Int
 | own::ro,im::ri,m=>QcP ro ri (imgH own 0 im m)
 | _,_,m=>m
theorem QjF (own:List Int): ∀(im:List Int) (i:Nat) (m:List Int),(imgH own i im m).length=m.length
 | [],_,_=>rfl
 | w::r,i,m=>by rw [imgH,QjF own r]; simp
theorem Qif: ∀(L I:List (List Int)) (m:List Int),(QcP L I m).length=m.length
 | [],_,_=>by simp [QcP]
 | _::_,[],_=>by simp [QcP]
 | own::ro,im::ri,m=>by rw [QcP,Qif ro ri,QjF]
theorem QsN {m:List Int} {i:Nat} {w:Int} (h: ∀x∈m,WW x) (hw:WW w): ∀x∈m.set i w,WW x:=fun x hx=>by
 rcases List.mem_or_eq_of_mem_set hx with hx | rfl
 ·exact h x hx
 ·exact hw
theorem QjG (own:List Int): ∀(im:List Int) (i:Nat) (m:List Int),(∀x∈m,WW x)→ ∀x∈imgH own i im m,WW x
 | [],_,_,h=>h
 | w::r,i,m,h=>QjG own r (i+1) _ (QsN h (Qag w))
theorem QiH: ∀(L I:List (List Int)) (m:List Int),(∀x∈m,WW x)→ ∀x∈QcP L I m,WW x
 | [],_,_,h=>by simpa [QcP] using h
 | _::_,[],_,h=>by simpa [QcP] using h
 | own::ro,im::ri,m,h=>QiH ro ri _ (QjG own im 0 m h)
def Qiy (q:List Int):QH:=(List.replicate 16 0,0,List.replicate 11 0,false,false,false,0,q,[],())
def QtA (p:PolD) (I J:List (List Int)):Qw:=(p,QcP p.1 I (List.replicate 192 0),J.map Qiy,0,(p.2.2.2.1.getD 0 (0,0,())).2.1,0,())
theorem QtP {q:List Int} (h:OkQ q):hartM (Qiy q)=0:=by
 unfold hartM Qiy;dsimp only;rw [if_pos ⟨by simp,by simp,by simp⟩,if_pos ⟨by decide,by decide,by decide,Qah.2 h.words,by decide⟩,if_pos ⟨h.len,by simp⟩,if_pos (by decide),if_pos (by decide)]
theorem Qmp {p:PolD} (hok:OkPol p):QaZ p 0=(0,(p.2.2.2.1.getD 0 (0,0,())).2.1):=by
 unfold QaZ;dsimp only;rw [Int.zero_emod,QoY (Qev hok) hok.plan.1];rfl
theorem QsI (n:Nat): ∀x∈List.replicate n (0:Int),WW x:=fun x hx=>by
 rw [(List.mem_replicate.1 hx).2]; unfold WW; omega
theorem QtB {p:PolD} {I J:List (List Int)} (hp:polM p=0) (hj:J.length=p.1.length) (hq: ∀q∈J,OkQ q):HK (QtA p I J):=by
 have hok:=Qep hp;refine ⟨hp,⟨?_,?_⟩,?_,fun h hh=>?_,by show (0:Int)≤0∧(0:Int)≤1000000; omega,?_,?_⟩
 ·show QN (QcP p.1 I (List.replicate 192 0))=0;unfold QN;rw [Qif,if_pos (by simp),if_pos (Qah.2 (QiH _ _ _ (QsI _)))]
 ·show (QcP p.1 I (List.replicate 192 0)).length=192;rw [Qif]; simp
 ·show (J.map Qiy).length=p.1.length;rw [List.length_map]; exact hj
 ·obtain ⟨q,hm,rfl⟩:=List.mem_map.1 (show h∈J.map Qiy from hh)
  exact QtP (hq q hm)
 ·show (0:Int)=(QaZ p 0).1;rw [Qmp hok]
 ·show (p.2.2.2.1.getD 0 (0,0,())).2.1=(QaZ p 0).2;rw [Qmp hok]
theorem bdLt {n x:Int} (h:Bd n x) (hn:1≤n):0≤x∧x< n:=by unfold Bd at h; omega
structure OwnI (L:List (List Int)) (page:Int):Prop where
 one: ∀l∈L,1≤l.length∧l.length≤3
 up:L.flatten.Pairwise (· < ·)
 bd: ∀x∈L.flatten,0≤x∧x< page
 top:0≤page∧page≤2+3*(L.length:Int)
theorem OwnI.snoc {L:List (List Int)} {page:Int} (h:OwnI L page) {own:List Int} {K:Nat} (hK:1≤K∧K≤3) (hl:own.length=K) (hu:own.Pairwise (· < ·)) (hb: ∀x∈own,page≤x∧x< page+(K:Int)):OwnI (L++[own]) (page+(K:Int)):=by
 have hp:=h.top;have ef:(L++[own]).flatten=L.flatten++own:=by simp
 refine ⟨fun l hm=>?_,?_,fun x hx=>?_,?_⟩
 ·rcases List.mem_append.1 hm with hm | hm
  ·exact h.one l hm
  ·rw [List.mem_singleton.1 hm]; omega
 ·rw [ef,List.pairwise_append];exact ⟨h.up,hu,fun a ha b hb'=>by have:=(h.bd a ha).2; have:=(hb b hb').1; omega⟩
 ·rw [ef] at hx;rcases List.mem_append.1 hx with hx | hx
  ·have:=h.bd x hx; omega
  ·have:=hb x hx; omega
 ·rw [List.length_append,List.length_singleton]; omega
theorem Qlo: ∀{l seen:List Int},l.Nodup→(∀x∈l,x∉seen)→dupM seen l=false
 | [],_,_,_=>rfl
 | x::r,seen,h,hs=>by
  rw [List.nodup_cons] at h;simp only [dupM,Bool.or_eq_false_iff];refine ⟨by simpa using hs x (by simp),Qlo h.2 fun y hy hm=>?_⟩
  rcases List.mem_append.1 hm with hm | hm
  ·exact hs y (List.mem_cons_of_mem _ hy) hm
  ·rw [List.mem_singleton.1 hm] at hy; exact h.1 hy
theorem OwnI.owns {L:List (List Int)} {page:Int} (h:OwnI L page) (hl:1≤L.length∧L.length≤3):QdX L=0:=by
 have hp:=h.top
 have e:scan (fun (_:Nat) l=>Go.Proofs.YtkkljegcnnfanaaGreatDoor.own1 l) 0 L=none:=Qgj fun _ l hm=>by
  have:=h.one l hm;unfold Go.Proofs.YtkkljegcnnfanaaGreatDoor.own1;rw [if_pos (by omega)]
  refine Qgj fun _ x hx=>?_
  have:=h.bd x (List.mem_flatten.2 ⟨l,hm,hx⟩);rw [if_pos (Qdt.2 (by omega))]
 unfold QdX;rw [if_pos hl,e,Qlo (h.up.imp fun h=>Int.ne_of_lt h) (by simp)]
 rfl
theorem QwR {X p:PolD} {s:SrcD} {page g:Int} (K:Nat) (hp:0≤page∧page≤1000) (hK:K≤10):
  Dr (L_m_8 (((),((),((),(page,(g,(([]:List Int),((K:Int),()))))))),((X,(p,(s,()))),()))) fun o=> ∃own:List Int,o= .inl (((),((),((),(page+(K:Int),(g,(own,())))))),((X,(p,(s,()))),()))∧own.length=K∧own.Pairwise (· < ·)∧ ∀x∈own,page≤x∧x< page+(K:Int):=by
 refine Qab (fun m u=> ∃own:List Int,u=(((),((),((),(page+(own.length:Int),(g,(own,((m:Int),()))))))),((X,(p,(s,()))),()))∧own.length+m=K∧own.Pairwise (· < ·)∧ ∀x∈own,page≤x∧x< page+(own.length:Int)) ?_ K _ ⟨[],by simp,by simp,by simp,by simp⟩ (by rw [QG]; omega)
 rintro rec m _ ⟨own,rfl,hm,hu,hb⟩ ih;unfold l_m_8;dsimp only;by_cases c:0< m
 ·rw [if_pos (by rw [QB]; omega)]
  refine Dr.guard (by simp; omega) ?_
  rw [Qq (by omega) (by omega),Qq (by omega) (by omega)]
  refine ih (m-1) _ (by omega) ⟨own++[page+(own.length:Int)],?_,by simp; omega,?_,fun x hx=>?_⟩
  ·rw [List.length_append,List.length_singleton,show page+(own.length:Int)+1=page+((own.length+1:Nat):Int) by omega,show ((m:Int)-1)=((m-1:Nat):Int) by omega]
  ·rw [List.pairwise_append];exact ⟨hu,by simp,fun a ha b hb'=>by rw [List.mem_singleton.1 hb']; exact (hb a ha).2⟩
  ·rw [List.length_append,List.length_singleton];rcases List.mem_append.1 hx with hx | hx
   ·have:=hb x hx; omega
   ·rw [List.mem_singleton.1 hx]; omega
 ·obtain rfl:m=0:=by omega
  rw [if_neg (by rw [QB]; omega)]
  have:own.length=K:=by omega
  subst this;exact Dr.ret ⟨own,rfl,rfl,hu,hb⟩
theorem QwQ {X:PolD} {s:SrcD} {k page:Int} (G:Nat) (hG:1≤G∧G≤3) (hp:0≤page∧page≤2) (hs:Sr s k) (hk:k≤1000000):
  Dr (L_m_4 (((),((),((),(page,((G:Int),()))))),((X,((([]:List (List Int)),(([]:List QI),(([]:List TwoD),(([]:List TwoD),())))),(s,()))),()))) fun o=> ∃(L:List (List Int)) (page':Int) (s':SrcD),
   o= .inl (((),((),((),(page',())))),((X,((L,(([]:List QI),(([]:List TwoD),(([]:List TwoD),())))),(s',()))),()))∧Sr s' (k+3)∧L.length=G∧OwnI L page':=by
 have hk0:=hs.pos
 refine Qab (fun m u=> ∃(L:List (List Int)) (page':Int) (s':SrcD),u=(((),((),((),(page',((m:Int),()))))),((X,((L,(([]:List QI),(([]:List TwoD),(([]:List TwoD),())))),(s',()))),()))∧Sr s' (k+(G:Int)-(m:Int))∧L.length+m=G∧OwnI L page') ?_ G _
  ⟨[],page,s,rfl,hs.le (by omega),by simp,⟨by simp,by simp,by simp,by simp; omega⟩⟩ (by rw [QG]; omega)
 rintro rec m _ ⟨L,pa,s',rfl,hs',hl,hI⟩ ih;unfold l_m_4;dsimp only;have hpa:=hI.top;by_cases c:0< m
 ·rw [if_pos (by rw [QB]; omega)]
  refine (QW hs' (by omega) _).bind fun r6 h6=>?_
  have hb:=bdLt h6.2 (by omega)
  have e:IntKind.i64.wrap (1+(r6.1.1:Int))=((r6.1.1.toNat+1:Nat):Int):=by rw [Qq (by omega) (by omega)]; omega
  rw [e];refine (QwR (r6.1.1.toNat+1) (by omega) (by omega)).bind fun z hz=>?_
  obtain ⟨own,rfl,ho,hu,hbd⟩:=hz;dsimp only;refine Dr.guard (by simp; omega) ?_
  rw [Qq (by omega) (by omega)]
  refine ih (m-1) _ (by omega) ⟨L++[own],pa+((r6.1.1.toNat+1:Nat):Int),r6.2.1,?_,h6.1.le (by omega),by simp; omega,hI.snoc (by omega) ho hu hbd⟩
  rw [show ((m:Int)-1)=((m-1:Nat):Int) by omega]
 ·obtain rfl:m=0:=by omega
  rw [if_neg (by rw [QB]; omega)]
  exact Dr.ret ⟨L,pa,s',rfl,hs'.le (by omega),by omega,hI⟩
theorem QvM {X:PolD} {L:List (List Int)} {s:SrcD} {k page:Int} (hL:QdX L=0) (hl:1≤L.length∧L.length≤3) (hl2: ∀l∈L,l.length≤1048576) (hp:0≤page∧page≤100) (K:Nat) (hK:K≤3) (hs:Sr s k) (hk:k≤1000000):
  Dr (L_m_15 (((),((),((),(page,(((L.length:Nat):Int),((K:Int),())))))),((X,((L,(([]:List QI),(([]:List TwoD),(([]:List TwoD),())))),(s,()))),()))) fun o=> ∃(ls:List QI) (s':SrcD),
   o= .inl (((),((),((),(((L.length:Nat):Int),())))),((X,((L,(ls,(([]:List TwoD),(([]:List TwoD),())))),(s',()))),()))∧Sr s' (k+12)∧ls.length≤3∧QbS (L,ls,[],[],())=none:=by
 have hk0:=hs.pos
 refine Qab (fun m u=> ∃(ls:List QI) (pa:Int) (s':SrcD),u=(((),((),((),(pa,(((L.length:Nat):Int),((m:Int),())))))),((X,((L,(ls,(([]:List TwoD),(([]:List TwoD),())))),(s',()))),()))∧Sr s' (k+4*(3-(m:Int)))∧ls.length+m≤3∧(0≤pa∧pa+(m:Int)≤103)∧QbS (L,ls,[],[],())=none) ?_ K _
  ⟨[],page,s,rfl,hs.le (by omega),by simp; omega,by omega,rfl⟩ (by rw [QG]; omega)
 rintro rec m _ ⟨ls,pa,s',rfl,hs',hm,hpa,hI⟩ ih;unfold l_m_15;dsimp only;by_cases c:0< m
 ·rw [if_pos (by rw [QB]; omega)]
  refine Dr.guard (by simp; omega) ?_
  refine (QW hs' (by omega) _).bind fun r26 h26=>(QW h26.1 (by omega) _).bind fun r27 h27=>(QW h27.1 (by omega) _).bind fun r28 h28=>(QW h28.1 (by omega) _).bind fun r30 h30=>?_
  have em:((m:Int)-1)=((m-1:Nat):Int):=by omega
  dsimp only [List.nil_append];refine Dr.guard (by simp; omega) ?_
  rw [Qq (n:=pa+1) (by omega) (by omega),Qq (n:=(m:Int)-1) (by omega) (by omega)]
  generalize hx:((r26.1.1,(r27.1.1,(pa,(IntKind.i64.wrap (5+r28.1.1),(IntKind.i64.wrap (5+r30.1.1),()))))):QI)=x;have hlen:(ls++[x]).length=ls.length+1:=by simp
  have skip:Dr (rec (((),((),((),(pa,(((L.length:Nat):Int),((m:Int)-1,())))))),((X,((L,(ls,(([]:List TwoD),(([]:List TwoD),())))),(r30.2.1,()))),()))) fun o=> ∃(ls:List QI) (s':SrcD),
    o= .inl (((),((),((),(((L.length:Nat):Int),())))),((X,((L,(ls,(([]:List TwoD),(([]:List TwoD),())))),(s',()))),()))∧Sr s' (k+12)∧ls.length≤3∧QbS (L,ls,[],[],())=none:=
   ih (m-1) _ (by omega) ⟨ls,pa,r30.2.1,by rw [em],h30.1.le (by omega),by omega,by omega,hI⟩
  refine Dr.step (QiO (L,ls++[x],[],[],()) (by dsimp only; omega) hl2) (Dr.ite (fun _=>?_) fun _=>skip)
  refine Dr.step (QhJ (L,ls++[x],[],[],()) (by dsimp only; omega) hl2 (by dsimp only; omega)) (Dr.ite (fun h0=>?_) fun _=>skip)
  refine ih (m-1) _ (by omega) ⟨ls++[x],pa+1,r30.2.1,by rw [em],h30.1.le (by omega),by omega,by omega,?_⟩
  dsimp only at h0;rw [if_pos (by simp; omega)] at h0
  cases hM:QbS (L,ls++[x],[],[],()) with
  | none=>rfl
  | some c'=>
   rw [hM] at h0;exact absurd (by simpa using h0) (Qie hM)
 ·obtain rfl:m=0:=by omega
  rw [if_neg (by rw [QB]; omega)]
  exact Dr.ret ⟨ls,s',rfl,hs'.le (by omega),by omega,hI⟩
theorem QvN {X:PolD} {L:List (List Int)} {ls:List QI} {s:SrcD} {k:Int} (hl:1≤L.length∧L.length≤3) (K:Nat) (hK:K≤3) (hs:Sr s k) (hk:k≤1000000):
  Dr (L_m_23 (((),((),((),(((L.length:Nat):Int),((K:Int),()))))),((X,((L,(ls,(([]:List TwoD),(([]:List TwoD),())))),(s,()))),()))) fun o=> ∃(bs:List TwoD) (s':SrcD),
   o= .inl (((),((),((),(((L.length:Nat):Int),())))),((X,((L,(ls,(bs,(([]:List TwoD),())))),(s',()))),()))∧Sr s' (k+6)∧bs.length≤1∧ ∀b∈bs,(0≤b.1∧b.1< (L.length:Int))∧(0≤b.2.1∧b.2.1< (L.length:Int))∧b.1≠b.2.1:=by
 have hk0:=hs.pos
 refine Qab (fun m u=> ∃(bs:List TwoD) (s':SrcD),u=(((),((),((),(((L.length:Nat):Int),((m:Int),()))))),((X,((L,(ls,(bs,(([]:List TwoD),())))),(s',()))),()))∧Sr s' (k+2*(3-(m:Int)))∧m≤3∧bs.length≤1∧ ∀b∈bs,(0≤b.1∧b.1< (L.length:Int))∧(0≤b.2.1∧b.2.1< (L.length:Int))∧b.1≠b.2.1) ?_ K _
  ⟨[],s,rfl,hs.le (by omega),hK,by simp,by simp⟩ (by rw [QG]; omega)
 rintro rec m _ ⟨bs,s',rfl,hs',hm,hb1,hI⟩ ih;unfold l_m_23;dsimp only;by_cases c:0< m
 ·rw [if_pos (by rw [QB]; omega)]
  refine (QW hs' (by omega) _).bind fun r44 h44=>(QW h44.1 (by omega) _).bind fun r45 h45=>?_
  have em:((m:Int)-1)=((m-1:Nat):Int):=by omega
  have b1:=bdLt h44.2 (by omega)
  have b2:=bdLt h45.2 (by omega)
  rw [Qq (n:=(m:Int)-1) (by omega) (by omega)]
  have skip: ∀{Q},(∀x,(∃(bs:List TwoD) (s':SrcD),x=(((),((),((),(((L.length:Nat):Int),(((m-1:Nat):Int),()))))),((X,((L,(ls,(bs,(([]:List TwoD),())))),(s',()))),()))∧Sr s' (k+2*(3-((m-1:Nat):Int)))∧m-1≤3∧bs.length≤1∧ ∀b∈bs,(0≤b.1∧b.1< (L.length:Int))∧(0≤b.2.1∧b.2.1< (L.length:Int))∧b.1≠b.2.1)→Dr (rec x) Q)→Dr (rec (((),((),((),(((L.length:Nat):Int),((m:Int)-1,()))))),((X,((L,(ls,(bs,(([]:List TwoD),())))),(r45.2.1,()))),()))) Q:=fun h=>
   h _ ⟨bs,r45.2.1,by rw [em],h45.1.le (by omega),by omega,hb1,hI⟩
  refine Dr.ite (fun hne=>Dr.ite (fun h0=>Dr.guard (by simp; omega) ?_) fun _=>skip fun x hx=>ih (m-1) x (by omega) hx) fun _=>skip fun x hx=>ih (m-1) x (by omega) hx
  rw [QB] at h0;have e0:bs=[]:=List.eq_nil_of_length_eq_zero (by omega)
  subst e0;refine ih (m-1) _ (by omega) ⟨[(r44.1.1,(r45.1.1,()))],r45.2.1,by rw [em]; rfl,h45.1.le (by omega),by omega,by simp,fun b hb=>?_⟩
  rw [List.mem_singleton.1 hb];exact ⟨b1,b2,by simpa using hne⟩
 ·obtain rfl:m=0:=by omega
  rw [if_neg (by rw [QB]; omega)]
  exact Dr.ret ⟨bs,s',rfl,hs'.le (by omega),hb1,hI⟩
theorem QvO {X:PolD} {L:List (List Int)} {ls:List QI} {bs:List TwoD} {s:SrcD} {k:Int} (hl:1≤L.length∧L.length≤3) (K:Nat) (hK:K≤4) (hs:Sr s k) (hk:k≤1000000):
  Dr (L_m_29 (((),((),((),(((L.length:Nat):Int),((K:Int),()))))),((X,((L,(ls,(bs,(([]:List TwoD),())))),(s,()))),()))) fun o=> ∃(pl:List TwoD) (s':SrcD),
   o= .inl (((),((),())),((X,((L,(ls,(bs,(pl,())))),(s',()))),()))∧Sr s' (k+8)∧pl.length=K∧ ∀b∈pl,(0≤b.1∧b.1< (L.length:Int))∧1≤b.2.1∧b.2.1≤9:=by
 have hk0:=hs.pos
 refine Qab (fun m u=> ∃(pl:List TwoD) (s':SrcD),u=(((),((),((),(((L.length:Nat):Int),((m:Int),()))))),((X,((L,(ls,(bs,(pl,())))),(s',()))),()))∧Sr s' (k+2*(4-(m:Int)))∧pl.length+m=K∧ ∀b∈pl,(0≤b.1∧b.1< (L.length:Int))∧1≤b.2.1∧b.2.1≤9) ?_ K _
  ⟨[],s,rfl,hs.le (by omega),by simp,by simp⟩ (by rw [QG]; omega)
 rintro rec m _ ⟨pl,s',rfl,hs',hm,hI⟩ ih;unfold l_m_29;dsimp only;by_cases c:0< m
 ·rw [if_pos (by rw [QB]; omega)]
  refine (QW hs' (by omega) _).bind fun r57 h57=>(QW h57.1 (by omega) _).bind fun r58 h58=>?_
  have em:((m:Int)-1)=((m-1:Nat):Int):=by omega
  have b1:=bdLt h57.2 (by omega)
  have b2:=bdLt h58.2 (by omega)
  rw [Qq (n:=(m:Int)-1) (by omega) (by omega),Qq (n:=1+(r58.1.1:Int)) (by omega) (by omega)]
  refine Dr.guard (by simp; omega) ?_
  refine ih (m-1) _ (by omega) ⟨pl++[(r57.1.1,(1+(r58.1.1:Int),()))],r58.2.1,by rw [em],h58.1.le (by omega),by simp; omega,fun b hb=>?_⟩
  rcases List.mem_append.1 hb with hb | hb
  ·exact hI b hb
  ·rw [List.mem_singleton.1 hb]; exact ⟨b1,by dsimp only; omega,by dsimp only; omega⟩
 ·obtain rfl:m=0:=by omega
  rw [if_neg (by rw [QB]; omega)]
  exact Dr.ret ⟨pl,s',rfl,hs'.le (by omega),by omega,hI⟩
theorem QsK {L:List (List Int)} {ls:List QI} {bs pl:List TwoD} (h1:QdX L=0) (h2:ls.length≤3) (h3:QbS (L,ls,[],[],())=none) (h4:bs.length≤1)
  (h5: ∀b∈bs,(0≤b.1∧b.1< (L.length:Int))∧(0≤b.2.1∧b.2.1< (L.length:Int))∧b.1≠b.2.1) (h6:1≤pl.length∧pl.length≤4) (h7: ∀b∈pl,(0≤b.1∧b.1< (L.length:Int))∧1≤b.2.1∧b.2.1≤9):polM (L,ls,bs,pl,())=0:=by
 have e1:QbS (L,ls,bs,pl,())=none:=h3
 have e2:QdY (L,ls,bs,pl,())=none:=by
  unfold QdY
  match bs,h4,h5 with
  | [],_,_=>rfl
  | [b],_,h5=>
   have:=h5 b (by simp)
   simp only [scan];unfold Qfi QcL;rw [if_pos (QaP.2 this.1),if_pos (QaP.2 this.2.1),if_neg this.2.2];rfl
 have e3:QiJ (L,ls,bs,pl,())=0:=by
  unfold QiJ;rw [if_pos (by dsimp only; omega),Qgj]
  intro _ b hb;have:=h7 b hb;rw [if_pos (QaP.2 this.1),if_pos (Qdt.2 (by omega))]
 unfold polM;rw [if_neg (by simpa using h1),if_pos (by dsimp only; omega),e1]
 dsimp only;rw [e2];exact e3
theorem Qtw {n x:Int} (h:Bd n x): ∃K:Nat,x=(K:Int)∧((K:Int)< n∨K=0):=⟨x.toNat,by unfold Bd at h; omega,by unfold Bd at h; omega⟩
theorem QjL {s:SrcD} {k:Int} (hs:Sr s k) (hk:k≤900000):Dr (F_m (s,())) fun r=>Sr r.2.1 (k+100)∧polM r.1.1=0:=by
 have hk0:=hs.pos;unfold F_m;refine (QW hs (by omega) _).bind fun r1 h1=>(Qbt h1.1 (by omega) _ _).bind fun r2 h2=>?_
 have b1:=bdLt h1.2 (by omega)
 obtain ⟨G,eG,hG⟩: ∃G:Nat,(r2.1.1:Int)=(G:Int)∧1≤G∧G≤3:=by
  have key: ∀v:Int,v∈[(2:Int),3,3,1]→ ∃G:Nat,v=(G:Int)∧1≤G∧G≤3:=fun v hv=>by
   simp only [List.mem_cons,List.not_mem_nil,or_false] at hv;exact ⟨v.toNat,by omega,by omega⟩
  exact key _ h2.2
 rw [eG];refine (QwQ G hG (by omega) h2.1 (by omega)).bind fun z hz=>?_
 obtain ⟨L,page,s1,rfl,hs1,hl,hI⟩:=hz;dsimp only;have hl3:1≤L.length∧L.length≤3:=by omega
 have hO:=hI.owns hl3;have hp:=hI.top;have hl2: ∀l∈L,l.length≤1048576:=fun l hm=>by have:=hI.one l hm; omega
 refine (QW hs1 (by omega) _).bind fun r18 h18=>?_
 obtain ⟨K1,e1,c1⟩:=Qtw h18.2;rw [e1];refine (QvM hO hl3 hl2 (by omega) K1 (by omega) h18.1 (by omega)).bind fun z hz=>?_
 obtain ⟨ls,s2,rfl,hs2,hls,hlm⟩:=hz;dsimp only;refine (QW hs2 (by omega) _).bind fun r41 h41=>?_
 obtain ⟨K2,e2,c2⟩:=Qtw h41.2;rw [e2];refine (QvN hl3 K2 (by omega) h41.1 (by omega)).bind fun z hz=>?_
 obtain ⟨bs,s3,rfl,hs3,hbs,hbm⟩:=hz;dsimp only;refine (QW hs3 (by omega) _).bind fun r53 h53=>?_
 obtain ⟨K3,e3,c3⟩:=Qtw h53.2;rw [e3,Qq (by omega) (by omega),show (1:Int)+(K3:Int)=((K3+1:Nat):Int) by omega]
 refine (QvO hl3 (K3+1) (by omega) h53.1 (by omega)).bind fun z hz=>?_
 obtain ⟨pl,s4,rfl,hs4,hpl,hpm⟩:=hz;exact Dr.ret ⟨hs4.le (by omega),QsK hO hls hlm hbs hbm (by omega) hpm⟩
def Fit (p:PolD) (I:List (List Int)):Prop:=I.length=p.1.length∧ ∀j (h1:j< p.1.length) (h2:j< I.length),I[j].length≤8*p.1[j].length
theorem Qsb {p:PolD} {s:SrcD} {k:Int} (hok:OkPol p) (hs:Sr s k) (hk:k≤1000000):Dr (F_v (s,p,())) fun r=>Sr r.2.1 (k+4000)∧Fit p r.1.1:=by
 have hk0:=hs.pos;have h3:=hok.own;unfold F_v
 have key:Dr (L_v_3 (((),((),(([]:List (List Int)),((0:Int),())))),(((p.1,(p.2.1,(p.2.2.1,(p.2.2.2.1,())))),(s,())),()))) fun o=> ∃(I:List (List Int)) (s':SrcD),o= .inl ((I,()),((s',()),()))∧Sr s' (k+4000)∧Fit p I:=by
  refine Qab (fun m u=> ∃(I:List (List Int)) (s':SrcD),u=(((),((),(I,(((I.length:Nat):Int),())))),((p,(s',())),()))∧Sr s' (k+1100*(I.length:Int))∧I.length+m=p.1.length∧ ∀j (h1:j< p.1.length) (h2:j< I.length),I[j].length≤8*p.1[j].length) ?_ p.1.length _
   ⟨[],s,rfl,hs.le (by simp),by simp,fun j _ h2=>by simp at h2⟩ (by rw [QG]; omega)
  rintro rec m _ ⟨I,s',rfl,hs',hm,hI⟩ ih;unfold l_v_3;dsimp only;by_cases c:I.length< p.1.length
  ·have hm0:p.1[I.length]∈p.1:=List.getElem_mem c;have h5:=hok.own1 _ hm0;rw [if_pos (lt_t c),if_pos nat0,Qn c];rw [Qq (n:=(((p.1[I.length]).length:Nat):Int)*8) (by omega) (by omega),Qq (n:=(((p.1[I.length]).length:Nat):Int)*8+1) (by omega) (by omega)]
   refine (QW hs' (by omega) _).bind fun r9 h9=>?_
   have b9:=bdLt h9.2 (by omega)
   refine (Qvs h9.1 (by omega) r9.1.1 b9.1 (by omega)).bind fun r10 h10=>?_
   refine Dr.guard (by simp; omega) ?_
   rw [QQ (by omega)]
   refine ih (m-1) _ (by omega) ⟨I++[r10.1.1],r10.2.1,by simp,h10.1.le (by simp; omega),by simp; omega,fun j h1 h2=>?_⟩
   by_cases cj:j< I.length
   ·rw [List.getElem_append_left cj]; exact hI j h1 cj
   ·have:j=I.length:=by simp at h2; omega
    subst this;rw [List.getElem_concat_length (by rfl)]
    have:=h10.2;omega
  ·rw [if_neg (lt_f c)];exact Dr.ret ⟨I,s',rfl,hs'.le (by omega),by omega,hI⟩
 refine key.bind fun z hz=>?_
 obtain ⟨I,s',rfl,hs',hI⟩:=hz;exact Dr.ret ⟨hs',hI⟩
def FitQ (p:PolD) (J:List (List Int)):Prop:=J.length=p.1.length∧ ∀q∈J,OkQ q
theorem QgX {v:Qhg} (h:Qnp maxLen (vD v)):Qkh v v=true:=by
 obtain ⟨v1,v2,v3,v4,v5,v6,v7,v8,v9,v10,v11,_⟩:=v;obtain ⟨⟨h1,h2,h3,h4⟩,h5,h6⟩:=h;unfold vD at h1 h2 h3 h4 h5 h6;dsimp only at h1 h2 h3 h4 h5 h6
 have e:F_eg (vD (v1,v2,v3,v4,v5,v6,v7,v8,v9,v10,v11,()),vD (v1,v2,v3,v4,v5,v6,v7,v8,v9,v10,v11,()),())=some ((true,()),()):=by
  unfold F_eg F_ef vD;dsimp only;rw [Qao (v1,v1,()) h1,Qao (v3,v3,()) h2,Qao (v8,v8,()) h3,Qao (v9,v9,()) h4,Qao (v10,v10,()) h5,Qao (v11,v11,()) h6];simp
 unfold Qkh;rw [e]
theorem HK.pgs {x:Qw} (h:HK x) {g:Int} (hg:isG x.1 g=true): ∀q∈pgM x.1 g,0≤q.1→8*q.1+8≤(x.2.1.length:Int):=fun q hq _=>by
 have:=QpU h.ok hg q hq;rw [h.mem.2];omega
def sinM (v:Int):List Int→List Int
 | []=>[v]
 | x::r=>if x< v then x::sinM v r else if x=v then x::r else v::x::r
def srt (l:List Int):List Int:=l.foldl (fun acc v=>sinM v acc) []
theorem Qmb {v:Int}: ∀{A B:List Int},(∀a∈A,a< v)→sinM v (A++B)=A++sinM v B
 | [],_,_=>rfl
 | a::A,B,h=>by
  rw [List.cons_append,sinM,if_pos (h a (by simp)),Qmb fun x hx=>h x (List.mem_cons_of_mem _ hx)]
  rfl
theorem QoF {v:Int} {B:List Int} (h: ∀b∈B,v< b):sinM v B=v::B:=by
 cases B with
 | nil=>rfl
 | cons b r=>
  have:=h b (by simp)
  rw [sinM,if_neg (by omega),if_neg (by omega)]
theorem Qeu {v x:Int}: ∀{L:List Int},x∈sinM v L↔x=v∨x∈L
 | []=>by simp [sinM]
 | y::r=>by
  rw [sinM];by_cases c:y< v
  ·rw [if_pos c,List.mem_cons,Qeu,List.mem_cons];constructor
   ·rintro (h | h | h) <;> simp [h]
   ·rintro (h | h | h) <;> simp [h]
  ·rw [if_neg c];by_cases d:y=v
   ·rw [if_pos d,List.mem_cons];subst d;simp
   ·rw [if_neg d]; simp
theorem QiZ {v:Int}: ∀{L:List Int},L.Pairwise (· < ·)→(sinM v L).Pairwise (· < ·)
 | [],_=>by simp [sinM]
 | y::r,h=>by
  have h':=h;rw [List.pairwise_cons] at h';rw [sinM];by_cases c:y< v
  ·rw [if_pos c,List.pairwise_cons];refine ⟨fun x hx=>?_,QiZ h'.2⟩
   rcases Qeu.1 hx with rfl | hx
   ·exact c
   ·exact h'.1 x hx
  ·rw [if_neg c];by_cases d:y=v
   ·rw [if_pos d]; exact h
   ·rw [if_neg d,List.pairwise_cons];refine ⟨fun x hx=>?_,h⟩
    rcases List.mem_cons.1 hx with rfl | hx
    ·omega
    ·have:=h'.1 x hx; omega
theorem Qkk {v:Int}: ∀{L:List Int},L.Pairwise (· < ·)→v∉L→(sinM v L).length=L.length+1
 | [],_,_=>rfl
 | y::r,h,hv=>by
  rw [List.pairwise_cons] at h;rw [sinM];by_cases c:y< v
  ·rw [if_pos c,List.length_cons,Qkk h.2 fun q=>hv (List.mem_cons_of_mem _ q),List.length_cons]
  ·rw [if_neg c,if_neg (fun e=>hv (by simp [e]))]; simp
theorem QuN (l:List Int) (v:Int):srt (l++[v])=sinM v (srt l):=by unfold srt; rw [List.foldl_append]; rfl
theorem Qqt: ∀{l:List Int},l.Nodup→(srt l).Pairwise (· < ·)∧(∀x,x∈srt l↔x∈l)∧(srt l).length=l.length:=by
 have key: ∀{l acc:List Int},l.Nodup→(∀x∈l,x∉acc)→acc.Pairwise (· < ·)→(l.foldl (fun acc v=>sinM v acc) acc).Pairwise (· < ·)∧(∀x,x∈l.foldl (fun acc v=>sinM v acc) acc↔x∈acc∨x∈l)∧(l.foldl (fun acc v=>sinM v acc) acc).length=acc.length+l.length:=by
  intro l
  induction l with
  | nil=>intro acc _ _ h; exact ⟨h,by simp,by simp⟩
  | cons v r ih=>
   intro acc hn ha hp;rw [List.nodup_cons] at hn
   obtain ⟨h1,h2,h3⟩:=ih (acc:=sinM v acc) hn.2 (fun x hx hm=>by
    rcases Qeu.1 hm with rfl | hm
    ·exact hn.1 hx
    ·exact ha x (List.mem_cons_of_mem _ hx) hm) (QiZ hp)
   refine ⟨h1,fun x=>?_,?_⟩
   ·rw [List.foldl_cons,h2,Qeu,List.mem_cons];constructor
    ·rintro ((h | h) | h) <;> simp [h]
    ·rintro (h | h | h) <;> simp [h]
   ·rw [List.foldl_cons,h3,Qkk hp (ha v (by simp)),List.length_cons]; omega
 intro l h;obtain ⟨h1,h2,h3⟩:=key (acc:=[]) h (by simp) List.Pairwise.nil
 exact ⟨h1,fun x=>by rw [srt,h2]; simp,by rw [srt,h3]; simp⟩
theorem QwE (a b:Int):F_cmp_Less_int64 (a,b,())=some ((ltI a b,()),()):=by
 unfold F_cmp_Less_int64 F_cmp_isNaN_int64;simp
theorem QvS {pre rest:List Int} {v n i:Int} (hp:pre.Pairwise (· < ·)) (hv:v∉pre) (hl:(pre++v::rest).length≤1000):
  L_gn_4 (((),((0:Int),(n,(i,(((pre.length:Nat):Int),()))))),((),(pre++v::rest,())))=some (.inl (((),((0:Int),(n,(i,())))),((),(sinM v pre++rest,())))):=by
 refine Dr.eq ?_;refine Qab (fun m u=> ∃A B:List Int,pre=A++B∧(∀b∈B,v< b)∧u=(((),((0:Int),(n,(i,(((A.length:Nat):Int),()))))),((),(A++v::(B++rest),())))∧m=A.length) ?_ pre.length _ ⟨pre,[],by simp,by simp,rfl,rfl⟩ (by simp at hl; rw [QG]; omega)
 rintro rec m _ ⟨A,B,rfl,hB,rfl,rfl⟩ ih;unfold l_gn_4;dsimp only;simp only [List.length_append,List.length_cons] at hl;rcases List.eq_nil_or_concat A with rfl | ⟨A',y,rfl⟩
 ·rw [if_neg (by rw [QB]; simp)]
  simp only [List.nil_append];rw [QoF hB];exact Dr.ret rfl
 ·rw [List.concat_eq_append] at*;simp only [List.length_append,List.length_singleton] at hl;have hy:y∈(A'++[y])++B:=by simp
  have d0:(A'++[y])++v::(B++rest)=A'++y::v::(B++rest):=by simp
  have lt1:A'.length< (A'++y::v::(B++rest)).length:=by simp
  have lt2:A'.length+1< (A'++y::v::(B++rest)).length:=by simp
  have g1:(A'++y::v::(B++rest))[A'.length]'lt1=y:=by simp
  have g2:(A'++y::v::(B++rest))[A'.length+1]'lt2=v:=by
   rw [List.getElem_append_right (by omega)]
   simp
  have ej:((((A'++[y]).length:Nat)):Int)=((A'.length+1:Nat):Int):=by simp
  have ej1:IntKind.i64.wrap (((A'.length+1:Nat):Int)-1)=((A'.length:Nat):Int):=by rw [Qq (by omega) (by omega)]; omega
  rw [d0,ej,ej1,if_pos (by rw [QB]; omega)]
  have in1:0≤((A'.length:Nat):Int)∧((A'.length:Nat):Int)< (((A'++y::v::(B++rest)).length:Nat):Int):=by omega
  have in2:0≤((A'.length+1:Nat):Int)∧((A'.length+1:Nat):Int)< (((A'++y::v::(B++rest)).length:Nat):Int):=by omega
  rw [if_pos in2,Qn lt2,if_pos in1,Qn lt1,g1,g2,QwE,Obn];dsimp only;by_cases c:v< y
  ·have s1:(A'++y::v::(B++rest)).set (((A'.length+1:Nat):Int)).toNat y=A'++y::y::(B++rest):=by
    rw [Int.toNat_natCast,List.set_append_right _ _ (by omega),show A'.length+1-A'.length=1 by omega]; rfl
   have lt3:A'.length< (A'++y::y::(B++rest)).length:=by simp
   have in3:0≤((A'.length:Nat):Int)∧((A'.length:Nat):Int)< (((A'++y::y::(B++rest)).length:Nat):Int):=by omega
   have s2:(A'++y::y::(B++rest)).set (((A'.length:Nat):Int)).toNat v=A'++v::(y::B++rest):=by
    rw [Int.toNat_natCast,List.set_append_right _ _ (by omega),Nat.sub_self]; rfl
   rw [if_pos (by rw [QB]; exact c),if_pos in1,Qn lt1,if_pos in2,Qn lt2,if_pos in2,Qn lt2,g1,g2,s1,if_pos in3,Qn lt3,s2]
   exact ih A'.length _ (by simp) ⟨A',y::B,by simp,fun b hb=>by
    rcases List.mem_cons.1 hb with rfl | hb
    ·exact c
    ·exact hB b hb,rfl,rfl⟩
  ·rw [if_neg (by rw [QB]; exact c)]
   have yv:y< v:=by
    have:v≠y:=fun e=>hv (e▸hy)
    omega
   rw [List.pairwise_append] at hp
   have hA: ∀a∈A'++[y],a< v:=fun a ha=>by
    rcases List.mem_append.1 ha with ha' | ha'
    ·have:=(List.pairwise_append.1 hp.1).2.2 a ha' y (by simp)
     omega
    ·rw [List.mem_singleton.1 ha']; exact yv
   rw [Qmb hA,QoF hB];refine Dr.ret ?_;simp
theorem QvR {l:List Int} (h:l.Nodup) (hl:l.length≤1000):L_gn_1 (((),((0:Int),(((l.length:Nat):Int),((1:Int),())))),((),(l,())))=some (.inl ((),((),(srt l,())))):=by
 refine Dr.eq ?_;refine Qab (fun m u=> ∃i:Nat,1≤i∧m=l.length-i∧u=(((),((0:Int),(((l.length:Nat):Int),((i:Int),())))),((),(srt (l.take i)++l.drop i,())))) ?_ (l.length-1) _ ⟨1,by omega,rfl,?_⟩ (by rw [QG]; omega)
 ·rintro rec m _ ⟨i,h1,hm,rfl⟩ ih;unfold l_gn_1;dsimp only;by_cases c:i< l.length
  ·rw [if_pos (lt_t c)];have nd:=h.sublist (List.take_sublist i l);obtain ⟨o1,o2,o3⟩:=Qqt nd;have lt:(srt (l.take i)).length=i:=by rw [o3,List.length_take]; omega
   have hv:l[i]∉srt (l.take i):=fun hm=>by
    rw [o2,List.mem_take_iff_getElem] at hm;obtain ⟨j,hj,e⟩:=hm;have:=List.pairwise_iff_getElem.1 h j i (by omega) c (by omega)
    exact this e
   rw [List.drop_eq_getElem_cons c];have key:=QvS (n:=((l.length:Nat):Int)) (i:=(i:Int)) (rest:=l.drop (i+1)) o1 hv (by simp [lt]; omega)
   rw [lt] at key;refine Dr.step key ?_;dsimp only;rw [QQ (by omega)]
   refine ih (m-1) _ (by omega) ⟨i+1,by omega,by omega,?_⟩
   rw [Qgo c,QuN]
  ·rw [if_neg (lt_f c),List.take_of_length_le (by omega),List.drop_of_length_le (by omega),List.append_nil]
   exact Dr.ret rfl
 ·cases l with
  | nil=>rfl
  | cons x r=>rfl
theorem Qvv (n:Nat) (h:n≤12): ∃r:Int,F_gm (IntKind.u64.wrap ((n:Nat):Int),())=some ((r,()),()):=by
 have:n=0∨n=1∨n=2∨n=3∨n=4∨n=5∨n=6∨n=7∨n=8∨n=9∨n=10∨n=11∨n=12:=by omega
 rcases this with rfl | rfl | rfl | rfl | rfl | rfl | rfl | rfl | rfl | rfl | rfl | rfl | rfl
 ·exact ⟨0,by kernel_rfl⟩
 ·exact ⟨1,by kernel_rfl⟩
 ·exact ⟨2,by kernel_rfl⟩
 ·exact ⟨2,by kernel_rfl⟩
 ·exact ⟨3,by kernel_rfl⟩
 ·exact ⟨3,by kernel_rfl⟩
 ·exact ⟨3,by kernel_rfl⟩
 ·exact ⟨3,by kernel_rfl⟩
 ·exact ⟨4,by kernel_rfl⟩
 ·exact ⟨4,by kernel_rfl⟩
 ·exact ⟨4,by kernel_rfl⟩
 ·exact ⟨4,by kernel_rfl⟩
 ·exact ⟨4,by kernel_rfl⟩
theorem QwU {l:List Int} (h:l.Nodup) (hl:l.length≤12):F_gp (l,())=some ((),(srt l,())):=by
 have o3:=(Qqt h).2.2;obtain ⟨r,er⟩:=Qvv l.length hl
 have e1:F_gn (l,0,((l.length:Nat):Int),())=some ((),(srt l,())):=by
  refine Dr.eq ?_;unfold F_gn;exact Dr.step (QvR h (by omega)) (Dr.guard (by simp [o3]) (Dr.ret rfl))
 have e2:F_go (l,0,((l.length:Nat):Int),r,())=some ((),(srt l,())):=by
  refine Dr.eq ?_;unfold F_go
  have k:L_go_2 (((),((0:Int),(((l.length:Nat):Int),(r,(true,(true,())))))),((),(l,())))=some (.inl ((),((),(srt l,())))):=by
   refine Dr.eq ?_;refine Qab (fun m u=>u=(((),((0:Int),(((l.length:Nat):Int),(r,(true,(true,())))))),((),(l,())))) ?_ 0 _ rfl (by rw [QG]; omega)
   rintro rec m _ rfl _;unfold l_go_2;dsimp only;rw [Qq (by omega) (by omega)]
   exact Dr.pos (by rw [QaW]; omega) (Dr.step e1 (Dr.guard (by simp [o3]) (Dr.ret rfl)))
  exact Dr.step k (Dr.guard (by simp [o3]) (Dr.ret rfl))
 refine Dr.eq ?_;unfold F_gp;exact Dr.step er (Dr.step e2 (Dr.guard (by simp [o3]) (Dr.guard (by simp [o3]) (Dr.ret rfl))))
abbrev Qxa:=Int×List Int×Unit
theorem Qvf {p:PolD} {g:Int} (h:askM p g=0):polM p=0∧isG p g=true:=by
 unfold askM at h;split at h
 ·exact absurd h ‹_›
 ·rename_i h1;split at h
  ·exact ⟨by simpa using h1, ‹_›⟩
  ·cases h
def ins (acc l:List Int):List Int:=l.foldl (fun a v=>sinM v a) acc
theorem QfB: ∀{l acc:List Int},acc.Pairwise (· < ·)→(ins acc l).Pairwise (· < ·)∧ ∀x,x∈ins acc l↔x∈acc∨x∈l
 | [],acc,h=>⟨h,by simp [ins]⟩
 | v::r,acc,h=>by
  obtain ⟨h1,h2⟩:=QfB (l:=r) (QiZ (v:=v) h);refine ⟨h1,fun x=>?_⟩
  have h2:x∈ins acc (v::r)↔x∈sinM v acc∨x∈r:=h2 x;rw [h2,Qeu,List.mem_cons];constructor
  ·rintro ((h | h) | h) <;> simp [h]
  ·rintro (h | h | h) <;> simp [h]
theorem QuT: ∀{L:List Int} {a b:Int},L.Pairwise (· < ·)→(∀x∈L,a≤x∧x< b)→(L.length:Int)≤b-a∨L=[]
 | [],_,_,_,_=> .inr rfl
 | x::r,a,b,h,hx=>by
  rw [List.pairwise_cons] at h;have h0:=hx x (by simp)
  rcases QuT (a:=x+1) (b:=b) h.2 (fun y hy=>⟨by have:=h.1 y hy; omega,(hx y (List.mem_cons_of_mem _ hy)).2⟩) with e | e
  ·left; rw [List.length_cons]; omega
  ·left; rw [e]; simp; omega
theorem Qrq: ∀{A B:List Int},A.Pairwise (· < ·)→(∀x∈A,x∈B)→A.length≤B.length
 | [],_,_,_=>Nat.zero_le _
 | a::r,B,h,hs=>by
  rw [List.pairwise_cons] at h;have ha:=hs a (by simp)
  have hl:=List.length_erase_of_mem ha
  have h1:=Qrq (B:=B.erase a) h.2 fun x hx=>by
   have hne:x≠a:=fun e=>by have:=h.1 x hx; omega
   exact (List.mem_erase_of_ne hne).2 (hs x (List.mem_cons_of_mem _ hx))
  have hp:=List.length_pos_of_mem ha;rw [List.length_cons]; omega
def lfr (g:Int) (l:List QI):List Int:=(l.filter fun x=>x.2.1==g).map (·.1)
def bfr (g:Int) (l:List TwoD):List Int:=(l.filter fun x=>x.2.1==g).map (·.1)
def QbG (p:PolD) (g:Int):List Int:=ins (ins [] (lfr g p.2.1)) (bfr g p.2.2.1)
def QaX (p:PolD) (x g:Int):Bool:=p.2.1.any (fun l=>l.1==x && l.2.1==g) || p.2.2.1.any (Qaq (x,g,()))
theorem Qsu (p:PolD) (g:Int):(QbG p g).Pairwise (· < ·):=(QfB (QfB List.Pairwise.nil).1).1
theorem QhF {x g:Int} {b:TwoD}:Qaq (x,g,()) b=true↔b.1=x∧b.2.1=g:=by
 obtain ⟨b1,b2,_⟩:=b;unfold Qaq;simp;constructor <;> rintro ⟨h1,h2⟩ <;> simp [h1,h2]
theorem Qdx {p:PolD} {x g:Int}:x∈QbG p g↔QaX p x g=true:=by
 unfold QbG QaX;rw [(QfB (QfB List.Pairwise.nil).1).2,(QfB List.Pairwise.nil).2,Bool.or_eq_true,List.any_eq_true,List.any_eq_true];unfold lfr bfr;simp only [List.mem_map,List.mem_filter,List.not_mem_nil,false_or,beq_iff_eq,Bool.and_eq_true];constructor
 ·rintro (⟨l,⟨h1,h2⟩,h3⟩ | ⟨b,⟨h1,h2⟩,h3⟩)
  ·exact .inl ⟨l,h1,h3,h2⟩
  ·exact .inr ⟨b,h1,QhF.2 ⟨h3,h2⟩⟩
 ·rintro (⟨l,h1,h3,h2⟩ | ⟨b,h1,h2⟩)
  ·exact .inl ⟨l,⟨h1,h2⟩,h3⟩
  ·exact .inr ⟨b,⟨h1,(QhF.1 h2).2⟩,(QhF.1 h2).1⟩
theorem QcO {p:PolD} (hok:OkPol p) {x g:Int} (h:QaX p x g=true):isG p x=true:=by
 unfold QaX at h;rw [Bool.or_eq_true,List.any_eq_true,List.any_eq_true] at h;rcases h with ⟨l,h1,h2⟩ | ⟨b,h1,h2⟩
 ·simp only [Bool.and_eq_true,beq_iff_eq] at h2;rw [←h2.1]; exact (QcA hok l h1).1.1
 ·rw [←(QhF.1 h2).1]; exact (Quq hok b h1).1
theorem Qpt {p:PolD} (hok:OkPol p) {L:List Int} (h:L.Pairwise (· < ·)) (hg: ∀x∈L,isG p x=true):L.length≤3:=by
 have:=hok.own.2;rcases QuT (a:=0) (b:=(p.1.length:Int)) h (fun x hx=>QaP.1 (hg x hx)) with e | e
 ·omega
 ·rw [e]; simp
theorem Qom {p:PolD} (hok:OkPol p) {g x:Int} (h:x∈QbG p g):isG p x=true:=QcO hok (Qdx.1 h)
def rnd (p:PolD) (out:List Int):List Int:=out.foldl (fun acc y=>ins acc (QbG p y)) out
def QeS (p:PolD) (g:Int):List Int:=rnd p (rnd p (rnd p (QbG p g)))
theorem QfO {p:PolD} {out:List Int} (h:out.Pairwise (· < ·)):(rnd p out).Pairwise (· < ·)∧ ∀x,x∈rnd p out↔x∈out∨ ∃y∈out,x∈QbG p y:=by
 have key: ∀{l acc:List Int},acc.Pairwise (· < ·)→(l.foldl (fun acc y=>ins acc (QbG p y)) acc).Pairwise (· < ·)∧ ∀x,x∈l.foldl (fun acc y=>ins acc (QbG p y)) acc↔x∈acc∨ ∃y∈l,x∈QbG p y:=by
  intro l
  induction l with
  | nil=>intro acc h; exact ⟨h,by simp⟩
  | cons y r ih=>
   intro acc h;obtain ⟨h1,h2⟩:=ih (acc:=ins acc (QbG p y)) (QfB h).1;refine ⟨h1,fun x=>?_⟩
   rw [List.foldl_cons,h2,(QfB h).2];constructor
   ·rintro ((h | h) | ⟨z,h3,h4⟩)
    ·exact .inl h
    ·exact .inr ⟨y,by simp,h⟩
    ·exact .inr ⟨z,List.mem_cons_of_mem _ h3,h4⟩
   ·rintro (h | ⟨z,h3,h4⟩)
    ·exact .inl (.inl h)
    ·rcases List.mem_cons.1 h3 with rfl | h3
     ·exact .inl (.inr h4)
     ·exact .inr ⟨z,h3,h4⟩
 exact key h
structure UpG (p:PolD) (L:List Int):Prop where
 up:L.Pairwise (· < ·)
 g: ∀x∈L,isG p x=true
theorem UpG.len {p:PolD} (hok:OkPol p) {L:List Int} (h:UpG p L):L.length≤3:=Qpt hok h.up h.g
theorem UpG.rnd {p:PolD} (hok:OkPol p) {L:List Int} (h:UpG p L):UpG p (rnd p L):=
 ⟨(QfO h.up).1,fun x hx=>by
  rcases ((QfO h.up).2 x).1 hx with h1 | ⟨y,_,h2⟩
  ·exact h.g x h1
  ·exact Qom hok h2⟩
theorem QlF {p:PolD} (hok:OkPol p) (g:Int):UpG p (QbG p g):=⟨Qsu p g,fun _=>Qom hok⟩
def QgH (p:PolD) (L:List Int):Prop:= ∀y∈L, ∀x∈QbG p y,x∈L
theorem QgM {p:PolD} {L:List Int} (h:L.Pairwise (· < ·)) (hc:QgH p L):QgH p (rnd p L):=by
 have same: ∀x,x∈rnd p L↔x∈L:=fun x=>by
  rw [(QfO h).2];constructor
  ·rintro (h | ⟨y,h1,h2⟩)
   ·exact h
   ·exact hc y h1 x h2
  ·exact .inl
 intro y hy x hx;rw [same] at hy⊢;exact hc y hy x hx
theorem Qka {p:PolD} {L:List Int} (h:L.Pairwise (· < ·)) (hc: ¬QgH p L):L.length< (rnd p L).length:=by
 obtain ⟨r1,r2⟩:=QfO (p:=p) h;refine Nat.lt_of_not_le fun hle=>hc fun y hy x hx=>?_
 refine Classical.byContradiction fun hn=>?_
 have h1:=Qrq (A:=sinM x L) (B:=rnd p L) (QiZ h) fun z hz=>by
  rcases Qeu.1 hz with rfl | hz
  ·exact (r2 _).2 (.inr ⟨y,hy,hx⟩)
  ·exact (r2 _).2 (.inl hz)
 rw [Qkk h hn] at h1;omega
theorem Qnf {p:PolD} (hok:OkPol p) (g:Int):QgH p (QeS p g):=by
 refine Classical.byContradiction fun h3=>?_
 have a0:=QlF hok g;have a1:=a0.rnd hok;have a2:=a1.rnd hok;have a3:=a2.rnd hok;have h2: ¬QgH p (rnd p (rnd p (QbG p g))):=fun h=>h3 (QgM a2.up h)
 have h1: ¬QgH p (rnd p (QbG p g)):=fun h=>h2 (QgM a1.up h)
 have h0: ¬QgH p (QbG p g):=fun h=>h1 (QgM a0.up h)
 have l0:=Qka a0.up h0;have l1:=Qka a1.up h1;have l2:=Qka a2.up h2;have l3:=a3.len hok;have e:QbG p g=[]:=List.eq_nil_of_length_eq_zero (by omega)
 exact h0 (by rw [e]; intro y hy; cases hy)
def Rch (p:PolD) (g x:Int):Prop:= ∀C:Int→Prop,(∀k,QaX p k g=true→C k)→(∀y k,C y→QaX p k y=true→C k)→C x
theorem QlU {p:PolD} (hok:OkPol p) (g x:Int):x∈QeS p g↔Rch p g x:=by
 have a0:=QlF hok g;have a1:=a0.rnd hok;have a2:=a1.rnd hok;constructor
 ·intro hx C h1 h2
  have up: ∀{L:List Int},L.Pairwise (· < ·)→(∀x∈L,C x)→ ∀x∈rnd p L,C x:=by
   intro L hL hC x hx;rcases ((QfO hL).2 x).1 hx with h | ⟨y,h3,h4⟩
   ·exact hC x h
   ·exact h2 y x (hC y h3) (Qdx.1 h4)
  exact up a2.up (up a1.up (up a0.up fun x hx=>h1 x (Qdx.1 hx))) x hx
 ·intro h;refine h (· ∈QeS p g) (fun k hk=>?_) fun y k hy hk=>Qnf hok g y hy k (Qdx.2 hk)
  exact ((QfO a2.up).2 k).2 (.inl (((QfO a1.up).2 k).2 (.inl (((QfO a0.up).2 k).2 (.inl (Qdx.2 hk))))))
def gL (n:Nat) (P:Int→Bool):List Int:=((List.range n).map fun i:Nat=>(i:Int)).filter P
theorem QmO (n:Nat) (P:Int→Bool):gL (n+1) P=if P (n:Int)=true then gL n P++[(n:Int)] else gL n P:=by
 unfold gL;rw [List.range_succ,List.map_append,List.filter_append,List.map_singleton];by_cases c:P (n:Int)=true
 ·rw [if_pos c]; simp only [List.filter_cons,c,if_true,List.filter_nil]
 ·rw [if_neg c]; simp only [List.filter_cons,c,List.filter_nil]; simp
theorem Qjz (n:Nat) (P:Int→Bool):(gL n P).length≤n:=by
 unfold gL;refine Nat.le_trans (List.length_filter_le _ _) (by simp)
theorem QhY {n:Nat} {P:Int→Bool} {x:Int}:x∈gL n P↔(0≤x∧x< (n:Int))∧P x=true:=by
 unfold gL;rw [List.mem_filter,List.mem_map];refine and_congr_left fun _=>⟨?_,fun h=>⟨x.toNat,?_,?_⟩⟩
 ·rintro ⟨i,h1,rfl⟩;rw [List.mem_range] at h1;omega
 ·rw [List.mem_range]; omega
 ·omega
theorem QtO {n:Nat} {P Q:Int→Bool} (h: ∀x,P x=Q x):gL n P=gL n Q:=by rw [show P=Q from funext h]
theorem QmU (m:List QI) (x g:Int) (hm:m.length≤1048576):F_gh_1 (m,(x,(g,())),())=some ((m.any (fun l=>l.1==x && l.2.1==g),()),()):=by
 have key:=QY (step:=l_gg_2) (γ:=denO o_j_2) (fun i=>((m,((x,(g,())),(((m.length:Nat):Int),(((i:Nat):Int),())))),((),()))) m
  (fun i l=>if (l.1==x && l.2.1==g)=true then some ((i:Nat):Int) else none) (fun c=>some (.inr (.inl ((c,()),((),()))))) (some (.inl ((),((),())))) (Qbw hm) ?_ ?_
 ·unfold F_gh_1 F_gf_1;show ((Qd l_gg_2 lots ((m,((x,(g,())),(((m.length:Nat):Int),(((0:Nat):Int),())))),((),()))).bind _).bind _=_;rw [key, ←QdR (P:=fun l:QI=>l.1==x && l.2.1==g) (m:=m) (f:=fun i l=>if (l.1==x && l.2.1==g)=true then some ((i:Nat):Int) else none) (fun _ _=>rfl)]
  cases scan (fun i (l:QI)=>if (l.1==x && l.2.1==g)=true then some ((i:Nat):Int) else none) 0 m <;> rfl
 ·intro rec i hi;unfold l_gg_2;dsimp only;rw [if_pos (lt_t hi),if_pos nat0,Qn hi,QQ (lt1 hi hm)];unfold F_ge_1;dsimp only;cases c1:m[i].1==x
  ·rw [if_neg (by simp),Obn,Bool.false_and]; rfl
  ·rw [if_pos rfl,Obn,Bool.true_and];cases m[i].2.1==g <;> rfl
 ·intro rec;unfold l_gg_2;dsimp only;rw [if_neg Qat]
theorem QnV {p:PolD} (hok:OkPol p) (x g:Int):F_ge (p,x,g,())=some ((QaX p x g,()),()):=by
 have hl:=hok.lanes.1;have hb:=hok.bells.1;unfold F_ge QaX;dsimp only;rw [QmU _ _ _ (by omega),Obn]
 dsimp only;by_cases c:(p.2.1.any fun l=>l.1==x && l.2.1==g)=true
 ·rw [if_neg (by rw [c]; simp),c]; rfl
 ·have c:(p.2.1.any fun l=>l.1==x && l.2.1==g)=false:=Bool.eq_false_iff.2 c
  rw [if_pos c,Qfj (x,g,()) p.2.2.1 (by omega),c]; rfl
theorem Qod {p:PolD} (hok:OkPol p) (g:Int):F_gi (p,g,())=some ((gL p.1.length (fun x=>QaX p x g),()),()):=by
 have hn:=hok.own.2;refine Dr.eq ?_;unfold F_gi F_gj_1;dsimp only
 have key:Dr (L_gk_3 (((((),p),(g,())),(([]:List Int),(((p.1.length:Nat):Int),((0:Int),())))),((),()))) fun o=>o= .inl ((gL p.1.length (fun x=>QaX p x g),()),((),())):=by
  refine Qab (fun m u=> ∃i:Nat,i≤p.1.length∧m+i=3∧u=(((((),p),(g,())),(gL i (fun x=>QaX p x g),(((p.1.length:Nat):Int),((i:Int),())))),((),()))) ?_ 3 _ ⟨0,by omega,rfl,rfl⟩ (by rw [QG]; omega)
  rintro rec m _ ⟨i,hi,hm,rfl⟩ ih;unfold l_gk_3;dsimp only;by_cases c:i< p.1.length
  ·rw [if_pos (lt_t c)]
   have e:F_gi_1 ((i:Int),((),p),g,())=some ((QaX p (i:Int) g,()),()):=by
    unfold F_gi_1;dsimp only;rw [QnV hok]; rfl
   refine Dr.step e ?_;dsimp only;rw [QQ (by omega)]
   by_cases cl:QaX p (i:Int) g=true
   ·rw [if_pos cl];have:=Qjz i (fun x=>QaX p x g)
    refine Dr.guard (by simp; omega) (ih (m-1) _ (by omega) ⟨i+1,by omega,by omega,?_⟩)
    rw [QmO,if_pos cl]
   ·rw [if_neg cl];refine ih (m-1) _ (by omega) ⟨i+1,by omega,by omega,?_⟩
    rw [QmO,if_neg cl]
  ·rw [if_neg (lt_f c)];refine Dr.ret ?_;rw [show i=p.1.length by omega]
 refine Dr.step (v:=((gL p.1.length (fun x=>QaX p x g),()),())) ?_ (Dr.ret rfl)
 refine Dr.eq ?_;refine key.bind fun o ho=>?_
 subst ho;exact Dr.ret rfl
structure Seen (p:PolD) (g:Int) (out:List Int):Prop where
 nd:out.Nodup
 rch: ∀x∈out,Rch p g x
 fst: ∀k,QaX p k g=true→k∈out
theorem QsH {p:PolD} (hok:OkPol p) {g x:Int} (h:Rch p g x):isG p x=true:=h (fun x=>isG p x=true) (fun _ h=>QcO hok h) fun _ _ _ h=>QcO hok h
theorem Qum: ∀{A B:List Int},A.Nodup→(∀x∈A,x∈B)→A.length≤B.length
 | [],_,_,_=>Nat.zero_le _
 | a::r,B,h,hs=>by
  rw [List.nodup_cons] at h;have ha:=hs a (by simp)
  have hl:=List.length_erase_of_mem ha
  have h1:=Qum (B:=B.erase a) h.2 fun x hx=>by
   have hne:x≠a:=fun e=>h.1 (e▸hx)
   exact (List.mem_erase_of_ne hne).2 (hs x (List.mem_cons_of_mem _ hx))
  have hp:=List.length_pos_of_mem ha;rw [List.length_cons]; omega
theorem Seen.len {p:PolD} (hok:OkPol p) {g:Int} {out:List Int} (h:Seen p g out):out.length≤3:=by
 have hn:=hok.own.2;have:=Qum (B:=gL p.1.length fun _=>true) h.nd fun x hx=>QhY.2 ⟨QaP.1 (QsH hok (h.rch x hx)),rfl⟩
 have:=Qjz p.1.length fun _=>true
 omega
theorem Qxh (n:Nat) (P:Int→Bool):(gL n P).Nodup:=by
 unfold gL List.Nodup;refine List.Pairwise.filter _ ?_;rw [List.pairwise_map];exact List.Pairwise.imp (fun h e=>by omega) List.pairwise_lt_range
def addM (out:List Int) (k:Int):List Int:=if out.contains k=true then out else out++[k]
theorem Qve {p:PolD} {g:Int} {out:List Int} {k:Int} (h:Seen p g out) (hk:Rch p g k):Seen p g (addM out k)∧(∃r,addM out k=out++r)∧k∈addM out k:=by
 unfold addM;by_cases c:out.contains k=true
 ·rw [if_pos c];exact ⟨h,⟨[],by simp⟩,by simpa using c⟩
 ·rw [if_neg c];have c':k∉out:=by simpa using c
  refine ⟨⟨?_,?_,fun j hj=>List.mem_append_left _ (h.fst j hj)⟩,⟨[k],rfl⟩,by simp⟩
  ·rw [List.nodup_append];refine ⟨h.nd,by simp,?_⟩
   intro a ha b hb e;rw [List.mem_singleton.1 hb] at e;exact c' (e▸ha)
  ·intro x hx;rcases List.mem_append.1 hx with hx | hx
   ·exact h.rch x hx
   ·rw [List.mem_singleton.1 hx]; exact hk
theorem QmC {p:PolD} {g:Int}: ∀{l:List Int} {out:List Int},Seen p g out→(∀k∈l,Rch p g k)→Seen p g (l.foldl addM out)∧(∃r,l.foldl addM out=out++r)∧ ∀k∈l,k∈l.foldl addM out
 | [],out,h,_=>⟨h,⟨[],by simp⟩,by simp⟩
 | k::r,out,h,hk=>by
  obtain ⟨h1,⟨r1,e1⟩,h2⟩:=Qve h (hk k (by simp))
  obtain ⟨h3,⟨r2,e2⟩,h4⟩:=QmC (l:=r) h1 fun j hj=>hk j (List.mem_cons_of_mem _ hj)
  refine ⟨h3,⟨r1++r2,by rw [List.foldl_cons,e2,e1,List.append_assoc]⟩,fun j hj=>?_⟩
  rcases List.mem_cons.1 hj with rfl | hj
  ·rw [List.foldl_cons,e2]; exact List.mem_append_left _ h2
  ·exact h4 j hj
theorem Qrh {A B r:List Int} (er:B=A++r) {j:Nat} (hA:j< A.length) (hB:j< B.length):B[j]=A[j]:=by subst er; exact List.getElem_append_left hA
theorem QnZ {p:PolD} (hok:OkPol p) (g:Int): ∃out:List Int,(∀x,x∈out↔Rch p g x)∧out.length≤3∧F_gq (p,g,())=some ((out,()),()):=by
 have hn:=hok.own.2;have toR: ∀y,Rch p g y→ ∀k∈gL p.1.length (fun x=>QaX p x y),Rch p g k:=fun y hy k hk C h1 h2=>h2 y k (hy C h1 h2) (QhY.1 hk).2
 have s0:Seen p g (gL p.1.length fun x=>QaX p x g):=⟨Qxh _ _,fun x hx C h1 _=>h1 x (QhY.1 hx).2,fun k hk=>QhY.2 ⟨QaP.1 (QcO hok hk),hk⟩⟩
 have inner: ∀(out row:List Int) (i:Int),Seen p g out→row.length≤3→(∀k∈row,Rch p g k)→Dr (L_gq_6 ((p,(out,(i,(row,(((row.length:Nat):Int),((0:Int),())))))),((),()))) fun o=>o= .inl ((p,(row.foldl addM out,(i,()))),((),())):=by
  intro out row i ho hr hk;refine Qab (fun m u=> ∃j:Nat,m+j=3∧u=((p,((row.take j).foldl addM out,(i,(row,(((row.length:Nat):Int),((j:Int),())))))),((),()))) ?_ 3 _ ⟨0,rfl,rfl⟩ (by rw [QG]; omega)
  rintro rec m _ ⟨j,hm,rfl⟩ ih;unfold l_gq_6;dsimp only;by_cases c:j< row.length
  ·have hin:0≤(j:Int)∧(j:Int)< ((row.length:Nat):Int):=by omega
   have sj:=(QmC (l:=row.take j) ho fun k h=>hk k (List.mem_of_mem_take h)).1
   have lj:=sj.len hok;rw [if_pos (lt_t c),if_pos hin,Qn c,QQ (by omega)]
   refine Dr.step (Qfl _ _ (by omega)) ?_
   dsimp only;cases cc:((row.take j).foldl addM out).contains row[j] with
   | false=>
    rw [if_pos (by simp)]
    refine Dr.guard (by simp; omega) (ih (m-1) _ (by omega) ⟨j+1,by omega,?_⟩)
    rw [Qgo c,List.foldl_append];have e:[row[j]].foldl addM ((row.take j).foldl addM out)=(row.take j).foldl addM out++[row[j]]:=if_neg (by rw [cc]; simp)
    rw [e]
   | true=>
    rw [if_neg (by simp)]
    refine ih (m-1) _ (by omega) ⟨j+1,by omega,?_⟩
    rw [Qgo c,List.foldl_append];have e:[row[j]].foldl addM ((row.take j).foldl addM out)=(row.take j).foldl addM out:=if_pos cc;rw [e]
  ·rw [if_neg (lt_f c),List.take_of_length_le (by omega)]
   exact Dr.ret rfl
 have outer:Dr (L_gq_3 ((p,(gL p.1.length (fun x=>QaX p x g),((0:Int),()))),((),()))) fun o=> ∃out,o= .inl ((out,()),((),()))∧Seen p g out∧ ∀y∈out, ∀k,QaX p k y=true→k∈out:=by
  refine Qab (fun m u=> ∃(out:List Int) (i:Nat),m+i=3∧i≤out.length∧Seen p g out∧(∀j (hj:j< out.length),j< i→ ∀k,QaX p k out[j]=true→k∈out)∧u=((p,(out,((i:Int),()))),((),()))) ?_ 3 _ ⟨_,0,rfl,by omega,s0,fun j _ h=>by omega,rfl⟩ (by rw [QG]; omega)
  rintro rec m _ ⟨out,i,hm,hi,ho,hc,rfl⟩ ih;unfold l_gq_3;dsimp only;have lo:=ho.len hok;by_cases c:i< out.length
  ·have hin:0≤(i:Int)∧(i:Int)< ((out.length:Nat):Int):=by omega
   rw [if_pos (lt_t c),if_pos hin,Qn c];refine Dr.step (Qod hok _) ?_;dsimp only;have gl:=Qjz p.1.length fun x=>QaX p x out[i]
   have ry:=toR _ (ho.rch _ (List.getElem_mem c));refine (inner _ _ _ ho (by omega) ry).bind fun o ho2=>?_
   subst ho2;dsimp only;rw [QQ (by omega)]
   obtain ⟨s1,⟨r,er⟩,s2⟩:=QmC ho ry;refine ih (m-1) _ (by omega) ⟨_,i+1,by omega,by rw [er,List.length_append]; omega,s1,fun j hj hlt k hk=>?_,rfl⟩
   by_cases ji:j=i
   ·subst ji;have e:((gL p.1.length fun x=>QaX p x out[j]).foldl addM out)[j]=out[j]:=Qrh er c hj
    rw [e] at hk;exact s2 k (QhY.2 ⟨QaP.1 (QcO hok hk),hk⟩)
   ·have jl:j< out.length:=by omega
    have e:((gL p.1.length fun x=>QaX p x out[i]).foldl addM out)[j]=out[j]:=Qrh er jl hj
    rw [e] at hk;rw [er];exact List.mem_append_left _ (hc j jl (by omega) k hk)
  ·rw [if_neg (lt_f c)];refine Dr.ret ⟨out,rfl,ho,fun y hy k hk=>?_⟩
   obtain ⟨j,hj,rfl⟩:=List.mem_iff_getElem.1 hy;exact hc j hj (by omega) k hk
 obtain ⟨o,e,out,rfl,ho,hc⟩:=outer;have lo:=ho.len hok;have so:=Qqt ho.nd;refine ⟨srt out,fun x=>?_,by rw [so.2.2]; exact lo,?_⟩
 ·rw [so.2.1];exact ⟨ho.rch x,fun h=>h (· ∈out) ho.fst fun y k hy hk=>hc y hy k hk⟩
 ·refine Dr.eq ?_;unfold F_gq;refine Dr.step (Qod hok g) ?_;dsimp only;refine Dr.step e ?_;dsimp only;exact Dr.step (QwU ho.nd (by omega)) (Dr.guard (by simp [so.2.2]) (Dr.ret rfl))
def strM (p:PolD) (g:Int):Qxa:=if askM p g≠0 then (askM p g,[],()) else (0,gL p.1.length (fun x=>x !=g && !(QeS p g).contains x),())
theorem Qsn (p:PolD) (g:Int) (hp:QfJ 1048576 p):F_gr (p,g,())=some ((strM p g,()),()):=by
 refine Dr.eq ?_;unfold F_gr strM;refine Dr.step (Qpv p g hp) ?_;by_cases h:askM p g=0
 case neg=>rw [if_pos (c:=askM p g≠0) h]; exact Dr.pos (by simpa using h) (Dr.ret rfl)
 rw [if_neg (c:=askM p g≠0) (by simpa using h)]
 refine Dr.neg (by simpa using h) ?_
 obtain ⟨h1,hg⟩:=Qvf h;have hok:=Qep h1;have hn:=hok.own.2;obtain ⟨out,ho,lo,eo⟩:=QnZ hok g;refine Dr.step eo ?_;dsimp only
 have same: ∀x,(x !=g && !(QeS p g).contains x)=(x !=g && !out.contains x):=fun x=>by
  have:(QeS p g).contains x=out.contains x:=by
   rw [Bool.eq_iff_iff,List.contains_iff_mem,List.contains_iff_mem,QlU hok,ho]
  rw [this]
 rw [QtO same];unfold F_gs_1;dsimp only
 have key:Dr (L_gt_3 (((g,(out,())),(([]:List Int),(((p.1.length:Nat):Int),((0:Int),())))),((),()))) fun o=>o= .inl ((gL p.1.length (fun x=>x !=g && !out.contains x),()),((),())):=by
  refine Qab (fun m u=> ∃i:Nat,i≤p.1.length∧m+i=3∧u=(((g,(out,())),(gL i (fun x=>x !=g && !out.contains x),(((p.1.length:Nat):Int),((i:Int),())))),((),()))) ?_ 3 _ ⟨0,by omega,rfl,rfl⟩ (by rw [QG]; omega)
  rintro rec m _ ⟨i,hi,hm,rfl⟩ ih;unfold l_gt_3;dsimp only;by_cases c:i< p.1.length
  ·rw [if_pos (lt_t c)]
   have e:F_gr_1 ((i:Int),g,out,())=some ((((i:Int) !=g && !out.contains (i:Int)),()),()):=by
    unfold F_gr_1;dsimp only;cases (i:Int) !=g
    ·rfl
    ·rw [if_pos rfl,Qfl _ _ (by omega)]; rfl
   refine Dr.step e ?_;dsimp only;rw [QQ (by omega)]
   have gl:=Qjz i (fun x=>x !=g && !out.contains x)
   have sn:=QmO i (fun x=>x !=g && !out.contains x)
   by_cases cl:((i:Int) !=g && !out.contains (i:Int))=true
   ·rw [if_pos cl] at sn⊢;refine Dr.guard (by have:[(i:Int)].length=1:=rfl; omega) (ih (m-1) _ (by omega) ⟨i+1,by omega,by omega,by rw [sn]⟩)
   ·rw [if_neg cl] at sn⊢;exact ih (m-1) _ (by omega) ⟨i+1,by omega,by omega,by rw [sn]⟩
  ·rw [if_neg (lt_f c)];refine Dr.ret ?_;rw [show i=p.1.length by omega]
 refine Dr.step (v:=((gL p.1.length (fun x=>x !=g && !out.contains x),()),())) ?_ (Dr.ret rfl)
 refine Dr.eq ?_;refine key.bind fun o ho=>?_
 subst ho;exact Dr.ret rfl
theorem Qwt {p:PolD} {g:Int} (hp:polM p=0) (hg:isG p g=true):askM p g=0:=by
 unfold askM;rw [if_neg (by simpa using hp),if_pos hg]
def Kin (p:PolD) (g z:Int):Prop:=z=g∨Rch p g z
theorem Qua (p:PolD) (g:Int):Shut p (Kin p g):=by
 have step: ∀{z w:Int},QaX p z w=true→Kin p g w→Kin p g z:=by
  rintro z w h (rfl | hw)
  ·exact .inr fun C h1 _=>h1 z h
  ·exact .inr fun C h1 h2=>h2 w z (hw C h1 h2) h
 refine ⟨fun y hy ha=>step ?_ ha,fun b hb ha=>step ?_ ha⟩
 ·unfold QaX;rw [Bool.or_eq_true,List.any_eq_true];exact .inl ⟨y,hy,by simp⟩
 ·unfold QaX;rw [Bool.or_eq_true,List.any_eq_true,List.any_eq_true];exact .inr ⟨b,hb,QhF.2 ⟨rfl,rfl⟩⟩
theorem Qln {A:Int→Prop} {g:Int}: ∀(n:Nat) (k:Int) (x y:Qw),Tw x y A→isG x.1 g=true→A g→x.2.2.2.2.2.1+(n:Int)≤1000000→QcT g n k x y=(0,0,true,())
 | 0,k,x,y,h,hg,ha,_=>by
  rw [QcT,if_pos];rw [h.views hg ha];exact QgX (QhN h.hy (by rw [←h.pol]; exact hg))
 | n+1,k,x,y,h,hg,ha,hc=>by
  rw [QcT,if_pos]
  ·exact Qln n (k+1) _ _ (h.next (by omega)) hg ha (by show x.2.2.2.2.2.1+1+(n:Int)≤1000000; omega)
  ·rw [h.views hg ha];exact QgX (QhN h.hy (by rw [←h.pol]; exact hg))
theorem Qpr {A:Int→Prop} {g n:Int} {x y:Qw} (h:Tw x y A) (hg:isG x.1 g=true) (ha:A g) (hn:0≤n∧n≤200) (hc:x.2.2.2.2.2.1+n≤1000000):Qlm x y g n=(0,0,true,()):=by
 have h0:=h.hx.clock;have cl:=h.clock
 have ok: ∀z:Qw,z.2.2.2.2.2.1=x.2.2.2.2.2.1→QaE z n=true:=fun z e=>by
  unfold QaE;rw [Qdt.2 hn,e,Qq (by omega) (by omega),QaW.2 hc]
  rfl
 unfold Qlm;rw [if_neg (by rw [h.hx.to]; simp),if_neg (by rw [h.hy.to]; simp),if_pos hg,if_pos (by rw [←h.pol]; exact hg),if_pos (ok x rfl),if_pos (ok y cl.symm),Qln n.toNat 0 x y h hg ha (by omega)]
theorem QwV {p:PolD} {g:Int} (hp:polM p=0) (hg:isG p g=true):F_gr (p,g,())=some (((0,gL p.1.length (fun x=>x !=g && !(QeS p g).contains x),()),()),()):=by
 rw [Qsn p g (QhD (Qep hp))];unfold strM;rw [if_neg (by simpa using Qwt hp hg)]
theorem Qwu {s:SrcD} {k:Int} (hs:Sr s k) (hk:k≤800000):Dr (F_bu (s,())) fun r=>Sr r.2.1 (k+110)∧QfJ 1000 r.1.1:=by
 have hk0:=hs.pos;unfold F_bu;refine (QjL hs (by omega)).bind fun r1 h1=>?_
 refine (QW h1.1 (by omega) _).bind fun r2 h2=>?_
 have hok:=Qep h1.2;have a1:=hok.own;have a2: ∀l∈r1.1.1.1,l.length≤5:=fun l hl=>(hok.own1 l hl).2.1
 have a3:=hok.lanes.1;have a4:=hok.bells.1;have a5:=hok.plan;obtain ⟨⟨p,pu⟩,s1,su⟩:=r1;obtain ⟨r2a,s2,s2u⟩:=r2;simp only at h1 h2 hok a1 a2 a3 a4 a5⊢;have hs2:Sr s2 (k+101):=h2.1.le (by omega)
 have i0:((0:Int)).toNat< p.1.length:=by show 0< _; omega
 have g0:0≤(0:Int)∧(0:Int)< ((p.1.length:Nat):Int):=by omega
 have own0: ∀l:List Int,l.length≤5→QfJ 1000 (p.1.set ((0:Int)).toNat l,p.2.1,p.2.2.1,p.2.2.2.1,()):=fun l hl=>by
  refine ⟨⟨by rw [List.length_set]; show p.1.length≤1000; omega,fun x hx=>?_⟩,by show p.2.1.length≤1000; omega,by show p.2.2.1.length≤1000; omega,by show p.2.2.2.1.length≤1000; omega⟩
  rcases List.mem_or_eq_of_mem_set hx with hx | rfl
  ·have:=a2 x hx; omega
  ·omega
 have hin: ∀x∈p.1,x.length≤1000:=fun x hx=>by have:=a2 x hx; omega
 refine Dr.ite (fun _=>?_) fun _=>Dr.ite (fun _=>?_) fun _=>Dr.ite (fun _=>?_) fun _=>Dr.ite (fun _=>?_) fun _=>Dr.ite (fun _=>?_) fun _=>Dr.ite (fun _=>?_) fun _=>Dr.ite (fun _=>?_) fun _=>Dr.ite (fun _=>?_) fun _=>Dr.ite (fun _=>?_) fun _=>?_
 ·refine Dr.guard g0 (Dr.step (List.getElem?_eq_getElem i0) ?_);refine (Qbt hs2 (by omega) _ _).bind fun r4 h4=>?_
  have hy:=hok.own1 _ (List.getElem_mem i0);refine Dr.step (List.getElem?_eq_getElem i0) (Dr.guard (by show 0≤(0:Int)∧(0:Int)< ((p.1[((0:Int)).toNat].length:Nat):Int); omega) (Dr.step (List.getElem?_eq_getElem i0) (Dr.ret ⟨h4.1.le (by omega),own0 _ (by rw [List.length_set]; omega)⟩)))
 ·refine Dr.guard g0 (Dr.step (List.getElem?_eq_getElem i0) (Dr.step (List.getElem?_eq_getElem i0) (Dr.guard (by show (p.1.length+1)*24≤_; omega) (Dr.ret ⟨hs2.le (by omega),?_⟩))))
  refine ⟨⟨by show (p.1++[p.1[((0:Int)).toNat]]).length≤1000; simp; omega,fun x hx=>?_⟩,by show p.2.1.length≤1000; omega,by show p.2.2.1.length≤1000; omega,by show p.2.2.2.1.length≤1000; omega⟩
  rcases List.mem_append.1 (show x∈p.1++[p.1[((0:Int)).toNat]] from hx) with hx | hx
  ·exact hin x hx
  ·rw [List.mem_singleton.1 hx]; exact hin _ (List.getElem_mem i0)
 ·exact Dr.ret ⟨hs2.le (by omega),⟨⟨Nat.zero_le _,fun x hx=>by cases hx⟩,by show p.2.1.length≤1000; omega,by show p.2.2.1.length≤1000; omega,by show p.2.2.2.1.length≤1000; omega⟩⟩
 ·refine (QW hs2 (by omega) _).bind fun r11 h11=>(QW h11.1 (by omega) _).bind fun r12 h12=>(Qbt h12.1 (by omega) _ _).bind fun r13 h13=>(Qbt h13.1 (by omega) _ _).bind fun r14 h14=>(Qbt h14.1 (by omega) _ _).bind fun r15 h15=>?_
  refine Dr.guard (by show (p.2.1.length+1)*40≤_; omega) (Dr.ret ⟨h15.1.le (by omega),⟨⟨by show p.1.length≤1000; omega,hin⟩,?_,by show p.2.2.1.length≤1000; omega,by show p.2.2.2.1.length≤1000; omega⟩⟩)
  show (p.2.1++[_]).length≤1000;rw [List.length_append,List.length_singleton]; omega
 ·refine (QW hs2 (by omega) _).bind fun r17 h17=>(QW h17.1 (by omega) _).bind fun r18 h18=>?_
  refine Dr.guard (by show (p.2.2.1.length+2)*16≤_; omega) (Dr.ret ⟨h18.1.le (by omega),⟨⟨by show p.1.length≤1000; omega,hin⟩,by show p.2.1.length≤1000; omega,?_,by show p.2.2.2.1.length≤1000; omega⟩⟩)
  show (p.2.2.1++[_,_]).length≤1000;rw [List.length_append]; simp; omega
 ·refine (Qbt hs2 (by omega) _ _).bind fun r20 h20=>(Qbt h20.1 (by omega) _ _).bind fun r21 h21=>?_
  have i2:((0:Int)).toNat< p.2.2.2.1.length:=by show 0< _; omega
  refine Dr.guard (by show 0≤(0:Int)∧(0:Int)< ((p.2.2.2.1.length:Nat):Int); omega) (Dr.step (List.getElem?_eq_getElem i2) (Dr.ret ⟨h21.1.le (by omega),⟨⟨by show p.1.length≤1000; omega,hin⟩,by show p.2.1.length≤1000; omega,by show p.2.2.1.length≤1000; omega,?_⟩⟩))
  show (p.2.2.2.1.set _ _).length≤1000;rw [List.length_set]; omega
 ·exact Dr.ret ⟨hs2.le (by omega),⟨⟨by show p.1.length≤1000; omega,hin⟩,by show p.2.1.length≤1000; omega,by show p.2.2.1.length≤1000; omega,by show (List.replicate 9 _).length≤1000; rw [List.length_replicate]; omega⟩⟩
 ·exact Dr.guard g0 (Dr.step (List.getElem?_eq_getElem i0) (Dr.ret ⟨hs2.le (by omega),own0 [] (by simp)⟩))
 ·exact Dr.ret ⟨hs2.le (by omega),⟨⟨by show p.1.length≤1000; omega,hin⟩,by show (List.replicate 5 _).length≤1000; rw [List.length_replicate]; omega,by show p.2.2.1.length≤1000; omega,by show p.2.2.2.1.length≤1000; omega⟩⟩
 ·exact Dr.ret ⟨hs2.le (by omega),⟨⟨by show p.1.length≤1000; omega,hin⟩,by show p.2.1.length≤1000; omega,by show p.2.2.1.length≤1000; omega,by show p.2.2.2.1.length≤1000; omega⟩⟩
theorem QfJ.up {m n:Nat} {p:PolD} (h:QfJ m p) (hmn:m≤n):QfJ n p:=
 ⟨⟨Nat.le_trans h.1.1 hmn,fun l hl=>Nat.le_trans (h.1.2 l hl) hmn⟩,Nat.le_trans h.2.1 hmn,Nat.le_trans h.2.2.1 hmn,Nat.le_trans h.2.2.2 hmn⟩
theorem Qqn {q:List Int} (h:OkQ q):F_af (q,())=some (((0,Qiy q),()),()):=by
 have hl:=h.len;refine Dr.eq ?_;unfold F_af;dsimp only;refine Dr.neg (by rw [QB]; omega) (Dr.step (QbE q (by omega)) (Dr.neg (by rw [Qah.2 h.words]; simp) (Dr.guard (by simp; omega) (Dr.ret rfl))))
theorem Qni {p:PolD} {I:List (List Int)} (hok:OkPol p) (hI:Fit p I):F_y (p,I,())=some ((0,()),()):=by
 have h3:=hok.own;obtain ⟨hI1,hI2⟩:=hI;refine Dr.eq ?_;unfold F_y;dsimp only;refine Dr.neg (by rw [hI1]; simp) ?_
 have key:Dr (L_y_4 ((p,(I,((0:Int),()))),((),()))) fun o=>o= .inl ((),((),())):=by
  refine Qab (fun m u=> ∃i:Nat,m+i=3∧u=((p,(I,((i:Int),()))),((),()))) ?_ 3 _ ⟨0,rfl,rfl⟩ (by rw [QG]; omega)
  rintro rec m _ ⟨i,hm,rfl⟩ ih;unfold l_y_4;dsimp only;by_cases c:i< I.length
  ·have c':i< p.1.length:=by omega
   have h5:=hok.own1 _ (List.getElem_mem c');have hl:=hI2 i c' c;rw [if_pos (lt_t c),if_pos nat0,Qn c,if_pos nat0,Qn c',Qq (n:=(((p.1[i]).length:Nat):Int)*8) (by omega) (by omega),if_neg (by rw [QB]; omega),QQ (by omega)]
   exact ih (m-1) _ (by omega) ⟨i+1,by omega,rfl⟩
  ·rw [if_neg (lt_f c)];exact Dr.ret rfl
 refine key.bind fun o ho=>?_
 subst ho;exact Dr.ret rfl
theorem QoJ {p:PolD} {I:List (List Int)} {m:List Int} {g:Nat} (hok:OkPol p) (hI:Fit p I) (cp:g< p.1.length) (c:g< I.length) (hm:m.length=192):
  L_aa_6 ((p,(I,(m,((g:Int),((0:Int),()))))),((),()))=some (.inl ((p,(I,(imgH p.1[g] 0 I[g] m,((g:Int),())))),((),()))):=by
 have h5:=hok.own1 _ (List.getElem_mem cp);have hl:=hI.2 g cp c;refine Dr.eq ?_;refine Qab (fun k u=> ∃(i:Nat) (m':List Int),u=((p,(I,(m',((g:Int),((i:Int),()))))),((),()))∧k+i=I[g].length∧m'.length=192∧imgH p.1[g] i (I[g].drop i) m'=imgH p.1[g] 0 I[g] m) ?_ I[g].length _ ⟨0,m,rfl,by omega,hm,by simp⟩ (by rw [QG]; omega)
 rintro rec k _ ⟨i,m',rfl,hk,hm',he⟩ ih;unfold l_aa_6;dsimp only;rw [if_pos nat0,Qn c];by_cases ci:i< I[g].length
 ·have hi8:i / 8< p.1[g].length:=by omega
  have hx:=h5.2.2 _ (List.getElem_mem hi8);have e1:Int.tdiv (i:Int) 8=((i / 8:Nat):Int):=by rw [Int.tdiv_eq_ediv_of_nonneg (by omega)]; omega
  have e2:Int.tmod (i:Int) 8=((i % 8:Nat):Int):=by rw [Int.tmod_eq_emod_of_nonneg (by omega)]; omega
  rw [if_pos (lt_t ci),if_pos nat0,Qn cp,e1,e2,Qq (n:=((i / 8:Nat):Int)) (by omega) (by omega),if_pos nat0,Qn hi8,Qq (n:=p.1[g][i / 8]*8) (by omega) (by omega),Qq (n:=p.1[g][i / 8]*8+((i % 8:Nat):Int)) (by omega) (by omega),if_pos nat0,Qn c,if_pos nat0,Qn ci,QdI,Obn,QQ (by omega)]
  refine Dr.gat hm' (by omega) fun _ _=>ih (k-1) _ (by omega) ⟨i+1,_,rfl,by omega,by simpa using hm',?_⟩
  rw [←he,List.drop_eq_getElem_cons ci,imgH,gget hi8];congr 2;omega
 ·rw [if_neg (lt_f ci)];rw [List.drop_of_length_le (by omega)] at he
  exact Dr.ret (by rw [←he]; rfl)
theorem Qnj {p:PolD} {I:List (List Int)} (hp:polM p=0) (hI:Fit p I):F_ab (p,I,())=some (((0,(QcP p.1 I (List.replicate 192 0),())),()),()):=by
 have hok:=Qep hp;have h3:=hok.own;refine Dr.eq ?_;unfold F_ab;refine Dr.step (Qko p (QhD hok)) (Dr.neg (by rw [hp]; simp) (Dr.step (Qni hok hI) (Dr.neg (by simp) ?_)))
 unfold F_aa
 have key:L_aa_3 ((p,(I,((List.replicate ((192:Int)).toNat (Qby (.int .i64))),((0:Int),())))),((),()))=some (.inl ((QcP p.1 I (List.replicate 192 0),()),((),()))):=by
  refine Dr.eq ?_
  refine Qab (fun k u=> ∃(g:Nat) (m':List Int),u=((p,(I,(m',((g:Int),())))),((),()))∧k+g=I.length∧m'.length=192∧QcP (p.1.drop g) (I.drop g) m'=QcP p.1 I (List.replicate 192 0)) ?_ I.length _
   ⟨0,_,rfl,by omega,by simp,rfl⟩ (by have:=hI.1; rw [QG]; omega)
  rintro rec k _ ⟨g,m',rfl,hk,hm',he⟩ ih;unfold l_aa_3;dsimp only;have hI1:=hI.1;by_cases c:g< I.length
  ·have c':g< p.1.length:=by omega
   rw [if_pos (lt_t c)];refine Dr.step (QoJ hok hI c' c hm') ?_;dsimp only;rw [QQ (by omega)]
   refine ih (k-1) _ (by omega) ⟨g+1,_,rfl,by omega,by rw [QjF]; exact hm',?_⟩
   rw [←he,List.drop_eq_getElem_cons c,List.drop_eq_getElem_cons c',QcP]
  ·rw [if_neg (lt_f c)];rw [List.drop_of_length_le (by omega:I.length≤g),List.drop_of_length_le (by omega:p.1.length≤g)] at he
   exact Dr.ret (by rw [←he]; rfl)
 refine Dr.step (v:=((QcP p.1 I (List.replicate 192 0),()),())) ?_ (Dr.ret rfl);exact Dr.eq (Dr.step key (Dr.ret rfl))
theorem Qqi {p:PolD} {I J:List (List Int)} (hp:polM p=0) (hI:Fit p I) (hJ:FitQ p J):F_ag (p,I,J,())=some (((0,boxH (QtA p I J)),()),()):=by
 have hok:=Qep hp;have h3:=hok.own;obtain ⟨hJ1,hJ2⟩:=hJ;have hpl:0< p.2.2.2.1.length:=by have:=hok.plan; omega
 refine Dr.eq ?_;unfold F_ag;refine Dr.step (Qnj hp hI) (Dr.neg (by simp) (Dr.neg (by rw [hJ1]; simp) (Dr.step (QkU hok) ?_)))
 refine Dr.step (v:=p.2.2.2.1.getD 0 (0,0,())) (Qcx (l:=p.2.2.2.1) (k:=0) _ hpl) ?_;dsimp only
 have key: ∀(Z:Int×QeX) (M:List Int) (t:Int),L_ag_8 ((J,((),((),((0:Int),())))),((Z,(((p.1,(p.2.1,(p.2.2.1,(p.2.2.2.1,(M,(([]:List QH),((0:Int),(t,((0:Int),()))))))))):QeX),())),()))=
   some (.inl (((),((),())),((Z,(((p.1,(p.2.1,(p.2.2.1,(p.2.2.2.1,(M,(J.map Qiy,((0:Int),(t,((0:Int),()))))))))):QeX),())),()))):=by
  intro Z M t;refine Dr.eq ?_;refine Qab (fun k u=> ∃i:Nat,u=((J,((),((),((i:Int),())))),((Z,(((p.1,(p.2.1,(p.2.2.1,(p.2.2.2.1,(M,((J.take i).map Qiy,((0:Int),(t,((0:Int),()))))))))):QeX),())),()))∧k+i=J.length) ?_ J.length _ ⟨0,rfl,by omega⟩ (by rw [QG]; omega)
  rintro rec k _ ⟨i,rfl,hk⟩ ih;unfold l_ag_8;dsimp only;by_cases c:i< J.length
  ·rw [if_pos (lt_t c),if_pos nat0,Qn c,Qqn (hJ2 _ (List.getElem_mem c)),Obn];refine Dr.neg (by simp) (Dr.guard (by simp; omega) ?_)
   rw [QQ (by omega)]
   refine ih (k-1) _ (by omega) ⟨i+1,?_,by omega⟩
   rw [Qgo c,List.map_append];rfl
  ·rw [if_neg (lt_f c),List.take_of_length_le (by omega)]
   exact Dr.ret rfl
 exact Dr.step (key _ _ _) (Dr.ret rfl)
theorem QwI (n:Nat):OkQ (([(5:Int),6].drop 0).take n):=⟨by rw [List.length_take]; simp; omega,fun w hw=>by
 have:=List.mem_of_mem_take hw;simp only [List.drop_zero,List.mem_cons,List.not_mem_nil,or_false] at this;unfold WW;omega⟩
theorem Qww {s:SrcD} {k:Int} (hs:Sr s k) (hk:k≤500000):Dr (F_ah (s,())) fun r=>Sr r.2.1 (k+4200)∧ ∃x:Qw,r.1.1=boxH x∧HK x∧x.2.2.2.2.2.1=0:=by
 have hk0:=hs.pos;unfold F_ah;refine (QjL hs (by omega)).bind fun r1 h1=>?_
 obtain ⟨⟨p,pu⟩,s1,su⟩:=r1;simp only at h1⊢;obtain ⟨hs1,hp⟩:=h1;have hok:=Qep hp;have h3:=hok.own
 have key: ∀X:QeX,Dr (L_ah_4 (((),((),((),(([]:List (List Int)),((0:Int),()))))),((X,(p,(s1,()))),()))) fun o=> ∃(J:List (List Int)) (s':SrcD),o= .inl (((),((),((),(J,())))),((X,(p,(s',()))),()))∧Sr s' (k+110)∧FitQ p J:=by
  intro X;refine Qab (fun m u=> ∃(J:List (List Int)) (s':SrcD),u=(((),((),((),(J,(((J.length:Nat):Int),()))))),((X,(p,(s',()))),()))∧m+J.length=p.1.length∧Sr s' (k+100+(J.length:Int))∧ ∀q∈J,OkQ q) ?_ p.1.length _ ⟨[],s1,rfl,by simp,hs1.le (by simp),by simp⟩ (by rw [QG]; omega)
  rintro rec m _ ⟨J,s',rfl,hm,hs',hq⟩ ih;unfold l_ah_4;dsimp only;by_cases c:J.length< p.1.length
  ·rw [if_pos (lt_t c)];refine (QW hs' (by omega) _).bind fun r4 h4=>?_
   have hb:=h4.2.to3;refine Dr.guard (by show 0≤(0:Int)∧(0:Int)≤r4.1.1∧(r4.1.1:Int)≤2; exact ⟨by omega,hb.2.1,hb.2.2⟩) (Dr.guard (by show (J.length+1)*24≤_; omega) ?_)
   rw [QQ (by omega)]
   refine ih (m-1) _ (by omega) ⟨J++[_],r4.2.1,by rw [List.length_append,List.length_singleton],by rw [List.length_append,List.length_singleton]; omega,h4.1.le (by rw [List.length_append,List.length_singleton]; omega),fun q hq'=>?_⟩
   rcases List.mem_append.1 hq' with hq' | hq'
   ·exact hq q hq'
   ·rw [List.mem_singleton.1 hq']; exact QwI _
  ·rw [if_neg (lt_f c)];exact Dr.ret ⟨J,s',rfl,hs'.le (by omega),by omega,hq⟩
 refine (key _).bind fun o ho=>?_
 obtain ⟨J,s',rfl,hs',hJ⟩:=ho;dsimp only;refine (Qsb hok hs' (by omega)).bind fun r9 h9=>?_
 refine Dr.step (Qqi hp h9.2 hJ) (Dr.ret ⟨h9.1.le (by omega),QtA p r9.1.1 J,rfl,QtB hp hJ.1 hJ.2,rfl⟩)
theorem QwC {s:SrcD} {k:Int} (hs:Sr s k) (hk:k≤400000):Dr (F_bz (s,())) fun r=>Sr r.2.1 (k+10000)∧QcU 1048576 r.1.1:=by
 have hk0:=hs.pos;unfold F_bz;refine (Qww hs (by omega)).bind fun r1 h1=>?_
 obtain ⟨⟨b,bu⟩,s1,su⟩:=r1;obtain ⟨hs1,x,hb,hx,hc⟩:=h1;simp only at hs1 hb⊢;subst hb;refine (QW hs1 (by omega) _).bind fun r2 h2=>?_
 obtain ⟨⟨n,nu⟩,s2,s2u⟩:=r2;simp only at h2⊢;have hn:(0:Int)≤(n:Int)∧(n:Int)< (60:Int):=bdLt h2.2 (by omega)
 have hc:x.2.2.2.2.2.1=(0:Int):=hc;generalize hN:(n:Int)=N at hn h2⊢;have z1: ∀z:Int,0≤z∧z< 60→(0:Int)+(z.toNat:Int)≤60:=fun z h=>by omega
 have z2: ∀z:Int,0≤z∧z< 60→z.toNat< lots:=fun z h=>by rw [QG]; omega
 have key: ∀X:QeX,Dr (L_bz_3 (((),((),((),(N,())))),((X,(boxH x,(s2,()))),()))) fun o=> ∃y:Qw,o= .inl (((),((),((),()))),((X,(boxH y,(s2,()))),()))∧HK y:=by
  intro X;refine Qab (fun m u=> ∃y:Qw,u=(((),((),((),((m:Int),())))),((X,(boxH y,(s2,()))),()))∧HK y∧y.2.2.2.2.2.1+(m:Int)≤60) ?_ N.toNat _ ⟨x,by rw [Int.toNat_of_nonneg hn.1],hx,by rw [hc]; exact z1 N hn⟩ (z2 N hn)
  rintro rec m _ ⟨y,rfl,hy,hl⟩ ih;unfold l_bz_3;dsimp only;have hcl:=hy.clock;by_cases c:0< m
  ·rw [if_pos (by rw [QB]; omega)]
   refine Dr.step (QoQ hy (by omega)) ?_
   dsimp only;rw [Qq (by omega) (by omega)]
   exact ih (m-1) _ (by omega) ⟨Qbv y,by rw [show ((m:Int)-1)=((m-1:Nat):Int) by omega],hy.next (by omega),by show y.2.2.2.2.2.1+1+((m-1:Nat):Int)≤60; omega⟩
  ·obtain rfl:m=0:=by omega
   rw [if_neg (by rw [QB]; omega)]
   exact Dr.ret ⟨y,rfl,hy⟩
 refine (key _).bind fun o ho=>?_
 obtain ⟨y,rfl,hy⟩:=ho;dsimp only;have hyl:=hy.le;refine (QW h2.1 (by omega) _).bind fun r9 h9=>?_
 refine Dr.ite (fun _=>?_) fun _=>Dr.ite (fun _=>?_) fun _=>Dr.ite (fun _=>?_) fun _=>Dr.ite (fun _=>?_) fun _=>Dr.ite (fun _=>?_) fun _=>Dr.ite (fun _=>?_) fun _=>Dr.ite (fun _=>?_) fun _=>?_
 ·exact (Qwu h9.1 (by omega)).bind fun r10 h10=>Dr.ret ⟨h10.1.le (by omega),h10.2.up (by omega),hyl.2.1,hyl.2.2.1,hyl.2.2.2⟩
 ·exact (QpH h9.1 (by omega)).bind fun r11 h11=>Dr.ret ⟨h11.1.le (by omega),hyl.1,Nat.le_trans h11.2 (by omega),hyl.2.2.1,hyl.2.2.2⟩
 ·refine (Qud h9.1 (by omega)).bind fun r12 h12=>?_
  have hlen:=hy.len;have h3:=hy.ok.own;have i0:((0:Int)).toNat< y.2.2.1.length:=by show 0< _; omega
  refine Dr.guard (by show 0≤(0:Int)∧(0:Int)< ((y.2.2.1.length:Nat):Int); omega) (Dr.step (List.getElem?_eq_getElem i0) (Dr.ret ⟨h12.1.le (by omega),hyl.1,hyl.2.1,?_,fun h hm=>?_⟩))
  ·show (y.2.2.1.set _ _).length≤1048576;rw [List.length_set]; exact hyl.2.2.1
  ·rcases List.mem_or_eq_of_mem_set hm with hm | rfl
   ·exact hyl.2.2.2 h hm
   ·exact h12.2.le
 ·exact (QW h9.1 (by omega) _).bind fun r15 h15=>Dr.ret ⟨h15.1.le (by omega),hyl⟩
 ·exact (QW h9.1 (by omega) _).bind fun r16 h16=>Dr.ret ⟨h16.1.le (by omega),hyl⟩
 ·exact (Qbt h9.1 (by omega) _ _).bind fun r18 h18=>Dr.ret ⟨h18.1.le (by omega),hyl⟩
 ·have hlen:=hy.len;have h3:=hy.ok.own;refine Dr.guard (by show 0≤(1:Int)∧(1:Int)≤((y.2.2.1.length:Nat):Int)∧((y.2.2.1.length:Nat):Int)≤((y.2.2.1.length:Nat):Int); omega) (Dr.ret ⟨h9.1.le (by omega),hyl.1,hyl.2.1,?_,fun h hm=>hyl.2.2.2 h (List.mem_of_mem_drop (List.mem_of_mem_take hm))⟩)
  show (((y.2.2.1.drop _).take _).length)≤1048576;rw [List.length_take,List.length_drop];have:=hyl.2.2.1;omega
 ·exact Dr.ret ⟨h9.1.le (by omega),hyl⟩
def zH:QeX:=([],[],[],[],[],[],0,0,0,())
theorem QiC {x:Qw} {g:Int} (h:HK x) (hg:isG x.1 g=true):F_ed (x,g,())=some (((0,QaQ x g),()),()):=by
 rw [Qof x g h.le,Qpe h hg]
def OneW (m m':List Int):Prop:= ∃k:Nat, ∀i,i≠k→m'[i]?=m[i]?
theorem OneW.refl (m:List Int):OneW m m:=⟨0,fun _ _=>rfl⟩
theorem QvA (L:List Int) (v:Int) (hl:L.length≤1000):F_gu (L,v,())=some ((decide (v∈L),()),()):=by
 refine Dr.eq ?_;unfold F_gu
 have key:Dr (L_gu_2 ((L,(v,((0:Int),()))),((),()))) fun o=>(v∈L→o= .inr (.inl ((true,()),((),()))))∧(v∉L→o= .inl ((),((),()))):=by
  refine Qab (fun m u=> ∃i:Nat,u=((L,(v,((i:Int),()))),((),()))∧m+i=L.length∧(v∈L.drop i↔v∈L)) ?_ L.length _ ⟨0,rfl,by omega,by simp⟩ (by rw [QG]; omega)
  rintro rec m _ ⟨i,rfl,hm,he⟩ ih;unfold l_gu_2;dsimp only;by_cases ci:i< L.length
  ·rw [if_pos (lt_t ci),if_pos nat0,Qn ci];rw [List.drop_eq_getElem_cons ci] at he;by_cases c:L[i]=v
   ·refine Dr.pos (by simpa using c) (Dr.ret ⟨fun _=>rfl,fun h=>absurd (he.1 (by rw [c]; simp)) h⟩)
   ·refine Dr.neg (by simpa using c) ?_
    rw [QQ (by omega)]
    refine ih (m-1) _ (by omega) ⟨i+1,rfl,by omega,?_⟩
    rw [←he];simp only [List.mem_cons];exact ⟨.inr,fun h=>h.elim (fun h=>absurd h.symm c) id⟩
  ·rw [if_neg (lt_f ci)];rw [List.drop_of_length_le (by omega)] at he
   exact Dr.ret ⟨fun h=>absurd (he.2 h) (by simp),fun _=>rfl⟩
 refine key.bind fun o ho=>?_
 by_cases c:v∈L
 ·rw [ho.1 c];exact Dr.ret (by simp [c])
 ·rw [ho.2 c];exact Dr.ret (by simp [c])
def fedW (h:QH) (w:List Int):QH:=(h.1,h.2.1,h.2.2.1,h.2.2.2.1,h.2.2.2.2.1,h.2.2.2.2.2.1,h.2.2.2.2.2.2.1,h.2.2.2.2.2.2.2.1++w,h.2.2.2.2.2.2.2.2.1,())
def fedX (x:Qw) (g:Int) (w:List Int):Qw:=(x.1,x.2.1,x.2.2.1.set g.toNat (fedW (x.2.2.1.getD g.toNat QU) w),x.2.2.2.1,x.2.2.2.2.1,x.2.2.2.2.2.1,())
def fedC (h:QH) (w:List Int):Int:=if allW w=true then (if h.2.2.2.2.2.2.2.1.length+w.length≤40 then 0 else 2) else 3
theorem Qvn {h:QH} {w:List Int} (hh:hartM h=0) (hw:fedC h w=0):hartM (fedW h w)=0:=by
 have h40:allW w=true∧h.2.2.2.2.2.2.2.1.length+w.length≤40:=by
  unfold fedC at hw;split at hw
  ·split at hw
   ·exact ⟨‹_›, ‹_›⟩
   ·cases hw
  ·cases hw
 unfold hartM at hh;split at hh
 ·rename_i c1;split at hh
  ·rename_i c2;split at hh
   ·rename_i c3;split at hh
    ·rename_i c4;split at hh
     ·rename_i c5;unfold hartM fedW;dsimp only
      have e8:allW (h.2.2.2.2.2.2.2.1++w)=true:=by
       rw [Qah];intro v hv;rcases List.mem_append.1 hv with hv | hv
       ·exact Qah.1 c2.2.2.2.1 v hv
       ·exact Qah.1 h40.1 v hv
      rw [if_pos c1,if_pos ⟨c2.1,c2.2.1,c2.2.2.1,e8,c2.2.2.2.2⟩,if_pos ⟨by rw [List.length_append]; exact h40.2,c3.2⟩,if_pos c4,if_pos c5]
     ·cases hh
    ·cases hh
   ·cases hh
  ·cases hh
 ·cases hh
end Go.Proofs.YtkkljegcnnfanaaGreatDoor
