/- The machinery S, part 2: a run of a program's code over typed symbolic data, and that it is what the code does. -/
import Derived.Test.YtkkljegcnnfanaaGreatDoorS1
import Derived.Laws.CopyRow
import Derived.Laws.Slices
import Derived.Laws.Concat
import Derived.Laws.Strings
import Derived.Laws.Small
import Derived.Laws.StructEq
import Derived.Maps.AppendAt
import Derived.Laws.IdiomCopy
import Derived.Laws.CopyOwn
set_option linter.unusedVariables false
set_option linter.unusedSimpArgs false
namespace Go.Proofs.YtkkljegcnnfanaaGreatDoor.S
section
open Go Go.RowKit
section ops
variable {P:Program} {T:Tab} {G:Env} {Z:Nat→Prop} {M:Nat→Nat→Prop} {N:Nat→Option (Option (Nat×Nat))} {w0 w w':World} {β:Qr} {σ:St} {a:Act} {o:Oper} {next:Act→World→Prop} {Q:Exit→Act→World→Prop} {v:Value}
variable {R:Type} {K:St→Option R} {y:R} {S:Nat→Prop} {H:Heap} {qo:Out}
def GoOn (Z:Nat→Prop) (M:Nat→Nat→Prop) (N:Nat→Option (Option (Nat×Nat))) (w0:World) (σ:St) (K:St→Option R) (y:R) (next:Act→World→Prop):Prop:= ∀σ',K σ'=some y→σ'.nt=σ.nt→ ∀a' w',Rep Z M N w0 σ' a' w'→next a' w'
theorem QgF (σ:St) (i:Option Nat) (x:SV):(σ.sets i x).nt=σ.nt:=by cases i <;> rfl
theorem Qbk {x:S1} (h:VS w S β H x v):VV w S β H (.s x) v:=by
 by_cases a: ∃t z,x= .d t z
 ·obtain ⟨t,z,rfl⟩:=a;exact (VV_d h.1).2 h.2
 ·exact (VV_s (fun t z e=>a ⟨t,z,e⟩)).2 h
theorem Qlg {t:Ty} (h:isAg t=false):sz t=1:=by cases t <;> first | rfl | (simp [isAg] at h)
theorem QhH {t:Ty} {vs:List Value} (h:vs.length=sz t):Val t (if isAg t then .agg vs.toArray else vs.headD undef) vs:=by
 unfold Val;by_cases a:isAg t=true
 ·simp [a]
 ·simp only [Bool.not_eq_true] at a;have b:=Qlg a;rw [b] at h
  match vs,h with
  | [u],_=>simp [a]
theorem VV_p {b off:Nat} (h:VV w S β H (.s (.p b off)) v) {cs:List S1} (hb:look H b=some (.box cs)): ∃g base,β b=some (g,base)∧v= .pointer (some ⟨g,base+off,none⟩):=by
 have:=(VV_s (by intros; simp)).1 h
 simpa [VS,hb] using this
theorem Qun {b i off:Nat} (h:VV w S β H (.s (.pe b i off)) v) {e:TypeId} {t:Ty} {xs:List (den t)} (hb:look H b=some (.row e t xs)):
  (i< xs.length∧deep e=false)∧ ∃g cap,β b=some (g,cap)∧v= .pointer (some ⟨g,i*sz t+off,none⟩):=by
 have:=(VV_s (by intros; simp)).1 h
 simpa [VS,hb] using this
theorem Qum {b i off:Nat} (h:VV w S β H (.s (.dp b i off .ptr)) v) {e:TypeId} {t:Ty} {xs:List (den t)} (hb:look H b=some (.row e t xs)) (hd:deep e=true):
  i< xs.length∧deep e=true∧ ∃g cap,β b=some (g,cap)∧v= .pointer (some ⟨g,i*sz t+off,none⟩):=by
 have:=(VV_s (by intros; simp)).1 h
 simp only [VS,hb] at this;obtain ⟨a,c⟩:=this.2 hd;exact ⟨a,hd,c⟩
theorem Qvb (e:TypeId):lent (e % 1000000000000)=false:=by
 unfold lent;have:e % 1000000000000< 1000000000000:=Nat.mod_lt _ (by decide)
 rw [←Bool.not_eq_true,Nat.ble_eq];exact Nat.not_le.2 this
theorem QxJ {t:Ty} (h:QwT t=true) {x:den t} {m:List Value} (hm:Rp w S t x m):(∃A n k,m=[.slice A n k])∧isAg t=false:=by
 cases t with
 | slice t=>obtain ⟨A,b,a,_⟩:=hm; exact ⟨⟨A,_,b,a⟩,rfl⟩
 | _=>cases h
theorem QrF {t:Ty} {x:den t} (h:VV w S β H (.s (.pd t x)) v):PtrR w S (fun b=> ¬Own β H b) t x v:=by
 have:=(VV_s (by intros; simp)).1 h
 exact this
theorem Qkx {c:Array Value} {cs:List S1} {base:Nat} (hb:base+cs.length≤c.size) (hall:All2 (fun x v=>VS w S β H x v∧v.oneCell'=true) cs ((c.toList.drop base).take cs.length)) {off n:Nat} (hn:off+n≤cs.length):
  ((c.toList.drop (base+off)).take n).length=n∧(∀k,k< ((c.toList.drop (base+off)).take n).length→c[base+off+k]?=((c.toList.drop (base+off)).take n)[k]?)∧
   All2 (VS w S β H) ((cs.drop off).take n) ((c.toList.drop (base+off)).take n):=by
 refine ⟨by rw [List.length_take,List.length_drop]; simp; omega,?_,?_⟩
 ·intro k a;rw [List.length_take,List.length_drop] at a;rw [List.getElem?_take,if_pos (by omega),List.getElem?_drop]
  simp
 ·have:=((hall.mono fun _ _ h=>h.1).drop off).take n
  rw [List.drop_take,List.drop_drop,List.take_take,Nat.min_eq_left (by omega)] at this
  exact this
theorem splice {α:Type} (l vs:List α) {base L off:Nat} (h1:base+L≤l.length) (h2:off+vs.length≤L):
  ((l.take (base+off)++vs++l.drop (base+off+vs.length)).drop base).take L=((l.drop base).take L).take off++vs++((l.drop base).take L).drop (off+vs.length):=by
 rw [List.append_assoc,List.drop_append,List.drop_take,List.length_take];have a:base+off-base=off:=by omega
 have b:base-min (base+off) l.length=0:=by omega
 rw [a,b,List.drop_zero,List.take_append,List.take_append,List.take_take,List.take_take,List.length_take,List.length_drop,List.drop_take,List.drop_drop,List.append_assoc];have c:min off (l.length-base)=off:=by omega
 have d:min L off=off:=by omega
 have e:min off L=off:=by omega
 rw [c,d,e,List.take_of_length_le (l:=vs) (by omega)]
 have f:L-off-vs.length=L-(off+vs.length):=by omega
 have g:base+off+vs.length=base+(off+vs.length):=by omega
 rw [f,g]
theorem Qwv (hT:QR P T=true) (hrep:RepB Z M N w0 β σ a w) (hd:QK o.dst σ.nt=true) (hg:GoP Z M N w0 σ o qo next) {t:TypeId} {x:Operand} (ho:o.op= .load t x)
  (h:QI T o σ=some qo):o.wp P a w next Q:=by
 unfold QI Qal at h;rw [ho] at h;simp only at h
 have al: ∀g l u,a.eval x= .pointer (some ⟨g,l,none⟩)→(loadVar t ⟨g,l,none⟩).run P w= .ok u w→(execOp a.eval o).run P w= .ok (.value u) w:=by
  intro g l u he hl;unfold execOp;rw [ho];simp [Instr.loadAt,Instr.sureAddr,he,hl]
 split at h
 ·rename_i r b l hr hx;obtain ⟨i,d,z,v⟩:=Qz hT hr;split at h
  ·rename_i cs hb;split at h
   ·rename_i bd;obtain ⟨g,ag,ab,hv⟩:=VV_p (Qf hrep hx) hb;obtain ⟨g',aw,c,e,s,hh,a5,ax⟩:=hrep.obj b _ hb;rw [ab] at s;simp only [Oie,Pmi] at s;obtain ⟨rfl,rfl⟩:=s;obtain ⟨bm,bn,bo⟩:=Qkx a5 ax bd;have f:=al g _ _ hv (Qcq v hh bm bn);split at h
    ·rename_i ha;rw [if_pos ha] at f;obtain rfl:=Qq h;exact QD f (hg _ _ ⟨β,hrep.val hd ⟨_,rfl,bo⟩⟩)
    ·rename_i ha;rw [if_neg ha] at f;split at h
     ·rename_i c1 bk;obtain ⟨u,hu,bz⟩:=ax.get bk;have h1:=Qlg (by simpa using ha)
      have bx:((c.toList.drop (ag+l)).take (sz r.ty)).headD undef=u:=by
       rw [h1];rw [List.getElem?_take] at hu;split at hu
       ·rw [List.getElem?_drop] at hu
        have:c.toList.drop (ag+l)=u::c.toList.drop (ag+l+1):=by
         obtain ⟨bq,he⟩:=List.getElem?_eq_some_iff.1 hu;rw [List.drop_eq_getElem_cons bq,he]
        rw [this]; rfl
       ·cases hu
      rw [bx] at f;obtain rfl:=Qq h;exact QD f (hg _ _ ⟨β,hrep.val hd (Qbk bz.1)⟩)
     ·cases h
   ·cases h
  ·cases h
 ·rename_i r b k l hr hx;obtain ⟨i,d,z,v⟩:=Qz hT hr;split at h
  ·rename_i e u xs hb;obtain ⟨x1,a2,h⟩:=Obs h;obtain ⟨x2,aa,h⟩:=Obs h;obtain ⟨⟨hk,a8⟩,g,ag,ab,hv⟩:=Qun (Qf hrep hx) hb;rcases (Qaf a8).1 (hrep.obj b _ hb) with ⟨s,_⟩ | ⟨g',aw,c,ar,s,hh,hs,hl,bt,y,hi⟩
   ·rw [ab] at s; cases s
   rw [ab] at s;simp only [Oie,Pmi] at s;obtain ⟨rfl,rfl⟩:=s;obtain ⟨b1,ad,ak⟩:=QeW (fun _ _=>Qt) y a2
   obtain ⟨p,m,q,rfl,hp,hm⟩:=Qcr aa ad;have ac:=Qt hm;have a0:=Qt ad;simp only [List.length_append] at a0;have ae:=QaJ (fun _ _=>Qt) y
   have bp:k*sz u+sz u≤ar.length:=by
    rw [ae];have:(k+1)*sz u≤xs.length*sz u:=Nat.mul_le_mul_right _ hk;rw [Nat.add_mul] at this; omega
   have f:=al g _ _ hv (Qcq v hh ac (fun j hj=>by
    have:=ak (l+j) (by omega)
    rw [Nat.add_assoc,hi _ (by omega),this,List.append_assoc,List.getElem?_append_right (by omega),hp,Nat.add_sub_cancel_left,List.getElem?_append_left hj]))
   obtain rfl:=Qq h;exact QD f (hg _ _ ⟨β,hrep.val hd ⟨m,QhH ac,hm⟩⟩)
  ·cases h
 ·rename_i r b k l hr hx;obtain ⟨i,d,z,v⟩:=Qz hT hr;split at h
  ·rename_i e u xs hb;obtain ⟨x1,a2,h⟩:=Obs h;obtain ⟨x2,aa,h⟩:=Obs h
   have a7:deep e=true:=by
    cases bl:deep e with
    | true=>rfl
    | false=>rw [if_pos bl] at h; cases h
   rw [if_neg (by rw [a7]; simp)] at h
   obtain ⟨hk,a8,g,ag,ab,hv⟩:=Qum (Qf hrep hx) hb a7;rcases hrep.obj b _ hb with ⟨s,_⟩ | ⟨g',aw,c,ar,s,hh,hs,hl,bt,y,hi,_⟩
   ·rw [ab] at s; cases s
   rw [ab] at s;simp only [Oie,Pmi] at s;obtain ⟨rfl,rfl⟩:=s;obtain ⟨b1,ad,ak⟩:=QeW (fun _ _=>Qt) y a2
   obtain ⟨p,m,q,rfl,hp,hm⟩:=Qcr aa ad;have ac:=Qt hm;have a0:=Qt ad;simp only [List.length_append] at a0;have ae:=QaJ (fun _ _=>Qt) y
   have bp:k*sz u+sz u≤ar.length:=by
    rw [ae];have:(k+1)*sz u≤xs.length*sz u:=Nat.mul_le_mul_right _ hk;rw [Nat.add_mul] at this; omega
   have au: ∀j,j< m.length→c[k*sz u+l+j]?=m[j]? :=fun j hj=>by
    have:=ak (l+j) (by omega)
    rw [Nat.add_assoc,hi _ (by omega),this,List.append_assoc,List.getElem?_append_right (by omega),hp,Nat.add_sub_cancel_left,List.getElem?_append_left hj]
   have f:=al g _ _ hv (Qcq v hh ac au);split at h
   ·rename_i bv;obtain rfl:=Qq h;exact QD f (hg _ _ ⟨β,hrep.val hd ⟨m,QhH ac,Qct bv hm⟩⟩)
   ·split at h
    ·rename_i hc;obtain ⟨⟨b5,_⟩,bw⟩:=hc;obtain rfl:=Qq h;obtain ⟨⟨A,n,kk,br⟩,bj⟩:=QxJ bw hm;subst br;rw [bj] at f;refine QD f (hg _ _ ⟨β,hrep.val hd (Qbk ?_)⟩);simp only [VS,hb];have h0:=au 0 (by simp)
     exact ⟨rfl,fun _=>⟨hk,g,ag,ab,fun _=>⟨c,_,_,A,n,kk,hh,h0,rfl⟩⟩⟩
    ·cases h
  ·cases h
 ·rename_i r u x1 hr hx;obtain ⟨i,d,z,v⟩:=Qz hT hr;obtain ⟨x2,aa,h⟩:=Obs h;obtain rfl:=Qq h;have a9:=QrF (Qf hrep hx);cases ay:mark u with
  | none=>
   obtain ⟨x3,b0,rfl⟩:=QqW ay aa;obtain ⟨g,l,cs,hv,hS,ad,c,e,fz,hh,hi⟩:=a9.un ay;obtain ⟨p,m,q,rfl,hp,hm⟩:=Qcr b0 ad;have bu:p=[]:=List.eq_nil_of_length_eq_zero hp;subst bu;have ac:=Qt hm
   have f:=al g _ _ hv (Qcq v hh ac (fun j hj=>by
    rw [hi _ (by simp; omega),List.nil_append,List.getElem?_append_left hj]))
   exact QD f (hg _ _ ⟨β,hrep.val hd ⟨m,QhH ac,hm⟩⟩)
  | some u'=>
   obtain rfl:=QeG ay;simp only [ptrL] at aa;split at aa
   ·rename_i av;obtain ⟨av,bs⟩:=av;cases aa;obtain ⟨g,l,b2,a3,cs,hv,hS,⟨c,e,fz,hh,hi⟩,bh,ak,bi⟩:=a9
    have f:=al g _ _ hv (Qcq v hh (vs:=[.pointer (some ⟨b2,a3,none⟩)]) (by rw [av]; rfl) (fun j hj=>by
     rw [hi _ (by simpa using hj)]))
    rw [av] at f;exact QD f (hg _ _ ⟨β,hrep.val hd (Qbk (PtrR.mk bs ⟨b2,a3,cs,rfl,bh,ak,bi⟩))⟩)
   ·cases aa
 ·cases h
theorem QmM {α β:Type} {R:α→β→Prop} {cs ys:List α} {vs us:List β} {off:Nat} (h:All2 R cs vs) (h':All2 R ys us):
  All2 R (cs.take off++ys++cs.drop (off+ys.length)) (vs.take off++us++vs.drop (off+us.length)):=by
 rw [h'.len];exact ((h.take off).append h').append (h.drop _)
theorem Qnu {α:Type} {R:α→List Value→Prop} {n:Nat} (h: ∀x r,R x r→r.length=n): ∀{xs:List α} {rows} {i:Nat} {x:α} {r:List Value},RpL R xs rows→i< xs.length→R x r→
  RpL R (xs.set i x) (rows.take (i*n)++r++rows.drop (i*n+n))
 | [],_,i,_,_,_,hi,_=>by simp at hi
 | y::ys,_,0,x,r,⟨r0,rs,e,hx,hr⟩,hi,hxr=>by
  subst e;have hl:=h _ _ hx;refine ⟨r,rs,?_,hxr,hr⟩;rw [Nat.zero_mul,List.take_zero,List.nil_append,Nat.zero_add,List.drop_append,List.drop_of_length_le (by omega),hl,Nat.sub_self]
  simp
 | y::ys,_,i+1,x,r,⟨r0,rs,e,hx,hr⟩,hi,hxr=>by
  subst e;have hl:=h _ _ hx;have f:=Qnu h (i:=i) hr (by simpa using hi) hxr
  refine ⟨r0,rs.take (i*n)++r++rs.drop (i*n+n),?_,hx,f⟩;have a:(i+1)*n=r0.length+i*n:=by rw [Nat.add_mul]; omega
  have b:r0.length+i*n+n=r0.length+(i*n+n):=by omega
  rw [a,b,List.take_append,List.drop_append];have c:r0.take (r0.length+i*n)=r0:=List.take_of_length_le (by omega)
  have d:r0.drop (r0.length+(i*n+n))=[]:=List.drop_of_length_le (by omega)
  rw [c,d,Nat.add_sub_cancel_left,Nat.add_sub_cancel_left];simp [List.append_assoc]
theorem All2.right {α β:Type} {R:α→β→Prop} {p:β→Prop} (h: ∀a b,R a b→p b): ∀{as:List α} {bs:List β},All2 R as bs→ ∀b∈bs,p b
 | _,_,.nil,b,hb=>by simp at hb
 | _,_,.cons h1 hr,b,hb=>by
  rcases List.mem_cons.1 hb with rfl | hb
  ·exact h _ _ h1
  ·exact hr.right h b hb
theorem QcF {t:TypeId} {r:Row} {i:TypeInfo} {d:TypeDesc} {z:Value} (hrow:RowOk P T t r i d z) {g off:Nat} {c:Array Value} {e:TypeId} (hh:w.heap[g]?=some (.cells c e (0,0)))
  {u:Value} {vs:List Value} (hu:u.cells=vs.toArray) (hl:vs.length=sz r.ty) (hfit:off+vs.length≤c.size) (h1: ∀v∈vs,v.oneCell'=true):
  (storeVar t ⟨g,off,none⟩ u).run P w= .ok () (w.setRow g (c.toList.take off++vs++c.toList.drop (off+vs.length)).toArray):=by
 have a:=run_storeCells_at P g off e vs 0 c w hh (by omega) h1
 simp only [Nat.add_zero] at a;simp [storeVar,hu,hrow.run_size,hl,a]
theorem QeC (hk:Kept M w0 w) {g:Nat} {c:Array Value} {e:TypeId} {fz:Nat×Nat} (hh:w.heap[g]?=some (.cells c e fz)) {cs:Array Value} (hsz:cs.size=c.size) (hM: ∀i, ¬M g i→cs[i]?=c[i]?):
  Kept M w0 (w.setRow g cs):=
 hk.step rfl rfl rfl (by simp) fun b d=>by
  by_cases a:b=g
  ·subst a; exact .inr ⟨c,cs,e,fz,hh,setRow_heap w b c cs e fz hh,hsz,hM⟩
  ·exact .inl (setRow_other w g b cs a)
theorem QjM:VV w S β H (.s .any) v:=trivial
theorem RepB.inner (hrep:RepB Z M N w0 β σ a w) {b i off j:Nat} {e:TypeId} {u t1:Ty} {xs:List (den u)} {z z':den u} {ys:List (den t1)} {x:den t1} {pv val:Value} (hb:look σ.H b=some (.row e u xs))
  (htok:VS w (RO Z β σ.H) β σ.H (.dp b i off (.at j)) pv) (hle:lent e=true) (hdp:deep e=true) (hs1:sz t1=1) (hns:QaR t1=false) (hz:xs[i]?=some z) (hsub:sub u z off (.slice t1)=some ys)
  (hupd:upd u z off (.slice t1) (ys.set j x)=some z') (hx:Rp w S t1 x [val]):
  ∃g2 c2,pv= .pointer (some ⟨g2,j,none⟩)∧w.heap[g2]?=some (.cells c2 (inn e) (0,0))∧j+1≤c2.size∧
   RepB Z M N w0 β (σ.put b (.row e u (xs.set i z'))) a (w.setRow g2 (c2.toList.take j++[val]++c2.toList.drop (j+1)).toArray):=by
 simp only [VS,hb] at htok;obtain ⟨hi,g,al,y,htok⟩:=htok.2 hdp;obtain ⟨c,e',fz,A0,n0,k0,ah,ba,bg,hv⟩:=htok hle;rcases hrep.obj b _ hb with ⟨hq,_⟩ | ⟨g',br,c',v,hq,hh,bn,hl,bj,bp,ap,bb,au,bd⟩
 ·rw [y] at hq; cases hq
 rw [y] at hq;simp only [Oie,Pmi] at hq;obtain ⟨rfl,rfl⟩:=hq;rw [hh] at ah;simp only [Oie,Obj.cells.injEq] at ah;obtain ⟨rfl,_,_⟩:=ah;obtain ⟨F0,a8,av,t⟩:=bd hdp;obtain ⟨A,Fi,C,b7,rfl,aq,ax,bz,a5⟩:=Qiq a8 hz;obtain ⟨A',Fj,C',p,m,q,rfl,rfl,bl,hm,ak⟩:=Qug hsub aq;have ay:=QbD aq;have b6:m.length=1:=QbD hm;simp only [List.length_append] at ay
 have ai:m[0]?=some (.slice (some A0) n0 k0):=by
  have r:=ax off (by omega)
  rw [←ap _ (by omega),ba,List.append_assoc,List.getElem?_append_right (by omega),bl,Nat.sub_self,List.getElem?_append_left (by omega)] at r
  exact r.symm
 rcases hm with ⟨r,l,n⟩ | ⟨d,o,c2,ad,r,l,n,h4,h5,h6,h7,h8⟩
 ·subst r;simp at ai
 subst r; subst l;simp only [List.getElem?_cons_zero,Oie,Value.slice.injEq] at ai;obtain ⟨rfl,rfl,rfl⟩:=ai;have a4:=QaJ (fun _ _=>Qt) h7
 rw [hs1,Nat.mul_one] at a4 h4;have ag:d∈bits al:=t d (by simp)
 have bk:d≠g:=fun e1=>au (e1▸ag)
 have a3:=hrep.hold b _ _ d hb rfl y (.inr ⟨rfl,ag⟩);have az:=setRow_heap w d c2 (c2.toList.take j++[val]++c2.toList.drop (j+1)).toArray (inn e) (0,0) n;have f: ∀g2,g2≠d→(w.setRow d (c2.toList.take j++[val]++c2.toList.drop (j+1)).toArray).heap[g2]?=w.heap[g2]? :=fun g2 h=>setRow_other w d g2 _ h
 have ab:(c2.toList.take j++[val]++c2.toList.drop (j+1)).toArray.size=c2.size:=by
  simp only [List.size_toArray,List.length_append,List.length_take,List.length_drop,Array.length_toList,List.length_singleton]; omega
 refine ⟨d,c2,by rw [hv,QdG,Nat.zero_add],n,by omega,?_⟩
 generalize am:w.setRow d (c2.toList.take j++[val]++c2.toList.drop (j+1)).toArray=w' at az f
 have aa: ∀g2,g2∈A++A'++C'++C→g2≠d:=by
  intro g2 l n
  have hp:(A++(A'++[d]++C')++C).Perm ([d]++(A++A'++C'++C)):=by
   simp only [List.append_assoc];refine ((List.perm_append_comm_assoc A' [d] _).append_left A).trans ?_;exact List.perm_append_comm_assoc _ _ _
  exact (List.nodup_append.1 (hp.nodup_iff.1 av)).2.2 d (by simp) g2 l n.symm
 have ac:=Qnu (fun _ _=>Qt (w:=w) (S:=fun _=>False)) h7 bg (Qct (S':=fun _=>False) (w':=w) hns hx)
 rw [hs1,Nat.mul_one] at ac
 have bc:Dp w' (inn e) (.slice t1) (ys.set j x) [.slice (some ⟨d,0,none⟩) ys.length o] [d]:=by
  refine .inr ⟨d,o,_,_,by rw [List.length_set],rfl,az,by rw [ab,hs1,Nat.mul_one]; exact h4,by rw [List.length_set]; exact h5,h6,Qad (fun _ _=>Qct hns) ac,fun k hk=>?_⟩
  simp only [List.length_append,List.length_take,List.length_drop,List.length_singleton] at hk;simp only [List.getElem?_toArray];have ao: ∀k,k< ad.length→c2.toList[k]?=ad[k]? :=fun k hk=>by rw [Array.getElem?_toList]; exact h8 k hk
  by_cases k1:k< j
  ·rw [List.append_assoc,List.getElem?_append_left (by simp; omega),List.append_assoc,List.getElem?_append_left (by simp; omega),List.getElem?_take,if_pos k1,List.getElem?_take,if_pos k1,ao k (by omega)]
  ·by_cases k2:k=j
   ·subst k2;rw [List.getElem?_append_left (by simp; omega),List.getElem?_append_right (by simp; omega),List.getElem?_append_left (by simp; omega),List.getElem?_append_right (by simp; omega)]
    simp only [List.length_take,Array.length_toList];rw [Nat.min_eq_left (by omega),Nat.min_eq_left (by omega)]
   ·rw [List.getElem?_append_right (by simp; omega),List.getElem?_append_right (by simp; omega)]
    simp only [List.length_append,List.length_take,Array.length_toList,List.length_singleton];rw [Nat.min_eq_left (by omega),Nat.min_eq_left (by omega),List.getElem?_drop,List.getElem?_drop,ao _ (by omega)]
 have a9:=ak w' (ys.set j x) z' _ hupd (fun g2 l=>f g2 (aa g2 (by rcases List.mem_append.1 l with h | h <;> simp [h]))) bc
 have af:=a5 w' z' _ _ (fun g2 l=>f g2 (aa g2 (by rcases List.mem_append.1 l with h | h <;> simp [h]))) a9
 have bm:v.take (i*sz u)++(p++[.slice (some ⟨d,0,none⟩) ys.length o]++q)++v.drop (i*sz u+sz u)=v:=by
  apply List.ext_getElem?;intro j;have s:(p++[Value.slice (some ⟨d,0,none⟩) ys.length o]++q).length=sz u:=by simp only [List.length_append,List.length_singleton]; simp only [List.length_singleton] at ay; omega
  by_cases r:j< i*sz u
  ·rw [List.append_assoc,List.getElem?_append_left (by simp; omega),List.getElem?_take,if_pos r]
  ·by_cases l:j< i*sz u+sz u
   ·have n:=ax (j-i*sz u) (by omega)
    rw [show i*sz u+(j-i*sz u)=j by omega] at n
    rw [List.getElem?_append_left (by rw [List.length_append,s]; simp; omega),List.getElem?_append_right (by simp; omega),n,List.length_take,Nat.min_eq_left (by omega)]
   ·rw [List.getElem?_append_right (by rw [List.length_append,s]; simp; omega),List.length_append,s,List.length_take,Nat.min_eq_left (by omega),List.getElem?_drop]
    congr 1; omega
 rw [bm] at af;have ar:w'.heap[g]?=w.heap[g]? :=f g (Ne.symm bk);refine hrep.turnG hb rfl rfl y (fun _=>⟨e,xs,rfl,by simp,Qdt.refl,id,fun bh=>⟨bh,HdrS.same fun p2 aw=>?_⟩⟩) (fun b' hf=>(hrep.hold b _ _ b' hb rfl y hf).1) (fun _=>Iff.rfl) ?_ (by rw [←am]; simp) (fun b' r l=>f b' fun n=>l (.inr ⟨rfl,n▸ag⟩)) (fun S'=>?_)
 ·rw [y] at aw;obtain rfl:=Osj aw;exact ar
 ·rw [←am]; exact QeC hrep.below n ab fun i hi=>absurd (a3.1 i) hi
 ·rw [y];exact .inr ⟨g,al,_,v,rfl,by rw [ar]; exact hh,bn,by simpa using hl,bj,Qfu (fun g2 l=> .inr (t g2 l)) af,ap,bb,au,fun _=>⟨_,af,av,t⟩⟩
theorem Qvs {nm:Nat} (hT:QR P T=true) (hrep:RepB Z M N w0 β σ a w) (hd:QK o.dst σ.nt=true) (hg:GoOn Z M N w0 σ K y next) {t:TypeId} {x x':Operand} (ho:o.op= .store t x x')
  (h:opR T G nm o σ K=some y):o.wp P a w next Q:=by
 unfold opR at h;rw [ho] at h;simp only at h
 have bv: ∀g f w',a.eval x= .pointer (some ⟨g,f,none⟩)→(storeVar t ⟨g,f,none⟩ (a.eval x')).run P w= .ok () w'→(execOp a.eval o).run P w= .ok .skip w':=by
  intro g f w' he hl;unfold execOp;rw [ho];simp [Instr.storeAt,Instr.sureAddr,he,hl]
 split at h
 ·rename_i r b f u hr hx a4;obtain ⟨i,d,z,av⟩:=Qz hT hr;split at h
  ·rename_i cs hb;split at h
   ·rename_i co;obtain ⟨d9,d8,hk⟩:=co;obtain ⟨g,aa,s,hv⟩:=VV_p (Qf hrep hx) hb;obtain ⟨vs,dv,aw⟩:=Qdc (Qf hrep a4) hk;obtain ⟨g',bw,c,e,hq,hh,cn,c8⟩:=hrep.obj b _ hb;rw [s] at hq;simp only [Oie,Pmi] at hq;obtain ⟨rfl,rfl⟩:=hq;have ej:=aw.len;have au:=(hrep.own b _ g aa hb rfl s).1;have ap:=bv g _ _ hv (QcF av hh dv (by omega) (by omega) (aw.right fun _ _ h=>h.2))
    refine QeP ap (hg _ h (QgF ..) _ _ ⟨β,?_⟩);refine RepB.sets ?_ hd QjM;have bs:(Qgb cs f (cellsOf u)).length=cs.length:=by simp [Qgb]; omega
    refine hrep.turn hb rfl rfl s (fun _=>⟨⟨cs,rfl⟩,rfl⟩) (fun b' hf i hi=>by rw [Qdf hf]; exact au i (by omega)) (fun _=>Iff.rfl) (QeC hrep.below hh (by simp; omega) ?_) (by simp) (fun b' a9=>setRow_other w g b' _ fun e=>a9 (.inl e)) ?_
    ·intro j hj;have eg:c.toList.length=c.size:=Array.length_toList;have eh: ¬(aa≤j∧j< aa+cs.length):=fun hc=>hj (by have:=au (j-aa) (by omega); rwa [Nat.add_sub_cancel' hc.1] at this)
     have cw:j< aa∨aa+cs.length≤j:=by omega
     simp only [List.getElem?_toArray,List.append_assoc];by_cases h1:j< aa+f
     ·rw [List.getElem?_append_left (by simp; omega),List.getElem?_take,if_pos h1,Array.getElem?_toList]
     ·rw [List.getElem?_append_right (by simp; omega),List.length_take,Array.length_toList,Nat.min_eq_left (by omega),List.getElem?_append_right (by omega),List.getElem?_drop,Array.getElem?_toList]
      congr 1; simp only [List.size_toArray]; omega
    ·intro S' H' hs _;refine ⟨g,aa,_,e,s,setRow_heap w g c _ e (0,0) hh,by rw [bs]; simp; omega,?_⟩
     rw [bs,List.toList_toArray,splice _ _ (by simpa using cn) (by omega)]
     exact (QmM c8 aw).mono fun x v hx=>⟨hs x v hx.1,hx.2⟩
   ·cases h
  ·cases h
 ·rename_i r b k f u hr hx a4;obtain ⟨i,d,z,av⟩:=Qz hT hr;split at h
  ·rename_i x1 H' a0;split at h
   ·rename_i e l xs hb;obtain ⟨x2,bu,h2⟩:=Obs h;obtain ⟨x3,bh,h3⟩:=Obs h2;clear h h2;unfold QpX at a0;split at a0
    ·rename_i eo hD;simp only [Oie,Pmi] at a0;obtain ⟨rfl,rfl⟩:=a0;have aj:=hrep.frz (Qu σ.H u);obtain ⟨⟨hk,ax⟩,g,aa,s,hv⟩:=Qun (Qf aj (σ:={ σ with H:=frz σ.H (Qu σ.H u) }) (x:=x) (y:= .s (.pe b k f)) (by rw [←hx]; cases x <;> rfl)) hb
     obtain ⟨q,bb,ak⟩:=Qbv (own:=false) aj.owns (fun t x cs h=>h) (by simp) (Qf aj (σ:={ σ with H:=frz σ.H (Qu σ.H u) }) (x:=x') (y:=u) (by rw [←a4]; cases x' <;> rfl)) hD
     rcases (Qaf ax).1 (aj.obj b _ hb) with ⟨hq,_⟩ | ⟨g',bw,c,p,hq,hh,hs,hl,bg,ao,hi⟩
     ·rw [s] at hq; cases hq
     rw [s] at hq;simp only [Oie,Pmi] at hq;obtain ⟨rfl,rfl⟩:=hq;obtain ⟨ab,c0,az⟩:=QeW (fun _ _=>Qt) ao bu
     obtain ⟨c4,bt⟩:=Qud bh c0 ak;have bq:=Qt ak;have bs:=Qt c0;have am:=QaJ (fun _ _=>Qt) ao
     have b4:k*sz l+sz l≤p.length:=by
      rw [am];have:(k+1)*sz l≤xs.length*sz l:=Nat.mul_le_mul_right _ hk;rw [Nat.add_mul] at this; omega
     have b9:p.length≤c.size:=by rw [am,hs]; exact Nat.mul_le_mul_right _ hl
     have au:=(aj.own b _ g aa hb rfl s).1;have ap:=bv g _ _ hv (QcF av hh (QdD bb (Qaw ak)) (by omega) (by omega) (Qaw ak))
     refine QeP ap (hg _ h3 (QgF ..) _ _ ⟨β,?_⟩);refine RepB.sets ?_ hd QjM;refine aj.turn (σ:={ σ with H:=frz σ.H (Qu σ.H u) }) hb rfl rfl s (fun _=>⟨e,xs,rfl,by simp,Qdt.refl,id,fun hl=>by rw [Qgu ax] at hl; cases hl⟩) (fun b' hf=>(aj.hold b _ _ b' hb rfl s hf).1) (fun _=>Iff.rfl) (QeC aj.below hh (by simp; omega) (fun i hi=>absurd (au i) hi)) (by simp) (fun b' a9=>setRow_other w g b' _ fun e=>a9 (.inl e)) ?_
     intro S' H' _ hm;refine (Qaf ax).2 <| .inr ⟨g,aa,_,p.take (k*sz l)++(ab.take f++q++ab.drop (f+q.length))++p.drop (k*sz l+sz l),s,setRow_heap w g c _ e (0,0) hh,?_,by simpa using hl,bg,?_,?_⟩
     ·simp only [List.size_toArray,List.length_append,List.length_take,List.length_drop,Array.length_toList];rw [←hs]; omega
     ·exact Qnu (fun _ _=>Qt) (Qad (fun _ _=>hm _ _ _) ao) hk (hm _ _ _ bt)
     ·intro j hj;simp only [List.length_append,List.length_take,List.length_drop] at hj;simp only [List.getElem?_toArray];have ai: ∀j,j< p.length→c.toList[j]?=p[j]? :=fun j hj=>by rw [Array.getElem?_toList]; exact hi j hj
      by_cases h1:j< k*sz l+f
      ·by_cases h2:j< k*sz l
       ·rw [List.append_assoc,List.getElem?_append_left (by simp; omega),List.append_assoc,List.getElem?_append_left (by simp; omega),List.getElem?_take,if_pos h1,List.getElem?_take,if_pos h2,ai j (by omega)]
       ·rw [List.append_assoc,List.getElem?_append_left (by simp; omega),List.append_assoc,List.getElem?_append_right (by simp; omega)]
        rw [List.length_take,Nat.min_eq_left (by omega),List.getElem?_append_left (by simp; omega),List.append_assoc,List.getElem?_append_left (by simp; omega),List.getElem?_take,if_pos h1,List.getElem?_take,if_pos (by omega), ←az _ (by omega),ai j (by omega)]
        congr 1; omega
      ·by_cases h2:j< k*sz l+f+q.length
       ·rw [List.getElem?_append_left (by simp; omega),List.getElem?_append_right (by simp; omega),List.append_assoc,List.getElem?_append_right (by simp; omega)]
        rw [List.length_take,List.length_take,Array.length_toList,Nat.min_eq_left (by omega),Nat.min_eq_left (by omega),List.getElem?_append_left (by simp; omega),List.getElem?_append_left (by simp; omega),List.getElem?_append_right (by simp; omega)]
        rw [List.length_take,Nat.min_eq_left (by omega)]
        congr 1; omega
       ·rw [List.getElem?_append_right (by simp; omega)]
        have el:(c.toList.take (k*sz l+f)++q).length=k*sz l+f+q.length:=by simp; omega
        rw [el,List.getElem?_drop];by_cases h3:j< k*sz l+sz l
        ·rw [List.append_assoc,List.getElem?_append_right (by simp; omega),List.length_take,Nat.min_eq_left (by omega),List.getElem?_append_left (by simp; omega),List.getElem?_append_right (by simp; omega)]
         have aq:(ab.take f++q).length=f+q.length:=by simp; omega
         rw [aq,List.getElem?_drop,ai _ (by omega), ←az _ (by omega)]
         congr 1; omega
        ·rw [List.getElem?_append_right (by simp; omega)]
         have aq:(p.take (k*sz l)++(ab.take f++q++ab.drop (f+q.length))).length=k*sz l+sz l:=by simp; omega
         rw [aq,List.getElem?_drop,ai _ (by omega)]
         congr 1; omega
    ·cases a0
   ·cases h
  ·cases h
 ·rename_i r b k f j u hr hx a4;obtain ⟨i,d,z,av⟩:=Qz hT hr;split at h
  ·rename_i e l xs hb;split at h
   ·rename_i hc;obtain ⟨⟨⟨b4,ax⟩,_⟩,dr,ch⟩:=hc;obtain ⟨x1,hD,h⟩:=Obs h;obtain ⟨z1,dy,h⟩:=Obs h;obtain ⟨ys,dx,h⟩:=Obs h;obtain ⟨z2,dz,h⟩:=Obs h;obtain ⟨q,bb,ak⟩:=Qbv (own:=false) hrep.owns (fun t x cs h=>h) (by simp) (Qf hrep a4) hD
    have bq:=Qt ak;rw [ch] at bq;obtain ⟨en,rfl⟩:=List.length_eq_one_iff.1 bq;obtain ⟨m,c2,dt,dn,cw,hr⟩:=hrep.inner hb ((VV_s (by intros; simp)).1 (Qf hrep hx)) b4 ax ch dr dy dx dz ak
    have ap:=bv m j _ dt (QcF av dn (QdD bb (Qaw ak)) (by rw [ch]; rfl) (by simpa using cw) (Qaw ak))
    exact QeP ap (hg _ h (QgF ..) _ _ ⟨β,RepB.sets hr hd QjM⟩)
   ·cases h
  ·cases h
 ·rename_i r b k f u hr hx a4;obtain ⟨i,d,z,av⟩:=Qz hT hr;split at h
  ·rename_i e l xs hb
   have ca:deep e=true:=by
    cases dl:deep e with
    | true=>rfl
    | false=>rw [if_pos dl] at h; cases h
   rw [if_neg (by rw [ca]; simp)] at h
   split at h
   ·rename_i ci;obtain ⟨x1,hD,h⟩:=Obs h;obtain ⟨x2,bu,h⟩:=Obs h;obtain ⟨x4,dw,h⟩:=Obs h;obtain ⟨x3,bh,h3⟩:=Obs h;obtain ⟨hk,ax,g,aa,s,hv⟩:=Qum (Qf hrep hx) hb ca;obtain ⟨q,bb,ak⟩:=Qbv (own:=false) hrep.owns (fun t x cs h=>h) (by simp) (Qf hrep a4) hD
    rcases hrep.obj b _ hb with ⟨hq,_⟩ | ⟨g',bw,c,p,hq,hh,hs,hl,bg,ao,hi,ct,br,cb⟩
    ·rw [s] at hq; cases hq
    rw [s] at hq;simp only [Oie,Pmi] at hq;obtain ⟨rfl,rfl⟩:=hq;obtain ⟨F,b8,cf,ad⟩:=cb ax;obtain ⟨A,Fi,C,ab,rfl,bf,az,b4,b0⟩:=Qiq b8 bu;obtain ⟨c4,A',B',C',rfl,bt⟩:=QvQ bh bf (QjB ci ak);obtain ⟨pp,mm,qq,cq,ek,cy⟩:=Qcr dw (QlN (S:=fun _=>True) (fun _ _=>trivial) bf)
    have bq:=Qt ak;have ea:=Qt cy;have bs:=QbD bf;have am:=QaJ (fun _ _=>Qt) ao
    have b9:p.length≤c.size:=by rw [am,hs]; exact Nat.mul_le_mul_right _ hl
    have au:=(hrep.own b _ g aa hb rfl s).1;have ap:=bv g _ _ hv (QcF av hh (QdD bb (Qaw ak)) (by omega) (by omega) (Qaw ak))
    have ba: ∀j,j< (p.take (k*sz l)++(ab.take f++q++ab.drop (f+q.length))++p.drop (k*sz l+sz l)).length→
      (c.toList.take (k*sz l+f)++q++c.toList.drop (k*sz l+f+q.length))[j]?=(p.take (k*sz l)++(ab.take f++q++ab.drop (f+q.length))++p.drop (k*sz l+sz l))[j]? :=by
      intro j hj;simp only [List.length_append,List.length_take,List.length_drop] at hj;have ai: ∀j,j< p.length→c.toList[j]?=p[j]? :=fun j hj=>by rw [Array.getElem?_toList]; exact hi j hj
      by_cases h1:j< k*sz l+f
      ·by_cases h2:j< k*sz l
       ·rw [List.append_assoc,List.getElem?_append_left (by simp; omega),List.append_assoc,List.getElem?_append_left (by simp; omega),List.getElem?_take,if_pos h1,List.getElem?_take,if_pos h2,ai j (by omega)]
       ·rw [List.append_assoc,List.getElem?_append_left (by simp; omega),List.append_assoc,List.getElem?_append_right (by simp; omega)]
        rw [List.length_take,Nat.min_eq_left (by omega),List.getElem?_append_left (by simp; omega),List.append_assoc,List.getElem?_append_left (by simp; omega),List.getElem?_take,if_pos h1,List.getElem?_take,if_pos (by omega), ←az _ (by omega),ai j (by omega)]
        congr 1; omega
      ·by_cases h2:j< k*sz l+f+q.length
       ·rw [List.getElem?_append_left (by simp; omega),List.getElem?_append_right (by simp; omega),List.append_assoc,List.getElem?_append_right (by simp; omega)]
        rw [List.length_take,List.length_take,Array.length_toList,Nat.min_eq_left (by omega),Nat.min_eq_left (by omega),List.getElem?_append_left (by simp; omega),List.getElem?_append_left (by simp; omega),List.getElem?_append_right (by simp; omega)]
        rw [List.length_take,Nat.min_eq_left (by omega)]
        congr 1; omega
       ·rw [List.getElem?_append_right (by simp; omega)]
        have el:(c.toList.take (k*sz l+f)++q).length=k*sz l+f+q.length:=by simp; omega
        rw [el,List.getElem?_drop];by_cases h3:j< k*sz l+sz l
        ·rw [List.append_assoc,List.getElem?_append_right (by simp; omega),List.length_take,Nat.min_eq_left (by omega),List.getElem?_append_left (by simp; omega),List.getElem?_append_right (by simp; omega)]
         have aq:(ab.take f++q).length=f+q.length:=by simp; omega
         rw [aq,List.getElem?_drop,ai _ (by omega), ←az _ (by omega)]
         congr 1; omega
        ·rw [List.getElem?_append_right (by simp; omega)]
         have aq:(p.take (k*sz l)++(ab.take f++q++ab.drop (f+q.length))).length=k*sz l+sz l:=by simp; omega
         rw [aq,List.getElem?_drop,ai _ (by omega)]
         congr 1; omega
    have dm: ∀(j:Nat) A n kk,c[j]?=some (.slice A n kk)→(c.toList.take (k*sz l+f)++q++c.toList.drop (k*sz l+f+q.length))[j]?=c[j]? :=by
     intro j A n kk hj;have ei:j< c.toList.length:=by rw [Array.length_toList]; exact (Array.getElem?_eq_some_iff.1 hj).1
     by_cases h1:j< k*sz l+f
     ·rw [List.append_assoc,List.getElem?_append_left (by simp; omega),List.getElem?_take,if_pos h1,Array.getElem?_toList]
     ·by_cases h2:j< k*sz l+f+q.length
      ·exfalso;have h5:=az (j-k*sz l) (by omega)
       rw [show k*sz l+(j-k*sz l)=j by omega, ←hi j (by omega),hj,cq,List.append_assoc,List.getElem?_append_right (by omega),List.getElem?_append_left (by omega)] at h5
       exact QeX ci cy A n kk (List.mem_of_getElem? h5.symm)
      ·rw [List.getElem?_append_right (by simp; omega)]
       have el:(c.toList.take (k*sz l+f)++q).length=k*sz l+f+q.length:=by simp; omega
       rw [el,List.getElem?_drop,Array.getElem?_toList];congr 1; omega
    refine QeP ap (hg _ h3 (QgF ..) _ _ ⟨β,?_⟩);refine RepB.sets ?_ hd QjM;have al: ∀m,m∈bits aa→m≠g:=fun m h2 e2=>br (e2▸h2)
    refine hrep.turn hb rfl rfl s (fun _=>⟨e,xs,rfl,by simp,Qdt.refl,id,fun dq=>⟨dq,?_⟩⟩) (fun b' hf=>(hrep.hold b _ _ b' hb rfl s hf).1) (fun _=>Iff.rfl) (QeC hrep.below hh (by simp; omega) (fun i hi=>absurd (au i) hi)) (by simp) (fun b' a9=>setRow_other w g b' _ fun e=>a9 (.inl e)) ?_
    ·intro b2 d5 c2 e2 ef cg a3;rw [s] at cg;simp only [Oie,Pmi] at cg;obtain ⟨rfl,rfl⟩:=cg;rw [hh] at a3;simp only [Oie,Obj.cells.injEq] at a3;obtain ⟨rfl,rfl,rfl⟩:=a3;exact ⟨_,_,_,setRow_heap w g c _ _ (0,0) hh,fun j A n kk hj=>by simp only [List.getElem?_toArray]; exact dm j A n kk hj⟩
    ·intro S' H' _ hm
     have bp:=b0 (w.setRow g (c.toList.take (k*sz l+f)++q++c.toList.drop (k*sz l+f+q.length)).toArray) x3 _ _ (fun m ac=>setRow_other w g m _ (al m (ad m (by
      rcases List.mem_append.1 ac with h | h
      ·simp [h]
      ·simp [h])))) (Qdv (fun m ac=>setRow_other w g m _ (al m (ad m (by
      rcases List.mem_append.1 ac with h | h
      ·rcases List.mem_append.1 h with h | h
       ·simp [h]
       ·cases h
      ·simp [h])))) bt)
     refine .inr ⟨g,aa,_,_,s,setRow_heap w g c _ _ (0,0) hh,?_,by simpa using hl,bg,Qfu ?_ bp,?_,ct,br,fun _=>⟨_,bp,?_,?_⟩⟩
     ·simp only [List.size_toArray,List.length_append,List.length_take,List.length_drop,Array.length_toList];rw [←hs]; omega
     ·intro m ac;refine .inr (ad m ?_);simp only [List.mem_append,List.append_nil] at ac⊢;rcases ac with (h | h | h) | h <;> simp [h]
     ·intro j hj;simp only [List.getElem?_toArray];exact ba j hj
     ·refine cf.sublist ?_;refine List.Sublist.append (List.Sublist.append (List.Sublist.refl _) ?_) (List.Sublist.refl _);exact List.Sublist.append (List.Sublist.append (List.Sublist.refl _) (List.nil_sublist _)) (List.Sublist.refl _)
     ·intro m ac;refine ad m ?_;simp only [List.mem_append,List.append_nil] at ac⊢;rcases ac with (h | h | h) | h <;> simp [h]
   ·rename_i ci;obtain ⟨⟨x1,ns,rr⟩,ce,h⟩:=Obs h;split at h
    ·rename_i dk;obtain ⟨⟨⟨c3,di⟩,dp⟩,cz,b3,cc⟩:=dk;simp only at cz b3 cc;have du:rr=[]:=by simpa using cc
     subst du;obtain ⟨x2,bu,h⟩:=Obs h;obtain ⟨x3,bh,h3⟩:=Obs h;simp only at bh h3;obtain ⟨hk,ax,g,aa,s,hv⟩:=Qum (Qf hrep hx) hb ca;obtain ⟨q,bb,aw⟩:=Qdc (Qf hrep a4) dp;obtain ⟨em,v2,cj,cu,db⟩:=QjY hrep.owns (aw.mono fun _ _ h=>h.1) ce
     cases db;rw [List.append_nil] at cj;subst cj;rcases hrep.obj b _ hb with ⟨hq,_⟩ | ⟨g',bw,c,p,hq,hh,hs,hl,bg,ao,hi,ct,br,cb⟩
     ·rw [s] at hq; cases hq
     rw [s] at hq;simp only [Oie,Pmi] at hq;obtain ⟨rfl,rfl⟩:=hq;obtain ⟨F,b8,cf,ad⟩:=cb ax;obtain ⟨A,Fi,C,ab,rfl,bf,az,b4,b0⟩:=Qiq b8 bu;obtain ⟨c4,A',B',C',rfl,bt⟩:=QvQ bh bf cu;have bq:=QbD cu;have bs:=QbD bf;have am:=QaJ (fun _ _=>Qt) ao
     have b9:p.length≤c.size:=by rw [am,hs]; exact Nat.mul_le_mul_right _ hl
     have au:=(hrep.own b _ g aa hb rfl s).1;have ap:=bv g _ _ hv (QcF av hh bb (by omega) (by omega) (aw.right fun _ _ h=>h.2))
     have ba: ∀j,j< (p.take (k*sz l)++(ab.take f++q++ab.drop (f+q.length))++p.drop (k*sz l+sz l)).length→
       (c.toList.take (k*sz l+f)++q++c.toList.drop (k*sz l+f+q.length))[j]?=(p.take (k*sz l)++(ab.take f++q++ab.drop (f+q.length))++p.drop (k*sz l+sz l))[j]? :=by
       intro j hj;simp only [List.length_append,List.length_take,List.length_drop] at hj;have ai: ∀j,j< p.length→c.toList[j]?=p[j]? :=fun j hj=>by rw [Array.getElem?_toList]; exact hi j hj
       by_cases h1:j< k*sz l+f
       ·by_cases h2:j< k*sz l
        ·rw [List.append_assoc,List.getElem?_append_left (by simp; omega),List.append_assoc,List.getElem?_append_left (by simp; omega),List.getElem?_take,if_pos h1,List.getElem?_take,if_pos h2,ai j (by omega)]
        ·rw [List.append_assoc,List.getElem?_append_left (by simp; omega),List.append_assoc,List.getElem?_append_right (by simp; omega)]
         rw [List.length_take,Nat.min_eq_left (by omega),List.getElem?_append_left (by simp; omega),List.append_assoc,List.getElem?_append_left (by simp; omega),List.getElem?_take,if_pos h1,List.getElem?_take,if_pos (by omega), ←az _ (by omega),ai j (by omega)]
         congr 1; omega
       ·by_cases h2:j< k*sz l+f+q.length
        ·rw [List.getElem?_append_left (by simp; omega),List.getElem?_append_right (by simp; omega),List.append_assoc,List.getElem?_append_right (by simp; omega)]
         rw [List.length_take,List.length_take,Array.length_toList,Nat.min_eq_left (by omega),Nat.min_eq_left (by omega),List.getElem?_append_left (by simp; omega),List.getElem?_append_left (by simp; omega),List.getElem?_append_right (by simp; omega)]
         rw [List.length_take,Nat.min_eq_left (by omega)]
         congr 1; omega
        ·rw [List.getElem?_append_right (by simp; omega)]
         have el:(c.toList.take (k*sz l+f)++q).length=k*sz l+f+q.length:=by simp; omega
         rw [el,List.getElem?_drop];by_cases h3:j< k*sz l+sz l
         ·rw [List.append_assoc,List.getElem?_append_right (by simp; omega),List.length_take,Nat.min_eq_left (by omega),List.getElem?_append_left (by simp; omega),List.getElem?_append_right (by simp; omega)]
          have aq:(ab.take f++q).length=f+q.length:=by simp; omega
          rw [aq,List.getElem?_drop,ai _ (by omega), ←az _ (by omega)]
          congr 1; omega
         ·rw [List.getElem?_append_right (by simp; omega)]
          have aq:(p.take (k*sz l)++(ab.take f++q++ab.drop (f+q.length))).length=k*sz l+sz l:=by simp; omega
          rw [aq,List.getElem?_drop,ai _ (by omega)]
          congr 1; omega
     have h9: ∀o∈ns,o< 9000000∧o≠b:=fun o ho=>by
      have:=List.all_eq_true.1 b3 o ho;simpa using this
     have bj: ∀o∈ns, ∃e0 t0 ys,look σ.H o=some (.row e0 t0 ys):=Qme ce
     have a8: ∀m,m∈ns.flatMap (blk1 β)→m≠g∧m∉bits aa:=by
      intro m h2;obtain ⟨o,ho,c2,a3⟩:=QfA.1 h2;obtain ⟨e0,t0,ys,cx⟩:=bj o ho;refine ⟨fun e2=>?_,fun e2=>?_⟩
      ·subst e2;exact (h9 o ho).2 (hrep.inj o b _ _ m c2 aa cx rfl hb rfl a3 s)
      ·exact (h9 o ho).2 (hrep.one o b _ _ _ _ m cx rfl hb rfl a3 s Qm (.inr ⟨rfl,e2⟩))
     have al: ∀m,m∈bits aa→m≠g:=fun m h2 e2=>br (e2▸h2)
     obtain ⟨bx,a7,bi⟩:=QfG bg (bits aa++ns.flatMap (blk1 β));refine QeP ap (hg _ h3 (QgF ..) _ _ ⟨β.put b (some (g,bx)),?_⟩);refine RepB.sets ?_ hd QjM;refine hrep.give hb s c3 (Qvb e) di (fun o ho=>(h9 o ho).1) (fun o ho=>⟨(h9 o ho).2,bj o ho⟩) (by simp) a7 (fun m=>by rw [bi,List.mem_append]) (QeC hrep.below hh (by simp; omega) (fun i hi=>absurd (au i) hi)) (by simp) (fun b' a9=>setRow_other w g b' _ a9) ?_
     intro S' hm
     have da: ∀m,m∈A'++ns.flatMap (blk1 β)++C'→m≠g:=by
      intro m h2;simp only [List.mem_append] at h2;rcases h2 with (h | h) | h
      ·exact al m (ad m (by simp [h]))
      ·exact (a8 m h).1
      ·exact al m (ad m (by simp [h]))
     have bp:=b0 (w.setRow g (c.toList.take (k*sz l+f)++q++c.toList.drop (k*sz l+f+q.length)).toArray) x3 _ _ (fun m ac=>setRow_other w g m _ (al m (ad m (by
      rcases List.mem_append.1 ac with h | h
      ·simp [h]
      ·simp [h])))) (Qdv (fun m ac=>setRow_other w g m _ (da m ac)) bt)
     have cv: ∀m,m∈A++(A'++ns.flatMap (blk1 β)++C')++C→m∈bits bx:=by
      intro m ac;rw [bi,List.mem_append];simp only [List.mem_append] at ac;rcases ac with (h | (h | h) | h) | h
      ·exact .inl (ad m (by simp [h]))
      ·exact .inl (ad m (by simp [h]))
      ·exact .inr h
      ·exact .inl (ad m (by simp [h]))
      ·exact .inl (ad m (by simp [h]))
     refine QbN c3 <| .inr ⟨g,bx,_,_,rfl,setRow_heap w g c _ _ (0,0) hh,?_,?_,?_,Qfu (fun m ac=> .inr (cv m ac)) bp,?_,.inl ax,?_,fun _=>⟨_,bp,?_,cv⟩⟩
     ·rw [a7];simp only [List.size_toArray,List.length_append,List.length_take,List.length_drop,Array.length_toList];rw [←hs]; omega
     ·rw [a7]; simpa using hl
     ·rw [a7]; exact bg
     ·intro j hj;simp only [List.getElem?_toArray];exact ba j hj
     ·rw [bi,List.mem_append];rintro (h | h)
      ·exact br h
      ·exact (a8 g h).1 rfl
     ·have hp:(A++(A'++ns.flatMap (blk1 β)++C')++C).Perm (ns.flatMap (blk1 β)++(A++(A'++C')++C)):=by
       have h1:(A'++ns.flatMap (blk1 β)++C').Perm (ns.flatMap (blk1 β)++(A'++C')):=by
        rw [←List.append_assoc];exact List.perm_append_comm.append_right C'
       refine ((h1.append_left A).append_right C).trans ?_;simp only [List.append_assoc];exact List.perm_append_comm_assoc _ _ _
      refine hp.nodup_iff.2 (List.nodup_append.2 ⟨Qhk (L:=ns) (fun o o' m c1 c2 ho ds dj a3=>?_) (fun o ho=>ho) (Qap cz),cf.sublist ?_,?_⟩)
      ·obtain ⟨_,_,_,k1⟩:=bj o ho;obtain ⟨_,_,_,k2⟩:=bj o' ds;exact hrep.inj o o' _ _ m c1 c2 k1 rfl k2 rfl dj a3
      ·refine List.Sublist.append (List.Sublist.append (List.Sublist.refl _) ?_) (List.Sublist.refl _);exact List.Sublist.append (List.sublist_append_left A' B') (List.Sublist.refl _)
      ·intro m h2 g3 h3 e3;subst e3;refine (a8 m h2).2 (ad m ?_);simp only [List.mem_append] at h3⊢;rcases h3 with (h | h | h) | h <;> simp [h]
    ·cases h
  ·cases h
 ·cases h
end ops
end
section
open Go Go.RowKit
section ops
variable {P:Program} {T:Tab} {G:Env} {Z:Nat→Prop} {M:Nat→Nat→Prop} {N:Nat→Option (Option (Nat×Nat))} {w0 w w':World} {β:Qr} {σ:St} {a:Act} {o:Oper} {next:Act→World→Prop} {Q:Exit→Act→World→Prop} {v:Value}
variable {R:Type} {K:St→Option R} {y:R} {S:Nat→Prop} {H:Heap} {qo:Out}
theorem QlZ {a b:ByteArray} (h:a.data.toList=b.data.toList):a=b:=by
 cases a; cases b; congr; exact Array.toList_inj.1 h
theorem Qpm (hrep:RepB Z M N w0 β σ a w) (hd:QK o.dst σ.nt=true) (hg:GoP Z M N w0 σ o qo next) {x:Operand} (ho:o.op= .nilCheck x)
  (h:QI T o σ=some qo):o.wp P a w next Q:=by
 unfold QI Qal at h;rw [ho] at h;simp only at h
 have j: ∀q,a.eval x= .pointer (some q)→(execOp a.eval o).run P w= .ok (.value (a.eval x)) w:=by
  intro q n;unfold execOp;rw [ho];simp [n]
 split at h
 ·rename_i b k f;have c:=Qf hrep f;have d:=(VV_s (by intros; simp)).1 c
  split at h
  ·rename_i l;simp only [VS,l] at d;obtain ⟨g,m,_,e⟩:=d;obtain rfl:=Qq h;exact QD (j _ e) (hg _ _ ⟨β,hrep.val hd c⟩)
  ·cases h
 ·rename_i u z f;have c:=Qf hrep f;obtain ⟨b,k,e,_⟩:=(QrF c).any;obtain rfl:=Qq h;exact QD (j _ e) (hg _ _ ⟨β,hrep.val hd c⟩)
 ·rename_i b i k f;have c:=Qf hrep f;have d:=(VV_s (by intros; simp)).1 c
  split at h
  ·rename_i l;simp only [VS,l] at d;obtain ⟨_,g,m,_,e⟩:=d;obtain rfl:=Qq h;exact QD (j _ e) (hg _ _ ⟨β,hrep.val hd c⟩)
  ·cases h
 ·cases h
theorem Qcz {α:Type} {p:Prop} [Decidable p] {x:Option α} {y:α} (h:(if p then x else none)=some y):p∧x=some y:=by
 split at h
 ·rename_i a; exact ⟨a,h⟩
 ·cases h
theorem QsM {op:BinOp} {k:IntKind} {x z:Int} {r:S1} (h:bin op k x z=some r) (hns:Qff op=false) (t:TypeId):
  ∃u,(binOp op t (.int k x) (.int k z)).run P w= .ok u w∧VS w S β H r u:=by
 cases op <;> simp only [bin,Qff,reduceCtorEq,Qav,Qan] at h hns <;> first
  | (cases h; done)
  | (obtain rfl:=Osj h; refine ⟨_,by simp [binOp,Op.intArith,Op.intBits,Op.intCmp]; rfl,⟨rfl,?_⟩⟩; simp [Rp])
  | skip
 all_goals
  split at h
  ·cases h
  ·rename_i a;obtain rfl:=Osj h;exact ⟨_,by simp [binOp,Op.intDiv,a] <;> rfl,⟨rfl,rfl⟩⟩
theorem QtN {op:BinOp} {k l:IntKind} {x z:Int} {r:S1} (h:shf op k x z=some r) (t:TypeId):
  ∃u,(binOp op t (.int k x) (.int l z)).run P w= .ok u w∧VS w S β H r u:=by
 unfold shf at h;split at h
 ·cases h
 ·rename_i a
  cases op <;> simp only [reduceCtorEq] at h <;> first
   | (cases h; done)
   | (obtain rfl:=Osj h; exact ⟨_,by simp [binOp,Op.shift,a] <;> rfl,⟨rfl,rfl⟩⟩)
theorem Qis {R:Type} {t:TypeId} {op:BinOp} {x z:SV} {K:S1→Option R}:binC T t op x z K=(bin2 T t op x z).bind K:=by
 unfold binC;split <;> (try rfl)
 ·simp only [bin2,Qff,bin,Bool.false_eq_true,if_false];split
  ·split <;> rfl
  ·rfl
 ·simp only [bin2,Qff,bin,Bool.false_eq_true,if_false];split
  ·split <;> rfl
  ·rfl
 ·simp only [bin2,Qff,shf,if_true];split <;> rfl
 ·simp only [bin2,Qff,shf,if_true];split <;> rfl
 ·simp only [bin2];split <;> rfl
theorem Qma {t:Ty} {c:S1} {x:den t} (h:Qae false [] t c=some x):Qae false H t c=some x:=by
 cases c <;> first | exact h | (simp [Qae,look] at h; done)
theorem Qwh: ∀{t:Ty} {cs:List S1} {x:den t} {r:List S1},gat false [] t cs=some (x,r)→gat false H t cs=some (x,r):=by
 intro t
 induction t with
 | unit=>intro cs x r h; exact h
 | pair p q a b=>
  intro cs x r h;simp only [gat] at h⊢;split at h
  ·rename_i j g d;split at h
   ·rename_i k i e;rw [a d];simp only;rw [b e];exact h
   ·cases h
  ·cases h
 | _=>
  intro cs x r h;cases cs with
  | nil=>simp [gat] at h
  | cons c cs=>
   simp only [gat] at h⊢;split at h
   ·rename_i y f;rw [Qma f];exact h
   ·cases h
theorem Qsx {t:Ty} {x:SV} {y:den t} (h:toD false [] t x=some y):toD false H t x=some y:=by
 cases x with
 | s c=>exact Qma h
 | g d=>
  simp only [toD] at h⊢;split at h
  ·rename_i a;rw [if_pos a];split at h
   ·rename_i z b;rw [Qwh b];exact h
   ·cases h
  ·cases h
theorem Qpp (hT:QR P T=true) {u:TypeId} {q:Row} (hq:look T u=some q) (ha:isAg q.ty=false) {xs:Array Value} {off:Nat} {v:Value} (hv:xs[off]?=some v):(part u xs off).run P w= .ok v w:=by
 obtain ⟨i,d,z,a⟩:=Qz hT hq;simp [part,a.run_isAgg,ha,hv]
theorem QhL (hT : QR P T = true) {dep : Nat} : ∀ (fs : List Field) (k : Nat) (ty : Ty) (x y : den ty) (p1 p2 c1 c2 : List Value), Qmg T k ty (fs.map fun f => (f.offset, f.type)) = true → (∀ f ∈ fs, f.name ≠ "_") →
  Rp w S ty x c1→Rp w S ty y c2→p1.length=k→p2.length=k→(Op.eqFields (dep+1) (p1++c1).toArray (p2++c2).toArray fs).run P w= .ok (eqD ty x y) w
 | [],k,ty,x,y,p1,p2,c1,c2,h,_,_,_,_,_=>by
  cases ty <;> first | (simp [Qmg] at h; done) | skip
  simp [Op.eqFields,eqD]
 | f::fs,k,ty,x,y,p1,p2,c1,c2,h,hn,h1,h2,hp1,hp2=>by
  cases ty <;> first | (simp [Qmg] at h; done) | skip
  rename_i a b;simp only [List.map_cons,Qmg,Bool.and_eq_true,decide_eq_true_eq] at h;obtain ⟨⟨⟨hoff,hlk⟩,hprim⟩,hrest⟩:=h;split at hlk
  ·rename_i q v;have g:q.ty=a:=by simpa using hlk
   obtain ⟨a1,s,rfl,c,ac⟩:=h1;obtain ⟨a2,t,rfl,e,ad⟩:=h2
   have ae : f.name ≠ "_" := hn f (by simp)
   obtain ⟨i,d,z,j⟩:=Qz hT v;have l:=j.desc;unfold QaW at l
   have u: ∀(m n:Value) (r:Bool),isAg q.ty=false→a1=[m]→a2=[n]→(Op.equalIn (dep+1) f.type m n).run P w= .ok r w→r=eqD a x.1 y.1→
     (Op.eqFields (dep+1) (p1++(a1++s)).toArray (p2++(a2++t)).toArray (f::fs)).run P w= .ok (eqD (.pair a b) x y) w:=by
    intro m n r o e1 e2 hr p;subst e1; subst e2;have g1:(part f.type (p1++([m]++s)).toArray f.offset).run P w= .ok m w:=Qpp hT v o (by simp [hoff, ←hp1])
    have g2:(part f.type (p2++([n]++t)).toArray f.offset).run P w= .ok n w:=Qpp hT v o (by simp [hoff, ←hp2])
    have ih:=QhL hT (dep:=dep) fs (k+1) b x.2 y.2 (p1++[m]) (p2++[n]) s t hrest (fun f hf=>hn f (by simp [hf])) ac ad (by simp [hp1]) (by simp [hp2])
    rw [List.append_assoc,List.append_assoc] at ih;simp only [Op.eqFields,if_pos ae,Sem.run_bind,g1,Result.andThen_ok,g2,hr];cases r with
    | false=>simp [eqD, ←p]
    | true=>
     simp only [Bool.not_true,Bool.false_eq_true,if_false];rw [ih];simp [eqD, ←p]
   cases a <;> first | (simp at hprim; done) | skip
   ·rename_i kk;simp only [Rp] at c e;rw [g] at l;cases d <;> first | (simp at l; done) | skip
    exact u _ _ _ (by rw [g]; rfl) c e (run_equalIn_int w dep f.type kk _ _ _ j.under) rfl
   ·simp only [Rp] at c e;rw [g] at l;cases d <;> first | (simp at l; done) | skip
    exact u _ _ _ (by rw [g]; rfl) c e (run_equalIn_bool w dep f.type _ _ j.under) rfl
   ·simp only [Rp] at c e;rw [g] at l;cases d <;> first | (simp at l; done) | skip
    exact u _ _ _ (by rw [g]; rfl) c e (run_equalIn_string w dep f.type _ _ j.under) (by simp [eqD,ByteArray.toList_eq])
  ·cases hlk
theorem QsV (hT:QR P T=true) (hO:Owns w (RO Z β H) β H) {t:TypeId} {op:BinOp} {va vb:SV} {u1 u2:Value} {r:S1} (h1:VV w (RO Z β H) β H va u1) (h2:VV w (RO Z β H) β H vb u2) (h:eqA T t op va vb=some r) (x z:Operand):
  ∃u,(do eqGuard op t x z u1 u2; binOp op t u1 u2:Sem Value).run P w= .ok u w∧VS w (RO Z β H) β H r u:=by
 unfold eqA at h;split at h
 ·rename_i q hq;split at h
  ·rename_i b;split at h
   ·rename_i g j hx hy;obtain ⟨i,d,z0,a⟩:=Qz hT hq;have e:=a.eqs;unfold eqOk at e;rw [b] at e;simp only [Bool.and_eq_true,Bool.not_eq_true'] at e;obtain ⟨⟨⟨e1,p⟩,e3⟩,e4⟩:=e;have v:isAg q.ty=true:=by simp only [Bool.and_eq_true] at b; exact b.1
    obtain ⟨s,rfl,y⟩:=a.fields v;obtain ⟨n,l,aa⟩:=Qbv (own:=false) (S':=RO Z β H) hO (fun _ _ _ h=>h) (by simp) h1 (Qsx hx)
    obtain ⟨o,m,ab⟩:=Qbv (own:=false) (S':=RO Z β H) hO (fun _ _ _ h=>h) (by simp) h2 (Qsx hy)
    simp only [Val,v,if_true] at l m;subst l; subst m;have k:P.fieldsOf t=s:=by simp [Program.fieldsOf,a.under]
    have c:(Op.equalIn 10000 t (.agg n.toArray) (.agg o.toArray)).run P w= .ok (eqD q.ty g j) w:=by
     rw [show (10000:Nat)=(9998+1)+1 from rfl,run_equalIn_struct w (9998+1) t _ _ (by rw [a.under,k]) e1,k]
     have:=QhL (w:=w) (S:=RO Z β H) hT (dep:=9998) s.toList 0 q.ty g j [] [] n o (by rw [y]; exact e3) (fun f hf=>by
      have:=List.all_eq_true.1 e4 f hf;simpa using this) aa ab rfl rfl
     simpa using this
    split at h
    ·obtain rfl:=Osj h;refine ⟨.bool (eqD q.ty g j),?_,rfl,rfl⟩;simp only [Sem.run_bind,run_eqGuard_agg w .eql t x z _ _ p,Result.andThen_ok,run_eql_struct,c]
    ·obtain rfl:=Osj h;refine ⟨.bool (!eqD q.ty g j),?_,rfl,rfl⟩;simp only [Sem.run_bind,run_eqGuard_agg w .neq t x z _ _ p,Result.andThen_ok,run_neq_struct,c]
    ·cases h
   ·cases h
  ·cases h
 ·cases h
theorem Qvn (hrep:RepB Z M N w0 β σ a w) (hd:QK o.dst σ.nt=true) (hg:GoP Z M N w0 σ o qo next) {op:BinOp} {t t':TypeId} {x z:Operand} (ho:o.op= .binOp op t x z t')
  (hT:QR P T=true) (h:QI T o σ=some qo):o.wp P a w next Q:=by
 unfold QI Qal at h;rw [ho] at h;simp only at h;split at h
 ·rename_i va vb hx hz;rw [Qis] at h;obtain ⟨r,b,h⟩:=Obs h;have n:=Qf hrep hx;have p:=Qf hrep hz
  have c: ∀u,(do eqGuard op t x z (a.eval x) (a.eval z); binOp op t (a.eval x) (a.eval z):Sem Value).run P w= .ok u w→VS w (RO Z β σ.H) β σ.H r u→o.wp P a w next Q:=by
   intro u j m;obtain rfl:=Qq h;refine QD (v:=u) (w':=w) ?_ (hg _ _ ⟨β,hrep.val hd (Qbk m)⟩);unfold execOp;rw [ho];rw [Sem.run_bind,j];rfl
  unfold bin2 at b;split at b
  ·rename_i k e l f;have s:=Qbx n;have y:=Qbx p;rw [s,y] at c;split at b
   ·obtain ⟨u,j,m⟩:=QtN (P:=P) (w:=w) (l:=l) b t;exact c u (by simp [eqGuard_at_int,j]) m
   ·split at b
    ·rename_i hs hk;subst hk;obtain ⟨u,j,m⟩:=QsM (P:=P) (w:=w) b (by simpa using hs) t
     exact c u (by simp [eqGuard_at_int,j]) m
    ·cases b
  ·rename_i e f;have s:=QjN n;have y:=QjN p;rw [s,y] at c;split at b
   ·split at b
    ·rename_i ab;obtain rfl:=Osj b;refine c (.string ⟨(e++f:List UInt8).toArray⟩) ?_ ⟨rfl,rfl⟩;have h1:=run_string_add_sum (P:=P) (w:=w) ⟨(e:List UInt8).toArray⟩ ⟨(f:List UInt8).toArray⟩ (by simpa [ByteArray.size] using ab)
     rw [eqGuard_at_string,binOp_string_add];simp only [pure_bind];rw [h1];congr 2
     first | done | (apply QlZ; simp)
    ·cases b
   ·obtain rfl:=Osj b;refine c (.bool ((e:List UInt8)==f)) ?_ ⟨rfl,rfl⟩;rw [eqGuard_at_string,binOp_string_eql];simp [ByteArray.toList_eq]
   ·obtain rfl:=Osj b;refine c (.bool (!((e:List UInt8)==f))) ?_ ⟨rfl,rfl⟩;rw [eqGuard_at_string,binOp_string_neq];simp [ByteArray.toList_eq]
   ·cases b
  ·rename_i e f;have s:=Qee n;have y:=Qee p;rw [s,y] at c;split at b
   ·cases b
   ·rename_i q hq;split at b
    ·rename_i ac;obtain ⟨i,d,zz,g⟩:=Qz hT hq;have aa:=g.desc;unfold QaW at aa;rw [ac] at aa;cases d <;> first | (simp at aa; done) | skip
     split at b
     ·obtain rfl:=Osj b;refine c (.bool (e==f)) ?_ ⟨rfl,rfl⟩;rw [eqGuard_at_bool];simp only [pure_bind];exact run_eql_bool w t e f g.under
     ·obtain rfl:=Osj b;refine c (.bool (!(e==f))) ?_ ⟨rfl,rfl⟩;rw [eqGuard_at_bool];simp only [pure_bind];exact run_neq_bool w t e f g.under
     ·cases b
    ·cases b
  ·obtain ⟨u,j,m⟩:=QsV hT hrep.owns n p b x z;exact c u j m
 ·cases h
theorem Qwx (hrep:RepB Z M N w0 β σ a w) (hd:QK o.dst σ.nt=true) (hg:GoP Z M N w0 σ o qo next) {op:UnOp} {t:TypeId} {x:Operand} (ho:o.op= .unOp op t x)
  (h:QI T o σ=some qo):o.wp P a w next Q:=by
 unfold QI Qal at h;rw [ho] at h;simp only at h;split at h
 ·rename_i b c;have e:=Qee (Qf hrep c);obtain rfl:=Qq h;refine QD (v:= .bool (!b)) (w':=w) ?_ (hg _ _ ⟨β,hrep.val hd (Qbk ⟨rfl,rfl⟩)⟩);unfold execOp;rw [ho];simp [Op.unary,e]
 ·rename_i k n c;have e:=Qbx (Qf hrep c);obtain rfl:=Qq h;refine QD (v:= .int k (k.wrap (0-n))) (w':=w) ?_ (hg _ _ ⟨β,hrep.val hd (Qbk ⟨rfl,rfl⟩)⟩);unfold execOp;rw [ho];simp [Op.unary,e,Op.intArith]
 ·cases h
theorem QqS (hT:QR P T=true) (hrep:RepB Z M N w0 β σ a w) (hd:QK o.dst σ.nt=true) (hg:GoP Z M N w0 σ o qo next) {t u:TypeId} {x:Operand} (ho:o.op= .convert t u x)
  (h:QI T o σ=some qo):o.wp P a w next Q:=by
 unfold QI Qal at h;rw [ho] at h;simp only at h;split at h
 ·rename_i r1 r k n g m p;obtain ⟨y,s,z1,f⟩:=Qz hT g;obtain ⟨i,d,z,c⟩:=Qz hT m;split at h
  ·rename_i l j;have b:=c.desc;unfold QaW at b;rw [j] at b;cases d <;> first | (simp at b; done) | skip
   rename_i q;obtain rfl:l=q:=by simpa using b
   have e:=Qbx (Qf hrep p);obtain rfl:=Qq h;refine QD (v:= .int l (l.wrap n)) (w':=w) ?_ (hg _ _ ⟨β,hrep.val hd (Qbk ⟨rfl,rfl⟩)⟩);unfold execOp;rw [ho];simp [convert,e,run_underlying f.under,run_underlying c.under,Conv.intToInt]
  ·cases h
 ·cases h
theorem QkP {t:TypeId} {r:Row} {i:TypeInfo} {d:TypeDesc} {z:Value} (hrow:RowOk P T t r i d z) (f:Field) (hf:f.type=t) (hs:0< sz r.ty) (b off:Nat):
  (fieldPlace ⟨b,off,none⟩ f).run P w= .ok ⟨b,off+f.offset,none⟩ w:=by
 subst hf;have:sz r.ty≠0:=by omega
 simp [fieldPlace,hrow.run_size,this,QdG]
theorem Qkd {fs:Array Field} {l:List (Nat×TypeId)} (h:fs.toList.map (fun f=>(f.offset,f.type))=l) {k off:Nat} {u:TypeId} (hl:l[k]?=some (off,u)):
  ∃f,fs[k]?=some f∧f.offset=off∧f.type=u:=by
 subst h;rw [List.getElem?_map] at hl;obtain ⟨f,a,e⟩:=Option.map_eq_some_iff.1 hl;simp only [Pmi] at e;exact ⟨f,by simpa using a,e.1,e.2⟩
theorem QnQ (hT:QR P T=true) (hrep:RepB Z M N w0 β σ a w) (hd:QK o.dst σ.nt=true) (hg:GoP Z M N w0 σ o qo next) {t:TypeId} {x:Operand} {k:Nat} (ho:o.op= .fieldAddr t x k)
  (h:QI T o σ=some qo):o.wp P a w next Q:=by
 unfold QI Qal at h;rw [ho] at h;simp only at h;split at h
 ·rename_i r hr;obtain ⟨i,d,z,ad⟩:=Qz hT hr;split at h
  ·cases h
  ·rename_i ah;obtain ⟨fs,rfl,am⟩:=ad.fields (by simpa using ah)
   split at h
   ·rename_i ag u hf;obtain ⟨f,aj,ak,al⟩:=Qkd am hf;split at h
    ·rename_i q hq;obtain ⟨i2,d2,z2,ae⟩:=Qz hT hq;split at h
     ·cases h
     ·rename_i hs
      have ab: ∀b l,a.eval x= .pointer (some ⟨b,l,none⟩)→(execOp a.eval o).run P w= .ok (.value (.pointer (some ⟨b,l+ag,none⟩))) w:=by
       intro b l he;have:=QkP (w:=w) ae f al (by omega) b l
       unfold execOp;rw [ho];simp [Instr.fieldAt,run_underlying ad.under,aj,he,Instr.sureAddr,this,ak]
      split at h
      ·rename_i b k2 hx;have s:=(VV_s (by intros; simp)).1 (Qf hrep hx)
       split at h
       ·rename_i v;simp only [VS,v] at s;obtain ⟨g,n,y,e⟩:=s;obtain rfl:=Qq h;refine QD (ab _ _ e) (hg _ _ ⟨β,hrep.val hd (Qbk ?_)⟩);simp only [VS,v];exact ⟨g,n,y,by rw [Nat.add_assoc]⟩
       ·cases h
      ·rename_i b i2 k2 hx;have s:=(VV_s (by intros; simp)).1 (Qf hrep hx)
       split at h
       ·rename_i v;simp only [VS,v] at s;obtain ⟨hi,g,n,y,e⟩:=s;obtain rfl:=Qq h;refine QD (ab _ _ e) (hg _ _ ⟨β,hrep.val hd (Qbk ?_)⟩);simp only [VS,v];exact ⟨hi,g,n,y,by rw [Nat.add_assoc]⟩
       ·cases h
      ·rename_i b i2 k2 hx;have s:=(VV_s (by intros; simp)).1 (Qf hrep hx)
       split at h
       ·rename_i v;obtain ⟨ai,h⟩:=Qcz h;simp only [VS,v] at s;obtain ⟨hi,g,n,y,e⟩:=s.2 ai;obtain rfl:=Qq h;refine QD (ab _ _ e) (hg _ _ ⟨β,hrep.val hd (Qbk ?_)⟩);simp only [VS,v];exact ⟨rfl,fun _=>⟨hi,g,n,y,by rw [Nat.add_assoc]⟩⟩
       ·cases h
      ·rename_i v0 y0 hx;obtain ⟨af,h⟩:=Qcz h;obtain ⟨y1,ap,h⟩:=Obs h;obtain ⟨b,l,cs,e,hS,ao,c,e',fz,hh,hi⟩:=(QrF (Qf hrep hx)).un af.1;obtain ⟨p,m,q',rfl,hp,hm⟩:=Qcr ap ao;obtain rfl:=Qq h;refine QD (ab _ _ e) (hg _ _ ⟨β,hrep.val hd (Qbk ?_)⟩);refine .mk af.2 ⟨b,l+ag,m,rfl,hS,hm,c,e',fz,hh,fun j hj=>?_⟩
       rw [Nat.add_assoc,hi _ (by simp; omega),List.append_assoc,List.getElem?_append_right (by omega),hp,Nat.add_sub_cancel_left,List.getElem?_append_left hj]
      ·cases h
    ·cases h
   ·cases h
 ·cases h
theorem QqT (hrep:RepB Z M N w0 β σ a w) (hd:QK o.dst σ.nt=true) (hg:GoP Z M N w0 σ o qo next) {x:Operand} {k:Nat} (ho:o.op= .extract x k)
  (h:QI T o σ=some qo):o.wp P a w next Q:=by
 unfold QI Qal at h;rw [ho] at h;simp only at h;split at h
 ·rename_i t;split at h
  ·rename_i m i;split at h
   ·rename_i u g;obtain ⟨_,l,e,b⟩:=hrep.env t _ i;obtain ⟨j,c,d⟩:=b.get g;obtain rfl:=Qq h;refine QD (v:=j) (w':=w) ?_ (hg _ _ ⟨β,hrep.val hd d⟩);unfold execOp;rw [ho];have f:a.eval (.tmp t)= .tuple l.toArray:=e;simp [Instr.extract,f,c]
   ·cases h
  ·cases h
 ·cases h
end ops
end
section
open Go Go.RowKit
section ops
variable {P:Program} {T:Tab} {G:Env} {Z:Nat→Prop} {M:Nat→Nat→Prop} {N:Nat→Option (Option (Nat×Nat))} {w0 w w':World} {β:Qr} {σ:St} {a:Act} {o:Oper} {next:Act→World→Prop} {Q:Exit→Act→World→Prop} {v:Value}
variable {R:Type} {K:St→Option R} {y:R} {S:Nat→Prop} {H:Heap} {qo:Out}
theorem Qvp (hT:QR P T=true) (hrep:RepB Z M N w0 β σ a w) (hd:QK o.dst σ.nt=true) (hg:GoP Z M N w0 σ o qo next) {t:TypeId} {x:Operand} {k:Nat} (ho:o.op= .field t x k)
  (h:QI T o σ=some qo):o.wp P a w next Q:=by
 unfold QI Qal at h;rw [ho] at h;simp only at h;split at h
 ·rename_i r hr;obtain ⟨i,d,z,y⟩:=Qz hT hr;split at h
  ·cases h
  ·rename_i ao;obtain ⟨fs,rfl,au⟩:=y.fields (by simpa using ao)
   split at h
   ·rename_i c u hf;obtain ⟨f,ah,aq,ar⟩:=Qkd au hf
    have ai: ∀(q:Row) (n:List Value),look T u=some q→a.eval x= .agg n.toArray→ ∀m:List Value,m.length=sz q.ty→c+m.length≤n.length→(∀j,j< m.length→n[c+j]?=m[j]?)→
      (execOp a.eval o).run P w= .ok (.value (if isAg q.ty then .agg m.toArray else m.headD undef)) w:=by
     intro q n hq he m g av s;obtain ⟨i2,d2,z2,l⟩:=Qz hT hq
     have ak:(n.drop c).take m.length=m:=by
      apply List.ext_getElem?;intro j;rw [List.getElem?_take];by_cases ab:j< m.length
      ·rw [if_pos ab,List.getElem?_drop]; exact s j ab
      ·rw [if_neg ab,List.getElem?_eq_none (by omega)]
     unfold execOp;rw [ho];subst aq ar;by_cases aa:isAg q.ty=true
     ·simp [Instr.field,run_underlying y.under,ah,he,asAgg,part,l.run_isAgg,l.run_size,aa, ←g,ak]
     ·simp only [Bool.not_eq_true] at aa;have h1:=Qlg aa
      match m,g,s with
      | [],g,_=>simp [h1] at g
      | m0::ms,g,s=>
       have:=s 0 (by simp)
       simp only [Nat.add_zero,List.getElem?_cons_zero] at this;simp [Instr.field,run_underlying y.under,ah,he,asAgg,part,l.run_isAgg,aa,this]
    split at h
    ·rename_i q n hq hx;split at h
     ·rename_i av;obtain ⟨vs,e,v⟩:=Qf hrep hx;have hl:=v.len
      have b:=ai q vs hq e ((vs.drop c).take (sz q.ty)) (by rw [List.length_take,List.length_drop]; omega) (by rw [List.length_take,List.length_drop]; omega) (fun j s=>by
       rw [List.length_take,List.length_drop] at s;rw [List.getElem?_take,if_pos (by omega),List.getElem?_drop])
      split at h
      ·rename_i ha;obtain rfl:=Qq h;rw [if_pos ha] at b;exact QD b (hg _ _ ⟨β,hrep.val hd ⟨_,rfl,(v.drop c).take _⟩⟩)
      ·rename_i ha;rw [if_neg ha] at b;split at h
       ·rename_i c1 ap;obtain rfl:=Qq h;obtain ⟨v',ad,az⟩:=v.get ap;have h1:=Qlg (by simpa using ha)
        have ay:((vs.drop c).take (sz q.ty)).headD undef=v':=by
         rw [h1]
         have:vs.drop c=v'::vs.drop (c+1):=by
          obtain ⟨aw,he⟩:=List.getElem?_eq_some_iff.1 ad;rw [List.drop_eq_getElem_cons aw,he]
         rw [this]; rfl
        rw [ay] at b;exact QD b (hg _ _ ⟨β,hrep.val hd (Qbk az)⟩)
       ·cases h
     ·cases h
    ·rename_i q u0 y0 hq hx;split at h
     ·rename_i am;obtain ⟨y1,a0,h⟩:=Obs h;obtain rfl:=Qq h;obtain ⟨n,hv,ax⟩:=Qf hrep hx;have ad:a.eval x= .agg n.toArray:=by simpa [Val,am] using hv
      obtain ⟨p,m,q',rfl,hp,g⟩:=Qcr a0 ax
      have b:=ai q _ hq ad m (Qt g) (by simp; omega) (fun j s=>by
       rw [List.append_assoc,List.getElem?_append_right (by omega),hp,Nat.add_sub_cancel_left,List.getElem?_append_left s])
      exact QD b (hg _ _ ⟨β,hrep.val hd ⟨m,QhH (Qt g),g⟩⟩)
     ·cases h
    ·cases h
   ·cases h
 ·cases h
theorem Qub {b i off:Nat} {e:TypeId} {u t1:Ty} {xs:List (den u)} {z:den u} {ys:List (den t1)} {v:Value} (hrep:RepB Z M N w0 β σ a w) (hb:look σ.H b=some (.row e u xs))
  (htok:VS w (RO Z β σ.H) β σ.H (.dp b i off .tok) v) (hl:lent e=true) (hdp:deep e=true) (hz:xs[i]?=some z) (hsub:sub u z off (.slice t1)=some ys):
  i< xs.length∧ ∃g cap c e' fz A k,β b=some (g,cap)∧w.heap[g]?=some (.cells c e' fz)∧c[i*sz u+off]?=some v∧v= .slice A ys.length k∧(ys≠[]→ ∃g2,A=some ⟨g2,0,none⟩):=by
 simp only [VS,hb] at htok;obtain ⟨hi,g,cap,o,t⟩:=htok.2 hdp;obtain ⟨c,e',fz,A0,n0,k0,n,l,hv⟩:=t hl;refine ⟨hi,?_⟩;rcases hrep.obj b _ hb with ⟨j,_⟩ | ⟨g',al,c',ap,j,x,ay,hl,av,ag,aa,aq,aw,ab⟩
 ·rw [o] at j; cases j
 rw [o] at j;simp only [Oie,Pmi] at j;obtain ⟨rfl,rfl⟩:=j;rw [x] at n;simp only [Oie,Obj.cells.injEq] at n;obtain ⟨rfl,rfl,rfl⟩:=n;obtain ⟨F0,y,ax,ai⟩:=ab hdp;obtain ⟨A,Fi,C,az,rfl,r,ae,ar,ao⟩:=Qiq y hz;obtain ⟨A',Fj,C',p,m,q,rfl,rfl,ad,hm,ah⟩:=Qug hsub r;have af:=QbD r;have au:m.length=1:=QbD hm;simp only [List.length_append] at af
 have d:m[0]?=some v:=by
  have f:=ae off (by omega)
  rw [←aa _ (by omega),l,List.append_assoc,List.getElem?_append_right (by omega),ad,Nat.sub_self,List.getElem?_append_left (by omega)] at f
  exact f.symm
 rcases hm with ⟨f,t,h3⟩ | ⟨b2,s,c2,aj,f,_⟩
 ·subst f; subst t;simp only [List.getElem?_cons_zero,Oie] at d;exact ⟨g,cap,_,_,_,none,0,o,x,l,d.symm,fun h=>absurd rfl h⟩
 ·subst f;simp only [List.getElem?_cons_zero,Oie] at d;exact ⟨g,cap,_,_,_,_,s,o,x,l,d.symm,fun _=>⟨b2,rfl⟩⟩
theorem QnR (hT:QR P T=true) (hrep:RepB Z M N w0 β σ a w) (hd:QK o.dst σ.nt=true) (hg:GoP Z M N w0 σ o qo next) {t:TypeId} {x z:Operand} (ho:o.op= .indexAddr t x z)
  (h:QI T o σ=some qo):o.wp P a w next Q:=by
 unfold QI Qal at h;rw [ho] at h;simp only [ite2] at h
 have al: ∀(r:Row) (u:Ty) A n m k i,look T t=some r→r.ty= .slice u→a.eval x= .slice (some A) n m→a.eval z= .int k i→0≤i→i< n→
   (execOp a.eval o).run P w= .ok (.value (.pointer (some (A.add (i.toNat*sz u))))) w:=by
  intro r u A n m k i hr hu hx hz s y;obtain ⟨i1,d,z1,ao⟩:=Qz hT hr;obtain ⟨rfl,q,hq,bd,_⟩:=ao.slice hu;obtain ⟨i2,d2,z2,av⟩:=Qz hT hq;subst bd;unfold execOp;rw [ho];simp [Instr.indexAt,hx,hz,asIntOf,run_underlying ao.under,av.run_size,s,y]
 have data: ∀(r:Row) (u:Ty) (v:List (den u)) k (i:Int) (x1:den u),look T t=some r→r.ty= .slice u→mark u=none→Rp w (RO Z β σ.H) (.slice u) v [a.eval x]→a.eval z= .int k i→0≤i→v[i.toNat]?=some x1→
   qo={ x:= .v (.s (.pd u x1)),n:=[],fr:=[] }→o.wp P a w next Q:=by
  intro r u v k i x1 hr hu ba bi hz s ad bc;subst bc;obtain ⟨aw,_⟩:=List.getElem?_eq_some_iff.1 ad;obtain ⟨A,m,e,bq,hA⟩:=bi;obtain ⟨b,ar,rfl,hS,a3,ak,c,e',fz,hh,hi⟩:=hA (by intro e; subst e; simp at aw)
  have ex:a.eval x= .slice (some ⟨b,ar,none⟩) v.length m:=by simpa using e
  have f:=al r u _ _ _ k i hr hu ex hz s (by omega)
  rw [QdG] at f;obtain ⟨bl,ax,be⟩:=QeW (fun _ _=>Qt) ak ad
  have bz:=Qt ax;have ap:=QaJ (fun _ _=>Qt) ak
  have bx:i.toNat*sz u+sz u≤a3.length:=by
   rw [ap];have:(i.toNat+1)*sz u≤v.length*sz u:=Nat.mul_le_mul_right _ aw;rw [Nat.add_mul] at this; omega
  refine QD f (hg _ _ ⟨β,hrep.val hd (Qbk ?_)⟩);refine .mk ba ⟨b,ar+i.toNat*sz u,bl,rfl,hS.2,ax,c,e',fz,hh,fun j hj=>?_⟩
  rw [Nat.add_assoc,hi _ (by omega),be j (by omega)]
 split at h
 ·rename_i r b k i hr hx hz;have l:=(VV_s (by intros; simp)).1 (Qf hrep hx)
  have aa:=Qbx (Qf hrep hz);split at h
  ·rename_i e u v hb;split at h
   ·rename_i p;obtain ⟨hu,s,y⟩:=p;obtain rfl:=Qq h;simp only [VS,hb,RowV] at l;split at l
    ·rename_i hq;have e0:v.length=0:=l.2;rw [e0] at y;exact absurd y (Int.not_lt.2 s)
    ·rename_i g m hq;have f:=al r u _ _ _ k i hr hu l aa s y;rw [QdG,Nat.zero_add] at f;refine QD f (hg _ _ ⟨β,hrep.val hd (Qbk ?_)⟩);by_cases ae:deep e=true
     ·rw [if_pos ae];simp only [VS,hb];exact ⟨rfl,fun _=>⟨(Int.toNat_lt s).2 y,g,m,hq,by rw [Nat.add_zero]⟩⟩
     ·rw [if_neg ae];simp only [VS,hb];exact ⟨⟨(Int.toNat_lt s).2 y,by simpa using ae⟩,g,m,hq,by rw [Nat.add_zero]⟩
   ·cases h
  ·rename_i u v hb;split at h
   ·rename_i p;obtain ⟨x1,ad,h⟩:=Obs h;simp only [VS,hb] at l;exact data r u v k i x1 hr p.1.1 p.1.2 l aa p.2 ad (Qq h)
   ·cases h
  ·cases h
 ·rename_i r b lo n k i hr hx hz;have l:=(VV_s (by intros; simp)).1 (Qf hrep hx)
  have aa:=Qbx (Qf hrep hz);split at h
  ·rename_i e u v hb;split at h
   ·rename_i p;obtain ⟨⟨hu,ae⟩,s,y⟩:=p;obtain rfl:=Qq h;simp only [VS,hb] at l;obtain ⟨⟨_,h2⟩,_,h4⟩:=l;unfold VW at h4;split at h4
    ·obtain ⟨_,rfl,_⟩:=h4;exact absurd y (Int.not_lt.2 s)
    ·rename_i g m hq;obtain ⟨A,e1,hA⟩:=h4;have aq: ∀(i:Int) (n:Nat),0≤i→i< n→0< n∧i.toNat< n:=fun i n h1 h2=>by omega
     obtain ⟨bb,bw⟩:=aq i n s y;rw [hA bb] at e1;have f:=al r u _ _ _ k i hr hu e1 aa s y;rw [QdG] at f;refine QD f (hg _ _ ⟨β,hrep.val hd (Qbk ?_)⟩);simp only [VS,hb];exact ⟨⟨(by omega:lo+Int.toNat i< v.length),ae⟩,g,m,hq,by rw [Nat.add_zero,Nat.add_mul]⟩
   ·cases h
  ·rename_i u v hb;split at h
   ·rename_i p;obtain ⟨x1,ad,h⟩:=Obs h;simp only [VS,hb] at l;exact data r u _ k i x1 hr p.1.1 p.1.2 l aa p.2 ad (Qq h)
   ·cases h
  ·cases h
 ·rename_i r b i ar k j hr hx hz;have l:=(VV_s (by intros; simp)).1 (Qf hrep hx)
  have aa:=Qbx (Qf hrep hz);split at h
  ·rename_i e u v hb;split at h
   ·rename_i t1 bg;split at h
    ·rename_i p;obtain ⟨⟨hl,ae⟩,bf⟩:=p;obtain ⟨z1,bk,h⟩:=Obs h;obtain ⟨ys,bj,h⟩:=Obs h;split at h
     ·rename_i hj;obtain ⟨s,y⟩:=hj;obtain rfl:=Qq h;obtain ⟨hi,g,m,c,e',fz,A,kk,a7,hh,a6,hv,hA⟩:=Qub hrep hb l hl ae bk bj;have aq: ∀(j:Int) (n:Nat),0≤j→j< n→0< n∧j.toNat< n:=fun j n h1 h2=>by omega
      obtain ⟨a2,a9⟩:=aq j ys.length s y;obtain ⟨g2,rfl⟩:=hA (by intro e; subst e; exact absurd a2 (Nat.lt_irrefl 0))
      have f:=al r t1 _ _ _ k j hr bg hv aa s y;rw [bf,Nat.mul_one] at f;refine QD f (hg _ _ ⟨β,hrep.val hd (Qbk ?_)⟩);simp only [VS,hb];exact ⟨rfl,fun _=>⟨hi,g,m,a7,fun _=>⟨c,e',fz,_,_,_,hh,by rw [a6,hv],a9,rfl⟩⟩⟩
     ·cases h
    ·cases h
   ·cases h
  ·cases h
 ·rename_i r u v k i hr hx hz;have l:=(VV_d rfl).1 (Qf hrep hx);have aa:=Qbx (Qf hrep hz);split at h
  ·rename_i p;obtain ⟨x1,ad,h⟩:=Obs h;exact data r u v k i x1 hr p.1.1 p.1.2 l aa p.2 ad (Qq h)
  ·cases h
 ·cases h
theorem Qvq (hT:QR P T=true) (hrep:RepB Z M N w0 β σ a w) (hd:QK o.dst σ.nt=true) (hg:GoP Z M N w0 σ o qo next) {t:TypeId} {x z:Operand} (ho:o.op= .index t x z)
  (h:QI T o σ=some qo):o.wp P a w next Q:=by
 unfold QI Qal at h;rw [ho] at h;simp only [ite2] at h;split at h
 ·rename_i r s k i q u y;obtain ⟨i1,d,z1,e⟩:=Qz hT q;split at h
  ·rename_i f;obtain ⟨l,p⟩:=f;obtain ⟨c,f,h⟩:=Obs h;obtain rfl:=Qq h;have b:=e.desc;unfold QaW at b;rw [l] at b;cases d <;> first | (simp at b; done) | skip
   have m:=QjN (Qf hrep u);have n:=Qbx (Qf hrep y)
   have g:(⟨(s:List UInt8).toArray⟩:ByteArray)[i.toNat]?=some c:=by
    obtain ⟨j,he⟩:=List.getElem?_eq_some_iff.1 f;rw [getElem?_pos _ _ (by simpa [ByteArray.size] using j)]
    congr 1
   refine QD (v:= .int .u8 c.toNat) (w':=w) ?_ (hg _ _ ⟨β,hrep.val hd (Qbk ⟨rfl,rfl⟩)⟩);unfold execOp;rw [ho];simp [Instr.index,m,n,asIntOf,run_underlying e.under,p,g]
  ·cases h
 ·cases h
theorem Qxy (hT:QR P T=true) (hrep:RepB Z M N w0 β σ a w) (hd:QK o.dst σ.nt=true) (hg:GoP Z M N w0 σ o qo next) {c:Call} (ho:o.op= .call c) (hc:c.callee= .builtin .len)
  (h:QI T o σ=some qo):o.wp P a w next Q:=by
 unfold QI Qal at h;rw [ho] at h;simp only [hc] at h;split at h
 ·rename_i x t y aa;have m:c.args= #[x]:=by rw [←Array.toList_inj]; simpa using y
  have p:c.argTypes= #[t]:=by rw [←Array.toList_inj]; simpa using aa
  split at h
  ·rename_i r z hr hx;obtain ⟨n,b,h⟩:=Obs h;obtain rfl:=Qq h;obtain ⟨i1,d,z1,i⟩:=Qz hT hr;have j:=Qf hrep hx;have q:=i.desc;unfold QaW at q;refine QD (v:= .int .i64 n) (w':=w) ?_ (hg _ _ ⟨β,hrep.val hd (Qbk ⟨rfl,rfl⟩)⟩);unfold execOp;rw [ho];unfold lenOf at b
   have k: ∀A g u,r.ty= .slice u→a.eval x= .slice A n g→((resolve a.eval c o.type).run P w).andThen (fun d w'=>(invoke d.target d.args).run P w')= .ok (.value (.int .i64 n)) w:=by
    intro A g u hu hv;obtain ⟨rfl,_⟩:=i.slice hu;simp [resolve,hc,m,p,invoke,builtin,Builtin.len_,hv,run_underlying i.under,goInt]
   split at b
   ·rename_i f;split at b
    ·rename_i s;obtain rfl:=Osj b;rw [f] at q;cases d <;> first | (simp at q; done) | skip
     have e1:=QjN j;have hs:(⟨(s:List UInt8).toArray⟩:ByteArray).size=(s:List UInt8).length:=rfl;simp [resolve,hc,m,p,invoke,builtin,Builtin.len_,e1,run_underlying i.under,goInt,hs]
    ·cases b
   ·rename_i u f;rw [Sem.run_bind];split at b
    ·obtain rfl:=Osj b;obtain ⟨A,g,e,_⟩:=(VV_d rfl).1 j;exact k A g u f (by simpa using e)
    ·obtain rfl:=Osj b;have e:=(VV_s (by intros; simp)).1 j
     exact k none 0 u f e
    ·rename_i ob;have e:=(VV_s (by intros; simp)).1 j
     split at b
     ·rename_i e' t' xs l;obtain rfl:=Osj b;simp only [VS,l,RowV] at e;split at e
      ·exact k none 0 u f (by rw [e.2]; exact e.1)
      ·exact k _ _ u f e
     ·rename_i t' xs l;obtain rfl:=Osj b;simp only [VS,l] at e;obtain ⟨A,g,e,_⟩:=e;exact k A g u f (by simpa using e)
     ·cases b
    ·rename_i ob al n0;have e:=(VV_s (by intros; simp)).1 j
     split at b
     ·rename_i e' t' xs l;obtain rfl:=Osj b;simp only [VS,l] at e;obtain ⟨_,_,e⟩:=e;unfold VW at e;split at e
      ·exact k none 0 u f (by rw [e.2.1]; exact e.1)
      ·obtain ⟨A,e,_⟩:=e;exact k _ _ u f e
     ·rename_i t' xs l;obtain rfl:=Osj b;simp only [VS,l] at e;obtain ⟨A,g,e,_⟩:=e;exact k A g u f (by simpa using e)
     ·cases b
    ·cases b
   ·cases b
  ·cases h
 ·cases h
theorem Qxz (hrep:RepB Z M N w0 β σ a w) (hd:QK o.dst σ.nt=true) (hg:GoP Z M N w0 σ o qo next) {c:Call} (ho:o.op= .call c) (hc:c.callee= .builtin .max)
  (h:QI T o σ=some qo):o.wp P a w next Q:=by
 unfold QI Qal at h;rw [ho] at h;simp only [hc] at h;split at h
 ·rename_i x z d;have b:c.args= #[x,z]:=by rw [←Array.toList_inj]; simpa using d
  split at h
  ·rename_i k e l f m n;split at h
   ·rename_i j;subst j;obtain rfl:=Qq h;have g:=Qbx (Qf hrep m);have i:=Qbx (Qf hrep n);refine QD (v:= .int k (if f > e then f else e)) (w':=w) ?_ (hg _ _ ⟨β,hrep.val hd (Qbk ⟨rfl,rfl⟩)⟩)
    unfold execOp;rw [ho];simp [resolve,hc,b,invoke,builtin,Builtin.max_,Builtin.max2,g,i]
   ·cases h
  ·cases h
 ·cases h
theorem QxA (hrep:RepB Z M N w0 β σ a w) (hd:QK o.dst σ.nt=true) (hg:GoP Z M N w0 σ o qo next) {c:Call} (ho:o.op= .call c) (hc:c.callee= .builtin .min)
  (h:QI T o σ=some qo):o.wp P a w next Q:=by
 unfold QI Qal at h;rw [ho] at h;simp only [hc] at h;split at h
 ·rename_i x z d;have b:c.args= #[x,z]:=by rw [←Array.toList_inj]; simpa using d
  split at h
  ·rename_i k e l f m n;split at h
   ·rename_i j;subst j;obtain rfl:=Qq h;have g:=Qbx (Qf hrep m);have i:=Qbx (Qf hrep n);refine QD (v:= .int k (if f< e then f else e)) (w':=w) ?_ (hg _ _ ⟨β,hrep.val hd (Qbk ⟨rfl,rfl⟩)⟩)
    unfold execOp;rw [ho];simp [resolve,hc,b,invoke,builtin,Builtin.min_,Builtin.min2,g,i]
   ·cases h
  ·cases h
 ·cases h
end ops
end
section
open Go Go.RowKit
theorem Qpx {P:Program} {α γ:Type} {f:α→Sem γ} {g:α→γ} {w:World}: ∀{l:List α},(∀x∈l,(f x).run P w= .ok (g x) w)→(l.mapM f).run P w= .ok (l.map g) w
 | [],_=>by simp
 | x::r,h=>by
  have h1:=h x (by simp)
  have a:=Qpx (l:=r) (fun y b=>h y (by simp [b]))
  simp [List.mapM_cons,h1,a]
theorem QoK (off:Nat): ∀(vs:List Value) (k:Nat) (cs:Array Value),off+k+vs.length≤cs.size→
  ((vs.zipIdx k).foldl (fun cs (p:Value×Nat)=>cs.setIfInBounds (off+p.2) p.1) cs).toList=cs.toList.take (off+k)++vs++cs.toList.drop (off+k+vs.length)
 | [],k,cs,h=>by simp
 | v::r,k,cs,h=>by
  simp only [List.length_cons] at h;have ih:=QoK off r (k+1) (cs.setIfInBounds (off+k) v) (by simp; omega)
  simp only [List.zipIdx_cons,List.foldl_cons];rw [ih];simp only [Array.toList_setIfInBounds,List.length_cons];have b:off+k< cs.toList.length:=by simp; omega
  apply List.ext_getElem?;intro j;by_cases e:j< off+k
  ·rw [List.append_assoc,List.getElem?_append_left (by simp; omega),List.append_assoc,List.getElem?_append_left (by simp; omega),List.getElem?_take,List.getElem?_take,if_pos (by omega),if_pos e,List.getElem?_set_ne (by omega)]
  ·by_cases f:j=off+k
   ·subst f;rw [List.append_assoc,List.getElem?_append_left (by simp; omega),List.append_assoc,List.getElem?_append_right (by simp; omega),List.getElem?_take,if_pos (by omega),List.getElem?_set_self b]
    have:off+k-(cs.toList.take (off+k)).length=0:=by simp; omega
    rw [this]; rfl
   ·by_cases g:j< off+k+(r.length+1)
    ·rw [List.append_assoc,List.getElem?_append_right (by simp; omega),List.getElem?_append_left (by simp; omega),List.append_assoc,List.getElem?_append_right (by simp; omega),List.getElem?_append_left (by simp; omega)]
     have c:j-(cs.toList.take (off+k)).length=(j-(off+k+1))+1:=by simp; omega
     rw [c,List.getElem?_cons_succ];congr 1; simp; omega
    ·have d:((cs.toList.set (off+k) v).take (off+(k+1))++r).length=off+k+(r.length+1):=by simp; omega
     have a:(cs.toList.take (off+k)++v::r).length=off+k+(r.length+1):=by simp; omega
     rw [List.getElem?_append_right (by omega),List.getElem?_append_right (by omega),d,a,List.getElem?_drop,List.getElem?_drop,List.getElem?_set_ne (by omega)]
     congr 1; omega
theorem Qmj {place:Nat→Option (Nat×Nat)} {cells:Array Value} {i off size:Nat} {v:Value} {vs:List Value} {rest:List (Nat×Value)} (hp:place i=some (off,size)) (hv:v.cells=vs.toArray)
  (hs:vs.length=size) (hf:off+size≤cells.size):
  Instr.fill place cells ((i,v)::rest)=Instr.fill place (cells.toList.take off++vs++cells.toList.drop (off+size)).toArray rest:=by
 have e:v.cells.zipIdx.foldl (fun cs (c,j)=>cs.setIfInBounds (off+j) c) cells=(cells.toList.take off++vs++cells.toList.drop (off+size)).toArray:=by
  rw [hv];apply Array.ext';rw [←Array.foldl_toList,Array.toList_zipIdx];have:=QoK off vs 0 cells (by omega)
  simpa [hs] using this
 have a:v.cells.size=size:=by rw [hv]; simpa using hs
 simp only [Instr.fill,hp];rw [if_neg (by simp [a]; omega),e]
theorem QiZ {S:Nat→Prop} {w:World} {β:Qr} {H:Heap} {fields:List (Nat×TypeId)} {szs:TypeId→Option Nat} {place:Nat→Option (Nat×Nat)}
  (hplace: ∀i off t n,fields[i]?=some (off,t)→szs t=some n→place i=some (off,n)):
  ∀{ps:List (Nat×List S1)} {vs:List (Nat×Value)} {cs ds:List S1} {cells:List Value},All2 (fun p v=>p.1=v.1∧ ∃us,v.2.cells=us.toArray∧All2 (VS w S β H) p.2 us) ps vs→
   All2 (VS w S β H) cs cells→QrS fields szs cs ps=some ds→ ∃cells',Instr.fill place cells.toArray vs=some cells'.toArray∧All2 (VS w S β H) ds cells'
 | [],_,cs,ds,cells,.nil,hc,h=>by
  obtain rfl:=Osj h;exact ⟨cells,rfl,hc⟩
 | (i,ys)::r,_,cs,ds,cells,.cons (b:=b) hx hr,hc,h=>by
  obtain ⟨q,v⟩:=b;obtain ⟨e,us,j,a⟩:=hx;simp only at e j a;subst e;simp only [QrS] at h;split at h
  ·rename_i off t k;split at h
   ·rename_i d;have l:=a.len;have o:=hc.len;have m:=hplace _ _ _ _ k d.1
    have g:All2 (VS w S β H) (Qgb cs off ys) (cells.take off++us++cells.drop (off+ys.length)):=by
     have:=QmM (off:=off) hc a;rw [←l] at this;exact this
    obtain ⟨cells',f,c⟩:=QiZ hplace hr g h;refine ⟨cells',?_,c⟩;rw [Qmj m j (by omega) (by simp; omega)]
    exact f
   ·cases h
  ·cases h
theorem QeF {α γ:Type} {f:α→Option γ}: ∀{l:List α} {r:List γ},mapO f l=some r→All2 (fun x y=>f x=some y) l r
 | [],_,h=>by obtain rfl:=Osj h; exact .nil
 | x::l,r,h=>by
  simp only [mapO] at h;split at h
  ·rename_i y a;split at h
   ·rename_i z b;obtain rfl:=Osj h;exact .cons a (QeF b)
   ·cases h
  ·cases h
section ops
variable {P:Program} {T:Tab} {G:Env} {Z:Nat→Prop} {M:Nat→Nat→Prop} {N:Nat→Option (Option (Nat×Nat))} {w0 w w':World} {β:Qr} {σ:St} {a:Act} {o:Oper} {next:Act→World→Prop} {Q:Exit→Act→World→Prop} {v:Value}
variable {R:Type} {K:St→Option R} {y:R} {S:Nat→Prop} {H:Heap} {qo:Out}
theorem Qvo (hT:QR P T=true) (hrep:RepB Z M N w0 β σ a w) (hd:QK o.dst σ.nt=true) (hg:GoP Z M N w0 σ o qo next) {t:TypeId} {parts:Array (Nat×Operand)} (ho:o.op= .build t parts)
  (h:QI T o σ=some qo):o.wp P a w next Q:=by
 unfold QI Qal at h;rw [ho] at h;simp only at h;split at h
 ·rename_i r ps hr ai;obtain ⟨i,d,z,c⟩:=Qz hT hr;split at h
  ·cases h
  ·rename_i am;have x:isAg r.ty=true:=by simpa using am
   obtain ⟨j,rfl,af⟩:=c.fields x;split at h
   ·rename_i cs m;split at h
    ·rename_i ah;obtain rfl:=Qq h
     have av: ∀f∈j.toList, ∃q,look T f.type=some q:=by
      intro f hf;obtain ⟨k,s,he⟩:=List.getElem_of_mem hf;exact c.fieldIn x (k:=k) (off:=f.offset) (u:=f.type) (by rw [←af,List.getElem?_map,List.getElem?_eq_getElem s,he]; rfl)
     let g:Field→Nat×Nat:=fun f=>(f.offset,match look T f.type with | some q=>sz q.ty | none=>0)
     have ar:(j.mapM fun f=>Prod.mk f.offset <$> sizeOf f.type:Sem (Array (Nat×Nat))).run P w= .ok (j.map g) w:=by
      rw [Array.mapM_eq_mapM_toList]
      have:=Qpx (P:=P) (w:=w) (l:=j.toList) (f:=fun f=>Prod.mk f.offset <$> sizeOf f.type) (g:=g) (by
       intro f hf;obtain ⟨q,hq⟩:=av f hf;obtain ⟨i2,d2,z2,ad⟩:=Qz hT hq;simp [ad.run_size,g,hq])
      rw [Sem.run_map,this];simp only [Result.andThen_ok];congr 1;apply Array.ext';simp
     have hz:=All2.zcell (w:=w) (S:=RO Z β σ.H) (β:=β) (H:=σ.H) c.zcells
     have aa:All2 (fun (p:Nat×List S1) (u:Nat×Value)=>p.1=u.1∧ ∃us,u.2.cells=us.toArray∧All2 (VS w (RO Z β σ.H) β σ.H) p.2 us) ps (parts.toList.map fun p=>(p.1,a.eval p.2)):=by
      have h1:=QeF ai;have s: ∀p∈ps,p.2.all known=true:=List.all_eq_true.1 ah;clear m ai hg ah;generalize parts.toList=l at h1
      induction h1 with
      | nil=>exact .nil
      | cons hx hr ih=>
       refine .cons ?_ (ih fun p hp=>s p (by simp [hp]))
       obtain ⟨y1,aw,e⟩:=Option.map_eq_some_iff.1 hx;have ag:=s _ (List.mem_cons_self ..);rw [←e] at ag;rw [←e];obtain ⟨us,hu,aj⟩:=Qdc (Qf hrep aw) ag;exact ⟨rfl,us,hu,aj.mono fun _ _ h=>h.1⟩
     obtain ⟨b,ao,ab⟩:=QiZ (place:=fun i=>(j.toList.map g)[i]?) (fields:=r.fields) (szs:=fun u=>(look T u).map fun q=>sz q.ty) (by
      intro k off u n s hn;obtain ⟨f,ap,y,aq⟩:=Qkd af s;rw [List.getElem?_map];have:j.toList[k]?=some f:=by simpa using ap
      rw [this];subst y aq;obtain ⟨q,hq,e⟩:=Option.map_eq_some_iff.1 hn;simp [g,hq,e]) aa (hz.mono fun _ _ h=>h.1) m
     refine QD (v:= .agg b.toArray) (w':=w) ?_ (hg _ _ ⟨β,hrep.val hd ⟨b,rfl,ab⟩⟩);unfold execOp;rw [ho]
     have y:Instr.fill (fun i:Nat=>(j.map g)[i]?) z.cells ((parts.map fun p=>(p.1,a.eval p.2)).toList)=some b.toArray:=by
      have e:(fun i:Nat=>(j.map g)[i]?)=fun i:Nat=>(j.toList.map g)[i]? :=by funext i; simp
      rw [e];simpa using ao
     simp only [Instr.build,Sem.run_map,Sem.run_bind,c.run_zero,Result.andThen_ok,run_underlying c.under,bind_pure_comp,ar,y,Sem.run_pure]
    ·cases h
   ·cases h
 ·cases h
end ops
end
section
open Go Go.RowKit
theorem QoN: ∀{l:List Nat} {H:Heap} {j:Nat},look H j=none→look (frz H l) j=none
 | [],_,_,h=>h
 | o::r,H,j,h=>by
  have ih:=QoN (l:=r) h;unfold frz;split
  ·rename_i e t c a;rw [Qe];have:o≠j:=fun b=>by subst b; rw [ih] at a; cases a
   rw [if_neg this]; exact ih
  ·exact ih
section ops
variable {P:Program} {T:Tab} {G:Env} {Z:Nat→Prop} {M:Nat→Nat→Prop} {N:Nat→Option (Option (Nat×Nat))} {w0 w w':World} {β:Qr} {σ:St} {a:Act} {o:Oper} {next:Act→World→Prop} {Q:Exit→Act→World→Prop} {v:Value}
variable {R:Type} {K:St→Option R} {y:R} {S:Nat→Prop} {H:Heap} {qo:Out}
theorem RepB.newRowD (h:RepB Z M N w0 β σ a w) {j:Nat} (hj:QU σ.H j=true) (hjn:j< σ.nt) {e:TypeId} {t:Ty} {xs:List (den t)} {c:Array Value} {rows:List Value} {cap:Nat}
  (hdp:deep e=true→DpL w (inn e) t xs rows []) (hc:c.size=cap*sz t) (hl:xs.length≤cap) (hm:cap≤maxLen) (hr:RpL (Rp w (RO Z β σ.H) t) xs rows) (hi: ∀i,i< rows.length→c[i]?=rows[i]?):
  RepB Z M N w0 (β.put j (some (w.heap.size,cap))) ((σ.put j (.row e t xs)).set j (.s (.sl j))) (a.put (some j) (.slice (some ⟨w.heap.size,0,none⟩) xs.length cap)) (w.alloc (.cells c (raw e))):=by
 have g:RepB Z M N w0 (β.put j (some (w.heap.size,cap))) (σ.put j (.row e t xs)) a (w.alloc (.cells c (raw e))):=by
  refine h.new hj (h.below.alloc _) (fun b k=>heap_alloc_old w _ b k) (by simp) ?_ ?_
  ·intro b f n _ m;obtain rfl:=Osj n;rw [QeZ m hm];simp
  ·intro q r p _ o;refine .inr ⟨w.heap.size,cap,c,rows,rfl,QhR w _,by rw [Qay hm]; exact hc,by rw [Qay hm]; exact hl,by rw [Qay hm]; exact hm,?_,hi,.inr hm,by rw [QaU hm]; simp,fun l=>⟨[],Qew (w:=w) (fun _ d=>by cases d) (hdp l),by simp,fun _ d=>by cases d⟩⟩
   rw [Quk (QaU hm)];exact Qad (fun _ _=>o _ _ _) hr
 refine g.set hjn ?_;refine (VV_s (by intros; simp)).2 ?_
 simp only [VS,St.put,Qe,if_true,Qx];show _=_;rw [Qay hm]
theorem RepB.newRow (h:RepB Z M N w0 β σ a w) {j:Nat} (hj:QU σ.H j=true) (hjn:j< σ.nt) {e:TypeId} {t:Ty} {xs:List (den t)} {c:Array Value} {rows:List Value} {cap:Nat}
  (hdp:deep e=false) (hc:c.size=cap*sz t) (hl:xs.length≤cap) (hm:cap≤maxLen) (hr:RpL (Rp w (RO Z β σ.H) t) xs rows) (hi: ∀i,i< rows.length→c[i]?=rows[i]?):
  RepB Z M N w0 (β.put j (some (w.heap.size,cap))) ((σ.put j (.row e t xs)).set j (.s (.sl j))) (a.put (some j) (.slice (some ⟨w.heap.size,0,none⟩) xs.length cap)) (w.alloc (.cells c e)):=by
 have:=h.newRowD hj hjn (e:=e) (fun b=>by rw [hdp] at b; cases b) hc hl hm hr hi
 rw [QgC hdp] at this;exact this
theorem Qtw {r:Row} (h:r.madeOk=true) (hd:deep r.elem=false):raw r.made=r.elem:=by
 unfold Row.madeOk at h;unfold Row.made;by_cases a:r.dm=0
 ·rw [if_pos a]; exact QgC hd
 ·rw [if_neg a];simp only [Bool.or_eq_true,Bool.and_eq_true,beq_iff_eq] at h;rcases h with h | h
  ·exact absurd h a
  ·exact h.2
theorem Qtx (z:List Value): ∀m:Nat,0< z.length→(madeCells z.toArray (m*z.length)).toList=(List.replicate m z).flatten:=by
 intro m g;apply List.ext_getElem?;intro i
 induction m generalizing i with
 | zero=>simp [madeCells,Array.range_zero']
 | succ m f=>
  rw [List.replicate_succ,List.flatten_cons];by_cases b:i< z.length
  ·rw [List.getElem?_append_left b];have d:i< (m+1)*z.length:=by rw [Nat.add_mul]; omega
   simp [madeCells,d,Nat.mod_eq_of_lt b,b]
  ·rw [List.getElem?_append_right (by omega), ←f]
   have e:(i-z.length) % z.length=i % z.length:=by
    rw [←Nat.mod_eq_sub_mod (by omega)]
   by_cases a:i< (m+1)*z.length
   ·have c:i-z.length< m*z.length:=by rw [Nat.add_mul] at a; omega
    simp [madeCells,a,c,e]
   ·have c: ¬i-z.length< m*z.length:=by rw [Nat.add_mul] at a; omega
    simp [madeCells,a,c]
theorem QgP {α:Type} {R:α→List Value→Prop} {x:α} {r:List Value} (h:R x r): ∀m:Nat,RpL R (List.replicate m x) (List.replicate m r).flatten
 | 0=>rfl
 | m+1=>⟨r,_,by rw [List.replicate_succ,List.flatten_cons],h,QgP h m⟩
theorem QnS (hT:QR P T=true) (hrep:RepB Z M N w0 β σ a w) (hd:QK o.dst σ.nt=true) (hg:GoP Z M N w0 σ o qo next) {t:TypeId} {x z:Operand} (ho:o.op= .makeSlice t x z)
  (h:QI T o σ=some qo):o.wp P a w next Q:=by
 unfold QI Qal at h;rw [ho] at h;simp only [ite2] at h;split at h
 ·rename_i r j n m hr hj hx hz;split at h
  ·rename_i q hq;split at h
   ·rename_i hc;obtain ⟨⟨ak,hn,af,ah⟩,ai,h0,hb,ad⟩:=hc;obtain rfl:=(Osj h).symm;obtain ⟨i,d,zv,p⟩:=Qz hT hr;obtain ⟨rfl,q',u,a0,av⟩:=p.slice ak;rw [hq] at u;obtain rfl:=Osj u;obtain ⟨i2,d2,f,b⟩:=Qz hT hq;unfold GoP at hg;rw [hj] at hd hg;have e1:=Qbx (Qf hrep hx);have e2:=Qbx (Qf hrep hz);have aa:(n:Int)=m:=ai;subst aa;have s:(0:Int)≤n:=h0;have ae:(n:Int)*q.bytes≤140737488355328:=hb;have g:(n:Int)≤9223372036854775807:=ad;have ab:=run_make w t r.elem i2 f p.under b.info b.zero .i64 .i64 n n s (Int.le_refl _) (by rw [b.bytes,Int.mul_comm]; exact Int.le_trans ae (by decide)) g
    have y:=Qft (w:=w) (S:=RO Z β σ.H) b.zcells;have al:=Qt y
    have l:(madeCells f.cells (Int.toNat n*sz q.ty)).toList=(List.replicate (Int.toNat n) f.cells.toList).flatten:=by
     have:=Qtx f.cells.toList (Int.toNat n) (by omega)
     rw [al,Array.toArray_toList] at this;exact this
    have az:(Int.toNat n:Int)=n:=Int.toNat_of_nonneg s;refine QD (v:= .slice (some ⟨w.heap.size,0,none⟩) (Int.toNat n) (Int.toNat n)) (w':=w.alloc (.cells (madeCells f.cells (Int.toNat n*i2.size)) r.elem)) ?_ ?_
    ·unfold execOp;rw [ho];simp only [e1,e2];rw [bind_pure_comp,Sem.run_map,ab];rfl
    ·rw [hj];refine hg _ _ ⟨β.put j (some (w.heap.size,Int.toNat n)),?_⟩
     have:=hrep.newRowD hn (by simpa [QK] using hd) (e:=r.made) (t:=q.ty) (xs:=List.replicate (Int.toNat n) (Qbf q.ty)) (c:=madeCells f.cells (Int.toNat n*i2.size)) (rows:=(List.replicate (Int.toNat n) f.cells.toList).flatten) (cap:=Int.toNat n)
      (fun _=>QgO (QxU b.zcells) _) (by rw [size_madeCells,b.size]) (by simp) (by unfold maxLen; exact Int.toNat_le.2 g) (QgP y _) (by
       intro k hk;rw [b.size, ←l,Array.getElem?_toList])
     rw [List.length_replicate,Qtw ah af] at this;exact this
   ·cases h
  ·cases h
 ·cases h
theorem Qxd {t:Ty} {xs:List (den t)} {A:Option Addr} {n cap l k:Nat} (h:Rp w S (.slice t) xs [.slice A n cap]) (hlk:l≤k) (hk:k≤xs.length):
  Rp w S (.slice t) ((xs.drop l).take (k-l)) [.slice (if cap=l then A else A.map (·.add (l*sz t))) (k-l) (cap-l)]:=by
 obtain ⟨A',o,e,v,r⟩:=h;simp only [List.cons.injEq,Value.slice.injEq,and_true] at e;obtain ⟨rfl,hn,rfl⟩:=e;have a:((xs.drop l).take (k-l)).length=k-l:=by rw [List.length_take,List.length_drop]; omega
 refine ⟨_,cap-l,by rw [a],by omega,fun g=>?_⟩
 have z:0< k-l:=by
  rw [←a]; exact List.length_pos_iff.2 g
 have u: ¬cap=l:=by omega
 rw [if_neg u];obtain ⟨b,m,rfl,s,d,j,c,p,q,x,y⟩:=r (by intro e; subst e; simp at hk; omega)
 have aa:=QaJ (fun _ _=>Qt) j
 refine ⟨b,m+l*sz t,by simp [QdG],s,(d.drop (l*sz t)).take ((k-l)*sz t),Qey (fun _ _=>Qt) _ (Qfw (fun _ _=>Qt) _ j),c,p,q,x,fun i f=>?_⟩
 rw [List.length_take,List.length_drop] at f;rw [List.getElem?_take,if_pos (by omega),List.getElem?_drop,Nat.add_assoc]
 exact y _ (by omega)
theorem QcP (hrep:RepB Z M N w0 β σ a w) {d:Int} {x:Option Operand} {n:Int} (h:optB σ d x=some n):(x=none∧n=d)∨ ∃y,x=some y∧a.eval y= .int .i64 n:=by
 unfold optB at h;split at h
 ·exact .inl ⟨rfl,(Osj h).symm⟩
 ·rename_i y;split at h
  ·rename_i v b;unfold QwV at h;split at h
   ·obtain rfl:=Osj h;exact .inr ⟨y,rfl,Qbx (Qf hrep b)⟩
   ·cases h
  ·cases h
theorem Qhx (isSl:Bool) {len cap:Nat} (hlc:len≤cap) {lo hi:Option Value} {l h:Int} (hl:(lo=none∧l=0)∨lo=some (.int .i64 l)) (hh:(hi=none∧h=len)∨hi=some (.int .i64 h))
  (h0:0≤l) (h1:l≤h) (h2:h≤len):(Instr.sliceBounds isSl len cap lo hi none).run P w= .ok (l.toNat,h.toNat,cap) w:=by
 have a:0≤h:=by omega
 have b:h≤(cap:Int):=by omega
 have c:l≤(h.toNat:Int):=by omega
 have d:max h 0=h:=by omega
 have e: ¬h< l:=by omega
 rcases hl with ⟨rfl,rfl⟩ | rfl <;> rcases hh with ⟨rfl,rfl⟩ | rfl <;>
  simp [Instr.sliceBounds,Instr.sliceBound,asIntOf,h0,h1,a,b,c,h2,d,e]
theorem Qlr {w:World} {S:Nat→Prop} {β:Qr} {H:Heap} (hO:Owns w S β H) {u:Ty} {y:SV} {o l0 n0:Nat} (h:vwOf H u y=some (o,l0,n0)) {v:Value} (hv:VV w S β H y v):
  ∃e xs v0,look H o=some (.row e u xs)∧deep e=false∧l0+n0≤xs.length∧RowV (β o) xs.length v0∧VW (β o) (sz u) l0 n0 v∧(∀p,β o=some p→xs.length≤QaO p.2):=by
 have g: ∀{e:TypeId} {xs:List (den u)},look H o=some (.row e u xs)→ ∀p,β o=some p→xs.length≤QaO p.2:=by
  intro e xs d p f;rcases hO o _ d with ⟨k,_⟩ | ⟨b,t,c,r,k,x,z,q,_⟩
  ·rw [k] at f; cases f
  ·rw [k] at f; obtain rfl:=Osj f; exact q
 unfold vwOf at h;split at h
 ·split at h
  ·rename_i e s xs d;split at h
   ·rename_i i;obtain ⟨j,rfl⟩:=i;simp only [Oie,Pmi] at h;obtain ⟨rfl,rfl,rfl⟩:=h;have a:=(VV_s (by intros; simp)).1 hv
    simp only [VS,d] at a;refine ⟨e,xs,v,d,j,by omega,a,?_,g d⟩
    unfold RowV at a;unfold VW;split at a
    ·exact ⟨a.1,a.2,rfl⟩
    ·exact ⟨_,a,fun _=>by rw [Nat.zero_mul]⟩
   ·cases h
  ·cases h
 ·split at h
  ·rename_i e s xs d;split at h
   ·rename_i i;obtain ⟨j,rfl⟩:=i;simp only [Oie,Pmi] at h;obtain ⟨rfl,rfl,rfl⟩:=h;have a:=(VV_s (by intros; simp)).1 hv
    simp only [VS,d] at a;obtain ⟨⟨_,l⟩,⟨v0,m⟩,n⟩:=a;exact ⟨e,xs,v0,d,j,l,m,n,g d⟩
   ·cases h
  ·cases h
 ·cases h
theorem Qvr (hT:QR P T=true) (hrep:RepB Z M N w0 β σ a w) (hd:QK o.dst σ.nt=true) (hg:GoP Z M N w0 σ o qo next) {t:TypeId} {x:Operand} {lo hi mx:Option Operand} (ho:o.op= .slice t x lo hi mx)
  (h:QI T o σ=some qo):o.wp P a w next Q:=by
 unfold QI Qal at h;rw [ho] at h;simp only at h;split at h
 ·rename_i r y1 hr hx;obtain ⟨i,d,z,f⟩:=Qz hT hr;have ag:=f.desc;unfold QaW at ag;split at h
  ·rename_i ak;rw [ak] at ag;cases d <;> first | (simp at ag; done) | skip
   split at h
   ·rename_i s;obtain ⟨l,hl,h⟩:=Obs h;obtain ⟨k,hk,h⟩:=Obs h;split at h
    ·rename_i hc;obtain ⟨h0,h1,n⟩:=hc;obtain rfl:=Qq h;have e1:=QjN (Qf hrep hx)
     have hb:=Qhx (P:=P) (w:=w) false (len:=(s:List UInt8).length) (cap:=(s:List UInt8).length) (Nat.le_refl _) (lo:=lo.map a.eval) (hi:=hi.map a.eval) (l:=l) (h:=k)
      (by rcases QcP hrep hl with ⟨rfl,rfl⟩ | ⟨y,rfl,hy⟩ <;> simp [*]) (by rcases QcP hrep hk with ⟨rfl,rfl⟩ | ⟨y,rfl,hy⟩ <;> simp [*]) h0 h1 n
     have hs:(⟨(s:List UInt8).toArray⟩:ByteArray).size=(s:List UInt8).length:=rfl;refine QD (v:= .string ⟨((s.drop l.toNat).take (k.toNat-l.toNat):List UInt8).toArray⟩) (w':=w) ?_ (hg _ _ ⟨β,hrep.val hd (Qbk ⟨rfl,rfl⟩)⟩);unfold execOp;rw [ho]
     have a0:(⟨(s:List UInt8).toArray⟩:ByteArray).extract l.toNat k.toNat=⟨((s.drop l.toNat).take (k.toNat-l.toNat):List UInt8).toArray⟩:=by
      apply QlZ;simp [ByteArray.data_extract]
     simp [Instr.sliceAt,Instr.slice,e1,run_underlying f.under,hs,hb,a0]
    ·cases h
   ·cases h
  ·rename_i u ak;obtain ⟨rfl,q,hq,ap,au⟩:=f.slice ak;obtain ⟨i2,d2,z2,aa⟩:=Qz hT hq;split at h
   ·rename_i b l0 n0 a6;obtain ⟨l,hl,h⟩:=Obs h;obtain ⟨k,hk,h⟩:=Obs h;split at h
    ·rename_i hc;obtain ⟨h0,h1,n⟩:=hc;obtain rfl:=Qq h;obtain ⟨e,xs,v0,a3,az,bi,a5,ab,ax⟩:=Qlr hrep.owns a6 (Qf hrep hx);subst ap
     have ao: ∀{A:Option Addr} {cap:Nat},a.eval x= .slice A n0 cap→n0≤cap→VW (β b) (sz q.ty) (l0+l.toNat) (k.toNat-l.toNat) (.slice (if cap=l.toNat then A else A.map (·.add (l.toNat*sz q.ty))) (k.toNat-l.toNat) (cap-l.toNat))→o.wp P a w next Q:=by
      intro A cap m c ar
      have hb:=Qhx (P:=P) (w:=w) true (len:=n0) (cap:=cap) c (lo:=lo.map a.eval) (hi:=hi.map a.eval) (l:=l) (h:=k)
       (by rcases QcP hrep hl with ⟨rfl,rfl⟩ | ⟨y,rfl,hy⟩ <;> simp [*]) (by rcases QcP hrep hk with ⟨rfl,rfl⟩ | ⟨y,rfl,hy⟩ <;> simp [*]) h0 h1 n
      refine QD (v:= .slice (if cap=l.toNat then A else A.map (·.add (l.toNat*sz q.ty))) (k.toNat-l.toNat) (cap-l.toNat)) (w':=w) ?_ (hg _ _ ⟨β,hrep.val hd (Qbk ?_)⟩)
      ·unfold execOp;rw [ho];simp [Instr.sliceAt,Instr.slice,m,run_underlying f.under,hb,aa.run_size]
      ·simp only [VS,a3];exact ⟨⟨az,by omega⟩,⟨v0,a5⟩,ar⟩
     unfold VW at ab;split at ab
     ·rename_i p;obtain ⟨m,rfl,rfl⟩:=ab;have a2:l=0:=by simp at n; omega
      have a1:k=0:=by simp at n; omega
      subst a2 a1;exact ao m (Nat.le_refl _) (by unfold VW; rw [p]; simp)
     ·rename_i g cap p;obtain ⟨A,m,hA⟩:=ab;have c:=ax _ p;simp only at c;refine ao m (by omega) ?_
      unfold VW;rw [p];refine ⟨_,by rw [Nat.sub_sub],fun au=>?_⟩
      have bh:k.toNat≤n0:=by omega
      rw [if_neg (by omega),hA (by omega)]
      simp only [Option.map_some,QdG,Nat.add_mul]
    ·cases h
   obtain ⟨xs,a7,h⟩:=Obs h;obtain ⟨l,hl,h⟩:=Obs h;obtain ⟨k,hk,h⟩:=Obs h;split at h
   ·rename_i hc;obtain ⟨h0,h1,n⟩:=hc;obtain rfl:=(Osj h).symm;have j:=hrep.frz (Qu σ.H y1);obtain ⟨cs,hv,aj⟩:=Qbv (own:=false) j.owns (fun t x cs h=>h) (by simp) (Qf j (σ:={ σ with H:=frz σ.H (Qu σ.H y1) }) (x:=x) (y:=y1) (by rw [←hx]; cases x <;> rfl)) (QwK a7)
    have ay:=QrG rfl hv;subst ay;have a4:=aj;obtain ⟨A,cap,e,c,_⟩:=a4;have m:a.eval x= .slice A xs.length cap:=by simpa using e
    rw [m] at aj
    have hb:=Qhx (P:=P) (w:=w) true (len:=xs.length) (cap:=cap) c (lo:=lo.map a.eval) (hi:=hi.map a.eval) (l:=l) (h:=k)
     (by rcases QcP hrep hl with ⟨rfl,rfl⟩ | ⟨y,rfl,hy⟩ <;> simp [*]) (by rcases QcP hrep hk with ⟨rfl,rfl⟩ | ⟨y,rfl,hy⟩ <;> simp [*]) h0 h1 n
    have aq:=Qxd (l:=l.toNat) (k:=k.toNat) aj (by omega) (by omega)
    refine QD (v:= .slice (if cap=l.toNat then A else A.map (·.add (l.toNat*sz u))) (k.toNat-l.toNat) (cap-l.toNat)) (w':=w) ?_ ?_
    ·unfold execOp;rw [ho];subst ap;simp [Instr.sliceAt,Instr.slice,m,run_underlying f.under,hb,aa.run_size]
    ·refine hg _ _ ⟨β,?_⟩;have:=j.val (i:=o.dst) (y:= .s (.d (.slice u) ((xs.drop l.toNat).take (k.toNat-l.toNat)))) hd ((VV_d rfl).2 aq);exact this
   ·cases h
  ·cases h
 ·cases h
end ops
end
section
open Go Go.RowKit
theorem Qke {ρ:Operand→Value} {s:Nat}: ∀(l:List (Nat×Operand)) (n:Nat) (uss:List (List Value)) (cells:List Value),Qif n l=true→
  All2 (fun p us=>(ρ p.2).cells=us.toArray∧us.length=s) l uss→cells.length=(n+l.length)*s→
  Instr.fill (fun i=>some (i*s,s)) cells.toArray (l.map fun p=>(p.1,ρ p.2))=some (cells.take (n*s)++uss.flatten).toArray
 | [],n,_,cells,_,.nil,hl=>by
  simp only [List.length_nil,Nat.add_zero] at hl;simp [Instr.fill,List.take_of_length_le (show cells.length≤n*s by omega)]
 | (i,x)::r,n,_,cells,hs,.cons (b:=us) h hr,hl=>by
  simp only [Qif,Bool.and_eq_true,beq_iff_eq] at hs;obtain ⟨rfl,hs⟩:=hs;simp only [List.length_cons] at hl;have e:(i+(r.length+1))*s=i*s+s+r.length*s:=by rw [Nat.add_mul,Nat.add_mul]; omega
  rw [List.map_cons,Qmj (place:=fun i=>some (i*s,s)) rfl h.1 h.2 (by simp; omega)]
  have c:(i+1)*s=i*s+s:=by rw [Nat.add_mul]; omega
  have a:=Qke r (i+1) _ (cells.take (i*s)++us++cells.drop (i*s+s)) hs hr (by
   have f:(i+1+r.length)*s=i*s+s+r.length*s:=by rw [Nat.add_mul,Nat.add_mul]; omega
   simp [h.2]; omega)
  have d:(cells.take (i*s)++us).length=i*s+s:=by simp [h.2]; omega
  rw [c,List.take_left' d] at a;simp only [] at a⊢;rw [a,List.flatten_cons,List.append_assoc]
section ops
variable {P:Program} {T:Tab} {G:Env} {Z:Nat→Prop} {M:Nat→Nat→Prop} {N:Nat→Option (Option (Nat×Nat))} {w0 w w':World} {β:Qr} {σ:St} {a:Act} {o:Oper} {next:Act→World→Prop} {Q:Exit→Act→World→Prop} {v:Value}
variable {R:Type} {K:St→Option R} {y:R} {S:Nat→Prop} {H:Heap} {qo:Out}
theorem Qxk {l:List Nat} {x:Operand}:ev { σ with H:=frz σ.H l } x=ev σ x:=by cases x <;> rfl
theorem Qsj {t:Ty}: ∀{ys:List (den t)} {uss:List (List Value)},All2 (fun x us=>Rp w S t x us) ys uss→RpL (Rp w S t) ys uss.flatten
 | _,_,.nil=>rfl
 | _,_,.cons h hr=>⟨_,_,by rw [List.flatten_cons],h,Qsj hr⟩
theorem QlD (hT:QR P T=true) (hrep:RepB Z M N w0 β σ a w) (hd:QK o.dst σ.nt=true) (hg:GoP Z M N w0 σ o qo next) {t:TypeId} {len:Nat} {parts:Array (Nat×Operand)} (ho:o.op= .buildSlice t len parts)
  (h:QI T o σ=some qo):o.wp P a w next Q:=by
 unfold QI Qal at h;rw [ho] at h;simp only at h;split at h
 ·rename_i r j hr hj;split at h
  ·rename_i q xs hq ab;split at h
   ·rename_i hc;obtain ⟨m,aa,az,hn,a0,aq⟩:=hc;split at h
    ·rename_i ys ac;obtain rfl:=(Osj h).symm;obtain ⟨i,d,zv,n⟩:=Qz hT hr;obtain ⟨rfl,q',ai,bc,ak⟩:=n.slice a0;rw [hq] at ai;obtain rfl:=Osj ai;obtain ⟨i2,d2,z2,g⟩:=Qz hT hq;unfold GoP at hg;rw [hj] at hd hg;have k:=hrep.frz (xs.flatMap (Qu σ.H));have bd:z2.cells.toList.length=sz q.ty:=Qt (Qft (w:=w) (S:=fun _=>True) g.zcells)
     have aj: ∃b:List (List Value),All2 (fun (p:Nat×Operand) y=>(a.eval p.2).cells=y.toArray∧y.length=sz q.ty) parts.toList b∧
       All2 (fun x y=>Rp w (RO Z β (frz σ.H (xs.flatMap (Qu σ.H)))) q.ty x y) ys b:=by
      have h1:=QeF ab;have h2:=QeF ac;clear ac ab hg aa m h;generalize ar:xs.flatMap (Qu σ.H)=fl at*;clear ar;generalize parts.toList=l at h1
      induction h1 generalizing ys with
      | nil=>cases h2; exact ⟨[],.nil,.nil⟩
      | cons hx hr ih=>
       cases h2 with
       | cons hy ax=>
        obtain ⟨b,g1,g2⟩:=ih _ ax;obtain ⟨y,hv,z⟩:=Qbv (own:=false) k.owns (fun t x cs h=>h) (by simp) (Qf k (σ:={ σ with H:=frz σ.H fl }) (by rw [Qxk]; exact hx)) hy
        exact ⟨y::b,.cons ⟨QdD hv (Qaw z),Qt z⟩ g1,.cons z g2⟩
     obtain ⟨b,a1,a2⟩:=aj;have ag:ys.length=len:=by rw [m, ←(QeF ac).len, ←(QeF ab).len]
     have u:=Qsj a2;have ay:=QaJ (fun _ _=>Qt) u
     have f:=Qke (ρ:=a.eval) (s:=sz q.ty) parts.toList 0 b ((Array.range (len*sz q.ty)).map (z2.cells[· % z2.cells.size]!)).toList aa a1 (by simp [m])
     rw [Nat.zero_mul,List.take_zero,List.nil_append,Array.toArray_toList] at f;have ap: ¬(2 ^ 24< len*sz q.ty):=by omega
     have al:(Instr.buildSlice t len (parts.map fun (p:Nat×Operand)=>(p.1,a.eval p.2))).run P w= .ok (.slice (some ⟨w.heap.size,0,none⟩) len len) (w.alloc (.cells b.flatten.toArray r.elem)):=by
      have ah:(parts.map fun (p:Nat×Operand)=>(p.1,a.eval p.2)).toList=parts.toList.map fun p=>(p.1,a.eval p.2):=by simp
      by_cases h0:len*sz q.ty=0
      ·have e0:(Array.range (len*sz q.ty)).map (z2.cells[· % z2.cells.size]!)=(Array.range (len*sz q.ty)).map ((#[]:Array Value)[· % (#[]:Array Value).size]!):=by
        rw [h0]; simp [Array.range_zero']
       rw [e0] at f;simp only [Instr.buildSlice,Sem.run_bind,run_underlying n.under,Result.andThen_ok,g.run_size,h0,if_true,Sem.run_pure,ah];rw [h0] at f;simp only [gt_iff_lt,show ¬(2 ^ 24< 0) by omega,if_false,Sem.run_pure,Sem.run_bind,Result.andThen_ok]
       rw [f];simp [newRow]
      ·simp only [Instr.buildSlice,Sem.run_bind,run_underlying n.under,Result.andThen_ok,g.run_size,gt_iff_lt,ap,h0,if_false,Sem.run_pure,ah,g.run_zero];rw [f];simp [newRow]
     refine QD (v:= .slice (some ⟨w.heap.size,0,none⟩) len len) (w':=w.alloc (.cells b.flatten.toArray r.elem)) ?_ ?_
     ·unfold execOp;rw [ho];simp only [bind_pure_comp,Sem.run_map];rw [al];rfl
     ·rw [hj];refine hg _ _ ⟨β.put j (some (w.heap.size,len)),?_⟩
      have:=k.newRow (σ:={ σ with H:=frz σ.H (xs.flatMap (Qu σ.H)) }) (by simpa [QU] using QoN (Qbg hn)) (by simpa [QK] using hd) (e:=r.elem) (t:=q.ty) (xs:=ys) (c:=b.flatten.toArray) (rows:=b.flatten) (cap:=len)
       aq (by simp only [List.size_toArray]; rw [ay,ag]) (by omega) (by unfold maxLen; have:=Nat.le_mul_of_pos_right len ak; omega) u (by intro i hi; simp)
      rw [ag] at this;exact this
    ·cases h
   ·cases h
  ·cases h
 ·cases h
def QjL (w w':World):Prop:= ∀g,g< w.heap.size→w'.heap[g]?=w.heap[g]?∨ ∃c c' e fz,w.heap[g]?=some (.cells c e fz)∧w'.heap[g]?=some (.cells c' e fz)∧c'.size=c.size
theorem RepB.regroup (h:RepB Z M N w0 β σ a w) {j:Nat} {ns:List Nat} {ob:Ob} {q:Option (Nat×Nat)} (hj:QU σ.H j=true) (hrow:Qms ob=true)
  (hns: ∀o∈ns,o< 9000000∧ ∃e0 t0 ys,look σ.H o=some (.row e0 t0 ys)) (hbelow:Kept M w0 w') (hsize:w.heap.size≤w'.heap.size)
  (hblk: ∀g,g< w.heap.size→(∀o∈ns, ∀p,β o=some p→g≠p.1)→w'.heap[g]?=w.heap[g]?)
  (hq: ∀p g,q=some p→foot ob p g→g< w'.heap.size∧((∃o∈ns, ∃ob0 p0,look σ.H o=some ob0∧β o=some p0∧foot ob0 p0 g)∨w.heap.size≤g))
  (hobj: ∀S' β' H',(∀t x cs,Rp w (RO Z β σ.H) t x cs→Rp w' S' t x cs)→OR w' S' β' H' q ob):
  RepB Z M N w0 (β.put j q) { σ with H:=(j,ob)::(ns.map (fun o=>(o,Ob.dead))++σ.H) } a w':=by
 have aq:=Qbg hj;have a9: ∀ob,Qms ob=true→live ob=true:=fun ob h=>by cases ob <;> first | rfl | cases h
 have d: ∀o b,look ((j,ob)::(ns.map (fun o=>(o,Ob.dead))++σ.H)) o=some b→(o=j∧b=ob)∨(o≠j∧o∈ns∧b= .dead)∨(o≠j∧o∉ns∧look σ.H o=some b):=by
  intro o b c;rw [Qe] at c;by_cases s:j=o
  ·rw [if_pos s] at c; exact .inl ⟨s.symm,(Osj c).symm⟩
  ·rw [if_neg s,Qce] at c;by_cases e2:o∈ns
   ·rw [if_pos e2] at c; exact .inr (.inl ⟨Ne.symm s,e2,(Osj c).symm⟩)
   ·rw [if_neg e2] at c; exact .inr (.inr ⟨Ne.symm s,e2,c⟩)
 have z: ∀o∈ns, ∀ob0 p0 g,look σ.H o=some ob0→β o=some p0→foot ob0 p0 g→live ob0=true∧Qms ob0=true:=by
  intro o c ob0 p0 g m _ _;obtain ⟨_,e0,t0,ys,n⟩:=hns o c;rw [m] at n;obtain rfl:=Osj n;exact ⟨rfl,rfl⟩
 have ae: ∀o b p,o∉ns→look σ.H o=some b→live b=true→β o=some p→ ∀g,foot b p g→ ∀r∈ns, ∀p',β r=some p'→g≠p'.1:=by
  intro o b p hn m n y g h4 r l p' a4 e;obtain ⟨_,e0,t0,ys,h5⟩:=hns r l;have:=h.one o r _ _ p p' g m n h5 rfl y a4 h4 (.inl e);exact hn (this▸l)
 have hk: ∀v,v< w.heap.size→ ¬Own β σ.H v→ ¬Own (β.put j q) ((j,ob)::(ns.map (fun o=>(o,Ob.dead))++σ.H)) v∧w'.heap[v]?=w.heap[v]? :=by
  intro v a1 hn;refine ⟨?_,hblk v a1 fun o c p hp e=>?_⟩
  ·rintro ⟨o,b,p,c,k,hp,u⟩;rcases d o b c with ⟨rfl,rfl⟩ | ⟨_,_,rfl⟩ | ⟨m,n,y⟩
   ·rw [Qx] at hp;rcases (hq p v hp u).2 with ⟨r,l,ob0,p0,k1,k2,k3⟩ | h0
    ·exact hn ⟨r,ob0,p0,k1,(z r l ob0 p0 v k1 k2 k3).1,k2,k3⟩
    ·omega
   ·cases k
   ·rw [Qn m] at hp; exact hn ⟨o,b,p,y,k,hp,u⟩
  ·obtain ⟨_,e0,t0,ys,n⟩:=hns o c;exact hn ⟨o,_,p,n,rfl,hp,.inl e⟩
 have hn: ∀o b,look σ.H o=some b→Step w w' (RO Z (β.put j q) ((j,ob)::(ns.map (fun o=>(o,Ob.dead))++σ.H))) (β o) b ((β.put j q) o) (look ((j,ob)::(ns.map (fun o=>(o,Ob.dead))++σ.H)) o):=by
  intro o b c;have s:j≠o:=fun e'=>by subst e'; rw [aq] at c; cases c
  rw [Qe,if_neg s,Qce,Qn (fun h=>s h.symm)]
  by_cases e2:o∈ns
  ·rw [if_pos e2]; trivial
  ·rw [if_neg e2,c];exact QaP fun k p hp=>hblk p.1 (h.hold o b p p.1 c k hp Qm).2 (ae o b p e2 c k hp p.1 Qm)
 refine h.move (H':=(j,ob)::(ns.map (fun o=>(o,Ob.dead))++σ.H)) hbelow ?_ hk hn ?_ ?_ ?_ (fun o cs v ba h0 m _=>by
  rcases d o _ m with ⟨_,e⟩ | ⟨_,_,e⟩ | ⟨_,_,e⟩
  ·subst e; cases hrow
  ·cases e
  ·rw [h0] at e; cases e)
 ·intro o q' a5 hs h9;have s:o≠j:=fun e=>by subst e; rw [aq] at hs; cases hs
  refine ⟨by rw [Qn s]; exact a5,?_⟩
  rw [Qe,if_neg (Ne.symm s),Qce,if_neg (fun hh=>by have:=(hns o hh).1; omega)]
  exact hs
 ·intro o b p g c k f u;rcases d o b c with ⟨rfl,rfl⟩ | ⟨_,_,rfl⟩ | ⟨m,n,y⟩
  ·rw [Qx] at f;obtain ⟨k0,k1⟩:=hq p g f u;refine ⟨?_,k0⟩
   have hM: ∀i,M g i:=by
    rcases k1 with ⟨r,l,ob0,p0,m1,m2,m3⟩ | h0
    ·obtain ⟨n1,n2⟩:=z r l ob0 p0 g m1 m2 m3;have:=(h.hold r ob0 p0 g m1 n1 m2 m3).1;cases ob0 <;> first | exact this | cases n2
    ·exact h.fresh g (Nat.le_trans h.below.size h0)
   cases b <;> first | exact hM | cases hrow
  ·cases k
  ·rw [Qn m] at f;have:=h.hold o b p g y k f u;exact ⟨this.1,by omega⟩
 ·intro o1 o2 b af bk bl g m l1 n l2 b1 b2 f1 f2
  have ag: ∀o b p p',o≠j→o∉ns→look σ.H o=some b→live b=true→β o=some p→foot b p g→q=some p'→foot ob p' g→False:=by
   intro o b p p' bj a3 c k f u a6 a2;rcases (hq p' g a6 a2).2 with ⟨r,l,ob0,p0,m1,m2,m3⟩ | h0
   ·obtain ⟨n1,_⟩:=z r l ob0 p0 g m1 m2 m3;have:=h.one o r _ _ p p0 g c k m1 n1 f m2 u m3;exact a3 (this▸l)
   ·have:=(h.hold o b p g c k f u).2; omega
  rcases d o1 b m with ⟨rfl,rfl⟩ | ⟨_,_,rfl⟩ | ⟨p1,p2,p3⟩
  ·rcases d o2 af n with ⟨rfl,rfl⟩ | ⟨_,_,rfl⟩ | ⟨r1,r2,r3⟩
   ·rfl
   ·cases l2
   ·rw [Qx] at b1; rw [Qn r1] at b2;exact (ag o2 af _ _ r1 r2 r3 l2 b2 f2 b1 f1).elim
  ·cases l1
  ·rcases d o2 af n with ⟨rfl,rfl⟩ | ⟨_,_,rfl⟩ | ⟨r1,r2,r3⟩
   ·rw [Qx] at b2; rw [Qn p1] at b1;exact (ag o1 b _ _ p1 p2 p3 l1 b1 f1 b2 f2).elim
   ·cases l2
   ·rw [Qn p1] at b1; rw [Qn r1] at b2;exact h.one o1 o2 b af _ _ g p3 l1 r3 l2 b1 b2 f1 f2
 ·intro o b c;rcases d o b c with ⟨rfl,rfl⟩ | ⟨_,_,rfl⟩ | ⟨m,n,y⟩
  ·rw [Qx]; exact hobj _ _ _ (fun t x cs=>Qaa (Qam hk))
  ·trivial
  ·rw [Qn m];exact Qdw (Qam hk) hk hn (fun g p f k u=>hblk g (h.hold o b p g y k f u).2 (ae o b p n y k f g u)) (h.obj o b y)
theorem RepB.append (h:RepB Z M N w0 β σ a w) {b j:Nat} {e:TypeId} {t:Ty} {xs xs2:List (den t)} {q:Option (Nat×Nat)} (hb:look σ.H b=some (.row e t xs)) (hj:QU σ.H j=true)
  (hdp:deep e=false) (hgr:w.grownBy w' ((β b).map (·.1))) (htu:QjL w w') (hq: ∀g cap,q=some (g,cap)→(((∃cap0,β b=some (g,cap0))∨w.heap.size≤g)∧g< w'.heap.size)∧cap≤maxLen)
  (hobj: ∀S' β' H',(∀t x cs,Rp w (RO Z β σ.H) t x cs→Rp w' S' t x cs)→OR w' S' β' H' q (.row e t xs2)):
  RepB Z M N w0 (β.put j q) ((σ.put b .dead).put j (.row e t xs2)) a w':=by
 have aj:=Qbg hj
 have al: ∀(d:Ob) p g,q=some p→foot d p g→g=p.1∧(((∃cap0,β b=some (g,cap0))∨w.heap.size≤g)∧g< w'.heap.size):=by
  rintro d ⟨g',cap⟩ g am m;have n:=hq g' cap am;obtain rfl:=QeZ m n.2;exact ⟨rfl,n.1⟩
 have bi:b≠j:=fun u=>by subst u; rw [aj] at hb; cases hb
 have l: ∀o d,look ((j,.row e t xs2)::(b,.dead)::σ.H) o=some d→(o=j∧d= .row e t xs2)∨(o=b∧d= .dead)∨(o≠j∧o≠b∧look σ.H o=some d):=by
  intro o d f;rw [Qe] at f;by_cases e1:j=o
  ·rw [if_pos e1] at f; exact .inl ⟨e1.symm,(Osj f).symm⟩
  ·rw [if_neg e1,Qe] at f;by_cases e2:b=o
   ·rw [if_pos e2] at f; exact .inr (.inl ⟨e2.symm,(Osj f).symm⟩)
   ·rw [if_neg e2] at f; exact .inr (.inr ⟨fun h=>e1 h.symm,fun h=>e2 h.symm,f⟩)
 have hO: ∀g,Own (β.put j q) ((j,.row e t xs2)::(b,.dead)::σ.H) g→(∃d p,q=some p∧foot d p g)∨ ∃o d p,o≠b∧look σ.H o=some d∧live d=true∧β o=some p∧foot d p g:=by
  rintro g ⟨o,d,p,f,s,k,m⟩;rcases l o d f with ⟨rfl,rfl⟩ | ⟨rfl,rfl⟩ | ⟨n,y,v⟩
  ·rw [Qx] at k; exact .inl ⟨_,p,k,m⟩
  ·simp [live] at s
  ·rw [Qn n] at k; exact .inr ⟨o,d,p,y,v,s,k,m⟩
 have z: ∀g,g< w.heap.size→ ¬(∃cap,β b=some (g,cap))→w'.heap[g]?=w.heap[g]? :=by
  intro g hg ak;refine hgr.block g hg fun u=>ak ?_
  cases aw:β b with
  | none=>rw [aw] at u; simp at u
  | some p=>rw [aw] at u; simp at u; exact ⟨p.2,by rw [u]⟩
 have hk: ∀g,g< w.heap.size→ ¬Own β σ.H g→ ¬Own (β.put j q) ((j,.row e t xs2)::(b,.dead)::σ.H) g∧w'.heap[g]?=w.heap[g]? :=by
  intro g hg hn;refine ⟨fun f=>?_,z g hg fun ⟨cap,hc⟩=>hn ⟨b,_,_,hb,rfl,hc,Qm⟩⟩
  rcases hO g f with ⟨d,p,hc,m⟩ | ⟨o,d,p,_,n,y,v,m⟩
  ·rcases (al d p g hc m).2.1 with ⟨cap0,r⟩ | r
   ·exact hn ⟨b,_,_,hb,rfl,r,Qm⟩
   ·omega
  ·exact hn ⟨o,d,p,n,y,v,m⟩
 have hn: ∀o d,look σ.H o=some d→Step w w' (RO Z (β.put j q) ((j,.row e t xs2)::(b,.dead)::σ.H)) (β o) d ((β.put j q) o) (look ((j,.row e t xs2)::(b,.dead)::σ.H) o):=by
  intro o d f;have e1:j≠o:=fun u=>by subst u; rw [aj] at f; cases f
  rw [Qe,if_neg e1,Qe,Qn (fun h=>e1 h.symm)]
  by_cases e2:b=o
  ·rw [if_pos e2]; trivial
  ·rw [if_neg e2,f];exact QaP fun s p hp=>z p.1 (h.hold o d p p.1 f s hp Qm).2 fun ⟨cap0,r⟩=>e2 (h.one o b _ _ p _ p.1 f s hb rfl hp r Qm Qm).symm
 have a1:Kept M w0 w':=by
  refine h.below.step hgr.os hgr.tape hgr.output hgr.size fun g hg=>?_
  have ax:=Nat.lt_of_lt_of_le hg h.below.size;by_cases ay: ∃cap,β b=some (g,cap)
  ·rcases htu g ax with u | ⟨c,c',u,fz,n,y,v⟩
   ·exact .inl u
   ·obtain ⟨cap,hc⟩:=ay;have a2:=(h.own b _ g cap hb rfl hc).1;exact .inr ⟨c,c',u,fz,n,y,v,fun i hi=>absurd (a2 i) hi⟩
  ·exact .inl (z g ax ay)
 refine h.move (H':=(j,.row e t xs2)::(b,.dead)::σ.H) a1 (fun o q f hs _=>⟨by rw [Qn (fun e=>by subst e; rw [aj] at hs; cases hs)]; exact f,QdE (QdE hs)⟩) hk hn ?_ ?_ ?_ (fun o cs b' be r n _=>by
  rcases l o _ n with ⟨_,e⟩ | ⟨_,e⟩ | ⟨_,_,e⟩
  ·cases e
  ·cases e
  ·rw [r] at e; cases e)
 ·intro o d p g f s k m;rcases l o d f with ⟨rfl,rfl⟩ | ⟨rfl,rfl⟩ | ⟨n,y,v⟩
  ·rw [Qx] at k;have h4:=al _ p g k m;refine ⟨?_,h4.2.2⟩;rcases h4.2.1 with ⟨cap0,r⟩ | r
   ·exact (h.own b _ g cap0 hb rfl r).1
   ·exact Qkz h.fresh (Nat.le_trans h.below.size r)
  ·simp [live] at s
  ·rw [Qn n] at k;have:=h.hold o d p g v s k m;have:=hgr.size;exact ⟨(h.hold o d p g v s k m).1,by omega⟩
 ·intro o1 o2 ap ac bj bk g n l1 y l2 b1 b2 f1 f2
  have ad: ∀o d ao p p',o≠b→look σ.H o=some d→live d=true→β o=some p→q=some p'→foot d p g→foot ao p' g→False:=by
   intro o d ao p p' ak f s k am m a9;rcases (al ao p' g am a9).2.1 with ⟨cap0,r⟩ | r
   ·exact ak (h.one o b _ _ p _ g f s hb rfl k r m Qm)
   ·have:=(h.hold o d p g f s k m).2; omega
  rcases l o1 ap n with ⟨rfl,rfl⟩ | ⟨rfl,rfl⟩ | ⟨p1,p2,p3⟩
  ·rcases l o2 ac y with ⟨rfl,rfl⟩ | ⟨rfl,rfl⟩ | ⟨r1,r2,r3⟩
   ·rfl
   ·simp [live] at l2
   ·rw [Qx] at b1; rw [Qn r1] at b2;exact (ad o2 ac _ _ _ r2 r3 l2 b2 b1 f2 f1).elim
  ·simp [live] at l1
  ·rcases l o2 ac y with ⟨rfl,rfl⟩ | ⟨rfl,rfl⟩ | ⟨r1,r2,r3⟩
   ·rw [Qx] at b2; rw [Qn p1] at b1;exact (ad o1 ap _ _ _ p2 p3 l1 b1 b2 f1 f2).elim
   ·simp [live] at l2
   ·rw [Qn p1] at b1; rw [Qn r1] at b2;exact h.one o1 o2 ap ac _ _ g p3 l1 r3 l2 b1 b2 f1 f2
 ·intro o d f;rcases l o d f with ⟨rfl,rfl⟩ | ⟨rfl,rfl⟩ | ⟨n,y,v⟩
  ·rw [Qx]; exact hobj _ _ _ (fun t x cs=>Qaa (Qam hk))
  ·trivial
  ·rw [Qn n];refine Qdw (Qam hk) hk hn (fun g p k s m=>?_) (h.obj o d v)
   refine z g (h.hold o d p g v s k m).2 fun ⟨cap0,r⟩=>y (h.one o b _ _ p _ g v s hb rfl k r m Qm)
theorem QkO {t:TypeId} {r q:Row} {i i2:TypeInfo} {zv z2:Value} {d2:TypeDesc} (hrow:RowOk P T t r i (.slice r.elem) zv) (hrow2:RowOk P T r.elem q i2 d2 z2) (hpos:0< sz q.ty) (hsmall:sz q.ty≤1000)
  {v:Value} {us:List Value} (hv:v.cells=us.toArray) (hl:us.length=sz q.ty):
  (Instr.buildSlice t 1 #[(0,v)]).run P w= .ok (.slice (some ⟨w.heap.size,0,none⟩) 1 1) (w.alloc (.cells us.toArray r.elem)):=by
 have d:z2.cells.toList.length=sz q.ty:=Qt (Qft (w:=w) (S:=fun _=>True) hrow2.zcells)
 have a:=Qke (ρ:=fun _=>v) (s:=sz q.ty) [(0,.tmp 0)] 0 [us] ((Array.range (1*sz q.ty)).map (z2.cells[· % z2.cells.size]!)).toList rfl (.cons ⟨hv,hl⟩ .nil) (by simp)
 rw [Nat.zero_mul,List.take_zero,List.nil_append,Array.toArray_toList] at a;have b: ¬(2 ^ 24< 1*sz q.ty):=by omega
 have c: ¬(1*sz q.ty=0):=by omega
 simp only [List.map_cons,List.map_nil] at a;simp only [Instr.buildSlice,Sem.run_bind,run_underlying hrow.under,Result.andThen_ok,hrow2.run_size,gt_iff_lt,b,c,if_false,Sem.run_pure,hrow2.run_zero];rw [a];simp [newRow]
theorem RepB.demote (h:RepB Z M N w0 β σ a w) {b:Nat} {e:TypeId} {t:Ty} {xs:List (den t)} {g cap:Nat} (hb:look σ.H b=some (.row e t xs)) (hg:β b=some (g,cap)) (hdr:deep (raw e)=false) (hb9:b< 9000000):
  RepB Z M N w0 (β.put b (some (g,QaO cap))) (σ.put b (.row (raw e) t xs)) a w:=by
 rcases h.obj b _ hb with ⟨y,_⟩ | ⟨g',a5,c,al,y,hh,aq,hl,ac,ai,am,bk,ap,bl⟩
 ·rw [hg] at y; cases y
 rw [hg] at y;simp only [Oie,Pmi] at y;obtain ⟨rfl,rfl⟩:=y;have aj:QaO (QaO cap)=QaO cap:=Qay ac
 have n: ∀o f,look ((b,.row (raw e) t xs)::σ.H) o=some f→(o=b∧f= .row (raw e) t xs)∨(o≠b∧look σ.H o=some f):=by
  intro o f i;rw [Qe] at i;by_cases k:b=o
  ·rw [if_pos k] at i; exact .inl ⟨k.symm,(Osj i).symm⟩
  ·rw [if_neg k] at i; exact .inr ⟨Ne.symm k,i⟩
 have aa: ∀(f:Ob) d,foot f (g,QaO cap) d→d=g:=fun f d r=>QeZ r ac
 have v: ∀o f p d,look ((b,.row (raw e) t xs)::σ.H) o=some f→live f=true→(β.put b (some (g,QaO cap))) o=some p→foot f p d→ ∃l x,look σ.H o=some l∧live l=true∧β o=some x∧foot l x d∧(mayW M d x.2 l→mayW M d p.2 f):=by
  intro o f p d i j m r;rcases n o f i with ⟨rfl,rfl⟩ | ⟨s,u⟩
  ·rw [Qx] at m;obtain rfl:=Osj m;exact ⟨_,_,hb,rfl,hg,.inl (aa _ d r),fun h=>h⟩
  ·rw [Qn s] at m;exact ⟨f,p,u,j,m,r,id⟩
 have hk: ∀d,d< w.heap.size→ ¬Own β σ.H d→ ¬Own (β.put b (some (g,QaO cap))) ((b,.row (raw e) t xs)::σ.H) d∧w.heap[d]?=w.heap[d]? :=by
  intro d _ hn;refine ⟨?_,rfl⟩;rintro ⟨o,f,p,i,j,m,r⟩;obtain ⟨l,x,k1,k2,k3,k4,_⟩:=v o f p d i j m r;exact hn ⟨o,l,x,k1,k2,k3,k4⟩
 have ak: ∀d,d∈bits cap→RO Z (β.put b (some (g,QaO cap))) ((b,.row (raw e) t xs)::σ.H) d:=by
  intro d u;refine ⟨h.whole d (h.hold b _ _ d hb rfl hg (.inr ⟨rfl,u⟩)).1,?_⟩;rintro ⟨o,f,p,i,j,m,r⟩;rcases n o f i with ⟨rfl,rfl⟩ | ⟨s,h3⟩
  ·rw [Qx] at m;obtain rfl:=Osj m;exact ap (aa _ d r▸u)
  ·rw [Qn s] at m;exact s (h.one o b _ _ p _ d h3 j hb rfl m hg r (.inr ⟨rfl,u⟩))
 refine h.move (H':=(b,.row (raw e) t xs)::σ.H) h.below (fun o q y z h9=>?_) hk (fun o f i=>?_) (fun o f p d i j m r=>?_) (fun o1 o2 az a0 p1 p2 d s l1 u l2 b1 b2 f1 f2=>?_) (fun o f i=>?_) (fun o cs b' a4 h0 s _=>?_)
 ·refine ⟨by rw [Qn (by omega)]; exact y,?_⟩
  rw [Qe,if_neg (by omega)]; exact z
 ·rw [Qe];by_cases k:b=o
  ·subst k;rw [if_pos rfl,Qx,hg];rw [hb] at i;obtain rfl:=Osj i;exact ⟨e,xs,rfl,rfl,⟨rfl,aj⟩,fun hd=>by rw [hdr] at hd; (cases hd),fun j=>by rw [Qgu hdr] at j; cases j⟩
  ·rw [if_neg k,Qn (Ne.symm k),i];exact QaP fun _ _ _=>rfl
 ·obtain ⟨l,x,k1,k2,k3,k4,k5⟩:=v o f p d i j m r;have:=h.hold o l x d k1 k2 k3 k4;exact ⟨k5 this.1,this.2⟩
 ·obtain ⟨l,x,k1,k2,k3,k4,_⟩:=v o1 az p1 d s l1 b1 f1;obtain ⟨bh,a1,ar,au,av,aw,_⟩:=v o2 a0 p2 d u l2 b2 f2;exact h.one o1 o2 _ _ x a1 d k1 k2 ar au k3 av k4 aw
 ·rcases n o f i with ⟨rfl,rfl⟩ | ⟨s,u⟩
  ·rw [Qx];refine (Qaf hdr).2 <| .inr ⟨g,QaO cap,c,al,rfl,hh,aq,hl,ac,Qad (fun _ _ hr=>Qaa (fun d ao z=>⟨?_,rfl⟩) hr) ai,am⟩
   rcases z with z | z
   ·exact ⟨z.1,(hk d ao z.2).1⟩
   ·exact ak d z
  ·rw [Qn s];refine Qdw (Qam hk) hk (fun o f i=>?_) (fun _ _ _ _ _=>rfl) (h.obj o f u)
   rw [Qe];by_cases k:b=o
   ·subst k;rw [if_pos rfl,Qx,hg];rw [hb] at i;obtain rfl:=Osj i;exact ⟨e,xs,rfl,rfl,⟨rfl,aj⟩,fun hd=>by rw [hdr] at hd; (cases hd),fun j=>by rw [Qgu hdr] at j; cases j⟩
   ·rw [if_neg k,Qn (Ne.symm k),i];exact QaP fun _ _ _=>rfl
 ·rcases n o _ s with ⟨_,k⟩ | ⟨_,k⟩
  ·cases k
  ·rw [h0] at k; cases k
theorem QqL {r:Row} (h:r.madeOk=true) (ha:r.app=true):raw r.made=r.elem:=by
 unfold Row.madeOk at h;unfold Row.made
 have a:r.dm≠0:=by
  intro e;unfold Row.app at ha;rw [e] at ha;exact absurd ha (by decide)
 rw [if_neg a];simp only [Bool.or_eq_true,Bool.and_eq_true,beq_iff_eq] at h;rcases h with h | h
 ·exact absurd h a
 ·exact h.2
theorem Qne {y:SV} {p:Nat×Nat×Nat} (h:tokS y=some p):y= .s (.dp p.1 p.2.1 p.2.2 .tok):=by
 unfold tokS at h;split at h
 ·cases h; rfl
 ·cases h
theorem QlY {T:Tab} {σ:St} {dst:Option Nat} {t:TypeId} {l:List (Nat×Operand)} {p:Nat×Nat×Row×Row×SV} (h:bld1 T σ dst t l=some p):
  ∃x,l=[(p.1,x)]∧dst=some p.2.1∧look T t=some p.2.2.1∧look T p.2.2.1.elem=some p.2.2.2.1∧ev σ x=some p.2.2.2.2:=by
 unfold bld1 at h;split at h
 ·split at h
  ·split at h
   ·cases h;exact ⟨_,rfl,rfl,by assumption,by assumption,by assumption⟩
   ·cases h
  ·cases h
 ·cases h
theorem QtC {nm:Nat} (hT:QR P T=true) (hrep:RepB Z M N w0 β σ a w) (hd:QK o.dst σ.nt=true) (hg:GoOn Z M N w0 σ K y next) (pure:(Qal T o σ fun q=>K (addO σ o.dst q))=some y→o.wp P a w next Q)
  {t:TypeId} {len:Nat} {parts:Array (Nat×Operand)} (ho:o.op= .buildSlice t len parts) (h:opR T G nm o σ K=some y):o.wp P a w next Q:=by
 unfold opR at h;rw [ho] at h;simp only at h;split at h
 ·rename_i k j r q y1 br;obtain ⟨x,af,hj,hr,hq,hx⟩:=QlY br;simp only at af hj hr hq hx;have ad:parts= #[(k,x)]:=by rw [←Array.toList_inj]; simpa using af
  rw [hj] at hd;split at h
  ·rename_i b i ch cd;obtain rfl:=Qne cd;split at h
   ·rename_i e u xs hb;split at h
    ·rename_i hc;obtain ⟨⟨⟨⟨rfl,rfl⟩,ah⟩,a5,bx⟩,⟨⟨b4,ax⟩,bc⟩,bs,hn⟩:=hc;obtain ⟨z,hz,h⟩:=Obs h;obtain ⟨y1,ce,h⟩:=Obs h;obtain ⟨i1,d,zv,s⟩:=Qz hT hr;obtain ⟨rfl,q',ag,cb,al⟩:=s.slice a5;rw [hq] at ag;obtain rfl:=Osj ag;obtain ⟨i2,d2,z2,ac⟩:=Qz hT hq;have f:=(VV_s (by intros; simp)).1 (Qf hrep hx)
     simp only [VS,hb] at f;obtain ⟨a8,f⟩:=f;obtain ⟨hi,g,cap,bz,f⟩:=f ax;obtain ⟨c,e',fz,A0,n0,k0,a0,bt,hv⟩:=f b4;have aq:=hrep.demote hb bz bc bs;have b3:look (σ.put b (.row (raw e) u xs)).H b=some (.row (raw e) u xs):=by simp [St.put,Qe]
     rcases (Qaf bc).1 (aq.obj b _ b3) with ⟨aa,_⟩ | ⟨g',co,c',rows,aa,hh,c7,hl,c6,ar,bw⟩
     ·rw [Qx] at aa; cases aa
     rw [Qx] at aa;simp only [Oie,Pmi] at aa;obtain ⟨rfl,rfl⟩:=aa;rw [hh] at a0;simp only [Oie,Obj.cells.injEq] at a0;obtain ⟨rfl,_,_⟩:=a0;obtain ⟨c9,a4,bl⟩:=QeW (fun _ _=>Qt) ar hz
     obtain ⟨p,m,q1,rfl,ca,hm⟩:=Qcr ce a4;have ae:=Qt hm;rw [ah] at ae;have a2:=Qt a4;simp only [List.length_append] at a2;have a3:=QaJ (fun _ _=>Qt) ar
     have cv:i*sz u+sz u≤rows.length:=by
      rw [a3];have:(i+1)*sz u≤xs.length*sz u:=Nat.mul_le_mul_right _ hi;rw [Nat.add_mul] at this; omega
     have b7:m=[a.eval x]:=by
      obtain ⟨v,rfl⟩:=List.length_eq_one_iff.1 ae;have h1:=bl ch (by simp only [List.length_singleton] at a2; omega)
      rw [←bw _ (by simp only [List.length_singleton] at a2; omega),bt,List.append_assoc,List.getElem?_append_right (by omega),ca,Nat.sub_self] at h1
      simp only [List.cons_append,List.getElem?_cons_zero,Oie] at h1;rw [h1]
     subst b7
     have ao:=QkO (w:=w) s ac al (by omega) (v:=a.eval x) (us:=[a.eval x]) (by
      have:=QdD (t:= .bool) (v:=a.eval x) (cs:=[a.eval x]) rfl (fun u hu=>by rw [List.mem_singleton.1 hu]; exact a8)
      exact this) (by rw [ah]; rfl)
     refine QD (v:= .slice (some ⟨w.heap.size,0,none⟩) 1 1) (w':=w.alloc (.cells [a.eval x].toArray r.elem)) ?_ ?_
     ·unfold execOp;rw [ho,ad];simp only [bind_pure_comp,Sem.run_map];have ak:(#[(0,x)]:Array (Nat×Operand)).map (fun p=>(p.1,a.eval p.2))= #[(0,a.eval x)]:=by simp
      rw [ak,ao];rfl
     ·rw [hj]
      have b8:QU (σ.put b (.row (raw e) u xs)).H j=true:=by
       have a1:=Qbg hn;have:b≠j:=fun e1=>by subst e1; rw [hb] at a1; cases a1
       simp only [QU,St.put,Qe,if_neg this,a1]; rfl
      have:=aq.newRow b8 (show j< σ.nt by simpa [QK] using hd) (e:=r.elem) (t:=q.ty) (xs:=[y1]) (c:=[a.eval x].toArray) (rows:=[a.eval x]) (cap:=1)
       bx (by simp [ah]) (by simp) (by unfold maxLen; omega) ⟨[a.eval x],[],by simp,hm,rfl⟩ (by intro i hi; simp)
      exact hg _ h rfl _ _ ⟨_,this⟩
    ·cases h
   ·cases h
  ·split at h
   ·rename_i v bq;obtain ⟨x1,ns,rr⟩:=v;obtain ⟨bg,az⟩:=Qcz bq;split at h
    ·rename_i hc;obtain ⟨⟨⟨⟨rfl,rfl⟩,ah⟩,a5,ba,ax⟩,⟨⟨hn,b2⟩,bd⟩,ap,ay⟩:=hc;simp only at bd ap ay h;have cc:rr=[]:=by simpa using ay
     subst cc;obtain ⟨i1,d,zv,s⟩:=Qz hT hr;obtain ⟨rfl,q',ag,cb,al⟩:=s.slice a5;rw [hq] at ag;obtain rfl:=Osj ag;obtain ⟨i2,d2,z2,ac⟩:=Qz hT hq;obtain ⟨ms,b6,a7⟩:=Qdc (Qf hrep hx) b2;obtain ⟨c8,v2,a6,bb,bi⟩:=QjY hrep.owns (a7.mono fun _ _ h=>h.1) az
     cases bi;rw [List.append_nil] at a6;subst a6;have ae:=QbD bb;have ab: ∀o∈ns, ∃e0 t0 ys,look σ.H o=some (.row e0 t0 ys):=Qme az;have h9: ∀o∈ns,o< 9000000:=fun o ho=>by simpa using List.all_eq_true.1 ap o ho
     have ao:=QkO (w:=w) s ac al ah b6 ae
     have hF: ∀g,g∈ns.flatMap (blk1 β)→g< w.heap.size∧ ∃o∈ns, ∃ob0 p0,look σ.H o=some ob0∧β o=some p0∧foot ob0 p0 g:=fun g hg=>by
      obtain ⟨o,ho,c,hc⟩:=QfA.1 hg;obtain ⟨e0,t0,ys,hk⟩:=ab o ho;exact ⟨(hrep.hold o _ _ g hk rfl hc (.inl rfl)).2,o,ho,_,_,hk,hc,.inl rfl⟩
     obtain ⟨av,n,l⟩:=QfG (cap0:=1) (by unfold maxLen; omega) (ns.flatMap (blk1 β))
     refine QD (v:= .slice (some ⟨w.heap.size,0,none⟩) 1 1) (w':=w.alloc (.cells ms.toArray r.elem)) ?_ ?_
     ·unfold execOp;rw [ho,ad];simp only [bind_pure_comp,Sem.run_map];have ak:(#[(0,x)]:Array (Nat×Operand)).map (fun p=>(p.1,a.eval p.2))= #[(0,a.eval x)]:=by simp
      rw [ak,ao];rfl
     ·rw [hj];have bk:=QqL ba bg;have hD:Dp (w.alloc (.cells ms.toArray r.elem)) (inn r.made) q.ty x1 ms (ns.flatMap (blk1 β)):=Qdv (fun g hg=>heap_alloc_old w _ g (hF g hg).1) bb
      have aq:=hrep.regroup (w':=w.alloc (.cells ms.toArray r.elem)) (j:=j) (ns:=ns) (ob:= .row r.made q.ty [x1]) (q:=some (w.heap.size,av)) hn rfl (fun o ho=>⟨h9 o ho,ab o ho⟩) (hrep.below.alloc _) (by simp) (fun g hg _=>heap_alloc_old w _ g hg) (fun p g hq hf=>by
       obtain rfl:=Osj hq;rcases hf with hf | ⟨_,hf⟩
       ·simp only at hf; subst hf; exact ⟨by simp,.inr (Nat.le_refl _)⟩
       ·rw [l] at hf;obtain ⟨k1,k2⟩:=hF g hf;exact ⟨by simp; omega,.inl k2⟩) (fun S' β' H' _=>by
       refine .inr ⟨w.heap.size,av,ms.toArray,ms,rfl,by rw [bk]; exact QhR w _,by rw [n]; simp [ae],by rw [n]; simp,by rw [n]; unfold maxLen; omega,?_,fun i _=>by simp,.inl ax,fun hb=>?_,fun _=>⟨ns.flatMap (blk1 β),⟨ms,[],ns.flatMap (blk1 β),[],by simp,by simp,hD,rfl,rfl⟩,?_,fun g hg=>(l g).2 hg⟩⟩
       ·exact ⟨ms,[],by simp,QlN (fun g hg=> .inr ((l g).2 hg)) hD,rfl⟩
       ·have:=(hF _ ((l _).1 hb)).1; omega
       ·refine Qhk (L:=ns) (fun o o' g2 c1 c2 ho b9 bu bv=>?_) (fun o ho=>ho) (Qap bd)
        obtain ⟨_,_,_,k1⟩:=ab o ho;obtain ⟨_,_,_,k2⟩:=ab o' b9;exact hrep.inj o o' _ _ g2 c1 c2 k1 rfl k2 rfl bu bv)
      refine hg _ h rfl _ _ ⟨_,aq.set (show j< σ.nt by simpa [QK] using hd) ((VV_s (by intros; simp)).2 ?_)⟩
      simp only [VS,Qe,if_true,Qx];show _=_;rw [n];rfl
    ·cases h
   ·exact pure h
 ·exact pure h
end ops
end
section
open Go Go.RowKit
section ops
variable {P:Program} {T:Tab} {G:Env} {Z:Nat→Prop} {M:Nat→Nat→Prop} {N:Nat→Option (Option (Nat×Nat))} {w0 w w':World} {β:Qr} {σ:St} {a:Act} {o:Oper} {next:Act→World→Prop} {Q:Exit→Act→World→Prop} {v:Value}
variable {R:Type} {K:St→Option R} {y:R} {S:Nat→Prop} {H:Heap} {qo:Out}
theorem Qhw (hO:Owns w S β H) {t:Ty} {x:SV} {v:Value} {ys:List (den t)} (hv:VV w S β H x v) (h:toD true H (.slice t) x=some ys) (hpl:QcC H x=true):
  ∃A cap,v= .slice A ys.length cap∧ys.length≤cap∧(ys≠[]→ ∃b off rows,A=some ⟨b,off,none⟩∧RpL (Rp w S t) ys rows∧At w b off rows):=by
 have q: ∀{zs:List (den t)} {u:Value},Rp w S (.slice t) zs [u]→ ∃A cap,u= .slice A zs.length cap∧zs.length≤cap∧(zs≠[]→ ∃b off rows,A=some ⟨b,off,none⟩∧RpL (Rp w S t) zs rows∧At w b off rows):=by
  rintro zs u ⟨A,cap,e,hc,hA⟩;refine ⟨A,cap,by simpa using e,hc,fun ac=>?_⟩
  obtain ⟨b,off,k,_,rows,r,ha⟩:=hA ac;exact ⟨b,off,rows,k,r,ha⟩
 cases x with
 | g cs=>simp [toD,isAg] at h
 | s c=>
  simp only [toD] at h;cases c with
  | any=>simp [Qae] at h
  | p=>simp [Qae] at h
  | pe=>simp [Qae] at h
  | dp=>simp [Qae] at h
  | pd=>simp [Qae] at h
  | fn=>simp [Qae] at h
  | mp=>simp [Qae] at h
  | d s z=>
   simp only [Qae] at h;obtain ⟨e1,k⟩:=QV h;subst e1;simp only at k;subst k;exact q ((VV_d rfl).1 hv)
  | nls=>
   simp only [Qae] at h;obtain rfl:=Osj h;have e:=(VV_s (by intros; simp)).1 hv
   exact ⟨none,0,e,by simp,fun h=>absurd rfl h⟩
  | sl o=>
   have e:=(VV_s (by intros; simp)).1 hv
   simp only [Qae] at h;simp only [VS] at e;split at h
   ·rename_i k s xs j;rw [j] at e;rw [if_pos trivial] at h;obtain ⟨a,f⟩:=QV h;simp only [Ty.slice.injEq] at a;subst a;simp only at f;subst f;have y:deep k=false:=by simpa [QcC,j] using hpl
    rcases (Qaf y).1 (hO o _ j) with ⟨m,hx⟩ | ⟨b,cap,c,rows,m,hh,hs,hl,ab,r,hi⟩
    ·rw [m] at e;subst hx;exact ⟨none,0,e.1,by simp,fun h=>absurd rfl h⟩
    ·rw [m] at e;simp only [RowV] at e;rw [Qay ab] at e;exact ⟨_,cap,e,hl,fun _=>⟨b,0,rows,rfl,r,c,k,_,hh,fun i aa=>by rw [Nat.zero_add]; exact hi i aa⟩⟩
   ·rename_i s xs j;rw [j] at e;obtain ⟨a,f⟩:=QV h;simp only [Ty.slice.injEq] at a;subst a;simp only at f;subst f;exact q e
   ·cases h
  | vw o lo n=>
   have e:=(VV_s (by intros; simp)).1 hv
   simp only [Qae] at h;simp only [VS] at e;split at h
   ·rename_i k s xs j;rw [j] at e;rw [if_pos trivial] at h;obtain ⟨a,f⟩:=QV h;simp only [Ty.slice.injEq] at a;subst a;simp only at f;subst f;obtain ⟨⟨y,h2⟩,⟨v0,h3⟩,h4⟩:=e;have l:((xs.drop lo).take n).length=n:=by rw [List.length_take,List.length_drop]; omega
    rcases (Qaf y).1 (hO o _ j) with ⟨m,hx⟩ | ⟨b,cap,c,rows,m,hh,hs,hl,ab,r,hi⟩
    ·rw [m] at h4;obtain ⟨rfl,rfl,rfl⟩:=h4;exact ⟨none,0,by simp,by simp,fun h=>absurd (by simp) h⟩
    ·rw [m] at h4;obtain ⟨A,rfl,hA⟩:=h4;refine ⟨A,_,by rw [l],by rw [l,Qay ab]; omega,fun ac=>?_⟩
     have ai:0< n:=by rw [←l]; exact List.length_pos_iff.2 ac
     have aq:=QaJ (fun _ _=>Qt) r
     refine ⟨b,lo*sz s,(rows.drop (lo*sz s)).take (n*sz s),hA ai,Qey (fun _ _=>Qt) _ (Qfw (fun _ _=>Qt) _ r),c,k,_,hh,fun i aa=>?_⟩
     rw [List.length_take,List.length_drop] at aa;rw [List.getElem?_take,if_pos (by omega),List.getElem?_drop]
     exact hi _ (by omega)
   ·rename_i s xs j;rw [j] at e;obtain ⟨a,f⟩:=QV h;simp only [Ty.slice.injEq] at a;subst a;simp only at f;subst f;exact q e
   ·cases h
theorem QgM {t ty e:TypeId} {i:TypeInfo} (ht:P.underlying t=some (.slice e)) (hi:P.info? e=some i) {size:Nat} {v:Value} {n:Nat} {xs:List Value} (h:w.ownsRow 0 e size v n xs) (c:Nat):
  (Builtin.append_ #[t,t] ty #[v,.slice none 0 c]).run P w= .ok v w:=by
 rcases h.2 with ⟨rfl,rfl⟩ | ⟨g,b,d,rfl,_,f,a,_⟩
 ·simp [Builtin.append_,run_underlying ht,sizeOf,typeInfo,hi,Builtin.lenOf,Builtin.firstCells]
 ·simp [Builtin.append_,run_underlying ht,sizeOf,typeInfo,hi,Builtin.lenOf,Builtin.firstCells,a,storeCells]
theorem QgQ {t ty:TypeId} {r q:Row} {i i2:TypeInfo} {z z2:Value} {d2:TypeDesc} (hrow:RowOk P T t r i (.slice r.elem) z) (hrow2:RowOk P T r.elem q i2 d2 z2) (hpos:0< sz q.ty)
  {v:Value} {n:Nat} {xs:List Value} (hown:w.ownsRow 0 r.elem (sz q.ty) v n xs) {ad:Addr} {m c:Nat} {news:List Value} (hl:news.length=m*sz q.ty)
  (hnews: ∀j u,news[j]?=some u→w.cell? (ad.add j)=some u) (h1: ∀u∈news,u.oneCell'=true) (hsz:(n+m)*q.bytes≤140737488355328) (h63:n+m≤maxLen) {v':Value} {w':World}
  (hr:(Builtin.append_ #[t,t] ty #[v,.slice (some ad) m c]).run P w= .ok v' w') (hg:w.grownBy w' v.ownBlock):QjL w w':=by
 intro f o;have l:i2.size=sz q.ty:=hrow2.size;rcases hown.2 with ⟨rfl,rfl⟩ | ⟨g,d,a,rfl,y,h,ab,aa,s,x⟩
 ·exact .inl (hg.block f o (by simp [Value.ownBlock]))
 ·by_cases b:n+m≤d
  ·have p:n*i2.size+news.length≤a.size:=by rw [hl,s,l, ←Nat.add_mul]; exact Nat.mul_le_mul_right _ b
   have:=run_append_room (P:=P) w t ty r.elem i2 hrow.under hrow2.info g n d a h ad m c news (by rw [l]; exact hl) hnews h1 b p
   rw [this] at hr;simp only [Result.ok.injEq] at hr;obtain ⟨_,rfl⟩:=hr;by_cases e:f=g
   ·subst e;exact .inr ⟨a,_,_,_,h,setRow_heap w f a _ _ _ h,by simp; omega⟩
   ·exact .inl (setRow_other w g f _ e)
  ·have k: ∀j u,xs[j]?=some u→w.cell? ((⟨g,0,none⟩:Addr).add j)=some u:=hown.cells (g:=g) rfl
   have:=run_append_grow (P:=P) w t ty r.elem i2 z2 hrow.under hrow2.info hrow2.zero ⟨g,0,none⟩ n d xs (by rw [l]; exact hown.1) k ad m c news (by rw [l]; exact hl) hnews (by omega) (by unfold maxLen at h63; omega)
    (growslice_fits (by omega) (by rw [hrow2.bytes]; exact hsz))
   rw [this] at hr;simp only [Result.ok.injEq] at hr;obtain ⟨_,rfl⟩:=hr;exact .inl (heap_alloc_old w.drew _ f o)
theorem Qdq {t ty:TypeId} {r q:Row} {i i2:TypeInfo} {z z2:Value} {d2:TypeDesc} (hrow:RowOk P T t r i (.slice r.elem) z) (hrow2:RowOk P T r.elem q i2 d2 z2) (hpos:0< sz q.ty) (hby:0< q.bytes)
  {v:Value} {n:Nat} {xs:List Value} (hown:w.ownsRow 0 r.elem (sz q.ty) v n xs) {u:Value} {m:Nat} {A:Option Addr} {cap:Nat} (hu:u= .slice A m cap) {Φ:List Value→Prop} (hΦ:m=0→Φ [])
  (hA:m≠0→ ∃b off rows,A=some ⟨b,off,none⟩∧rows.length=m*sz q.ty∧(∀u∈rows,u.oneCell'=true)∧Φ rows∧At w b off rows) (hsz:(n+m)*q.bytes≤140737488355328):
  ∃v' w' news,(Builtin.append_ #[t,t] ty #[v,u]).run P w= .ok v' w'∧w'.ownsRow 0 r.elem (sz q.ty) v' (n+m) (xs++news)∧w.grownBy w' v.ownBlock∧
   (v'.ownBlock=v.ownBlock∨v'.ownBlock=some w.heap.size)∧QjL w w'∧Φ news:=by
 subst hu;have p:z2.cells.size=sz q.ty:=by have:=Qt (Qft (w:=w) (S:=fun _=>True) hrow2.zcells); simpa using this
 have a:n+m≤maxLen:=by
  have:=Nat.le_mul_of_pos_right (n+m) hby;unfold maxLen; omega
 by_cases o:m=0
 ·subst o;cases A with
  | none=>exact ⟨v,w,[],QgM hrow.under hrow2.info hown cap,by simpa using hown,⟨rfl,rfl,rfl,Nat.le_refl _,fun _ _ _=>rfl⟩,.inl rfl,fun _ _=> .inl rfl,hΦ rfl⟩
  | some ad=>
   obtain ⟨v',w',d,s,e,_,y⟩:=run_append_own_at (P:=P) w 0 t ty r.elem i2 z2 (sz q.ty) q.bytes hrow.under hrow2.info hrow2.zero hrow2.size hrow2.bytes p hpos v n xs hown ad 0 cap [] (by simp) (by simp) (by simp) (by simpa using a) (by simpa using hsz) (Nat.zero_le _)
   exact ⟨v',w',[],d,s,e,y,QgQ hrow hrow2 hpos (ad:=ad) (news:=[]) (m:=0) hown (by simp) (by simp) (by simp) (by simpa using hsz) a d e,hΦ rfl⟩
 ·obtain ⟨b,off,rows,rfl,l,k,hr,c,e',fz,hh,hi⟩:=hA o
  obtain ⟨v',w',d,s,e,_,y⟩:=run_append_own_at (P:=P) w 0 t ty r.elem i2 z2 (sz q.ty) q.bytes hrow.under hrow2.info hrow2.zero hrow2.size hrow2.bytes p hpos v n xs hown ⟨b,off,none⟩ m cap rows l (fun j x f=>by
    have g:=(List.getElem?_eq_some_iff.1 f).1;rw [QdG,QnD hh,hi j g,f]) k a hsz (Nat.zero_le _)
  exact ⟨v',w',rows,d,s,e,y,QgQ hrow hrow2 hpos (ad:=⟨b,off,none⟩) hown l (fun j x f=>by
    have g:=(List.getElem?_eq_some_iff.1 f).1;rw [QdG,QnD hh,hi j g,f]) k hsz a d e,hr⟩
theorem QcE {t ty:TypeId} {r q:Row} {i i2:TypeInfo} {z z2:Value} {d2:TypeDesc} (hrow:RowOk P T t r i (.slice r.elem) z) (hrow2:RowOk P T r.elem q i2 d2 z2) (hpos:0< sz q.ty) (hby:0< q.bytes)
  {v:Value} {n:Nat} {xs:List Value} (hown:w.ownsRow 0 r.elem (sz q.ty) v n xs) {u:Value} {ys:List (den q.ty)} {A:Option Addr} {cap:Nat} (hu:u= .slice A ys.length cap)
  (hA:ys≠[]→ ∃b off rows,A=some ⟨b,off,none⟩∧RpL (Rp w S q.ty) ys rows∧At w b off rows) (hsz:(n+ys.length)*q.bytes≤140737488355328):
  ∃v' w' news,(Builtin.append_ #[t,t] ty #[v,u]).run P w= .ok v' w'∧w'.ownsRow 0 r.elem (sz q.ty) v' (n+ys.length) (xs++news)∧w.grownBy w' v.ownBlock∧
   (v'.ownBlock=v.ownBlock∨v'.ownBlock=some w.heap.size)∧QjL w w'∧RpL (Rp w S q.ty) ys news:=
 Qdq hrow hrow2 hpos hby hown hu (Φ:=RpL (Rp w S q.ty) ys) (fun h=>by obtain rfl:=List.eq_nil_of_length_eq_zero h; rfl) (fun h=>by
  obtain ⟨b,off,rows,c,a,d⟩:=hA (by intro e; subst e; exact h rfl)
  exact ⟨b,off,rows,c,QaJ (fun _ _=>Qt) a,RpL_cell a,a,d⟩) hsz
where
 RpL_cell: ∀{zs:List (den q.ty)} {rows:List Value},RpL (Rp w S q.ty) zs rows→ ∀u∈rows,u.oneCell'=true
  | [],_,h,u,hu=>by simp only [RpL] at h; subst h; simp at hu
  | x::xs,_,⟨r,rs,e,hx,hr⟩,u,hu=>by
   subst e;rcases List.mem_append.1 hu with hu | hu
   ·exact Qaw hx u hu
   ·exact RpL_cell hr u hu
theorem QmO {H:Heap} {y:SV} {b2:Nat} {e2:TypeId} (h:rowD H y=some (b2,e2)):deep e2=true∧y= .s (.sl b2)∧ ∃t2 ys2,look H b2=some (.row e2 t2 ys2):=by
 unfold rowD at h;split at h
 ·split at h
  ·rename_i a;split at h
   ·rename_i b;simp only [Oie,Pmi] at h;obtain ⟨rfl,rfl⟩:=h;exact ⟨b,rfl,_,_,a⟩
   ·cases h
  ·cases h
 ·cases h
theorem QjJ {e1:TypeId} {t:Ty}: ∀{xs ys:List (den t)} {r s:List Value} {F G:List Nat},DpL w e1 t xs r F→DpL w e1 t ys s G→DpL w e1 t (xs++ys) (r++s) (F++G)
 | [],_,_,_,_,_,⟨h1,h2⟩,hy=>by subst h1; subst h2; simpa using hy
 | x::xs,_,_,_,_,_,⟨r,rs,F1,F2,e1,e2,h1,h2⟩,hy=>⟨r,rs++_,F1,F2++_,by rw [e1,List.append_assoc],by rw [e2,List.append_assoc],h1,QjJ h2 hy⟩
theorem QjX {o:Nat} {e:TypeId} {t:Ty} {xs:List (den t)} {v:Value} (hrep:RepB Z M N w0 β σ a w) (ho:look σ.H o=some (.row e t xs)) (hdp:deep e=true) (hv:RowV (β o) xs.length v):
  ∃cs F,w.ownsRow 0 (raw e) (sz t) v xs.length cs∧DpL w (inn e) t xs cs F∧F.Nodup∧v.ownBlock=(β o).map (·.1)∧(∀g∈F, ∃p,β o=some p∧g∈bits p.2∧g≠p.1)∧
   ∃A cap,v= .slice A xs.length cap∧(xs.length≠0→ ∃b,A=some ⟨b,0,none⟩∧At w b 0 cs):=by
 rcases hrep.obj o _ ho with ⟨f,hx⟩ | ⟨g,cap,c,d,f,q,hs,hl,u,hr,r,ag,x,m⟩
 ·subst hx;rw [f] at hv⊢;obtain ⟨rfl,_⟩:=hv;exact ⟨[],[],World.ownsRow_nil w 0 _ _,⟨rfl,rfl⟩,by simp,rfl,by simp,none,0,rfl,fun h=>absurd rfl h⟩
 ·obtain ⟨F,z,h2,l⟩:=m hdp;rw [f] at hv⊢;simp only [RowV] at hv;subst hv;have y:=QaJ (fun _ _=>Qt) hr
  refine ⟨d,F,⟨y,.inr ⟨g,QaO cap,c,rfl,Nat.zero_le _,q,hl,u,hs,?_⟩⟩,z,h2,rfl,fun j n=>⟨(g,cap),rfl,l j n,fun e=>x (by have:=l j n; rw [e] at this; exact this)⟩,_,_,rfl,fun _=>⟨g,rfl,c,_,_,q,fun i s=>by rw [Nat.zero_add]; exact r i s⟩⟩
  apply List.ext_getElem?;intro k;rw [List.getElem?_take];by_cases hk:k< d.length
  ·rw [if_pos (by omega),Array.getElem?_toList]; exact r k hk
  ·rw [if_neg (by omega),List.getElem?_eq_none (by omega)]
theorem QiV {nm:Nat} {ns:List Nat} {e:TypeId} {t:Ty} {zs:List (den t)} {v':Value} {cs:List Value} {F:List Nat} {vb:Option Nat} (hrep:RepB Z M N w0 β σ a w) (hnm:QU σ.H nm=true) (hdp:deep e=true)
  (hns: ∀o∈ns,o< 9000000∧ ∃e0 t0 ys,look σ.H o=some (.row e0 t0 ys)) (hgr:w.grownBy w' vb) (htu:QjL w w') (hvb: ∀g,vb=some g→ ∃o∈ns, ∃cap,β o=some (g,cap))
  (hown:w'.ownsRow 0 (raw e) (sz t) v' zs.length cs) (hv4:v'.ownBlock=vb∨v'.ownBlock=some w.heap.size) (hD:DpL w (inn e) t zs cs F) (hnd:F.Nodup) (hF: ∀g∈F, ∃o∈ns, ∃p,β o=some p∧g∈bits p.2) (hFv: ∀g∈F,vb≠some g):
  ∃β',RepB Z M N w0 β' { σ with H:=(nm,.row e t zs)::(ns.map (fun o=>(o,Ob.dead))++σ.H) } a w'∧RowV (β' nm) zs.length v':=by
 have u: ∀g∈F,g< w.heap.size∧w'.heap[g]?=w.heap[g]? :=fun g b=>by
  obtain ⟨o,h,p,hp,hb⟩:=hF g b;obtain ⟨_,e0,t0,ys,j⟩:=hns o h;have:=(hrep.hold o _ p g j rfl hp (.inr ⟨rfl,hb⟩)).2;exact ⟨this,hgr.block g this fun e=>hFv g b e.symm⟩
 have ab:=Qew (fun g b=>(u g b).2) hD
 have v:Kept M w0 w':=by
  refine hrep.below.step hgr.os hgr.tape hgr.output hgr.size fun g b=>?_
  have ac:=Nat.lt_of_lt_of_le b hrep.below.size;by_cases ad:vb=some g
  ·rcases htu g ac with s | ⟨c,c',s,fz,h1,h2,h3⟩
   ·exact .inl s
   ·obtain ⟨o,h,cap,y⟩:=hvb g ad;obtain ⟨_,e0,t0,ys,j⟩:=hns o h;have ai:=(hrep.own o _ g cap j rfl y).1;exact .inr ⟨c,c',s,fz,h1,h2,h3,fun i hi=>absurd (ai i) hi⟩
  ·exact .inl (hgr.block g ac fun e=>ad e.symm)
 have x: ∀g,g< w.heap.size→(∀o∈ns, ∀p,β o=some p→g≠p.1)→w'.heap[g]?=w.heap[g]? :=fun g b hn=>hgr.block g b fun s=>by
  obtain ⟨o,h,cap,y⟩:=hvb g s.symm;exact hn o h _ y rfl
 rcases hown.2 with ⟨r,af⟩ | ⟨g,cp,am,r,_,ae,ap,z,aq,ar⟩
 ·have aj:zs=[]:=List.eq_nil_of_length_eq_zero af;refine ⟨β.put nm none,hrep.regroup (q:=none) hnm rfl hns v hgr.size x (fun p g hq=>by cases hq) (fun S' β' H' _=> .inl ⟨rfl,aj⟩),?_⟩
  rw [Qx];exact ⟨r,af⟩
 ·obtain ⟨m,f,d⟩:=QfG z F;have aa:v'.ownBlock=some g:=by rw [r]; rfl
  have ah:g< w'.heap.size:=(Array.getElem?_eq_some_iff.1 ae).1
  have ao:g∉F:=fun b=>by
   rw [aa] at hv4;rcases hv4 with h4 | h4
   ·exact hFv g b h4.symm
   ·simp only [Oie] at h4;have:=(u g b).1; omega
  refine ⟨β.put nm (some (g,m)),hrep.regroup (q:=some (g,m)) hnm rfl hns v hgr.size x (fun p n hq l=>?_) (fun S' β' H' _=>?_),?_⟩
  ·obtain rfl:=Osj hq;rcases l with l | ⟨_,l⟩
   ·simp only at l;subst l;refine ⟨ah,?_⟩;rw [aa] at hv4;rcases hv4 with h4 | h4
    ·obtain ⟨o,h,cap,y⟩:=hvb n h4.symm;obtain ⟨_,e0,t0,ys,j⟩:=hns o h;exact .inl ⟨o,h,_,_,j,y,.inl rfl⟩
    ·simp only [Oie] at h4;exact .inr (by omega)
   ·rw [d] at l;obtain ⟨o,h,p,hp,hb⟩:=hF n l;obtain ⟨_,e0,t0,ys,j⟩:=hns o h;have:=(u n l).1;have:=hgr.size;exact ⟨by omega,.inl ⟨o,h,_,_,j,hp,.inr ⟨rfl,hb⟩⟩⟩
  ·refine .inr ⟨g,m,am,cs,rfl,ae,by rw [f]; exact aq,by rw [f]; exact ap,by rw [f]; exact z,Qfu (fun n b=> .inr ((d n).2 b)) ab,fun k j=>?_,.inl hdp,fun b=>ao ((d g).1 b),fun _=>⟨F,ab,hnd,fun n b=>(d n).2 b⟩⟩
   rw [←ar,List.getElem?_take,if_pos (by rw [←hown.1]; exact j),Array.getElem?_toList]
  ·rw [Qx];show _=_;rw [f]; exact r
theorem QtB {nm:Nat} (hT:QR P T=true) (hrep:RepB Z M N w0 β σ a w) (hd:QK o.dst σ.nt=true) (hg:GoOn Z M N w0 σ K y next) {c:Call} (ho:o.op= .call c) (hc:c.callee= .builtin .append)
  (h:opR T G nm o σ K=some y):o.wp P a w next Q:=by
 unfold opR at h;rw [ho] at h;simp only [hc,ite2] at h;split at h
 ·rename_i x x2 t t' j cl c3 hj;have ck:c.args= #[x,x2]:=by rw [←Array.toList_inj]; simpa using cl
  have cw:c.argTypes= #[t,t']:=by rw [←Array.toList_inj]; simpa using c3
  have bt: ∀v' w',(Builtin.append_ #[t,t'] o.type #[a.eval x,a.eval x2]).run P w= .ok v' w'→(execOp a.eval o).run P w= .ok (.value v') w':=by
   intro v' w' hr;unfold execOp;rw [ho];simp [resolve,hc,ck,cw,invoke,builtin,hr]
  rw [hj] at hd;split at h
  ·rename_i r hr;split at h
   ·rename_i q hq;split at h
    ·rename_i cg;obtain ⟨cg,dd,a8⟩:=cg;subst dd;obtain ⟨i,d,zv,ap⟩:=Qz hT hr;obtain ⟨rfl,q',co,dv,a2⟩:=ap.slice cg;rw [hq] at co;obtain rfl:=Osj co;obtain ⟨i2,d2,z2,ak⟩:=Qz hT hq;split at h
     ·rename_i b y1 hx bb;split at h
      ·rename_i e u xs hb;split at h
       ·rename_i b6;split at h
        ·rename_i b2 e2 cd;obtain ⟨di,cj,h⟩:=Obs h;obtain ⟨ys,af,h⟩:=Obs h;split at h
         ·rename_i v;obtain ⟨⟨⟨⟨aq,c2⟩,ah,am⟩,⟨da,c6,bh⟩,hn⟩,ar⟩:=v;obtain ⟨e3,e4⟩:=QV cj;simp only [Ty.slice.injEq] at e3;subst e3;simp only at e4;subst e4;obtain ⟨br,rfl,t2,bu,ac⟩:=QmO cd;have av:=(VV_s (by intros; simp)).1 (Qf hrep bb)
          simp only [VS,ac] at av;simp only [toD,Qae,ac,if_true] at af;obtain ⟨e5,e6⟩:=QV af;simp only [Ty.slice.injEq] at e5;subst e5;simp only at e6;subst e6;have f:=(VV_s (by intros; simp)).1 (Qf hrep hx)
          simp only [VS,hb] at f;obtain ⟨cs,F,n,hD,c9,l,hF,_⟩:=QjX hrep hb b6 f;obtain ⟨a5,F2,ae,ax,bl,_,a7,A,bq,hu,hA⟩:=QjX hrep ac br av
          have cm:inn e2=inn e:=by
           rcases QdX c2 with h | h
           ·rw [h]
           ·exact h.2.2.2.symm
          have bj:inn (e % 1000000000000)=inn e:=by
           rcases QdX aq with h | h
           ·rw [←h]
           ·exact h.2.2.2.symm
          have a3:raw (e % 1000000000000)=r.elem:=by
           rcases QdX aq with h | h
           ·rw [←h]; exact ah
           ·rw [←h.2.2.1]; exact ah
          rw [cm] at ax;rw [ah] at n
          obtain ⟨v',w',ad,h1,h2,h3,z,au,rfl⟩:=Qdq (ty:=o.type) ap ak a2 am n hu (Φ:=fun ai=>ai=a5) (fun h=>by
           have:=ae.1;rw [h,Nat.zero_mul] at this;exact (List.eq_nil_of_length_eq_zero this).symm) (fun h=>by
           obtain ⟨b',b4,b3⟩:=hA h;exact ⟨b',0,a5,b4,ae.1,QcE.RpL_cell (Qfu (S:=fun _=>True) (fun _ _=>trivial) ax),rfl,b3⟩) ar
          refine QD (bt _ _ h1) ?_;rw [hj];have bp: ∀g p p2,β b=some p→foot (.row e q.ty xs) p g→β b2=some p2→foot (.row e2 q.ty bu) p2 g→False:=fun g p p2 k1 k2 k3 k4=>da (hrep.one b b2 _ _ p p2 g hb rfl ac rfl k1 k3 k2 k4)
          obtain ⟨β',cb,s⟩:=QiV (nm:=nm) (ns:=[b2,b]) (e:=e % 1000000000000) (t:=q.ty) (zs:=xs++bu) (v':=v') (cs:=cs++ad) (F:=F++F2) (vb:=(a.eval x).ownBlock) hrep hn (by rw [←Qfl aq]; exact b6) (fun o ho=>by
            rcases List.mem_cons.1 ho with rfl | ho
            ·exact ⟨bh,_,_,_,ac⟩
            ·rw [List.mem_singleton.1 ho]; exact ⟨c6,_,_,_,hb⟩) h3 au (fun g m=>by
            rw [l] at m;obtain ⟨p,hp,e7⟩:=Option.map_eq_some_iff.1 m;exact ⟨b,by simp,p.2,by rw [hp, ←e7]⟩) (by rw [a3,List.length_append]; exact h2) z (by rw [bj]; exact QjJ hD ax) (List.nodup_append.2 ⟨c9,bl,fun g c8 g' m e7=>by
            subst e7;obtain ⟨p,k1,k2,_⟩:=hF g c8;obtain ⟨p2,k3,k4,_⟩:=a7 g m;exact bp g p p2 k1 (.inr ⟨rfl,k2⟩) k3 (.inr ⟨rfl,k4⟩)⟩) (fun g m=>by
            rcases List.mem_append.1 m with k | k
            ·obtain ⟨p,k1,k2,_⟩:=hF g k;exact ⟨b,by simp,p,k1,k2⟩
            ·obtain ⟨p,k1,k2,_⟩:=a7 g k;exact ⟨b2,by simp,p,k1,k2⟩) (fun g m e7=>by
            rw [l] at e7;obtain ⟨p,hp,e8⟩:=Option.map_eq_some_iff.1 e7;rcases List.mem_append.1 m with k | k
            ·obtain ⟨p',k1,k2,k3⟩:=hF g k;rw [hp] at k1;obtain rfl:=Osj k1;exact k3 e8.symm
            ·obtain ⟨p',k1,k2,k3⟩:=a7 g k;exact bp g p p' hp (.inl e8.symm) k1 (.inr ⟨rfl,k2⟩))
          refine hg _ h rfl _ _ ⟨β',cb.set (show j< σ.nt by simpa [QK] using hd) ((VV_s (by intros; simp)).2 ?_)⟩
          simp only [VS,St.put,Qe,if_true];exact s
         ·cases h
        ·cases h
       obtain ⟨ys,af,h⟩:=Obs h;obtain ⟨di,cj,h⟩:=Obs h;split at h
       ·rename_i v;obtain ⟨⟨rfl,am,_,hn,ca⟩,ar⟩:=v;obtain ⟨e3,e4⟩:=QV cj;simp only [Ty.slice.injEq] at e3;subst e3;simp only at e4;subst e4;obtain ⟨A,bq,hu,_,hA⟩:=Qhw hrep.owns (Qf hrep bb) af ca;have f:=(VV_s (by intros; simp)).1 (Qf hrep hx)
        simp only [VS,hb] at f
        have n: ∃cs,w.ownsRow 0 r.elem (sz q.ty) (a.eval x) xs.length cs∧RpL (Rp w (RO Z β σ.H) q.ty) xs cs∧(a.eval x).ownBlock=(β b).map (·.1):=by
         rcases (Qaf a8).1 (hrep.obj b _ hb) with ⟨ba,de⟩ | ⟨g,cp,cc,ai,ba,hh,hs,hl,cn,cq,hi⟩
         ·rw [ba] at f;subst de;obtain ⟨e5,_⟩:=f;refine ⟨[],?_,rfl,by rw [e5,ba]; rfl⟩
          rw [e5];exact World.ownsRow_nil w 0 r.elem _
         ·rw [ba] at f;simp only [RowV] at f;rw [Qay cn] at f;have dc:=QaJ (fun _ _=>Qt) cq
          refine ⟨ai,⟨dc,.inr ⟨g,cp,cc,f,Nat.zero_le _,hh,hl,cn,hs,?_⟩⟩,cq,by rw [f,ba]; rfl⟩
          apply List.ext_getElem?;intro k;rw [List.getElem?_take];by_cases hk:k< ai.length
          ·rw [if_pos (by omega),Array.getElem?_toList]; exact hi k hk
          ·rw [if_neg (by omega),List.getElem?_eq_none (by omega)]
        obtain ⟨cs,n,c7,l⟩:=n;obtain ⟨v',w',ad,h1,h2,h3,z,au,h5⟩:=QcE (ty:=o.type) ap ak a2 am n hu hA ar;refine QD (bt _ _ h1) ?_;rw [hj];have cz:=QeV c7 h5;rcases h2.2 with ⟨s,bs⟩ | ⟨g,cp,bz,s,_,a9,b8,aa,ce,cf⟩
        ·have a1:xs++ys=[]:=List.eq_nil_of_length_eq_zero (by rw [List.length_append]; exact bs)
         refine hg _ h rfl _ _ ⟨β.put nm none,?_⟩;have:=hrep.append (w':=w') (q:=none) (xs2:=xs++ys) hb hn a8 (by rw [←l]; exact h3) au (by intro g bq hq; cases hq) (fun S' β' H' _=> .inl ⟨rfl,a1⟩)
         refine this.set (show j< σ.nt by simpa [QK] using hd) ((VV_s (by intros; simp)).2 ?_)
         simp only [VS,St.put,Qe,if_true,Qx];exact ⟨s,by rw [a1]; rfl⟩
        ·refine hg _ h rfl _ _ ⟨β.put nm (some (g,cp)),?_⟩;have ch:v'.ownBlock=some g:=by rw [s]; rfl
         have bi:g< w'.heap.size:=(Array.getElem?_eq_some_iff.1 a9).1
         have:=hrep.append (w':=w') (q:=some (g,cp)) (xs2:=xs++ys) hb hn a8 (by rw [←l]; exact h3) au (by
          intro g' dj hq;simp only [Oie,Pmi] at hq;obtain ⟨rfl,rfl⟩:=hq;rw [ch,l] at z;rcases z with z | z
          ·obtain ⟨p,hp,e6⟩:=Option.map_eq_some_iff.1 z.symm;have db:β b=some (g,p.2):=by rw [hp, ←e6]
           exact ⟨⟨.inl ⟨p.2,db⟩,bi⟩,aa⟩
          ·simp only [Oie] at z;exact ⟨⟨.inr (by omega),bi⟩,aa⟩) (fun S' β' H' hm=>by
          refine (Qaf a8).2 <| .inr ⟨g,cp,bz,cs++ad,rfl,a9,ce,by rw [List.length_append]; exact b8,aa,Qad (fun _ _=>hm _ _ _) cz,fun k hk=>?_⟩
          rw [←cf,List.getElem?_take,if_pos (by rw [←h2.1]; exact hk),Array.getElem?_toList])
         refine this.set (show j< σ.nt by simpa [QK] using hd) ((VV_s (by intros; simp)).2 ?_)
         simp only [VS,St.put,Qe,if_true,Qx,RowV];rw [s,List.length_append,Qay aa]
       ·cases h
      ·cases h
     ·rename_i y1 hx bb;split at h
      ·rename_i b2 e2 cd;obtain ⟨ys,af,h⟩:=Obs h;split at h
       ·rename_i v;obtain ⟨⟨⟨aq,ah,am⟩,bh,hn⟩,ar⟩:=v;obtain ⟨br,rfl,t2,bu,ac⟩:=QmO cd;have av:=(VV_s (by intros; simp)).1 (Qf hrep bb)
        simp only [VS,ac] at av;simp only [toD,Qae,ac,if_true] at af;obtain ⟨e5,e6⟩:=QV af;simp only [Ty.slice.injEq] at e5;subst e5;simp only at e6;subst e6;have f:a.eval x= .slice none 0 0:=(VV_s (by intros; simp)).1 (Qf hrep hx)
        obtain ⟨a5,F2,ae,ax,bl,_,a7,A,bq,hu,hA⟩:=QjX hrep ac br av
        have bj:inn (e2 % 1000000000000)=inn e2:=by
         rcases QdX aq with h | h
         ·rw [←h]
         ·exact h.2.2.2.symm
        have a3:raw (e2 % 1000000000000)=r.elem:=by
         rcases QdX aq with h | h
         ·rw [←h]; exact ah
         ·rw [←h.2.2.1]; exact ah
        have n:w.ownsRow 0 r.elem (sz q.ty) (a.eval x) 0 []:=by rw [f]; exact World.ownsRow_nil w 0 r.elem _
        obtain ⟨v',w',ad,h1,h2,h3,z,au,rfl⟩:=Qdq (ty:=o.type) ap ak a2 am n hu (Φ:=fun ai=>ai=a5) (fun h=>by
         have:=ae.1;rw [h,Nat.zero_mul] at this;exact (List.eq_nil_of_length_eq_zero this).symm) (fun h=>by
         obtain ⟨b',b4,b3⟩:=hA h;exact ⟨b',0,a5,b4,ae.1,QcE.RpL_cell (Qfu (S:=fun _=>True) (fun _ _=>trivial) ax),rfl,b3⟩) (by simpa using ar)
        rw [Nat.zero_add,List.nil_append] at h2;have l:(a.eval x).ownBlock=none:=by rw [f]; rfl
        refine QD (bt _ _ h1) ?_;rw [hj]
        obtain ⟨β',cb,s⟩:=QiV (nm:=nm) (ns:=[b2]) (e:=e2 % 1000000000000) (t:=q.ty) (zs:=bu) (v':=v') (cs:=ad) (F:=F2) (vb:=(a.eval x).ownBlock) hrep hn (by rw [←Qfl aq]; exact br) (fun o ho=>by
          rw [List.mem_singleton.1 ho]; exact ⟨bh,_,_,_,ac⟩) h3 au (fun g m=>by rw [l] at m; cases m) (by rw [a3]; exact h2) z (by rw [bj]; exact ax) bl (fun g m=>by
          obtain ⟨p,k1,k2,_⟩:=a7 g m;exact ⟨b2,by simp,p,k1,k2⟩) (fun g m e7=>by rw [l] at e7; cases e7)
        refine hg _ h rfl _ _ ⟨β',cb.set (show j< σ.nt by simpa [QK] using hd) ((VV_s (by intros; simp)).2 ?_)⟩
        simp only [VS,St.put,Qe,if_true];exact s
       ·cases h
      obtain ⟨ys,af,h⟩:=Obs h;split at h
      ·rename_i v;obtain ⟨⟨am,hn,ca⟩,ar⟩:=v;obtain ⟨A,bq,hu,_,hA⟩:=Qhw hrep.owns (Qf hrep bb) af ca;have f:a.eval x= .slice none 0 0:=(VV_s (by intros; simp)).1 (Qf hrep hx)
       have n:w.ownsRow 0 r.elem (sz q.ty) (a.eval x) 0 []:=by rw [f]; exact World.ownsRow_nil w 0 r.elem _
       obtain ⟨v',w',ad,h1,h2,h3,z,au,h5⟩:=QcE (ty:=o.type) ap ak a2 am n hu hA (by simpa using ar)
       refine QD (bt _ _ h1) ?_;rw [hj];have l:(a.eval x).ownBlock=none:=by rw [f]; rfl
       rw [l] at h3 z;rw [Nat.zero_add,List.nil_append] at h2;have b5:Kept M w0 w':=hrep.below.step h3.os h3.tape h3.output h3.size fun k hk=> .inl (h3.block k (Nat.lt_of_lt_of_le hk hrep.below.size) (by simp))
       have b9: ∀b,b< w.heap.size→w'.heap[b]?=w.heap[b]? :=fun b hb=>h3.block b hb (by simp)
       rcases h2.2 with ⟨s,bs⟩ | ⟨g,cp,bz,s,_,a9,b8,aa,ce,cf⟩
       ·have a1:ys=[]:=List.eq_nil_of_length_eq_zero bs;refine hg _ h rfl _ _ ⟨β.put nm none,?_⟩;have:=hrep.new (w':=w') (q:=none) (ob:= .row r.elem q.ty ys) hn b5 b9 h3.size (by intro b p hq; cases hq) (fun S' β' H' _ _=> .inl ⟨rfl,a1⟩)
        refine this.set (show j< σ.nt by simpa [QK] using hd) ((VV_s (by intros; simp)).2 ?_)
        simp only [VS,St.put,Qe,if_true,Qx];exact ⟨s,bs⟩
       ·refine hg _ h rfl _ _ ⟨β.put nm (some (g,cp)),?_⟩;have ch:v'.ownBlock=some g:=by rw [s]; rfl
        have bi:g< w'.heap.size:=(Array.getElem?_eq_some_iff.1 a9).1
        have:=hrep.new (w':=w') (q:=some (g,cp)) (ob:= .row r.elem q.ty ys) hn b5 b9 h3.size (by
         intro b p hq _ hf;obtain rfl:=Osj hq;obtain rfl:=QeZ hf aa;rw [ch] at z;rcases z with z | z
         ·cases z
         ·simp only [Oie] at z; omega) (fun S' β' H' _ hm=>by
         refine (Qaf a8).2 <| .inr ⟨g,cp,bz,ad,rfl,a9,ce,b8,aa,Qad (fun _ _=>hm _ _ _) h5,fun k hk=>?_⟩
         rw [←cf,List.getElem?_take,if_pos (by rw [←h2.1]; exact hk),Array.getElem?_toList])
        refine this.set (show j< σ.nt by simpa [QK] using hd) ((VV_s (by intros; simp)).2 ?_)
        simp only [VS,St.put,Qe,if_true,Qx,RowV];rw [Qay aa];exact s
      ·cases h
     ·cases h
    ·cases h
   ·cases h
  ·cases h
 ·cases h
end ops
end
section
open Go Go.RowKit
variable {P:Program} {T:Tab} {Z:Nat→Prop} {M:Nat→Nat→Prop} {N:Nat→Option (Option (Nat×Nat))} {w0 w w':World} {β:Qr} {σ:St} {a:Act} {o:Oper} {next:Act→World→Prop} {Q:Exit→Act→World→Prop} {qo:Out} {S S':Nat→Prop} {H:Heap}
theorem QlE {dT sT ty elem:TypeId} {g off dLen dCap k:Nat} {x:Addr} {sLen sCap:Nat} {cur:Array Value} {t:TypeId} {cs:List Value} {i:TypeInfo}
  (hu:P.underlying dT=some (.slice elem)) (hi:P.info? elem=some i) (hk:i.size=k)
  (hg:w.heap[g]?=some (.cells cur t (0,0))) (hn:cs.length=Nat.min sLen dLen*k)
  (hsrc: ∀j v,cs[j]?=some v→w.cell? (x.add j)=some v) (hfit:off+cs.length≤cur.size) (h1: ∀v∈cs,v.oneCell'=true):
  (Builtin.copy_ #[dT,sT] ty #[.slice (some ⟨g,off,none⟩) dLen dCap,.slice (some x) sLen sCap]).run P w=
   .ok (goInt (Nat.min sLen dLen)) (w.setRow g (cur.toList.take off++cs++cur.toList.drop (off+cs.length)).toArray):=by
 have b:=run_loadCells_list (P:=P) w x cs hsrc;have a:=run_storeCells_at P g off t cs 0 cur w hg (by simpa using hfit) h1
 simp [Builtin.copy_,run_underlying hu,Builtin.lenOf,Builtin.firstCells,sizeOf,typeInfo,hi,hk, ←hn,b,a]
theorem At.cell {b off:Nat} {rows:List Value} (h:At w b off rows) {j:Nat} {v:Value} (hv:rows[j]?=some v):w.cell? ((⟨b,off,none⟩:Addr).add j)=some v:=by
 obtain ⟨c,e,i,d,f⟩:=h;have g:j< rows.length:=(List.getElem?_eq_some_iff.1 hv).1;have a:(⟨b,off,none⟩:Addr).add j=⟨b,off+j,none⟩:=by unfold Addr.add; split <;> simp_all
 rw [a];simp [World.cell?,d,f j g,hv]
theorem At.take {b off n:Nat} {rows:List Value} (h:At w b off rows):At w b off (rows.take n):=by
 obtain ⟨c,e,d,f,g⟩:=h;refine ⟨c,e,d,f,fun i a=>?_⟩
 simp only [List.length_take] at a;rw [g i (by omega),List.getElem?_take,if_pos (by omega)]
theorem Qwu (hT:QR P T=true) (hrep:RepB Z M N w0 β σ a w) (hd:QK o.dst σ.nt=true) (hg:GoP Z M N w0 σ o qo next) {c:Call} (ho:o.op= .call c) (hc:c.callee= .builtin .copy)
  (h:QI T o σ=some qo):o.wp P a w next Q:=by
 unfold QI Qal at h;rw [ho] at h;simp only [hc] at h;split at h
 ·rename_i x x' t t' a1 bj;have az:c.args= #[x,x']:=by rw [←Array.toList_inj]; simpa using a1
  have ba:c.argTypes= #[t,t']:=by rw [←Array.toList_inj]; simpa using bj
  split at h
  ·rename_i r d y hr hx bz;split at h
   ·rename_i q hq;split at h
    ·rename_i bu;obtain ⟨⟨g0,n,s⟩,bx,h⟩:=Obs h;simp only at h;split at h
     ·rename_i e u xs z;obtain ⟨l,b1,h⟩:=Obs h;obtain ⟨cl,aj,h⟩:=Obs h;rw [ite2] at h;split at h
      ·rename_i a2;obtain ⟨bs,br,b0⟩:=a2;obtain rfl:=Osj h;clear h;obtain ⟨i1,d1,z1,av⟩:=Qz hT hr;obtain ⟨i2,d2,z2,ah⟩:=Qz hT hq;obtain ⟨rfl,_⟩:=av.slice bu;obtain ⟨e',cm,v0,ac,ap,bb,ck,aw,b9⟩:=Qlr hrep.owns bx (Qf hrep hx);rw [z] at ac;simp only [Oie,Ob.row.injEq] at ac;obtain ⟨rfl,rfl,ax⟩:=ac;have ax:=eq_of_heq ax;subst ax;obtain ⟨_,aj⟩:=QV aj;simp only at aj;subst aj
       --where the row lies
       rcases (Qaf ap).1 (hrep.obj g0 _ z) with ⟨ab,af⟩ | ⟨g,ao,p,f,ab,hh,bt,aq,bq,ai,hi⟩
       ·subst af;simp only [List.length_nil,Nat.le_zero_eq] at bb;omega
       rw [ab] at aw;obtain ⟨A,bv,hA⟩:=aw;obtain rfl:=hA br
       --what is copied
       obtain ⟨A',a9,bw,cd,bi⟩:=Qhw hrep.owns (Qf hrep bz) b1 bs;obtain ⟨b',bl,b,rfl,ag,bm⟩:=bi (by intro af; subst af; simp at b0)
       have a7:=QaJ (fun _ _=>Qt) ai
       have au:=QaJ (fun _ _=>Qt) ag
       have hm:Nat.min l.length s≤l.length∧Nat.min l.length s≤s:=⟨Nat.min_le_left _ _,Nat.min_le_right _ _⟩;generalize ad:Nat.min l.length s=m at hm
       have a5:(b.take (m*sz q.ty)).length=m*sz q.ty:=by
        rw [List.length_take,au,Nat.min_eq_left (Nat.mul_le_mul_right _ hm.1)]
       have cj:n*sz q.ty+m*sz q.ty≤f.length:=by
        rw [a7, ←Nat.add_mul];exact Nat.mul_le_mul_right _ (by omega)
       have b3:f.length≤p.size:=by rw [a7,bt]; exact Nat.mul_le_mul_right _ aq
       have bh:=QlE (P:=P) (w:=w) (dT:=t) (sT:=t') (ty:=o.type) (elem:=r.elem) (g:=g) (off:=n*sz q.ty) (dLen:=s) (dCap:=QaO ao-n) (k:=sz q.ty) (x:=⟨b',bl,none⟩) (sLen:=l.length) (sCap:=a9)
        (cs:=b.take (m*sz q.ty)) av.under ah.info ah.size hh (by rw [a5,ad]) (fun j v hv=>bm.take.cell hv) (by omega)
        (fun v hv=>by
         have: ∀{l:List (den q.ty)} {rs:List Value},RpL (Rp w (RO Z β σ.H) q.ty) l rs→ ∀v∈rs,v.oneCell'=true:=by
          intro l
          induction l with
          | nil=>intro rs h v hv; simp only [RpL] at h; subst h; simp at hv
          | cons y l ih=>
           intro rs h v hv;obtain ⟨r1,r2,rfl,h1,h2⟩:=h;rcases List.mem_append.1 hv with hv | hv
           ·exact Qaw h1 v hv
           ·exact ih h2 v hv
         exact this ag v (List.mem_of_mem_take hv))
       have bf:=(hrep.own g0 _ g ao z rfl ab).1
       have bg:p.toList.take f.length=f:=by
        apply List.ext_getElem?;intro j;rw [List.getElem?_take];split
        ·rw [Array.getElem?_toList]; exact hi j ‹_›
        ·rw [List.getElem?_eq_none (by omega)]
       have ae:p.toList=f++p.toList.drop f.length:=by
        conv=>lhs; rw [←List.take_append_drop f.length p.toList]
        rw [bg]
       generalize b4:p.toList.drop f.length=rest at ae
       have ar:p.toList.take (n*sz q.ty)++b.take (m*sz q.ty)++p.toList.drop (n*sz q.ty+(b.take (m*sz q.ty)).length)=
         (f.take (n*sz q.ty)++(b.take (m*sz q.ty)++f.drop ((n+m)*sz q.ty)))++rest:=by
        rw [ae,a5,List.take_append_of_le_length (by omega),List.drop_append_of_le_length (by omega),Nat.add_mul]
        simp [List.append_assoc]
       have a8:(splc xs l n s).length=xs.length:=by
        unfold splc;simp only [List.length_append,List.length_take,List.length_drop];have:min s l.length=m:=by rw [←ad,Nat.min_comm]
        omega
       have a3:RepB Z M N w0 β (σ.put g0 (.row e q.ty (splc xs l n s))) a (w.setRow g (p.toList.take (n*sz q.ty)++b.take (m*sz q.ty)++p.toList.drop (n*sz q.ty+(b.take (m*sz q.ty)).length)).toArray):=by
        refine hrep.turn z rfl rfl ab (fun _=>⟨e,xs,rfl,a8.symm,Qdt.refl,id,fun hl=>by rw [Qgu ap] at hl; cases hl⟩) (fun b' hf=>(hrep.hold g0 _ _ b' z rfl ab hf).1) (fun _=>Iff.rfl)
         (QeC hrep.below hh (by simp; omega) (fun i hi=>absurd (bf i) hi)) (by simp) (fun b' bn=>setRow_other w g b' _ fun e=>bn (.inl e)) ?_
        intro S' H' _ a6;refine (Qaf ap).2 <| .inr ⟨g,ao,_,f.take (n*sz q.ty)++(b.take (m*sz q.ty)++f.drop ((n+m)*sz q.ty)),ab,setRow_heap w g p _ e (0,0) hh,?_,by rw [a8]; exact aq,bq,?_,?_⟩
        ·rw [List.size_toArray,ar];simp only [List.length_append,List.length_take,List.length_drop,Nat.add_mul]
         have:f.length+rest.length=p.size:=by
          have:=congrArg List.length ae;simp only [List.length_append,Array.length_toList] at this;omega
         rw [au,Nat.min_eq_left (Nat.mul_le_mul_right _ hm.1)];omega
        ·unfold splc;have e1:min s l.length=m:=by rw [←ad,Nat.min_comm]
         have e2:l.take s=l.take m:=by
          rw [←e1];by_cases bp:s≤l.length
          ·rw [Nat.min_eq_left bp]
          ·rw [List.take_of_length_le (by omega),List.take_of_length_le (by omega)]
         rw [e1,e2];have hA:=Qad (fun _ _=>a6 _ _ _) ai
         have hB:=Qad (fun _ _=>a6 _ _ _) ag
         exact QeV (Qey (fun _ _=>Qt) _ hA) (QeV (Qey (fun _ _=>Qt) _ hB) (Qfw (fun _ _=>Qt) _ hA))
        ·intro j hj;rw [ar,List.getElem?_toArray,List.getElem?_append_left hj]
       have bk:VV (w.setRow g (p.toList.take (n*sz q.ty)++b.take (m*sz q.ty)++p.toList.drop (n*sz q.ty+(b.take (m*sz q.ty)).length)).toArray) (RO Z β (σ.put g0 (.row e q.ty (splc xs l n s))).H) β (σ.put g0 (.row e q.ty (splc xs l n s))).H (.s (.d (.int .i64) ((min s l.length:Nat):Int))) (goInt m):=by
        have e1:min s l.length=m:=by rw [←ad,Nat.min_comm]
        rw [e1];exact Qbk ⟨rfl,rfl⟩
       refine QD (v:=goInt m) (w':=(w.setRow g (p.toList.take (n*sz q.ty)++b.take (m*sz q.ty)++p.toList.drop (n*sz q.ty+(b.take (m*sz q.ty)).length)).toArray)) ?_ (hg _ _ ⟨β,RepB.val a3 hd bk⟩);unfold execOp;rw [ho];simp only [Sem.run_bind];simp [resolve,hc,az,ba,invoke,builtin,bv,bw,bh,ad]
      ·cases h
     ·cases h
    ·cases h
   ·cases h
  ·cases h
 ·cases h
end
end Go.Proofs.YtkkljegcnnfanaaGreatDoor.S
