/- The machinery S, part 2: a run of a program's code over typed symbolic data, and that it is what the code does. -/
import Derived.Test.YtkkljegcnnfanaaGreatDoorS1
import Derived.Laws.CopyRow
import Derived.Laws.Slices
import Derived.Laws.Concat
import Derived.Laws.Strings
import Derived.Laws.Small
import Derived.Laws.StructEq
import Derived.Maps.AppendAt
import Derived.Laws.IdiomCopy
import Derived.Laws.CopyOwn
set_option linter.unusedVariables false
set_option linter.unusedSimpArgs false
namespace Go.Proofs.YtkkljegcnnfanaaGreatDoor.S
section
open Go Go.RowKit
section ops
variable {P:Program} {T:Tab} {G:Env} {Z:Nat→Prop} {M:Nat→Nat→Prop} {N:Nat→Option (Option (Nat×Nat))} {w0 w w':World} {β:Qr} {σ:St} {a:Act} {o:Oper} {next:Act→World→Prop} {Q:Exit→Act→World→Prop} {v:Value}
variable {R:Type} {K:St→Option R} {y:R} {S:Nat→Prop} {H:Heap} {qo:Out}
def GoOn (Z:Nat→Prop) (M:Nat→Nat→Prop) (N:Nat→Option (Option (Nat×Nat))) (w0:World) (σ:St) (K:St→Option R) (y:R) (next:Act→World→Prop):Prop:= ∀σ',K σ'=some y→σ'.nt=σ.nt→ ∀a' w',Rep Z M N w0 σ' a' w'→next a' w'
theorem Qgl (σ:St) (i:Option Nat) (x:SV):(σ.sets i x).nt=σ.nt:=by cases i <;> rfl
theorem Qbj {x:S1} (h:VS w S β H x v):VV w S β H (.s x) v:=by
 by_cases hd: ∃t z,x= .d t z
 ·obtain ⟨t,z,rfl⟩:=hd;exact (VV_d h.1).2 h.2
 ·exact (VV_s (fun t z e=>hd ⟨t,z,e⟩)).2 h
theorem Qkv {t:Ty} (h:isAg t=false):sz t=1:=by cases t <;> first | rfl | (simp [isAg] at h)
theorem Qhf {t:Ty} {vs:List Value} (h:vs.length=sz t):Val t (if isAg t then .agg vs.toArray else vs.headD undef) vs:=by
 unfold Val;by_cases ha:isAg t=true
 ·simp [ha]
 ·simp only [Bool.not_eq_true] at ha;have h1:=Qkv ha;rw [h1] at h
  match vs,h with
  | [u],_=>simp [ha]
theorem VV_p {b off:Nat} (h:VV w S β H (.s (.p b off)) v) {cs:List S1} (hb:look H b=some (.box cs)): ∃g base,β b=some (g,base)∧v= .pointer (some ⟨g,base+off,none⟩):=by
 have:=(VV_s (by intros; simp)).1 h
 simpa [VS,hb] using this
theorem Qtq {b i off:Nat} (h:VV w S β H (.s (.pe b i off)) v) {e:TypeId} {t:Ty} {xs:List (den t)} (hb:look H b=some (.row e t xs)):
  (i< xs.length∧deep e=false)∧ ∃g cap,β b=some (g,cap)∧v= .pointer (some ⟨g,i*sz t+off,none⟩):=by
 have:=(VV_s (by intros; simp)).1 h
 simpa [VS,hb] using this
theorem Qtp {b i off:Nat} (h:VV w S β H (.s (.dp b i off .ptr)) v) {e:TypeId} {t:Ty} {xs:List (den t)} (hb:look H b=some (.row e t xs)) (hd:deep e=true):
  i< xs.length∧deep e=true∧ ∃g cap,β b=some (g,cap)∧v= .pointer (some ⟨g,i*sz t+off,none⟩):=by
 have:=(VV_s (by intros; simp)).1 h
 simp only [VS,hb] at this;obtain ⟨h1,h2⟩:=this.2 hd;exact ⟨h1,hd,h2⟩
theorem Quh (e:TypeId):lent (e % 1000000000000)=false:=by
 unfold lent;have:e % 1000000000000< 1000000000000:=Nat.mod_lt _ (by decide)
 rw [←Bool.not_eq_true,Nat.ble_eq];exact Nat.not_le.2 this
theorem Qxb {t:Ty} (h:Qwf t=true) {x:den t} {m:List Value} (hm:Rp w S t x m):(∃A n k,m=[.slice A n k])∧isAg t=false:=by
 cases t with
 | slice t=>obtain ⟨A,kk,e1,_⟩:=hm; exact ⟨⟨A,_,kk,e1⟩,rfl⟩
 | _=>cases h
theorem QqF {t:Ty} {x:den t} (h:VV w S β H (.s (.pd t x)) v):PtrR w S (fun b=> ¬Own β H b) t x v:=by
 have:=(VV_s (by intros; simp)).1 h
 exact this
theorem QjO {c:Array Value} {cs:List S1} {base:Nat} (hb:base+cs.length≤c.size) (hall:All2 (fun x v=>VS w S β H x v∧v.oneCell'=true) cs ((c.toList.drop base).take cs.length)) {off n:Nat} (hn:off+n≤cs.length):
  ((c.toList.drop (base+off)).take n).length=n∧(∀k,k< ((c.toList.drop (base+off)).take n).length→c[base+off+k]?=((c.toList.drop (base+off)).take n)[k]?)∧
   All2 (VS w S β H) ((cs.drop off).take n) ((c.toList.drop (base+off)).take n):=by
 refine ⟨by rw [List.length_take,List.length_drop]; simp; omega,?_,?_⟩
 ·intro k hk;rw [List.length_take,List.length_drop] at hk;rw [List.getElem?_take,if_pos (by omega),List.getElem?_drop]
  simp
 ·have:=((hall.mono fun _ _ h=>h.1).drop off).take n
  rw [List.drop_take,List.drop_drop,List.take_take,Nat.min_eq_left (by omega)] at this
  exact this
theorem splice {α:Type} (l vs:List α) {base L off:Nat} (h1:base+L≤l.length) (h2:off+vs.length≤L):
  ((l.take (base+off)++vs++l.drop (base+off+vs.length)).drop base).take L=((l.drop base).take L).take off++vs++((l.drop base).take L).drop (off+vs.length):=by
 rw [List.append_assoc,List.drop_append,List.drop_take,List.length_take];have e1:base+off-base=off:=by omega
 have e2:base-min (base+off) l.length=0:=by omega
 rw [e1,e2,List.drop_zero,List.take_append,List.take_append,List.take_take,List.take_take,List.length_take,List.length_drop,List.drop_take,List.drop_drop,List.append_assoc];have e3:min off (l.length-base)=off:=by omega
 have e4:min L off=off:=by omega
 have e5:min off L=off:=by omega
 rw [e3,e4,e5,List.take_of_length_le (l:=vs) (by omega)]
 have e6:L-off-vs.length=L-(off+vs.length):=by omega
 have e7:base+off+vs.length=base+(off+vs.length):=by omega
 rw [e6,e7]
theorem QvG (hT:QR P T=true) (hrep:RepB Z M N w0 β σ a w) (hd:QM o.dst σ.nt=true) (hg:GoP Z M N w0 σ o qo next) {t:TypeId} {x:Operand} (ho:o.op= .load t x)
  (h:QL T o σ=some qo):o.wp P a w next Q:=by
 unfold QL Qaj at h;rw [ho] at h;simp only at h
 have run: ∀g off u,a.eval x= .pointer (some ⟨g,off,none⟩)→(loadVar t ⟨g,off,none⟩).run P w= .ok u w→(execOp a.eval o).run P w= .ok (.value u) w:=by
  intro g off u he hl;unfold execOp;rw [ho];simp [Instr.loadAt,Instr.sureAddr,he,hl]
 split at h
 ·rename_i r b off hr hx;obtain ⟨i,d,z,hrow⟩:=QA hT hr;split at h
  ·rename_i cs hb;split at h
   ·rename_i hlen;obtain ⟨g,cap,hg1,hv⟩:=VV_p (Qh hrep hx) hb;obtain ⟨g',cap',c,e,hq,hh,hbase,hall⟩:=hrep.obj b _ hb;rw [hg1] at hq;simp only [Oie,Pmi] at hq;obtain ⟨rfl,rfl⟩:=hq;obtain ⟨hl1,hl2,hl3⟩:=QjO hbase hall hlen;have hrun:=run g _ _ hv (Qcd hrow hh hl1 hl2);split at h
    ·rename_i ha;rw [if_pos ha] at hrun;obtain rfl:=Qo h;exact QD hrun (hg _ _ ⟨β,hrep.val hd ⟨_,rfl,hl3⟩⟩)
    ·rename_i ha;rw [if_neg ha] at hrun;split at h
     ·rename_i c1 hc1;obtain ⟨u,hu,hvs⟩:=hall.get hc1;have h1:=Qkv (by simpa using ha)
      have hu':((c.toList.drop (cap+off)).take (sz r.ty)).headD undef=u:=by
       rw [h1];rw [List.getElem?_take] at hu;split at hu
       ·rw [List.getElem?_drop] at hu
        have:c.toList.drop (cap+off)=u::c.toList.drop (cap+off+1):=by
         obtain ⟨hlt,he⟩:=List.getElem?_eq_some_iff.1 hu;rw [List.drop_eq_getElem_cons hlt,he]
        rw [this]; rfl
       ·cases hu
      rw [hu'] at hrun;obtain rfl:=Qo h;exact QD hrun (hg _ _ ⟨β,hrep.val hd (Qbj hvs.1)⟩)
     ·cases h
   ·cases h
  ·cases h
 ·rename_i r b k off hr hx;obtain ⟨i,d,z,hrow⟩:=QA hT hr;split at h
  ·rename_i e u xs hb;obtain ⟨x1,hx1,h⟩:=Obs h;obtain ⟨x2,hx2,h⟩:=Obs h;obtain ⟨⟨hk,hdp⟩,g,cap,hg1,hv⟩:=Qtq (Qh hrep hx) hb;rcases (Qae hdp).1 (hrep.obj b _ hb) with ⟨hq,_⟩ | ⟨g',cap',c,rows,hq,hh,hs,hl,hmx,hrows,hi⟩
   ·rw [hg1] at hq; cases hq
   rw [hg1] at hq;simp only [Oie,Pmi] at hq;obtain ⟨rfl,rfl⟩:=hq;obtain ⟨row,hr1,hr2⟩:=QeF (fun _ _=>Qu) hrows hx1
   obtain ⟨p,m,q,rfl,hp,hm⟩:=Qce hx2 hr1;have hml:=Qu hm;have hrl:=Qu hr1;simp only [List.length_append] at hrl;have hrowsl:=QaC (fun _ _=>Qu) hrows
   have hle:k*sz u+sz u≤rows.length:=by
    rw [hrowsl];have:(k+1)*sz u≤xs.length*sz u:=Nat.mul_le_mul_right _ hk;rw [Nat.add_mul] at this; omega
   have hrun:=run g _ _ hv (Qcd hrow hh hml (fun j hj=>by
    have:=hr2 (off+j) (by omega)
    rw [Nat.add_assoc,hi _ (by omega),this,List.append_assoc,List.getElem?_append_right (by omega),hp,Nat.add_sub_cancel_left,List.getElem?_append_left hj]))
   obtain rfl:=Qo h;exact QD hrun (hg _ _ ⟨β,hrep.val hd ⟨m,Qhf hml,hm⟩⟩)
  ·cases h
 ·rename_i r b k off hr hx;obtain ⟨i,d,z,hrow⟩:=QA hT hr;split at h
  ·rename_i e u xs hb;obtain ⟨x1,hx1,h⟩:=Obs h;obtain ⟨x2,hx2,h⟩:=Obs h
   have hd0:deep e=true:=by
    cases hde:deep e with
    | true=>rfl
    | false=>rw [if_pos hde] at h; cases h
   rw [if_neg (by rw [hd0]; simp)] at h
   obtain ⟨hk,hdp,g,cap,hg1,hv⟩:=Qtp (Qh hrep hx) hb hd0;rcases hrep.obj b _ hb with ⟨hq,_⟩ | ⟨g',cap',c,rows,hq,hh,hs,hl,hmx,hrows,hi,_⟩
   ·rw [hg1] at hq; cases hq
   rw [hg1] at hq;simp only [Oie,Pmi] at hq;obtain ⟨rfl,rfl⟩:=hq;obtain ⟨row,hr1,hr2⟩:=QeF (fun _ _=>Qu) hrows hx1
   obtain ⟨p,m,q,rfl,hp,hm⟩:=Qce hx2 hr1;have hml:=Qu hm;have hrl:=Qu hr1;simp only [List.length_append] at hrl;have hrowsl:=QaC (fun _ _=>Qu) hrows
   have hle:k*sz u+sz u≤rows.length:=by
    rw [hrowsl];have:(k+1)*sz u≤xs.length*sz u:=Nat.mul_le_mul_right _ hk;rw [Nat.add_mul] at this; omega
   have hcell: ∀j,j< m.length→c[k*sz u+off+j]?=m[j]? :=fun j hj=>by
    have:=hr2 (off+j) (by omega)
    rw [Nat.add_assoc,hi _ (by omega),this,List.append_assoc,List.getElem?_append_right (by omega),hp,Nat.add_sub_cancel_left,List.getElem?_append_left hj]
   have hrun:=run g _ _ hv (Qcd hrow hh hml hcell);split at h
   ·rename_i hsl;obtain rfl:=Qo h;exact QD hrun (hg _ _ ⟨β,hrep.val hd ⟨m,Qhf hml,Qcg hsl hm⟩⟩)
   ·split at h
    ·rename_i hc;obtain ⟨⟨hlent,_⟩,hst⟩:=hc;obtain rfl:=Qo h;obtain ⟨⟨A,n,kk,hms⟩,hag⟩:=Qxb hst hm;subst hms;rw [hag] at hrun;refine QD hrun (hg _ _ ⟨β,hrep.val hd (Qbj ?_)⟩);simp only [VS,hb];have h0:=hcell 0 (by simp)
     exact ⟨rfl,fun _=>⟨hk,g,cap,hg1,fun _=>⟨c,_,_,A,n,kk,hh,h0,rfl⟩⟩⟩
    ·cases h
  ·cases h
 ·rename_i r u x1 hr hx;obtain ⟨i,d,z,hrow⟩:=QA hT hr;obtain ⟨x2,hx2,h⟩:=Obs h;obtain rfl:=Qo h;have hpd:=QqF (Qh hrep hx);cases hmk:mark u with
  | none=>
   obtain ⟨x3,hx3,rfl⟩:=QpW hmk hx2;obtain ⟨g,off,cs,hv,hS,hr1,c,e,fz,hh,hi⟩:=hpd.un hmk;obtain ⟨p,m,q,rfl,hp,hm⟩:=Qce hx3 hr1;have hp':p=[]:=List.eq_nil_of_length_eq_zero hp;subst hp';have hml:=Qu hm
   have hrun:=run g _ _ hv (Qcd hrow hh hml (fun j hj=>by
    rw [hi _ (by simp; omega),List.nil_append,List.getElem?_append_left hj]))
   exact QD hrun (hg _ _ ⟨β,hrep.val hd ⟨m,Qhf hml,hm⟩⟩)
  | some u'=>
   obtain rfl:=Qen hmk;simp only [ptrL] at hx2;split at hx2
   ·rename_i hro;obtain ⟨hro,hmu⟩:=hro;cases hx2;obtain ⟨g,off,b2,off2,cs,hv,hS,⟨c,e,fz,hh,hi⟩,hS2,hr2,ha2⟩:=hpd
    have hrun:=run g _ _ hv (Qcd hrow hh (vs:=[.pointer (some ⟨b2,off2,none⟩)]) (by rw [hro]; rfl) (fun j hj=>by
     rw [hi _ (by simpa using hj)]))
    rw [hro] at hrun;exact QD hrun (hg _ _ ⟨β,hrep.val hd (Qbj (PtrR.mk hmu ⟨b2,off2,cs,rfl,hS2,hr2,ha2⟩))⟩)
   ·cases hx2
 ·cases h
theorem QlV {α β:Type} {R:α→β→Prop} {cs ys:List α} {vs us:List β} {off:Nat} (h:All2 R cs vs) (h':All2 R ys us):
  All2 R (cs.take off++ys++cs.drop (off+ys.length)) (vs.take off++us++vs.drop (off+us.length)):=by
 rw [h'.len];exact ((h.take off).append h').append (h.drop _)
theorem Qmz {α:Type} {R:α→List Value→Prop} {n:Nat} (h: ∀x r,R x r→r.length=n): ∀{xs:List α} {rows} {i:Nat} {x:α} {r:List Value},RpL R xs rows→i< xs.length→R x r→
  RpL R (xs.set i x) (rows.take (i*n)++r++rows.drop (i*n+n))
 | [],_,i,_,_,_,hi,_=>by simp at hi
 | y::ys,_,0,x,r,⟨r0,rs,e,hx,hr⟩,hi,hxr=>by
  subst e;have hl:=h _ _ hx;refine ⟨r,rs,?_,hxr,hr⟩;rw [Nat.zero_mul,List.take_zero,List.nil_append,Nat.zero_add,List.drop_append,List.drop_of_length_le (by omega),hl,Nat.sub_self]
  simp
 | y::ys,_,i+1,x,r,⟨r0,rs,e,hx,hr⟩,hi,hxr=>by
  subst e;have hl:=h _ _ hx;have ih:=Qmz h (i:=i) hr (by simpa using hi) hxr
  refine ⟨r0,rs.take (i*n)++r++rs.drop (i*n+n),?_,hx,ih⟩;have e1:(i+1)*n=r0.length+i*n:=by rw [Nat.add_mul]; omega
  have e2:r0.length+i*n+n=r0.length+(i*n+n):=by omega
  rw [e1,e2,List.take_append,List.drop_append];have e3:r0.take (r0.length+i*n)=r0:=List.take_of_length_le (by omega)
  have e4:r0.drop (r0.length+(i*n+n))=[]:=List.drop_of_length_le (by omega)
  rw [e3,e4,Nat.add_sub_cancel_left,Nat.add_sub_cancel_left];simp [List.append_assoc]
theorem All2.right {α β:Type} {R:α→β→Prop} {p:β→Prop} (h: ∀a b,R a b→p b): ∀{as:List α} {bs:List β},All2 R as bs→ ∀b∈bs,p b
 | _,_,.nil,b,hb=>by simp at hb
 | _,_,.cons h1 hr,b,hb=>by
  rcases List.mem_cons.1 hb with rfl | hb
  ·exact h _ _ h1
  ·exact hr.right h b hb
theorem Qcs {t:TypeId} {r:Row} {i:TypeInfo} {d:TypeDesc} {z:Value} (hrow:RowOk P T t r i d z) {g off:Nat} {c:Array Value} {e:TypeId} (hh:w.heap[g]?=some (.cells c e (0,0)))
  {u:Value} {vs:List Value} (hu:u.cells=vs.toArray) (hl:vs.length=sz r.ty) (hfit:off+vs.length≤c.size) (h1: ∀v∈vs,v.oneCell'=true):
  (storeVar t ⟨g,off,none⟩ u).run P w= .ok () (w.setRow g (c.toList.take off++vs++c.toList.drop (off+vs.length)).toArray):=by
 have hs:=run_storeCells_at P g off e vs 0 c w hh (by omega) h1
 simp only [Nat.add_zero] at hs;simp [storeVar,hu,hrow.run_size,hl,hs]
theorem Qej (hk:Kept M w0 w) {g:Nat} {c:Array Value} {e:TypeId} {fz:Nat×Nat} (hh:w.heap[g]?=some (.cells c e fz)) {cs:Array Value} (hsz:cs.size=c.size) (hM: ∀i, ¬M g i→cs[i]?=c[i]?):
  Kept M w0 (w.setRow g cs):=
 hk.step rfl rfl rfl (by simp) fun b hb=>by
  by_cases e':b=g
  ·subst e'; exact .inr ⟨c,cs,e,fz,hh,setRow_heap w b c cs e fz hh,hsz,hM⟩
  ·exact .inl (setRow_other w g b cs e')
theorem Qjd:VV w S β H (.s .any) v:=trivial
theorem RepB.inner (hrep:RepB Z M N w0 β σ a w) {b i off j:Nat} {e:TypeId} {u t1:Ty} {xs:List (den u)} {z z':den u} {ys:List (den t1)} {x:den t1} {pv val:Value} (hb:look σ.H b=some (.row e u xs))
  (htok:VS w (RO Z β σ.H) β σ.H (.dp b i off (.at j)) pv) (hle:lent e=true) (hdp:deep e=true) (hs1:sz t1=1) (hns:QaL t1=false) (hz:xs[i]?=some z) (hsub:sub u z off (.slice t1)=some ys)
  (hupd:upd u z off (.slice t1) (ys.set j x)=some z') (hx:Rp w S t1 x [val]):
  ∃g2 c2,pv= .pointer (some ⟨g2,j,none⟩)∧w.heap[g2]?=some (.cells c2 (inn e) (0,0))∧j+1≤c2.size∧
   RepB Z M N w0 β (σ.put b (.row e u (xs.set i z'))) a (w.setRow g2 (c2.toList.take j++[val]++c2.toList.drop (j+1)).toArray):=by
 simp only [VS,hb] at htok;obtain ⟨hi,g,cap,hg,htok⟩:=htok.2 hdp;obtain ⟨c,e',fz,A0,n0,k0,hh0,hc0,hjn,hv⟩:=htok hle;rcases hrep.obj b _ hb with ⟨hq,_⟩ | ⟨g',cap',c',rows,hq,hh,hsz,hl,hmx,hrows,hcl,hcp,hnb,hdd⟩
 ·rw [hg] at hq; cases hq
 rw [hg] at hq;simp only [Oie,Pmi] at hq;obtain ⟨rfl,rfl⟩:=hq;rw [hh] at hh0;simp only [Oie,Obj.cells.injEq] at hh0;obtain ⟨rfl,_,_⟩:=hh0;obtain ⟨F0,hD1,hnd,hsub0⟩:=hdd hdp;obtain ⟨A,Fi,C,row,rfl,hdr,hr2,hle2,hset⟩:=QhO hD1 hz;obtain ⟨A',Fj,C',p,m,q,rfl,rfl,hpl,hm,hset2⟩:=Qti hsub hdr;have hrl:=QbA hdr;have hml:m.length=1:=QbA hm;simp only [List.length_append] at hrl
 have hv0:m[0]?=some (.slice (some A0) n0 k0):=by
  have h1:=hr2 off (by omega)
  rw [←hcl _ (by omega),hc0,List.append_assoc,List.getElem?_append_right (by omega),hpl,Nat.sub_self,List.getElem?_append_left (by omega)] at h1
  exact h1.symm
 rcases hm with ⟨h1,h2,h3⟩ | ⟨b2,cap2,c2,rows2,h1,h2,h3,h4,h5,h6,h7,h8⟩
 ·subst h1;simp at hv0
 subst h1; subst h2;simp only [List.getElem?_cons_zero,Oie,Value.slice.injEq] at hv0;obtain ⟨rfl,rfl,rfl⟩:=hv0;have hrl2:=QaC (fun _ _=>Qu) h7
 rw [hs1,Nat.mul_one] at hrl2 h4;have hb2:b2∈bits cap:=hsub0 b2 (by simp)
 have hne:b2≠g:=fun e1=>hnb (e1▸hb2)
 have hmay:=hrep.hold b _ _ b2 hb rfl hg (.inr ⟨rfl,hb2⟩);have hw2:=setRow_heap w b2 c2 (c2.toList.take j++[val]++c2.toList.drop (j+1)).toArray (inn e) (0,0) h3;have hothers: ∀g2,g2≠b2→(w.setRow b2 (c2.toList.take j++[val]++c2.toList.drop (j+1)).toArray).heap[g2]?=w.heap[g2]? :=fun g2 h=>setRow_other w b2 g2 _ h
 have hlen2:(c2.toList.take j++[val]++c2.toList.drop (j+1)).toArray.size=c2.size:=by
  simp only [List.size_toArray,List.length_append,List.length_take,List.length_drop,Array.length_toList,List.length_singleton]; omega
 refine ⟨b2,c2,by rw [hv,Qdp,Nat.zero_add],h3,by omega,?_⟩
 generalize hWE:w.setRow b2 (c2.toList.take j++[val]++c2.toList.drop (j+1)).toArray=w' at hw2 hothers
 have hdisj: ∀g2,g2∈A++A'++C'++C→g2≠b2:=by
  intro g2 h2 h3
  have hp:(A++(A'++[b2]++C')++C).Perm ([b2]++(A++A'++C'++C)):=by
   simp only [List.append_assoc];refine ((List.perm_append_comm_assoc A' [b2] _).append_left A).trans ?_;exact List.perm_append_comm_assoc _ _ _
  exact (List.nodup_append.1 (hp.nodup_iff.1 hnd)).2.2 b2 (by simp) g2 h2 h3.symm
 have hset1:=Qmz (fun _ _=>Qu (w:=w) (S:=fun _=>False)) h7 hjn (Qcg (S':=fun _=>False) (w':=w) hns hx)
 rw [hs1,Nat.mul_one] at hset1
 have hd2:Dp w' (inn e) (.slice t1) (ys.set j x) [.slice (some ⟨b2,0,none⟩) ys.length cap2] [b2]:=by
  refine .inr ⟨b2,cap2,_,_,by rw [List.length_set],rfl,hw2,by rw [hlen2,hs1,Nat.mul_one]; exact h4,by rw [List.length_set]; exact h5,h6,Qac (fun _ _=>Qcg hns) hset1,fun k hk=>?_⟩
  simp only [List.length_append,List.length_take,List.length_drop,List.length_singleton] at hk;simp only [List.getElem?_toArray];have hcj: ∀k,k< rows2.length→c2.toList[k]?=rows2[k]? :=fun k hk=>by rw [Array.getElem?_toList]; exact h8 k hk
  by_cases k1:k< j
  ·rw [List.append_assoc,List.getElem?_append_left (by simp; omega),List.append_assoc,List.getElem?_append_left (by simp; omega),List.getElem?_take,if_pos k1,List.getElem?_take,if_pos k1,hcj k (by omega)]
  ·by_cases k2:k=j
   ·subst k2;rw [List.getElem?_append_left (by simp; omega),List.getElem?_append_right (by simp; omega),List.getElem?_append_left (by simp; omega),List.getElem?_append_right (by simp; omega)]
    simp only [List.length_take,Array.length_toList];rw [Nat.min_eq_left (by omega),Nat.min_eq_left (by omega)]
   ·rw [List.getElem?_append_right (by simp; omega),List.getElem?_append_right (by simp; omega)]
    simp only [List.length_append,List.length_take,Array.length_toList,List.length_singleton];rw [Nat.min_eq_left (by omega),Nat.min_eq_left (by omega),List.getElem?_drop,List.getElem?_drop,hcj _ (by omega)]
 have hDz:=hset2 w' (ys.set j x) z' _ hupd (fun g2 h2=>hothers g2 (hdisj g2 (by rcases List.mem_append.1 h2 with h | h <;> simp [h]))) hd2
 have hDL:=hset w' z' _ _ (fun g2 h2=>hothers g2 (hdisj g2 (by rcases List.mem_append.1 h2 with h | h <;> simp [h]))) hDz
 have hrr:rows.take (i*sz u)++(p++[.slice (some ⟨b2,0,none⟩) ys.length cap2]++q)++rows.drop (i*sz u+sz u)=rows:=by
  apply List.ext_getElem?;intro j;have hrowl:(p++[Value.slice (some ⟨b2,0,none⟩) ys.length cap2]++q).length=sz u:=by simp only [List.length_append,List.length_singleton]; simp only [List.length_singleton] at hrl; omega
  by_cases h1:j< i*sz u
  ·rw [List.append_assoc,List.getElem?_append_left (by simp; omega),List.getElem?_take,if_pos h1]
  ·by_cases h2:j< i*sz u+sz u
   ·have h3:=hr2 (j-i*sz u) (by omega)
    rw [show i*sz u+(j-i*sz u)=j by omega] at h3
    rw [List.getElem?_append_left (by rw [List.length_append,hrowl]; simp; omega),List.getElem?_append_right (by simp; omega),h3,List.length_take,Nat.min_eq_left (by omega)]
   ·rw [List.getElem?_append_right (by rw [List.length_append,hrowl]; simp; omega),List.length_append,hrowl,List.length_take,Nat.min_eq_left (by omega),List.getElem?_drop]
    congr 1; omega
 rw [hrr] at hDL;have hgb:w'.heap[g]?=w.heap[g]? :=hothers g (Ne.symm hne);refine hrep.turnG hb rfl rfl hg (fun _=>⟨e,xs,rfl,by simp,QcX.refl,id,fun hl2=>⟨hl2,HdrS.same fun p2 hp2=>?_⟩⟩) (fun b' hf=>(hrep.hold b _ _ b' hb rfl hg hf).1) (fun _=>Iff.rfl) ?_ (by rw [←hWE]; simp) (fun b' h1 h2=>hothers b' fun h3=>h2 (.inr ⟨rfl,h3▸hb2⟩)) (fun S'=>?_)
 ·rw [hg] at hp2;obtain rfl:=Osj hp2;exact hgb
 ·rw [←hWE]; exact Qej hrep.below h3 hlen2 fun i hi=>absurd (hmay.1 i) hi
 ·rw [hg];exact .inr ⟨g,cap,_,rows,rfl,by rw [hgb]; exact hh,hsz,by simpa using hl,hmx,Qfe (fun g2 h2=> .inr (hsub0 g2 h2)) hDL,hcl,hcp,hnb,fun _=>⟨_,hDL,hnd,hsub0⟩⟩
theorem Quy {nm:Nat} (hT:QR P T=true) (hrep:RepB Z M N w0 β σ a w) (hd:QM o.dst σ.nt=true) (hg:GoOn Z M N w0 σ K y next) {t:TypeId} {x x':Operand} (ho:o.op= .store t x x')
  (h:opR T G nm o σ K=some y):o.wp P a w next Q:=by
 unfold opR at h;rw [ho] at h;simp only at h
 have run: ∀g off w',a.eval x= .pointer (some ⟨g,off,none⟩)→(storeVar t ⟨g,off,none⟩ (a.eval x')).run P w= .ok () w'→(execOp a.eval o).run P w= .ok .skip w':=by
  intro g off w' he hl;unfold execOp;rw [ho];simp [Instr.storeAt,Instr.sureAddr,he,hl]
 split at h
 ·rename_i r b off u hr hx hx';obtain ⟨i,d,z,hrow⟩:=QA hT hr;split at h
  ·rename_i cs hb;split at h
   ·rename_i hcond;obtain ⟨hlen,hfit,hk⟩:=hcond;obtain ⟨g,cap,hg1,hv⟩:=VV_p (Qh hrep hx) hb;obtain ⟨vs,hvs,hall'⟩:=QcJ (Qh hrep hx') hk;obtain ⟨g',cap',c,e,hq,hh,hbase,hall⟩:=hrep.obj b _ hb;rw [hg1] at hq;simp only [Oie,Pmi] at hq;obtain ⟨rfl,rfl⟩:=hq;have hl':=hall'.len;have hmay:=(hrep.own b _ g cap hb rfl hg1).1;have hrun:=run g _ _ hv (Qcs hrow hh hvs (by omega) (by omega) (hall'.right fun _ _ h=>h.2))
    refine Qey hrun (hg _ h (Qgl ..) _ _ ⟨β,?_⟩);refine RepB.sets ?_ hd Qjd;have hrl:(QfM cs off (cellsOf u)).length=cs.length:=by simp [QfM]; omega
    refine hrep.turn hb rfl rfl hg1 (fun _=>⟨⟨cs,rfl⟩,rfl⟩) (fun b' hf i hi=>by rw [QcN hf]; exact hmay i (by omega)) (fun _=>Iff.rfl) (Qej hrep.below hh (by simp; omega) ?_) (by simp) (fun b' hb'=>setRow_other w g b' _ fun e=>hb' (.inl e)) ?_
    ·intro j hj;have hcl:c.toList.length=c.size:=Array.length_toList;have hj': ¬(cap≤j∧j< cap+cs.length):=fun hc=>hj (by have:=hmay (j-cap) (by omega); rwa [Nat.add_sub_cancel' hc.1] at this)
     have hj2:j< cap∨cap+cs.length≤j:=by omega
     simp only [List.getElem?_toArray,List.append_assoc];by_cases h1:j< cap+off
     ·rw [List.getElem?_append_left (by simp; omega),List.getElem?_take,if_pos h1,Array.getElem?_toList]
     ·rw [List.getElem?_append_right (by simp; omega),List.length_take,Array.length_toList,Nat.min_eq_left (by omega),List.getElem?_append_right (by omega),List.getElem?_drop,Array.getElem?_toList]
      congr 1; simp only [List.size_toArray]; omega
    ·intro S' H' hs _;refine ⟨g,cap,_,e,hg1,setRow_heap w g c _ e (0,0) hh,by rw [hrl]; simp; omega,?_⟩
     rw [hrl,List.toList_toArray,splice _ _ (by simpa using hbase) (by omega)]
     exact (QlV hall hall').mono fun x v hx=>⟨hs x v hx.1,hx.2⟩
   ·cases h
  ·cases h
 ·rename_i r b k off u hr hx hx';obtain ⟨i,d,z,hrow⟩:=QA hT hr;split at h
  ·rename_i x1 H' htake;split at h
   ·rename_i e u2 xs hb;obtain ⟨x2,hx2,h2⟩:=Obs h;obtain ⟨x3,hx3,h3⟩:=Obs h2;clear h h2;unfold QoX at htake;split at htake
    ·rename_i x1' hD;simp only [Oie,Pmi] at htake;obtain ⟨rfl,rfl⟩:=htake;have hrep':=hrep.frz (Qv σ.H u);obtain ⟨⟨hk,hdp⟩,g,cap,hg1,hv⟩:=Qtq (Qh hrep' (σ:={ σ with H:=frz σ.H (Qv σ.H u) }) (x:=x) (y:= .s (.pe b k off)) (by rw [←hx]; cases x <;> rfl)) hb
     obtain ⟨ms,hms,hrm⟩:=Qbp (own:=false) hrep'.owns (fun t x cs h=>h) (by simp) (Qh hrep' (σ:={ σ with H:=frz σ.H (Qv σ.H u) }) (x:=x') (y:=u) (by rw [←hx']; cases x' <;> rfl)) hD
     rcases (Qae hdp).1 (hrep'.obj b _ hb) with ⟨hq,_⟩ | ⟨g',cap',c,rows,hq,hh,hs,hl,hmx,hrows,hi⟩
     ·rw [hg1] at hq; cases hq
     rw [hg1] at hq;simp only [Oie,Pmi] at hq;obtain ⟨rfl,rfl⟩:=hq;obtain ⟨row,hr1,hr2⟩:=QeF (fun _ _=>Qu) hrows hx2
     obtain ⟨hul,hur⟩:=Qtg hx3 hr1 hrm;have hml:=Qu hrm;have hrl:=Qu hr1;have hrowsl:=QaC (fun _ _=>Qu) hrows
     have hle:k*sz u2+sz u2≤rows.length:=by
      rw [hrowsl];have:(k+1)*sz u2≤xs.length*sz u2:=Nat.mul_le_mul_right _ hk;rw [Nat.add_mul] at this; omega
     have hcap:rows.length≤c.size:=by rw [hrowsl,hs]; exact Nat.mul_le_mul_right _ hl
     have hmay:=(hrep'.own b _ g cap hb rfl hg1).1;have hrun:=run g _ _ hv (Qcs hrow hh (Qdj hms (Qas hrm)) (by omega) (by omega) (Qas hrm))
     refine Qey hrun (hg _ h3 (Qgl ..) _ _ ⟨β,?_⟩);refine RepB.sets ?_ hd Qjd;refine hrep'.turn (σ:={ σ with H:=frz σ.H (Qv σ.H u) }) hb rfl rfl hg1 (fun _=>⟨e,xs,rfl,by simp,QcX.refl,id,fun hl=>by rw [Qgb hdp] at hl; cases hl⟩) (fun b' hf=>(hrep'.hold b _ _ b' hb rfl hg1 hf).1) (fun _=>Iff.rfl) (Qej hrep'.below hh (by simp; omega) (fun i hi=>absurd (hmay i) hi)) (by simp) (fun b' hb'=>setRow_other w g b' _ fun e=>hb' (.inl e)) ?_
     intro S' H' _ hm;refine (Qae hdp).2 <| .inr ⟨g,cap,_,rows.take (k*sz u2)++(row.take off++ms++row.drop (off+ms.length))++rows.drop (k*sz u2+sz u2),hg1,setRow_heap w g c _ e (0,0) hh,?_,by simpa using hl,hmx,?_,?_⟩
     ·simp only [List.size_toArray,List.length_append,List.length_take,List.length_drop,Array.length_toList];rw [←hs]; omega
     ·exact Qmz (fun _ _=>Qu) (Qac (fun _ _=>hm _ _ _) hrows) hk (hm _ _ _ hur)
     ·intro j hj;simp only [List.length_append,List.length_take,List.length_drop] at hj;simp only [List.getElem?_toArray];have hcj: ∀j,j< rows.length→c.toList[j]?=rows[j]? :=fun j hj=>by rw [Array.getElem?_toList]; exact hi j hj
      by_cases h1:j< k*sz u2+off
      ·by_cases h2:j< k*sz u2
       ·rw [List.append_assoc,List.getElem?_append_left (by simp; omega),List.append_assoc,List.getElem?_append_left (by simp; omega),List.getElem?_take,if_pos h1,List.getElem?_take,if_pos h2,hcj j (by omega)]
       ·rw [List.append_assoc,List.getElem?_append_left (by simp; omega),List.append_assoc,List.getElem?_append_right (by simp; omega)]
        rw [List.length_take,Nat.min_eq_left (by omega),List.getElem?_append_left (by simp; omega),List.append_assoc,List.getElem?_append_left (by simp; omega),List.getElem?_take,if_pos h1,List.getElem?_take,if_pos (by omega), ←hr2 _ (by omega),hcj j (by omega)]
        congr 1; omega
      ·by_cases h2:j< k*sz u2+off+ms.length
       ·rw [List.getElem?_append_left (by simp; omega),List.getElem?_append_right (by simp; omega),List.append_assoc,List.getElem?_append_right (by simp; omega)]
        rw [List.length_take,List.length_take,Array.length_toList,Nat.min_eq_left (by omega),Nat.min_eq_left (by omega),List.getElem?_append_left (by simp; omega),List.getElem?_append_left (by simp; omega),List.getElem?_append_right (by simp; omega)]
        rw [List.length_take,Nat.min_eq_left (by omega)]
        congr 1; omega
       ·rw [List.getElem?_append_right (by simp; omega)]
        have el:(c.toList.take (k*sz u2+off)++ms).length=k*sz u2+off+ms.length:=by simp; omega
        rw [el,List.getElem?_drop];by_cases h3:j< k*sz u2+sz u2
        ·rw [List.append_assoc,List.getElem?_append_right (by simp; omega),List.length_take,Nat.min_eq_left (by omega),List.getElem?_append_left (by simp; omega),List.getElem?_append_right (by simp; omega)]
         have el2:(row.take off++ms).length=off+ms.length:=by simp; omega
         rw [el2,List.getElem?_drop,hcj _ (by omega), ←hr2 _ (by omega)]
         congr 1; omega
        ·rw [List.getElem?_append_right (by simp; omega)]
         have el2:(rows.take (k*sz u2)++(row.take off++ms++row.drop (off+ms.length))).length=k*sz u2+sz u2:=by simp; omega
         rw [el2,List.getElem?_drop,hcj _ (by omega)]
         congr 1; omega
    ·cases htake
   ·cases h
  ·cases h
 ·rename_i r b k off j u hr hx hx';obtain ⟨i,d,z,hrow⟩:=QA hT hr;split at h
  ·rename_i e u2 xs hb;split at h
   ·rename_i hc;obtain ⟨⟨⟨hle,hdp⟩,_⟩,hns,hs1⟩:=hc;obtain ⟨x1,hD,h⟩:=Obs h;obtain ⟨z1,hz1,h⟩:=Obs h;obtain ⟨ys,hys,h⟩:=Obs h;obtain ⟨z2,hz2,h⟩:=Obs h;obtain ⟨ms,hms,hrm⟩:=Qbp (own:=false) hrep.owns (fun t x cs h=>h) (by simp) (Qh hrep hx') hD
    have hml:=Qu hrm;rw [hs1] at hml;obtain ⟨val,rfl⟩:=List.length_eq_one_iff.1 hml;obtain ⟨g2,c2,hpv,hh2,hj2,hr⟩:=hrep.inner hb ((VV_s (by intros; simp)).1 (Qh hrep hx)) hle hdp hs1 hns hz1 hys hz2 hrm
    have hrun:=run g2 j _ hpv (Qcs hrow hh2 (Qdj hms (Qas hrm)) (by rw [hs1]; rfl) (by simpa using hj2) (Qas hrm))
    exact Qey hrun (hg _ h (Qgl ..) _ _ ⟨β,RepB.sets hr hd Qjd⟩)
   ·cases h
  ·cases h
 ·rename_i r b k off u hr hx hx';obtain ⟨i,d,z,hrow⟩:=QA hT hr;split at h
  ·rename_i e u2 xs hb
   have hd0:deep e=true:=by
    cases hde:deep e with
    | true=>rfl
    | false=>rw [if_pos hde] at h; cases h
   rw [if_neg (by rw [hd0]; simp)] at h
   split at h
   ·rename_i hsl;obtain ⟨x1,hD,h⟩:=Obs h;obtain ⟨x2,hx2,h⟩:=Obs h;obtain ⟨x4,hx4,h⟩:=Obs h;obtain ⟨x3,hx3,h3⟩:=Obs h;obtain ⟨hk,hdp,g,cap,hg1,hv⟩:=Qtp (Qh hrep hx) hb hd0;obtain ⟨ms,hms,hrm⟩:=Qbp (own:=false) hrep.owns (fun t x cs h=>h) (by simp) (Qh hrep hx') hD
    rcases hrep.obj b _ hb with ⟨hq,_⟩ | ⟨g',cap',c,rows,hq,hh,hs,hl,hmx,hrows,hi,hcp,hnb,hdd⟩
    ·rw [hg1] at hq; cases hq
    rw [hg1] at hq;simp only [Oie,Pmi] at hq;obtain ⟨rfl,rfl⟩:=hq;obtain ⟨F,hD1,hnd,hsub⟩:=hdd hdp;obtain ⟨A,Fi,C,row,rfl,hd1,hr2,hle,hset⟩:=QhO hD1 hx2;obtain ⟨hul,A',B',C',rfl,hur⟩:=QuU hx3 hd1 (QiT hsl hrm);obtain ⟨pp,mm,qq,hrow',hpl,hmm⟩:=Qce hx4 (QkX (S:=fun _=>True) (fun _ _=>trivial) hd1)
    have hml:=Qu hrm;have hmml:=Qu hmm;have hrl:=QbA hd1;have hrowsl:=QaC (fun _ _=>Qu) hrows
    have hcap:rows.length≤c.size:=by rw [hrowsl,hs]; exact Nat.mul_le_mul_right _ hl
    have hmay:=(hrep.own b _ g cap hb rfl hg1).1;have hrun:=run g _ _ hv (Qcs hrow hh (Qdj hms (Qas hrm)) (by omega) (by omega) (Qas hrm))
    have hcells: ∀j,j< (rows.take (k*sz u2)++(row.take off++ms++row.drop (off+ms.length))++rows.drop (k*sz u2+sz u2)).length→
      (c.toList.take (k*sz u2+off)++ms++c.toList.drop (k*sz u2+off+ms.length))[j]?=(rows.take (k*sz u2)++(row.take off++ms++row.drop (off+ms.length))++rows.drop (k*sz u2+sz u2))[j]? :=by
      intro j hj;simp only [List.length_append,List.length_take,List.length_drop] at hj;have hcj: ∀j,j< rows.length→c.toList[j]?=rows[j]? :=fun j hj=>by rw [Array.getElem?_toList]; exact hi j hj
      by_cases h1:j< k*sz u2+off
      ·by_cases h2:j< k*sz u2
       ·rw [List.append_assoc,List.getElem?_append_left (by simp; omega),List.append_assoc,List.getElem?_append_left (by simp; omega),List.getElem?_take,if_pos h1,List.getElem?_take,if_pos h2,hcj j (by omega)]
       ·rw [List.append_assoc,List.getElem?_append_left (by simp; omega),List.append_assoc,List.getElem?_append_right (by simp; omega)]
        rw [List.length_take,Nat.min_eq_left (by omega),List.getElem?_append_left (by simp; omega),List.append_assoc,List.getElem?_append_left (by simp; omega),List.getElem?_take,if_pos h1,List.getElem?_take,if_pos (by omega), ←hr2 _ (by omega),hcj j (by omega)]
        congr 1; omega
      ·by_cases h2:j< k*sz u2+off+ms.length
       ·rw [List.getElem?_append_left (by simp; omega),List.getElem?_append_right (by simp; omega),List.append_assoc,List.getElem?_append_right (by simp; omega)]
        rw [List.length_take,List.length_take,Array.length_toList,Nat.min_eq_left (by omega),Nat.min_eq_left (by omega),List.getElem?_append_left (by simp; omega),List.getElem?_append_left (by simp; omega),List.getElem?_append_right (by simp; omega)]
        rw [List.length_take,Nat.min_eq_left (by omega)]
        congr 1; omega
       ·rw [List.getElem?_append_right (by simp; omega)]
        have el:(c.toList.take (k*sz u2+off)++ms).length=k*sz u2+off+ms.length:=by simp; omega
        rw [el,List.getElem?_drop];by_cases h3:j< k*sz u2+sz u2
        ·rw [List.append_assoc,List.getElem?_append_right (by simp; omega),List.length_take,Nat.min_eq_left (by omega),List.getElem?_append_left (by simp; omega),List.getElem?_append_right (by simp; omega)]
         have el2:(row.take off++ms).length=off+ms.length:=by simp; omega
         rw [el2,List.getElem?_drop,hcj _ (by omega), ←hr2 _ (by omega)]
         congr 1; omega
        ·rw [List.getElem?_append_right (by simp; omega)]
         have el2:(rows.take (k*sz u2)++(row.take off++ms++row.drop (off+ms.length))).length=k*sz u2+sz u2:=by simp; omega
         rw [el2,List.getElem?_drop,hcj _ (by omega)]
         congr 1; omega
    have hdr: ∀(j:Nat) A n kk,c[j]?=some (.slice A n kk)→(c.toList.take (k*sz u2+off)++ms++c.toList.drop (k*sz u2+off+ms.length))[j]?=c[j]? :=by
     intro j A n kk hj;have hjc:j< c.toList.length:=by rw [Array.length_toList]; exact (Array.getElem?_eq_some_iff.1 hj).1
     by_cases h1:j< k*sz u2+off
     ·rw [List.append_assoc,List.getElem?_append_left (by simp; omega),List.getElem?_take,if_pos h1,Array.getElem?_toList]
     ·by_cases h2:j< k*sz u2+off+ms.length
      ·exfalso;have h5:=hr2 (j-k*sz u2) (by omega)
       rw [show k*sz u2+(j-k*sz u2)=j by omega, ←hi j (by omega),hj,hrow',List.append_assoc,List.getElem?_append_right (by omega),List.getElem?_append_left (by omega)] at h5
       exact QeG hsl hmm A n kk (List.mem_of_getElem? h5.symm)
      ·rw [List.getElem?_append_right (by simp; omega)]
       have el:(c.toList.take (k*sz u2+off)++ms).length=k*sz u2+off+ms.length:=by simp; omega
       rw [el,List.getElem?_drop,Array.getElem?_toList];congr 1; omega
    refine Qey hrun (hg _ h3 (Qgl ..) _ _ ⟨β,?_⟩);refine RepB.sets ?_ hd Qjd;have hother: ∀g2,g2∈bits cap→g2≠g:=fun g2 h2 e2=>hnb (e2▸h2)
    refine hrep.turn hb rfl rfl hg1 (fun _=>⟨e,xs,rfl,by simp,QcX.refl,id,fun hl2=>⟨hl2,?_⟩⟩) (fun b' hf=>(hrep.hold b _ _ b' hb rfl hg1 hf).1) (fun _=>Iff.rfl) (Qej hrep.below hh (by simp; omega) (fun i hi=>absurd (hmay i) hi)) (by simp) (fun b' hb'=>setRow_other w g b' _ fun e=>hb' (.inl e)) ?_
    ·intro b2 cap2 c2 e2 fz2 hq2 hc2;rw [hg1] at hq2;simp only [Oie,Pmi] at hq2;obtain ⟨rfl,rfl⟩:=hq2;rw [hh] at hc2;simp only [Oie,Obj.cells.injEq] at hc2;obtain ⟨rfl,rfl,rfl⟩:=hc2;exact ⟨_,_,_,setRow_heap w g c _ _ (0,0) hh,fun j A n kk hj=>by simp only [List.getElem?_toArray]; exact hdr j A n kk hj⟩
    ·intro S' H' _ hm
     have hD2:=hset (w.setRow g (c.toList.take (k*sz u2+off)++ms++c.toList.drop (k*sz u2+off+ms.length)).toArray) x3 _ _ (fun g2 hg2=>setRow_other w g g2 _ (hother g2 (hsub g2 (by
      rcases List.mem_append.1 hg2 with h | h
      ·simp [h]
      ·simp [h])))) (QcZ (fun g2 hg2=>setRow_other w g g2 _ (hother g2 (hsub g2 (by
      rcases List.mem_append.1 hg2 with h | h
      ·rcases List.mem_append.1 h with h | h
       ·simp [h]
       ·cases h
      ·simp [h])))) hur)
     refine .inr ⟨g,cap,_,_,hg1,setRow_heap w g c _ _ (0,0) hh,?_,by simpa using hl,hmx,Qfe ?_ hD2,?_,hcp,hnb,fun _=>⟨_,hD2,?_,?_⟩⟩
     ·simp only [List.size_toArray,List.length_append,List.length_take,List.length_drop,Array.length_toList];rw [←hs]; omega
     ·intro g2 hg2;refine .inr (hsub g2 ?_);simp only [List.mem_append,List.append_nil] at hg2⊢;rcases hg2 with (h | h | h) | h <;> simp [h]
     ·intro j hj;simp only [List.getElem?_toArray];exact hcells j hj
     ·refine hnd.sublist ?_;refine List.Sublist.append (List.Sublist.append (List.Sublist.refl _) ?_) (List.Sublist.refl _);exact List.Sublist.append (List.Sublist.append (List.Sublist.refl _) (List.nil_sublist _)) (List.Sublist.refl _)
     ·intro g2 hg2;refine hsub g2 ?_;simp only [List.mem_append,List.append_nil] at hg2⊢;rcases hg2 with (h | h | h) | h <;> simp [h]
   ·rename_i hsl;obtain ⟨⟨x1,ns,rr⟩,hgat,h⟩:=Obs h;split at h
    ·rename_i hcd;obtain ⟨⟨⟨hse,hb9⟩,hkn⟩,hnn,hall9,hemp⟩:=hcd;simp only at hnn hall9 hemp;have hrr:rr=[]:=by simpa using hemp
     subst hrr;obtain ⟨x2,hx2,h⟩:=Obs h;obtain ⟨x3,hx3,h3⟩:=Obs h;simp only at hx3 h3;obtain ⟨hk,hdp,g,cap,hg1,hv⟩:=Qtp (Qh hrep hx) hb hd0;obtain ⟨ms,hms,hall'⟩:=QcJ (Qh hrep hx') hkn;obtain ⟨ms1,v2,hv12,hdm,hnil⟩:=Qjq hrep.owns (hall'.mono fun _ _ h=>h.1) hgat
     cases hnil;rw [List.append_nil] at hv12;subst hv12;rcases hrep.obj b _ hb with ⟨hq,_⟩ | ⟨g',cap',c,rows,hq,hh,hs,hl,hmx,hrows,hi,hcp,hnb,hdd⟩
     ·rw [hg1] at hq; cases hq
     rw [hg1] at hq;simp only [Oie,Pmi] at hq;obtain ⟨rfl,rfl⟩:=hq;obtain ⟨F,hD1,hnd,hsub⟩:=hdd hdp;obtain ⟨A,Fi,C,row,rfl,hd1,hr2,hle,hset⟩:=QhO hD1 hx2;obtain ⟨hul,A',B',C',rfl,hur⟩:=QuU hx3 hd1 hdm;have hml:=QbA hdm;have hrl:=QbA hd1;have hrowsl:=QaC (fun _ _=>Qu) hrows
     have hcap:rows.length≤c.size:=by rw [hrowsl,hs]; exact Nat.mul_le_mul_right _ hl
     have hmay:=(hrep.own b _ g cap hb rfl hg1).1;have hrun:=run g _ _ hv (Qcs hrow hh hms (by omega) (by omega) (hall'.right fun _ _ h=>h.2))
     have hcells: ∀j,j< (rows.take (k*sz u2)++(row.take off++ms++row.drop (off+ms.length))++rows.drop (k*sz u2+sz u2)).length→
       (c.toList.take (k*sz u2+off)++ms++c.toList.drop (k*sz u2+off+ms.length))[j]?=(rows.take (k*sz u2)++(row.take off++ms++row.drop (off+ms.length))++rows.drop (k*sz u2+sz u2))[j]? :=by
       intro j hj;simp only [List.length_append,List.length_take,List.length_drop] at hj;have hcj: ∀j,j< rows.length→c.toList[j]?=rows[j]? :=fun j hj=>by rw [Array.getElem?_toList]; exact hi j hj
       by_cases h1:j< k*sz u2+off
       ·by_cases h2:j< k*sz u2
        ·rw [List.append_assoc,List.getElem?_append_left (by simp; omega),List.append_assoc,List.getElem?_append_left (by simp; omega),List.getElem?_take,if_pos h1,List.getElem?_take,if_pos h2,hcj j (by omega)]
        ·rw [List.append_assoc,List.getElem?_append_left (by simp; omega),List.append_assoc,List.getElem?_append_right (by simp; omega)]
         rw [List.length_take,Nat.min_eq_left (by omega),List.getElem?_append_left (by simp; omega),List.append_assoc,List.getElem?_append_left (by simp; omega),List.getElem?_take,if_pos h1,List.getElem?_take,if_pos (by omega), ←hr2 _ (by omega),hcj j (by omega)]
         congr 1; omega
       ·by_cases h2:j< k*sz u2+off+ms.length
        ·rw [List.getElem?_append_left (by simp; omega),List.getElem?_append_right (by simp; omega),List.append_assoc,List.getElem?_append_right (by simp; omega)]
         rw [List.length_take,List.length_take,Array.length_toList,Nat.min_eq_left (by omega),Nat.min_eq_left (by omega),List.getElem?_append_left (by simp; omega),List.getElem?_append_left (by simp; omega),List.getElem?_append_right (by simp; omega)]
         rw [List.length_take,Nat.min_eq_left (by omega)]
         congr 1; omega
        ·rw [List.getElem?_append_right (by simp; omega)]
         have el:(c.toList.take (k*sz u2+off)++ms).length=k*sz u2+off+ms.length:=by simp; omega
         rw [el,List.getElem?_drop];by_cases h3:j< k*sz u2+sz u2
         ·rw [List.append_assoc,List.getElem?_append_right (by simp; omega),List.length_take,Nat.min_eq_left (by omega),List.getElem?_append_left (by simp; omega),List.getElem?_append_right (by simp; omega)]
          have el2:(row.take off++ms).length=off+ms.length:=by simp; omega
          rw [el2,List.getElem?_drop,hcj _ (by omega), ←hr2 _ (by omega)]
          congr 1; omega
         ·rw [List.getElem?_append_right (by simp; omega)]
          have el2:(rows.take (k*sz u2)++(row.take off++ms++row.drop (off+ms.length))).length=k*sz u2+sz u2:=by simp; omega
          rw [el2,List.getElem?_drop,hcj _ (by omega)]
          congr 1; omega
     have h9: ∀o∈ns,o< 9000000∧o≠b:=fun o ho=>by
      have:=List.all_eq_true.1 hall9 o ho;simpa using this
     have hnsr: ∀o∈ns, ∃e0 t0 ys,look σ.H o=some (.row e0 t0 ys):=Qll hgat
     have hapart: ∀g2,g2∈ns.flatMap (blk1 β)→g2≠g∧g2∉bits cap:=by
      intro g2 h2;obtain ⟨o,ho,c2,hc2⟩:=Qfk.1 h2;obtain ⟨e0,t0,ys,hk2⟩:=hnsr o ho;refine ⟨fun e2=>?_,fun e2=>?_⟩
      ·subst e2;exact (h9 o ho).2 (hrep.inj o b _ _ g2 c2 cap hk2 rfl hb rfl hc2 hg1)
      ·exact (h9 o ho).2 (hrep.one o b _ _ _ _ g2 hk2 rfl hb rfl hc2 hg1 Ql (.inr ⟨rfl,e2⟩))
     have hother: ∀g2,g2∈bits cap→g2≠g:=fun g2 h2 e2=>hnb (e2▸h2)
     obtain ⟨code,hcode,hbits⟩:=Qfp hmx (bits cap++ns.flatMap (blk1 β));refine Qey hrun (hg _ h3 (Qgl ..) _ _ ⟨β.put b (some (g,code)),?_⟩);refine RepB.sets ?_ hd Qjd;refine hrep.give hb hg1 hse (Quh e) hb9 (fun o ho=>(h9 o ho).1) (fun o ho=>⟨(h9 o ho).2,hnsr o ho⟩) (by simp) hcode (fun g2=>by rw [hbits,List.mem_append]) (Qej hrep.below hh (by simp; omega) (fun i hi=>absurd (hmay i) hi)) (by simp) (fun b' hb'=>setRow_other w g b' _ hb') ?_
     intro S' hm
     have hneq: ∀g2,g2∈A'++ns.flatMap (blk1 β)++C'→g2≠g:=by
      intro g2 h2;simp only [List.mem_append] at h2;rcases h2 with (h | h) | h
      ·exact hother g2 (hsub g2 (by simp [h]))
      ·exact (hapart g2 h).1
      ·exact hother g2 (hsub g2 (by simp [h]))
     have hD2:=hset (w.setRow g (c.toList.take (k*sz u2+off)++ms++c.toList.drop (k*sz u2+off+ms.length)).toArray) x3 _ _ (fun g2 hg2=>setRow_other w g g2 _ (hother g2 (hsub g2 (by
      rcases List.mem_append.1 hg2 with h | h
      ·simp [h]
      ·simp [h])))) (QcZ (fun g2 hg2=>setRow_other w g g2 _ (hneq g2 hg2)) hur)
     have hin: ∀g2,g2∈A++(A'++ns.flatMap (blk1 β)++C')++C→g2∈bits code:=by
      intro g2 hg2;rw [hbits,List.mem_append];simp only [List.mem_append] at hg2;rcases hg2 with (h | (h | h) | h) | h
      ·exact .inl (hsub g2 (by simp [h]))
      ·exact .inl (hsub g2 (by simp [h]))
      ·exact .inr h
      ·exact .inl (hsub g2 (by simp [h]))
      ·exact .inl (hsub g2 (by simp [h]))
     refine QbK hse <| .inr ⟨g,code,_,_,rfl,setRow_heap w g c _ _ (0,0) hh,?_,?_,?_,Qfe (fun g2 hg2=> .inr (hin g2 hg2)) hD2,?_,.inl hdp,?_,fun _=>⟨_,hD2,?_,hin⟩⟩
     ·rw [hcode];simp only [List.size_toArray,List.length_append,List.length_take,List.length_drop,Array.length_toList];rw [←hs]; omega
     ·rw [hcode]; simpa using hl
     ·rw [hcode]; exact hmx
     ·intro j hj;simp only [List.getElem?_toArray];exact hcells j hj
     ·rw [hbits,List.mem_append];rintro (h | h)
      ·exact hnb h
      ·exact (hapart g h).1 rfl
     ·have hp:(A++(A'++ns.flatMap (blk1 β)++C')++C).Perm (ns.flatMap (blk1 β)++(A++(A'++C')++C)):=by
       have h1:(A'++ns.flatMap (blk1 β)++C').Perm (ns.flatMap (blk1 β)++(A'++C')):=by
        rw [←List.append_assoc];exact List.perm_append_comm.append_right C'
       refine ((h1.append_left A).append_right C).trans ?_;simp only [List.append_assoc];exact List.perm_append_comm_assoc _ _ _
      refine hp.nodup_iff.2 (List.nodup_append.2 ⟨QgK (L:=ns) (fun o o' g2 c1 c2 ho ho' hc1 hc2=>?_) (fun o ho=>ho) (Qan hnn),hnd.sublist ?_,?_⟩)
      ·obtain ⟨_,_,_,k1⟩:=hnsr o ho;obtain ⟨_,_,_,k2⟩:=hnsr o' ho';exact hrep.inj o o' _ _ g2 c1 c2 k1 rfl k2 rfl hc1 hc2
      ·refine List.Sublist.append (List.Sublist.append (List.Sublist.refl _) ?_) (List.Sublist.refl _);exact List.Sublist.append (List.sublist_append_left A' B') (List.Sublist.refl _)
      ·intro g2 h2 g3 h3 e3;subst e3;refine (hapart g2 h2).2 (hsub g2 ?_);simp only [List.mem_append] at h3⊢;rcases h3 with (h | h | h) | h <;> simp [h]
    ·cases h
  ·cases h
 ·cases h
end ops
end
section
open Go Go.RowKit
section ops
variable {P:Program} {T:Tab} {G:Env} {Z:Nat→Prop} {M:Nat→Nat→Prop} {N:Nat→Option (Option (Nat×Nat))} {w0 w w':World} {β:Qr} {σ:St} {a:Act} {o:Oper} {next:Act→World→Prop} {Q:Exit→Act→World→Prop} {v:Value}
variable {R:Type} {K:St→Option R} {y:R} {S:Nat→Prop} {H:Heap} {qo:Out}
theorem Qlh {a b:ByteArray} (h:a.data.toList=b.data.toList):a=b:=by
 cases a; cases b; congr; exact Array.toList_inj.1 h
theorem Qor (hrep:RepB Z M N w0 β σ a w) (hd:QM o.dst σ.nt=true) (hg:GoP Z M N w0 σ o qo next) {x:Operand} (ho:o.op= .nilCheck x)
  (h:QL T o σ=some qo):o.wp P a w next Q:=by
 unfold QL Qaj at h;rw [ho] at h;simp only at h
 have run: ∀q,a.eval x= .pointer (some q)→(execOp a.eval o).run P w= .ok (.value (a.eval x)) w:=by
  intro q he;unfold execOp;rw [ho];simp [he]
 split at h
 ·rename_i b off hx;have hv:=Qh hrep hx;have h1:=(VV_s (by intros; simp)).1 hv
  split at h
  ·rename_i hb;simp only [VS,hb] at h1;obtain ⟨g,cap,_,e⟩:=h1;obtain rfl:=Qo h;exact QD (run _ e) (hg _ _ ⟨β,hrep.val hd hv⟩)
  ·cases h
 ·rename_i u z hx;have hv:=Qh hrep hx;obtain ⟨b,off,e,_⟩:=(QqF hv).any;obtain rfl:=Qo h;exact QD (run _ e) (hg _ _ ⟨β,hrep.val hd hv⟩)
 ·rename_i b i off hx;have hv:=Qh hrep hx;have h1:=(VV_s (by intros; simp)).1 hv
  split at h
  ·rename_i hb;simp only [VS,hb] at h1;obtain ⟨_,g,cap,_,e⟩:=h1;obtain rfl:=Qo h;exact QD (run _ e) (hg _ _ ⟨β,hrep.val hd hv⟩)
  ·cases h
 ·cases h
theorem Qcl {α:Type} {p:Prop} [Decidable p] {x:Option α} {y:α} (h:(if p then x else none)=some y):p∧x=some y:=by
 split at h
 ·rename_i hp; exact ⟨hp,h⟩
 ·cases h
theorem QrH {op:BinOp} {k:IntKind} {x z:Int} {r:S1} (h:bin op k x z=some r) (hns:QeM op=false) (t:TypeId):
  ∃u,(binOp op t (.int k x) (.int k z)).run P w= .ok u w∧VS w S β H r u:=by
 cases op <;> simp only [bin,QeM,reduceCtorEq,Qax,Qal] at h hns <;> first
  | (cases h; done)
  | (obtain rfl:=Osj h; refine ⟨_,by simp [binOp,Op.intArith,Op.intBits,Op.intCmp]; rfl,⟨rfl,?_⟩⟩; simp [Rp])
  | skip
 all_goals
  split at h
  ·cases h
  ·rename_i hz;obtain rfl:=Osj h;exact ⟨_,by simp [binOp,Op.intDiv,hz] <;> rfl,⟨rfl,rfl⟩⟩
theorem QsO {op:BinOp} {k l:IntKind} {x z:Int} {r:S1} (h:shf op k x z=some r) (t:TypeId):
  ∃u,(binOp op t (.int k x) (.int l z)).run P w= .ok u w∧VS w S β H r u:=by
 unfold shf at h;split at h
 ·cases h
 ·rename_i hz
  cases op <;> simp only [reduceCtorEq] at h <;> first
   | (cases h; done)
   | (obtain rfl:=Osj h; exact ⟨_,by simp [binOp,Op.shift,hz] <;> rfl,⟨rfl,rfl⟩⟩)
theorem QhQ {R:Type} {t:TypeId} {op:BinOp} {x z:SV} {K:S1→Option R}:binC T t op x z K=(bin2 T t op x z).bind K:=by
 unfold binC;split <;> (try rfl)
 ·simp only [bin2,QeM,bin,Bool.false_eq_true,if_false];split
  ·split <;> rfl
  ·rfl
 ·simp only [bin2,QeM,bin,Bool.false_eq_true,if_false];split
  ·split <;> rfl
  ·rfl
 ·simp only [bin2,QeM,shf,if_true];split <;> rfl
 ·simp only [bin2,QeM,shf,if_true];split <;> rfl
 ·simp only [bin2];split <;> rfl
theorem Qli {t:Ty} {c:S1} {x:den t} (h:Qad false [] t c=some x):Qad false H t c=some x:=by
 cases c <;> first | exact h | (simp [Qad,look] at h; done)
theorem Qvq: ∀{t:Ty} {cs:List S1} {x:den t} {r:List S1},gat false [] t cs=some (x,r)→gat false H t cs=some (x,r):=by
 intro t
 induction t with
 | unit=>intro cs x r h; exact h
 | pair p q ihp ihq=>
  intro cs x r h;simp only [gat] at h⊢;split at h
  ·rename_i x1 r1 h1;split at h
   ·rename_i y1 r2 h2;rw [ihp h1];simp only;rw [ihq h2];exact h
   ·cases h
  ·cases h
 | _=>
  intro cs x r h;cases cs with
  | nil=>simp [gat] at h
  | cons c cs=>
   simp only [gat] at h⊢;split at h
   ·rename_i y hy;rw [Qli hy];exact h
   ·cases h
theorem Qrv {t:Ty} {x:SV} {y:den t} (h:toD false [] t x=some y):toD false H t x=some y:=by
 cases x with
 | s c=>exact Qli h
 | g cs=>
  simp only [toD] at h⊢;split at h
  ·rename_i ha;rw [if_pos ha];split at h
   ·rename_i z hz;rw [Qvq hz];exact h
   ·cases h
  ·cases h
theorem Qov (hT:QR P T=true) {u:TypeId} {q:Row} (hq:look T u=some q) (ha:isAg q.ty=false) {xs:Array Value} {off:Nat} {v:Value} (hv:xs[off]?=some v):(part u xs off).run P w= .ok v w:=by
 obtain ⟨i,d,z,hrow⟩:=QA hT hq;simp [part,hrow.run_isAgg,ha,hv]
theorem Qhl (hT : QR P T = true) {dep : Nat} : ∀ (fs : List Field) (k : Nat) (ty : Ty) (x y : den ty) (p1 p2 c1 c2 : List Value), Qlp T k ty (fs.map fun f => (f.offset, f.type)) = true → (∀ f ∈ fs, f.name ≠ "_") →
  Rp w S ty x c1→Rp w S ty y c2→p1.length=k→p2.length=k→(Op.eqFields (dep+1) (p1++c1).toArray (p2++c2).toArray fs).run P w= .ok (eqD ty x y) w
 | [],k,ty,x,y,p1,p2,c1,c2,h,_,_,_,_,_=>by
  cases ty <;> first | (simp [Qlp] at h; done) | skip
  simp [Op.eqFields,eqD]
 | f::fs,k,ty,x,y,p1,p2,c1,c2,h,hn,h1,h2,hp1,hp2=>by
  cases ty <;> first | (simp [Qlp] at h; done) | skip
  rename_i a b;simp only [List.map_cons,Qlp,Bool.and_eq_true,decide_eq_true_eq] at h;obtain ⟨⟨⟨hoff,hlk⟩,hprim⟩,hrest⟩:=h;split at hlk
  ·rename_i q hq;have hqa:q.ty=a:=by simpa using hlk
   obtain ⟨a1,b1,rfl,ha1,hb1⟩:=h1;obtain ⟨a2,b2,rfl,ha2,hb2⟩:=h2
   have hnm : f.name ≠ "_" := hn f (by simp)
   obtain ⟨i,d,z,hrow⟩:=QA hT hq;have hd:=hrow.desc;unfold QaS at hd
   have go: ∀(v1 v2:Value) (r:Bool),isAg q.ty=false→a1=[v1]→a2=[v2]→(Op.equalIn (dep+1) f.type v1 v2).run P w= .ok r w→r=eqD a x.1 y.1→
     (Op.eqFields (dep+1) (p1++(a1++b1)).toArray (p2++(a2++b2)).toArray (f::fs)).run P w= .ok (eqD (.pair a b) x y) w:=by
    intro v1 v2 r hag e1 e2 hr her;subst e1; subst e2;have g1:(part f.type (p1++([v1]++b1)).toArray f.offset).run P w= .ok v1 w:=Qov hT hq hag (by simp [hoff, ←hp1])
    have g2:(part f.type (p2++([v2]++b2)).toArray f.offset).run P w= .ok v2 w:=Qov hT hq hag (by simp [hoff, ←hp2])
    have ih:=Qhl hT (dep:=dep) fs (k+1) b x.2 y.2 (p1++[v1]) (p2++[v2]) b1 b2 hrest (fun f hf=>hn f (by simp [hf])) hb1 hb2 (by simp [hp1]) (by simp [hp2])
    rw [List.append_assoc,List.append_assoc] at ih;simp only [Op.eqFields,if_pos hnm,Sem.run_bind,g1,Result.andThen_ok,g2,hr];cases r with
    | false=>simp [eqD, ←her]
    | true=>
     simp only [Bool.not_true,Bool.false_eq_true,if_false];rw [ih];simp [eqD, ←her]
   cases a <;> first | (simp at hprim; done) | skip
   ·rename_i kk;simp only [Rp] at ha1 ha2;rw [hqa] at hd;cases d <;> first | (simp at hd; done) | skip
    exact go _ _ _ (by rw [hqa]; rfl) ha1 ha2 (run_equalIn_int w dep f.type kk _ _ _ hrow.under) rfl
   ·simp only [Rp] at ha1 ha2;rw [hqa] at hd;cases d <;> first | (simp at hd; done) | skip
    exact go _ _ _ (by rw [hqa]; rfl) ha1 ha2 (run_equalIn_bool w dep f.type _ _ hrow.under) rfl
   ·simp only [Rp] at ha1 ha2;rw [hqa] at hd;cases d <;> first | (simp at hd; done) | skip
    exact go _ _ _ (by rw [hqa]; rfl) ha1 ha2 (run_equalIn_string w dep f.type _ _ hrow.under) (by simp [eqD,ByteArray.toList_eq])
  ·cases hlk
theorem QrR (hT:QR P T=true) (hO:Owns w (RO Z β H) β H) {t:TypeId} {op:BinOp} {va vb:SV} {u1 u2:Value} {r:S1} (h1:VV w (RO Z β H) β H va u1) (h2:VV w (RO Z β H) β H vb u2) (h:eqA T t op va vb=some r) (x z:Operand):
  ∃u,(do eqGuard op t x z u1 u2; binOp op t u1 u2:Sem Value).run P w= .ok u w∧VS w (RO Z β H) β H r u:=by
 unfold eqA at h;split at h
 ·rename_i q hq;split at h
  ·rename_i hag;split at h
   ·rename_i x1 y1 hx hy;obtain ⟨i,d,z0,hrow⟩:=QA hT hq;have he:=hrow.eqs;unfold eqOk at he;rw [hag] at he;simp only [Bool.and_eq_true,Bool.not_eq_true'] at he;obtain ⟨⟨⟨e1,e2⟩,e3⟩,e4⟩:=he;have ha:isAg q.ty=true:=by simp only [Bool.and_eq_true] at hag; exact hag.1
    obtain ⟨fs,rfl,hfs⟩:=hrow.fields ha;obtain ⟨c1,hv1,hr1⟩:=Qbp (own:=false) (S':=RO Z β H) hO (fun _ _ _ h=>h) (by simp) h1 (Qrv hx)
    obtain ⟨c2,hv2,hr2⟩:=Qbp (own:=false) (S':=RO Z β H) hO (fun _ _ _ h=>h) (by simp) h2 (Qrv hy)
    simp only [Val,ha,if_true] at hv1 hv2;subst hv1; subst hv2;have hfo:P.fieldsOf t=fs:=by simp [Program.fieldsOf,hrow.under]
    have hrun:(Op.equalIn 10000 t (.agg c1.toArray) (.agg c2.toArray)).run P w= .ok (eqD q.ty x1 y1) w:=by
     rw [show (10000:Nat)=(9998+1)+1 from rfl,run_equalIn_struct w (9998+1) t _ _ (by rw [hrow.under,hfo]) e1,hfo]
     have:=Qhl (w:=w) (S:=RO Z β H) hT (dep:=9998) fs.toList 0 q.ty x1 y1 [] [] c1 c2 (by rw [hfs]; exact e3) (fun f hf=>by
      have:=List.all_eq_true.1 e4 f hf;simpa using this) hr1 hr2 rfl rfl
     simpa using this
    split at h
    ·obtain rfl:=Osj h;refine ⟨.bool (eqD q.ty x1 y1),?_,rfl,rfl⟩;simp only [Sem.run_bind,run_eqGuard_agg w .eql t x z _ _ e2,Result.andThen_ok,run_eql_struct,hrun]
    ·obtain rfl:=Osj h;refine ⟨.bool (!eqD q.ty x1 y1),?_,rfl,rfl⟩;simp only [Sem.run_bind,run_eqGuard_agg w .neq t x z _ _ e2,Result.andThen_ok,run_neq_struct,hrun]
    ·cases h
   ·cases h
  ·cases h
 ·cases h
theorem Qut (hrep:RepB Z M N w0 β σ a w) (hd:QM o.dst σ.nt=true) (hg:GoP Z M N w0 σ o qo next) {op:BinOp} {t t':TypeId} {x z:Operand} (ho:o.op= .binOp op t x z t')
  (hT:QR P T=true) (h:QL T o σ=some qo):o.wp P a w next Q:=by
 unfold QL Qaj at h;rw [ho] at h;simp only at h;split at h
 ·rename_i va vb hx hz;rw [QhQ] at h;obtain ⟨r,hr,h⟩:=Obs h;have hvx:=Qh hrep hx;have hvz:=Qh hrep hz
  have fin: ∀u,(do eqGuard op t x z (a.eval x) (a.eval z); binOp op t (a.eval x) (a.eval z):Sem Value).run P w= .ok u w→VS w (RO Z β σ.H) β σ.H r u→o.wp P a w next Q:=by
   intro u hu hv;obtain rfl:=Qo h;refine QD (v:=u) (w':=w) ?_ (hg _ _ ⟨β,hrep.val hd (Qbj hv)⟩);unfold execOp;rw [ho];rw [Sem.run_bind,hu];rfl
  unfold bin2 at hr;split at hr
  ·rename_i k x1 l z1;have e1:=Qbr hvx;have e2:=Qbr hvz;rw [e1,e2] at fin;split at hr
   ·obtain ⟨u,hu,hv⟩:=QsO (P:=P) (w:=w) (l:=l) hr t;exact fin u (by simp [eqGuard_at_int,hu]) hv
   ·split at hr
    ·rename_i hs hk;subst hk;obtain ⟨u,hu,hv⟩:=QrH (P:=P) (w:=w) hr (by simpa using hs) t
     exact fin u (by simp [eqGuard_at_int,hu]) hv
    ·cases hr
  ·rename_i x1 z1;have e1:=Qje hvx;have e2:=Qje hvz;rw [e1,e2] at fin;split at hr
   ·split at hr
    ·rename_i hle;obtain rfl:=Osj hr;refine fin (.string ⟨(x1++z1:List UInt8).toArray⟩) ?_ ⟨rfl,rfl⟩;have h1:=run_string_add_sum (P:=P) (w:=w) ⟨(x1:List UInt8).toArray⟩ ⟨(z1:List UInt8).toArray⟩ (by simpa [ByteArray.size] using hle)
     rw [eqGuard_at_string,binOp_string_add];simp only [pure_bind];rw [h1];congr 2
     first | done | (apply Qlh; simp)
    ·cases hr
   ·obtain rfl:=Osj hr;refine fin (.bool ((x1:List UInt8)==z1)) ?_ ⟨rfl,rfl⟩;rw [eqGuard_at_string,binOp_string_eql];simp [ByteArray.toList_eq]
   ·obtain rfl:=Osj hr;refine fin (.bool (!((x1:List UInt8)==z1))) ?_ ⟨rfl,rfl⟩;rw [eqGuard_at_string,binOp_string_neq];simp [ByteArray.toList_eq]
   ·cases hr
  ·rename_i x1 z1;have e1:=QdO hvx;have e2:=QdO hvz;rw [e1,e2] at fin;split at hr
   ·cases hr
   ·rename_i q hq;split at hr
    ·rename_i hty;obtain ⟨i,d,zz,hrow⟩:=QA hT hq;have hdd:=hrow.desc;unfold QaS at hdd;rw [hty] at hdd;cases d <;> first | (simp at hdd; done) | skip
     split at hr
     ·obtain rfl:=Osj hr;refine fin (.bool (x1==z1)) ?_ ⟨rfl,rfl⟩;rw [eqGuard_at_bool];simp only [pure_bind];exact run_eql_bool w t x1 z1 hrow.under
     ·obtain rfl:=Osj hr;refine fin (.bool (!(x1==z1))) ?_ ⟨rfl,rfl⟩;rw [eqGuard_at_bool];simp only [pure_bind];exact run_neq_bool w t x1 z1 hrow.under
     ·cases hr
    ·cases hr
  ·obtain ⟨u,hu,hv⟩:=QrR hT hrep.owns hvx hvz hr x z;exact fin u hu hv
 ·cases h
theorem QvI (hrep:RepB Z M N w0 β σ a w) (hd:QM o.dst σ.nt=true) (hg:GoP Z M N w0 σ o qo next) {op:UnOp} {t:TypeId} {x:Operand} (ho:o.op= .unOp op t x)
  (h:QL T o σ=some qo):o.wp P a w next Q:=by
 unfold QL Qaj at h;rw [ho] at h;simp only at h;split at h
 ·rename_i b hx;have e:=QdO (Qh hrep hx);obtain rfl:=Qo h;refine QD (v:= .bool (!b)) (w':=w) ?_ (hg _ _ ⟨β,hrep.val hd (Qbj ⟨rfl,rfl⟩)⟩);unfold execOp;rw [ho];simp [Op.unary,e]
 ·rename_i k n hx;have e:=Qbr (Qh hrep hx);obtain rfl:=Qo h;refine QD (v:= .int k (k.wrap (0-n))) (w':=w) ?_ (hg _ _ ⟨β,hrep.val hd (Qbj ⟨rfl,rfl⟩)⟩);unfold execOp;rw [ho];simp [Op.unary,e,Op.intArith]
 ·cases h
theorem QpQ (hT:QR P T=true) (hrep:RepB Z M N w0 β σ a w) (hd:QM o.dst σ.nt=true) (hg:GoP Z M N w0 σ o qo next) {t u:TypeId} {x:Operand} (ho:o.op= .convert t u x)
  (h:QL T o σ=some qo):o.wp P a w next Q:=by
 unfold QL Qaj at h;rw [ho] at h;simp only at h;split at h
 ·rename_i r1 r k n hr1 hr hx;obtain ⟨i1,d1,z1,hrow1⟩:=QA hT hr1;obtain ⟨i,d,z,hrow⟩:=QA hT hr;split at h
  ·rename_i l hty;have hdd:=hrow.desc;unfold QaS at hdd;rw [hty] at hdd;cases d <;> first | (simp at hdd; done) | skip
   rename_i l';obtain rfl:l=l':=by simpa using hdd
   have e:=Qbr (Qh hrep hx);obtain rfl:=Qo h;refine QD (v:= .int l (l.wrap n)) (w':=w) ?_ (hg _ _ ⟨β,hrep.val hd (Qbj ⟨rfl,rfl⟩)⟩);unfold execOp;rw [ho];simp [convert,e,run_underlying hrow1.under,run_underlying hrow.under,Conv.intToInt]
  ·cases h
 ·cases h
theorem Qkg {t:TypeId} {r:Row} {i:TypeInfo} {d:TypeDesc} {z:Value} (hrow:RowOk P T t r i d z) (f:Field) (hf:f.type=t) (hs:0< sz r.ty) (b off:Nat):
  (fieldPlace ⟨b,off,none⟩ f).run P w= .ok ⟨b,off+f.offset,none⟩ w:=by
 subst hf;have:sz r.ty≠0:=by omega
 simp [fieldPlace,hrow.run_size,this,Qdp]
theorem Qju {fs:Array Field} {l:List (Nat×TypeId)} (h:fs.toList.map (fun f=>(f.offset,f.type))=l) {k off:Nat} {u:TypeId} (hl:l[k]?=some (off,u)):
  ∃f,fs[k]?=some f∧f.offset=off∧f.type=u:=by
 subst h;rw [List.getElem?_map] at hl;obtain ⟨f,hf,e⟩:=Option.map_eq_some_iff.1 hl;simp only [Pmi] at e;exact ⟨f,by simpa using hf,e.1,e.2⟩
theorem QmY (hT:QR P T=true) (hrep:RepB Z M N w0 β σ a w) (hd:QM o.dst σ.nt=true) (hg:GoP Z M N w0 σ o qo next) {t:TypeId} {x:Operand} {k:Nat} (ho:o.op= .fieldAddr t x k)
  (h:QL T o σ=some qo):o.wp P a w next Q:=by
 unfold QL Qaj at h;rw [ho] at h;simp only at h;split at h
 ·rename_i r hr;obtain ⟨i,d,z,hrow⟩:=QA hT hr;split at h
  ·cases h
  ·rename_i hag;obtain ⟨fs,rfl,hfs⟩:=hrow.fields (by simpa using hag)
   split at h
   ·rename_i off u hf;obtain ⟨f,hf1,hf2,hf3⟩:=Qju hfs hf;split at h
    ·rename_i q hq;obtain ⟨i2,d2,z2,hrow2⟩:=QA hT hq;split at h
     ·cases h
     ·rename_i hs
      have run: ∀b off',a.eval x= .pointer (some ⟨b,off',none⟩)→(execOp a.eval o).run P w= .ok (.value (.pointer (some ⟨b,off'+off,none⟩))) w:=by
       intro b off' he;have:=Qkg (w:=w) hrow2 f hf3 (by omega) b off'
       unfold execOp;rw [ho];simp [Instr.fieldAt,run_underlying hrow.under,hf1,he,Instr.sureAddr,this,hf2]
      split at h
      ·rename_i b k2 hx;have h1:=(VV_s (by intros; simp)).1 (Qh hrep hx)
       split at h
       ·rename_i hb;simp only [VS,hb] at h1;obtain ⟨g,cap,hg1,e⟩:=h1;obtain rfl:=Qo h;refine QD (run _ _ e) (hg _ _ ⟨β,hrep.val hd (Qbj ?_)⟩);simp only [VS,hb];exact ⟨g,cap,hg1,by rw [Nat.add_assoc]⟩
       ·cases h
      ·rename_i b i2 k2 hx;have h1:=(VV_s (by intros; simp)).1 (Qh hrep hx)
       split at h
       ·rename_i hb;simp only [VS,hb] at h1;obtain ⟨hi,g,cap,hg1,e⟩:=h1;obtain rfl:=Qo h;refine QD (run _ _ e) (hg _ _ ⟨β,hrep.val hd (Qbj ?_)⟩);simp only [VS,hb];exact ⟨hi,g,cap,hg1,by rw [Nat.add_assoc]⟩
       ·cases h
      ·rename_i b i2 k2 hx;have h1:=(VV_s (by intros; simp)).1 (Qh hrep hx)
       split at h
       ·rename_i hb;obtain ⟨hdp,h⟩:=Qcl h;simp only [VS,hb] at h1;obtain ⟨hi,g,cap,hg1,e⟩:=h1.2 hdp;obtain rfl:=Qo h;refine QD (run _ _ e) (hg _ _ ⟨β,hrep.val hd (Qbj ?_)⟩);simp only [VS,hb];exact ⟨rfl,fun _=>⟨hi,g,cap,hg1,by rw [Nat.add_assoc]⟩⟩
       ·cases h
      ·rename_i v0 y0 hx;obtain ⟨hmk,h⟩:=Qcl h;obtain ⟨y1,hy1,h⟩:=Obs h;obtain ⟨b,off',cs,e,hS,hr1,c,e',fz,hh,hi⟩:=(QqF (Qh hrep hx)).un hmk.1;obtain ⟨p,m,q',rfl,hp,hm⟩:=Qce hy1 hr1;obtain rfl:=Qo h;refine QD (run _ _ e) (hg _ _ ⟨β,hrep.val hd (Qbj ?_)⟩);refine .mk hmk.2 ⟨b,off'+off,m,rfl,hS,hm,c,e',fz,hh,fun j hj=>?_⟩
       rw [Nat.add_assoc,hi _ (by simp; omega),List.append_assoc,List.getElem?_append_right (by omega),hp,Nat.add_sub_cancel_left,List.getElem?_append_left hj]
      ·cases h
    ·cases h
   ·cases h
 ·cases h
theorem QpR (hrep:RepB Z M N w0 β σ a w) (hd:QM o.dst σ.nt=true) (hg:GoP Z M N w0 σ o qo next) {x:Operand} {k:Nat} (ho:o.op= .extract x k)
  (h:QL T o σ=some qo):o.wp P a w next Q:=by
 unfold QL Qaj at h;rw [ho] at h;simp only at h;split at h
 ·rename_i t;split at h
  ·rename_i xs hx;split at h
   ·rename_i u hu;obtain ⟨_,vs,e,hall⟩:=hrep.env t _ hx;obtain ⟨v',hv',hvv⟩:=hall.get hu;obtain rfl:=Qo h;refine QD (v:=v') (w':=w) ?_ (hg _ _ ⟨β,hrep.val hd hvv⟩);unfold execOp;rw [ho];have e':a.eval (.tmp t)= .tuple vs.toArray:=e;simp [Instr.extract,e',hv']
   ·cases h
  ·cases h
 ·cases h
end ops
end
section
open Go Go.RowKit
section ops
variable {P:Program} {T:Tab} {G:Env} {Z:Nat→Prop} {M:Nat→Nat→Prop} {N:Nat→Option (Option (Nat×Nat))} {w0 w w':World} {β:Qr} {σ:St} {a:Act} {o:Oper} {next:Act→World→Prop} {Q:Exit→Act→World→Prop} {v:Value}
variable {R:Type} {K:St→Option R} {y:R} {S:Nat→Prop} {H:Heap} {qo:Out}
theorem Quv (hT:QR P T=true) (hrep:RepB Z M N w0 β σ a w) (hd:QM o.dst σ.nt=true) (hg:GoP Z M N w0 σ o qo next) {t:TypeId} {x:Operand} {k:Nat} (ho:o.op= .field t x k)
  (h:QL T o σ=some qo):o.wp P a w next Q:=by
 unfold QL Qaj at h;rw [ho] at h;simp only at h;split at h
 ·rename_i r hr;obtain ⟨i,d,z,hrow⟩:=QA hT hr;split at h
  ·cases h
  ·rename_i hag;obtain ⟨fs,rfl,hfs⟩:=hrow.fields (by simpa using hag)
   split at h
   ·rename_i off u hf;obtain ⟨f,hf1,hf2,hf3⟩:=Qju hfs hf
    have run: ∀(q:Row) (cs:List Value),look T u=some q→a.eval x= .agg cs.toArray→ ∀m:List Value,m.length=sz q.ty→off+m.length≤cs.length→(∀j,j< m.length→cs[off+j]?=m[j]?)→
      (execOp a.eval o).run P w= .ok (.value (if isAg q.ty then .agg m.toArray else m.headD undef)) w:=by
     intro q cs hq he m hm hle hj;obtain ⟨i2,d2,z2,hrow2⟩:=QA hT hq
     have hext:(cs.drop off).take m.length=m:=by
      apply List.ext_getElem?;intro j;rw [List.getElem?_take];by_cases hjl:j< m.length
      ·rw [if_pos hjl,List.getElem?_drop]; exact hj j hjl
      ·rw [if_neg hjl,List.getElem?_eq_none (by omega)]
     unfold execOp;rw [ho];subst hf2 hf3;by_cases ha2:isAg q.ty=true
     ·simp [Instr.field,run_underlying hrow.under,hf1,he,asAgg,part,hrow2.run_isAgg,hrow2.run_size,ha2, ←hm,hext]
     ·simp only [Bool.not_eq_true] at ha2;have h1:=Qkv ha2
      match m,hm,hj with
      | [],hm,_=>simp [h1] at hm
      | m0::ms,hm,hj=>
       have:=hj 0 (by simp)
       simp only [Nat.add_zero,List.getElem?_cons_zero] at this;simp [Instr.field,run_underlying hrow.under,hf1,he,asAgg,part,hrow2.run_isAgg,ha2,this]
    split at h
    ·rename_i q cs hq hx;split at h
     ·rename_i hle;obtain ⟨vs,e,hall⟩:=Qh hrep hx;have hl:=hall.len
      have hrun:=run q vs hq e ((vs.drop off).take (sz q.ty)) (by rw [List.length_take,List.length_drop]; omega) (by rw [List.length_take,List.length_drop]; omega) (fun j hj=>by
       rw [List.length_take,List.length_drop] at hj;rw [List.getElem?_take,if_pos (by omega),List.getElem?_drop])
      split at h
      ·rename_i ha;obtain rfl:=Qo h;rw [if_pos ha] at hrun;exact QD hrun (hg _ _ ⟨β,hrep.val hd ⟨_,rfl,(hall.drop off).take _⟩⟩)
      ·rename_i ha;rw [if_neg ha] at hrun;split at h
       ·rename_i c1 hc1;obtain rfl:=Qo h;obtain ⟨v',hv',hvs⟩:=hall.get hc1;have h1:=Qkv (by simpa using ha)
        have hu':((vs.drop off).take (sz q.ty)).headD undef=v':=by
         rw [h1]
         have:vs.drop off=v'::vs.drop (off+1):=by
          obtain ⟨hlt,he⟩:=List.getElem?_eq_some_iff.1 hv';rw [List.drop_eq_getElem_cons hlt,he]
         rw [this]; rfl
        rw [hu'] at hrun;exact QD hrun (hg _ _ ⟨β,hrep.val hd (Qbj hvs)⟩)
       ·cases h
     ·cases h
    ·rename_i q u0 y0 hq hx;split at h
     ·rename_i ha0;obtain ⟨y1,hy1,h⟩:=Obs h;obtain rfl:=Qo h;obtain ⟨cs,hv,hr1⟩:=Qh hrep hx;have hv':a.eval x= .agg cs.toArray:=by simpa [Val,ha0] using hv
      obtain ⟨p,m,q',rfl,hp,hm⟩:=Qce hy1 hr1
      have hrun:=run q _ hq hv' m (Qu hm) (by simp; omega) (fun j hj=>by
       rw [List.append_assoc,List.getElem?_append_right (by omega),hp,Nat.add_sub_cancel_left,List.getElem?_append_left hj])
      exact QD hrun (hg _ _ ⟨β,hrep.val hd ⟨m,Qhf (Qu hm),hm⟩⟩)
     ·cases h
    ·cases h
   ·cases h
 ·cases h
theorem Qte {b i off:Nat} {e:TypeId} {u t1:Ty} {xs:List (den u)} {z:den u} {ys:List (den t1)} {v:Value} (hrep:RepB Z M N w0 β σ a w) (hb:look σ.H b=some (.row e u xs))
  (htok:VS w (RO Z β σ.H) β σ.H (.dp b i off .tok) v) (hl:lent e=true) (hdp:deep e=true) (hz:xs[i]?=some z) (hsub:sub u z off (.slice t1)=some ys):
  i< xs.length∧ ∃g cap c e' fz A k,β b=some (g,cap)∧w.heap[g]?=some (.cells c e' fz)∧c[i*sz u+off]?=some v∧v= .slice A ys.length k∧(ys≠[]→ ∃g2,A=some ⟨g2,0,none⟩):=by
 simp only [VS,hb] at htok;obtain ⟨hi,g,cap,hg,h2⟩:=htok.2 hdp;obtain ⟨c,e',fz,A0,n0,k0,hh0,hc0,hv⟩:=h2 hl;refine ⟨hi,?_⟩;rcases hrep.obj b _ hb with ⟨hq,_⟩ | ⟨g',cap',c',rows,hq,hh,hsz,hl,hmx,hrows,hcl,hcp,hnb,hdd⟩
 ·rw [hg] at hq; cases hq
 rw [hg] at hq;simp only [Oie,Pmi] at hq;obtain ⟨rfl,rfl⟩:=hq;rw [hh] at hh0;simp only [Oie,Obj.cells.injEq] at hh0;obtain ⟨rfl,rfl,rfl⟩:=hh0;obtain ⟨F0,hD1,hnd,hsub0⟩:=hdd hdp;obtain ⟨A,Fi,C,row,rfl,hdr,hr2,hle,hset⟩:=QhO hD1 hz;obtain ⟨A',Fj,C',p,m,q,rfl,rfl,hpl,hm,hset2⟩:=Qti hsub hdr;have hrl:=QbA hdr;have hml:m.length=1:=QbA hm;simp only [List.length_append] at hrl
 have hv0:m[0]?=some v:=by
  have h1:=hr2 off (by omega)
  rw [←hcl _ (by omega),hc0,List.append_assoc,List.getElem?_append_right (by omega),hpl,Nat.sub_self,List.getElem?_append_left (by omega)] at h1
  exact h1.symm
 rcases hm with ⟨h1,h2,h3⟩ | ⟨b2,cap2,c2,rows2,h1,_⟩
 ·subst h1; subst h2;simp only [List.getElem?_cons_zero,Oie] at hv0;exact ⟨g,cap,_,_,_,none,0,hg,hh,hc0,hv0.symm,fun h=>absurd rfl h⟩
 ·subst h1;simp only [List.getElem?_cons_zero,Oie] at hv0;exact ⟨g,cap,_,_,_,_,cap2,hg,hh,hc0,hv0.symm,fun _=>⟨b2,rfl⟩⟩
theorem QmZ (hT:QR P T=true) (hrep:RepB Z M N w0 β σ a w) (hd:QM o.dst σ.nt=true) (hg:GoP Z M N w0 σ o qo next) {t:TypeId} {x z:Operand} (ho:o.op= .indexAddr t x z)
  (h:QL T o σ=some qo):o.wp P a w next Q:=by
 unfold QL Qaj at h;rw [ho] at h;simp only [ite2] at h
 have run: ∀(r:Row) (u:Ty) A n cap k i,look T t=some r→r.ty= .slice u→a.eval x= .slice (some A) n cap→a.eval z= .int k i→0≤i→i< n→
   (execOp a.eval o).run P w= .ok (.value (.pointer (some (A.add (i.toNat*sz u))))) w:=by
  intro r u A n cap k i hr hu hx hz h0 hn;obtain ⟨i1,d,z1,hrow⟩:=QA hT hr;obtain ⟨rfl,q,hq,hqu,_⟩:=hrow.slice hu;obtain ⟨i2,d2,z2,hrow2⟩:=QA hT hq;subst hqu;unfold execOp;rw [ho];simp [Instr.indexAt,hx,hz,asIntOf,run_underlying hrow.under,hrow2.run_size,h0,hn]
 have data: ∀(r:Row) (u:Ty) (xs:List (den u)) k (i:Int) (x1:den u),look T t=some r→r.ty= .slice u→mark u=none→Rp w (RO Z β σ.H) (.slice u) xs [a.eval x]→a.eval z= .int k i→0≤i→xs[i.toNat]?=some x1→
   qo={ x:= .v (.s (.pd u x1)),n:=[],fr:=[] }→o.wp P a w next Q:=by
  intro r u xs k i x1 hr hu hmk hxs hz h0 hx1 hqo;subst hqo;obtain ⟨hlt,_⟩:=List.getElem?_eq_some_iff.1 hx1;obtain ⟨A,cap,e,hcap,hA⟩:=hxs;obtain ⟨b,off,rfl,hS,rows,hrows,c,e',fz,hh,hi⟩:=hA (by intro e; subst e; simp at hlt)
  have ex:a.eval x= .slice (some ⟨b,off,none⟩) xs.length cap:=by simpa using e
  have hrun:=run r u _ _ _ k i hr hu ex hz h0 (by omega)
  rw [Qdp] at hrun;obtain ⟨row,hr1,hr2⟩:=QeF (fun _ _=>Qu) hrows hx1
  have hrl:=Qu hr1;have hrowsl:=QaC (fun _ _=>Qu) hrows
  have hle:i.toNat*sz u+sz u≤rows.length:=by
   rw [hrowsl];have:(i.toNat+1)*sz u≤xs.length*sz u:=Nat.mul_le_mul_right _ hlt;rw [Nat.add_mul] at this; omega
  refine QD hrun (hg _ _ ⟨β,hrep.val hd (Qbj ?_)⟩);refine .mk hmk ⟨b,off+i.toNat*sz u,row,rfl,hS.2,hr1,c,e',fz,hh,fun j hj=>?_⟩
  rw [Nat.add_assoc,hi _ (by omega),hr2 j (by omega)]
 split at h
 ·rename_i r b k i hr hx hz;have hvx:=(VV_s (by intros; simp)).1 (Qh hrep hx)
  have hvz:=Qbr (Qh hrep hz);split at h
  ·rename_i e u xs hb;split at h
   ·rename_i hc;obtain ⟨hu,h0,hn⟩:=hc;obtain rfl:=Qo h;simp only [VS,hb,RowV] at hvx;split at hvx
    ·rename_i hq;have e0:xs.length=0:=hvx.2;rw [e0] at hn;exact absurd hn (Int.not_lt.2 h0)
    ·rename_i g cap hq;have hrun:=run r u _ _ _ k i hr hu hvx hvz h0 hn;rw [Qdp,Nat.zero_add] at hrun;refine QD hrun (hg _ _ ⟨β,hrep.val hd (Qbj ?_)⟩);by_cases hdp:deep e=true
     ·rw [if_pos hdp];simp only [VS,hb];exact ⟨rfl,fun _=>⟨(Int.toNat_lt h0).2 hn,g,cap,hq,by rw [Nat.add_zero]⟩⟩
     ·rw [if_neg hdp];simp only [VS,hb];exact ⟨⟨(Int.toNat_lt h0).2 hn,by simpa using hdp⟩,g,cap,hq,by rw [Nat.add_zero]⟩
   ·cases h
  ·rename_i u xs hb;split at h
   ·rename_i hc;obtain ⟨x1,hx1,h⟩:=Obs h;simp only [VS,hb] at hvx;exact data r u xs k i x1 hr hc.1.1 hc.1.2 hvx hvz hc.2 hx1 (Qo h)
   ·cases h
  ·cases h
 ·rename_i r b lo n k i hr hx hz;have hvx:=(VV_s (by intros; simp)).1 (Qh hrep hx)
  have hvz:=Qbr (Qh hrep hz);split at h
  ·rename_i e u xs hb;split at h
   ·rename_i hc;obtain ⟨⟨hu,hdp⟩,h0,hn⟩:=hc;obtain rfl:=Qo h;simp only [VS,hb] at hvx;obtain ⟨⟨_,h2⟩,_,h4⟩:=hvx;unfold VW at h4;split at h4
    ·obtain ⟨_,rfl,_⟩:=h4;exact absurd hn (Int.not_lt.2 h0)
    ·rename_i g cap hq;obtain ⟨A,e1,hA⟩:=h4;have key: ∀(i:Int) (n:Nat),0≤i→i< n→0< n∧i.toNat< n:=fun i n h1 h2=>by omega
     obtain ⟨hnp,hin⟩:=key i n h0 hn;rw [hA hnp] at e1;have hrun:=run r u _ _ _ k i hr hu e1 hvz h0 hn;rw [Qdp] at hrun;refine QD hrun (hg _ _ ⟨β,hrep.val hd (Qbj ?_)⟩);simp only [VS,hb];exact ⟨⟨(by omega:lo+Int.toNat i< xs.length),hdp⟩,g,cap,hq,by rw [Nat.add_zero,Nat.add_mul]⟩
   ·cases h
  ·rename_i u xs hb;split at h
   ·rename_i hc;obtain ⟨x1,hx1,h⟩:=Obs h;simp only [VS,hb] at hvx;exact data r u _ k i x1 hr hc.1.1 hc.1.2 hvx hvz hc.2 hx1 (Qo h)
   ·cases h
  ·cases h
 ·rename_i r b i off k j hr hx hz;have hvx:=(VV_s (by intros; simp)).1 (Qh hrep hx)
  have hvz:=Qbr (Qh hrep hz);split at h
  ·rename_i e u xs hb;split at h
   ·rename_i t1 hty;split at h
    ·rename_i hc;obtain ⟨⟨hl,hdp⟩,hs1⟩:=hc;obtain ⟨z1,hz1,h⟩:=Obs h;obtain ⟨ys,hys,h⟩:=Obs h;split at h
     ·rename_i hj;obtain ⟨h0,hn⟩:=hj;obtain rfl:=Qo h;obtain ⟨hi,g,cap,c,e',fz,A,kk,hg1,hh,hc1,hv,hA⟩:=Qte hrep hb hvx hl hdp hz1 hys;have key: ∀(j:Int) (n:Nat),0≤j→j< n→0< n∧j.toNat< n:=fun j n h1 h2=>by omega
      obtain ⟨hpos,hjn⟩:=key j ys.length h0 hn;obtain ⟨g2,rfl⟩:=hA (by intro e; subst e; exact absurd hpos (Nat.lt_irrefl 0))
      have hrun:=run r t1 _ _ _ k j hr hty hv hvz h0 hn;rw [hs1,Nat.mul_one] at hrun;refine QD hrun (hg _ _ ⟨β,hrep.val hd (Qbj ?_)⟩);simp only [VS,hb];exact ⟨rfl,fun _=>⟨hi,g,cap,hg1,fun _=>⟨c,e',fz,_,_,_,hh,by rw [hc1,hv],hjn,rfl⟩⟩⟩
     ·cases h
    ·cases h
   ·cases h
  ·cases h
 ·rename_i r u xs k i hr hx hz;have hvx:=(VV_d rfl).1 (Qh hrep hx);have hvz:=Qbr (Qh hrep hz);split at h
  ·rename_i hc;obtain ⟨x1,hx1,h⟩:=Obs h;exact data r u xs k i x1 hr hc.1.1 hc.1.2 hvx hvz hc.2 hx1 (Qo h)
  ·cases h
 ·cases h
theorem Quw (hT:QR P T=true) (hrep:RepB Z M N w0 β σ a w) (hd:QM o.dst σ.nt=true) (hg:GoP Z M N w0 σ o qo next) {t:TypeId} {x z:Operand} (ho:o.op= .index t x z)
  (h:QL T o σ=some qo):o.wp P a w next Q:=by
 unfold QL Qaj at h;rw [ho] at h;simp only [ite2] at h;split at h
 ·rename_i r s k i hr hx hz;obtain ⟨i1,d,z1,hrow⟩:=QA hT hr;split at h
  ·rename_i hc;obtain ⟨hty,h0⟩:=hc;obtain ⟨c,hc,h⟩:=Obs h;obtain rfl:=Qo h;have hdd:=hrow.desc;unfold QaS at hdd;rw [hty] at hdd;cases d <;> first | (simp at hdd; done) | skip
   have e1:=Qje (Qh hrep hx);have e2:=Qbr (Qh hrep hz)
   have hc':(⟨(s:List UInt8).toArray⟩:ByteArray)[i.toNat]?=some c:=by
    obtain ⟨hlt,he⟩:=List.getElem?_eq_some_iff.1 hc;rw [getElem?_pos _ _ (by simpa [ByteArray.size] using hlt)]
    congr 1
   refine QD (v:= .int .u8 c.toNat) (w':=w) ?_ (hg _ _ ⟨β,hrep.val hd (Qbj ⟨rfl,rfl⟩)⟩);unfold execOp;rw [ho];simp [Instr.index,e1,e2,asIntOf,run_underlying hrow.under,h0,hc']
  ·cases h
 ·cases h
theorem QwK (hT:QR P T=true) (hrep:RepB Z M N w0 β σ a w) (hd:QM o.dst σ.nt=true) (hg:GoP Z M N w0 σ o qo next) {c:Call} (ho:o.op= .call c) (hc:c.callee= .builtin .len)
  (h:QL T o σ=some qo):o.wp P a w next Q:=by
 unfold QL Qaj at h;rw [ho] at h;simp only [hc] at h;split at h
 ·rename_i x t hargs htys;have eargs:c.args= #[x]:=by rw [←Array.toList_inj]; simpa using hargs
  have etys:c.argTypes= #[t]:=by rw [←Array.toList_inj]; simpa using htys
  split at h
  ·rename_i r z hr hx;obtain ⟨n,hn,h⟩:=Obs h;obtain rfl:=Qo h;obtain ⟨i1,d,z1,hrow⟩:=QA hT hr;have hvx:=Qh hrep hx;have hdd:=hrow.desc;unfold QaS at hdd;refine QD (v:= .int .i64 n) (w':=w) ?_ (hg _ _ ⟨β,hrep.val hd (Qbj ⟨rfl,rfl⟩)⟩);unfold execOp;rw [ho];unfold lenOf at hn
   have sl: ∀A cap u,r.ty= .slice u→a.eval x= .slice A n cap→((resolve a.eval c o.type).run P w).andThen (fun d w'=>(invoke d.target d.args).run P w')= .ok (.value (.int .i64 n)) w:=by
    intro A cap u hu hv;obtain ⟨rfl,_⟩:=hrow.slice hu;simp [resolve,hc,eargs,etys,invoke,builtin,Builtin.len_,hv,run_underlying hrow.under,goInt]
   split at hn
   ·rename_i hty;split at hn
    ·rename_i s;obtain rfl:=Osj hn;rw [hty] at hdd;cases d <;> first | (simp at hdd; done) | skip
     have e1:=Qje hvx;have hs:(⟨(s:List UInt8).toArray⟩:ByteArray).size=(s:List UInt8).length:=rfl;simp [resolve,hc,eargs,etys,invoke,builtin,Builtin.len_,e1,run_underlying hrow.under,goInt,hs]
    ·cases hn
   ·rename_i u hty;rw [Sem.run_bind];split at hn
    ·obtain rfl:=Osj hn;obtain ⟨A,cap,e,_⟩:=(VV_d rfl).1 hvx;exact sl A cap u hty (by simpa using e)
    ·obtain rfl:=Osj hn;have e:=(VV_s (by intros; simp)).1 hvx
     exact sl none 0 u hty e
    ·rename_i ob;have e:=(VV_s (by intros; simp)).1 hvx
     split at hn
     ·rename_i e' t' xs hb;obtain rfl:=Osj hn;simp only [VS,hb,RowV] at e;split at e
      ·exact sl none 0 u hty (by rw [e.2]; exact e.1)
      ·exact sl _ _ u hty e
     ·rename_i t' xs hb;obtain rfl:=Osj hn;simp only [VS,hb] at e;obtain ⟨A,cap,e,_⟩:=e;exact sl A cap u hty (by simpa using e)
     ·cases hn
    ·rename_i ob lo0 n0;have e:=(VV_s (by intros; simp)).1 hvx
     split at hn
     ·rename_i e' t' xs hb;obtain rfl:=Osj hn;simp only [VS,hb] at e;obtain ⟨_,_,e⟩:=e;unfold VW at e;split at e
      ·exact sl none 0 u hty (by rw [e.2.1]; exact e.1)
      ·obtain ⟨A,e,_⟩:=e;exact sl _ _ u hty e
     ·rename_i t' xs hb;obtain rfl:=Osj hn;simp only [VS,hb] at e;obtain ⟨A,cap,e,_⟩:=e;exact sl A cap u hty (by simpa using e)
     ·cases hn
    ·cases hn
   ·cases hn
  ·cases h
 ·cases h
theorem QwL (hrep:RepB Z M N w0 β σ a w) (hd:QM o.dst σ.nt=true) (hg:GoP Z M N w0 σ o qo next) {c:Call} (ho:o.op= .call c) (hc:c.callee= .builtin .max)
  (h:QL T o σ=some qo):o.wp P a w next Q:=by
 unfold QL Qaj at h;rw [ho] at h;simp only [hc] at h;split at h
 ·rename_i x z hargs;have eargs:c.args= #[x,z]:=by rw [←Array.toList_inj]; simpa using hargs
  split at h
  ·rename_i k x1 l z1 hx hz;split at h
   ·rename_i hk;subst hk;obtain rfl:=Qo h;have e1:=Qbr (Qh hrep hx);have e2:=Qbr (Qh hrep hz);refine QD (v:= .int k (if z1 > x1 then z1 else x1)) (w':=w) ?_ (hg _ _ ⟨β,hrep.val hd (Qbj ⟨rfl,rfl⟩)⟩)
    unfold execOp;rw [ho];simp [resolve,hc,eargs,invoke,builtin,Builtin.max_,Builtin.max2,e1,e2]
   ·cases h
  ·cases h
 ·cases h
theorem QwM (hrep:RepB Z M N w0 β σ a w) (hd:QM o.dst σ.nt=true) (hg:GoP Z M N w0 σ o qo next) {c:Call} (ho:o.op= .call c) (hc:c.callee= .builtin .min)
  (h:QL T o σ=some qo):o.wp P a w next Q:=by
 unfold QL Qaj at h;rw [ho] at h;simp only [hc] at h;split at h
 ·rename_i x z hargs;have eargs:c.args= #[x,z]:=by rw [←Array.toList_inj]; simpa using hargs
  split at h
  ·rename_i k x1 l z1 hx hz;split at h
   ·rename_i hk;subst hk;obtain rfl:=Qo h;have e1:=Qbr (Qh hrep hx);have e2:=Qbr (Qh hrep hz);refine QD (v:= .int k (if z1< x1 then z1 else x1)) (w':=w) ?_ (hg _ _ ⟨β,hrep.val hd (Qbj ⟨rfl,rfl⟩)⟩)
    unfold execOp;rw [ho];simp [resolve,hc,eargs,invoke,builtin,Builtin.min_,Builtin.min2,e1,e2]
   ·cases h
  ·cases h
 ·cases h
end ops
end
section
open Go Go.RowKit
theorem QoC {P:Program} {α γ:Type} {f:α→Sem γ} {g:α→γ} {w:World}: ∀{l:List α},(∀x∈l,(f x).run P w= .ok (g x) w)→(l.mapM f).run P w= .ok (l.map g) w
 | [],_=>by simp
 | x::r,h=>by
  have h1:=h x (by simp)
  have h2:=QoC (l:=r) (fun y hy=>h y (by simp [hy]))
  simp [List.mapM_cons,h1,h2]
theorem QnM (off:Nat): ∀(vs:List Value) (k:Nat) (cs:Array Value),off+k+vs.length≤cs.size→
  ((vs.zipIdx k).foldl (fun cs (p:Value×Nat)=>cs.setIfInBounds (off+p.2) p.1) cs).toList=cs.toList.take (off+k)++vs++cs.toList.drop (off+k+vs.length)
 | [],k,cs,h=>by simp
 | v::r,k,cs,h=>by
  simp only [List.length_cons] at h;have ih:=QnM off r (k+1) (cs.setIfInBounds (off+k) v) (by simp; omega)
  simp only [List.zipIdx_cons,List.foldl_cons];rw [ih];simp only [Array.toList_setIfInBounds,List.length_cons];have hlt:off+k< cs.toList.length:=by simp; omega
  apply List.ext_getElem?;intro j;by_cases h1:j< off+k
  ·rw [List.append_assoc,List.getElem?_append_left (by simp; omega),List.append_assoc,List.getElem?_append_left (by simp; omega),List.getElem?_take,List.getElem?_take,if_pos (by omega),if_pos h1,List.getElem?_set_ne (by omega)]
  ·by_cases h2:j=off+k
   ·subst h2;rw [List.append_assoc,List.getElem?_append_left (by simp; omega),List.append_assoc,List.getElem?_append_right (by simp; omega),List.getElem?_take,if_pos (by omega),List.getElem?_set_self hlt]
    have:off+k-(cs.toList.take (off+k)).length=0:=by simp; omega
    rw [this]; rfl
   ·by_cases h3:j< off+k+(r.length+1)
    ·rw [List.append_assoc,List.getElem?_append_right (by simp; omega),List.getElem?_append_left (by simp; omega),List.append_assoc,List.getElem?_append_right (by simp; omega),List.getElem?_append_left (by simp; omega)]
     have e1:j-(cs.toList.take (off+k)).length=(j-(off+k+1))+1:=by simp; omega
     rw [e1,List.getElem?_cons_succ];congr 1; simp; omega
    ·have el:((cs.toList.set (off+k) v).take (off+(k+1))++r).length=off+k+(r.length+1):=by simp; omega
     have el2:(cs.toList.take (off+k)++v::r).length=off+k+(r.length+1):=by simp; omega
     rw [List.getElem?_append_right (by omega),List.getElem?_append_right (by omega),el,el2,List.getElem?_drop,List.getElem?_drop,List.getElem?_set_ne (by omega)]
     congr 1; omega
theorem Qls {place:Nat→Option (Nat×Nat)} {cells:Array Value} {i off size:Nat} {v:Value} {vs:List Value} {rest:List (Nat×Value)} (hp:place i=some (off,size)) (hv:v.cells=vs.toArray)
  (hs:vs.length=size) (hf:off+size≤cells.size):
  Instr.fill place cells ((i,v)::rest)=Instr.fill place (cells.toList.take off++vs++cells.toList.drop (off+size)).toArray rest:=by
 have e:v.cells.zipIdx.foldl (fun cs (c,j)=>cs.setIfInBounds (off+j) c) cells=(cells.toList.take off++vs++cells.toList.drop (off+size)).toArray:=by
  rw [hv];apply Array.ext';rw [←Array.foldl_toList,Array.toList_zipIdx];have:=QnM off vs 0 cells (by omega)
  simpa [hs] using this
 have h1:v.cells.size=size:=by rw [hv]; simpa using hs
 simp only [Instr.fill,hp];rw [if_neg (by simp [h1]; omega),e]
theorem Qiw {S:Nat→Prop} {w:World} {β:Qr} {H:Heap} {fields:List (Nat×TypeId)} {szs:TypeId→Option Nat} {place:Nat→Option (Nat×Nat)}
  (hplace: ∀i off t n,fields[i]?=some (off,t)→szs t=some n→place i=some (off,n)):
  ∀{ps:List (Nat×List S1)} {vs:List (Nat×Value)} {cs ds:List S1} {cells:List Value},All2 (fun p v=>p.1=v.1∧ ∃us,v.2.cells=us.toArray∧All2 (VS w S β H) p.2 us) ps vs→
   All2 (VS w S β H) cs cells→QqR fields szs cs ps=some ds→ ∃cells',Instr.fill place cells.toArray vs=some cells'.toArray∧All2 (VS w S β H) ds cells'
 | [],_,cs,ds,cells,.nil,hc,h=>by
  obtain rfl:=Osj h;exact ⟨cells,rfl,hc⟩
 | (i,ys)::r,_,cs,ds,cells,.cons (b:=b) hx hr,hc,h=>by
  obtain ⟨i',v⟩:=b;obtain ⟨e,us,hu,hall⟩:=hx;simp only at e hu hall;subst e;simp only [QqR] at h;split at h
  ·rename_i off t hf;split at h
   ·rename_i hcond;have hl:=hall.len;have hlc:=hc.len;have hp:=hplace _ _ _ _ hf hcond.1
    have hnew:All2 (VS w S β H) (QfM cs off ys) (cells.take off++us++cells.drop (off+ys.length)):=by
     have:=QlV (off:=off) hc hall;rw [←hl] at this;exact this
    obtain ⟨cells',hfill,hall'⟩:=Qiw hplace hr hnew h;refine ⟨cells',?_,hall'⟩;rw [Qls hp hu (by omega) (by simp; omega)]
    exact hfill
   ·cases h
  ·cases h
theorem Qem {α γ:Type} {f:α→Option γ}: ∀{l:List α} {r:List γ},mapO f l=some r→All2 (fun x y=>f x=some y) l r
 | [],_,h=>by obtain rfl:=Osj h; exact .nil
 | x::l,r,h=>by
  simp only [mapO] at h;split at h
  ·rename_i y hy;split at h
   ·rename_i z hz;obtain rfl:=Osj h;exact .cons hy (Qem hz)
   ·cases h
  ·cases h
section ops
variable {P:Program} {T:Tab} {G:Env} {Z:Nat→Prop} {M:Nat→Nat→Prop} {N:Nat→Option (Option (Nat×Nat))} {w0 w w':World} {β:Qr} {σ:St} {a:Act} {o:Oper} {next:Act→World→Prop} {Q:Exit→Act→World→Prop} {v:Value}
variable {R:Type} {K:St→Option R} {y:R} {S:Nat→Prop} {H:Heap} {qo:Out}
theorem Quu (hT:QR P T=true) (hrep:RepB Z M N w0 β σ a w) (hd:QM o.dst σ.nt=true) (hg:GoP Z M N w0 σ o qo next) {t:TypeId} {parts:Array (Nat×Operand)} (ho:o.op= .build t parts)
  (h:QL T o σ=some qo):o.wp P a w next Q:=by
 unfold QL Qaj at h;rw [ho] at h;simp only at h;split at h
 ·rename_i r ps hr hps;obtain ⟨i,d,z,hrow⟩:=QA hT hr;split at h
  ·cases h
  ·rename_i hag;have hag':isAg r.ty=true:=by simpa using hag
   obtain ⟨fs,rfl,hfs⟩:=hrow.fields hag';split at h
   ·rename_i cs hfill;split at h
    ·rename_i hkn;obtain rfl:=Qo h
     have hsz: ∀f∈fs.toList, ∃q,look T f.type=some q:=by
      intro f hf;obtain ⟨k,hk,he⟩:=List.getElem_of_mem hf;exact hrow.fieldIn hag' (k:=k) (off:=f.offset) (u:=f.type) (by rw [←hfs,List.getElem?_map,List.getElem?_eq_getElem hk,he]; rfl)
     let g:Field→Nat×Nat:=fun f=>(f.offset,match look T f.type with | some q=>sz q.ty | none=>0)
     have hpl:(fs.mapM fun f=>Prod.mk f.offset <$> sizeOf f.type:Sem (Array (Nat×Nat))).run P w= .ok (fs.map g) w:=by
      rw [Array.mapM_eq_mapM_toList]
      have:=QoC (P:=P) (w:=w) (l:=fs.toList) (f:=fun f=>Prod.mk f.offset <$> sizeOf f.type) (g:=g) (by
       intro f hf;obtain ⟨q,hq⟩:=hsz f hf;obtain ⟨i2,d2,z2,hrow2⟩:=QA hT hq;simp [hrow2.run_size,g,hq])
      rw [Sem.run_map,this];simp only [Result.andThen_ok];congr 1;apply Array.ext';simp
     have hz:=All2.zcell (w:=w) (S:=RO Z β σ.H) (β:=β) (H:=σ.H) hrow.zcells
     have hparts:All2 (fun (p:Nat×List S1) (u:Nat×Value)=>p.1=u.1∧ ∃us,u.2.cells=us.toArray∧All2 (VS w (RO Z β σ.H) β σ.H) p.2 us) ps (parts.toList.map fun p=>(p.1,a.eval p.2)):=by
      have h1:=Qem hps;have hk: ∀p∈ps,p.2.all known=true:=List.all_eq_true.1 hkn;clear hfill hps hg hkn;generalize parts.toList=l at h1
      induction h1 with
      | nil=>exact .nil
      | cons hx hr ih=>
       refine .cons ?_ (ih fun p hp=>hk p (by simp [hp]))
       obtain ⟨y1,hy1,e⟩:=Option.map_eq_some_iff.1 hx;have hk1:=hk _ (List.mem_cons_self ..);rw [←e] at hk1;rw [←e];obtain ⟨us,hu,hall⟩:=QcJ (Qh hrep hy1) hk1;exact ⟨rfl,us,hu,hall.mono fun _ _ h=>h.1⟩
     obtain ⟨cells',hf',hall'⟩:=Qiw (place:=fun i=>(fs.toList.map g)[i]?) (fields:=r.fields) (szs:=fun u=>(look T u).map fun q=>sz q.ty) (by
      intro k off u n hk hn;obtain ⟨f,hf1,hf2,hf3⟩:=Qju hfs hk;rw [List.getElem?_map];have:fs.toList[k]?=some f:=by simpa using hf1
      rw [this];subst hf2 hf3;obtain ⟨q,hq,e⟩:=Option.map_eq_some_iff.1 hn;simp [g,hq,e]) hparts (hz.mono fun _ _ h=>h.1) hfill
     refine QD (v:= .agg cells'.toArray) (w':=w) ?_ (hg _ _ ⟨β,hrep.val hd ⟨cells',rfl,hall'⟩⟩);unfold execOp;rw [ho]
     have hf2:Instr.fill (fun i:Nat=>(fs.map g)[i]?) z.cells ((parts.map fun p=>(p.1,a.eval p.2)).toList)=some cells'.toArray:=by
      have e:(fun i:Nat=>(fs.map g)[i]?)=fun i:Nat=>(fs.toList.map g)[i]? :=by funext i; simp
      rw [e];simpa using hf'
     simp only [Instr.build,Sem.run_map,Sem.run_bind,hrow.run_zero,Result.andThen_ok,run_underlying hrow.under,bind_pure_comp,hpl,hf2,Sem.run_pure]
    ·cases h
   ·cases h
 ·cases h
end ops
end
section
open Go Go.RowKit
theorem QnP: ∀{l:List Nat} {H:Heap} {j:Nat},look H j=none→look (frz H l) j=none
 | [],_,_,h=>h
 | o::r,H,j,h=>by
  have ih:=QnP (l:=r) h;unfold frz;split
  ·rename_i e t xs he;rw [Qe];have:o≠j:=fun e'=>by subst e'; rw [ih] at he; cases he
   rw [if_neg this]; exact ih
  ·exact ih
section ops
variable {P:Program} {T:Tab} {G:Env} {Z:Nat→Prop} {M:Nat→Nat→Prop} {N:Nat→Option (Option (Nat×Nat))} {w0 w w':World} {β:Qr} {σ:St} {a:Act} {o:Oper} {next:Act→World→Prop} {Q:Exit→Act→World→Prop} {v:Value}
variable {R:Type} {K:St→Option R} {y:R} {S:Nat→Prop} {H:Heap} {qo:Out}
theorem RepB.newRowD (h:RepB Z M N w0 β σ a w) {j:Nat} (hj:QV σ.H j=true) (hjn:j< σ.nt) {e:TypeId} {t:Ty} {xs:List (den t)} {c:Array Value} {rows:List Value} {cap:Nat}
  (hdp:deep e=true→DpL w (inn e) t xs rows []) (hc:c.size=cap*sz t) (hl:xs.length≤cap) (hm:cap≤maxLen) (hr:RpL (Rp w (RO Z β σ.H) t) xs rows) (hi: ∀i,i< rows.length→c[i]?=rows[i]?):
  RepB Z M N w0 (β.put j (some (w.heap.size,cap))) ((σ.put j (.row e t xs)).set j (.s (.sl j))) (a.put (some j) (.slice (some ⟨w.heap.size,0,none⟩) xs.length cap)) (w.alloc (.cells c (raw e))):=by
 have h1:RepB Z M N w0 (β.put j (some (w.heap.size,cap))) (σ.put j (.row e t xs)) a (w.alloc (.cells c (raw e))):=by
  refine h.new hj (h.below.alloc _) (fun b hb=>heap_alloc_old w _ b hb) (by simp) ?_ ?_
  ·intro b cap' hq _ hf;obtain rfl:=Osj hq;rw [QeH hf hm];simp
  ·intro S' β' H' _ hs;refine .inr ⟨w.heap.size,cap,c,rows,rfl,Qhq w _,by rw [Qau hm]; exact hc,by rw [Qau hm]; exact hl,by rw [Qau hm]; exact hm,?_,hi,.inr hm,by rw [QaR hm]; simp,fun hd=>⟨[],Qef (w:=w) (fun _ hg=>by cases hg) (hdp hd),by simp,fun _ hg=>by cases hg⟩⟩
   rw [Qtm (QaR hm)];exact Qac (fun _ _=>hs _ _ _) hr
 refine h1.set hjn ?_;refine (VV_s (by intros; simp)).2 ?_
 simp only [VS,St.put,Qe,if_true,Qz];show _=_;rw [Qau hm]
theorem RepB.newRow (h:RepB Z M N w0 β σ a w) {j:Nat} (hj:QV σ.H j=true) (hjn:j< σ.nt) {e:TypeId} {t:Ty} {xs:List (den t)} {c:Array Value} {rows:List Value} {cap:Nat}
  (hdp:deep e=false) (hc:c.size=cap*sz t) (hl:xs.length≤cap) (hm:cap≤maxLen) (hr:RpL (Rp w (RO Z β σ.H) t) xs rows) (hi: ∀i,i< rows.length→c[i]?=rows[i]?):
  RepB Z M N w0 (β.put j (some (w.heap.size,cap))) ((σ.put j (.row e t xs)).set j (.s (.sl j))) (a.put (some j) (.slice (some ⟨w.heap.size,0,none⟩) xs.length cap)) (w.alloc (.cells c e)):=by
 have:=h.newRowD hj hjn (e:=e) (fun hd=>by rw [hdp] at hd; cases hd) hc hl hm hr hi
 rw [Qgh hdp] at this;exact this
theorem Qsv {r:Row} (h:r.madeOk=true) (hd:deep r.elem=false):raw r.made=r.elem:=by
 unfold Row.madeOk at h;unfold Row.made;by_cases h0:r.dm=0
 ·rw [if_pos h0]; exact Qgh hd
 ·rw [if_neg h0];simp only [Bool.or_eq_true,Bool.and_eq_true,beq_iff_eq] at h;rcases h with h | h
  ·exact absurd h h0
  ·exact h.2
theorem Qsw (z:List Value): ∀m:Nat,0< z.length→(madeCells z.toArray (m*z.length)).toList=(List.replicate m z).flatten:=by
 intro m hz;apply List.ext_getElem?;intro i
 induction m generalizing i with
 | zero=>simp [madeCells,Array.range_zero']
 | succ m ih=>
  rw [List.replicate_succ,List.flatten_cons];by_cases h1:i< z.length
  ·rw [List.getElem?_append_left h1];have hlt:i< (m+1)*z.length:=by rw [Nat.add_mul]; omega
   simp [madeCells,hlt,Nat.mod_eq_of_lt h1,h1]
  ·rw [List.getElem?_append_right (by omega), ←ih]
   have e1:(i-z.length) % z.length=i % z.length:=by
    rw [←Nat.mod_eq_sub_mod (by omega)]
   by_cases h2:i< (m+1)*z.length
   ·have h3:i-z.length< m*z.length:=by rw [Nat.add_mul] at h2; omega
    simp [madeCells,h2,h3,e1]
   ·have h3: ¬i-z.length< m*z.length:=by rw [Nat.add_mul] at h2; omega
    simp [madeCells,h2,h3]
theorem Qgt {α:Type} {R:α→List Value→Prop} {x:α} {r:List Value} (h:R x r): ∀m:Nat,RpL R (List.replicate m x) (List.replicate m r).flatten
 | 0=>rfl
 | m+1=>⟨r,_,by rw [List.replicate_succ,List.flatten_cons],h,Qgt h m⟩
theorem Qna (hT:QR P T=true) (hrep:RepB Z M N w0 β σ a w) (hd:QM o.dst σ.nt=true) (hg:GoP Z M N w0 σ o qo next) {t:TypeId} {x z:Operand} (ho:o.op= .makeSlice t x z)
  (h:QL T o σ=some qo):o.wp P a w next Q:=by
 unfold QL Qaj at h;rw [ho] at h;simp only [ite2] at h;split at h
 ·rename_i r j n m hr hj hx hz;split at h
  ·rename_i q hq;split at h
   ·rename_i hc;obtain ⟨⟨hty,hn,hdp,hmk⟩,hnm,h0,hb,h63⟩:=hc;obtain rfl:=(Osj h).symm;obtain ⟨i,d,zv,hrow⟩:=QA hT hr;obtain ⟨rfl,q',hq',hqt,hpos⟩:=hrow.slice hty;rw [hq] at hq';obtain rfl:=Osj hq';obtain ⟨i2,d2,z2,hrow2⟩:=QA hT hq;unfold GoP at hg;rw [hj] at hd hg;have e1:=Qbr (Qh hrep hx);have e2:=Qbr (Qh hrep hz);have hnm':(n:Int)=m:=hnm;subst hnm';have h0':(0:Int)≤n:=h0;have hb':(n:Int)*q.bytes≤140737488355328:=hb;have h63':(n:Int)≤9223372036854775807:=h63;have hrun:=run_make w t r.elem i2 z2 hrow.under hrow2.info hrow2.zero .i64 .i64 n n h0' (Int.le_refl _) (by rw [hrow2.bytes,Int.mul_comm]; exact Int.le_trans hb' (by decide)) h63'
    have hzr:=Qfd (w:=w) (S:=RO Z β σ.H) hrow2.zcells;have hzl:=Qu hzr
    have hcells:(madeCells z2.cells (Int.toNat n*sz q.ty)).toList=(List.replicate (Int.toNat n) z2.cells.toList).flatten:=by
     have:=Qsw z2.cells.toList (Int.toNat n) (by omega)
     rw [hzl,Array.toArray_toList] at this;exact this
    have hnn:(Int.toNat n:Int)=n:=Int.toNat_of_nonneg h0';refine QD (v:= .slice (some ⟨w.heap.size,0,none⟩) (Int.toNat n) (Int.toNat n)) (w':=w.alloc (.cells (madeCells z2.cells (Int.toNat n*i2.size)) r.elem)) ?_ ?_
    ·unfold execOp;rw [ho];simp only [e1,e2];rw [bind_pure_comp,Sem.run_map,hrun];rfl
    ·rw [hj];refine hg _ _ ⟨β.put j (some (w.heap.size,Int.toNat n)),?_⟩
     have:=hrep.newRowD hn (by simpa [QM] using hd) (e:=r.made) (t:=q.ty) (xs:=List.replicate (Int.toNat n) (Qby q.ty)) (c:=madeCells z2.cells (Int.toNat n*i2.size)) (rows:=(List.replicate (Int.toNat n) z2.cells.toList).flatten) (cap:=Int.toNat n)
      (fun _=>Qgs (Qxo hrow2.zcells) _) (by rw [size_madeCells,hrow2.size]) (by simp) (by unfold maxLen; exact Int.toNat_le.2 h63') (Qgt hzr _) (by
       intro k hk;rw [hrow2.size, ←hcells,Array.getElem?_toList])
     rw [List.length_replicate,Qsv hmk hdp] at this;exact this
   ·cases h
  ·cases h
 ·cases h
theorem Qwq {t:Ty} {xs:List (den t)} {A:Option Addr} {n cap l k:Nat} (h:Rp w S (.slice t) xs [.slice A n cap]) (hlk:l≤k) (hk:k≤xs.length):
  Rp w S (.slice t) ((xs.drop l).take (k-l)) [.slice (if cap=l then A else A.map (·.add (l*sz t))) (k-l) (cap-l)]:=by
 obtain ⟨A',cap',e,hcap,hA⟩:=h;simp only [List.cons.injEq,Value.slice.injEq,and_true] at e;obtain ⟨rfl,hn,rfl⟩:=e;have hlen:((xs.drop l).take (k-l)).length=k-l:=by rw [List.length_take,List.length_drop]; omega
 refine ⟨_,cap-l,by rw [hlen],by omega,fun hne=>?_⟩
 have hpos:0< k-l:=by
  rw [←hlen]; exact List.length_pos_iff.2 hne
 have hc: ¬cap=l:=by omega
 rw [if_neg hc];obtain ⟨b,off,rfl,hS,rows,hr,c,e',fz,hh,hi⟩:=hA (by intro e; subst e; simp at hk; omega)
 have hrl:=QaC (fun _ _=>Qu) hr
 refine ⟨b,off+l*sz t,by simp [Qdp],hS,(rows.drop (l*sz t)).take ((k-l)*sz t),Qeh (fun _ _=>Qu) _ (Qff (fun _ _=>Qu) _ hr),c,e',fz,hh,fun i hi'=>?_⟩
 rw [List.length_take,List.length_drop] at hi';rw [List.getElem?_take,if_pos (by omega),List.getElem?_drop,Nat.add_assoc]
 exact hi _ (by omega)
theorem QcB (hrep:RepB Z M N w0 β σ a w) {d:Int} {x:Option Operand} {n:Int} (h:optB σ d x=some n):(x=none∧n=d)∨ ∃y,x=some y∧a.eval y= .int .i64 n:=by
 unfold optB at h;split at h
 ·exact .inl ⟨rfl,(Osj h).symm⟩
 ·rename_i y;split at h
  ·rename_i v hv;unfold Qwg at h;split at h
   ·obtain rfl:=Osj h;exact .inr ⟨y,rfl,Qbr (Qh hrep hv)⟩
   ·cases h
  ·cases h
theorem QgW (isSl:Bool) {len cap:Nat} (hlc:len≤cap) {lo hi:Option Value} {l h:Int} (hl:(lo=none∧l=0)∨lo=some (.int .i64 l)) (hh:(hi=none∧h=len)∨hi=some (.int .i64 h))
  (h0:0≤l) (h1:l≤h) (h2:h≤len):(Instr.sliceBounds isSl len cap lo hi none).run P w= .ok (l.toNat,h.toNat,cap) w:=by
 have h3:0≤h:=by omega
 have h4:h≤(cap:Int):=by omega
 have h5:l≤(h.toNat:Int):=by omega
 have h6:max h 0=h:=by omega
 have h7: ¬h< l:=by omega
 rcases hl with ⟨rfl,rfl⟩ | rfl <;> rcases hh with ⟨rfl,rfl⟩ | rfl <;>
  simp [Instr.sliceBounds,Instr.sliceBound,asIntOf,h0,h1,h3,h4,h5,h2,h6,h7]
theorem QkF {w:World} {S:Nat→Prop} {β:Qr} {H:Heap} (hO:Owns w S β H) {u:Ty} {y:SV} {o l0 n0:Nat} (h:vwOf H u y=some (o,l0,n0)) {v:Value} (hv:VV w S β H y v):
  ∃e xs v0,look H o=some (.row e u xs)∧deep e=false∧l0+n0≤xs.length∧RowV (β o) xs.length v0∧VW (β o) (sz u) l0 n0 v∧(∀p,β o=some p→xs.length≤QaJ p.2):=by
 have len: ∀{e:TypeId} {xs:List (den u)},look H o=some (.row e u xs)→ ∀p,β o=some p→xs.length≤QaJ p.2:=by
  intro e xs ho p hp;rcases hO o _ ho with ⟨hq,_⟩ | ⟨b,cap,c,rows,hq,hh,hs,hl,_⟩
  ·rw [hq] at hp; cases hp
  ·rw [hq] at hp; obtain rfl:=Osj hp; exact hl
 unfold vwOf at h;split at h
 ·split at h
  ·rename_i e s xs ho;split at h
   ·rename_i hc;obtain ⟨hd,rfl⟩:=hc;simp only [Oie,Pmi] at h;obtain ⟨rfl,rfl,rfl⟩:=h;have hvs:=(VV_s (by intros; simp)).1 hv
    simp only [VS,ho] at hvs;refine ⟨e,xs,v,ho,hd,by omega,hvs,?_,len ho⟩
    unfold RowV at hvs;unfold VW;split at hvs
    ·exact ⟨hvs.1,hvs.2,rfl⟩
    ·exact ⟨_,hvs,fun _=>by rw [Nat.zero_mul]⟩
   ·cases h
  ·cases h
 ·split at h
  ·rename_i e s xs ho;split at h
   ·rename_i hc;obtain ⟨hd,rfl⟩:=hc;simp only [Oie,Pmi] at h;obtain ⟨rfl,rfl,rfl⟩:=h;have hvs:=(VV_s (by intros; simp)).1 hv
    simp only [VS,ho] at hvs;obtain ⟨⟨_,h2⟩,⟨v0,h3⟩,h4⟩:=hvs;exact ⟨e,xs,v0,ho,hd,h2,h3,h4,len ho⟩
   ·cases h
  ·cases h
 ·cases h
theorem Qux (hT:QR P T=true) (hrep:RepB Z M N w0 β σ a w) (hd:QM o.dst σ.nt=true) (hg:GoP Z M N w0 σ o qo next) {t:TypeId} {x:Operand} {lo hi mx:Option Operand} (ho:o.op= .slice t x lo hi mx)
  (h:QL T o σ=some qo):o.wp P a w next Q:=by
 unfold QL Qaj at h;rw [ho] at h;simp only at h;split at h
 ·rename_i r y1 hr hx;obtain ⟨i,d,z,hrow⟩:=QA hT hr;have hdd:=hrow.desc;unfold QaS at hdd;split at h
  ·rename_i hty;rw [hty] at hdd;cases d <;> first | (simp at hdd; done) | skip
   split at h
   ·rename_i s;obtain ⟨l,hl,h⟩:=Obs h;obtain ⟨k,hk,h⟩:=Obs h;split at h
    ·rename_i hc;obtain ⟨h0,h1,h2⟩:=hc;obtain rfl:=Qo h;have e1:=Qje (Qh hrep hx)
     have hb:=QgW (P:=P) (w:=w) false (len:=(s:List UInt8).length) (cap:=(s:List UInt8).length) (Nat.le_refl _) (lo:=lo.map a.eval) (hi:=hi.map a.eval) (l:=l) (h:=k)
      (by rcases QcB hrep hl with ⟨rfl,rfl⟩ | ⟨y,rfl,hy⟩ <;> simp [*]) (by rcases QcB hrep hk with ⟨rfl,rfl⟩ | ⟨y,rfl,hy⟩ <;> simp [*]) h0 h1 h2
     have hs:(⟨(s:List UInt8).toArray⟩:ByteArray).size=(s:List UInt8).length:=rfl;refine QD (v:= .string ⟨((s.drop l.toNat).take (k.toNat-l.toNat):List UInt8).toArray⟩) (w':=w) ?_ (hg _ _ ⟨β,hrep.val hd (Qbj ⟨rfl,rfl⟩)⟩);unfold execOp;rw [ho]
     have hex:(⟨(s:List UInt8).toArray⟩:ByteArray).extract l.toNat k.toNat=⟨((s.drop l.toNat).take (k.toNat-l.toNat):List UInt8).toArray⟩:=by
      apply Qlh;simp [ByteArray.data_extract]
     simp [Instr.sliceAt,Instr.slice,e1,run_underlying hrow.under,hs,hb,hex]
    ·cases h
   ·cases h
  ·rename_i u hty;obtain ⟨rfl,q,hq,hqt,hpos⟩:=hrow.slice hty;obtain ⟨i2,d2,z2,hrow2⟩:=QA hT hq;split at h
   ·rename_i b l0 n0 hvw;obtain ⟨l,hl,h⟩:=Obs h;obtain ⟨k,hk,h⟩:=Obs h;split at h
    ·rename_i hc;obtain ⟨h0,h1,h2⟩:=hc;obtain rfl:=Qo h;obtain ⟨e,xs,v0,hlk,hdp,hle,hrv,hvv,hcp⟩:=QkF hrep.owns hvw (Qh hrep hx);subst hqt
     have fin: ∀{A:Option Addr} {cap:Nat},a.eval x= .slice A n0 cap→n0≤cap→VW (β b) (sz q.ty) (l0+l.toNat) (k.toNat-l.toNat) (.slice (if cap=l.toNat then A else A.map (·.add (l.toNat*sz q.ty))) (k.toNat-l.toNat) (cap-l.toNat))→o.wp P a w next Q:=by
      intro A cap ex hcap hfin
      have hb:=QgW (P:=P) (w:=w) true (len:=n0) (cap:=cap) hcap (lo:=lo.map a.eval) (hi:=hi.map a.eval) (l:=l) (h:=k)
       (by rcases QcB hrep hl with ⟨rfl,rfl⟩ | ⟨y,rfl,hy⟩ <;> simp [*]) (by rcases QcB hrep hk with ⟨rfl,rfl⟩ | ⟨y,rfl,hy⟩ <;> simp [*]) h0 h1 h2
      refine QD (v:= .slice (if cap=l.toNat then A else A.map (·.add (l.toNat*sz q.ty))) (k.toNat-l.toNat) (cap-l.toNat)) (w':=w) ?_ (hg _ _ ⟨β,hrep.val hd (Qbj ?_)⟩)
      ·unfold execOp;rw [ho];simp [Instr.sliceAt,Instr.slice,ex,run_underlying hrow.under,hb,hrow2.run_size]
      ·simp only [VS,hlk];exact ⟨⟨hdp,by omega⟩,⟨v0,hrv⟩,hfin⟩
     unfold VW at hvv;split at hvv
     ·rename_i hq0;obtain ⟨ex,rfl,rfl⟩:=hvv;have hl0:l=0:=by simp at h2; omega
      have hk0:k=0:=by simp at h2; omega
      subst hl0 hk0;exact fin ex (Nat.le_refl _) (by unfold VW; rw [hq0]; simp)
     ·rename_i g cap hq0;obtain ⟨A,ex,hA⟩:=hvv;have hcap:=hcp _ hq0;simp only at hcap;refine fin ex (by omega) ?_
      unfold VW;rw [hq0];refine ⟨_,by rw [Nat.sub_sub],fun hpos=>?_⟩
      have hkn:k.toNat≤n0:=by omega
      rw [if_neg (by omega),hA (by omega)]
      simp only [Option.map_some,Qdp,Nat.add_mul]
    ·cases h
   obtain ⟨xs,hxs,h⟩:=Obs h;obtain ⟨l,hl,h⟩:=Obs h;obtain ⟨k,hk,h⟩:=Obs h;split at h
   ·rename_i hc;obtain ⟨h0,h1,h2⟩:=hc;obtain rfl:=(Osj h).symm;have hrep':=hrep.frz (Qv σ.H y1);obtain ⟨cs,hv,hr1⟩:=Qbp (own:=false) hrep'.owns (fun t x cs h=>h) (by simp) (Qh hrep' (σ:={ σ with H:=frz σ.H (Qv σ.H y1) }) (x:=x) (y:=y1) (by rw [←hx]; cases x <;> rfl)) (QvW hxs)
    have hcs:=QqG rfl hv;subst hcs;have hr2:=hr1;obtain ⟨A,cap,e,hcap,_⟩:=hr2;have ex:a.eval x= .slice A xs.length cap:=by simpa using e
    rw [ex] at hr1
    have hb:=QgW (P:=P) (w:=w) true (len:=xs.length) (cap:=cap) hcap (lo:=lo.map a.eval) (hi:=hi.map a.eval) (l:=l) (h:=k)
     (by rcases QcB hrep hl with ⟨rfl,rfl⟩ | ⟨y,rfl,hy⟩ <;> simp [*]) (by rcases QcB hrep hk with ⟨rfl,rfl⟩ | ⟨y,rfl,hy⟩ <;> simp [*]) h0 h1 h2
    have hcut:=Qwq (l:=l.toNat) (k:=k.toNat) hr1 (by omega) (by omega)
    refine QD (v:= .slice (if cap=l.toNat then A else A.map (·.add (l.toNat*sz u))) (k.toNat-l.toNat) (cap-l.toNat)) (w':=w) ?_ ?_
    ·unfold execOp;rw [ho];subst hqt;simp [Instr.sliceAt,Instr.slice,ex,run_underlying hrow.under,hb,hrow2.run_size]
    ·refine hg _ _ ⟨β,?_⟩;have:=hrep'.val (i:=o.dst) (y:= .s (.d (.slice u) ((xs.drop l.toNat).take (k.toNat-l.toNat)))) hd ((VV_d rfl).2 hcut);exact this
   ·cases h
  ·cases h
 ·cases h
end ops
end
section
open Go Go.RowKit
theorem Qjv {ρ:Operand→Value} {s:Nat}: ∀(l:List (Nat×Operand)) (n:Nat) (uss:List (List Value)) (cells:List Value),QhG n l=true→
  All2 (fun p us=>(ρ p.2).cells=us.toArray∧us.length=s) l uss→cells.length=(n+l.length)*s→
  Instr.fill (fun i=>some (i*s,s)) cells.toArray (l.map fun p=>(p.1,ρ p.2))=some (cells.take (n*s)++uss.flatten).toArray
 | [],n,_,cells,_,.nil,hl=>by
  simp only [List.length_nil,Nat.add_zero] at hl;simp [Instr.fill,List.take_of_length_le (show cells.length≤n*s by omega)]
 | (i,x)::r,n,_,cells,hs,.cons (b:=us) h hr,hl=>by
  simp only [QhG,Bool.and_eq_true,beq_iff_eq] at hs;obtain ⟨rfl,hs⟩:=hs;simp only [List.length_cons] at hl;have e1:(i+(r.length+1))*s=i*s+s+r.length*s:=by rw [Nat.add_mul,Nat.add_mul]; omega
  rw [List.map_cons,Qls (place:=fun i=>some (i*s,s)) rfl h.1 h.2 (by simp; omega)]
  have e2:(i+1)*s=i*s+s:=by rw [Nat.add_mul]; omega
  have ih:=Qjv r (i+1) _ (cells.take (i*s)++us++cells.drop (i*s+s)) hs hr (by
   have e3:(i+1+r.length)*s=i*s+s+r.length*s:=by rw [Nat.add_mul,Nat.add_mul]; omega
   simp [h.2]; omega)
  have e4:(cells.take (i*s)++us).length=i*s+s:=by simp [h.2]; omega
  rw [e2,List.take_left' e4] at ih;simp only [] at ih⊢;rw [ih,List.flatten_cons,List.append_assoc]
section ops
variable {P:Program} {T:Tab} {G:Env} {Z:Nat→Prop} {M:Nat→Nat→Prop} {N:Nat→Option (Option (Nat×Nat))} {w0 w w':World} {β:Qr} {σ:St} {a:Act} {o:Oper} {next:Act→World→Prop} {Q:Exit→Act→World→Prop} {v:Value}
variable {R:Type} {K:St→Option R} {y:R} {S:Nat→Prop} {H:Heap} {qo:Out}
theorem Qwx {l:List Nat} {x:Operand}:ev { σ with H:=frz σ.H l } x=ev σ x:=by cases x <;> rfl
theorem Qri {t:Ty}: ∀{ys:List (den t)} {uss:List (List Value)},All2 (fun x us=>Rp w S t x us) ys uss→RpL (Rp w S t) ys uss.flatten
 | _,_,.nil=>rfl
 | _,_,.cons h hr=>⟨_,_,by rw [List.flatten_cons],h,Qri hr⟩
theorem QkQ (hT:QR P T=true) (hrep:RepB Z M N w0 β σ a w) (hd:QM o.dst σ.nt=true) (hg:GoP Z M N w0 σ o qo next) {t:TypeId} {len:Nat} {parts:Array (Nat×Operand)} (ho:o.op= .buildSlice t len parts)
  (h:QL T o σ=some qo):o.wp P a w next Q:=by
 unfold QL Qaj at h;rw [ho] at h;simp only at h;split at h
 ·rename_i r j hr hj;split at h
  ·rename_i q xs hq hxs;split at h
   ·rename_i hc;obtain ⟨hlen,hseq,hsmall,hn,hty,hdp⟩:=hc;split at h
    ·rename_i ys hys;obtain rfl:=(Osj h).symm;obtain ⟨i,d,zv,hrow⟩:=QA hT hr;obtain ⟨rfl,q',hq',hqt,hpos⟩:=hrow.slice hty;rw [hq] at hq';obtain rfl:=Osj hq';obtain ⟨i2,d2,z2,hrow2⟩:=QA hT hq;unfold GoP at hg;rw [hj] at hd hg;have hrep':=hrep.frz (xs.flatMap (Qv σ.H));have hzl:z2.cells.toList.length=sz q.ty:=Qu (Qfd (w:=w) (S:=fun _=>True) hrow2.zcells)
     have hall: ∃uss:List (List Value),All2 (fun (p:Nat×Operand) us=>(a.eval p.2).cells=us.toArray∧us.length=sz q.ty) parts.toList uss∧
       All2 (fun x us=>Rp w (RO Z β (frz σ.H (xs.flatMap (Qv σ.H)))) q.ty x us) ys uss:=by
      have h1:=Qem hxs;have h2:=Qem hys;clear hys hxs hg hseq hlen h;generalize hfl:xs.flatMap (Qv σ.H)=fl at*;clear hfl;generalize parts.toList=l at h1
      induction h1 generalizing ys with
      | nil=>cases h2; exact ⟨[],.nil,.nil⟩
      | cons hx hr ih=>
       cases h2 with
       | cons hy hr2=>
        obtain ⟨uss,g1,g2⟩:=ih _ hr2;obtain ⟨us,hv,hrp⟩:=Qbp (own:=false) hrep'.owns (fun t x cs h=>h) (by simp) (Qh hrep' (σ:={ σ with H:=frz σ.H fl }) (by rw [Qwx]; exact hx)) hy
        exact ⟨us::uss,.cons ⟨Qdj hv (Qas hrp),Qu hrp⟩ g1,.cons hrp g2⟩
     obtain ⟨uss,hu1,hu2⟩:=hall;have hlp:ys.length=len:=by rw [hlen, ←(Qem hys).len, ←(Qem hxs).len]
     have hrows:=Qri hu2;have hrl:=QaC (fun _ _=>Qu) hrows
     have hfill:=Qjv (ρ:=a.eval) (s:=sz q.ty) parts.toList 0 uss ((Array.range (len*sz q.ty)).map (z2.cells[· % z2.cells.size]!)).toList hseq hu1 (by simp [hlen])
     rw [Nat.zero_mul,List.take_zero,List.nil_append,Array.toArray_toList] at hfill;have h24: ¬(2 ^ 24< len*sz q.ty):=by omega
     have hrun:(Instr.buildSlice t len (parts.map fun (p:Nat×Operand)=>(p.1,a.eval p.2))).run P w= .ok (.slice (some ⟨w.heap.size,0,none⟩) len len) (w.alloc (.cells uss.flatten.toArray r.elem)):=by
      have hpt:(parts.map fun (p:Nat×Operand)=>(p.1,a.eval p.2)).toList=parts.toList.map fun p=>(p.1,a.eval p.2):=by simp
      by_cases h0:len*sz q.ty=0
      ·have e0:(Array.range (len*sz q.ty)).map (z2.cells[· % z2.cells.size]!)=(Array.range (len*sz q.ty)).map ((#[]:Array Value)[· % (#[]:Array Value).size]!):=by
        rw [h0]; simp [Array.range_zero']
       rw [e0] at hfill;simp only [Instr.buildSlice,Sem.run_bind,run_underlying hrow.under,Result.andThen_ok,hrow2.run_size,h0,if_true,Sem.run_pure,hpt];rw [h0] at hfill;simp only [gt_iff_lt,show ¬(2 ^ 24< 0) by omega,if_false,Sem.run_pure,Sem.run_bind,Result.andThen_ok]
       rw [hfill];simp [newRow]
      ·simp only [Instr.buildSlice,Sem.run_bind,run_underlying hrow.under,Result.andThen_ok,hrow2.run_size,gt_iff_lt,h24,h0,if_false,Sem.run_pure,hpt,hrow2.run_zero];rw [hfill];simp [newRow]
     refine QD (v:= .slice (some ⟨w.heap.size,0,none⟩) len len) (w':=w.alloc (.cells uss.flatten.toArray r.elem)) ?_ ?_
     ·unfold execOp;rw [ho];simp only [bind_pure_comp,Sem.run_map];rw [hrun];rfl
     ·rw [hj];refine hg _ _ ⟨β.put j (some (w.heap.size,len)),?_⟩
      have:=hrep'.newRow (σ:={ σ with H:=frz σ.H (xs.flatMap (Qv σ.H)) }) (by simpa [QV] using QnP (Qbg hn)) (by simpa [QM] using hd) (e:=r.elem) (t:=q.ty) (xs:=ys) (c:=uss.flatten.toArray) (rows:=uss.flatten) (cap:=len)
       hdp (by simp only [List.size_toArray]; rw [hrl,hlp]) (by omega) (by unfold maxLen; have:=Nat.le_mul_of_pos_right len hpos; omega) hrows (by intro i hi; simp)
      rw [hlp] at this;exact this
    ·cases h
   ·cases h
  ·cases h
 ·cases h
def Qjc (w w':World):Prop:= ∀g,g< w.heap.size→w'.heap[g]?=w.heap[g]?∨ ∃c c' e fz,w.heap[g]?=some (.cells c e fz)∧w'.heap[g]?=some (.cells c' e fz)∧c'.size=c.size
theorem RepB.regroup (h:RepB Z M N w0 β σ a w) {j:Nat} {ns:List Nat} {ob:Ob} {q:Option (Nat×Nat)} (hj:QV σ.H j=true) (hrow:QlB ob=true)
  (hns: ∀o∈ns,o< 9000000∧ ∃e0 t0 ys,look σ.H o=some (.row e0 t0 ys)) (hbelow:Kept M w0 w') (hsize:w.heap.size≤w'.heap.size)
  (hblk: ∀g,g< w.heap.size→(∀o∈ns, ∀p,β o=some p→g≠p.1)→w'.heap[g]?=w.heap[g]?)
  (hq: ∀p g,q=some p→foot ob p g→g< w'.heap.size∧((∃o∈ns, ∃ob0 p0,look σ.H o=some ob0∧β o=some p0∧foot ob0 p0 g)∨w.heap.size≤g))
  (hobj: ∀S' β' H',(∀t x cs,Rp w (RO Z β σ.H) t x cs→Rp w' S' t x cs)→OR w' S' β' H' q ob):
  RepB Z M N w0 (β.put j q) { σ with H:=(j,ob)::(ns.map (fun o=>(o,Ob.dead))++σ.H) } a w':=by
 have hj':=Qbg hj;have hlive: ∀ob,QlB ob=true→live ob=true:=fun ob h=>by cases ob <;> first | rfl | cases h
 have hlook: ∀o ob1,look ((j,ob)::(ns.map (fun o=>(o,Ob.dead))++σ.H)) o=some ob1→(o=j∧ob1=ob)∨(o≠j∧o∈ns∧ob1= .dead)∨(o≠j∧o∉ns∧look σ.H o=some ob1):=by
  intro o ob1 ho;rw [Qe] at ho;by_cases e1:j=o
  ·rw [if_pos e1] at ho; exact .inl ⟨e1.symm,(Osj ho).symm⟩
  ·rw [if_neg e1,QbT] at ho;by_cases e2:o∈ns
   ·rw [if_pos e2] at ho; exact .inr (.inl ⟨Ne.symm e1,e2,(Osj ho).symm⟩)
   ·rw [if_neg e2] at ho; exact .inr (.inr ⟨Ne.symm e1,e2,ho⟩)
 have hown0: ∀o∈ns, ∀ob0 p0 g,look σ.H o=some ob0→β o=some p0→foot ob0 p0 g→live ob0=true∧QlB ob0=true:=by
  intro o ho ob0 p0 g h1 _ _;obtain ⟨_,e0,t0,ys,h2⟩:=hns o ho;rw [h1] at h2;obtain rfl:=Osj h2;exact ⟨rfl,rfl⟩
 have hother: ∀o ob1 p,o∉ns→look σ.H o=some ob1→live ob1=true→β o=some p→ ∀g,foot ob1 p g→ ∀o'∈ns, ∀p',β o'=some p'→g≠p'.1:=by
  intro o ob1 p hn h1 h2 h3 g h4 o' ho' p' hp' e;obtain ⟨_,e0,t0,ys,h5⟩:=hns o' ho';have:=h.one o o' _ _ p p' g h1 h2 h5 rfl h3 hp' h4 (.inl e);exact hn (this▸ho')
 have hk: ∀b',b'< w.heap.size→ ¬Own β σ.H b'→ ¬Own (β.put j q) ((j,ob)::(ns.map (fun o=>(o,Ob.dead))++σ.H)) b'∧w'.heap[b']?=w.heap[b']? :=by
  intro b' hb' hn;refine ⟨?_,hblk b' hb' fun o ho p hp e=>?_⟩
  ·rintro ⟨o,ob1,p,ho,hl,hp,hf⟩;rcases hlook o ob1 ho with ⟨rfl,rfl⟩ | ⟨_,_,rfl⟩ | ⟨h1,h2,h3⟩
   ·rw [Qz] at hp;rcases (hq p b' hp hf).2 with ⟨o',ho',ob0,p0,k1,k2,k3⟩ | h0
    ·exact hn ⟨o',ob0,p0,k1,(hown0 o' ho' ob0 p0 b' k1 k2 k3).1,k2,k3⟩
    ·omega
   ·cases hl
   ·rw [Qm h1] at hp; exact hn ⟨o,ob1,p,h3,hl,hp,hf⟩
  ·obtain ⟨_,e0,t0,ys,h2⟩:=hns o ho;exact hn ⟨o,_,p,h2,rfl,hp,.inl e⟩
 have hn: ∀o ob1,look σ.H o=some ob1→Step w w' (RO Z (β.put j q) ((j,ob)::(ns.map (fun o=>(o,Ob.dead))++σ.H))) (β o) ob1 ((β.put j q) o) (look ((j,ob)::(ns.map (fun o=>(o,Ob.dead))++σ.H)) o):=by
  intro o ob1 ho;have e1:j≠o:=fun e'=>by subst e'; rw [hj'] at ho; cases ho
  rw [Qe,if_neg e1,QbT,Qm (fun h=>e1 h.symm)]
  by_cases e2:o∈ns
  ·rw [if_pos e2]; trivial
  ·rw [if_neg e2,ho];exact QaK fun hl p hp=>hblk p.1 (h.hold o ob1 p p.1 ho hl hp Ql).2 (hother o ob1 p e2 ho hl hp p.1 Ql)
 refine h.move (H':=(j,ob)::(ns.map (fun o=>(o,Ob.dead))++σ.H)) hbelow ?_ hk hn ?_ ?_ ?_ (fun o cs b' base h0 h1 _=>by
  rcases hlook o _ h1 with ⟨_,e⟩ | ⟨_,_,e⟩ | ⟨_,_,e⟩
  ·subst e; cases hrow
  ·cases e
  ·rw [h0] at e; cases e)
 ·intro o q' hq' hs h9;have e1:o≠j:=fun e=>by subst e; rw [hj'] at hs; cases hs
  refine ⟨by rw [Qm e1]; exact hq',?_⟩
  rw [Qe,if_neg (Ne.symm e1),QbT,if_neg (fun hh=>by have:=(hns o hh).1; omega)]
  exact hs
 ·intro o ob1 p g ho hl hbo hf;rcases hlook o ob1 ho with ⟨rfl,rfl⟩ | ⟨_,_,rfl⟩ | ⟨h1,h2,h3⟩
  ·rw [Qz] at hbo;obtain ⟨k0,k1⟩:=hq p g hbo hf;refine ⟨?_,k0⟩
   have hM: ∀i,M g i:=by
    rcases k1 with ⟨o',ho',ob0,p0,m1,m2,m3⟩ | h0
    ·obtain ⟨n1,n2⟩:=hown0 o' ho' ob0 p0 g m1 m2 m3;have:=(h.hold o' ob0 p0 g m1 n1 m2 m3).1;cases ob0 <;> first | exact this | cases n2
    ·exact h.fresh g (Nat.le_trans h.below.size h0)
   cases ob1 <;> first | exact hM | cases hrow
  ·cases hl
  ·rw [Qm h1] at hbo;have:=h.hold o ob1 p g h3 hl hbo hf;exact ⟨this.1,by omega⟩
 ·intro o1 o2 ob1 ob2 p1' p2' g h1 l1 h2 l2 b1 b2 f1 f2
  have other: ∀o ob1 p p',o≠j→o∉ns→look σ.H o=some ob1→live ob1=true→β o=some p→foot ob1 p g→q=some p'→foot ob p' g→False:=by
   intro o ob1 p p' hne hnn ho hl hbo hf hqq hf';rcases (hq p' g hqq hf').2 with ⟨o',ho',ob0,p0,m1,m2,m3⟩ | h0
   ·obtain ⟨n1,_⟩:=hown0 o' ho' ob0 p0 g m1 m2 m3;have:=h.one o o' _ _ p p0 g ho hl m1 n1 hbo m2 hf m3;exact hnn (this▸ho')
   ·have:=(h.hold o ob1 p g ho hl hbo hf).2; omega
  rcases hlook o1 ob1 h1 with ⟨rfl,rfl⟩ | ⟨_,_,rfl⟩ | ⟨p1,p2,p3⟩
  ·rcases hlook o2 ob2 h2 with ⟨rfl,rfl⟩ | ⟨_,_,rfl⟩ | ⟨r1,r2,r3⟩
   ·rfl
   ·cases l2
   ·rw [Qz] at b1; rw [Qm r1] at b2;exact (other o2 ob2 _ _ r1 r2 r3 l2 b2 f2 b1 f1).elim
  ·cases l1
  ·rcases hlook o2 ob2 h2 with ⟨rfl,rfl⟩ | ⟨_,_,rfl⟩ | ⟨r1,r2,r3⟩
   ·rw [Qz] at b2; rw [Qm p1] at b1;exact (other o1 ob1 _ _ p1 p2 p3 l1 b1 f1 b2 f2).elim
   ·cases l2
   ·rw [Qm p1] at b1; rw [Qm r1] at b2;exact h.one o1 o2 ob1 ob2 _ _ g p3 l1 r3 l2 b1 b2 f1 f2
 ·intro o ob1 ho;rcases hlook o ob1 ho with ⟨rfl,rfl⟩ | ⟨_,_,rfl⟩ | ⟨h1,h2,h3⟩
  ·rw [Qz]; exact hobj _ _ _ (fun t x cs=>Qaa (Qam hk))
  ·trivial
  ·rw [Qm h1];exact Qda (Qam hk) hk hn (fun g p hbo hl hf=>hblk g (h.hold o ob1 p g h3 hl hbo hf).2 (hother o ob1 p h2 h3 hl hbo g hf)) (h.obj o ob1 h3)
theorem RepB.append (h:RepB Z M N w0 β σ a w) {b j:Nat} {e:TypeId} {t:Ty} {xs xs2:List (den t)} {q:Option (Nat×Nat)} (hb:look σ.H b=some (.row e t xs)) (hj:QV σ.H j=true)
  (hdp:deep e=false) (hgr:w.grownBy w' ((β b).map (·.1))) (htu:Qjc w w') (hq: ∀g cap,q=some (g,cap)→(((∃cap0,β b=some (g,cap0))∨w.heap.size≤g)∧g< w'.heap.size)∧cap≤maxLen)
  (hobj: ∀S' β' H',(∀t x cs,Rp w (RO Z β σ.H) t x cs→Rp w' S' t x cs)→OR w' S' β' H' q (.row e t xs2)):
  RepB Z M N w0 (β.put j q) ((σ.put b .dead).put j (.row e t xs2)) a w':=by
 have hj':=Qbg hj
 have hqf: ∀(ob:Ob) p g,q=some p→foot ob p g→g=p.1∧(((∃cap0,β b=some (g,cap0))∨w.heap.size≤g)∧g< w'.heap.size):=by
  rintro ob ⟨g',cap⟩ g hqq hf;have h1:=hq g' cap hqq;obtain rfl:=QeH hf h1.2;exact ⟨rfl,h1.1⟩
 have hbj:b≠j:=fun e'=>by subst e'; rw [hj'] at hb; cases hb
 have hlook: ∀o ob,look ((j,.row e t xs2)::(b,.dead)::σ.H) o=some ob→(o=j∧ob= .row e t xs2)∨(o=b∧ob= .dead)∨(o≠j∧o≠b∧look σ.H o=some ob):=by
  intro o ob ho;rw [Qe] at ho;by_cases e1:j=o
  ·rw [if_pos e1] at ho; exact .inl ⟨e1.symm,(Osj ho).symm⟩
  ·rw [if_neg e1,Qe] at ho;by_cases e2:b=o
   ·rw [if_pos e2] at ho; exact .inr (.inl ⟨e2.symm,(Osj ho).symm⟩)
   ·rw [if_neg e2] at ho; exact .inr (.inr ⟨fun h=>e1 h.symm,fun h=>e2 h.symm,ho⟩)
 have hO: ∀g,Own (β.put j q) ((j,.row e t xs2)::(b,.dead)::σ.H) g→(∃ob p,q=some p∧foot ob p g)∨ ∃o ob p,o≠b∧look σ.H o=some ob∧live ob=true∧β o=some p∧foot ob p g:=by
  rintro g ⟨o,ob,p,ho,hl,hbo,hf⟩;rcases hlook o ob ho with ⟨rfl,rfl⟩ | ⟨rfl,rfl⟩ | ⟨h1,h2,h3⟩
  ·rw [Qz] at hbo; exact .inl ⟨_,p,hbo,hf⟩
  ·simp [live] at hl
  ·rw [Qm h1] at hbo; exact .inr ⟨o,ob,p,h2,h3,hl,hbo,hf⟩
 have hblk: ∀g,g< w.heap.size→ ¬(∃cap,β b=some (g,cap))→w'.heap[g]?=w.heap[g]? :=by
  intro g hg hne;refine hgr.block g hg fun e'=>hne ?_
  cases hbb:β b with
  | none=>rw [hbb] at e'; simp at e'
  | some p=>rw [hbb] at e'; simp at e'; exact ⟨p.2,by rw [e']⟩
 have hk: ∀g,g< w.heap.size→ ¬Own β σ.H g→ ¬Own (β.put j q) ((j,.row e t xs2)::(b,.dead)::σ.H) g∧w'.heap[g]?=w.heap[g]? :=by
  intro g hg hn;refine ⟨fun ho=>?_,hblk g hg fun ⟨cap,hc⟩=>hn ⟨b,_,_,hb,rfl,hc,Ql⟩⟩
  rcases hO g ho with ⟨ob,p,hc,hf⟩ | ⟨o,ob,p,_,h1,h2,h3,hf⟩
  ·rcases (hqf ob p g hc hf).2.1 with ⟨cap0,h0⟩ | h0
   ·exact hn ⟨b,_,_,hb,rfl,h0,Ql⟩
   ·omega
  ·exact hn ⟨o,ob,p,h1,h2,h3,hf⟩
 have hn: ∀o ob,look σ.H o=some ob→Step w w' (RO Z (β.put j q) ((j,.row e t xs2)::(b,.dead)::σ.H)) (β o) ob ((β.put j q) o) (look ((j,.row e t xs2)::(b,.dead)::σ.H) o):=by
  intro o ob ho;have e1:j≠o:=fun e'=>by subst e'; rw [hj'] at ho; cases ho
  rw [Qe,if_neg e1,Qe,Qm (fun h=>e1 h.symm)]
  by_cases e2:b=o
  ·rw [if_pos e2]; trivial
  ·rw [if_neg e2,ho];exact QaK fun hl p hp=>hblk p.1 (h.hold o ob p p.1 ho hl hp Ql).2 fun ⟨cap0,h0⟩=>e2 (h.one o b _ _ p _ p.1 ho hl hb rfl hp h0 Ql Ql).symm
 have hbel:Kept M w0 w':=by
  refine h.below.step hgr.os hgr.tape hgr.output hgr.size fun g hg=>?_
  have hg':=Nat.lt_of_lt_of_le hg h.below.size;by_cases hgb: ∃cap,β b=some (g,cap)
  ·rcases htu g hg' with e' | ⟨c,c',e',fz,h1,h2,h3⟩
   ·exact .inl e'
   ·obtain ⟨cap,hc⟩:=hgb;have hmay:=(h.own b _ g cap hb rfl hc).1;exact .inr ⟨c,c',e',fz,h1,h2,h3,fun i hi=>absurd (hmay i) hi⟩
  ·exact .inl (hblk g hg' hgb)
 refine h.move (H':=(j,.row e t xs2)::(b,.dead)::σ.H) hbel (fun o q ho hs _=>⟨by rw [Qm (fun e=>by subst e; rw [hj'] at hs; cases hs)]; exact ho,Qdm (Qdm hs)⟩) hk hn ?_ ?_ ?_ (fun o cs b' base h0 h1 _=>by
  rcases hlook o _ h1 with ⟨_,e⟩ | ⟨_,e⟩ | ⟨_,_,e⟩
  ·cases e
  ·cases e
  ·rw [h0] at e; cases e)
 ·intro o ob p g ho hl hbo hf;rcases hlook o ob ho with ⟨rfl,rfl⟩ | ⟨rfl,rfl⟩ | ⟨h1,h2,h3⟩
  ·rw [Qz] at hbo;have h4:=hqf _ p g hbo hf;refine ⟨?_,h4.2.2⟩;rcases h4.2.1 with ⟨cap0,h0⟩ | h0
   ·exact (h.own b _ g cap0 hb rfl h0).1
   ·exact QjQ h.fresh (Nat.le_trans h.below.size h0)
  ·simp [live] at hl
  ·rw [Qm h1] at hbo;have:=h.hold o ob p g h3 hl hbo hf;have:=hgr.size;exact ⟨(h.hold o ob p g h3 hl hbo hf).1,by omega⟩
 ·intro o1 o2 ob1 ob2 p1' p2' g h1 l1 h2 l2 b1 b2 f1 f2
  have other: ∀o ob ob' p p',o≠b→look σ.H o=some ob→live ob=true→β o=some p→q=some p'→foot ob p g→foot ob' p' g→False:=by
   intro o ob ob' p p' hne ho hl hbo hqq hf hf';rcases (hqf ob' p' g hqq hf').2.1 with ⟨cap0,h0⟩ | h0
   ·exact hne (h.one o b _ _ p _ g ho hl hb rfl hbo h0 hf Ql)
   ·have:=(h.hold o ob p g ho hl hbo hf).2; omega
  rcases hlook o1 ob1 h1 with ⟨rfl,rfl⟩ | ⟨rfl,rfl⟩ | ⟨p1,p2,p3⟩
  ·rcases hlook o2 ob2 h2 with ⟨rfl,rfl⟩ | ⟨rfl,rfl⟩ | ⟨r1,r2,r3⟩
   ·rfl
   ·simp [live] at l2
   ·rw [Qz] at b1; rw [Qm r1] at b2;exact (other o2 ob2 _ _ _ r2 r3 l2 b2 b1 f2 f1).elim
  ·simp [live] at l1
  ·rcases hlook o2 ob2 h2 with ⟨rfl,rfl⟩ | ⟨rfl,rfl⟩ | ⟨r1,r2,r3⟩
   ·rw [Qz] at b2; rw [Qm p1] at b1;exact (other o1 ob1 _ _ _ p2 p3 l1 b1 b2 f1 f2).elim
   ·simp [live] at l2
   ·rw [Qm p1] at b1; rw [Qm r1] at b2;exact h.one o1 o2 ob1 ob2 _ _ g p3 l1 r3 l2 b1 b2 f1 f2
 ·intro o ob ho;rcases hlook o ob ho with ⟨rfl,rfl⟩ | ⟨rfl,rfl⟩ | ⟨h1,h2,h3⟩
  ·rw [Qz]; exact hobj _ _ _ (fun t x cs=>Qaa (Qam hk))
  ·trivial
  ·rw [Qm h1];refine Qda (Qam hk) hk hn (fun g p hbo hl hf=>?_) (h.obj o ob h3)
   refine hblk g (h.hold o ob p g h3 hl hbo hf).2 fun ⟨cap0,h0⟩=>h2 (h.one o b _ _ p _ g h3 hl hb rfl hbo h0 hf Ql)
theorem Qkf {t:TypeId} {r q:Row} {i i2:TypeInfo} {zv z2:Value} {d2:TypeDesc} (hrow:RowOk P T t r i (.slice r.elem) zv) (hrow2:RowOk P T r.elem q i2 d2 z2) (hpos:0< sz q.ty) (hsmall:sz q.ty≤1000)
  {v:Value} {us:List Value} (hv:v.cells=us.toArray) (hl:us.length=sz q.ty):
  (Instr.buildSlice t 1 #[(0,v)]).run P w= .ok (.slice (some ⟨w.heap.size,0,none⟩) 1 1) (w.alloc (.cells us.toArray r.elem)):=by
 have hzl:z2.cells.toList.length=sz q.ty:=Qu (Qfd (w:=w) (S:=fun _=>True) hrow2.zcells)
 have hfill:=Qjv (ρ:=fun _=>v) (s:=sz q.ty) [(0,.tmp 0)] 0 [us] ((Array.range (1*sz q.ty)).map (z2.cells[· % z2.cells.size]!)).toList rfl (.cons ⟨hv,hl⟩ .nil) (by simp)
 rw [Nat.zero_mul,List.take_zero,List.nil_append,Array.toArray_toList] at hfill;have h24: ¬(2 ^ 24< 1*sz q.ty):=by omega
 have h0: ¬(1*sz q.ty=0):=by omega
 simp only [List.map_cons,List.map_nil] at hfill;simp only [Instr.buildSlice,Sem.run_bind,run_underlying hrow.under,Result.andThen_ok,hrow2.run_size,gt_iff_lt,h24,h0,if_false,Sem.run_pure,hrow2.run_zero];rw [hfill];simp [newRow]
theorem RepB.demote (h:RepB Z M N w0 β σ a w) {b:Nat} {e:TypeId} {t:Ty} {xs:List (den t)} {g cap:Nat} (hb:look σ.H b=some (.row e t xs)) (hg:β b=some (g,cap)) (hdr:deep (raw e)=false) (hb9:b< 9000000):
  RepB Z M N w0 (β.put b (some (g,QaJ cap))) (σ.put b (.row (raw e) t xs)) a w:=by
 rcases h.obj b _ hb with ⟨hq,_⟩ | ⟨g',cap',c,rows,hq,hh,hsz,hl,hmx,hrows,hcl,hcp,hnb,hdd⟩
 ·rw [hg] at hq; cases hq
 rw [hg] at hq;simp only [Oie,Pmi] at hq;obtain ⟨rfl,rfl⟩:=hq;have hcc:QaJ (QaJ cap)=QaJ cap:=Qau hmx
 have hlook: ∀o ob,look ((b,.row (raw e) t xs)::σ.H) o=some ob→(o=b∧ob= .row (raw e) t xs)∨(o≠b∧look σ.H o=some ob):=by
  intro o ob ho;rw [Qe] at ho;by_cases e1:b=o
  ·rw [if_pos e1] at ho; exact .inl ⟨e1.symm,(Osj ho).symm⟩
  ·rw [if_neg e1] at ho; exact .inr ⟨Ne.symm e1,ho⟩
 have hfoot: ∀(ob:Ob) g2,foot ob (g,QaJ cap) g2→g2=g:=fun ob g2 hf=>QeH hf hmx
 have hsub: ∀o ob p g2,look ((b,.row (raw e) t xs)::σ.H) o=some ob→live ob=true→(β.put b (some (g,QaJ cap))) o=some p→foot ob p g2→ ∃ob0 p0,look σ.H o=some ob0∧live ob0=true∧β o=some p0∧foot ob0 p0 g2∧(mayW M g2 p0.2 ob0→mayW M g2 p.2 ob):=by
  intro o ob p g2 ho hl2 hp hf;rcases hlook o ob ho with ⟨rfl,rfl⟩ | ⟨h1,h2⟩
  ·rw [Qz] at hp;obtain rfl:=Osj hp;exact ⟨_,_,hb,rfl,hg,.inl (hfoot _ g2 hf),fun h=>h⟩
  ·rw [Qm h1] at hp;exact ⟨ob,p,h2,hl2,hp,hf,id⟩
 have hk: ∀g2,g2< w.heap.size→ ¬Own β σ.H g2→ ¬Own (β.put b (some (g,QaJ cap))) ((b,.row (raw e) t xs)::σ.H) g2∧w.heap[g2]?=w.heap[g2]? :=by
  intro g2 _ hn;refine ⟨?_,rfl⟩;rintro ⟨o,ob,p,ho,hl2,hp,hf⟩;obtain ⟨ob0,p0,k1,k2,k3,k4,_⟩:=hsub o ob p g2 ho hl2 hp hf;exact hn ⟨o,ob0,p0,k1,k2,k3,k4⟩
 have hbit: ∀g2,g2∈bits cap→RO Z (β.put b (some (g,QaJ cap))) ((b,.row (raw e) t xs)::σ.H) g2:=by
  intro g2 h2;refine ⟨h.whole g2 (h.hold b _ _ g2 hb rfl hg (.inr ⟨rfl,h2⟩)).1,?_⟩;rintro ⟨o,ob,p,ho,hl2,hp,hf⟩;rcases hlook o ob ho with ⟨rfl,rfl⟩ | ⟨h1,h3⟩
  ·rw [Qz] at hp;obtain rfl:=Osj hp;exact hnb (hfoot _ g2 hf▸h2)
  ·rw [Qm h1] at hp;exact h1 (h.one o b _ _ p _ g2 h3 hl2 hb rfl hp hg hf (.inr ⟨rfl,h2⟩))
 refine h.move (H':=(b,.row (raw e) t xs)::σ.H) h.below (fun o q hq hs h9=>?_) hk (fun o ob ho=>?_) (fun o ob p g2 ho hl2 hp hf=>?_) (fun o1 o2 ob1 ob2 p1 p2 g2 h1 l1 h2 l2 b1 b2 f1 f2=>?_) (fun o ob ho=>?_) (fun o cs b' base h0 h1 _=>?_)
 ·refine ⟨by rw [Qm (by omega)]; exact hq,?_⟩
  rw [Qe,if_neg (by omega)]; exact hs
 ·rw [Qe];by_cases e1:b=o
  ·subst e1;rw [if_pos rfl,Qz,hg];rw [hb] at ho;obtain rfl:=Osj ho;exact ⟨e,xs,rfl,rfl,⟨rfl,hcc⟩,fun hd=>by rw [hdr] at hd; (cases hd),fun hl2=>by rw [Qgb hdr] at hl2; cases hl2⟩
  ·rw [if_neg e1,Qm (Ne.symm e1),ho];exact QaK fun _ _ _=>rfl
 ·obtain ⟨ob0,p0,k1,k2,k3,k4,k5⟩:=hsub o ob p g2 ho hl2 hp hf;have:=h.hold o ob0 p0 g2 k1 k2 k3 k4;exact ⟨k5 this.1,this.2⟩
 ·obtain ⟨ob0,p0,k1,k2,k3,k4,_⟩:=hsub o1 ob1 p1 g2 h1 l1 b1 f1;obtain ⟨ob0',p0',k1',k2',k3',k4',_⟩:=hsub o2 ob2 p2 g2 h2 l2 b2 f2;exact h.one o1 o2 _ _ p0 p0' g2 k1 k2 k1' k2' k3 k3' k4 k4'
 ·rcases hlook o ob ho with ⟨rfl,rfl⟩ | ⟨h1,h2⟩
  ·rw [Qz];refine (Qae hdr).2 <| .inr ⟨g,QaJ cap,c,rows,rfl,hh,hsz,hl,hmx,Qac (fun _ _ hr=>Qaa (fun g2 hlt hs=>⟨?_,rfl⟩) hr) hrows,hcl⟩
   rcases hs with hs | hs
   ·exact ⟨hs.1,(hk g2 hlt hs.2).1⟩
   ·exact hbit g2 hs
  ·rw [Qm h1];refine Qda (Qam hk) hk (fun o ob ho=>?_) (fun _ _ _ _ _=>rfl) (h.obj o ob h2)
   rw [Qe];by_cases e1:b=o
   ·subst e1;rw [if_pos rfl,Qz,hg];rw [hb] at ho;obtain rfl:=Osj ho;exact ⟨e,xs,rfl,rfl,⟨rfl,hcc⟩,fun hd=>by rw [hdr] at hd; (cases hd),fun hl2=>by rw [Qgb hdr] at hl2; cases hl2⟩
   ·rw [if_neg e1,Qm (Ne.symm e1),ho];exact QaK fun _ _ _=>rfl
 ·rcases hlook o _ h1 with ⟨_,e1⟩ | ⟨_,e1⟩
  ·cases e1
  ·rw [h0] at e1; cases e1
theorem QpJ {r:Row} (h:r.madeOk=true) (ha:r.app=true):raw r.made=r.elem:=by
 unfold Row.madeOk at h;unfold Row.made
 have h0:r.dm≠0:=by
  intro e;unfold Row.app at ha;rw [e] at ha;exact absurd ha (by decide)
 rw [if_neg h0];simp only [Bool.or_eq_true,Bool.and_eq_true,beq_iff_eq] at h;rcases h with h | h
 ·exact absurd h h0
 ·exact h.2
theorem Qmk {y:SV} {p:Nat×Nat×Nat} (h:tokS y=some p):y= .s (.dp p.1 p.2.1 p.2.2 .tok):=by
 unfold tokS at h;split at h
 ·cases h; rfl
 ·cases h
theorem Qlg {T:Tab} {σ:St} {dst:Option Nat} {t:TypeId} {l:List (Nat×Operand)} {p:Nat×Nat×Row×Row×SV} (h:bld1 T σ dst t l=some p):
  ∃x,l=[(p.1,x)]∧dst=some p.2.1∧look T t=some p.2.2.1∧look T p.2.2.1.elem=some p.2.2.2.1∧ev σ x=some p.2.2.2.2:=by
 unfold bld1 at h;split at h
 ·split at h
  ·split at h
   ·cases h;exact ⟨_,rfl,rfl,by assumption,by assumption,by assumption⟩
   ·cases h
  ·cases h
 ·cases h
theorem QsC {nm:Nat} (hT:QR P T=true) (hrep:RepB Z M N w0 β σ a w) (hd:QM o.dst σ.nt=true) (hg:GoOn Z M N w0 σ K y next) (pure:(Qaj T o σ fun q=>K (addO σ o.dst q))=some y→o.wp P a w next Q)
  {t:TypeId} {len:Nat} {parts:Array (Nat×Operand)} (ho:o.op= .buildSlice t len parts) (h:opR T G nm o σ K=some y):o.wp P a w next Q:=by
 unfold opR at h;rw [ho] at h;simp only at h;split at h
 ·rename_i k j r q y1 hb1;obtain ⟨x,hparts,hj,hr,hq,hx⟩:=Qlg hb1;simp only at hparts hj hr hq hx;have eparts:parts= #[(k,x)]:=by rw [←Array.toList_inj]; simpa using hparts
  rw [hj] at hd;split at h
  ·rename_i b i off htk;obtain rfl:=Qmk htk;split at h
   ·rename_i e u xs hb;split at h
    ·rename_i hc;obtain ⟨⟨⟨⟨rfl,rfl⟩,hs1⟩,hty,hdp⟩,⟨⟨hle,hde⟩,hdr⟩,hb9,hn⟩:=hc;obtain ⟨z,hz,h⟩:=Obs h;obtain ⟨y1,hy1,h⟩:=Obs h;obtain ⟨i1,d,zv,hrow⟩:=QA hT hr;obtain ⟨rfl,q',hq',hqt,hpos⟩:=hrow.slice hty;rw [hq] at hq';obtain rfl:=Osj hq';obtain ⟨i2,d2,z2,hrow2⟩:=QA hT hq;have htok:=(VV_s (by intros; simp)).1 (Qh hrep hx)
     simp only [VS,hb] at htok;obtain ⟨hcell,htok⟩:=htok;obtain ⟨hi,g,cap,hg1,htok⟩:=htok hde;obtain ⟨c,e',fz,A0,n0,k0,hh0,hc0,hv⟩:=htok hle;have hr1:=hrep.demote hb hg1 hdr hb9;have hlb:look (σ.put b (.row (raw e) u xs)).H b=some (.row (raw e) u xs):=by simp [St.put,Qe]
     rcases (Qae hdr).1 (hr1.obj b _ hlb) with ⟨hq0,_⟩ | ⟨g',cap',c',rows,hq0,hh,hsz,hl,hmx,hrows,hcl⟩
     ·rw [Qz] at hq0; cases hq0
     rw [Qz] at hq0;simp only [Oie,Pmi] at hq0;obtain ⟨rfl,rfl⟩:=hq0;rw [hh] at hh0;simp only [Oie,Obj.cells.injEq] at hh0;obtain ⟨rfl,_,_⟩:=hh0;obtain ⟨row,hrw1,hrw2⟩:=QeF (fun _ _=>Qu) hrows hz
     obtain ⟨p,m,q1,rfl,hpl,hm⟩:=Qce hy1 hrw1;have hml:=Qu hm;rw [hs1] at hml;have hrl:=Qu hrw1;simp only [List.length_append] at hrl;have hrowsl:=QaC (fun _ _=>Qu) hrows
     have hle2:i*sz u+sz u≤rows.length:=by
      rw [hrowsl];have:(i+1)*sz u≤xs.length*sz u:=Nat.mul_le_mul_right _ hi;rw [Nat.add_mul] at this; omega
     have hmv:m=[a.eval x]:=by
      obtain ⟨v,rfl⟩:=List.length_eq_one_iff.1 hml;have h1:=hrw2 off (by simp only [List.length_singleton] at hrl; omega)
      rw [←hcl _ (by simp only [List.length_singleton] at hrl; omega),hc0,List.append_assoc,List.getElem?_append_right (by omega),hpl,Nat.sub_self] at h1
      simp only [List.cons_append,List.getElem?_cons_zero,Oie] at h1;rw [h1]
     subst hmv
     have hrun:=Qkf (w:=w) hrow hrow2 hpos (by omega) (v:=a.eval x) (us:=[a.eval x]) (by
      have:=Qdj (t:= .bool) (v:=a.eval x) (cs:=[a.eval x]) rfl (fun u hu=>by rw [List.mem_singleton.1 hu]; exact hcell)
      exact this) (by rw [hs1]; rfl)
     refine QD (v:= .slice (some ⟨w.heap.size,0,none⟩) 1 1) (w':=w.alloc (.cells [a.eval x].toArray r.elem)) ?_ ?_
     ·unfold execOp;rw [ho,eparts];simp only [bind_pure_comp,Sem.run_map];have hmap:(#[(0,x)]:Array (Nat×Operand)).map (fun p=>(p.1,a.eval p.2))= #[(0,a.eval x)]:=by simp
      rw [hmap,hrun];rfl
     ·rw [hj]
      have hn1:QV (σ.put b (.row (raw e) u xs)).H j=true:=by
       have hjn:=Qbg hn;have:b≠j:=fun e1=>by subst e1; rw [hb] at hjn; cases hjn
       simp only [QV,St.put,Qe,if_neg this,hjn]; rfl
      have:=hr1.newRow hn1 (show j< σ.nt by simpa [QM] using hd) (e:=r.elem) (t:=q.ty) (xs:=[y1]) (c:=[a.eval x].toArray) (rows:=[a.eval x]) (cap:=1)
       hdp (by simp [hs1]) (by simp) (by unfold maxLen; omega) ⟨[a.eval x],[],by simp,hm,rfl⟩ (by intro i hi; simp)
      exact hg _ h rfl _ _ ⟨_,this⟩
    ·cases h
   ·cases h
  ·split at h
   ·rename_i v hap;obtain ⟨x1,ns,rr⟩:=v;obtain ⟨happ,hgat⟩:=Qcl hap;split at h
    ·rename_i hc;obtain ⟨⟨⟨⟨rfl,rfl⟩,hs1⟩,hty,hmade,hde⟩,⟨⟨hn,hkn⟩,hnn⟩,hall9,hemp⟩:=hc;simp only at hnn hall9 hemp h;have hrr:rr=[]:=by simpa using hemp
     subst hrr;obtain ⟨i1,d,zv,hrow⟩:=QA hT hr;obtain ⟨rfl,q',hq',hqt,hpos⟩:=hrow.slice hty;rw [hq] at hq';obtain rfl:=Osj hq';obtain ⟨i2,d2,z2,hrow2⟩:=QA hT hq;obtain ⟨ms,hms,hall'⟩:=QcJ (Qh hrep hx) hkn;obtain ⟨ms1,v2,hv12,hdm,hnil⟩:=Qjq hrep.owns (hall'.mono fun _ _ h=>h.1) hgat
     cases hnil;rw [List.append_nil] at hv12;subst hv12;have hml:=QbA hdm;have hnsr: ∀o∈ns, ∃e0 t0 ys,look σ.H o=some (.row e0 t0 ys):=Qll hgat;have h9: ∀o∈ns,o< 9000000:=fun o ho=>by simpa using List.all_eq_true.1 hall9 o ho
     have hrun:=Qkf (w:=w) hrow hrow2 hpos hs1 hms hml
     have hF: ∀g,g∈ns.flatMap (blk1 β)→g< w.heap.size∧ ∃o∈ns, ∃ob0 p0,look σ.H o=some ob0∧β o=some p0∧foot ob0 p0 g:=fun g hg=>by
      obtain ⟨o,ho,c,hc⟩:=Qfk.1 hg;obtain ⟨e0,t0,ys,hk⟩:=hnsr o ho;exact ⟨(hrep.hold o _ _ g hk rfl hc (.inl rfl)).2,o,ho,_,_,hk,hc,.inl rfl⟩
     obtain ⟨code,hcode,hbits⟩:=Qfp (cap0:=1) (by unfold maxLen; omega) (ns.flatMap (blk1 β))
     refine QD (v:= .slice (some ⟨w.heap.size,0,none⟩) 1 1) (w':=w.alloc (.cells ms.toArray r.elem)) ?_ ?_
     ·unfold execOp;rw [ho,eparts];simp only [bind_pure_comp,Sem.run_map];have hmap:(#[(0,x)]:Array (Nat×Operand)).map (fun p=>(p.1,a.eval p.2))= #[(0,a.eval x)]:=by simp
      rw [hmap,hrun];rfl
     ·rw [hj];have hraw:=QpJ hmade happ;have hD:Dp (w.alloc (.cells ms.toArray r.elem)) (inn r.made) q.ty x1 ms (ns.flatMap (blk1 β)):=QcZ (fun g hg=>heap_alloc_old w _ g (hF g hg).1) hdm
      have hr1:=hrep.regroup (w':=w.alloc (.cells ms.toArray r.elem)) (j:=j) (ns:=ns) (ob:= .row r.made q.ty [x1]) (q:=some (w.heap.size,code)) hn rfl (fun o ho=>⟨h9 o ho,hnsr o ho⟩) (hrep.below.alloc _) (by simp) (fun g hg _=>heap_alloc_old w _ g hg) (fun p g hq hf=>by
       obtain rfl:=Osj hq;rcases hf with hf | ⟨_,hf⟩
       ·simp only at hf; subst hf; exact ⟨by simp,.inr (Nat.le_refl _)⟩
       ·rw [hbits] at hf;obtain ⟨k1,k2⟩:=hF g hf;exact ⟨by simp; omega,.inl k2⟩) (fun S' β' H' _=>by
       refine .inr ⟨w.heap.size,code,ms.toArray,ms,rfl,by rw [hraw]; exact Qhq w _,by rw [hcode]; simp [hml],by rw [hcode]; simp,by rw [hcode]; unfold maxLen; omega,?_,fun i _=>by simp,.inl hde,fun hb=>?_,fun _=>⟨ns.flatMap (blk1 β),⟨ms,[],ns.flatMap (blk1 β),[],by simp,by simp,hD,rfl,rfl⟩,?_,fun g hg=>(hbits g).2 hg⟩⟩
       ·exact ⟨ms,[],by simp,QkX (fun g hg=> .inr ((hbits g).2 hg)) hD,rfl⟩
       ·have:=(hF _ ((hbits _).1 hb)).1; omega
       ·refine QgK (L:=ns) (fun o o' g2 c1 c2 ho ho' hc1 hc2=>?_) (fun o ho=>ho) (Qan hnn)
        obtain ⟨_,_,_,k1⟩:=hnsr o ho;obtain ⟨_,_,_,k2⟩:=hnsr o' ho';exact hrep.inj o o' _ _ g2 c1 c2 k1 rfl k2 rfl hc1 hc2)
      refine hg _ h rfl _ _ ⟨_,hr1.set (show j< σ.nt by simpa [QM] using hd) ((VV_s (by intros; simp)).2 ?_)⟩
      simp only [VS,Qe,if_true,Qz];show _=_;rw [hcode];rfl
    ·cases h
   ·exact pure h
 ·exact pure h
end ops
end
section
open Go Go.RowKit
section ops
variable {P:Program} {T:Tab} {G:Env} {Z:Nat→Prop} {M:Nat→Nat→Prop} {N:Nat→Option (Option (Nat×Nat))} {w0 w w':World} {β:Qr} {σ:St} {a:Act} {o:Oper} {next:Act→World→Prop} {Q:Exit→Act→World→Prop} {v:Value}
variable {R:Type} {K:St→Option R} {y:R} {S:Nat→Prop} {H:Heap} {qo:Out}
theorem QgV (hO:Owns w S β H) {t:Ty} {x:SV} {v:Value} {ys:List (den t)} (hv:VV w S β H x v) (h:toD true H (.slice t) x=some ys) (hpl:Qcp H x=true):
  ∃A cap,v= .slice A ys.length cap∧ys.length≤cap∧(ys≠[]→ ∃b off rows,A=some ⟨b,off,none⟩∧RpL (Rp w S t) ys rows∧At w b off rows):=by
 have ofRp: ∀{zs:List (den t)} {u:Value},Rp w S (.slice t) zs [u]→ ∃A cap,u= .slice A zs.length cap∧zs.length≤cap∧(zs≠[]→ ∃b off rows,A=some ⟨b,off,none⟩∧RpL (Rp w S t) zs rows∧At w b off rows):=by
  rintro zs u ⟨A,cap,e,hc,hA⟩;refine ⟨A,cap,by simpa using e,hc,fun hne=>?_⟩
  obtain ⟨b,off,e2,_,rows,hr,ha⟩:=hA hne;exact ⟨b,off,rows,e2,hr,ha⟩
 cases x with
 | g cs=>simp [toD,isAg] at h
 | s c=>
  simp only [toD] at h;cases c with
  | any=>simp [Qad] at h
  | p=>simp [Qad] at h
  | pe=>simp [Qad] at h
  | dp=>simp [Qad] at h
  | pd=>simp [Qad] at h
  | fn=>simp [Qad] at h
  | mp=>simp [Qad] at h
  | d s z=>
   simp only [Qad] at h;obtain ⟨e1,e2⟩:=QX h;subst e1;simp only at e2;subst e2;exact ofRp ((VV_d rfl).1 hv)
  | nls=>
   simp only [Qad] at h;obtain rfl:=Osj h;have e:=(VV_s (by intros; simp)).1 hv
   exact ⟨none,0,e,by simp,fun h=>absurd rfl h⟩
  | sl o=>
   have e:=(VV_s (by intros; simp)).1 hv
   simp only [Qad] at h;simp only [VS] at e;split at h
   ·rename_i e2 s xs ho;rw [ho] at e;rw [if_pos trivial] at h;obtain ⟨e3,e4⟩:=QX h;simp only [Ty.slice.injEq] at e3;subst e3;simp only at e4;subst e4;have hd2:deep e2=false:=by simpa [Qcp,ho] using hpl
    rcases (Qae hd2).1 (hO o _ ho) with ⟨hq,hx⟩ | ⟨b,cap,c,rows,hq,hh,hs,hl,hmx,hr,hi⟩
    ·rw [hq] at e;subst hx;exact ⟨none,0,e.1,by simp,fun h=>absurd rfl h⟩
    ·rw [hq] at e;simp only [RowV] at e;rw [Qau hmx] at e;exact ⟨_,cap,e,hl,fun _=>⟨b,0,rows,rfl,hr,c,e2,_,hh,fun i hi'=>by rw [Nat.zero_add]; exact hi i hi'⟩⟩
   ·rename_i s xs ho;rw [ho] at e;obtain ⟨e3,e4⟩:=QX h;simp only [Ty.slice.injEq] at e3;subst e3;simp only at e4;subst e4;exact ofRp e
   ·cases h
  | vw o lo n=>
   have e:=(VV_s (by intros; simp)).1 hv
   simp only [Qad] at h;simp only [VS] at e;split at h
   ·rename_i e2 s xs ho;rw [ho] at e;rw [if_pos trivial] at h;obtain ⟨e3,e4⟩:=QX h;simp only [Ty.slice.injEq] at e3;subst e3;simp only at e4;subst e4;obtain ⟨⟨hd2,h2⟩,⟨v0,h3⟩,h4⟩:=e;have hlen:((xs.drop lo).take n).length=n:=by rw [List.length_take,List.length_drop]; omega
    rcases (Qae hd2).1 (hO o _ ho) with ⟨hq,hx⟩ | ⟨b,cap,c,rows,hq,hh,hs,hl,hmx,hr,hi⟩
    ·rw [hq] at h4;obtain ⟨rfl,rfl,rfl⟩:=h4;exact ⟨none,0,by simp,by simp,fun h=>absurd (by simp) h⟩
    ·rw [hq] at h4;obtain ⟨A,rfl,hA⟩:=h4;refine ⟨A,_,by rw [hlen],by rw [hlen,Qau hmx]; omega,fun hne=>?_⟩
     have hpos:0< n:=by rw [←hlen]; exact List.length_pos_iff.2 hne
     have hrl:=QaC (fun _ _=>Qu) hr
     refine ⟨b,lo*sz s,(rows.drop (lo*sz s)).take (n*sz s),hA hpos,Qeh (fun _ _=>Qu) _ (Qff (fun _ _=>Qu) _ hr),c,e2,_,hh,fun i hi'=>?_⟩
     rw [List.length_take,List.length_drop] at hi';rw [List.getElem?_take,if_pos (by omega),List.getElem?_drop]
     exact hi _ (by omega)
   ·rename_i s xs ho;rw [ho] at e;obtain ⟨e3,e4⟩:=QX h;simp only [Ty.slice.injEq] at e3;subst e3;simp only at e4;subst e4;exact ofRp e
   ·cases h
theorem Qgr {t ty e:TypeId} {i:TypeInfo} (ht:P.underlying t=some (.slice e)) (hi:P.info? e=some i) {size:Nat} {v:Value} {n:Nat} {xs:List Value} (h:w.ownsRow 0 e size v n xs) (c:Nat):
  (Builtin.append_ #[t,t] ty #[v,.slice none 0 c]).run P w= .ok v w:=by
 rcases h.2 with ⟨rfl,rfl⟩ | ⟨g,cap,cur,rfl,_,hh,hn,_⟩
 ·simp [Builtin.append_,run_underlying ht,sizeOf,typeInfo,hi,Builtin.lenOf,Builtin.firstCells]
 ·simp [Builtin.append_,run_underlying ht,sizeOf,typeInfo,hi,Builtin.lenOf,Builtin.firstCells,hn,storeCells]
theorem Qgu {t ty:TypeId} {r q:Row} {i i2:TypeInfo} {z z2:Value} {d2:TypeDesc} (hrow:RowOk P T t r i (.slice r.elem) z) (hrow2:RowOk P T r.elem q i2 d2 z2) (hpos:0< sz q.ty)
  {v:Value} {n:Nat} {xs:List Value} (hown:w.ownsRow 0 r.elem (sz q.ty) v n xs) {ad:Addr} {m c:Nat} {news:List Value} (hl:news.length=m*sz q.ty)
  (hnews: ∀j u,news[j]?=some u→w.cell? (ad.add j)=some u) (h1: ∀u∈news,u.oneCell'=true) (hsz:(n+m)*q.bytes≤140737488355328) (h63:n+m≤maxLen) {v':Value} {w':World}
  (hr:(Builtin.append_ #[t,t] ty #[v,.slice (some ad) m c]).run P w= .ok v' w') (hg:w.grownBy w' v.ownBlock):Qjc w w':=by
 intro g' hg';have hs:i2.size=sz q.ty:=hrow2.size;rcases hown.2 with ⟨rfl,rfl⟩ | ⟨g,cap,cur,rfl,hbg,hgh,hnc,hcm,hcs,htake⟩
 ·exact .inl (hg.block g' hg' (by simp [Value.ownBlock]))
 ·by_cases hroom:n+m≤cap
  ·have hfit:n*i2.size+news.length≤cur.size:=by rw [hl,hcs,hs, ←Nat.add_mul]; exact Nat.mul_le_mul_right _ hroom
   have:=run_append_room (P:=P) w t ty r.elem i2 hrow.under hrow2.info g n cap cur hgh ad m c news (by rw [hs]; exact hl) hnews h1 hroom hfit
   rw [this] at hr;simp only [Result.ok.injEq] at hr;obtain ⟨_,rfl⟩:=hr;by_cases e:g'=g
   ·subst e;exact .inr ⟨cur,_,_,_,hgh,setRow_heap w g' cur _ _ _ hgh,by simp; omega⟩
   ·exact .inl (setRow_other w g g' _ e)
  ·have holds: ∀j u,xs[j]?=some u→w.cell? ((⟨g,0,none⟩:Addr).add j)=some u:=hown.cells (g:=g) rfl
   have:=run_append_grow (P:=P) w t ty r.elem i2 z2 hrow.under hrow2.info hrow2.zero ⟨g,0,none⟩ n cap xs (by rw [hs]; exact hown.1) holds ad m c news (by rw [hs]; exact hl) hnews (by omega) (by unfold maxLen at h63; omega)
    (growslice_fits (by omega) (by rw [hrow2.bytes]; exact hsz))
   rw [this] at hr;simp only [Result.ok.injEq] at hr;obtain ⟨_,rfl⟩:=hr;exact .inl (heap_alloc_old w.drew _ g' hg')
theorem QcV {t ty:TypeId} {r q:Row} {i i2:TypeInfo} {z z2:Value} {d2:TypeDesc} (hrow:RowOk P T t r i (.slice r.elem) z) (hrow2:RowOk P T r.elem q i2 d2 z2) (hpos:0< sz q.ty) (hby:0< q.bytes)
  {v:Value} {n:Nat} {xs:List Value} (hown:w.ownsRow 0 r.elem (sz q.ty) v n xs) {u:Value} {m:Nat} {A:Option Addr} {cap:Nat} (hu:u= .slice A m cap) {Φ:List Value→Prop} (hΦ:m=0→Φ [])
  (hA:m≠0→ ∃b off rows,A=some ⟨b,off,none⟩∧rows.length=m*sz q.ty∧(∀u∈rows,u.oneCell'=true)∧Φ rows∧At w b off rows) (hsz:(n+m)*q.bytes≤140737488355328):
  ∃v' w' news,(Builtin.append_ #[t,t] ty #[v,u]).run P w= .ok v' w'∧w'.ownsRow 0 r.elem (sz q.ty) v' (n+m) (xs++news)∧w.grownBy w' v.ownBlock∧
   (v'.ownBlock=v.ownBlock∨v'.ownBlock=some w.heap.size)∧Qjc w w'∧Φ news:=by
 subst hu;have hzs:z2.cells.size=sz q.ty:=by have:=Qu (Qfd (w:=w) (S:=fun _=>True) hrow2.zcells); simpa using this
 have h63:n+m≤maxLen:=by
  have:=Nat.le_mul_of_pos_right (n+m) hby;unfold maxLen; omega
 by_cases hys:m=0
 ·subst hys;cases A with
  | none=>exact ⟨v,w,[],Qgr hrow.under hrow2.info hown cap,by simpa using hown,⟨rfl,rfl,rfl,Nat.le_refl _,fun _ _ _=>rfl⟩,.inl rfl,fun _ _=> .inl rfl,hΦ rfl⟩
  | some ad=>
   obtain ⟨v',w',h1,h2,h3,_,h5⟩:=run_append_own_at (P:=P) w 0 t ty r.elem i2 z2 (sz q.ty) q.bytes hrow.under hrow2.info hrow2.zero hrow2.size hrow2.bytes hzs hpos v n xs hown ad 0 cap [] (by simp) (by simp) (by simp) (by simpa using h63) (by simpa using hsz) (Nat.zero_le _)
   exact ⟨v',w',[],h1,h2,h3,h5,Qgu hrow hrow2 hpos (ad:=ad) (news:=[]) (m:=0) hown (by simp) (by simp) (by simp) (by simpa using hsz) h63 h1 h3,hΦ rfl⟩
 ·obtain ⟨b,off,rows,rfl,hrl,hone,hr,c,e',fz,hh,hi⟩:=hA hys
  obtain ⟨v',w',h1,h2,h3,_,h5⟩:=run_append_own_at (P:=P) w 0 t ty r.elem i2 z2 (sz q.ty) q.bytes hrow.under hrow2.info hrow2.zero hrow2.size hrow2.bytes hzs hpos v n xs hown ⟨b,off,none⟩ m cap rows hrl (fun j x hj=>by
    have hlt:=(List.getElem?_eq_some_iff.1 hj).1;rw [Qdp,QmJ hh,hi j hlt,hj]) hone h63 hsz (Nat.zero_le _)
  exact ⟨v',w',rows,h1,h2,h3,h5,Qgu hrow hrow2 hpos (ad:=⟨b,off,none⟩) hown hrl (fun j x hj=>by
    have hlt:=(List.getElem?_eq_some_iff.1 hj).1;rw [Qdp,QmJ hh,hi j hlt,hj]) hone hsz h63 h1 h3,hr⟩
theorem Qcr {t ty:TypeId} {r q:Row} {i i2:TypeInfo} {z z2:Value} {d2:TypeDesc} (hrow:RowOk P T t r i (.slice r.elem) z) (hrow2:RowOk P T r.elem q i2 d2 z2) (hpos:0< sz q.ty) (hby:0< q.bytes)
  {v:Value} {n:Nat} {xs:List Value} (hown:w.ownsRow 0 r.elem (sz q.ty) v n xs) {u:Value} {ys:List (den q.ty)} {A:Option Addr} {cap:Nat} (hu:u= .slice A ys.length cap)
  (hA:ys≠[]→ ∃b off rows,A=some ⟨b,off,none⟩∧RpL (Rp w S q.ty) ys rows∧At w b off rows) (hsz:(n+ys.length)*q.bytes≤140737488355328):
  ∃v' w' news,(Builtin.append_ #[t,t] ty #[v,u]).run P w= .ok v' w'∧w'.ownsRow 0 r.elem (sz q.ty) v' (n+ys.length) (xs++news)∧w.grownBy w' v.ownBlock∧
   (v'.ownBlock=v.ownBlock∨v'.ownBlock=some w.heap.size)∧Qjc w w'∧RpL (Rp w S q.ty) ys news:=
 QcV hrow hrow2 hpos hby hown hu (Φ:=RpL (Rp w S q.ty) ys) (fun h=>by obtain rfl:=List.eq_nil_of_length_eq_zero h; rfl) (fun h=>by
  obtain ⟨b,off,rows,h1,h2,h3⟩:=hA (by intro e; subst e; exact h rfl)
  exact ⟨b,off,rows,h1,QaC (fun _ _=>Qu) h2,RpL_cell h2,h2,h3⟩) hsz
where
 RpL_cell: ∀{zs:List (den q.ty)} {rows:List Value},RpL (Rp w S q.ty) zs rows→ ∀u∈rows,u.oneCell'=true
  | [],_,h,u,hu=>by simp only [RpL] at h; subst h; simp at hu
  | x::xs,_,⟨r,rs,e,hx,hr⟩,u,hu=>by
   subst e;rcases List.mem_append.1 hu with hu | hu
   ·exact Qas hx u hu
   ·exact RpL_cell hr u hu
theorem QlX {H:Heap} {y:SV} {b2:Nat} {e2:TypeId} (h:rowD H y=some (b2,e2)):deep e2=true∧y= .s (.sl b2)∧ ∃t2 ys2,look H b2=some (.row e2 t2 ys2):=by
 unfold rowD at h;split at h
 ·split at h
  ·rename_i hb;split at h
   ·rename_i hd;simp only [Oie,Pmi] at h;obtain ⟨rfl,rfl⟩:=h;exact ⟨hd,rfl,_,_,hb⟩
   ·cases h
  ·cases h
 ·cases h
theorem Qja {e1:TypeId} {t:Ty}: ∀{xs ys:List (den t)} {r s:List Value} {F G:List Nat},DpL w e1 t xs r F→DpL w e1 t ys s G→DpL w e1 t (xs++ys) (r++s) (F++G)
 | [],_,_,_,_,_,⟨h1,h2⟩,hy=>by subst h1; subst h2; simpa using hy
 | x::xs,_,_,_,_,_,⟨r,rs,F1,F2,e1,e2,h1,h2⟩,hy=>⟨r,rs++_,F1,F2++_,by rw [e1,List.append_assoc],by rw [e2,List.append_assoc],h1,Qja h2 hy⟩
theorem Qjp {o:Nat} {e:TypeId} {t:Ty} {xs:List (den t)} {v:Value} (hrep:RepB Z M N w0 β σ a w) (ho:look σ.H o=some (.row e t xs)) (hdp:deep e=true) (hv:RowV (β o) xs.length v):
  ∃cs F,w.ownsRow 0 (raw e) (sz t) v xs.length cs∧DpL w (inn e) t xs cs F∧F.Nodup∧v.ownBlock=(β o).map (·.1)∧(∀g∈F, ∃p,β o=some p∧g∈bits p.2∧g≠p.1)∧
   ∃A cap,v= .slice A xs.length cap∧(xs.length≠0→ ∃b,A=some ⟨b,0,none⟩∧At w b 0 cs):=by
 rcases hrep.obj o _ ho with ⟨hq,hx⟩ | ⟨g,cap,c,rows,hq,hh,hs,hl,hmx,hr,hi,hcp,hnb,hdd⟩
 ·subst hx;rw [hq] at hv⊢;obtain ⟨rfl,_⟩:=hv;exact ⟨[],[],World.ownsRow_nil w 0 _ _,⟨rfl,rfl⟩,by simp,rfl,by simp,none,0,rfl,fun h=>absurd rfl h⟩
 ·obtain ⟨F,h1,h2,h3⟩:=hdd hdp;rw [hq] at hv⊢;simp only [RowV] at hv;subst hv;have hrl:=QaC (fun _ _=>Qu) hr
  refine ⟨rows,F,⟨hrl,.inr ⟨g,QaJ cap,c,rfl,Nat.zero_le _,hh,hl,hmx,hs,?_⟩⟩,h1,h2,rfl,fun g2 hg=>⟨(g,cap),rfl,h3 g2 hg,fun e=>hnb (by have:=h3 g2 hg; rw [e] at this; exact this)⟩,_,_,rfl,fun _=>⟨g,rfl,c,_,_,hh,fun i hi2=>by rw [Nat.zero_add]; exact hi i hi2⟩⟩
  apply List.ext_getElem?;intro k;rw [List.getElem?_take];by_cases hk:k< rows.length
  ·rw [if_pos (by omega),Array.getElem?_toList]; exact hi k hk
  ·rw [if_neg (by omega),List.getElem?_eq_none (by omega)]
theorem Qiu {nm:Nat} {ns:List Nat} {e:TypeId} {t:Ty} {zs:List (den t)} {v':Value} {cs:List Value} {F:List Nat} {vb:Option Nat} (hrep:RepB Z M N w0 β σ a w) (hnm:QV σ.H nm=true) (hdp:deep e=true)
  (hns: ∀o∈ns,o< 9000000∧ ∃e0 t0 ys,look σ.H o=some (.row e0 t0 ys)) (hgr:w.grownBy w' vb) (htu:Qjc w w') (hvb: ∀g,vb=some g→ ∃o∈ns, ∃cap,β o=some (g,cap))
  (hown:w'.ownsRow 0 (raw e) (sz t) v' zs.length cs) (hv4:v'.ownBlock=vb∨v'.ownBlock=some w.heap.size) (hD:DpL w (inn e) t zs cs F) (hnd:F.Nodup) (hF: ∀g∈F, ∃o∈ns, ∃p,β o=some p∧g∈bits p.2) (hFv: ∀g∈F,vb≠some g):
  ∃β',RepB Z M N w0 β' { σ with H:=(nm,.row e t zs)::(ns.map (fun o=>(o,Ob.dead))++σ.H) } a w'∧RowV (β' nm) zs.length v':=by
 have hFw: ∀g∈F,g< w.heap.size∧w'.heap[g]?=w.heap[g]? :=fun g hg=>by
  obtain ⟨o,ho,p,hp,hb⟩:=hF g hg;obtain ⟨_,e0,t0,ys,hk⟩:=hns o ho;have:=(hrep.hold o _ p g hk rfl hp (.inr ⟨rfl,hb⟩)).2;exact ⟨this,hgr.block g this fun e=>hFv g hg e.symm⟩
 have hD':=Qef (fun g hg=>(hFw g hg).2) hD
 have hbel:Kept M w0 w':=by
  refine hrep.below.step hgr.os hgr.tape hgr.output hgr.size fun g hg=>?_
  have hg':=Nat.lt_of_lt_of_le hg hrep.below.size;by_cases hgb:vb=some g
  ·rcases htu g hg' with e' | ⟨c,c',e',fz,h1,h2,h3⟩
   ·exact .inl e'
   ·obtain ⟨o,ho,cap,hc⟩:=hvb g hgb;obtain ⟨_,e0,t0,ys,hk⟩:=hns o ho;have hmay:=(hrep.own o _ g cap hk rfl hc).1;exact .inr ⟨c,c',e',fz,h1,h2,h3,fun i hi=>absurd (hmay i) hi⟩
  ·exact .inl (hgr.block g hg' fun e=>hgb e.symm)
 have hblk: ∀g,g< w.heap.size→(∀o∈ns, ∀p,β o=some p→g≠p.1)→w'.heap[g]?=w.heap[g]? :=fun g hg hn=>hgr.block g hg fun e'=>by
  obtain ⟨o,ho,cap,hc⟩:=hvb g e'.symm;exact hn o ho _ hc rfl
 rcases hown.2 with ⟨hv',hn'⟩ | ⟨g,cp,cur,hv',_,hh',hle,hmx',hs',htk⟩
 ·have hnil:zs=[]:=List.eq_nil_of_length_eq_zero hn';refine ⟨β.put nm none,hrep.regroup (q:=none) hnm rfl hns hbel hgr.size hblk (fun p g hq=>by cases hq) (fun S' β' H' _=> .inl ⟨rfl,hnil⟩),?_⟩
  rw [Qz];exact ⟨hv',hn'⟩
 ·obtain ⟨code,hcode,hbits⟩:=Qfp hmx' F;have hvb':v'.ownBlock=some g:=by rw [hv']; rfl
  have hglt:g< w'.heap.size:=(Array.getElem?_eq_some_iff.1 hh').1
  have hgF:g∉F:=fun hg=>by
   rw [hvb'] at hv4;rcases hv4 with h4 | h4
   ·exact hFv g hg h4.symm
   ·simp only [Oie] at h4;have:=(hFw g hg).1; omega
  refine ⟨β.put nm (some (g,code)),hrep.regroup (q:=some (g,code)) hnm rfl hns hbel hgr.size hblk (fun p g2 hq hf=>?_) (fun S' β' H' _=>?_),?_⟩
  ·obtain rfl:=Osj hq;rcases hf with hf | ⟨_,hf⟩
   ·simp only at hf;subst hf;refine ⟨hglt,?_⟩;rw [hvb'] at hv4;rcases hv4 with h4 | h4
    ·obtain ⟨o,ho,cap,hc⟩:=hvb g2 h4.symm;obtain ⟨_,e0,t0,ys,hk⟩:=hns o ho;exact .inl ⟨o,ho,_,_,hk,hc,.inl rfl⟩
    ·simp only [Oie] at h4;exact .inr (by omega)
   ·rw [hbits] at hf;obtain ⟨o,ho,p,hp,hb⟩:=hF g2 hf;obtain ⟨_,e0,t0,ys,hk⟩:=hns o ho;have:=(hFw g2 hf).1;have:=hgr.size;exact ⟨by omega,.inl ⟨o,ho,_,_,hk,hp,.inr ⟨rfl,hb⟩⟩⟩
  ·refine .inr ⟨g,code,cur,cs,rfl,hh',by rw [hcode]; exact hs',by rw [hcode]; exact hle,by rw [hcode]; exact hmx',Qfe (fun g2 hg=> .inr ((hbits g2).2 hg)) hD',fun k hk=>?_,.inl hdp,fun hg=>hgF ((hbits g).1 hg),fun _=>⟨F,hD',hnd,fun g2 hg=>(hbits g2).2 hg⟩⟩
   rw [←htk,List.getElem?_take,if_pos (by rw [←hown.1]; exact hk),Array.getElem?_toList]
  ·rw [Qz];show _=_;rw [hcode]; exact hv'
theorem QsB {nm:Nat} (hT:QR P T=true) (hrep:RepB Z M N w0 β σ a w) (hd:QM o.dst σ.nt=true) (hg:GoOn Z M N w0 σ K y next) {c:Call} (ho:o.op= .call c) (hc:c.callee= .builtin .append)
  (h:opR T G nm o σ K=some y):o.wp P a w next Q:=by
 unfold opR at h;rw [ho] at h;simp only [hc,ite2] at h;split at h
 ·rename_i x x2 t t' j hargs htys hj;have eargs:c.args= #[x,x2]:=by rw [←Array.toList_inj]; simpa using hargs
  have etys:c.argTypes= #[t,t']:=by rw [←Array.toList_inj]; simpa using htys
  have run: ∀v' w',(Builtin.append_ #[t,t'] o.type #[a.eval x,a.eval x2]).run P w= .ok v' w'→(execOp a.eval o).run P w= .ok (.value v') w':=by
   intro v' w' hr;unfold execOp;rw [ho];simp [resolve,hc,eargs,etys,invoke,builtin,hr]
  rw [hj] at hd;split at h
  ·rename_i r hr;split at h
   ·rename_i q hq;split at h
    ·rename_i hty;obtain ⟨hty,htt,hdp⟩:=hty;subst htt;obtain ⟨i,d,zv,hrow⟩:=QA hT hr;obtain ⟨rfl,q',hq',hqt,hpos⟩:=hrow.slice hty;rw [hq] at hq';obtain rfl:=Osj hq';obtain ⟨i2,d2,z2,hrow2⟩:=QA hT hq;split at h
     ·rename_i b y1 hx hx2;split at h
      ·rename_i e u xs hb;split at h
       ·rename_i hdp0;split at h
        ·rename_i b2 e2 hrd;obtain ⟨xs',hxs,h⟩:=Obs h;obtain ⟨ys,hys,h⟩:=Obs h;split at h
         ·rename_i hcond;obtain ⟨⟨⟨⟨hse,hse2⟩,hraw,hby⟩,⟨hne,hb9,hb29⟩,hn⟩,hsz⟩:=hcond;obtain ⟨e3,e4⟩:=QX hxs;simp only [Ty.slice.injEq] at e3;subst e3;simp only at e4;subst e4;obtain ⟨hd2,rfl,t2,ys2,hb2⟩:=QlX hrd;have hvs2:=(VV_s (by intros; simp)).1 (Qh hrep hx2)
          simp only [VS,hb2] at hvs2;simp only [toD,Qad,hb2,if_true] at hys;obtain ⟨e5,e6⟩:=QX hys;simp only [Ty.slice.injEq] at e5;subst e5;simp only at e6;subst e6;have hvs:=(VV_s (by intros; simp)).1 (Qh hrep hx)
          simp only [VS,hb] at hvs;obtain ⟨cs,F,hown,hD,hnd,hblk,hF,_⟩:=Qjp hrep hb hdp0 hvs;obtain ⟨cs2,F2,hown2,hD2,hnd2,_,hF2,A,cap,hu,hA⟩:=Qjp hrep hb2 hd2 hvs2
          have hinn2:inn e2=inn e:=by
           rcases QdH hse2 with h | h
           ·rw [h]
           ·exact h.2.2.2.symm
          have hinn:inn (e % 1000000000000)=inn e:=by
           rcases QdH hse with h | h
           ·rw [←h]
           ·exact h.2.2.2.symm
          have hraw':raw (e % 1000000000000)=r.elem:=by
           rcases QdH hse with h | h
           ·rw [←h]; exact hraw
           ·rw [←h.2.2.1]; exact hraw
          rw [hinn2] at hD2;rw [hraw] at hown
          obtain ⟨v',w',news,h1,h2,h3,h4,htu,rfl⟩:=QcV (ty:=o.type) hrow hrow2 hpos hby hown hu (Φ:=fun rows=>rows=cs2) (fun h=>by
           have:=hown2.1;rw [h,Nat.zero_mul] at this;exact (List.eq_nil_of_length_eq_zero this).symm) (fun h=>by
           obtain ⟨b',hb',hat⟩:=hA h;exact ⟨b',0,cs2,hb',hown2.1,Qcr.RpL_cell (Qfe (S:=fun _=>True) (fun _ _=>trivial) hD2),rfl,hat⟩) hsz
          refine QD (run _ _ h1) ?_;rw [hj];have apart: ∀g p p2,β b=some p→foot (.row e q.ty xs) p g→β b2=some p2→foot (.row e2 q.ty ys2) p2 g→False:=fun g p p2 k1 k2 k3 k4=>hne (hrep.one b b2 _ _ p p2 g hb rfl hb2 rfl k1 k3 k2 k4)
          obtain ⟨β',hr',hv'⟩:=Qiu (nm:=nm) (ns:=[b2,b]) (e:=e % 1000000000000) (t:=q.ty) (zs:=xs++ys2) (v':=v') (cs:=cs++news) (F:=F++F2) (vb:=(a.eval x).ownBlock) hrep hn (by rw [←QeT hse]; exact hdp0) (fun o ho=>by
            rcases List.mem_cons.1 ho with rfl | ho
            ·exact ⟨hb29,_,_,_,hb2⟩
            ·rw [List.mem_singleton.1 ho]; exact ⟨hb9,_,_,_,hb⟩) h3 htu (fun g hg2=>by
            rw [hblk] at hg2;obtain ⟨p,hp,e7⟩:=Option.map_eq_some_iff.1 hg2;exact ⟨b,by simp,p.2,by rw [hp, ←e7]⟩) (by rw [hraw',List.length_append]; exact h2) h4 (by rw [hinn]; exact Qja hD hD2) (List.nodup_append.2 ⟨hnd,hnd2,fun g hg1 g' hg2 e7=>by
            subst e7;obtain ⟨p,k1,k2,_⟩:=hF g hg1;obtain ⟨p2,k3,k4,_⟩:=hF2 g hg2;exact apart g p p2 k1 (.inr ⟨rfl,k2⟩) k3 (.inr ⟨rfl,k4⟩)⟩) (fun g hg2=>by
            rcases List.mem_append.1 hg2 with k | k
            ·obtain ⟨p,k1,k2,_⟩:=hF g k;exact ⟨b,by simp,p,k1,k2⟩
            ·obtain ⟨p,k1,k2,_⟩:=hF2 g k;exact ⟨b2,by simp,p,k1,k2⟩) (fun g hg2 e7=>by
            rw [hblk] at e7;obtain ⟨p,hp,e8⟩:=Option.map_eq_some_iff.1 e7;rcases List.mem_append.1 hg2 with k | k
            ·obtain ⟨p',k1,k2,k3⟩:=hF g k;rw [hp] at k1;obtain rfl:=Osj k1;exact k3 e8.symm
            ·obtain ⟨p',k1,k2,k3⟩:=hF2 g k;exact apart g p p' hp (.inl e8.symm) k1 (.inr ⟨rfl,k2⟩))
          refine hg _ h rfl _ _ ⟨β',hr'.set (show j< σ.nt by simpa [QM] using hd) ((VV_s (by intros; simp)).2 ?_)⟩
          simp only [VS,St.put,Qe,if_true];exact hv'
         ·cases h
        ·cases h
       obtain ⟨ys,hys,h⟩:=Obs h;obtain ⟨xs',hxs,h⟩:=Obs h;split at h
       ·rename_i hcond;obtain ⟨⟨rfl,hby,_,hn,hpl⟩,hsz⟩:=hcond;obtain ⟨e3,e4⟩:=QX hxs;simp only [Ty.slice.injEq] at e3;subst e3;simp only at e4;subst e4;obtain ⟨A,cap,hu,_,hA⟩:=QgV hrep.owns (Qh hrep hx2) hys hpl;have hvs:=(VV_s (by intros; simp)).1 (Qh hrep hx)
        simp only [VS,hb] at hvs
        have hown: ∃cs,w.ownsRow 0 r.elem (sz q.ty) (a.eval x) xs.length cs∧RpL (Rp w (RO Z β σ.H) q.ty) xs cs∧(a.eval x).ownBlock=(β b).map (·.1):=by
         rcases (Qae hdp).1 (hrep.obj b _ hb) with ⟨hq1,hx1⟩ | ⟨g,cp,cc,rows,hq1,hh,hs,hl,hmx,hr1,hi⟩
         ·rw [hq1] at hvs;subst hx1;obtain ⟨e5,_⟩:=hvs;refine ⟨[],?_,rfl,by rw [e5,hq1]; rfl⟩
          rw [e5];exact World.ownsRow_nil w 0 r.elem _
         ·rw [hq1] at hvs;simp only [RowV] at hvs;rw [Qau hmx] at hvs;have hrl:=QaC (fun _ _=>Qu) hr1
          refine ⟨rows,⟨hrl,.inr ⟨g,cp,cc,hvs,Nat.zero_le _,hh,hl,hmx,hs,?_⟩⟩,hr1,by rw [hvs,hq1]; rfl⟩
          apply List.ext_getElem?;intro k;rw [List.getElem?_take];by_cases hk:k< rows.length
          ·rw [if_pos (by omega),Array.getElem?_toList]; exact hi k hk
          ·rw [if_neg (by omega),List.getElem?_eq_none (by omega)]
        obtain ⟨cs,hown,hcs,hblk⟩:=hown;obtain ⟨v',w',news,h1,h2,h3,h4,htu,h5⟩:=Qcr (ty:=o.type) hrow hrow2 hpos hby hown hu hA hsz;refine QD (run _ _ h1) ?_;rw [hj];have hall:=QeE hcs h5;rcases h2.2 with ⟨hv',hn'⟩ | ⟨g,cp,cur,hv',_,hh',hle,hmx',hs',htk⟩
        ·have hnil:xs++ys=[]:=List.eq_nil_of_length_eq_zero (by rw [List.length_append]; exact hn')
         refine hg _ h rfl _ _ ⟨β.put nm none,?_⟩;have:=hrep.append (w':=w') (q:=none) (xs2:=xs++ys) hb hn hdp (by rw [←hblk]; exact h3) htu (by intro g cap hq; cases hq) (fun S' β' H' _=> .inl ⟨rfl,hnil⟩)
         refine this.set (show j< σ.nt by simpa [QM] using hd) ((VV_s (by intros; simp)).2 ?_)
         simp only [VS,St.put,Qe,if_true,Qz];exact ⟨hv',by rw [hnil]; rfl⟩
        ·refine hg _ h rfl _ _ ⟨β.put nm (some (g,cp)),?_⟩;have hvb:v'.ownBlock=some g:=by rw [hv']; rfl
         have hglt:g< w'.heap.size:=(Array.getElem?_eq_some_iff.1 hh').1
         have:=hrep.append (w':=w') (q:=some (g,cp)) (xs2:=xs++ys) hb hn hdp (by rw [←hblk]; exact h3) htu (by
          intro g' cap' hq;simp only [Oie,Pmi] at hq;obtain ⟨rfl,rfl⟩:=hq;rw [hvb,hblk] at h4;rcases h4 with h4 | h4
          ·obtain ⟨p,hp,e6⟩:=Option.map_eq_some_iff.1 h4.symm;have hpp:β b=some (g,p.2):=by rw [hp, ←e6]
           exact ⟨⟨.inl ⟨p.2,hpp⟩,hglt⟩,hmx'⟩
          ·simp only [Oie] at h4;exact ⟨⟨.inr (by omega),hglt⟩,hmx'⟩) (fun S' β' H' hm=>by
          refine (Qae hdp).2 <| .inr ⟨g,cp,cur,cs++news,rfl,hh',hs',by rw [List.length_append]; exact hle,hmx',Qac (fun _ _=>hm _ _ _) hall,fun k hk=>?_⟩
          rw [←htk,List.getElem?_take,if_pos (by rw [←h2.1]; exact hk),Array.getElem?_toList])
         refine this.set (show j< σ.nt by simpa [QM] using hd) ((VV_s (by intros; simp)).2 ?_)
         simp only [VS,St.put,Qe,if_true,Qz,RowV];rw [hv',List.length_append,Qau hmx']
       ·cases h
      ·cases h
     ·rename_i y1 hx hx2;split at h
      ·rename_i b2 e2 hrd;obtain ⟨ys,hys,h⟩:=Obs h;split at h
       ·rename_i hcond;obtain ⟨⟨⟨hse,hraw,hby⟩,hb29,hn⟩,hsz⟩:=hcond;obtain ⟨hd2,rfl,t2,ys2,hb2⟩:=QlX hrd;have hvs2:=(VV_s (by intros; simp)).1 (Qh hrep hx2)
        simp only [VS,hb2] at hvs2;simp only [toD,Qad,hb2,if_true] at hys;obtain ⟨e5,e6⟩:=QX hys;simp only [Ty.slice.injEq] at e5;subst e5;simp only at e6;subst e6;have hvs:a.eval x= .slice none 0 0:=(VV_s (by intros; simp)).1 (Qh hrep hx)
        obtain ⟨cs2,F2,hown2,hD2,hnd2,_,hF2,A,cap,hu,hA⟩:=Qjp hrep hb2 hd2 hvs2
        have hinn:inn (e2 % 1000000000000)=inn e2:=by
         rcases QdH hse with h | h
         ·rw [←h]
         ·exact h.2.2.2.symm
        have hraw':raw (e2 % 1000000000000)=r.elem:=by
         rcases QdH hse with h | h
         ·rw [←h]; exact hraw
         ·rw [←h.2.2.1]; exact hraw
        have hown:w.ownsRow 0 r.elem (sz q.ty) (a.eval x) 0 []:=by rw [hvs]; exact World.ownsRow_nil w 0 r.elem _
        obtain ⟨v',w',news,h1,h2,h3,h4,htu,rfl⟩:=QcV (ty:=o.type) hrow hrow2 hpos hby hown hu (Φ:=fun rows=>rows=cs2) (fun h=>by
         have:=hown2.1;rw [h,Nat.zero_mul] at this;exact (List.eq_nil_of_length_eq_zero this).symm) (fun h=>by
         obtain ⟨b',hb',hat⟩:=hA h;exact ⟨b',0,cs2,hb',hown2.1,Qcr.RpL_cell (Qfe (S:=fun _=>True) (fun _ _=>trivial) hD2),rfl,hat⟩) (by simpa using hsz)
        rw [Nat.zero_add,List.nil_append] at h2;have hblk:(a.eval x).ownBlock=none:=by rw [hvs]; rfl
        refine QD (run _ _ h1) ?_;rw [hj]
        obtain ⟨β',hr',hv'⟩:=Qiu (nm:=nm) (ns:=[b2]) (e:=e2 % 1000000000000) (t:=q.ty) (zs:=ys2) (v':=v') (cs:=news) (F:=F2) (vb:=(a.eval x).ownBlock) hrep hn (by rw [←QeT hse]; exact hd2) (fun o ho=>by
          rw [List.mem_singleton.1 ho]; exact ⟨hb29,_,_,_,hb2⟩) h3 htu (fun g hg2=>by rw [hblk] at hg2; cases hg2) (by rw [hraw']; exact h2) h4 (by rw [hinn]; exact hD2) hnd2 (fun g hg2=>by
          obtain ⟨p,k1,k2,_⟩:=hF2 g hg2;exact ⟨b2,by simp,p,k1,k2⟩) (fun g hg2 e7=>by rw [hblk] at e7; cases e7)
        refine hg _ h rfl _ _ ⟨β',hr'.set (show j< σ.nt by simpa [QM] using hd) ((VV_s (by intros; simp)).2 ?_)⟩
        simp only [VS,St.put,Qe,if_true];exact hv'
       ·cases h
      obtain ⟨ys,hys,h⟩:=Obs h;split at h
      ·rename_i hcond;obtain ⟨⟨hby,hn,hpl⟩,hsz⟩:=hcond;obtain ⟨A,cap,hu,_,hA⟩:=QgV hrep.owns (Qh hrep hx2) hys hpl;have hvs:a.eval x= .slice none 0 0:=(VV_s (by intros; simp)).1 (Qh hrep hx)
       have hown:w.ownsRow 0 r.elem (sz q.ty) (a.eval x) 0 []:=by rw [hvs]; exact World.ownsRow_nil w 0 r.elem _
       obtain ⟨v',w',news,h1,h2,h3,h4,htu,h5⟩:=Qcr (ty:=o.type) hrow hrow2 hpos hby hown hu hA (by simpa using hsz)
       refine QD (run _ _ h1) ?_;rw [hj];have hblk:(a.eval x).ownBlock=none:=by rw [hvs]; rfl
       rw [hblk] at h3 h4;rw [Nat.zero_add,List.nil_append] at h2;have hbel:Kept M w0 w':=hrep.below.step h3.os h3.tape h3.output h3.size fun k hk=> .inl (h3.block k (Nat.lt_of_lt_of_le hk hrep.below.size) (by simp))
       have hold: ∀b,b< w.heap.size→w'.heap[b]?=w.heap[b]? :=fun b hb=>h3.block b hb (by simp)
       rcases h2.2 with ⟨hv',hn'⟩ | ⟨g,cp,cur,hv',_,hh',hle,hmx',hs',htk⟩
       ·have hnil:ys=[]:=List.eq_nil_of_length_eq_zero hn';refine hg _ h rfl _ _ ⟨β.put nm none,?_⟩;have:=hrep.new (w':=w') (q:=none) (ob:= .row r.elem q.ty ys) hn hbel hold h3.size (by intro b p hq; cases hq) (fun S' β' H' _ _=> .inl ⟨rfl,hnil⟩)
        refine this.set (show j< σ.nt by simpa [QM] using hd) ((VV_s (by intros; simp)).2 ?_)
        simp only [VS,St.put,Qe,if_true,Qz];exact ⟨hv',hn'⟩
       ·refine hg _ h rfl _ _ ⟨β.put nm (some (g,cp)),?_⟩;have hvb:v'.ownBlock=some g:=by rw [hv']; rfl
        have hglt:g< w'.heap.size:=(Array.getElem?_eq_some_iff.1 hh').1
        have:=hrep.new (w':=w') (q:=some (g,cp)) (ob:= .row r.elem q.ty ys) hn hbel hold h3.size (by
         intro b p hq _ hf;obtain rfl:=Osj hq;obtain rfl:=QeH hf hmx';rw [hvb] at h4;rcases h4 with h4 | h4
         ·cases h4
         ·simp only [Oie] at h4; omega) (fun S' β' H' _ hm=>by
         refine (Qae hdp).2 <| .inr ⟨g,cp,cur,news,rfl,hh',hs',hle,hmx',Qac (fun _ _=>hm _ _ _) h5,fun k hk=>?_⟩
         rw [←htk,List.getElem?_take,if_pos (by rw [←h2.1]; exact hk),Array.getElem?_toList])
        refine this.set (show j< σ.nt by simpa [QM] using hd) ((VV_s (by intros; simp)).2 ?_)
        simp only [VS,St.put,Qe,if_true,Qz,RowV];rw [Qau hmx'];exact hv'
      ·cases h
     ·cases h
    ·cases h
   ·cases h
  ·cases h
 ·cases h
end ops
end
section
open Go Go.RowKit
variable {P:Program} {T:Tab} {Z:Nat→Prop} {M:Nat→Nat→Prop} {N:Nat→Option (Option (Nat×Nat))} {w0 w w':World} {β:Qr} {σ:St} {a:Act} {o:Oper} {next:Act→World→Prop} {Q:Exit→Act→World→Prop} {qo:Out} {S S':Nat→Prop} {H:Heap}
theorem QkR {dT sT ty elem:TypeId} {g off dLen dCap k:Nat} {x:Addr} {sLen sCap:Nat} {cur:Array Value} {t:TypeId} {cs:List Value} {i:TypeInfo}
  (hu:P.underlying dT=some (.slice elem)) (hi:P.info? elem=some i) (hk:i.size=k)
  (hg:w.heap[g]?=some (.cells cur t (0,0))) (hn:cs.length=Nat.min sLen dLen*k)
  (hsrc: ∀j v,cs[j]?=some v→w.cell? (x.add j)=some v) (hfit:off+cs.length≤cur.size) (h1: ∀v∈cs,v.oneCell'=true):
  (Builtin.copy_ #[dT,sT] ty #[.slice (some ⟨g,off,none⟩) dLen dCap,.slice (some x) sLen sCap]).run P w=
   .ok (goInt (Nat.min sLen dLen)) (w.setRow g (cur.toList.take off++cs++cur.toList.drop (off+cs.length)).toArray):=by
 have hl:=run_loadCells_list (P:=P) w x cs hsrc;have hst:=run_storeCells_at P g off t cs 0 cur w hg (by simpa using hfit) h1
 simp [Builtin.copy_,run_underlying hu,Builtin.lenOf,Builtin.firstCells,sizeOf,typeInfo,hi,hk, ←hn,hl,hst]
theorem At.cell {b off:Nat} {rows:List Value} (h:At w b off rows) {j:Nat} {v:Value} (hv:rows[j]?=some v):w.cell? ((⟨b,off,none⟩:Addr).add j)=some v:=by
 obtain ⟨c,e,fz,hh,hi⟩:=h;have hj:j< rows.length:=(List.getElem?_eq_some_iff.1 hv).1;have hadd:(⟨b,off,none⟩:Addr).add j=⟨b,off+j,none⟩:=by unfold Addr.add; split <;> simp_all
 rw [hadd];simp [World.cell?,hh,hi j hj,hv]
theorem At.take {b off n:Nat} {rows:List Value} (h:At w b off rows):At w b off (rows.take n):=by
 obtain ⟨c,e,fz,hh,hi⟩:=h;refine ⟨c,e,fz,hh,fun i hin=>?_⟩
 simp only [List.length_take] at hin;rw [hi i (by omega),List.getElem?_take,if_pos (by omega)]
theorem QvF (hT:QR P T=true) (hrep:RepB Z M N w0 β σ a w) (hd:QM o.dst σ.nt=true) (hg:GoP Z M N w0 σ o qo next) {c:Call} (ho:o.op= .call c) (hc:c.callee= .builtin .copy)
  (h:QL T o σ=some qo):o.wp P a w next Q:=by
 unfold QL Qaj at h;rw [ho] at h;simp only [hc] at h;split at h
 ·rename_i x x' t t' hargs htys;have eargs:c.args= #[x,x']:=by rw [←Array.toList_inj]; simpa using hargs
  have etys:c.argTypes= #[t,t']:=by rw [←Array.toList_inj]; simpa using htys
  split at h
  ·rename_i r d y hr hx hx';split at h
   ·rename_i q hq;split at h
    ·rename_i hty;obtain ⟨⟨g0,l0,n0⟩,hvw,h⟩:=Obs h;simp only at h;split at h
     ·rename_i e u xs hrow0;obtain ⟨ys,hys,h⟩:=Obs h;obtain ⟨xs',hxs,h⟩:=Obs h;rw [ite2] at h;split at h
      ·rename_i hcond;obtain ⟨hpl,hn0,hy0⟩:=hcond;obtain rfl:=Osj h;clear h;obtain ⟨i1,d1,z1,hrow⟩:=QA hT hr;obtain ⟨i2,d2,z2,hrow2⟩:=QA hT hq;obtain ⟨rfl,_⟩:=hrow.slice hty;obtain ⟨e',xs2,v0,hrow1,hdp,hfit,hv0,hvw1,hcap⟩:=QkF hrep.owns hvw (Qh hrep hx);rw [hrow0] at hrow1;simp only [Oie,Ob.row.injEq] at hrow1;obtain ⟨rfl,rfl,hxx⟩:=hrow1;have hxx:=eq_of_heq hxx;subst hxx;obtain ⟨_,hxs⟩:=QX hxs;simp only at hxs;subst hxs
       --where the row lies
       rcases (Qae hdp).1 (hrep.obj g0 _ hrow0) with ⟨hq0,hnil⟩ | ⟨g,cap,cc,rows,hq0,hh,hsz,hlen,hmx,hrows,hi⟩
       ·subst hnil;simp only [List.length_nil,Nat.le_zero_eq] at hfit;omega
       rw [hq0] at hvw1;obtain ⟨A,hva,hA⟩:=hvw1;obtain rfl:=hA hn0
       --what is copied
       obtain ⟨A',cap',hvb,hle',hsrc⟩:=QgV hrep.owns (Qh hrep hx') hys hpl;obtain ⟨b',off',rows',rfl,hrp',hat⟩:=hsrc (by intro hnil; subst hnil; simp at hy0)
       have hrl:=QaC (fun _ _=>Qu) hrows
       have hrl':=QaC (fun _ _=>Qu) hrp'
       have hm:Nat.min ys.length n0≤ys.length∧Nat.min ys.length n0≤n0:=⟨Nat.min_le_left _ _,Nat.min_le_right _ _⟩;generalize hmm:Nat.min ys.length n0=m at hm
       have hcl:(rows'.take (m*sz q.ty)).length=m*sz q.ty:=by
        rw [List.length_take,hrl',Nat.min_eq_left (Nat.mul_le_mul_right _ hm.1)]
       have hle:l0*sz q.ty+m*sz q.ty≤rows.length:=by
        rw [hrl, ←Nat.add_mul];exact Nat.mul_le_mul_right _ (by omega)
       have hcap2:rows.length≤cc.size:=by rw [hrl,hsz]; exact Nat.mul_le_mul_right _ hlen
       have hrun:=QkR (P:=P) (w:=w) (dT:=t) (sT:=t') (ty:=o.type) (elem:=r.elem) (g:=g) (off:=l0*sz q.ty) (dLen:=n0) (dCap:=QaJ cap-l0) (k:=sz q.ty) (x:=⟨b',off',none⟩) (sLen:=ys.length) (sCap:=cap')
        (cs:=rows'.take (m*sz q.ty)) hrow.under hrow2.info hrow2.size hh (by rw [hcl,hmm]) (fun j v hv=>hat.take.cell hv) (by omega)
        (fun v hv=>by
         have: ∀{ys:List (den q.ty)} {rs:List Value},RpL (Rp w (RO Z β σ.H) q.ty) ys rs→ ∀v∈rs,v.oneCell'=true:=by
          intro ys
          induction ys with
          | nil=>intro rs h v hv; simp only [RpL] at h; subst h; simp at hv
          | cons y ys ih=>
           intro rs h v hv;obtain ⟨r1,r2,rfl,h1,h2⟩:=h;rcases List.mem_append.1 hv with hv | hv
           ·exact Qas h1 v hv
           ·exact ih h2 v hv
         exact this hrp' v (List.mem_of_mem_take hv))
       have hmay:=(hrep.own g0 _ g cap hrow0 rfl hq0).1
       have hpre:cc.toList.take rows.length=rows:=by
        apply List.ext_getElem?;intro j;rw [List.getElem?_take];split
        ·rw [Array.getElem?_toList]; exact hi j ‹_›
        ·rw [List.getElem?_eq_none (by omega)]
       have hccl:cc.toList=rows++cc.toList.drop rows.length:=by
        conv=>lhs; rw [←List.take_append_drop rows.length cc.toList]
        rw [hpre]
       generalize hrest:cc.toList.drop rows.length=rest at hccl
       have hnew:cc.toList.take (l0*sz q.ty)++rows'.take (m*sz q.ty)++cc.toList.drop (l0*sz q.ty+(rows'.take (m*sz q.ty)).length)=
         (rows.take (l0*sz q.ty)++(rows'.take (m*sz q.ty)++rows.drop ((l0+m)*sz q.ty)))++rest:=by
        rw [hccl,hcl,List.take_append_of_le_length (by omega),List.drop_append_of_le_length (by omega),Nat.add_mul]
        simp [List.append_assoc]
       have hxl:(splc xs ys l0 n0).length=xs.length:=by
        unfold splc;simp only [List.length_append,List.length_take,List.length_drop];have:min n0 ys.length=m:=by rw [←hmm,Nat.min_comm]
        omega
       have hturn:RepB Z M N w0 β (σ.put g0 (.row e q.ty (splc xs ys l0 n0))) a (w.setRow g (cc.toList.take (l0*sz q.ty)++rows'.take (m*sz q.ty)++cc.toList.drop (l0*sz q.ty+(rows'.take (m*sz q.ty)).length)).toArray):=by
        refine hrep.turn hrow0 rfl rfl hq0 (fun _=>⟨e,xs,rfl,hxl.symm,QcX.refl,id,fun hl=>by rw [Qgb hdp] at hl; cases hl⟩) (fun b' hf=>(hrep.hold g0 _ _ b' hrow0 rfl hq0 hf).1) (fun _=>Iff.rfl)
         (Qej hrep.below hh (by simp; omega) (fun i hi=>absurd (hmay i) hi)) (by simp) (fun b' hb'=>setRow_other w g b' _ fun e=>hb' (.inl e)) ?_
        intro S' H' _ hm';refine (Qae hdp).2 <| .inr ⟨g,cap,_,rows.take (l0*sz q.ty)++(rows'.take (m*sz q.ty)++rows.drop ((l0+m)*sz q.ty)),hq0,setRow_heap w g cc _ e (0,0) hh,?_,by rw [hxl]; exact hlen,hmx,?_,?_⟩
        ·rw [List.size_toArray,hnew];simp only [List.length_append,List.length_take,List.length_drop,Nat.add_mul]
         have:rows.length+rest.length=cc.size:=by
          have:=congrArg List.length hccl;simp only [List.length_append,Array.length_toList] at this;omega
         rw [hrl',Nat.min_eq_left (Nat.mul_le_mul_right _ hm.1)];omega
        ·unfold splc;have e1:min n0 ys.length=m:=by rw [←hmm,Nat.min_comm]
         have e2:ys.take n0=ys.take m:=by
          rw [←e1];by_cases hlt:n0≤ys.length
          ·rw [Nat.min_eq_left hlt]
          ·rw [List.take_of_length_le (by omega),List.take_of_length_le (by omega)]
         rw [e1,e2];have hA:=Qac (fun _ _=>hm' _ _ _) hrows
         have hB:=Qac (fun _ _=>hm' _ _ _) hrp'
         exact QeE (Qeh (fun _ _=>Qu) _ hA) (QeE (Qeh (fun _ _=>Qu) _ hB) (Qff (fun _ _=>Qu) _ hA))
        ·intro j hj;rw [hnew,List.getElem?_toArray,List.getElem?_append_left hj]
       have hval:VV (w.setRow g (cc.toList.take (l0*sz q.ty)++rows'.take (m*sz q.ty)++cc.toList.drop (l0*sz q.ty+(rows'.take (m*sz q.ty)).length)).toArray) (RO Z β (σ.put g0 (.row e q.ty (splc xs ys l0 n0))).H) β (σ.put g0 (.row e q.ty (splc xs ys l0 n0))).H (.s (.d (.int .i64) ((min n0 ys.length:Nat):Int))) (goInt m):=by
        have e1:min n0 ys.length=m:=by rw [←hmm,Nat.min_comm]
        rw [e1];exact Qbj ⟨rfl,rfl⟩
       refine QD (v:=goInt m) (w':=(w.setRow g (cc.toList.take (l0*sz q.ty)++rows'.take (m*sz q.ty)++cc.toList.drop (l0*sz q.ty+(rows'.take (m*sz q.ty)).length)).toArray)) ?_ (hg _ _ ⟨β,RepB.val hturn hd hval⟩);unfold execOp;rw [ho];simp only [Sem.run_bind];simp [resolve,hc,eargs,etys,invoke,builtin,hva,hvb,hrun,hmm]
      ·cases h
     ·cases h
    ·cases h
   ·cases h
  ·cases h
 ·cases h
end
end Go.Proofs.YtkkljegcnnfanaaGreatDoor.S
