/- The machinery S, part 5: a run of a program's code over typed symbolic data, and that it is what the code does. -/
import Derived.Test.YtkkljegcnnfanaaGreatDoorS4
import Derived.ProofKit
import Derived.WideKeyArgs
import Derived.Laws.Cover3
import Derived.Lib.AppendZeros
set_option linter.unusedVariables false
set_option linter.unusedSimpArgs false
namespace Go.Proofs.YtkkljegcnnfanaaGreatDoor.S
section
open Go Go.RowKit
variable {T:Tab} {G:Env} {σ σ2:St} {o:Oper} {R:Type} {H H2:Heap} {own:Bool}
def preE (i:Option Nat) (x:Sl):List (Nat×Sl):=match i with | some j=>[(j,x)] | none=>[]
theorem Qbm {σ:St} {i:Option Nat} {x:SV}:σ.sets i x=⟨σ.nt,preE i (.v x)++σ.env,σ.H⟩:=by
 cases i <;> rfl
theorem Qkl {σ:St} {i:Option Nat}:σ.skip i=⟨σ.nt,preE i (.t [])++σ.env,σ.H⟩:=by
 cases i <;> rfl
theorem Qkj {i:Option Nat} {x:Sl} {env:List (Nat×Sl)}:Qqd i x env=preE i x++env:=by
 cases i <;> rfl
theorem QaI {i:Option Nat} {x:Sl}: ∀p∈preE i x,i=some p.1:=by
 intro p hp;cases i with
 | none=>simp [preE] at hp
 | some j=>simp [preE] at hp; subst hp; rfl
def St.pre (σ:St) (pe:List (Nat×Sl)) (pH:Heap):St:=⟨σ.nt,pe++σ.env,pH++σ.H⟩
def Loc (T:Tab) (G:Env) (nm:Nat) (o:Oper) (σ:St) (pe:List (Nat×Sl)) (pH:Heap):Prop:=
 ∀σ2,AgO o σ σ2→agN σ.H σ2.H (pH.map (·.1))→opR T G nm o σ2 some=some (σ2.pre pe pH)
theorem Qnv {q:Out} {p:Heap} (h:frz σ.H q.fr=p++σ.H):addO σ o.dst q=σ.pre (preE o.dst q.x) (q.n++p):=by
 unfold addO St.pre;rw [h,List.append_assoc];cases o.dst <;> rfl
theorem QfK {nm:Nat} {σ':St} (hp: ∀σ2,σ2=σ∨AgO o σ σ2→opR T G nm o σ2 some=Qaj T o σ2 fun q=>some (addO σ2 o.dst q)) (h:opR T G nm o σ some=some σ'):
  ∃pe pH,σ'=σ.pre pe pH∧(∀p∈pe,o.dst=some p.1)∧Loc T G nm o σ pe pH:=by
 rw [hp σ (.inl rfl),QdF] at h;obtain ⟨q,hq,h⟩:=Obs h;obtain rfl:=Osj h;obtain ⟨p,hfp,h2⟩:=Qho (H:=σ.H) q.fr;refine ⟨preE o.dst q.x,q.n++p,Qnv hfp,QaI,fun σ2 hg hn=>?_⟩
 obtain ⟨e1,e2⟩:=QsG hg hq (hn.sub fun n hm=>by rw [List.map_append]; exact List.mem_append_left _ hm)
 rw [hp σ2 (.inr hg),QdF,e1,Obn,Qnv (h2 σ2.H e2)]
theorem Qtc {nm:Nat} {σ':St} {t:TypeId} {a x:Operand} (ho:o.op= .store t a x) (h:opR T G nm o σ some=some σ'):
  ∃pe pH,σ'=σ.pre pe pH∧(∀p∈pe,o.dst=some p.1)∧Loc T G nm o σ pe pH:=by
 have hma:a∈o.op.operands:=by simp [ho,Op.operands]
 have hmx:x∈o.op.operands:=by simp [ho,Op.operands]
 unfold opR at h;rw [ho] at h;simp only at h;split at h
 ·rename_i r b off y h1 h2 h3;split at h
  ·rename_i cs hb;split at h
   ·rename_i hc;obtain rfl:=Osj h;refine ⟨preE o.dst (.v (.s .any)),[(b,.box (QfM cs off (cellsOf y)))],Qbm,QaI,fun σ2 hg hn=>?_⟩
    unfold opR;rw [ho];simp only;rw [hg.ev a hma,hg.ev x hmx];simp only [h1,h2,h3];rw [(hg.nmv (by rw [ho]; rfl) (by rw [ho]; rfl) a hma _ h2).close b (by simp [Qk,Qj]),hb]
    simp only;rw [if_pos hc];exact congrArg some Qbm
   ·cases h
  ·cases h
 ·rename_i r b i off y h1 h2 h3;split at h
  ·rename_i v H' htk;split at h
   ·rename_i e u xs hb;obtain ⟨z,hz,h⟩:=Obs h;obtain ⟨z',hz',h⟩:=Obs h;obtain rfl:=Osj h;obtain ⟨p,hp, -⟩:=Qmi (H2:=σ.H) (fun n _=>rfl) htk
    refine ⟨preE o.dst (.v (.s .any)),(b,.row e u (xs.set i z'))::p,?_,QaI,fun σ2 hg hn=>?_⟩
    ·rw [Qbm,hp]; rfl
    ·unfold opR;rw [ho];simp only;rw [hg.ev a hma,hg.ev x hmx];simp only [h1,h2,h3];obtain ⟨p2,hp2,htk2⟩:=Qmi (hg.nmv (by rw [ho]; rfl) (by rw [ho]; rfl) x hmx _ h3) htk
     obtain rfl:p=p2:=List.append_cancel_right (hp.symm.trans hp2);rw [htk2];simp only;have hag:=((hg.nmv (by rw [ho]; rfl) (by rw [ho]; rfl) a hma _ h2).close.pre p) b (by simp [Qk,Qj])
     rw [hag, ←hp,hb];simp only [hz,hz',Obn];exact congrArg some Qbm
   ·cases h
  ·cases h
 ·rename_i r b i off jj y h1 h2 h3;split at h
  ·rename_i e u xs hb;split at h
   ·rename_i hc;obtain ⟨v,hv,h⟩:=Obs h;obtain ⟨z,hz,h⟩:=Obs h;obtain ⟨ys,hys,h⟩:=Obs h;obtain ⟨z',hz',h⟩:=Obs h;obtain rfl:=Osj h;refine ⟨preE o.dst (.v (.s .any)),[(b,.row e u (xs.set i z'))],Qbm,QaI,fun σ2 hg hn=>?_⟩
    unfold opR;rw [ho];simp only;rw [hg.ev a hma,hg.ev x hmx];simp only [h1,h2,h3];rw [(hg.nmv (by rw [ho]; rfl) (by rw [ho]; rfl) a hma _ h2).close b (by simp [Qk,Qj]),hb]
    simp only;rw [if_pos hc,QbP (hg.nmv (by rw [ho]; rfl) (by rw [ho]; rfl) x hmx _ h3).close,hv,Obn]
    simp only [hz,hys,hz',Obn];exact congrArg some Qbm
   ·cases h
  ·cases h
 ·rename_i r b i off y h1 h2 h3;split at h
  ·rename_i e u xs hb;split at h
   ·cases h
   rename_i hdp0;split at h
   ·rename_i hsl;obtain ⟨v,hv,h⟩:=Obs h;obtain ⟨z,hz,h⟩:=Obs h;obtain ⟨s4,hs4,h⟩:=Obs h;obtain ⟨z',hz',h⟩:=Obs h;obtain rfl:=Osj h;refine ⟨preE o.dst (.v (.s .any)),[(b,.row e u (xs.set i z'))],Qbm,QaI,fun σ2 hg hn=>?_⟩
    unfold opR;rw [ho];simp only;rw [hg.ev a hma,hg.ev x hmx];simp only [h1,h2,h3];rw [(hg.nmv (by rw [ho]; rfl) (by rw [ho]; rfl) a hma _ h2).close b (by simp [Qk,Qj]),hb]
    simp only;rw [if_neg hdp0,if_pos hsl,QbP (hg.nmv (by rw [ho]; rfl) (by rw [ho]; rfl) x hmx _ h3).close,hv,Obn]
    simp only [hz,hs4,hz',Obn];exact congrArg some Qbm
   ·rename_i hsl;obtain ⟨⟨x1,ns,rr⟩,hgat,h⟩:=Obs h;split at h
    ·rename_i hcd;obtain ⟨z,hz,h⟩:=Obs h;obtain ⟨z',hz',h⟩:=Obs h;obtain rfl:=Osj h;refine ⟨preE o.dst (.v (.s .any)),(b,.row (e % 1000000000000) u (xs.set i z'))::ns.map (fun o=>(o,Ob.dead)),?_,QaI,fun σ2 hg hn=>?_⟩
     ·rw [Qbm]; rfl
     ·unfold opR;rw [ho];simp only;rw [hg.ev a hma,hg.ev x hmx];simp only [h1,h2,h3];rw [(hg.nmv (by rw [ho]; rfl) (by rw [ho]; rfl) a hma _ h2).close b (by simp [Qk,Qj]),hb]
      simp only;rw [if_neg hdp0,if_neg hsl,Qhj ((hg.nmv (by rw [ho]; rfl) (by rw [ho]; rfl) x hmx _ h3).close.sub Qgw),hgat,Obn]
      simp only at hcd hz'⊢;rw [if_pos hcd];simp only [hz,hz',Obn];exact congrArg some Qbm
    ·cases h
  ·cases h
 ·cases h
theorem Qqx {nm:Nat} {σ':St} {t:TypeId} {m x v:Operand} (ho:o.op= .mapUpdate t m x v) (h:opR T G nm o σ some=some σ'):
  ∃pe pH,σ'=σ.pre pe pH∧(∀p∈pe,o.dst=some p.1)∧Loc T G nm o σ pe pH:=by
 have hmm:m∈o.op.operands:=by simp [ho,Op.operands]
 have hmx:x∈o.op.operands:=by simp [ho,Op.operands]
 have hmv:v∈o.op.operands:=by simp [ho,Op.operands]
 unfold opR at h;rw [ho] at h;simp only at h;split at h
 ·rename_i tk b n yv h0 h1 h2 h3 h4;split at h
  ·rename_i es hb;obtain rfl:=Osj h;refine ⟨[],[(b,.map (setM es n yv))],rfl,fun p hp=>by simp at hp,fun σ2 hg hn=>?_⟩
   unfold opR;rw [ho];simp only;rw [hg.ev m hmm,hg.ev x hmx,hg.ev v hmv];simp only [h0,h1,h2,h3,h4];rw [(hg.nmv (by rw [ho]; rfl) (by rw [ho]; rfl) m hmm _ h2).close b (by simp [Qk,Qj]),hb]
   rfl
  ·cases h
 ·cases h
theorem Qkc {H H2:Heap} {y:SV} (h:agN H H2 (Qk y)):rowD H2 y=rowD H y:=by
 unfold rowD;split
 ·rename_i b;rw [h b (by simp [Qk,Qj])]
 ·rfl
theorem Qty {t:TypeId} {len:Nat} {parts:Array (Nat×Operand)} (ho:o.op= .buildSlice t len parts) (hg:AgO o σ σ2):bld1 T σ2 o.dst t parts.toList=bld1 T σ o.dst t parts.toList:=by
 unfold bld1;split
 ·rename_i k x hl
  have:x∈o.op.operands:=by
   have:(k,x)∈parts:=by rw [←Array.mem_toList_iff,hl]; simp
   simp only [ho,Op.operands]; simp; exact ⟨k,by simpa using this⟩
  rw [hg.ev x this]
 ·rfl
theorem Qot {H H2:Heap} {r:Row} {t:Ty} {y:SV} (h:agN H H2 (Qk y)):ownD r H2 t y=ownD r H t y:=by
 unfold ownD;rw [Qhj (h.sub Qgw)]
theorem QrL {nm:Nat} {σ':St} {t:TypeId} {len:Nat} {parts:Array (Nat×Operand)} (ho:o.op= .buildSlice t len parts) (h:opR T G nm o σ some=some σ'):
  ∃pe pH,σ'=σ.pre pe pH∧(∀p∈pe,o.dst=some p.1)∧Loc T G nm o σ pe pH:=by
 have agr: ∀σ2,σ2=σ∨AgO o σ σ2→bld1 T σ2 o.dst t parts.toList=bld1 T σ o.dst t parts.toList:=fun σ2 h2=>by
  rcases h2 with rfl | h2
  ·rfl
  ·exact Qty ho h2
 have h0:=h;unfold opR at h;rw [ho] at h;simp only at h;split at h
 ·rename_i k j r q y1 hb1;obtain ⟨x,h1,h2,h3,h4,h5⟩:=Qlg hb1;simp only at h1 h2 h3 h4 h5
  have hmx:x∈o.op.operands:=by
   have:(k,x)∈parts:=by rw [←Array.mem_toList_iff,h1]; simp
   simp only [ho,Op.operands]; simp; exact ⟨k,by simpa using this⟩
  split at h
  ·rename_i b i off htk;split at h
   ·rename_i e u xs hb;split at h
    ·rename_i hc;obtain ⟨z,hz,h⟩:=Obs h;obtain ⟨y2,hy1,h⟩:=Obs h;obtain rfl:=Osj h;refine ⟨preE o.dst (.v (.s (.sl j))),[(j,.row r.elem q.ty [y2]),(b,.row (raw e) u xs)],?_,QaI,fun σ2 hg hn=>?_⟩
     ·rw [h2]; rfl
     ·unfold opR;rw [ho];simp only;rw [agr σ2 (.inr hg),hb1];simp only [htk];have hny:=hg.nmv (by rw [ho]; rfl) (by rw [ho]; rfl) x hmx _ h5
      rw [hny.close b (by rw [Qmk htk]; simp [Qk,Qj]),hb]
      simp only;rw [Qay (H:=σ.H) (hn.sub (by simp)),if_pos hc]
      simp only [hz,hy1,Obn];rw [h2];rfl
    ·cases h
   ·cases h
  ·rename_i htk;split at h
   ·rename_i v hap;obtain ⟨x1,ns,rr⟩:=v;split at h
    ·rename_i hc;obtain rfl:=Osj h;refine ⟨preE o.dst (.v (.s (.sl j))),(j,.row r.made q.ty [x1])::ns.map (fun o=>(o,Ob.dead)),?_,QaI,fun σ2 hg hn=>?_⟩
     ·rw [h2]; rfl
     ·unfold opR;rw [ho];simp only;rw [agr σ2 (.inr hg),hb1];simp only [htk];have hny:=hg.nmv (by rw [ho]; rfl) (by rw [ho]; rfl) x hmx _ h5
      rw [Qot hny.close,hap];simp only at hc⊢;rw [Qay (H:=σ.H) (hn.sub (by simp)),if_pos hc,h2]
      rfl
    ·cases h
   ·rename_i hap;refine QfK (fun σ2 h2'=>?_) h0
    unfold opR;rw [ho];simp only;rw [agr σ2 h2',hb1];simp only [htk]
    have e:ownD r σ2.H q.ty y1=none:=by
     rcases h2' with rfl | h2'
     ·exact hap
     ·rw [Qot (h2'.nmv (by rw [ho]; rfl) (by rw [ho]; rfl) x hmx _ h5).close]; exact hap
    rw [e]
 ·rename_i hb1;refine QfK (fun σ2 h2'=>?_) h0
  unfold opR;rw [ho];simp only;rw [agr σ2 h2',hb1]
theorem Qpl {nm:Nat} {σ':St} {c:Call} (ho:o.op= .call c) (hc:c.callee= .builtin .append) (h:opR T G nm o σ some=some σ'):
  ∃pe pH,σ'=σ.pre pe pH∧(∀p∈pe,o.dst=some p.1)∧Loc T G nm o σ pe pH:=by
 unfold opR at h;rw [ho] at h;simp only [hc] at h;split at h
 ·rename_i s x t t' j h1 h2 h3
  have hms:s∈o.op.operands:=by
   have:s∈c.args:=by rw [←Array.mem_toList_iff,h1]; simp
   simp [ho,Op.operands,Call.operands,this]
  have hmx:x∈o.op.operands:=by
   have:x∈c.args:=by rw [←Array.mem_toList_iff,h1]; simp
   simp [ho,Op.operands,Call.operands,this]
  split at h
  ·rename_i r h4;split at h
   ·rename_i q h5;split at h
    ·rename_i hty;split at h
     ·rename_i b y h6 h7;split at h
      ·rename_i e u xs hb;split at h
       ·rename_i hdp;split at h
        ·rename_i b2 e2 hrd;obtain ⟨xs',hxs,h⟩:=Obs h;obtain ⟨ys,hys,h⟩:=Obs h;split at h
         ·rename_i hcd;split at h
          ·rename_i hle;obtain rfl:=Osj h;refine ⟨preE o.dst (.v (.s (.sl nm))),[(nm,.row (e % 1000000000000) q.ty (xs'++ys)),(b2,.dead),(b,.dead)],?_,QaI,fun σ2 hg hn=>?_⟩
           ·rw [h3]; rfl
           ·unfold opR;rw [ho];simp only [hc,h1,h2,h3,h4,h5];rw [if_pos hty,hg.ev s hms,hg.ev x hmx];simp only [h6,h7];have hny:=hg.nmv (by rw [ho]; rfl) (by rw [ho]; rfl) x hmx _ h7
            rw [(hg.nmv (by rw [ho]; rfl) (by rw [ho]; rfl) s hms _ h6).close b (by simp [Qk,Qj]),hb]
            simp only;rw [if_pos hdp,Qkc hny.close,hrd];simp only;rw [hxs,Obn,QbP hny.close,hys,Obn,Qay (hn.sub (by simp)),if_pos hcd,if_pos hle]
            rfl
          ·cases h
         ·cases h
        ·cases h
       rename_i hdp;obtain ⟨ys,hys,h⟩:=Obs h;obtain ⟨xs',hxs,h⟩:=Obs h;split at h
       ·rename_i hcd;split at h
        ·rename_i hle;obtain rfl:=Osj h;refine ⟨preE o.dst (.v (.s (.sl nm))),[(nm,.row r.elem q.ty (xs'++ys)),(b,.dead)],?_,QaI,fun σ2 hg hn=>?_⟩
         ·rw [h3]; rfl
         ·unfold opR;rw [ho];simp only [hc,h1,h2,h3,h4,h5];rw [if_pos hty,hg.ev s hms,hg.ev x hmx];simp only [h6,h7];have hny:=hg.nmv (by rw [ho]; rfl) (by rw [ho]; rfl) x hmx _ h7
          rw [(hg.nmv (by rw [ho]; rfl) (by rw [ho]; rfl) s hms _ h6).close b (by simp [Qk,Qj]),hb]
          simp only;rw [if_neg hdp,QbP hny.close,hys,Obn,hxs,Obn,QbI hny.close,QeR hny.close,Qay (hn.sub (by simp)),if_pos hcd,if_pos hle]
          rfl
        ·cases h
       ·cases h
      ·cases h
     ·rename_i y h6 h7;split at h
      ·rename_i b2 e2 hrd;obtain ⟨ys,hys,h⟩:=Obs h;split at h
       ·rename_i hcd;split at h
        ·rename_i hle;obtain rfl:=Osj h;refine ⟨preE o.dst (.v (.s (.sl nm))),[(nm,.row (e2 % 1000000000000) q.ty ys),(b2,.dead)],?_,QaI,fun σ2 hg hn=>?_⟩
         ·rw [h3]; rfl
         ·unfold opR;rw [ho];simp only [hc,h1,h2,h3,h4,h5];rw [if_pos hty,hg.ev s hms,hg.ev x hmx];simp only [h6,h7];have hny:=hg.nmv (by rw [ho]; rfl) (by rw [ho]; rfl) x hmx _ h7
          rw [Qkc hny.close,hrd];simp only;rw [QbP hny.close,hys,Obn,Qay (hn.sub (by simp)),if_pos hcd,if_pos hle]
          rfl
        ·cases h
       ·cases h
      rename_i hrd;obtain ⟨ys,hys,h⟩:=Obs h;split at h
      ·rename_i hcd;split at h
       ·rename_i hle;obtain rfl:=Osj h;refine ⟨preE o.dst (.v (.s (.sl nm))),[(nm,.row r.elem q.ty ys)],?_,QaI,fun σ2 hg hn=>?_⟩
        ·rw [h3]; rfl
        ·unfold opR;rw [ho];simp only [hc,h1,h2,h3,h4,h5];rw [if_pos hty,hg.ev s hms,hg.ev x hmx];simp only [h6,h7];have hny:=hg.nmv (by rw [ho]; rfl) (by rw [ho]; rfl) x hmx _ h7
         rw [Qkc hny.close,hrd];simp only;rw [QbP hny.close,hys,Obn,QeR hny.close,Qay (hn.sub (by simp)),if_pos hcd,if_pos hle]
         rfl
       ·cases h
      ·cases h
     ·cases h
    ·cases h
   ·cases h
  ·cases h
 ·cases h
theorem QsM {p:PK} {x:SV}: ∀o∈QgD H p x,o∈Qv H x:=by
 intro o ho;cases p with
 | box ci co=>
  simp only [QgD] at ho;split at ho
  ·rename_i b off;split at ho
   ·rename_i cs hb;simp only [Qv,hb];simp only [QO,List.mem_filterMap] at ho⊢;obtain ⟨s1,hs1,hs2⟩:=ho;exact ⟨s1,List.mem_of_mem_drop (List.mem_of_mem_take hs1),hs2⟩
   ·cases ho
  ·cases ho
 | _=>exact ho
theorem Qke: ∀{ps:List PK} {xs:List SV} {o:Nat},o∈QbM H ps xs→ ∃x∈xs,o∈Qv H x
 | p::r,x::xs,o,h=>by
  simp only [QbM] at h;rcases List.mem_append.1 h with h | h
  ·exact ⟨x,by simp,QsM o h⟩
  ·obtain ⟨y,h1,h2⟩:=Qke h;exact ⟨y,by simp [h1],h2⟩
 | [],_,_,h=>by simp [QbM] at h
 | _::_,[],_,h=>by simp [QbM] at h
theorem QsL {p:PK} {x:SV} (h:agN H H2 (Qk x)):QgD H2 p x=QgD H p x:=by
 cases p with
 | box ci co=>
  simp only [QgD];split
  ·rename_i b off;rw [h b (by simp [Qk,Qj])]
  ·rfl
 | _=>exact QbI h
theorem Qkd: ∀{ps:List PK} {xs:List SV},(∀x∈xs,agN H H2 (QaD H (Qk x)))→QbM H2 ps xs=QbM H ps xs
 | p::r,x::xs,h=>by
  simp only [QbM];rw [QsL (h x (by simp)).close,Qkd fun y hy=>h y (by simp [hy])]
 | [],_,_=>rfl
 | _::_,[],_=>rfl
theorem QrM {cn:Con} {b i off:Nat} {y:SV} {dst:Option Nat} {σ':St} (h:Qgv cn b i off y dst σ some=some σ'):
  ∃pe pH,σ'=σ.pre pe pH∧(∀p∈pe,dst=some p.1)∧ ∀σ2:St,look σ2.H b=look σ.H b→(∀t,toD false σ2.H t y=toD false σ.H t y)→Qgv cn b i off y dst σ2 some=some (σ2.pre pe pH):=by
 unfold Qgv at h;split at h
 ·rename_i e1 t1 t2 t3 F;split at h
  ·rename_i e u xs hb;split at h
   ·rename_i hc;obtain ⟨n,hn,h⟩:=Obs h;obtain ⟨z,hz,h⟩:=Obs h;obtain ⟨ys,hys,h⟩:=Obs h;obtain ⟨r,hF,h⟩:=Obs h;obtain ⟨z',hz',h⟩:=Obs h;split at h
    ·rename_i hlen;obtain rfl:=Osj h;refine ⟨preE dst (.v (.s (.d t3 r.1.1))),[(b,.row e u (xs.set i z'))],Qbm,QaI,fun σ2 h1 h2=>?_⟩
     unfold Qgv;simp only [h1,hb,h2,hn,Obn,hz,hys,hF,hz'];rw [if_pos hc,if_pos hlen];exact congrArg some Qbm
    ·cases h
   ·cases h
  ·cases h
 ·cases h
theorem Qpp {cn:Con} {b i off:Nat} {y:SV} {dst:Option Nat} {K:St→Option R}:Qgv cn b i off y dst σ K=(Qgv cn b i off y dst σ some).bind K:=by
 unfold Qgv;split
 ·split
  ·split
   ·simp only [Option.bind_assoc];congr 1;funext n;congr 1;funext z;congr 1;funext ys;congr 1;funext r;congr 1;funext z';split <;> rfl
   ·rfl
  ·rfl
 ·rfl
theorem QtC {nm:Nat} {σ':St} {c:Call} {f:Operand} (ho:o.op= .call c) (hc:c.callee= .value f) (h:opR T G nm o σ some=some σ'):
  ∃pe pH,σ'=σ.pre pe pH∧(∀p∈pe,o.dst=some p.1)∧Loc T G nm o σ pe pH:=by
 unfold opR at h;rw [ho] at h;simp only [hc] at h;have hmf:f∈o.op.operands:=by simp [ho,Op.operands,Call.operands,hc]
 have hm: ∀x∈c.args.toList,x∈o.op.operands:=fun x hx=>by
  simp only [ho,Op.operands,Call.operands]; simp at hx; simp [hx]
 split at h
 ·rename_i g lc xs0 h1 h2;split at h
  ·rename_i q0 htk;split at h
   ·rename_i cn h3;obtain ⟨pe,pH,e1,e2,e3⟩:=QrM h;obtain ⟨rfl,rfl⟩:=Qmj htk;refine ⟨pe,pH,e1,e2,fun σ2 hg hn=>?_⟩
    have hx: ∀x∈[SV.s (.dp q0.1 q0.2.1 q0.2.2.1 .tok),q0.2.2.2],agN σ.H σ2.H (QaD σ.H (Qk x)):=fun x hx=>by
     obtain ⟨p,hp,hpx⟩:=Qhw h2 x hx;exact hg.nmv (by rw [ho]; rfl) (by rw [ho]; rfl) p (hm p hp) x hpx
    unfold opR;rw [ho];simp only [hc];rw [hg.ev f hmf,QbU (g:=S.ev σ) fun x hx=>hg.ev x (hm x hx)]
    simp only [h1,h2,htk,h3];exact e3 σ2 ((hx (SV.s (.dp q0.1 q0.2.1 q0.2.2.1 .tok)) (by simp)).close q0.1 (by simp [Qk,Qj])) fun t=>QbP (hx q0.2.2.2 (by simp)).close
   ·cases h
  rename_i htk;generalize hxx:(xs0++lc.map fun c=>SV.s (capS c))=xs at h
  split at h
  ·rename_i cn h3;unfold Qjm at h;obtain ⟨q,hq,h⟩:=Obs h;split at h
   ·rename_i hck;obtain ⟨y,hy,h⟩:=Obs h;simp only at h;split at h
    ·rename_i hck2;obtain rfl:=Osj h
     have hxs: ∀(σ2:St),AgO o σ σ2→ ∀x∈xs,agN σ.H σ2.H (QaD σ.H (Qk x)):=fun σ2 hg x hx=>by
      rw [←hxx] at hx;rcases List.mem_append.1 hx with hx | hx
      ·obtain ⟨p,hp,hpx⟩:=Qhw h2 x hx;exact hg.nmv (by rw [ho]; rfl) (by rw [ho]; rfl) p (hm p hp) x hpx
      ·obtain ⟨c,hc,rfl⟩:=List.mem_map.1 hx;refine (hg.nmv (by rw [ho]; rfl) (by rw [ho]; rfl) f hmf _ h1).sub (QgL fun n hn=>?_)
       simp only [Qk,Qj,List.mem_flatMap];refine ⟨c,hc,?_⟩;cases c with
       | pd t z=>simp [capS,Qk,Qj] at hn
       | p o off=>simpa [capS,Qk,Qj] using hn
     generalize hfr:(if QgC cn.ps cn.rs=true then List.filter (fun o=>!q.2.1.contains o) (QbM σ.H cn.ps xs) else [])=fr at*
     obtain ⟨p,hp,h4⟩:=Qho (H:=σ.H) fr;refine ⟨preE o.dst (tup (mkVs nm cn.rs y.1).1),((mkVs nm cn.rs y.1).2++(outA (nm+250) σ.H cn.ps y.2 xs).1)++((outA (nm+250) σ.H cn.ps y.2 xs).2++(q.2.1.map (fun o=>(o,Ob.dead))++p)),?_,QaI,fun σ2 hg hn=>?_⟩
     ·rw [Qkj,hp];simp only [St.pre,List.append_assoc]
     ·have hx:=hxs σ2 hg;unfold opR;rw [ho];simp only [hc];rw [hg.ev f hmf,QbU (g:=S.ev σ) fun x hx=>hg.ev x (hm x hx)]
      simp only [h1,h2,htk,hxx,h3];unfold Qjm;rw [Qle hx,hq,Obn,Qjx hx,Qoo hx,if_pos hck,hy,Obn];simp only
      rw [QdB hx,Qhx (H:=σ.H) (hn.sub fun n hn=>by
       rw [List.map_append]; exact List.mem_append_left _ hn),if_pos hck2]
      have hrows:QbM σ2.H cn.ps xs=QbM σ.H cn.ps xs:=Qkd hx
      rw [hrows,hfr,h4 σ2.H (fun n hn=>by
       rw [←hfr] at hn;split at hn
       ·obtain ⟨x,hxm,hn⟩:=Qke (List.mem_filter.1 hn).1;exact Qgi (hx x hxm) n hn
       ·simp at hn),Qkj]
      simp only [St.pre,List.append_assoc]
    ·cases h
   ·cases h
  ·cases h
 ·cases h
theorem Qrb {nm:Nat} {σ':St} (h:opR T G nm o σ some=some σ'):
  ∃pe pH,σ'=σ.pre pe pH∧(∀p∈pe,o.dst=some p.1)∧Loc T G nm o σ pe pH:=by
 cases ho:o.op with
 | store t a x=>exact Qtc ho h
 | buildSlice t len parts=>exact QrL ho h
 | mapUpdate t m x v=>exact Qqx ho h
 | call c=>
  cases hc:c.callee with
  | builtin b=>
   cases b with
   | append=>exact Qpl ho hc h
   | _=>exact QfK (fun σ _=>by unfold opR; rw [ho]; simp only [hc]) h
  | value f=>exact QtC ho hc h
  | _=>exact QfK (fun σ _=>by unfold opR; rw [ho]; simp only [hc]) h
 | _=>exact QfK (fun σ _=>by unfold opR; rw [ho]) h
theorem Qpo {nm:Nat} {cn:Con} {xs:List SV} {dst:Option Nat} {K:St→Option R}:Qjm nm cn xs dst σ K=(Qjm nm cn xs dst σ some).bind K:=by
 unfold Qjm;rw [Option.bind_assoc];congr 1;funext q;split
 ·rw [Option.bind_assoc];congr 1;funext y;simp only;split <;> rfl
 ·rfl
theorem Qop {nm:Nat} {K:St→Option R}:opR T G nm o σ K=(opR T G nm o σ some).bind K:=by
 have pure:(Qaj T o σ fun q=>K (addO σ o.dst q))=(Qaj T o σ fun q=>some (addO σ o.dst q)).bind K:=by
  rw [QdF,QdF (K:=fun q=>some (addO σ o.dst q)),Option.bind_assoc]; rfl
 cases ho:o.op with
 | mapUpdate t m x v=>
  unfold opR;rw [ho];simp only;split
  ·split <;> rfl
  ·rfl
 | store t a x=>
  unfold opR;rw [ho];simp only;split
  ·split
   ·split <;> rfl
   ·rfl
  ·split
   ·split
    ·rw [Option.bind_assoc];congr 1;funext z;rw [Option.bind_assoc];rfl
    ·rfl
   ·rfl
  ·split
   ·split
    ·rw [Option.bind_assoc];congr 1;funext z;rw [Option.bind_assoc];congr 1;funext z;rw [Option.bind_assoc];congr 1;funext z;rw [Option.bind_assoc];rfl
    ·rfl
   ·rfl
  ·split
   ·split
    ·rfl
    split
    ·rw [Option.bind_assoc];congr 1;funext z;rw [Option.bind_assoc];congr 1;funext z;rw [Option.bind_assoc];congr 1;funext z;rw [Option.bind_assoc];rfl
    ·rw [Option.bind_assoc];congr 1;funext z;split
     ·rw [Option.bind_assoc];congr 1;funext z;rw [Option.bind_assoc];rfl
     ·rfl
   ·rfl
  ·rfl
 | call c=>
  cases hc:c.callee with
  | builtin b=>
   cases b with
   | append=>
    unfold opR;rw [ho];simp only [hc];split
    ·split
     ·split
      ·split
       ·split
        ·split
         ·split
          ·split
           ·rw [Option.bind_assoc];congr 1;funext z;rw [Option.bind_assoc];congr 1;funext z';split
            ·split <;> rfl
            ·rfl
           ·rfl
          ·rw [Option.bind_assoc];congr 1;funext z;rw [Option.bind_assoc];congr 1;funext z';split
           ·split <;> rfl
           ·rfl
         ·rfl
        ·split
         ·rw [Option.bind_assoc];congr 1;funext z;split
          ·split <;> rfl
          ·rfl
         ·rw [Option.bind_assoc];congr 1;funext z;split
          ·split <;> rfl
          ·rfl
        ·rfl
       ·rfl
      ·rfl
     ·rfl
    ·rfl
   | _=>unfold opR; rw [ho]; simp only [hc]; exact pure
  | value f=>
   unfold opR;rw [ho];simp only [hc];split
   ·split
    ·split
     ·exact Qpp
     ·rfl
    ·split
     ·exact Qpo
     ·rfl
   ·rfl
  | _=>unfold opR; rw [ho]; simp only [hc]; exact pure
 | buildSlice t len parts=>
  unfold opR;rw [ho];simp only;split
  ·split
   ·split
    ·split
     ·rw [Option.bind_assoc];congr 1;funext z;rw [Option.bind_assoc];rfl
     ·rfl
    ·rfl
   ·split
    ·split <;> rfl
    ·exact pure
  ·exact pure
 | _=>unfold opR; rw [ho]; exact pure
end
section
open Go Go.RowKit
variable {P:Program} {T:Tab} {G:Env} {w w' w0:World} {Z:Nat→Prop} {M:Nat→Nat→Prop} {N:Nat→Option (Option (Nat×Nat))} {a:Act} {σ σ':St} {β:Qr}
variable {o:Oper} {Q:Exit→Act→World→Prop} {R:Type} {ops:Array Oper}
structure Leq (σ σ':St):Prop where
 nt:σ'.nt=σ.nt
 env: ∀i,look σ'.env i=look σ.env i
 H: ∀i,look σ'.H i=look σ.H i
theorem Leq.refl (σ:St):Leq σ σ:=⟨rfl,fun _=>rfl,fun _=>rfl⟩
theorem Leq.symm (h:Leq σ σ'):Leq σ' σ:=⟨h.nt.symm,fun i=>(h.env i).symm,fun i=>(h.H i).symm⟩
theorem Leq.trans {σ'':St} (h:Leq σ σ') (k:Leq σ' σ''):Leq σ σ'':=⟨k.nt.trans h.nt,fun i=>(k.env i).trans (h.env i),fun i=>(k.H i).trans (h.H i)⟩
theorem Leq.pre (h:Leq σ σ') (pe:List (Nat×Sl)) (pH:Heap):Leq (σ.pre pe pH) (σ'.pre pe pH):=
 ⟨h.nt,fun i=>by simp only [St.pre,QC]; rw [h.env i],fun i=>by simp only [St.pre,QC]; rw [h.H i]⟩
theorem Qtk {H H':Heap} (h: ∀i,look H' i=look H i) {b:Nat} (ho:Own β H' b):Own β H b:=by
 obtain ⟨o,ob,cap,h1,h2,h3⟩:=ho;exact ⟨o,ob,cap,by rw [←h o]; exact h1,h2,h3⟩
theorem QkZ {S':Nat→Prop} {q:Option (Nat×Nat)} {ob:Ob} (hh:w'.heap=w.heap):Step w w' S' q ob q (some ob):=QaK fun _ _ _=>by rw [hh]
theorem RepB.same (h:RepB Z M N w0 β σ a w) (hl:Leq σ σ'):RepB Z M N w0 β σ' a w:=by
 have hp: ∀b,b< w.heap.size→ ¬Own β σ.H b→ ¬Own β σ'.H b∧w.heap[b]?=w.heap[b]? :=fun b _ hb=>⟨fun ho=>hb (Qtk hl.H ho),rfl⟩
 have hk: ∀b,b< w.heap.size→RO Z β σ.H b→RO Z β σ'.H b∧w.heap[b]?=w.heap[b]? :=Qam hp;have hn: ∀o ob,look σ.H o=some ob→Step w w (RO Z β σ'.H) (β o) ob (β o) (look σ'.H o):=fun o ob ho=>by rw [hl.H o,ho]; exact QkZ rfl
 refine { h with
  pin:=fun o q hq=>?_
  size:=by rw [h.size,hl.nt]
  hold:=fun o ob q b ho=>?_
  one:=fun o o' ob ob' q q' b ho hlo ho'=>?_
  obj:=fun o ob ho=>?_
  env:=fun i x hx=>?_
  bz:=fun o cs b base ho h9 hq=>h.bz o cs b base (by rw [hl.H o] at ho; exact ho) h9 hq }
 ·have:=h.pin o q hq;rw [hl.H o]; exact this
 ·rw [hl.H o] at ho; exact h.hold o ob q b ho
 ·rw [hl.H o] at ho; rw [hl.H o'] at ho'; exact h.one o o' ob ob' q q' b ho hlo ho'
 ·rw [hl.H o] at ho;have:=h.obj o ob ho;cases ob with
  | box cs=>
   obtain ⟨b,base,c,e,h1,h2,h3,h4⟩:=this;exact ⟨b,base,c,e,h1,h2,h3,h4.mono fun x v hx=>⟨QdN hk hp hn hx.1,hx.2⟩⟩
  | row e t xs=>
   rcases this with h1 | ⟨b,cap,c,rows,h1,h2,h3,h4,h5,h6,h7⟩
   ·exact .inl h1
   ·exact .inr ⟨b,cap,c,rows,h1,h2,h3,h4,h5,Qac (fun x r hr=>Qaa (fun b hb hg=>hg.elim (fun h=>⟨.inl (hk b hb h).1,(hk b hb h).2⟩) (fun h=>⟨.inr h,rfl⟩)) hr) h6,h7⟩
  | _=>trivial
 ·rw [hl.env i] at hx;obtain ⟨h1,h2⟩:=h.env i x hx;exact ⟨h1,QmA hk hp hn h2⟩
theorem Rep.same (h:Rep Z M N w0 σ a w) (hl:Leq σ σ'):Rep Z M N w0 σ' a w:=h.elim fun β h=>⟨β,h.same hl⟩
theorem RepB.drawn (h:RepB Z M N w0 β σ a w) (n:Nat):RepB Z M N w0 β σ a { w with drawn:=n }:=by
 have hp: ∀b,b< w.heap.size→ ¬Own β σ.H b→ ¬Own β σ.H b∧({ w with drawn:=n }:World).heap[b]?=w.heap[b]? :=fun b _ hb=>⟨hb,rfl⟩
 have hk: ∀b,b< w.heap.size→RO Z β σ.H b→RO Z β σ.H b∧({ w with drawn:=n }:World).heap[b]?=w.heap[b]? :=Qam hp
 have hn: ∀o ob,look σ.H o=some ob→Step w { w with drawn:=n } (RO Z β σ.H) (β o) ob (β o) (look σ.H o):=fun o ob ho=>by rw [ho]; exact QkZ rfl
 refine { h with
  below:=⟨h.below.os,h.below.tape,h.below.output,h.below.size,h.below.block,h.below.cells⟩
  obj:=fun o ob ho=>?_
  env:=fun i x hx=>?_ }
 ·have:=h.obj o ob ho;cases ob with
  | box cs=>
   obtain ⟨b,base,c,e,h1,h2,h3,h4⟩:=this;exact ⟨b,base,c,e,h1,h2,h3,h4.mono fun x v hx=>⟨QdN hk hp hn hx.1,hx.2⟩⟩
  | row e t xs=>
   rcases this with h1 | ⟨b,cap,c,rows,h1,h2,h3,h4,h5,h6,h7,h8,h9,h10⟩
   ·exact .inl h1
   ·exact .inr ⟨b,cap,c,rows,h1,h2,h3,h4,h5,Qac (fun x r hr=>Qaa (fun b hb hg=>hg.elim (fun h=>⟨.inl (hk b hb h).1,(hk b hb h).2⟩) (fun h=>⟨.inr h,rfl⟩)) hr) h6,h7,h8,h9,fun hd=>(h10 hd).imp fun F h=>⟨Qef (w:=w) (fun _ _=>rfl) h.1,h.2⟩⟩
  | _=>trivial
 ·obtain ⟨h1,h2⟩:=h.env i x hx;exact ⟨h1,QmA hk hp hn h2⟩
structure Rec where
 it:It
 pe:List (Nat×Sl)
 pH:Heap
structure StepOk (P:Program) (ops:Array Oper) (Q:Exit→Act→World→Prop) (Z:Nat→Prop) (M:Nat→Nat→Prop) (N:Nat→Option (Option (Nat×Nat))) (w0:World) (i:Nat) (r:Rec) (τ:St):Prop where
 pe: ∀p∈r.pe,r.it.dst=some p.1
 pH: ∀p∈r.pH,p.1∈r.it.wr
 wp: ∀σ2:St,σ2.nt=τ.nt→(∀t∈r.it.rd,look σ2.env t=look τ.env t)→agN τ.H σ2.H r.it.tch→ ∀a w,Rep Z M N w0 σ2 a w→
  ∀K:Act→World→Prop,(∀a' w',Rep Z M N w0 (σ2.pre r.pe r.pH) a' w'→K a' w')→wpOp P ops Q i K a w
theorem StepOk.same {i:Nat} {r:Rec} (h:StepOk P ops Q Z M N w0 i r σ) (hl:Leq σ σ'):StepOk P ops Q Z M N w0 i r σ' where
 pe:=h.pe
 pH:=h.pH
 wp:=fun σ2 hnt henv hH=>h.wp σ2 (hnt.trans hl.nt) (fun t ht=>(henv t ht).trans (hl.env t)) (fun n hn=>(hH n hn).trans (hl.H n))
theorem Qwr {σ2:St} {all:Array Oper} (hnt:σ2.nt=σ.nt) (henv: ∀t∈o.looksAt all,look σ2.env t=look σ.env t) (hH:isMv o.op=false→agN σ.H σ2.H (match isAd o.op with | true=>Qfh σ (o.looksAt all) | false=>QaD σ.H (Qfh σ (o.looksAt all)))):AgO o σ σ2:=by
 have hmem: ∀t,Operand.tmp t∈o.op.operands→t∈o.looksAt all:=fun t ht=>
  List.mem_append_left _ (List.mem_filterMap.2 ⟨.tmp t,by simpa using ht,rfl⟩)
 have hin: ∀x∈o.op.operands, ∀v,S.ev σ x=some v→ ∀n∈Qk v,n∈Qfh σ (o.looksAt all):=by
  intro x hx v hv n hn;cases x with
  | tmp t=>
   simp only [ev] at hv;split at hv
   ·rename_i y hy;obtain rfl:=Osj hv;refine List.mem_flatMap.2 ⟨t,hmem t hx,?_⟩;rw [hy];exact hn
   ·obtain rfl:=Osj hv; simp [Qk,Qj] at hn
   ·cases hv
  | const c=>
   have:Qk v=[]:=by
    simp only [ev] at hv;unfold Qpq at hv;split at hv <;> first | (obtain rfl:=Osj hv; rfl) | cases hv
   rw [this] at hn; simp at hn
  | func f=>
   simp only [ev] at hv;obtain rfl:=Osj hv;simp [Qk,Qj] at hn
  | global g=>simp [ev] at hv
 refine ⟨hnt,fun x hx=>?_,fun t ht=>henv t (hmem t ht),fun had x hx v hv=>?_,fun hmv had x hx v hv=>?_⟩
 ·cases x with
  | tmp t=>simp only [ev]; rw [henv t (hmem t hx)]
  | _=>rfl
 ·have hmv:isMv o.op=false:=by
   cases ho:o.op <;> rw [ho] at had <;> first | rfl | (simp [isAd] at had; done)
  have hH:=hH hmv;simp only [had] at hH;exact hH.sub (hin x hx v hv)
 ·have hH:=hH hmv;simp only [had] at hH;exact hH.sub (QgL (hin x hx v hv))
theorem Qpg {pe:List (Nat×Sl)} {pH:Heap}:wrOf σ (σ.pre pe pH)=pH.map (·.1):=by
 unfold wrOf St.pre;simp
theorem QqN (hT:QR P T=true) (hG:Qf P G) {i nm anc:Nat} {pe:List (Nat×Sl)} {pH:Heap} (ho:ops[i]?=some o) (hd:QM o.dst σ.nt=true)
  (hpe: ∀p∈pe,o.dst=some p.1) (hloc:Loc T G nm o σ pe pH)
  (hw: ∀σ2:St,(∀t∈o.looksAt ops,look σ2.env t=look σ.env t)→ ∀a w,Rep Z M N w0 σ2 a w→Region.wanted o (yielded ops a.tmps)=true):
  StepOk P ops Q Z M N w0 i ⟨itOf ops anc o σ (σ.pre pe pH),pe,pH⟩ σ where
 pe:=hpe
 pH:=fun p hp=>by simp only [itOf,Qpg]; exact List.mem_map_of_mem hp
 wp:=by
  intro σ2 hnt henv hH a w hrep K hK;have hag:=Qwr (o:=o) (all:=ops) hnt henv (fun hmv=>by have:=hH.left; simp only [hmv] at this; exact this)
  have hop:=hloc σ2 hag (by have:=hH.right; rw [Qpg] at this; exact this)
  have hwt:=hw σ2 henv a w hrep;unfold wpOp;rw [ho];simp only;rw [if_pos hwt];obtain ⟨β,hrep⟩:=hrep;refine .inl (Qij (K:=some) hT hG hrep (by rw [hnt]; exact hd) (fun σ' h1 hn a' w' hr=>?_) hop)
  obtain rfl:=Osj h1;exact hK a' w' hr
theorem Qph {σ2:St} {j t:Nat} {b:Bool} (ht:(ops[j]?).bind (·.dst)=some t) (hb:look σ2.env t=some (.v (.s (.d .bool b)))) (hrep:Rep Z M N w0 σ2 a w):yielded ops a.tmps j=some b:=by
 obtain ⟨β,hrep⟩:=hrep;obtain ⟨hi,hv⟩:=hrep.env t _ hb;have hv:VV w (RO Z β σ2.H) β σ2.H (.s (.d .bool b)) (a.tmps.getD t undef):=hv;have hv':=QdO (S:=RO Z β σ2.H) (β:=β) (H:=σ2.H) hv
 have:a.tmps[t]?=some (.bool b):=by
  rw [Array.getElem?_eq_getElem hi];rw [Array.getD_eq_getD_getElem?,Array.getElem?_eq_getElem hi] at hv';exact congrArg some hv'
 simp [yielded,ht,this]
theorem Qmc {i anc:Nat} {j t:Nat} {want:Bool} (ho:ops[i]?=some o) (hd:QM o.dst σ.nt=true) (hgd:o.guard=some (j,want)) (ht:(ops[j]?).bind (·.dst)=some t)
  (hy: ∀{σ2:St} {a:Act} {w:World},look σ2.env t=look σ.env t→Rep Z M N w0 σ2 a w→yielded ops a.tmps j≠some want):StepOk P ops Q Z M N w0 i ⟨QgS ops anc o,preE o.dst (.t []),[]⟩ σ where
 pe:=QaI
 pH:=fun p hp=>by simp at hp
 wp:=by
  intro σ2 hnt henv hH a w hrep K hK;have htm:t∈o.looksAt ops:=by simp [Oper.looksAt,hgd,ht]
  have hy:=hy (henv t htm) hrep;have: ¬(Region.wanted o (yielded ops a.tmps)=true):=by simpa [Region.wanted,hgd] using hy
  unfold wpOp;rw [ho];simp only;rw [if_neg this];refine hK _ _ ?_;obtain ⟨β,hrep⟩:=hrep;have:=hrep.skip (i:=o.dst) (by rw [hnt]; exact hd)
  rw [Qkl] at this;exact ⟨β,this⟩
def appD (D:Nat→Bool) (recs:List Rec) (σ:St):Nat→St
 | 0=>σ
 | k+1=>match recs[k]? with
  | some r=>if D k then (appD D recs σ k).pre r.pe r.pH else appD D recs σ k
  | none=>appD D recs σ k
def Qnq (ops:Array Oper) (recs:List Rec) (k:Nat) (r:Rec):Prop:=
 ∃o,ops[k]?=some o∧(∀e∈QhU o,e< k)∧(∀m,r.it.anc.testBit m=true→ ∃e∈QhU o,m=e∨ ∃r',recs[e]?=some r'∧r'.it.anc.testBit m=true)
structure Apart (x y:It):Prop where
 h1: ∀n∈x.wr,n∉y.tch
 h2: ∀n∈y.wr,n∉x.tch
 h3: ∀n∈x.wr,n∉y.wr
 h4: ∀d,x.dst=some d→d∉y.rd
 h5: ∀d,x.dst=some d→y.dst≠some d
 h6: ∀d,y.dst=some d→d∉x.rd
theorem QhW {l m:List Nat} (h:disj l m=true): ∀n∈l,n∉m:=by
 intro n hn hm;have:=List.all_eq_true.1 h n hn;simp [hm] at this
theorem Qnx {x y:It} (h:QmE x y=true):Apart x y:=by
 unfold QmE at h;simp only [Bool.and_eq_true] at h;obtain ⟨⟨⟨⟨h1,h2⟩,h3⟩,h4⟩,h5⟩:=h;refine ⟨QhW h1,QhW h2,QhW h3,fun d hd=>?_,fun d hd=>?_,fun d hd=>?_⟩
 ·rw [hd] at h4; simp at h4; exact h4.1
 ·rw [hd] at h4; simp at h4; exact h4.2
 ·rw [hd] at h5; simp at h5; exact h5
theorem Qtx {r i:Nat} (h0:r≠0) (h:r.testBit i=true) (hne:i≠r.log2):(r-2 ^ r.log2).testBit i=true:=by
 have h1:2 ^ r.log2≤r:=Nat.log2_self_le h0;have h2:r< 2 ^ (r.log2+1):=Nat.lt_log2_self
 have hi:i< r.log2:=by
  rcases Nat.lt_or_ge r.log2 i with hlt | hge
  ·have:r< 2 ^ i:=Nat.lt_of_lt_of_le h2 (Nat.pow_le_pow_right (by omega) hlt)
   rw [Nat.testBit_lt_two_pow this] at h; cases h
  ·omega
 have e:r=2 ^ r.log2+(r-2 ^ r.log2):=by omega
 rw [e,Nat.testBit_two_pow_add_gt hi] at h;exact h
theorem Qlk {k:Nat} {acc:List It} {y:It}: ∀{n rest:Nat},chkI n rest k acc y=true→ ∀i,rest.testBit i=true→ ∃x,acc[k-1-i]?=some x∧QmE x y=true
 | 0,rest,h,i,hi=>by
  simp only [chkI,Nat.beq_eq] at h;subst h; simp at hi
 | n+1,rest,h,i,hi=>by
  simp only [chkI] at h;split at h
  ·rename_i h0;have:rest=0:=by simpa using h0
   subst this; simp at hi
  ·rename_i h0
   have h0:rest≠0:=by
    intro e; subst e; simp at h0
   split at h
   ·rename_i x hx;simp only [Bool.and_eq_true] at h;by_cases hne:i=rest.log2
    ·subst hne; exact ⟨x,hx,h.1⟩
    ·exact Qlk h.2 i (Qtx h0 hi hne)
   ·cases h
structure Tr (P:Program) (ops:Array Oper) (Q:Exit→Act→World→Prop) (Z:Nat→Prop) (M:Nat→Nat→Prop) (N:Nat→Option (Option (Nat×Nat))) (w0:World) (σ:St) (recs:List Rec):Prop where
 anc: ∀k r,recs[k]?=some r→Qnq ops recs k r
 step: ∀k r,recs[k]?=some r→StepOk P ops Q Z M N w0 k r (appD (fun _=>true) recs σ k)
 pair: ∀(i k:Nat) (x y:Rec),recs[i]?=some x→recs[k]?=some y→i< k→y.it.anc.testBit i=false→Apart x.it y.it
theorem QfX {D:Nat→Bool} {recs:List Rec} {r:Rec}: ∀{k:Nat},k≤recs.length→appD D (recs++[r]) σ k=appD D recs σ k
 | 0,_=>rfl
 | k+1,h=>by
  simp only [appD];rw [List.getElem?_append_left (by omega),QfX (k:=k) (by omega)]
theorem Tr.snoc {recs:List Rec} {r:Rec} (h:Tr P ops Q Z M N w0 σ recs) (ha:Qnq ops recs recs.length r) (hp: ∀(i:Nat) (x:Rec),recs[i]?=some x→r.it.anc.testBit i=false→Apart x.it r.it) (hs:StepOk P ops Q Z M N w0 recs.length r (appD (fun _=>true) recs σ recs.length)):
  Tr P ops Q Z M N w0 σ (recs++[r]):=by
 have mono: ∀{e:Nat} {r':Rec},recs[e]?=some r'→(recs++[r])[e]?=some r':=fun {e r'} he=>by
  rw [List.getElem?_append_left (List.getElem?_eq_some_iff.1 he).1]; exact he
 have anc: ∀{k:Nat} {q:Rec},Qnq ops recs k q→Qnq ops (recs++[r]) k q:=fun {k q} ⟨o,h1,h2,h3⟩=>
  ⟨o,h1,h2,fun m hm=>(h3 m hm).elim fun e he=>⟨e,he.1,he.2.imp id fun ⟨r',h4,h5⟩=>⟨r',mono h4,h5⟩⟩⟩
 constructor
 ·intro k q hk;rcases Nat.lt_or_ge k recs.length with hlt | hge
  ·rw [List.getElem?_append_left hlt] at hk;exact anc (h.anc k q hk)
  ·rw [List.getElem?_append_right hge] at hk
   have hk0:k-recs.length=0:=by
    have:=(List.getElem?_eq_some_iff.1 hk).1;simp at this; omega
   have:k=recs.length:=by omega
   subst this;simp at hk; subst hk;exact anc ha
 ·intro k q hk;rcases Nat.lt_or_ge k recs.length with hlt | hge
  ·rw [List.getElem?_append_left hlt] at hk;rw [QfX (by omega)]
   exact h.step k q hk
  ·rw [List.getElem?_append_right hge] at hk
   have hk0:k-recs.length=0:=by
    have:=(List.getElem?_eq_some_iff.1 hk).1;simp at this; omega
   have:k=recs.length:=by omega
   subst this;simp at hk; subst hk;rw [QfX (Nat.le_refl _)];exact hs
 ·intro i k x y hi hk hlt hb;rcases Nat.lt_or_ge k recs.length with hkl | hge
  ·rw [List.getElem?_append_left hkl] at hk;rw [List.getElem?_append_left (by omega)] at hi
   exact h.pair i k x y hi hk hlt hb
  ·rw [List.getElem?_append_right hge] at hk
   have hk0:k-recs.length=0:=by
    have:=(List.getElem?_eq_some_iff.1 hk).1;simp at this; omega
   have:k=recs.length:=by omega
   subst this;simp at hk; subst hk;rw [List.getElem?_append_left (by omega)] at hi
   exact hp i x hi hb
theorem Qjw {f:Nat→Nat}: ∀{l:List Nat} {m0 m:Nat},(l.foldl (fun m e=>Nat.lor m (Nat.lor (Nat.pow 2 e) (f e))) m0).testBit m=true→m0.testBit m=true∨ ∃e∈l,m=e∨(f e).testBit m=true
 | [],m0,m,h=> .inl h
 | e::r,m0,m,h=>by
  rcases Qjw (l:=r) h with h | ⟨e',he',h⟩
  ·have h:(m0 ||| (2 ^ e ||| f e)).testBit m=true:=h
   simp only [Nat.testBit_or,Bool.or_eq_true,Nat.testBit_two_pow,decide_eq_true_eq] at h;rcases h with h | h | h
   ·exact .inl h
   ·exact .inr ⟨e,by simp,.inl h.symm⟩
   ·exact .inr ⟨e,by simp,.inr h⟩
  ·exact .inr ⟨e',by simp [he'],h⟩
theorem Qts {recs:List Rec} {e:Nat} (he:e< recs.length):(recs.map Rec.it).reverse[recs.length-1-e]?=(recs[e]?).map Rec.it:=by
 rw [List.getElem?_reverse (by simp; omega)]
 simp only [List.length_map,List.getElem?_map];congr 2;omega
theorem Qws {recs:List Rec} {r:Rec} (ho:ops[recs.length]?=some o) (hd:(QhU o).all (fun e=>Nat.blt e recs.length)=true) (hr:r.it.anc=QdP recs.length (recs.map Rec.it).reverse o):Qnq ops recs recs.length r:=by
 have hlt: ∀e∈QhU o,e< recs.length:=fun e he=>by
  have:=List.all_eq_true.1 hd e he;exact Nat.le_of_ble_eq_true this
 refine ⟨o,ho,hlt,fun m hm=>?_⟩
 rw [hr] at hm;rcases Qjw hm with h | ⟨e,he,h⟩
 ·simp at h
 ·refine ⟨e,he,h.imp id fun h=>?_⟩
  have ha:=Qts (recs:=recs) (hlt e he);have h:(match (recs.map Rec.it).reverse[recs.length-1-e]? with | some it=>it.anc | none=>0).testBit m=true:=h
  rw [ha] at h;cases hq:recs[e]? with
  | none=>rw [hq] at h; simp at h
  | some q=>rw [hq] at h; exact ⟨q,rfl,h⟩
theorem QvJ {recs:List Rec} {y:It} (h:chkN recs.length (recs.map Rec.it).reverse y=true): ∀(i:Nat) (x:Rec),recs[i]?=some x→y.anc.testBit i=false→Apart x.it y:=by
 intro i x hi hb;have hlt:i< recs.length:=(List.getElem?_eq_some_iff.1 hi).1
 have hbit:((2 ^ recs.length-1) ^^^ y.anc).testBit i=true:=by
  rw [Nat.testBit_xor,hb,Nat.testBit_two_pow_sub_one];simp [hlt]
 obtain ⟨x',hx,hap⟩:=Qlk h i hbit;rw [Qts hlt,hi] at hx;simp only [Option.map_some,Oie] at hx;subst hx;exact Qnx hap
theorem QrF {recs:List Rec} {r:Rec}:appD (fun _=>true) (recs++[r]) σ (recs.length+1)=(appD (fun _=>true) recs σ recs.length).pre r.pe r.pH:=by
 simp only [appD];rw [List.getElem?_append_right (Nat.le_refl _)];simp [QfX (Nat.le_refl _)]
theorem QfP {t:Nat} {y:SV} (h:look σ.env t=some (.v y)):Leq σ (σ.set t y):=by
 refine ⟨rfl,fun i=>?_,fun i=>rfl⟩
 simp only [St.set,Qe];split
 ·rename_i e; subst e; exact h.symm
 ·rfl
theorem QjV (hT:QR P T=true) (hG:Qf P G) {σ0:St} {K:St→Option R} {y:R}: ∀{rest:List Oper} {nm:Nat} {σ:St} {recs:List Rec} {k:Nat} {acc:List It},
  (∀k,rest[k]?=ops[recs.length+k]?)→k=recs.length→acc=(recs.map Rec.it).reverse→Leq (appD (fun _=>true) recs σ0 recs.length) σ→Tr P ops Q Z M N w0 σ0 recs→opsD T G ops nm rest σ k acc K=some y→
  ∃recs' σ',recs'.length=recs.length+rest.length∧Leq (appD (fun _=>true) recs' σ0 recs'.length) σ'∧Tr P ops Q Z M N w0 σ0 recs'∧K σ'=some y
 | [],nm,σ,recs,k,acc,_,hk,hacc,hl,htr,h=>⟨recs,σ,by simp,hl,htr,h⟩
 | o::r,nm,σ,recs,k,acc,hrest,hk,hacc,hl,htr,h=>by
  subst hk;subst hacc;have ho:ops[recs.length]?=some o:=by have:=hrest 0; simpa using this.symm
  have hrest': ∀(q:Rec) k,r[k]?=ops[(recs++[q]).length+k]? :=fun q k=>by
   have:=hrest (k+1);simp only [List.getElem?_cons_succ] at this;rw [this,List.length_append];congr 1;simp; omega
  unfold opsD at h;split at h
  ·cases h
  ·rename_i hck;simp only [not_or,Bool.not_eq_false] at hck;obtain ⟨hd,hdp⟩:=hck
   have fin: ∀(q:Rec) (σ1:St),q.it.anc=QdP recs.length (recs.map Rec.it).reverse o→StepOk P ops Q Z M N w0 recs.length q σ→Leq (σ.pre q.pe q.pH) σ1→
     (if chkN recs.length (recs.map Rec.it).reverse q.it=true then opsD T G ops (nm+500) r σ1 (recs.length+1) (q.it::(recs.map Rec.it).reverse) K else none)=some y→
     ∃recs' σ',recs'.length=recs.length+(o::r).length∧Leq (appD (fun _=>true) recs' σ0 recs'.length) σ'∧Tr P ops Q Z M N w0 σ0 recs'∧K σ'=some y:=by
    intro q σ1 hanc hst hlq h;split at h
    ·rename_i hchk;have htr':=htr.snoc (Qws ho hdp hanc) (QvJ hchk) (hst.same hl.symm)
     obtain ⟨recs',σ',h1,h2,h3,h4⟩:=QjV hT hG (recs:=recs++[q]) (k:=recs.length+1) (acc:=q.it::(recs.map Rec.it).reverse) (hrest' q) (by simp) (by simp) (by
      rw [List.length_append,List.length_singleton,QrF];exact (hl.pre q.pe q.pH).trans hlq) htr' h
     exact ⟨recs',σ',by rw [h1]; simp; omega,h2,h3,h4⟩
    ·cases h
   split at h
   ·rename_i hgd;rw [Qop] at h;obtain ⟨σ',h1,h⟩:=Obs h;obtain ⟨pe,pH,rfl,hpe,hloc⟩:=Qrb h1;exact fin ⟨itOf ops (QdP recs.length (recs.map Rec.it).reverse o) o σ (σ.pre pe pH),pe,pH⟩ _ rfl (QqN hT hG ho hd hpe hloc fun σ2 _ a w _=>by simp [Region.wanted,hgd]) (Leq.refl _) h
   ·rename_i j want hgd;split at h
    ·rename_i t ht;split at h
     ·rename_i b hb;have htm:t∈o.looksAt ops:=by simp [Oper.looksAt,hgd,ht]
      split at h
      ·rename_i e;subst e;have hset:Leq σ (σ.set t (.s (.d .bool b))):=QfP hb;rw [Qop] at h;obtain ⟨σ',h1,h⟩:=Obs h;obtain ⟨pe,pH,rfl,hpe,hloc⟩:=Qrb h1
       refine fin ⟨itOf ops (QdP recs.length (recs.map Rec.it).reverse o) o (σ.set t (.s (.d .bool b))) ((σ.set t (.s (.d .bool b))).pre pe pH),pe,pH⟩ _ rfl
        ((QqN (σ:=σ.set t (.s (.d .bool b))) hT hG ho hd hpe hloc fun σ2 henv a w hrep=>?_).same hset.symm) (hset.pre pe pH) h
       have hy:=Qph ht ((henv t htm).trans ((hset.env t).trans hb)) hrep;simp [Region.wanted,hgd,hy]
      ·rename_i e;have hb':b=!want:=by cases b <;> cases want <;> simp_all
       subst hb';have hset:Leq σ (σ.set t (.s (.d .bool (!want)))):=QfP hb;refine fin ⟨QgS ops (QdP recs.length (recs.map Rec.it).reverse o) o,preE o.dst (.t []),[]⟩ _ rfl (Qmc ho hd hgd ht fun he hr=>?_) ?_ h
       ·rw [Qph ht (he.trans hb) hr]; simp
       ·rw [Qkl];exact hset.pre _ []
     ·rename_i hb;refine fin ⟨QgS ops (QdP recs.length (recs.map Rec.it).reverse o) o,preE o.dst (.t []),[]⟩ _ rfl (Qmc ho hd hgd ht fun he hr=>?_) ?_ h
      ·obtain ⟨β,hr⟩:=hr;rw [QkL ht (he.trans hb) hr]; simp
      ·rw [Qkl];exact (Leq.refl _).pre _ []
     ·cases h
    ·cases h
end
section
open Go Go.RowKit
variable {P:Program} {T:Tab} {G:Env} {w w' w0:World} {Z:Nat→Prop} {M:Nat→Nat→Prop} {N:Nat→Option (Option (Nat×Nat))} {a:Act} {σ σ':St} {β:Qr}
variable {o:Oper} {Q:Exit→Act→World→Prop} {R:Type} {ops:Array Oper} {recs:List Rec}
theorem QaF {α:Type} {p:List (Nat×α)} {n:Nat} (h: ∀q∈p,q.1≠n) (H:List (Nat×α)):look (p++H) n=look H n:=by
 rw [QC,Qdd h]
theorem QfW {D:Nat→Bool}: ∀{k:Nat},(appD D recs σ k).nt=σ.nt
 | 0=>rfl
 | k+1=>by
  simp only [appD];split
  ·split
   ·exact QfW
   ·exact QfW
  ·exact QfW
section
variable (htr:Tr P ops Q Z M N w0 σ recs)
include htr
theorem Qny {D D':Nat→Bool} {t:Nat}: ∀{k:Nat},(∀j r,j< k→recs[j]?=some r→D j≠D' j→r.it.dst≠some t)→look (appD D recs σ k).env t=look (appD D' recs σ k).env t
 | 0,_=>rfl
 | k+1,h=>by
  have ih:=Qny (k:=k) fun j r hj=>h j r (by omega)
  simp only [appD];split
  ·rename_i r hr;have pe:r.it.dst≠some t→ ∀q∈r.pe,q.1≠t:=fun hne q hq e=>hne (by rw [(htr.step k r hr).pe q hq,e])
   cases hD:D k <;> cases hD':D' k
   ·simpa using ih
   ·have:=h k r (by omega) hr (by rw [hD,hD']; simp)
    simp only [Bool.false_eq_true,if_false,if_true,St.pre];rw [QaF (pe this)]; exact ih
   ·have:=h k r (by omega) hr (by rw [hD,hD']; simp)
    simp only [Bool.false_eq_true,if_false,if_true,St.pre];rw [QaF (pe this)]; exact ih
   ·simp only [if_true,St.pre,QC,ih]
  ·exact ih
theorem Qtt {D D':Nat→Bool} {n:Nat}: ∀{k:Nat},(∀j r,j< k→recs[j]?=some r→D j≠D' j→n∉r.it.wr)→look (appD D recs σ k).H n=look (appD D' recs σ k).H n
 | 0,_=>rfl
 | k+1,h=>by
  have ih:=Qtt (k:=k) fun j r hj=>h j r (by omega)
  simp only [appD];split
  ·rename_i r hr;have pe:n∉r.it.wr→ ∀q∈r.pH,q.1≠n:=fun hne q hq e=>hne (by rw [←e]; exact (htr.step k r hr).pH q hq)
   cases hD:D k <;> cases hD':D' k
   ·simpa using ih
   ·have:=h k r (by omega) hr (by rw [hD,hD']; simp)
    simp only [Bool.false_eq_true,if_false,if_true,St.pre];rw [QaF (pe this)]; exact ih
   ·have:=h k r (by omega) hr (by rw [hD,hD']; simp)
    simp only [Bool.false_eq_true,if_false,if_true,St.pre];rw [QaF (pe this)]; exact ih
   ·simp only [if_true,St.pre,QC,ih]
  ·exact ih
omit htr in
theorem Qjh {i:Nat}: ∀{k:Nat},appD (fun j=>decide (j< i)) recs σ k=appD (fun _=>true) recs σ (min k i)
 | 0=>by simp [appD]
 | k+1=>by
  rcases Nat.lt_or_ge k i with h | h
  ·have e:min (k+1) i=k+1:=by omega
   have e2:min k i=k:=by omega
   have ih:=Qjh (i:=i) (k:=k);rw [e2] at ih;rw [e];simp only [appD,ih,h,decide_true]
  ·have e:min (k+1) i=i:=by omega
   have e2:min k i=i:=by omega
   have ih:=Qjh (i:=i) (k:=k);rw [e2] at ih;rw [e];have hf:decide (k< i)=false:=by simp; omega
   simp only [appD,ih,hf];split <;> simp
omit htr in
theorem Qgc {α:Type} {A B C:List (Nat×α)} {n:Nat} (h:(∀q∈A,q.1≠n)∨ ∀q∈B,q.1≠n):look (A++(B++C)) n=look (B++(A++C)) n:=by
 rcases h with h | h
 ·rw [QaF h,QC,QC,QaF h]
 ·rw [QC,QaF h,QaF h,QC]
theorem Qnz {D:Nat→Bool} {i:Nat} {r:Rec} (hr:recs[i]?=some r) (hDi:D i=false) (hap: ∀k q,recs[k]?=some q→i< k→D k=true→Apart r.it q.it):
  ∀{k:Nat},(k≤i→appD (fun j=>D j || j==i) recs σ k=appD D recs σ k)∧(i< k→Leq ((appD D recs σ k).pre r.pe r.pH) (appD (fun j=>D j || j==i) recs σ k))
 | 0=>⟨fun _=>rfl,fun h=>by omega⟩
 | k+1=>by
  obtain ⟨ih1,ih2⟩:=Qnz hr hDi hap (k:=k);refine ⟨fun hk=>?_,fun hk=>?_⟩
  ·have:(k==i)=false:=by simp; omega
   simp only [appD,ih1 (by omega),this,Bool.or_false]
  ·rcases Nat.lt_or_ge i k with hlt | hge
   ·have hki:(k==i)=false:=by simp; omega
    have ih:=ih2 hlt;simp only [appD,hki,Bool.or_false];split
    ·rename_i q hq;cases hDk:D k with
     | false=>simpa using ih
     | true=>
      have hpq:=hap k q hq hlt hDk;simp only [if_true];refine Leq.trans (σ':=((appD D recs σ k).pre r.pe r.pH).pre q.pe q.pH) ⟨rfl,fun t=>?_,fun n=>?_⟩ (ih.pre q.pe q.pH)
      ·simp only [St.pre];by_cases hq2: ∀z∈r.pe,z.1≠t
       ·exact (Qgc (.inl hq2)).symm
       ·refine (Qgc (.inr fun z hz e=>?_)).symm
        apply hq2;intro z' hz' e';exact hpq.h5 t (by rw [(htr.step i r hr).pe z' hz',e']) (by rw [(htr.step k q hq).pe z hz,e])
      ·simp only [St.pre];by_cases hq2: ∀z∈r.pH,z.1≠n
       ·exact (Qgc (.inl hq2)).symm
       ·refine (Qgc (.inr fun z hz e=>?_)).symm
        apply hq2;intro z' hz' e';exact hpq.h3 n (by rw [←e']; exact (htr.step i r hr).pH z' hz') (by rw [←e]; exact (htr.step k q hq).pH z hz)
    ·exact ih
   ·have hki:k=i:=by omega
    subst hki;simp only [appD,hr,hDi,beq_self_eq_true,Bool.or_true,if_true,Bool.false_eq_true,if_false];rw [ih1 (Nat.le_refl _)];exact Leq.refl _
end
def unl (D:Nat→Bool):Nat→Nat
 | 0=>0
 | k+1=>unl D k+(if D k then 0 else 1)
theorem Qry {D:Nat→Bool} {i:Nat} (hi:D i=false): ∀{k:Nat},(k≤i→unl (fun j=>D j || j==i) k=unl D k)∧(i< k→unl (fun j=>D j || j==i) k+1=unl D k)
 | 0=>⟨fun _=>rfl,fun h=>by omega⟩
 | k+1=>by
  obtain ⟨h1,h2⟩:=Qry hi (k:=k);refine ⟨fun hk=>?_,fun hk=>?_⟩
  ·have:(k==i)=false:=by simp; omega
   simp only [unl,h1 (by omega),this,Bool.or_false]
  ·rcases Nat.lt_or_ge i k with hlt | hge
   ·have:(k==i)=false:=by simp; omega
    have:=h2 hlt;simp only [unl, *,Bool.or_false];omega
   ·have hki:k=i:=by omega
    subst hki;simp only [unl,h1 (Nat.le_refl _),hi,beq_self_eq_true,Bool.or_true,if_true,Bool.false_eq_true,if_false]
theorem Qpd {D:Nat→Bool}: ∀{k:Nat},unl D k=0→ ∀j,j< k→D j=true
 | 0,_,j,h=>by omega
 | k+1,h,j,hj=>by
  simp only [unl] at h;rcases Nat.lt_or_ge j k with hlt | hge
  ·exact Qpd (k:=k) (by omega) j hlt
  ·have:j=k:=by omega
   subst this;cases hD:D j with
   | true=>rfl
   | false=>rw [hD] at h; simp at h
theorem Qjg {D:Nat→Bool}: ∀{k:Nat},(∀j,j< k→D j=true)→appD D recs σ k=appD (fun _=>true) recs σ k
 | 0,_=>rfl
 | k+1,h=>by simp only [appD,h k (by omega),Qjg (k:=k) fun j hj=>h j (by omega)]
theorem QrE (htr:Tr P ops Q Z M N w0 σ recs) (hn:recs.length=ops.size)
  (hQ: ∀a w,Rep Z M N w0 (appD (fun _=>true) recs σ ops.size) a w→Q .normal a w): ∀{fuel:Nat} {listed:Array Bool} {D:Nat→Bool} {a:Act} {w:World},(∀j,D j=listed.getD j false)→listed.size=ops.size→
  (∀j r,recs[j]?=some r→D j=true→ ∀m,r.it.anc.testBit m=true→D m=true)→unl D ops.size≤fuel→Rep Z M N w0 (appD D recs σ ops.size) a w→wpAny P .any ops Q fuel listed a w:=by
 intro fuel
 have gets: ∀{listed:Array Bool} {D:Nat→Bool},(∀j,D j=listed.getD j false)→listed.size=ops.size→ ∀j,j< ops.size→listed.getD j true=D j:=fun hD hs j hj=>by
  rw [hD j];have:j< _:=(hs.symm▸hj:j< _);simp [this]
 have full: ∀{listed:Array Bool} {D:Nat→Bool},(∀j,D j=listed.getD j false)→listed.size=ops.size→Region.ready .any ops listed=[]→ ∀j,j< ops.size→D j=true:=by
  intro listed D hD hs hr j
  induction j using Nat.strongRecOn with
  | ind j ih=>
   intro hj;cases hDj:D j with
   | true=>rfl
   | false=>
    exfalso
    have:j∈Region.ready .any ops listed:=by
     obtain ⟨r,hrj⟩: ∃r,recs[j]?=some r:=⟨recs[j]'(by omega),List.getElem?_eq_getElem (by omega)⟩
     obtain ⟨o,ho,hdep, -⟩:=htr.anc j r hrj;refine mem_ready.2 ⟨by rw [gets hD hs j hj,hDj],o,ho,fun e he hb=>?_⟩
     have hlt:=hdep e.on (List.mem_map.2 ⟨e,List.mem_filter.2 ⟨by simpa using he,hb⟩,rfl⟩)
     rw [←hD];exact ih e.on hlt (by omega)
    rw [hr] at this;cases this
 induction fuel with
 | zero=>
  intro listed D a w hD hs hdown hfuel hrep;have hall:=Qpd (D:=D) (k:=ops.size) (by omega)
  refine ⟨?_,hQ a w (by rw [←Qjg hall]; exact hrep)⟩
  cases hr:Region.ready .any ops listed with
  | nil=>rfl
  | cons j l=>
   exfalso;have hj:j∈Region.ready .any ops listed:=by rw [hr]; simp
   obtain ⟨h0,o,ho, -⟩:=mem_ready.1 hj;have hlt:j< ops.size:=(Array.getElem?_eq_some_iff.1 ho).1;rw [gets hD hs j hlt,hall j hlt] at h0;cases h0
 | succ fuel ih=>
  intro listed D a w hD hs hdown hfuel hrep;refine ⟨fun hr=>hQ a w (by rw [←Qjg (full hD hs hr)]; exact hrep),fun i hi=>?_⟩
  obtain ⟨h0,o,ho,hafter⟩:=mem_ready.1 hi;have hlt:i< ops.size:=(Array.getElem?_eq_some_iff.1 ho).1;rw [gets hD hs i hlt] at h0;obtain ⟨r,hr⟩: ∃r,recs[i]?=some r:=⟨recs[i]'(by omega),List.getElem?_eq_getElem (by omega)⟩
  have hanc: ∀m,r.it.anc.testBit m=true→D m=true:=by
   intro m hm;obtain ⟨o',ho',hdep,h3⟩:=htr.anc i r hr;rw [ho] at ho';obtain rfl:=Osj ho';obtain ⟨e,he,h4⟩:=h3 m hm;obtain ⟨e',he',rfl⟩:=List.mem_map.1 he;obtain ⟨he1,he2⟩:=List.mem_filter.1 he';have hDe:D e'.on=true:=by rw [hD]; exact hafter e' (by simpa using he1) he2
   rcases h4 with rfl | ⟨r',hr',h5⟩
   ·exact hDe
   ·exact hdown _ r' hr' hDe m h5
  have hi': ∀k q,recs[k]?=some q→i< k→D k=true→Apart r.it q.it:=fun k q hq hik hDk=>by
   refine htr.pair _ _ _ _ hr hq hik ?_;cases hb:q.it.anc.testBit i with
   | false=>rfl
   | true=>have:=hdown k q hq hDk i hb; rw [h0] at this; cases this
  have hst:=htr.step i r hr
  have hcut:appD (fun j=>decide (j< i)) recs σ ops.size=appD (fun _=>true) recs σ i:=by
   rw [Qjh]; congr 1; omega
  refine hst.wp (appD D recs σ ops.size) (by rw [QfW,QfW]) (fun t ht=>?_) (fun n hnm=>?_) a w hrep _ (fun a' w' hr'=>?_)
  ·rw [←hcut];refine Qny htr fun j q hj hq hne hdst=>?_
   rcases Nat.lt_or_ge j i with hji | hji
   ·have hDj:D j=false:=by simpa [hji] using hne
    have hap:=htr.pair _ _ _ _ hq hr hji (by
     cases hb:r.it.anc.testBit j with
     | false=>rfl
     | true=>rw [hanc j hb] at hDj; cases hDj)
    exact hap.h4 t hdst ht
   ·have hdj:decide (j< i)=false:=by simp; omega
    have hDj:D j=true:=by simpa [hdj] using hne
    have:i< j:=by
     rcases Nat.lt_or_ge i j with h | h
     ·exact h
     ·have:j=i:=by omega
      subst this; rw [h0] at hDj; cases hDj
    exact (hi' j q hq this hDj).h6 t hdst ht
  ·rw [←hcut];refine Qtt htr fun j q hj hq hne hwr=>?_
   rcases Nat.lt_or_ge j i with hji | hji
   ·have hDj:D j=false:=by simpa [hji] using hne
    have hap:=htr.pair _ _ _ _ hq hr hji (by
     cases hb:r.it.anc.testBit j with
     | false=>rfl
     | true=>rw [hanc j hb] at hDj; cases hDj)
    exact hap.h1 n hwr hnm
   ·have hdj:decide (j< i)=false:=by simp; omega
    have hDj:D j=true:=by simpa [hdj] using hne
    have:i< j:=by
     rcases Nat.lt_or_ge i j with h | h
     ·exact h
     ·have:j=i:=by omega
      subst this; rw [h0] at hDj; cases hDj
    exact (hi' j q hq this hDj).h2 n hwr hnm
  ·refine ih (D:=fun j=>D j || j==i) (fun j=>?_) (by simp [hs]) (fun j q hq hDj m hm=>?_) ?_ ?_
   ·by_cases hji:j=i
    ·subst hji;have:j< listed.size:=by omega
     simp [this]
    ·have e1:(j==i)=false:=by simpa using hji
     rw [getD_set_ne false (fun e=>hji e.symm), ←hD j,e1,Bool.or_false]
   ·simp only [Bool.or_eq_true,beq_iff_eq] at hDj⊢;rcases hDj with hDj | rfl
    ·exact .inl (hdown j q hq hDj m hm)
    ·rw [hr] at hq; obtain rfl:=Osj hq;exact .inl (hanc m hm)
   ·have:=(Qry h0 (k:=ops.size)).2 hlt;omega
   ·exact hr'.same ((Qnz htr hr h0 hi' (k:=ops.size)).2 hlt)
theorem QpX (hT:QR P T=true) (hG:Qf P G) (hm:P.follows .mixedOrders=true) {id nm:Nat} {K:St→Option R} {y:R} (hrep:Rep Z M N w0 σ a w)
  (h:opsD T G ops nm ops.toList σ 0 [] K=some y)
  (hK: ∀σ',K σ'=some y→σ'.nt=σ.nt→ ∀a' w',Rep Z M N w0 σ' a' w'→Q .normal a' w'):(Code.region id ops true).wp P Q a w:=by
 have htr0:Tr P ops Q Z M N w0 σ []:=⟨fun k r h=>by simp at h,fun k r h=>by simp at h,fun i k x y h=>by simp at h⟩
 obtain ⟨recs,σ',hlen,hl,htr,h2⟩:=QjV hT hG (σ0:=σ) (recs:=[]) (k:=0) (acc:=[]) (fun k=>by simp) rfl rfl (Leq.refl _) htr0 h
 simp only [List.length_nil,Nat.zero_add,Array.length_toList] at hlen;refine wp_region_any hm (QrE htr hlen (fun a' w' hr=>?_) (D:=fun _=>false) (fun j=>?_) (by simp) (fun j r _ h=>by cases h) ?_ ?_)
 ·rw [hlen] at hl;exact hK σ' h2 (by rw [hl.nt,QfW]) a' w' (hr.same hl)
 ·simp;cases h:(Array.replicate ops.size false)[j]? with
  | none=>rfl
  | some b=>
   have:=Array.getElem?_eq_some_iff.1 h;obtain ⟨h1,h2⟩:=this;simp at h2;simp [←h2]
 ·have: ∀k,unl (fun _=>false) k=k:=fun k=>by
   induction k with
   | zero=>rfl
   | succ k ih=>simp [unl,ih]
  rw [this]; exact Nat.le_refl _
 ·have:appD (fun _=>false) recs σ ops.size=σ:=by
   generalize ops.size=k
   induction k with
   | zero=>rfl
   | succ k ih=>
    simp only [appD,ih];split <;> simp
  rw [this];obtain ⟨β,hrep⟩:=hrep;exact ⟨β,hrep.drawn _⟩
end
section
open Go Go.RowKit
variable {P:Program} {T:Tab} {G:Env} {w w' w0:World} {Z:Nat→Prop} {M:Nat→Nat→Prop} {N:Nat→Option (Option (Nat×Nat))} {a:Act} {σ:St} {β:Qr} {l:List Nat}
variable {o:Oper} {next:Act→World→Prop} {Q:Exit→Act→World→Prop} {R:Type} {K:St→Option R} {y:R} {qo:Out}
def exOf:Ex→Exit
 | .normal=> .normal
 | .exit i=> .exit i
 | .ret=> .ret
def QqD (Z:Nat→Prop) (M:Nat→Nat→Prop) (N:Nat→Option (Option (Nat×Nat))) (w0:World) (nt:Nat):(os:List (Ex×Shp))→denO os→(Exit→Act→World→Prop)→Prop
 | [],_,_=>True
 | (e,s)::r,.inl x,Q=> ∀a w,Rep Z M N w0 (mk nt s x) a w→Q (exOf e) a w
 | (e,s)::r,.inr z,Q=>QqD Z M N w0 nt r z Q
def Qt (P:Program) (nt:Nat) (c:Code) (cut:Cut):Prop:=
 ∀x y,cut.F x=some y→ ∀Z M N w0 a w Q,Rep Z M N w0 (mk nt cut.inn x) a w→QqD Z M N w0 nt cut.outs y Q→c.wp P Q a w
def QZ (P:Program) (nt:Nat) (L:List (Nat×Cut)):Code→Prop
 | .seq a b=>QZ P nt L a∧QZ P nt L b
 | .cond _ a b=>QZ P nt L a∧QZ P nt L b
 | .block id c=>match look L (100000+id) with
  | some cut=>Qt P nt (.block id c) cut
  | none=>QZ P nt L c
 | .loop c=>match look L (Qbd c) with
  | some cut=>Qt P nt (.loop c) cut
  | none=>True
 | _=>True
theorem QnR {nt:Nat} {K:Ex→St→Option R} (hK: ∀e σ',K e σ'=some y→σ'.nt=nt→ ∀a' w',Rep Z M N w0 σ' a' w'→Q (exOf e) a' w'): ∀{os:List (Ex×Shp)} {z:denO os},goOn nt K os z=some y→QqD Z M N w0 nt os z Q
 | [],_,_=>trivial
 | (e,s)::r,.inl x,h=>fun a w hr=>hK e _ h rfl a w hr
 | (e,s)::r,.inr z,h=>QnR hK (os:=r) h
theorem QhM {K:Ex→St→Option R} {c:Code} {cut:Cut} (hc:Qt P σ.nt c cut) (hrep:Rep Z M N w0 σ a w) (h:Qno K σ (some cut)=some y)
  (hK: ∀e σ',K e σ'=some y→σ'.nt=σ.nt→ ∀a' w',Rep Z M N w0 σ' a' w'→Q (exOf e) a' w'):c.wp P Q a w:=by
 unfold Qno at h;obtain ⟨x,hx,h⟩:=Obs h;obtain ⟨z,hz,h⟩:=Obs h;exact hc x z hz _ _ _ _ _ _ _ (QuS hrep hx) (QnR hK h)
theorem RepB.known {β:Qr} (h:RepB Z M N w0 β σ a w) {c:Operand} {b:Bool} (hb:ev σ c=some (.s (.d .bool b))):RepB Z M N w0 β (σ.known c b) a w:=by
 cases c with
 | tmp t=>
  simp only [ev] at hb;split at hb
  ·rename_i x hx;obtain rfl:=Osj hb;obtain ⟨hi,hv⟩:=h.env t _ hx;exact h.know hi hv
  ·cases hb
  ·cases hb
 | const v=>exact h
 | func f=>exact h
 | global g=>exact h
theorem QcC (hT:QR P T=true) (hG:Qf P G) {L:List (Nat×Cut)}: ∀{c:Code} {σ:St} {a:Act} {w:World} {K:Ex→St→Option R} {Q:Exit→Act→World→Prop},QZ P σ.nt L c→Rep Z M N w0 σ a w→run T G L c σ K=some y→
  (∀e σ',K e σ'=some y→σ'.nt=σ.nt→ ∀a' w',Rep Z M N w0 σ' a' w'→Q (exOf e) a' w')→c.wp P Q a w:=by
 intro c
 induction c with
 | skip=>intro σ a w K Q _ hrep h hK; exact wp_skip (hK .normal σ h rfl a w hrep)
 | region id ops draw=>
  intro σ a w K Q _ hrep h hK;simp only [run] at h;split at h
  ·rename_i hdr;subst hdr;exact QpX hT hG (QoW hT) hrep h fun σ' h1 hn a' w' hr=>hK .normal σ' h1 hn a' w' hr
  ·rename_i hdr;have:draw=false:=by simpa using hdr
   subst this;exact wp_region_list (QeP hT hG hrep h fun σ' h1 hn a' w' hr=>hK .normal σ' h1 hn a' w' hr)
 | seq c1 c2 ih1 ih2=>
  intro σ a w K Q hL hrep h hK;simp only [run] at h;refine wp_seq (ih1 hL.1 hrep h ?_);intro e σ' h1 hn a' w' hr;cases e with
  | normal=>exact ih2 (by rw [hn]; exact hL.2) hr h1 fun e σ'' h2 hn'=>hK e σ'' h2 (by rw [hn',hn])
  | exit i=>exact hK (.exit i) σ' h1 hn a' w' hr
  | ret=>exact hK .ret σ' h1 hn a' w' hr
 | cond c c1 c2 ih1 ih2=>
  intro σ a w K Q hL hrep h hK;simp only [run] at h;split at h
  ·rename_i b hb;obtain ⟨β,hr⟩:=hrep;have hv:=QdO (Qh hr hb);refine wp_cond hv ?_;have hn: ∀b,(σ.known c b).nt=σ.nt:=fun b=>by cases c <;> rfl
   split at h
   ·rename_i e; subst e; exact ih1 (by rw [hn]; exact hL.1) ⟨β,hr.known hb⟩ h fun e σ'' h2 hn'=>hK e σ'' h2 (by rw [hn',hn])
   ·rename_i e;have:b=false:=by simpa using e
    subst this;exact ih2 (by rw [hn]; exact hL.2) ⟨β,hr.known hb⟩ h fun e σ'' h2 hn'=>hK e σ'' h2 (by rw [hn',hn])
  ·cases h
 | block id c ih=>
  intro σ a w K Q hL hrep h hK;simp only [run] at h;simp only [QZ] at hL;split at h
  ·rename_i cut hcut;rw [hcut] at hL;exact QhM hL hrep h hK
  ·rename_i hcut;rw [hcut] at hL;refine wp_block (ih hL hrep h ?_);intro e σ' h1 hn a' w' hr;cases e with
   | normal=>exact hK .normal σ' h1 hn a' w' hr
   | exit i=>
    simp only at h1;simp only [exOf,Exit.inBlock];split at h1
    ·rename_i e; rw [if_pos e]; exact hK .normal σ' h1 hn a' w' hr
    ·rename_i e; rw [if_neg e]; exact hK (.exit i) σ' h1 hn a' w' hr
   | ret=>exact hK .ret σ' h1 hn a' w' hr
 | loop c ih=>
  intro σ a w K Q hL hrep h hK;simp only [run] at h;simp only [QZ] at hL;cases hcut:look L (Qbd c) with
  | none=>rw [hcut] at h; cases h
  | some cut=>
   rw [hcut] at h hL;exact QhM hL hrep h hK
 | exit id=>intro σ a w K Q _ hrep h hK; exact wp_exit (hK (.exit id) σ h rfl a w hrep)
 | ret=>intro σ a w K Q _ hrep h hK; exact wp_ret (hK .ret σ h rfl a w hrep)
 | _=>intro σ a w K Q _ hrep h hK; simp only [run] at h; cases h
end
section
open Go Go.RowKit
variable {P:Program} {T:Tab} {G:Env} {L:List (Nat×Cut)} {w w' w0:World} {Z S Q0:Nat→Prop} {M:Nat→Nat→Prop} {N:Nat→Option (Option (Nat×Nat))} {a:Act} {σ:St} {β:Qr} {B B':Nat→Option Pl}
variable {Q:Exit→Act→World→Prop} {nt:Nat}
def QfC (inn:Shp) (outs:List (Ex×Shp)) (rec:inn.den→Option (denO outs)) (e:Ex) (σ:St):Option (denO outs):=
 match e with
 | .normal=>(un inn σ).bind rec
 | e=>outK outs e σ
def Qd {α γ:Type} (step:(α→Option γ)→α→Option γ):Nat→α→Option γ
 | 0,_=>none
 | n+1,x=>step (Qd step n) x
theorem QdC: ∀{os:List (Ex×Shp)} {e:Ex} {σ:St} {z:denO os},outK os e σ=some z→QqD Z M N w0 σ.nt os z Q→Rep Z M N w0 σ a w→Q (exOf e) a w
 | [],_,_,_,h,_,_=>by simp [outK] at h
 | (e',s)::r,e,σ,z,h,ho,hr=>by
  simp only [outK] at h;split at h
  ·rename_i he;subst he;split at h
   ·rename_i x hx;obtain rfl:=Osj h;exact ho a w (QuS hr hx)
   ·cases h
  ·split at h
   ·rename_i y hy;obtain rfl:=Osj h;exact QdC (os:=r) hy ho hr
   ·cases h
theorem Qg (hT:QR P T=true) (hG:Qf P G) {c:Code} {inn:Shp} {outs:List (Ex×Shp)} {step:(inn.den→Option (denO outs))→inn.den→Option (denO outs)}
  (hs: ∀rec x,run T G L c (mk nt inn x) (QfC inn outs rec)=step rec x) (hL:QZ P nt L c) (fuel:inn.den→Nat):
  Qt P nt (.loop c) { inn,outs,F:=fun x=>Qd step (fuel x) x }:=by
 intro x y h Z M N w0 a w Q hr ho;refine wp_loop_rounds (fuel x) ?_;simp only at h;generalize fuel x=n at h
 induction n generalizing x a w with
 | zero=>cases h
 | succ n ih=>
  rw [rounds_succ];simp only [Qd] at h;rw [←hs] at h;refine QcC hT hG (K:=QfC inn outs (Qd step n)) hL hr h ?_;intro e σ' h1 hn a' w' hr';have hn:σ'.nt=nt:=hn;cases e with
  | normal=>
   obtain ⟨x',hx',h2⟩:=Obs h1;have:=QuS hr' hx';rw [hn] at this;exact ih x' a' w' this h2
  | exit i=>exact QdC (Q:=Q) (e:= .exit i) h1 (by rw [hn]; exact ho) hr'
  | ret=>exact QdC (Q:=Q) (e:= .ret) h1 (by rw [hn]; exact ho) hr'
def Qpn (id:Nat) (outs:List (Ex×Shp)) (e:Ex) (σ:St):Option (denO outs):=
 match e with
 | .normal=>outK outs .normal σ
 | .exit i=>if i=id then outK outs .normal σ else outK outs (.exit i) σ
 | .ret=>outK outs .ret σ
theorem QrJ (hT:QR P T=true) (hG:Qf P G) {id:Nat} {c:Code} {inn:Shp} {outs:List (Ex×Shp)} {F:inn.den→Option (denO outs)} (hs: ∀x,run T G L c (mk nt inn x) (Qpn id outs)=F x) (hL:QZ P nt L c):
  Qt P nt (.block id c) { inn,outs,F }:=by
 intro x y h Z M N w0 a w Q hr ho;simp only at h;rw [←hs] at h;refine wp_block (QcC hT hG hL hr h ?_);intro e σ' h1 hn a' w' hr';have hn:σ'.nt=nt:=hn;cases e with
 | normal=>exact QdC (Q:=Q) (e:= .normal) h1 (by rw [hn]; exact ho) hr'
 | exit i=>
  simp only [Qpn] at h1;simp only [exOf,Exit.inBlock];split at h1
  ·rename_i e; rw [if_pos e]; exact QdC (Q:=Q) (e:= .normal) h1 (by rw [hn]; exact ho) hr'
  ·rename_i e; rw [if_neg e]; exact QdC (Q:=Q) (e:= .exit i) h1 (by rw [hn]; exact ho) hr'
 | ret=>exact QdC (Q:=Q) (e:= .ret) h1 (by rw [hn]; exact ho) hr'
end
section
open Go Go.RowKit
variable {P:Program} {T:Tab} {G:Env} {L:List (Nat×Cut)} {w w' w0:World} {Z S Qp:Nat→Prop} {M:Nat→Nat→Prop} {N:Nat→Option (Option (Nat×Nat))} {a:Act} {σ:St} {β:Qr} {B B':Nat→Option Pl} {H:Heap}
variable {Q:Exit→Act→World→Prop} {nt:Nat}
theorem Qez {c:CK} {x:c.den} {v:Value} {F:List Nat} (h:QcW w S Qp noB c x v F):QcW w S Qp B c x v F:=by
 cases c with
 | ptr o off=>obtain ⟨⟨b,base,h1,_⟩,_⟩:=h; cases h1
 | ref o=>obtain ⟨⟨q,n,h1,_⟩,_⟩:=h; cases h1
 | _=>exact h
theorem Qir: ∀{cs:List CK} {x:denC cs} {vs:List Value} {F:List Nat},Qbz w S Qp noB cs x vs F→Qbz w S Qp B cs x vs F
 | [],_,_,_,h=>h
 | c::r,_,_,_,⟨v,vs',F1,F2,h1,h2,h3,h4⟩=>⟨v,vs',F1,F2,h1,h2,Qez h3,Qir h4⟩
theorem Qdi {nm:Nat} {z:List (Nat×TypeId×Ty)} {d:denW z} {Fz:List Nat} (hz:Qhd w S B z d Fz): ∀{cs:List CK} {nm:Nat} {x:denC cs} {us:List Value} {F:List Nat},AggR w S Qp B nm cs x us F→
  Qbz w S Qp B (Qes nm cs) (refX nm cs x) us []∧Qhd w S B (Qcb nm z cs) (rowX nm d cs x) (F++Fz)
 | [],_,_,_,_,⟨h1,h2⟩=>by subst h1; subst h2; exact ⟨⟨rfl,rfl⟩,hz⟩
 | .own e t::r,nm,x,_,_,⟨v,vs',q,F2,h1,h2,h3,h4,h5,h6⟩=>by
  subst h1; subst h2;have ih:=Qdi (nm:=nm) hz h6;exact ⟨⟨v,vs',[],[],rfl,rfl,⟨⟨q,_,h3,h5⟩,rfl⟩,ih.1⟩,⟨q,F2++Fz,by rw [List.append_assoc],h3,h4,ih.2⟩⟩
 | .dat t::r,nm,x,_,_,⟨v,vs',h1,h2,h3⟩=>by
  subst h1;have ih:=Qdi (nm:=nm) hz h3;exact ⟨⟨v,vs',[],[],rfl,rfl,Qez h2,ih.1⟩,ih.2⟩
 | .pd t::r,nm,x,_,_,⟨v,vs',h1,h2,h3⟩=>by
  subst h1;have ih:=Qdi (nm:=nm) hz h3;exact ⟨⟨v,vs',[],[],rfl,rfl,Qez h2,ih.1⟩,ih.2⟩
 | .fn f ts::r,nm,x,_,_,⟨v,vs',h1,h2,h3⟩=>by
  subst h1;have ih:=Qdi (nm:=nm) hz h3;exact ⟨⟨v,vs',[],[],rfl,rfl,Qez h2,ih.1⟩,ih.2⟩
 | .any::r,nm,x,_,_,⟨v,vs',h1,h3⟩=>by
  subst h1;have ih:=Qdi (nm:=nm) hz h3;exact ⟨⟨v,vs',[],[],rfl,rfl,rfl,ih.1⟩,ih.2⟩
 | .ptr _ _::_,_,_,_,_,h=>h.elim
 | .ref _::_,_,_,_,_,h=>h.elim
 | .mp::_,_,_,_,_,h=>h.elim
 | .bx _::_,_,_,_,_,h=>h.elim
 | .vw _ _::_,_,_,_,_,h=>h.elim
theorem QbY: ∀{ps:List PK} {i:Nat} {x:denP ps} {vs:List Value} {F:List Nat},QcH w S Qp B i ps x vs F→(∀k,k< vs.length→i+k< a.tmps.size∧a.tmps.getD (i+k) undef=vs.getD k undef)→
  QgI w S Qp B a (QfH i ps) (QgB i ps x) []∧vs.length=ps.length∧ ∃F2 F3,QgG w S Qp B (QaN i ps) (Qgz i ps x) F2∧Qhd w S B (Qbx i ps) (QgA i ps x) F3∧F.Perm (F2++F3)
 | [],_,_,_,_,⟨h1,h2⟩,_=>by subst h1; subst h2; exact ⟨rfl,rfl,[],[],rfl,rfl,List.Perm.refl _⟩
 | k::r,i,x,vs,F,h,ht=>by
  have tail: ∀{v:Value} {vs':List Value},vs=v::vs'→ ∀k,k< vs'.length→(i+1)+k< a.tmps.size∧a.tmps.getD ((i+1)+k) undef=vs'.getD k undef:=by
   intro v vs' e k hk;have:=ht (k+1) (by rw [e]; simpa using hk)
   rw [e] at this;rw [show i+1+k=i+(k+1) by omega]
   exact ⟨this.1,by rw [this.2]; rfl⟩
  have head: ∀{v:Value} {vs':List Value},vs=v::vs'→i< a.tmps.size∧a.tmps.getD i undef=v:=by
   intro v vs' e;have:=ht 0 (by rw [e]; simp)
   rw [e] at this;exact ⟨this.1,this.2⟩
  cases k with
  | val t=>
   obtain ⟨v,vs',h1,h2,h3⟩:=h;obtain ⟨g1,g2,F2,F3,g3,g4,g5⟩:=QbY h3 (tail h1);refine ⟨⟨[],[],rfl,(head h1).1,⟨by rw [(head h1).2]; exact h2,rfl⟩,g1⟩,by rw [h1]; simp [g2],F2,F3,g3,g4,g5⟩
  | ptr t=>
   obtain ⟨v,vs',h1,h2,h3⟩:=h;obtain ⟨g1,g2,F2,F3,g3,g4,g5⟩:=QbY h3 (tail h1);exact ⟨⟨[],[],rfl,(head h1).1,⟨by rw [(head h1).2]; exact h2,rfl⟩,g1⟩,by rw [h1]; simp [g2],F2,F3,g3,g4,g5⟩
  | fn f ts=>
   obtain ⟨v,vs',h1,⟨us,h2⟩,h3⟩:=h;obtain ⟨g1,g2,F2,F3,g3,g4,g5⟩:=QbY h3 (tail h1);exact ⟨⟨[],[],rfl,(head h1).1,⟨⟨us,by rw [(head h1).2]; exact h2.1,h2.2⟩,rfl⟩,g1⟩,by rw [h1]; simp [g2],F2,F3,g3,g4,g5⟩
  | box ci co=>
   obtain ⟨v,vs',F1,F4,b,base,c,e,h1,h2,h3,h4,h5,h6,h7,h8,h9⟩:=h;obtain ⟨g1,g2,F2,F3,g3,g4,g5⟩:=QbY h9 (tail h1);refine ⟨⟨[],[],rfl,(head h1).1,⟨⟨b,base,h3,by rw [(head h1).2]; exact h4⟩,rfl⟩,g1⟩,by rw [h1]; simp [g2],F1++F2,F3,?_,g4,?_⟩
   ·exact ⟨F1,F2,b,base,c,e,rfl,h3,h5,h6,Qir h7,h8,g3⟩
   ·rw [h2,List.append_assoc]; exact g5.append_left F1
  | row e t=>
   obtain ⟨v,vs',q,F4,h1,h2,h3,h4,h5,h6⟩:=h;obtain ⟨g1,g2,F2,F3,g3,g4,g5⟩:=QbY h6 (tail h1);refine ⟨⟨[],[],rfl,(head h1).1,⟨⟨q,_,h3,by rw [(head h1).2]; exact h5⟩,rfl⟩,g1⟩,by rw [h1]; simp [g2],F2,blkq q++F3,g3,?_,?_⟩
   ·exact ⟨q,F3,rfl,h3,h4,g4⟩
   ·rw [h2];refine (g5.append_left (blkq q)).trans ?_;rw [←List.append_assoc, ←List.append_assoc];exact List.perm_append_comm.append_right F3
  | agg cs=>
   obtain ⟨v,vs',us,F1,F4,h1,h2,h3,h4,h5⟩:=h;obtain ⟨g1,g2,F2,F3,g3,g4,g5⟩:=QbY h5 (tail h1);have:=Qdi (nm:=0) g4 h4;refine ⟨⟨[],[],rfl,(head h1).1,⟨us,by rw [(head h1).2]; exact h3,this.1⟩,g1⟩,by rw [h1]; simp [g2],F2,F1++F3,g3,this.2,?_⟩
   rw [h2];refine (g5.append_left F1).trans ?_;rw [←List.append_assoc, ←List.append_assoc];exact List.perm_append_comm.append_right F3
theorem Qhy: ∀{ps:List PK} {i o:Nat},o∈(QaN i ps).map (·.1)→9000000≤o
 | [],_,_,h=>by simp [QaN] at h
 | k::r,i,o,h=>by
  cases k <;> simp only [QaN,List.map_cons,List.mem_cons] at h <;> first | exact Qhy h | skip
  rcases h with rfl | h
  ·omega
  ·exact Qhy h
theorem Qkb {z:List (Nat×TypeId×Ty)}: ∀{cs:List CK} {nm o:Nat},o∈(Qcb nm z cs).map (·.1)→nm≤o∨o∈z.map (·.1)
 | [],_,_,h=> .inr h
 | c::r,nm,o,h=>by
  cases c <;> simp only [Qcb,List.map_cons,List.mem_cons] at h <;> first | (rcases Qkb h with h | h; exact .inl (by omega); exact .inr h) | skip
  rcases h with rfl | h
  ·exact .inl (Nat.le_refl _)
  ·rcases Qkb h with h | h
   ·exact .inl (by omega)
   ·exact .inr h
theorem Qhz: ∀{ps:List PK} {i o:Nat},o∈(Qbx i ps).map (·.1)→9000000≤o
 | [],_,_,h=>by simp [Qbx] at h
 | k::r,i,o,h=>by
  cases k <;> simp only [Qbx,List.map_cons,List.mem_cons] at h <;> first | exact Qhz h | skip
  ·rcases h with rfl | h
   ·omega
   ·exact Qhz h
  ·rcases Qkb h with h | h
   ·omega
   ·exact Qhz h
theorem QpY (hT:QR P T=true) (hrep:RepB Z M N w0 β σ a w) {r:ResultVar} {s:SV} (h:resV T σ r=some s):
  ∃v,((match r with | .tmp t=>pure (a.tmps.getD t undef) | .cell x t=>do loadVar t (←asAddr (a.tmps.getD x undef)):Sem Value)).run P w= .ok v w∧VV w (RO Z β σ.H) β σ.H s v:=by
 cases r with
 | tmp t=>
  simp only [resV] at h;split at h
  ·rename_i v hv;obtain rfl:=Osj h;exact ⟨_,rfl,(hrep.env t _ hv).2⟩
  ·cases h
 | cell x t=>
  simp only [resV] at h;split at h
  ·rename_i r b off hr hx;split at h
   ·rename_i cs hb;split at h
    ·rename_i hlen;obtain ⟨i,d,z,hrow⟩:=QA hT hr;obtain ⟨g,base,hg1,hv⟩:=VV_p (w:=w) (S:=RO Z β σ.H) (hrep.env x _ hx).2 hb;obtain ⟨g',base',c,e,hq,hh,hbd,hall⟩:=hrep.obj b _ hb;rw [hg1] at hq;simp only [Oie,Pmi] at hq;obtain ⟨rfl,rfl⟩:=hq;obtain ⟨hl1,hl2,hl3⟩:=QjO hbd hall hlen;have hrun:=Qcd (P:=P) hrow hh hl1 hl2;refine ⟨_,by simp only [hv]; simp [asAddr,hrun]; rfl,?_⟩
     split at h
     ·rename_i ha;obtain rfl:=Osj h;rw [if_pos ha];exact ⟨_,rfl,hl3⟩
     ·rename_i ha;rw [if_neg ha];split at h
      ·rename_i c1 hc1;obtain rfl:=Osj h;obtain ⟨u,hu,hvs⟩:=hall.get hc1;have h1:=Qkv (by simpa using ha)
       rw [h1];rw [List.getElem?_take] at hu;split at hu
       ·rw [List.getElem?_drop] at hu
        have:c.toList.drop (base+off)=u::c.toList.drop (base+off+1):=by
         obtain ⟨hlt,he⟩:=List.getElem?_eq_some_iff.1 hu;rw [List.drop_eq_getElem_cons hlt,he]
        rw [this];exact Qbj hvs.1
       ·cases hu
      ·cases h
    ·cases h
   ·cases h
  ·cases h
theorem QiL (hT:QR P T=true) (hrep:RepB Z M N w0 β σ a w): ∀{rs:List ResultVar} {ss:List SV},mapO (resV T σ) rs=some ss→
  ∃vs,(rs.mapM fun r=>(match r with | .tmp t=>pure (a.tmps.getD t undef) | .cell x t=>do loadVar t (←asAddr (a.tmps.getD x undef)):Sem Value)).run P w= .ok vs w∧All2 (VV w (RO Z β σ.H) β σ.H) ss vs
 | [],_,h=>by
  simp only [mapO,Oie] at h;subst h;exact ⟨[],by simp,.nil⟩
 | r::rs,_,h=>by
  simp only [mapO] at h;split at h
  ·rename_i s hs;split at h
   ·rename_i z hz;obtain rfl:=Osj h;obtain ⟨v,h1,h2⟩:=QpY hT hrep hs;obtain ⟨vs,h3,h4⟩:=QiL hT hrep hz;exact ⟨v::vs,by rw [List.mapM_cons]; simp only [Sem.run_bind,h1,Result.andThen_ok,h3,Sem.run_pure],.cons h2 h4⟩
   ·cases h
  ·cases h
theorem Qea (hT:QR P T=true) (hrep:RepB Z M N w0 β σ a w) {fn:Func} {ss:List SV} (h:mapO (resV T σ) fn.results.toList=some ss):
  ∃vs,(results fn a.tmps).run P w= .ok (tupV vs) w∧All2 (VV w (RO Z β σ.H) β σ.H) ss vs:=by
 obtain ⟨vs,h1,h2⟩:=QiL hT hrep h;refine ⟨vs,?_,h2⟩;unfold results;rw [Array.mapM_eq_mapM_toList];simp only [Sem.run_bind,Sem.run_map]
 erw [h1]
 simp only [Result.andThen_ok]
 match vs with
 | []=>rfl
 | [v]=>rfl
 | v::v'::vs=>simp [tupV]
end
section
open Go Go.RowKit
variable {P:Program} {T:Tab} {G:Env} {L:List (Nat×Cut)} {w w' w0:World} {Z S S' Qp:Nat→Prop} {M:Nat→Nat→Prop} {N:Nat→Option (Option (Nat×Nat))} {a:Act} {σ:St} {β:Qr} {B B':Nat→Option Pl} {H:Heap} {fr l:List Nat}
variable {Q:Exit→Act→World→Prop} {nt:Nat}
theorem QkW (hS:Mon w S S') {c:CK} {x:c.den} {v:Value} {F:List Nat} (h:QcW w S Qp B c x v F) (hc:resC c=true):QcW w S' (fun _=>False) noB c x v F:=by
 cases c with
 | dat t=>obtain ⟨⟨h1,h2⟩,h3⟩:=h; exact ⟨⟨h1,hS.rp h2⟩,h3⟩
 | own e t=>obtain ⟨q,h1,h2⟩:=h; exact ⟨q,RowO.mon hS h1,h2⟩
 | vw e t=>obtain ⟨q,h1,h2⟩:=h; exact ⟨q,RowO.mon hS h1,h2⟩
 | fn f ts=>
  obtain ⟨⟨us,e,h⟩,h4⟩:=h;cases ts with
  | nil=>exact ⟨⟨us,e,h⟩,h4⟩
  | cons t r=>simp [resC] at hc
 | any=>exact h
 | _=>simp [resC] at hc
theorem QeA (hS:Mon w S S'): ∀{cs:List CK} {x:denC cs} {vs:List Value} {F:List Nat},Qbz w S Qp B cs x vs F→cs.all resC=true→Qbz w S' (fun _=>False) noB cs x vs F
 | [],_,_,_,h,_=>h
 | c::r,_,_,_,⟨v,vs',F1,F2,h1,h2,h3,h4⟩,hc=>by
  simp only [List.all_cons,Bool.and_eq_true] at hc;exact ⟨v,vs',F1,F2,h1,h2,QkW hS h3 hc.1,QeA hS h4 hc.2⟩
theorem Qvc (hS:Mon w S S') {k:VK} {x:k.den} {v:Value} {F:List Nat} (h:VKR w S Qp B k x v F) (hc:resK k=true):VKR w S' (fun _=>False) noB k x v F:=by
 cases k with
 | b cs=>simp [resK] at hc
 | g cs=>obtain ⟨vs,e,h⟩:=h; exact ⟨vs,e,QeA hS h hc⟩
 | s c=>
  by_cases hd: ∃t,c= .dat t
  ·obtain ⟨t,rfl⟩:=hd;obtain ⟨⟨cs,h1,h2⟩,h3⟩:=h;exact ⟨⟨cs,h1,hS.rp h2⟩,h3⟩
  ·have hn: ∀t,c≠ .dat t:=fun t e=>hd ⟨t,e⟩
   exact (Qit hn).2 (QkW hS ((Qit hn).1 h) hc)
theorem Qnu (hS:Mon w S S'): ∀{ks:List VK} {x:denV ks} {vs:List Value} {F:List Nat},VKsR w S Qp B ks x vs F→ks.all resK=true→VKsR w S' (fun _=>False) noB ks x vs F
 | [],_,_,_,h,_=>h
 | c::r,_,_,_,⟨v,vs',F1,F2,h1,h2,h3,h4⟩,hc=>by
  simp only [List.all_cons,Bool.and_eq_true] at hc;exact ⟨v,vs',F1,F2,h1,h2,Qvc hS h3 hc.1,Qnu hS h4 hc.2⟩
theorem QhE: ∀{cs:List CK},cs.all resC=true→cs.all (ptrC [])=true
 | [],_=>rfl
 | c::r,h=>by
  simp only [List.all_cons,Bool.and_eq_true] at h⊢;exact ⟨by cases c <;> first | rfl | simp [resC] at h,QhE h.2⟩
theorem QuH {k:VK} (h:resK k=true):ptrV [] k=true:=by
 cases k with
 | b cs=>simp [resK] at h
 | g cs=>exact QhE h
 | s c=>cases c <;> first | rfl | simp [resK,resC] at h
theorem QlW: ∀{ks:List VK},ks.all resK=true→ks.all (ptrV [])=true
 | [],_=>rfl
 | c::r,h=>by
  simp only [List.all_cons,Bool.and_eq_true] at h⊢;exact ⟨QuH h.1,QlW h.2⟩
theorem QhL {o:Nat} {e:TypeId} {t:Ty} {ys:List (den t)} (h:unR H o e t=some ys): ∃e',QbJ e' e=true∧look H o=some (.row e' t ys):=by
 unfold unR at h;split at h
 ·rename_i e' t' zs ho;split at h
  ·rename_i he;split at h
   ·rename_i us hus;obtain rfl:=Osj h;obtain ⟨e1,e2⟩:=QX hus;simp only [Ty.slice.injEq] at e1;subst e1;simp only at e2;subst e2;exact ⟨_,he,ho⟩
   ·cases h
  ·cases h
 ·cases h
theorem Qba: ∀{cs:List CK} {nm:Nat} {x:denC cs} {y:Qci cs} {l1:List Nat},unRs H nm cs x=some (y,l1)→Rows H l1
 | [],_,_,_,_,h=>by
  simp only [unRs,Oie,Pmi] at h;rw [←h.2]; exact fun o ho=>by simp at ho
 | .own e t::r,nm,x,_,_,h=>by
  simp only [unRs] at h;split at h
  ·rename_i y z hy hz;simp only [Oie,Pmi] at h;rw [←h.2];intro o ho;rcases List.mem_cons.1 ho with rfl | ho
   ·obtain ⟨e',_,hk⟩:=QhL hy; exact ⟨_,hk,rfl⟩
   ·exact Qba hz o ho
  ·cases h
 | .dat _::r,_,_,_,_,h=>Qba (cs:=r) h
 | .ptr _ _::r,_,_,_,_,h=>Qba (cs:=r) h
 | .ref _::r,_,_,_,_,h=>Qba (cs:=r) h
 | .pd _::r,_,_,_,_,h=>Qba (cs:=r) h
 | .fn _ _::r,_,_,_,_,h=>Qba (cs:=r) h
 | .mp::r,_,_,_,_,h=>Qba (cs:=r) h
 | .bx _::r,_,_,_,_,h=>Qba (cs:=r) h
 | .vw _ _::r,_,_,_,_,h=>Qba (cs:=r) h
 | .any::r,_,_,_,_,h=>Qba (cs:=r) h
theorem QdM: ∀{ps:List PK} {i:Nat} {x:denP ps} {y:denQ ps} {l1:List Nat},unA H i ps x=some (y,l1)→Rows H l1∧ ∀p∈QaN i ps, ∃cs,look H p.1=some (.box cs)∧cs.length=p.2.length
 | [],_,_,_,_,h=>by
  simp only [unA,Oie,Pmi] at h;rw [←h.2]; exact ⟨fun o ho=>by simp at ho,fun p hp=>by simp [QaN] at hp⟩
 | .val _::r,_,_,_,_,h=>QdM (ps:=r) h
 | .ptr _::r,_,_,_,_,h=>QdM (ps:=r) h
 | .fn _ _::r,_,_,_,_,h=>QdM (ps:=r) h
 | .box ci co::r,i,x,_,_,h=>by
  simp only [unA] at h;split at h
  ·rename_i cs hk;split at h
   ·rename_i hl;split at h
    ·rename_i q hq;split at h
     ·rename_i q' hq';simp only [Oie,Pmi] at h;rw [←h.2];have ih:=QdM (ps:=r) hq';refine ⟨(Qcf hq).1.append ih.1,fun p hp=>?_⟩
      simp only [QaN,List.mem_cons] at hp;rcases hp with rfl | hp
      ·exact ⟨cs,hk,hl.1⟩
      ·exact ih.2 p hp
     ·cases h
    ·cases h
   ·cases h
  ·cases h
 | .row e t::r,i,x,_,_,h=>by
  simp only [unA] at h;split at h
  ·rename_i y q' hy hq';simp only [Oie,Pmi] at h;rw [←h.2];have ih:=QdM (ps:=r) hq';refine ⟨fun o ho=>?_,ih.2⟩
   rcases List.mem_cons.1 ho with rfl | ho
   ·obtain ⟨e',_,hk⟩:=QhL hy; exact ⟨_,hk,rfl⟩
   ·exact ih.1 o ho
  ·cases h
 | .agg cs::r,i,x,_,_,h=>by
  simp only [unA] at h;split at h
  ·rename_i y q' hy hq';simp only [Oie,Pmi] at h;rw [←h.2];have ih:=QdM (ps:=r) hq';exact ⟨(Qba hy).append ih.1,ih.2⟩
  ·cases h
def Qpk (β:Qr) (B:Nat→Option Pl):Prop:=(∀o b base,B o=some (.box b base)→β o=some (b,base))∧ ∀o q n,B o=some (.row q n)→β o=q
theorem QcF {w1:World} {S1 Q1:Nat→Prop} (hO:Owns w S β (frz H fr)) (hfr: ∀o,o∈l→o∉fr) (hpin:Qpk β B): ∀{cs:List CK} {nm:Nat} {x:denC cs} {y:Qci cs} {l1:List Nat} {us:List Value} {F:List Nat},
  AggR w1 S1 Q1 B nm cs x us F→unRs H nm cs x=some (y,l1)→(∀o∈l1,o∈l)→Qdw cs x y=true→CwR w S B nm cs y us (blks β l1)
 | [],_,_,_,_,_,_,⟨h1,_⟩,h,_,_=>by
  simp only [unRs,Oie,Pmi] at h;rw [←h.2]; exact ⟨h1,rfl⟩
 | .own e t::r,nm,x,_,_,_,_,⟨v,vs',q,F2,e1,e2,e3,e4,e5,e6⟩,h,hl,hln=>by
  simp only [unRs] at h;split at h
  ·rename_i y z hy hz;simp only [Oie,Pmi] at h;obtain ⟨h1,h2⟩:=h;subst h1; subst h2; subst e1;obtain ⟨e',he,hk⟩:=QhL hy;simp only [Qdw,Bool.and_eq_true,beq_iff_eq] at hln;obtain ⟨hlen,hln⟩:=hln;have hb:=hpin.2 nm q _ e3;have hk':=Qaz (l:=fr) hk;rw [if_neg (hfr nm (hl nm (by simp)))] at hk'
   refine ⟨v,vs',q,blks β z.2,rfl,by simp [blks,hb],?_,⟨_,e3⟩,QcF hO hfr hpin e6 hz (fun o ho=>hl o (List.mem_cons_of_mem _ ho)) hln⟩
   rw [←hb]; exact QbK he (hO nm _ hk')
  ·cases h
 | .dat _::r,_,_,_,_,_,_,⟨v,vs',e1,_,e3⟩,h,hl,hln=>⟨v,vs',e1,QcF hO hfr hpin e3 h hl hln⟩
 | .pd _::r,_,_,_,_,_,_,⟨v,vs',e1,_,e3⟩,h,hl,hln=>⟨v,vs',e1,QcF hO hfr hpin e3 h hl hln⟩
 | .fn _ _::r,_,_,_,_,_,_,⟨v,vs',e1,_,e3⟩,h,hl,hln=>⟨v,vs',e1,QcF hO hfr hpin e3 h hl hln⟩
 | .any::r,_,_,_,_,_,_,⟨v,vs',e1,e3⟩,h,hl,hln=>⟨v,vs',e1,QcF hO hfr hpin e3 h hl hln⟩
 | .ptr _ _::_,_,_,_,_,_,_,h,_,_,_=>h.elim
 | .ref _::_,_,_,_,_,_,_,h,_,_,_=>h.elim
 | .mp::_,_,_,_,_,_,_,h,_,_,_=>h.elim
 | .bx _::_,_,_,_,_,_,_,h,_,_,_=>h.elim
 | .vw _ _::_,_,_,_,_,_,_,h,_,_,_=>h.elim
theorem QcE {w1:World} {S1 Q1:Nat→Prop} (hO:Owns w S β (frz H fr)) (hQ: ∀b, ¬Own β (frz H fr) b→Qp b) (hS:Mon w S S') (hS2: ∀e t xs q,RowO w S e t xs q→RowO w S' e t xs q) (hfr: ∀o,o∈l→o∉fr) (hpin:Qpk β B) (hc: ∀sh,Cuts H fr l sh):
  ∀{ps:List PK} {i:Nat} {x:denP ps} {y:denQ ps} {l1:List Nat} {vs:List Value} {F:List Nat},QcH w1 S1 Q1 B i ps x vs F→unA H i ps x=some (y,l1)→(∀o∈l1,o∈l)→QnO H l i ps=true→ps.all QdA=true→lenQ ps x y=true→Qeg w S' B i ps y vs (blks β l1)
 | [],_,_,_,_,_,_,⟨h1,_⟩,h,_,_,_,_=>by
  simp only [unA,Oie,Pmi] at h;rw [←h.2]; exact ⟨h1,rfl⟩
 | .val _::r,_,_,_,_,_,_,⟨v,vs',e1,_,e3⟩,h,hl,hf,hp,hln=>by
  simp only [List.all_cons,Bool.and_eq_true] at hp;exact ⟨v,vs',e1,QcE hO hQ hS hS2 hfr hpin hc e3 h hl hf hp.2 hln⟩
 | .ptr _::r,_,_,_,_,_,_,⟨v,vs',e1,_,e3⟩,h,hl,hf,hp,hln=>by
  simp only [List.all_cons,Bool.and_eq_true] at hp;exact ⟨v,vs',e1,QcE hO hQ hS hS2 hfr hpin hc e3 h hl hf hp.2 hln⟩
 | .fn _ _::r,_,_,_,_,_,_,⟨v,vs',e1,_,e3⟩,h,hl,hf,hp,hln=>by
  simp only [List.all_cons,Bool.and_eq_true] at hp;exact ⟨v,vs',e1,QcE hO hQ hS hS2 hfr hpin hc e3 h hl hf hp.2 hln⟩
 | .box ci co::r,i,x,_,_,_,_,⟨v,vs',F1,F2,b,base,c,e,e1,e2,e3,e4,e5,e6,e7,e8,e9⟩,h,hl,hf,hp,hln=>by
  simp only [List.all_cons,Bool.and_eq_true,QdA] at hp;simp only [unA] at h;split at h
  ·rename_i cs hk;split at h
   ·rename_i hlen;split at h
    ·rename_i q hq;split at h
     ·rename_i q' hq';simp only [Oie,Pmi] at h;obtain ⟨h1,h2⟩:=h;subst h1; subst h2; subst e1;simp only [QnO,hk,Bool.and_eq_true] at hf;have hb:=hpin.1 _ _ _ e3;obtain ⟨b',base',c',e',i1,i2,i3,i4⟩:=hO _ _ (Qaw (fr:=fr) hk);rw [hb] at i1;simp only [Oie,Pmi] at i1;obtain ⟨rfl,rfl⟩:=i1;have hl1:cs.length=co.length:=by rw [hlen.1,hlen.2]
      rw [hl1] at i3 i4;have hcr:=QbX hO hQ (i4.mono fun _ _ h=>h.1) hq (fun o ho=>hl o (List.mem_append_left _ ho)) hf.1 (bs:=[]) (QhE hp.1.2) (fun o ho=>by simp at ho) (hc _)
      refine ⟨v,vs',_,_,b,base,c',e',rfl,QJ,e4,hlen.2,i2,i3,QeA hS hcr hp.1.2,i4.right fun _ _ h=>h.2,QcE hO hQ hS hS2 hfr hpin hc e9 hq' (fun o ho=>hl o (List.mem_append_right _ ho)) hf.2 hp.2 hln⟩
     ·cases h
    ·cases h
   ·cases h
  ·cases h
 | .row e t::r,i,x,_,_,_,_,⟨v,vs',q,F2,e1,e2,e3,e4,e5,e6⟩,h,hl,hf,hp,hln=>by
  simp only [List.all_cons,Bool.and_eq_true] at hp;simp only [unA] at h;split at h
  ·rename_i y q' hy hq';simp only [Oie,Pmi] at h;obtain ⟨h1,h2⟩:=h;subst h1; subst h2; subst e1;obtain ⟨e',he,hk⟩:=QhL hy;simp only [lenQ,Bool.and_eq_true,beq_iff_eq] at hln;obtain ⟨hlen,hln⟩:=hln;have hb:=hpin.2 _ q _ e3;have hk':=Qaz (l:=fr) hk;rw [if_neg (hfr _ (hl _ (by simp)))] at hk'
   refine ⟨v,vs',q,blks β q'.2,rfl,by simp [blks,hb],?_,⟨_,e3⟩,QcE hO hQ hS hS2 hfr hpin hc e6 hq' (fun o ho=>hl o (List.mem_cons_of_mem _ ho)) hf hp.2 hln⟩
   rw [←hb]; exact hS2 _ _ _ _ (QbK he (hO _ _ hk'))
  ·cases h
 | .agg cs::r,i,x,_,_,_,_,⟨v,vs',us,F1,F2,e1,e2,e3,e4,e5⟩,h,hl,hf,hp,hln=>by
  simp only [List.all_cons,Bool.and_eq_true] at hp;simp only [unA] at h;split at h
  ·rename_i y q' hy hq';simp only [Oie,Pmi] at h;obtain ⟨h1,h2⟩:=h;subst h1; subst h2; subst e1;simp only [lenQ,Bool.and_eq_true] at hln;have hcw:=QcF hO hfr hpin e4 hy (fun o ho=>hl o (List.mem_append_left _ ho)) hln.1
   exact ⟨v,vs',us,_,_,rfl,QJ,e3,QqC (sl:=true) (S':=S') (fun B t x cs _ h=>hS _ _ _ _ h) (fun e=>by cases e) hcw,QcE hO hQ hS hS2 hfr hpin hc e5 hq' (fun o ho=>hl o (List.mem_append_right _ ho)) hf hp.2 hln.2⟩
  ·cases h
theorem QcI: ∀{ps:List PK} {i:Nat} {x:denP ps} {vs:List Value} {F:List Nat},QcH w S Qp B i ps x vs F→vs.length=ps.length
 | [],_,_,_,_,⟨h,_⟩=>by rw [h]; rfl
 | k::r,_,_,_,_,h=>by
  cases k with
  | val t=>obtain ⟨v,vs',h1,_,h3⟩:=h; rw [h1]; simp [QcI h3]
  | ptr t=>obtain ⟨v,vs',h1,_,h3⟩:=h; rw [h1]; simp [QcI h3]
  | fn f ts=>obtain ⟨v,vs',h1,_,h3⟩:=h; rw [h1]; simp [QcI h3]
  | box ci co=>obtain ⟨v,vs',_,_,_,_,_,_,h1,_,_,_,_,_,_,_,h3⟩:=h; rw [h1]; simp [QcI h3]
  | row e t=>obtain ⟨v,vs',_,_,h1,_,_,_,_,h3⟩:=h; rw [h1]; simp [QcI h3]
  | agg cs=>obtain ⟨v,vs',_,_,_,h1,_,_,_,h3⟩:=h; rw [h1]; simp [QcI h3]
def st0 (fn:Func) (ps:List PK) (x:denP ps):St:=mk (Nat.max fn.ntmps ps.length) { slots:=QfH 0 ps,boxes:=QaN 0 ps,rows:=Qbx 0 ps } (QgB 0 ps x,Qgz 0 ps x,QgA 0 ps x)
theorem QoA (T:Tab) (σ:St) (fr:List Nat):resV T { σ with H:=frz σ.H fr }=resV T σ:=by
 funext r;cases r with
 | tmp t=>rfl
 | cell x t=>
  simp only [resV];split
  ·rename_i r b off hr' hx';by_cases hb': ∃cs,look σ.H b=some (.box cs)
   ·obtain ⟨cs,hb'⟩:=hb';rw [hb',Qaw hb']
   ·have e1: ∀{z:Option SV},(match look σ.H b with | some (.box cs)=>z | _=>(none:Option SV))=none:=by
     intro z;split
     ·rename_i cs hcs; exact absurd ⟨cs,hcs⟩ hb'
     ·rfl
    split
    ·rename_i cs hcs;exfalso;by_cases hrow: ∃e t xs,look σ.H b=some (.row e t xs)
     ·obtain ⟨e,t',xs,hk⟩:=hrow;rw [Qaz (l:=fr) hk] at hcs;split at hcs <;> cases hcs
     ·rw [Qav fun e t xs e'=>hrow ⟨e,t,xs,e'⟩] at hcs
      exact hb' ⟨cs,hcs⟩
    ·split
     ·rename_i cs hcs; exact absurd ⟨cs,hcs⟩ hb'
     ·rfl
  ·rfl
theorem Qix (hT:QR P T=true) {f:FuncId} {fn:Func} {c:Code} {cn:Con} (hf:P.funcs[f]?=some fn) (hb:fn.body=some c) (hn2:cn.ps.all QdA=true∧cn.rs.all resK=true)
  (hW: ∀x y,cn.F x=some y→QeO (st0 fn cn.ps x)=true∧ ∀(Z:Nat→Prop) (M:Nat→Nat→Prop) (N:Nat→Option (Option (Nat×Nat))) (w0:World) (a:Act) (w:World) (Q:Exit→Act→World→Prop),Rep Z M N w0 (st0 fn cn.ps x) a w→
   (∀e σ',endE T fn cn.ps cn.rs x e σ'=some y→σ'.nt=(st0 fn cn.ps x).nt→ ∀a' w',Rep Z M N w0 σ' a' w'→Q (exOf e) a' w')→c.wp P Q a w):Qfg P f cn:=by
 intro x y hx w args S Qp B M F hp ha _;obtain ⟨hn1,hW⟩:=hW x y hx;have hal:=QcI ha;refine calls_of_wp hf hb ?_;generalize hac:({ tmps:=args.toArray++Array.replicate (fn.ntmps-args.toArray.size) undef,defers:=[] }:Act)=a
 have hsz:a.tmps.size=Nat.max fn.ntmps cn.ps.length:=by
  rw [←hac,show Nat.max fn.ntmps cn.ps.length=max fn.ntmps cn.ps.length from rfl]; simp [hal]; omega
 have hget: ∀k,k< args.length→0+k< a.tmps.size∧a.tmps.getD (0+k) undef=args.getD k undef:=by
  intro k hk;refine ⟨by rw [hsz, ←hal,show Nat.max fn.ntmps args.length=max fn.ntmps args.length from rfl]; omega,?_⟩
  rw [←hac,Nat.zero_add];simp [Array.getElem?_append,hk]
 obtain ⟨hs,_,F2,F3,hbx,hrw,hperm⟩:=QbY (a:=a) ha hget;have hin: ∀b,b∈F↔b∈([]++F2)++F3:=fun b=>by rw [List.nil_append]; exact hperm.mem_iff
 let N:Nat→Option (Option (Nat×Nat)):=fun o=>match B o with | some (.box b base)=>some (some (b,base)) | some (.row q n)=>some q | none=>none
 have hrep:Rep (fun b=>S b∨ ∀i,M b i) M N w (mk (Nat.max fn.ntmps cn.ps.length) { slots:=QfH 0 cn.ps,boxes:=QaN 0 cn.ps,rows:=Qbx 0 cn.ps } (QgB 0 cn.ps x,Qgz 0 cn.ps x,QgA 0 cn.ps x)) a w:=by
  refine QjT (B:=B) hp.laid hp.fresh (fun b h=> .inr h) (by rw [←hac]) hsz (Kept.refl M w) hn1 hs hbx hrw ?_ ?_ ?_ hp.row hp.inj ?_ ?_ ?_ ?_
  ·rw [List.nil_append]; exact (hperm.nodup_iff).1 hp.nodup
  ·intro b hb; exact hp.mine b ((hin b).2 hb)
  ·intro o b base ho;have:=hp.box o b base ho;exact ⟨this.1,fun h=>this.2.1 ((hin b).2 h),this.2.2⟩
  ·intro b hb h;have:=hp.data b hb h;exact ⟨.inl h,fun h=>this.1 ((hin b).2 h),this.2⟩
  ·intro b h;have:=hp.ptr b h;exact ⟨fun h=>this.1 ((hin b).2 h),this.2⟩
  ·intro o b base ho h9;exact absurd (Qhy (hp.box o b base ho).1) (by omega)
  ·intro o q ho;simp only [N] at ho;split at ho
   ·rename_i b base hbo;obtain rfl:=Osj ho;exact ⟨Qhy (hp.box o b base hbo).1,.inl ⟨b,base,rfl,hbo⟩⟩
   ·rename_i q' n hbo;obtain rfl:=Osj ho;exact ⟨Qhz (hp.row o q' n hbo),.inr ⟨n,hbo⟩⟩
   ·cases ho
 have hpinB: ∀{σ':St} {a':Act} {w':World} {β:Qr},RepB (fun b=>S b∨ ∀i,M b i) M N w β σ' a' w'→Qpk β B:=by
  intro σ' a' w' β h;refine ⟨fun o b base ho=>(h.pin o (some (b,base)) (by simp [N,ho])).1,fun o q n ho=>(h.pin o q (by simp [N,ho])).1⟩
 refine hW _ _ _ _ _ _ (bodyPost P fn _) hrep ?_;intro e σ' h1 hn a' w' hr;obtain ⟨β,hr⟩:=hr
 have key:endK T fn cn.ps cn.rs x σ'=some y→
   a'.defers=[]∧ ∃v,(results fn a'.tmps).run P w'= .ok v w'∧ ∃v',Ending.returned v= .returned v'∧Post M w S B cn args y v' w':=by
  intro h1;unfold endK at h1;split at h1
  ·cases h1
  ·rename_i ss hss;split at h1
   ·cases h1
   ·rename_i y1 hy1;split at h1
    ·cases h1
    ·rename_i z hz;split at h1
     ·rename_i hc;by_cases hln:lenQ cn.ps x z.1=true
      case neg=>rw [if_neg hln] at h1; cases h1
      rw [if_pos hln] at h1;obtain rfl:=Osj h1;simp only [Bool.and_eq_true] at hc;obtain ⟨⟨c1,c2⟩,c3⟩:=hc
      let l:=y1.2++z.2
      let fr:=others σ'.H l
      have hr1:=hr.frz fr;obtain ⟨vs,hres,hall⟩:=Qea hT hr hss;obtain ⟨vs1,hres1,hall1⟩:=Qea (fn:=fn) hT hr1 (by rw [QoA]; exact hss)
      have hpin:=hpinB hr
      have hrows1:Rows σ'.H y1.2:=by
       have: ∀{rs:List VK} {ss:List SV} {x:denV rs} {l1:List Nat},unVs σ'.H rs ss=some (x,l1)→Rows σ'.H l1:=by
        intro rs
        induction rs with
        | nil=>
         intro ss x l1 h;cases ss with
         | nil=>
          simp only [unVs,Oie,Pmi] at h;rw [←h.2]; exact fun o ho=>by simp at ho
         | cons _ _=>simp [unVs] at h
        | cons k r ih=>
         intro ss x l1 h;cases ss with
         | nil=>simp [unVs] at h
         | cons s ss=>
          simp only [unVs] at h;split at h
          ·rename_i q hq;split at h
           ·rename_i q' hq';simp only [Oie,Pmi] at h;rw [←h.2];exact (Qpc hq).append (ih hq')
           ·cases h
          ·cases h
       exact this hy1
      have hrows2:=QdM hz;have hrows:=hrows1.append hrows2.1
      have hlive: ∀o∈l, ∃ob,look (frz σ'.H fr) o=some ob∧Qcq ob=true:=by
       intro o ho;obtain ⟨ob,hk,hl⟩:=hrows o ho;exact ⟨ob,Qhn hk hl (QbH o ho),hl⟩
      have hboxes: ∀o b base,B o=some (.box b base)→ ∃cs,look (frz σ'.H fr) o=some (.box cs)∧β o=some (b,base):=by
       intro o b base ho;obtain ⟨p,hp1,rfl⟩:=List.mem_map.1 (hp.box o b base ho).1;obtain ⟨cs,e1,_⟩:=hrows2.2 p hp1;exact ⟨cs,Qaw e1,hpin.1 _ _ _ ho⟩
      have hF': ∀b,b∈blks β y1.2++blks β z.2↔ ∃o∈l,b∈blkq (β o):=by
       intro b; rw [←QJ]; exact Qbk
      have hfoot: ∀o∈l, ∀b,b∈blkq (β o)→ ∃ob p,look (frz σ'.H fr) o=some ob∧Qcq ob=true∧β o=some p∧foot ob p b:=by
       intro o ho b hb;obtain ⟨ob,hk,hl⟩:=hlive o ho;have hO:=Qcc hl (hr1.obj o ob hk);cases hq:β o with
       | none=>rw [hq] at hb; simp [blkq] at hb
       | some p=>
        rw [hq] at hb hO;exact ⟨ob,p,hk,hl,rfl,hO.foot.2 hb⟩
      have hS': ∀b,RO (fun b=>S b∨ ∀i,M b i) β (frz σ'.H fr) b→after S M B (blks β y1.2++blks β z.2) b:=by
       intro b hb;refine ⟨hb.1,fun hbF=>?_,fun o base ho=>?_⟩
       ·obtain ⟨o',ho',hbo⟩:=(hF' b).1 hbF;obtain ⟨ob,p,hk',hl',hp',hf'⟩:=hfoot o' ho' b hbo;exact hb.2 ⟨o',_,p,hk',QP hl',hp',hf'⟩
       ·obtain ⟨cs,hk,hb'⟩:=hboxes o b base ho;exact hb.2 ⟨o,_,_,hk,rfl,hb',Ql⟩
      have hdata:Mon w' (RO (fun b=>S b∨ ∀i,M b i) β (frz σ'.H fr)) (after S M B (blks β y1.2++blks β z.2)):=
       Mon.sub fun b _ hb=>hS' b hb
      refine ⟨hr.defers,_,hres1,_,rfl,hr.below,_,blks β y1.2,blks β z.2,rfl,?_,?_,?_,?_⟩
      ·exact Qnu hdata (QkC hr1.owns (Q:=fun _=>True) (fun _ _=>trivial) hall1 hy1 (fun o ho=>List.mem_append_left _ ho) c2 (bs:=[]) (QlW hn2.2) (fun o ho=>by simp at ho) (fun s _=>QcR)) hn2.2
      ·exact QcE (Qp:=fun _=>True) hr1.owns (fun _ _=>trivial) hdata (fun e t xs q h=>RowO.mon hdata h) QbH hpin (fun sh=>QcR) ha hz (fun o ho=>List.mem_append_right _ ho) c3 hn2.1 hln
      ·rw [←QJ];refine Qdr (l:=l) ?_ ?_ (fun o ho=>ho) (Qan c1)
       ·intro o o' b ho ho' hb hb';obtain ⟨ob,p,hk,hl,hp',hf⟩:=hfoot o ho b hb;obtain ⟨ob',p',hk',hl',hp'',hf'⟩:=hfoot o' ho' b hb';exact hr1.one o o' _ _ p p' b hk (QP hl) hk' (QP hl') hp' hp'' hf hf'
       ·intro o ho;obtain ⟨ob,hk,hl⟩:=hlive o ho;exact (Qcc hl (hr1.obj o ob hk)).nodup
      ·intro b hb;obtain ⟨o,ho,hbo⟩:=(hF' b).1 hb;obtain ⟨ob,p,hk,hl,hp',hf⟩:=hfoot o ho b hbo;have hown:=hr1.hold o _ p b hk (QP hl) hp' hf;refine ⟨Qim hl hown.1,hown.2,fun o' base ho'=>?_⟩
       obtain ⟨cs,hk',hb'⟩:=hboxes o' b base ho';have:=hr1.one o o' _ _ p _ b hk (QP hl) hk' rfl hp' hb' hf Ql;subst this;rw [hk] at hk';cases hk';cases hl
     ·cases h1
 cases e with
 | exit i=>cases h1
 | normal=>exact key h1
 | ret=>exact key h1
theorem QnL (hT:QR P T=true) (hG:Qf P G) {f:FuncId} {fn:Func} {c:Code} {cn:Con} (hf:P.funcs[f]?=some fn) (hb:fn.body=some c) (hL:QZ P (Nat.max fn.ntmps cn.ps.length) L c)
  (hF: ∀x,QF T G L fn cn.ps cn.rs x=cn.F x):Qfg P f cn:=by
 by_cases hn:cn.ps.all QdA=true∧cn.rs.all resK=true
 ·refine Qix (T:=T) hT hf hb hn fun x y hx=>?_
  rw [←hF] at hx;unfold QF at hx;rw [hb] at hx;simp only at hx;split at hx
  ·cases hx
  ·rename_i hchk
   have hn1:QeO (st0 fn cn.ps x)=true:=by
    simp only [not_or,Bool.not_eq_false] at hchk; exact hchk.1
   exact ⟨hn1,fun Z M N w0 a w Q hrep hK=>QcC hT hG (by exact hL) hrep hx hK⟩
 ·intro x y hx;exfalso;rw [←hF] at hx;unfold QF at hx;rw [hb] at hx;simp only at hx;split at hx
  ·cases hx
  ·rename_i hchk;apply hn;simp only [not_or,Bool.not_eq_false,Bool.and_eq_true] at hchk;exact hchk.2
end
section
open Go Go.RowKit
variable {P:Program} {T:Tab} {G:Env} {L:List (Nat×Cut)} {w w' w0:World} {S Qp:Nat→Prop} {M:Nat→Nat→Prop} {B:Nat→Option Pl}
def Qoi:PK→Bool
 | .val _=>true
 | _=>false
def QqO (T:Tab) (fn:Func) (ps:List PK) (cs:List CK) (x:denP ps) (σ:St):Option (denV [.b cs]×denQ ps):=
 match mapO (resV T σ) fn.results.toList with
 | some [.s (.p o off)]=>match look σ.H o with
  | some (.box ss)=>match unCs σ.H cs ss with
   | some y=>match unA σ.H 0 ps x with
    | some z=>if ((decide (o< 9000000) && decide (off=0)) && decide (0< cs.length)) && ((Qcz y.2 && Qcj σ.H y.2 cs ss) && cs.all resC) then some ((y.1,()),z.1) else none
    | none=>none
   | none=>none
  | _=>none
 | _=>none
def Qxf (T:Tab) (fn:Func) (ps:List PK) (cs:List CK) (x:denP ps) (e:Ex) (σ:St):Option (denV [.b cs]×denQ ps):=
 match e with
 | .exit _=>none
 | .normal=>QqO T fn ps cs x σ
 | .ret=>QqO T fn ps cs x σ
def Qqa (T:Tab) (G:Env) (L:List (Nat×Cut)) (fn:Func) (ps:List PK) (cs:List CK) (x:denP ps):Option (denV [.b cs]×denQ ps):=
 match fn.body with
 | none=>none
 | some c=>if QeO (st0 fn ps x)=false∨ps.all Qoi=false then none else run T G L c (st0 fn ps x) (Qxf T fn ps cs x)
theorem Qrd: ∀{ps:List PK} {i:Nat},ps.all Qoi=true→QaN i ps=[]∧Qbx i ps=[]
 | [],_,_=>⟨rfl,rfl⟩
 | k::r,i,h=>by
  simp only [List.all_cons,Bool.and_eq_true] at h;cases k <;> first | (simp [Qoi] at h; done) | skip
  exact Qrd (ps:=r) (i:=i+1) h.2
theorem QnB: ∀{ps:List PK} {i:Nat} {x:denP ps} {vs:List Value} {F:List Nat},ps.all Qoi=true→QcH w S Qp B i ps x vs F→
  F=[]∧ ∀(y:denQ ps) (w':World) (S':Nat→Prop) (B':Nat→Option Pl),Qeg w' S' B' i ps y vs []
 | [],_,_,_,_,_,h=>⟨h.2,fun _ _ _ _=>⟨h.1,rfl⟩⟩
 | k::r,i,x,vs,F,hv,h=>by
  simp only [List.all_cons,Bool.and_eq_true] at hv;cases k <;> first | (simp [Qoi] at hv; done) | skip
  obtain ⟨v,vs',e,_,h⟩:=h;obtain ⟨h1,h2⟩:=QnB (ps:=r) hv.2 h;exact ⟨h1,fun y w' S' B'=>⟨v,vs',e,h2 y w' S' B'⟩⟩
theorem QrV (hT:QR P T=true) (hG:Qf P G) {f:FuncId} {fn:Func} {c:Code} {ps:List PK} {cs:List CK} {Fn:denP ps→Option (denV [.b cs]×denQ ps)} (hf:P.funcs[f]?=some fn) (hb:fn.body=some c)
  (hL:QZ P (Nat.max fn.ntmps ps.length) L c) (hF: ∀x,Qqa T G L fn ps cs x=Fn x):Qfg P f { ps:=ps,rs:=[.b cs],F:=Fn }:=by
 intro x y hx w args S Qp B M F hp ha _;simp only at x y hx hp ha;rw [←hF] at hx;unfold Qqa at hx;rw [hb] at hx;simp only at hx;split at hx
 ·cases hx
 rename_i hchk;simp only [not_or,Bool.not_eq_false] at hchk;obtain ⟨hn1,hval⟩:=hchk;obtain ⟨hbx0,hrw0⟩:=Qrd (i:=0) hval;obtain ⟨hF0,hout⟩:=QnB hval ha;subst hF0
 have hBb: ∀o b base,B o≠some (.box b base):=fun o b base ho=>by
  have:=(hp.box o b base ho).1;rw [hbx0] at this; simp at this
 have hBr: ∀o q n,B o≠some (.row q n):=fun o q n ho=>by
  have:=hp.row o q n ho;rw [hrw0] at this; simp at this
 have hlaid:Laid (fun b _=>w.heap.size≤b) w:=hp.laid.sub fun p _ i h=>⟨0,hp.fresh _ h 0⟩
 have hal:=QcI ha;refine calls_of_wp hf hb ?_;generalize hac:({ tmps:=args.toArray++Array.replicate (fn.ntmps-args.toArray.size) undef,defers:=[] }:Act)=a
 have hsz:a.tmps.size=Nat.max fn.ntmps ps.length:=by
  rw [←hac,show Nat.max fn.ntmps ps.length=max fn.ntmps ps.length from rfl]; simp [hal]; omega
 have hget: ∀k,k< args.length→0+k< a.tmps.size∧a.tmps.getD (0+k) undef=args.getD k undef:=by
  intro k hk;refine ⟨by rw [hsz, ←hal,show Nat.max fn.ntmps args.length=max fn.ntmps args.length from rfl]; omega,?_⟩
  rw [←hac,Nat.zero_add];simp [Array.getElem?_append,hk]
 obtain ⟨hs,_,F2,F3,hbx,hrw,hperm⟩:=QbY (a:=a) ha hget;have hin: ∀b, ¬b∈([]++F2)++F3:=fun b hb=>by rw [List.nil_append] at hb; have:=(hperm.mem_iff).2 hb; simp at this
 have hrep:Rep (fun b=>S b∨ ∀i,(fun b (_:Nat)=>w.heap.size≤b) b i) (fun b _=>w.heap.size≤b) (fun _=>none) w (st0 fn ps x) a w:=by
  refine QjT (B:=B) hlaid (fun b h _=>h) (fun b h=> .inr h) (by rw [←hac]) hsz (Kept.refl _ w) hn1 hs hbx hrw ?_ ?_ ?_ (fun o q n ho=>absurd ho (hBr o q n)) (fun o o' b base base' ho=>absurd ho (hBb o b base)) ?_ ?_ ?_ ?_
  ·rw [List.nil_append]; exact (hperm.nodup_iff).1 hp.nodup
  ·intro b hb; exact absurd hb (hin b)
  ·intro o b base ho; exact absurd ho (hBb o b base)
  ·intro b hb h; exact ⟨.inl h,hin b,fun o base=>hBb o b base⟩
  ·intro b h; exact ⟨hin b,fun o base=>hBb o b base⟩
  ·intro o b base ho; exact absurd ho (hBb o b base)
  ·intro o q ho; cases ho
 refine QcC (Q:=bodyPost P fn _) hT hG hL hrep hx ?_;intro e σ' h1 hn a' w' hr;obtain ⟨β,hr⟩:=hr
 have key:QqO T fn ps cs x σ'=some y→
   a'.defers=[]∧ ∃v,(results fn a'.tmps).run P w'= .ok v w'∧ ∃v',Ending.returned v= .returned v'∧Post M w S B { ps:=ps,rs:=[.b cs],F:=Fn } args y v' w':=by
  intro h1;unfold QqO at h1;split at h1
  ·rename_i o off hss;split at h1
   ·rename_i ss hbox;split at h1
    ·rename_i y1 hy1;split at h1
     ·rename_i z hz;split at h1
      ·rename_i hc;obtain rfl:=Osj h1;simp only [Bool.and_eq_true,decide_eq_true_eq] at hc;obtain ⟨⟨⟨h9,h0⟩,hpos⟩,⟨hnd,hfree⟩,hres⟩:=hc;subst h0;have hr1:=hr.frz (others σ'.H y1.2);obtain ⟨vs1,hres1,hall1⟩:=Qea (fn:=fn) hT hr1 (ss:=[.s (.p o 0)]) (by rw [QoA]; exact hss)
       have hrows:=(Qcf hy1).1;have hlen:=(Qcf hy1).2
       have hlive: ∀i∈y1.2, ∃ob,look (frz σ'.H (others σ'.H y1.2)) i=some ob∧Qcq ob=true:=by
        intro i hi;obtain ⟨ob,hk,hl⟩:=hrows i hi;exact ⟨ob,Qhn hk hl (QbH i hi),hl⟩
       have hbox1:look (frz σ'.H (others σ'.H y1.2)) o=some (.box ss):=Qaw hbox;obtain ⟨g,base,c1,e1,hβ,hg,hsize,hcells⟩:=hr1.obj o _ hbox1;have hb0:base=0:=hr1.bz o ss g base hbox1 h9 hβ;subst hb0;obtain ⟨hmay,hglt⟩:=hr1.own o _ g 0 hbox1 rfl hβ;have hnew:w.heap.size≤g:=hmay 0 (by rw [hlen]; exact hpos)
       have hv1: ∃v1,vs1=[v1]∧v1= .pointer (some ⟨g,0,none⟩):=by
        cases hall1 with
        | cons h1 h2=>
         cases h2;refine ⟨_,rfl,?_⟩;simp only [VV,VS,hbox1] at h1;obtain ⟨b,base,q1,q2⟩:=h1;rw [hβ] at q1;cases q1;simpa using q2
       obtain ⟨v1,rfl,rfl⟩:=hv1
       have hfoot: ∀i∈y1.2, ∀b,b∈blkq (β i)→ ∃ob p,look (frz σ'.H (others σ'.H y1.2)) i=some ob∧Qcq ob=true∧β i=some p∧foot ob p b:=by
        intro i hi b hb;obtain ⟨ob,hk,hl⟩:=hlive i hi;have hO:=Qcc hl (hr1.obj i ob hk);cases hq:β i with
        | none=>rw [hq] at hb; simp [blkq] at hb
        | some p=>
         rw [hq] at hb hO;exact ⟨ob,p,hk,hl,rfl,hO.foot.2 hb⟩
       have hgn:g∉blks β y1.2:=by
        intro hb;obtain ⟨i,hi,hbi⟩:=Qbk.1 hb;obtain ⟨ob,p,hk,hl,hq,hf⟩:=hfoot i hi g hbi;have:=hr1.one i o _ _ p _ g hk (QP hl) hbox1 rfl hq hβ hf Ql;subst this;rw [hbox1] at hk;cases hk;cases hl
       have hS': ∀b,RO (fun b=>S b∨ ∀i,(fun b (_:Nat)=>w.heap.size≤b) b i) β (frz σ'.H (others σ'.H y1.2)) b→after S M B ((g::blks β y1.2)++[]) b:=by
        intro b hb;refine ⟨hb.1.imp_right fun h=>hp.fresh b (h 0),fun hbF=>?_,fun o base=>hBb o b base⟩
        rw [List.append_nil] at hbF;rcases List.mem_cons.1 hbF with rfl | hbF
        ·exact hb.2 ⟨o,_,_,hbox1,rfl,hβ,Ql⟩
        ·obtain ⟨i,hi,hbi⟩:=Qbk.1 hbF;obtain ⟨ob,p,hk,hl,hq,hf⟩:=hfoot i hi b hbi;exact hb.2 ⟨i,_,p,hk,QP hl,hq,hf⟩
       have hdata:Mon w' (RO (fun b=>S b∨ ∀i,(fun b (_:Nat)=>w.heap.size≤b) b i) β (frz σ'.H (others σ'.H y1.2))) (after S M B ((g::blks β y1.2)++[])):=
        Mon.sub fun b _ hb=>hS' b hb
       rw [List.drop_zero] at hcells;have hcells1:All2 (VS w' (RO (fun b=>S b∨ ∀i,(fun b (_:Nat)=>w.heap.size≤b) b i) β (frz σ'.H (others σ'.H y1.2))) β (frz σ'.H (others σ'.H y1.2))) ss (c1.toList.take ss.length):=hcells.mono fun _ _ h=>h.1
       have hcl:=QeA hdata (QbX hr1.owns (Q:=fun _=>True) (fun _ _=>trivial) hcells1 hy1 (fun o ho=>ho) hfree (bs:=[]) (QhE hres) (fun o ho=>by simp at ho) QcR) hres
       have hone: ∀u∈c1.toList.take ss.length,u.oneCell'=true:=by
        have: ∀{as:List S1} {bs:List Value},All2 (fun x v=>VS w' (RO (fun b=>S b∨ ∀i,(fun b (_:Nat)=>w.heap.size≤b) b i) β (frz σ'.H (others σ'.H y1.2))) β (frz σ'.H (others σ'.H y1.2)) x v∧v.oneCell'=true) as bs→ ∀u∈bs,u.oneCell'=true:=by
         intro as bs h
         induction h with
         | nil=>intro u hu; cases hu
         | cons h1 h2 ih=>intro u hu; rcases List.mem_cons.1 hu with rfl | hu; exact h1.2; exact ih u hu
        exact this hcells
       rw [hlen] at hcl hone
       refine ⟨hr.defers,_,hres1,_,rfl,⟨hr.below.os,hr.below.tape,hr.below.output,hr.below.size,fun b hb h=>hr.below.block b hb fun i hi=>absurd hi (Nat.not_le.2 hb),fun b c e fz hbc=>?_⟩,
        [.pointer (some ⟨g,0,none⟩)],g::blks β y1.2,[],rfl,?_,?_,?_,?_⟩
       ·obtain ⟨c',q1,q2,q3⟩:=hr.below.cells b c e fz hbc;exact ⟨c',q1,q2,fun i hi=>q3 i fun hle=>hi (hp.fresh b hle i)⟩
       ·refine ⟨_,[],g::blks β y1.2,[],rfl,by simp,⟨g,c1,e1,blks β y1.2,rfl,hg,by rw [Nat.zero_add,hlen] at hsize; exact hsize,hcl,hone,rfl⟩,rfl,rfl⟩
       ·exact hout _ _ _ _
       ·rw [List.append_nil];refine List.nodup_cons.2 ⟨hgn,Qdr (l:=y1.2) ?_ ?_ (fun o ho=>ho) (Qan hnd)⟩
        ·intro i i' b hi hi' hb hb';obtain ⟨ob,p,hk,hl,hq,hf⟩:=hfoot i hi b hb;obtain ⟨ob',p',hk',hl',hq',hf'⟩:=hfoot i' hi' b hb';exact hr1.one i i' _ _ p p' b hk (QP hl) hk' (QP hl') hq hq' hf hf'
        ·intro i hi;obtain ⟨ob,hk,hl⟩:=hlive i hi;exact (Qcc hl (hr1.obj i ob hk)).nodup
       ·intro b hb;rw [List.append_nil] at hb;refine ⟨?_,?_,fun o base=>hBb o b base⟩
        ·rcases List.mem_cons.1 hb with rfl | hb
         ·exact hp.fresh _ hnew
         ·obtain ⟨i,hi,hbi⟩:=Qbk.1 hb;obtain ⟨ob,p,hk,hl,hq,hf⟩:=hfoot i hi b hbi;have hown:=hr1.hold i _ p b hk (QP hl) hq hf;exact hp.fresh _ (Qim hl hown.1 0)
        ·rcases List.mem_cons.1 hb with rfl | hb
         ·exact hglt
         ·obtain ⟨i,hi,hbi⟩:=Qbk.1 hb;obtain ⟨ob,p,hk,hl,hq,hf⟩:=hfoot i hi b hbi;exact (hr1.hold i _ p b hk (QP hl) hq hf).2
      ·cases h1
     ·cases h1
    ·cases h1
   ·cases h1
  ·cases h1
 cases e with
 | exit i=>cases h1
 | normal=>exact key h1
 | ret=>exact key h1
end
section
open Go Go.RowKit
def QbV (L:List (Nat×Cut)):Code→Bool
 | .seq a b=>QbV L a && QbV L b
 | .cond _ a b=>QbV L a && QbV L b
 | .block id c=>(look L (100000+id)).isNone && QbV L c
 | .loop _=>false
 | _=>true
theorem QhC {P:Program} {nt:Nat} {L:List (Nat×Cut)}: ∀{c:Code},QbV L c=true→QZ P nt L c:=by
 intro c
 induction c with
 | seq a b iha ihb=>intro h; simp only [QbV,Bool.and_eq_true] at h; exact ⟨iha h.1,ihb h.2⟩
 | cond x a b iha ihb=>intro h; simp only [QbV,Bool.and_eq_true] at h; exact ⟨iha h.1,ihb h.2⟩
 | block id c ih=>
  intro h;simp only [QbV,Bool.and_eq_true,Option.isNone_iff_eq_none] at h;simp only [QZ,h.1];exact ih h.2
 | loop c ih=>intro h; simp [QbV] at h
 | _=>intro _; trivial
theorem Qtz {P:Program} {nt:Nat} {L:List (Nat×Cut)} {id:Nat} {c:Code} (hl:(look L (100000+id)).isNone=true) (h:QZ P nt L c):QZ P nt L (.block id c):=by
 simp only [QZ,Option.isNone_iff_eq_none.1 hl]; exact h
theorem Qvw {P:Program} {nt:Nat} {L:List (Nat×Cut)} {c:Code} {cut:Cut} (hl:look L (Qbd c)=some cut) (h:Qt P nt (.loop c) cut):QZ P nt L (.loop c):=by
 simp only [QZ,hl]; exact h
theorem QrK {P:Program} {nt:Nat} {L:List (Nat×Cut)} {id:Nat} {c:Code} {cut:Cut} (hl:look L (100000+id)=some cut) (h:Qt P nt (.block id c) cut):QZ P nt L (.block id c):=by
 simp only [QZ,hl]; exact h
def navC:Code→List Nat→Code
 | c,[]=>c
 | .seq a _,0::r=>navC a r
 | .seq _ b,_::r=>navC b r
 | .cond _ a _,0::r=>navC a r
 | .cond _ _ b,_::r=>navC b r
 | .block _ c,_::r=>navC c r
 | .loop c,_::r=>navC c r
 | _,_=> .skip
def nav (fn:Func) (p:List Nat):Code:=navC (fn.body.getD .skip) p
def Qfb (fn:Func) (p:List Nat) (i:Nat):Oper:=match nav fn p with
 | .region _ ops _ => (ops[i]?).getD { dst := none, op := .alloc 0, type := 0, pos := "", after := #[], guard := none }
 | _ => { dst := none, op := .alloc 0, type := 0, pos := "", after := #[], guard := none }
def lots:Nat:=18446744073709551616
abbrev iand (k:IntKind) (x y:Int):Int:=k.wrap (BitVec.ofInt k.bits x &&& BitVec.ofInt k.bits y).toNat
abbrev ior (k:IntKind) (x y:Int):Int:=k.wrap (BitVec.ofInt k.bits x ||| BitVec.ofInt k.bits y).toNat
abbrev ixor (k:IntKind) (x y:Int):Int:=k.wrap (BitVec.ofInt k.bits x ^^^ BitVec.ofInt k.bits y).toNat
theorem Qc {P:Program}:Qf P []:=fun _ h=>by cases h
theorem Qa {P:Program} {f:FuncId} {cn:Con} {G:Env} (h:Qb P f cn) (hG:Qf P G):Qf P ((f,cn)::G):=fun p hp=>by
 rcases List.mem_cons.1 hp with rfl | hp
 ·exact h
 ·exact hG p hp
theorem QtN {P : Program} {T : Tab} {G : Env} {L : List (Nat × Cut)} (hT : QR P T = true) (hG : Qf P G) {f : FuncId} (fn : Func) {cn : Con} (hf : P.funcs[f]? = some fn) (hn : (fn.name == "runtime.NumGoroutine") = false) (hb : fn.body.isSome = true)
  (hL:QZ P (Nat.max fn.ntmps cn.ps.length) L (nav fn [])) (hF: ∀x,QF T G L fn cn.ps cn.rs x=cn.F x):Qb P f cn:=by
 obtain ⟨c,hc⟩:=Option.isSome_iff_exists.1 hb;have:nav fn []=c:=by simp only [nav,hc,navC,Option.getD_some]
 rw [this] at hL;exact (QnL hT hG hf hc hL hF).ok (Qfo hf hn hb)
theorem QrU {P : Program} {T : Tab} {G : Env} {L : List (Nat × Cut)} (hT : QR P T = true) (hG : Qf P G) {f : FuncId} (fn : Func) {ps : List PK} {cs : List CK} {Fn : denP ps → Option (denV [.b cs] × denQ ps)} (hf : P.funcs[f]? = some fn) (hn : (fn.name == "runtime.NumGoroutine") = false) (hb : fn.body.isSome = true)
  (hL:QZ P (Nat.max fn.ntmps ps.length) L (nav fn [])) (hF: ∀x,Qqa T G L fn ps cs x=Fn x):Qb P f { ps:=ps,rs:=[.b cs],F:=Fn }:=by
 obtain ⟨c,hc⟩:=Option.isSome_iff_exists.1 hb;have:nav fn []=c:=by simp only [nav,hc,navC,Option.getD_some]
 rw [this] at hL;exact (QrV hT hG hf hc hL hF).ok (Qfo hf hn hb)
theorem QwB {P:Program} {T:Tab} {G:Env} {L:List (Nat×Cut)} (hT:QR P T=true) (hG:Qf P G) {f:FuncId} (fn:Func) {cn:Con} (hf:P.funcs[f]?=some fn) (hb:fn.body.isSome=true)
  (hL:QZ P (Nat.max fn.ntmps cn.ps.length) L (nav fn [])) (hF: ∀x,QF T G L fn cn.ps cn.rs x=cn.F x):Qfg P f cn:=by
 obtain ⟨c,hc⟩:=Option.isSome_iff_exists.1 hb;have:nav fn []=c:=by simp only [nav,hc,navC,Option.getD_some]
 rw [this] at hL;exact QnL hT hG hf hc hL hF
theorem okP {P:Program} {nt:Nat} {L:List (Nat×Cut)} {c:Code} (h:QbV L c=true:=by kernel_rfl):QZ P nt L c:=QhC h
theorem okS {P:Program} {nt:Nat} {L:List (Nat×Cut)} {a b:Code} (h:QZ P nt L a) (k:QZ P nt L b):QZ P nt L (.seq a b):=⟨h,k⟩
theorem okI {P:Program} {nt:Nat} {L:List (Nat×Cut)} {x:Operand} {a b:Code} (h:QZ P nt L a) (k:QZ P nt L b):QZ P nt L (.cond x a b):=⟨h,k⟩
theorem okB {P:Program} {nt:Nat} {L:List (Nat×Cut)} {id:Nat} {c:Code} (h:QZ P nt L c) (hl:(look L (100000+id)).isNone=true:=by kernel_rfl):QZ P nt L (.block id c):=Qtz hl h
theorem okU {P:Program} {nt:Nat} {L:List (Nat×Cut)} {c:Code} {cut:Cut} (h:Qt P nt (.loop c) cut) (hl:look L (Qbd c)=some cut:=by kernel_rfl):QZ P nt L (.loop c):=Qvw hl h
theorem okX {P:Program} {nt:Nat} {L:List (Nat×Cut)} {id:Nat} {c:Code} {cut:Cut} (h:Qt P nt (.block id c) cut) (hl:look L (100000+id)=some cut:=by kernel_rfl):QZ P nt L (.block id c):=QrK hl h
theorem fnC {P:Program} {T:Tab} {G:Env} {L:List (Nat×Cut)} (hT:QR P T=true) (hG:Qf P G) {f:FuncId} (fn:Func) {cn:Con}
  (hL : QZ P (Nat.max fn.ntmps cn.ps.length) L (nav fn [])) (hF : ∀ x, QF T G L fn cn.ps cn.rs x = cn.F x) (hf : P.funcs[f]? = some fn := by kernel_rfl) (hn : (fn.name == "runtime.NumGoroutine") = false := by kernel_rfl) (hb : fn.body.isSome = true := by kernel_rfl) : Qb P f cn :=
 QtN hT hG fn hf hn hb hL hF
end
section
open Go Go.RowKit Go.ChangeShapes Go.WideShapes Go.ChangeAt
def QdG (T:Tab):Ty→List (Nat×TypeId)→Nat→Bool
 | .unit,[],_=>true
 | .pair a b,(o,t)::r,off=>decide (o=off) && (match look T t with | some q=>decide (q.ty=a) | none=>false) && QdG T b r (off+sz a)
 | _,_,_=>false
def Qrp (T:Tab):Bool:=T.all fun p=>!(isAg p.2.ty) || QdG T p.2.ty p.2.fields 0
def inR:(t:Ty)→den t→Prop
 | .int k,n=>k.min≤n∧n≤k.max
 | .bool,_=>True
 | .str,s=>s.length≤maxLen
 | .unit,_=>True
 | .opq,_=>True
 | .pair a b,x=>inR a x.1∧inR b x.2
 | .slice t,xs=>xs.length≤maxLen∧ ∀x∈xs,inR t x
section
variable {H:Type} {enc:TypeId×Value→H} {P:Program} {T:Tab} {w:World} {base:Nat} {spare:Nat→Bool} {held:Bool}
theorem RowOk.cells {t:TypeId} {r:Row} {i:TypeInfo} {d:TypeDesc} {z:Value} (h:RowOk P T t r i d z):P.cellsOf t=sz r.ty:=by
 simp [Program.cellsOf,h.info,h.size]
theorem QiG {α:Type} {p:Nat→α→Prop}: ∀{n:Nat},(∀i,i< n→ ∃x,p i x)→ ∃xs:List α,xs.length=n∧ ∀i x,xs[i]?=some x→p i x
 | 0,_=>⟨[],rfl,fun i x h=>by simp at h⟩
 | n+1,h=>by
  obtain ⟨xs,hl,hx⟩:=QiG (p:=p) (n:=n) fun i hi=>h i (by omega)
  obtain ⟨y,hy⟩:=h n (by omega)
  refine ⟨xs++[y],by simp [hl],fun i x hi=>?_⟩
  rcases Nat.lt_or_ge i n with hlt | hge
  ·rw [List.getElem?_append_left (by omega)] at hi; exact hx i x hi
  ·rw [List.getElem?_append_right (by omega)] at hi
   have:i=n:=by
    have:=(List.getElem?_eq_some_iff.1 hi).1;simp at this; omega
   subst this;rw [hl] at hi; simp at hi; subst hi; exact hy
theorem Qtl {α:Type} {R:α→List Value→Prop} {m:Nat} {F:Nat→Option Value}: ∀{xs:List α} {k:Nat},(∀i x,xs[i]?=some x→ ∃cs,R x cs∧cs.length=m∧ ∀j,j< m→F ((k+i)*m+j)=cs[j]?)→
  ∃rows,RpL R xs rows∧rows.length=xs.length*m∧ ∀j,j< rows.length→F (k*m+j)=rows[j]?
 | [],k,_=>⟨[],rfl,by simp,fun j hj=>by simp at hj⟩
 | x::xs,k,h=>by
  obtain ⟨cs,hc,hl,hF⟩:=h 0 x rfl
  obtain ⟨rows,h1,h2,h3⟩:=Qtl (R:=R) (m:=m) (F:=F) (xs:=xs) (k:=k+1) fun i y hy=>by
   obtain ⟨cs',a1,a2,a3⟩:=h (i+1) y (by simpa using hy)
   exact ⟨cs',a1,a2,fun j hj=>by rw [←a3 j hj,show k+1+i=k+(i+1) by omega]⟩
  refine ⟨cs++rows,⟨cs,rows,rfl,hc,h1⟩,by simp [hl,h2,Nat.add_mul]; omega,fun j hj=>?_⟩
  rcases Nat.lt_or_ge j m with hlt | hge
  ·rw [List.getElem?_append_left (by omega), ←hF j hlt]; congr 1
  ·rw [List.getElem?_append_right (by omega),hl, ←h3 (j-m) (by simp at hj; omega)]
   congr 1;rw [Nat.add_mul]; omega
theorem Qlr {f:TypeId→List Value→Prop} (hf: ∀t q,look T t=some q→ ∀cs,f t cs→ ∃d:den q.ty,Rp w (fun _=>True) q.ty d cs∧inR q.ty d) {cs:List Value}:
  ∀{ty:Ty} {fl:List (Nat×TypeId)} {off:Nat},QdG T ty fl off=true→cs.length=off+sz ty→(∀p∈fl, ∀q,look T p.2=some q→f p.2 ((cs.drop p.1).take (sz q.ty)))→
  ∃d:den ty,Rp w (fun _=>True) ty d (cs.drop off)∧inR ty d
 | .unit,[],off,_,hl,_=>⟨(),by
   have:cs.drop off=[]:=List.drop_of_length_le (by simp [sz] at hl; omega)
   rw [this]; exact ⟨rfl,trivial⟩⟩
 | .pair a b,(o,t)::r,off,h,hl,hp=>by
  simp only [QdG,Bool.and_eq_true,decide_eq_true_eq] at h;obtain ⟨⟨rfl,h1⟩,h2⟩:=h;split at h1
  ·rename_i q hq;have e:q.ty=a:=of_decide_eq_true h1;subst e;obtain ⟨d1,r1,i1⟩:=hf t q hq _ (hp (o,t) (by simp) q hq)
   obtain ⟨d2,r2,i2⟩:=Qlr hf (ty:=b) (fl:=r) (off:=o+sz q.ty) h2 (by simp [sz] at hl; omega) fun p hpm=>hp p (by simp [hpm])
   refine ⟨(d1,d2),⟨_,_,?_,r1,r2⟩,i1,i2⟩;rw [←List.drop_drop,List.take_append_drop]
  ·cases h1
 | .unit,_::_,_,h,_,_=>by simp [QdG] at h
 | .pair _ _,[],_,h,_,_=>by simp [QdG] at h
 | .int _,_,_,h,_,_=>by simp [QdG] at h
 | .bool,_,_,h,_,_=>by simp [QdG] at h
 | .str,_,_,h,_,_=>by simp [QdG] at h
 | .opq,_,_,h,_,_=>by simp [QdG] at h
 | .slice _,_,_,h,_,_=>by simp [QdG] at h
theorem Qjo {a:Addr} {v:Value} (h:w.cell? a=some v): ∃c e fz,w.heap[a.block]?=some (.cells c e fz)∧c[a.off]?=some v∧a.spot=none:=by
 unfold World.cell? at h;split at h
 ·rename_i c e fz hh;split at h
  ·cases h
  ·rename_i hs;exact ⟨c,e,fz,hh,h,by cases hq:a.spot <;> simp [hq] at hs⊢⟩
 ·cases h
theorem QvX (hT:QR P T=true) (hS:Qrp T=true): ∀(fuel:Nat) (t:TypeId) (r:Row) (cs:List Value) (x:DataW H×List MemPlace),look T t=some r→DataW.trod enc P w base spare held fuel t cs=some x→
  ∃d:den r.ty,Rp w (fun _=>True) r.ty d cs∧inR r.ty d:=by
 intro fuel
 induction fuel with
 | zero=>intro t r cs x _ h; simp [DataW.trod] at h
 | succ fuel ih=>
  intro t r cs x hr h;obtain ⟨i,d,z,hrow⟩:=QA hT hr;have hu:=hrow.under;have hd:=hrow.desc;have hc:=hrow.cells;have he:=hrow.elem;have hs:=List.all_eq_true.1 hS _ (QaY hr);obtain ⟨ty,fields,elem,bytes⟩:=r;simp only at hd hc he hs⊢
  have agg:isAg ty=true→ ∃d:den ty,Rp w (fun _=>True) ty d cs∧inR ty d:=by
   intro hag;rw [hag] at hs;obtain ⟨fs,rfl,hfs⟩:=hrow.fields hag;obtain ⟨xs,n,e1,_,hl,hlen,hx⟩:=DataW.trod_struct hu h;obtain rfl:=Nat.succ.inj e1
   have:=Qlr (T:=T) (w:=w) (f:=fun t cs=> ∃y,DataW.trod enc P w base spare held fuel t cs=some y) (fun t q hq cs ⟨y,hy⟩=>ih t q cs y hq hy) (cs:=cs) (ty:=ty) (fl:=fields) (off:=0)
    (by simpa using hs) (by rw [hl,hc]; omega) (fun p hp q hq=>by
     have hp':p∈List.map (fun f:Field=>(f.offset,f.type)) fs.toList:=by rw [hfs]; exact hp
     obtain ⟨f,hf,rfl⟩:=List.mem_map.1 hp';obtain ⟨k,hk,he⟩:=List.getElem_of_mem hf
     have hk':fs[k]?=some f:=by
      rw [Array.getElem?_eq_getElem (by simpa using hk)]
      simpa using he
     obtain ⟨i2,d2,z2,hrow2⟩:=QA hT hq;rw [←hrow2.cells,hx k f hk'];have hkx:k< xs.length:=by rw [hlen]; simpa using hk
     exact ⟨xs[k],List.getElem?_eq_getElem hkx⟩)
   simpa using this
  cases ty with
  | int k=>
   simp only [QaS] at hd;cases d <;> first | (simp at hd; done) | skip
   simp only [decide_eq_true_eq] at hd;subst hd;obtain ⟨n,rfl,_,hw⟩:=DataW.trod_int hu h;simp only [Lit.wf,Bool.and_eq_true,decide_eq_true_eq] at hw;exact ⟨n,rfl,hw⟩
  | bool=>
   simp only [QaS] at hd;cases d <;> first | (simp at hd; done) | skip
   obtain ⟨b,rfl,_⟩:=DataW.trod_bool hu h;exact ⟨b,rfl,trivial⟩
  | str=>
   simp only [QaS] at hd;cases d <;> first | (simp at hd; done) | skip
   obtain ⟨s,rfl,_,hw⟩:=DataW.trod_string hu h;exact ⟨s.data.toList,rfl,by show s.data.toList.length≤maxLen; rw [Array.length_toList]; exact hw⟩
  | opq=>
   simp only [QaS] at hd;cases d <;> first | (simp at hd; done) | skip
   have key: ∃A,cs=[.pointer A]:=by
    unfold DataW.trod at h;rw [hu] at h;split at h <;> first | (cases h; done) | simp_all
   exact ⟨(),key,trivial⟩
  | unit=>exact agg rfl
  | pair a b=>exact agg rfl
  | slice u=>
   simp only [QaS] at hd;cases d <;> first | (simp at hd; done) | skip
   rename_i e;simp only [decide_eq_true_eq] at hd;subst hd;simp only [Qjs] at he;split at he
   ·rename_i q hq;simp only [Bool.and_eq_true,decide_eq_true_eq] at he;obtain ⟨rfl,hpos⟩:=he;obtain ⟨i2,d2,z2,hrow2⟩:=QA hT hq;have hce:=hrow2.cells;rcases DataW.trod_slice hu h with ⟨rfl,_⟩ | ⟨a,len,cap,elems,rest,n,e1,rfl,_,hb,hl,hm,hlen,hel,_,_⟩
    ·exact ⟨[],⟨none,0,rfl,by simp,fun hx=>absurd rfl hx⟩,Nat.zero_le _,fun x hx=>by simp at hx⟩
    ·obtain rfl:=Nat.succ.inj e1
     have each: ∀i,i< len→ ∃d:den q.ty, ∃cs',w.cells? base (a.add (i*sz q.ty)) (sz q.ty)=some cs'∧Rp w (fun _=>True) q.ty d cs'∧inR q.ty d:=by
      intro i hi;have:=hel i hi;rw [List.getElem?_eq_getElem (by omega),hce] at this
      obtain ⟨cs',h1,h2⟩:=Obs this;obtain ⟨d,h3,h4⟩:=ih _ q cs' _ hq h2;exact ⟨d,cs',h1,h3,h4⟩
     obtain ⟨xs,hxl,hx⟩:=QiG each
     refine ⟨xs,⟨some a,cap,by rw [hxl],by omega,fun hne=>?_⟩,by simp only [inR]; exact ⟨by omega,fun x hxm=>by
      obtain ⟨i,hi⟩:=List.getElem?_of_mem hxm;obtain ⟨_,_,_,h⟩:=hx i x hi;exact h⟩⟩
     have h0:0< len:=by rw [←hxl]; exact List.length_pos_iff.2 hne
     obtain ⟨d0,cs0,hc0,hr0,_⟩:=each 0 h0;obtain ⟨_,hl0,hg0⟩:=World.cells?_some hc0;have hlt0:0< cs0.length:=by omega
     have hcell0:=hg0 0 hpos;rw [List.getElem?_eq_getElem hlt0] at hcell0;obtain ⟨c,el,fz,hh,_,hsp⟩:=Qjo hcell0;simp [Addr.add] at hh hsp
     obtain ⟨rows,hrows,hrl,hF⟩:=Qtl (R:=Rp w (fun _=>True) q.ty) (m:=sz q.ty) (F:=fun j=>c[a.off+j]?) (xs:=xs) (k:=0) (fun i y hy=>by
      obtain ⟨cs',h1,h2,h3⟩:=hx i y hy;obtain ⟨_,h4,h5⟩:=World.cells?_some h1;refine ⟨cs',h2,h4,fun j hj=>?_⟩
      have h6:=h5 j hj;rw [List.getElem?_eq_getElem (by omega)] at h6⊢
      obtain ⟨c',e',fz',h7,h8,_⟩:=Qjo h6
      have hblk:((a.add (i*sz q.ty)).add j).block=a.block:=by
       unfold Addr.add; split <;> split <;> rfl
      have hoff:((a.add (i*sz q.ty)).add j).off=a.off+(i*sz q.ty+j):=by
       unfold Addr.add;split <;> split <;> simp_all <;> omega
      rw [hblk,hh] at h7;simp only [Oie,Obj.cells.injEq] at h7;rw [hoff, ←h7.1] at h8;rw [Nat.zero_add]; exact h8)
     refine ⟨a.block,a.off,by cases a; simp_all,trivial,rows,hrows,c,el,fz,hh,fun i hi=>?_⟩
     have:=hF i hi;simpa using this
   ·cases he
def psTy (T:Tab):List TypeId→List PK→Bool
 | [],[]=>true
 | t::ts,.val u::ps=>(match look T t with | some r=>decide (r.ty=u) | none=>false) && psTy T ts ps
 | _,_=>false
def inRP:(ps:List PK)→denP ps→Prop
 | [],_=>True
 | .val t::r,x=>inR t x.1∧inRP r x.2
 | _::_,_=>True
theorem QpP (hT:QR P T=true) {t:TypeId} {r:Row} (hr:look T t=some r) {rc:Reach} {b0:Nat} {v:Value} (hv:Value.okWide P w rc b0 t v) {cs:List Value} (hcs:v.cells.toList=cs) {d:den r.ty} (hd:Rp w (fun _=>True) r.ty d cs):Val r.ty v cs:=by
 obtain ⟨i,dd,z,hrow⟩:=QA hT hr;have hu:=hrow.under;have hdesc:=hrow.desc;unfold Val;split
 ·rename_i hag;obtain ⟨fs,rfl,_⟩:=hrow.fields hag;unfold Value.okWide at hv;rw [hu] at hv;simp only at hv;obtain ⟨c,rfl,_⟩:=hv;simp [Value.cells] at hcs;rw [←hcs]
 ·rename_i hag
  have hone: ∀c,v≠ .agg c:=by
   intro c e;subst e;unfold Value.okWide at hv;rw [hu] at hv;unfold QaS at hdesc;cases hty:r.ty <;> rw [hty] at hdesc hag <;> first | (exact absurd rfl hag) | skip
   all_goals (cases dd <;> simp at hdesc)
   all_goals (simp [Cell.okWide,hu,Cell.ok] at hv)
  have:v.cells= #[v]:=by
   cases v <;> first | rfl | exact absurd rfl (hone _)
  rw [this] at hcs;simpa using hcs.symm
theorem Qlf (hT:QR P T=true) (hS:Qrp T=true) {rc:Reach} {b0:Nat}: ∀{ts:List TypeId} {ps:List PK} {vs:List Value} {ds:List (DataW H)} {pl:List MemPlace} {i:Nat},psTy T ts ps=true→DataW.TrodAll enc P w base spare held ts vs ds pl→
  (∀(j:Nat) t v,ts[j]?=some t→vs[j]?=some v→Value.okWide P w rc b0 t v)→ ∃x:denP ps,QcH w (fun _=>True) (fun _=>True) noB i ps x vs []∧inRP ps x
 | [],[],[],[],_,_,_,_,_=>⟨(),⟨rfl,rfl⟩,trivial⟩
 | t::ts,.val u::ps,v::vs,d::ds,_,i,h,⟨p,q,⟨fuel,h1⟩,h2,_⟩,hv=>by
  simp only [psTy,Bool.and_eq_true] at h;obtain ⟨h3,h4⟩:=h;split at h3
  ·rename_i r hr;have e:r.ty=u:=of_decide_eq_true h3;subst e;obtain ⟨x,hx,hin⟩:=QvX hT hS fuel t r _ _ hr h1;obtain ⟨y,hy,hyn⟩:=Qlf hT hS (ps:=ps) (i:=i+1) h4 h2 fun j t v ht hvj=>hv (j+1) t v (by simpa using ht) (by simpa using hvj)
   exact ⟨(x,y),⟨v,vs,rfl,⟨_,QpP hT hr (hv 0 t v rfl rfl) rfl hx,hx⟩,hy⟩,hin,hyn⟩
  ·cases h3
theorem Qga {W W':World} (hk:Kept (fun b _=>W.heap.size≤b) W W') {b:Nat} (hb:b< W.heap.size):W'.heap[b]?=W.heap[b]? :=
 hk.block b hb fun i hi=>by omega
theorem Qso {W W':World} (hk:Kept (fun b _=>W.heap.size≤b) W W') {p:MemPlace} (hp:p.block< W.heap.size):W.sameAt W' p:=by
 cases p with
 | cell b off=>
  have:=Qga hk hp;simp only [MemPlace.block] at this;simp only [World.sameAt,World.cell?]; rw [this]
 | map b=>simp only [World.sameAt]; exact Qga hk hp
theorem QtY {W W':World} (hk:Kept (fun b _=>W.heap.size≤b) W W') (may:MemPlace→Prop):W.keptBut W' may:=by
 refine ⟨hk.os,hk.output,fun i hi=>?_⟩
 rw [Qga hk hi];cases h:W.heap[i]? with
 | none=>rfl
 | some o=>cases o <;> simp
theorem QgF (hl:laidOutB P=true) {W W':World} {sp':Nat→Bool}: ∀{ts:List TypeId} {vs:List Value} {ds:List (DataW H)} {pl:List MemPlace},(∀t∈ts,P.readableRec t=true∧t< P.types.size)→
  DataW.TrodAll enc P W base (fun _=>true) true ts vs ds pl→(∀p∈pl,W.sameAt W' p)→(∀p∈pl,sp' p.block=true)→DataW.TrodAll enc P W' base sp' true ts vs ds pl
 | [],[],[],_,_,h,_,_=>h
 | t::ts,v::vs,d::ds,_,hr,⟨p,q,h1,h2,e⟩,hs,hb=>by
  subst e
  exact ⟨p,q,Go.WideElems.Trod_stays hl (hr t (by simp)).1 (hr t (by simp)).2 h1 (fun x hx=>hs x (List.mem_append_left _ hx)) (fun x hx=>hb x (List.mem_append_left _ hx)),
   QgF hl (fun t ht=>hr t (by simp [ht])) h2 (fun x hx=>hs x (List.mem_append_right _ hx)) (fun x hx=>hb x (List.mem_append_right _ hx)),rfl⟩
theorem Qug {f:Func} {s:ChangeSpec} {apart fresh handsOn again:Bool} {W W':World} {args:Array Value} {ds gs:List (DataW H)} {before:List MemPlace} {tb:TypeId} (hl:laidOutB P=true)
  (hr: ∀t∈f.params.toList,P.readableRec t=true∧t< P.types.size) (hb:P.underlying tb=some .bool) (hres:f.resultTypes= #[tb]) (hvs:s.vars=[])
  (hsp: ∀ds:List (DataW H),ds.length=f.params.size→s.fn H ds={ results:=[.lit (.bool true)],args:=ds }) (hW:DataW.Whole enc P f.params.toList s.vars apart W args.toList ds gs before)
  (hk:Kept (fun b _=>W.heap.size≤b) W W'):s.post enc P f apart fresh handsOn again W args (.bool true) W':=by
 have hW0:=hW;obtain ⟨p,q,hA,hV,rfl,hz,hn⟩:=hW;rw [hvs] at hV
 have hgq:gs=[]∧q=[]:=by
  cases gs with
  | nil=>exact ⟨rfl,hV⟩
  | cons g gs=>exact hV.elim
 obtain ⟨rfl,rfl⟩:=hgq
 have hlen: ∀{ts:List TypeId} {vs:List Value} {ds:List (DataW H)} {pl:List MemPlace},DataW.TrodAll enc P W 0 (fun _=>true) true ts vs ds pl→ds.length=ts.length:=by
  intro ts
  induction ts with
  | nil=>
   intro vs ds pl h;cases vs with
   | nil=>cases ds with
    | nil=>rfl
    | cons _ _=>exact h.elim
   | cons _ _=>exact h.elim
  | cons t ts ih=>
   intro vs ds pl h;cases vs with
   | nil=>exact h.elim
   | cons v vs=>cases ds with
    | nil=>exact h.elim
    | cons d ds=>
     obtain ⟨p,q,_,h2,_⟩:=h;simp [ih h2]
 have hsp':=hsp (ds++[]) (by rw [List.append_nil,hlen hA]; simp)
 have hold: ∀x∈p,x.block< W.heap.size:=fun x hx=>hW0.lt x (List.mem_append_left _ hx)
 have hargs: ∀sp:Nat→Bool,(∀x∈p,sp x.block=true)→DataW.TrodAll enc P W' 0 sp true f.params.toList args.toList ds p:=fun sp hsp=>
  QgF hl hr hA (fun x hx=>Qso hk (hold x hx)) hsp
 have hresT: ∀(b:Nat) (sp:Nat→Bool) (hd:Bool),DataW.TrodAll enc P W' b sp hd f.resultTypes.toList ((Value.bool true).resultList f.resultTypes.size) [.lit (.bool true)] []:=fun b sp hd=>by
  rw [hres];exact ⟨[],[],shut_bool hb true,rfl,rfl⟩
 refine ⟨ds,[],p++[],[],p,[],hW0,?_,?_,?_,QtY hk _,fun _=>⟨?_,[.lit (.bool true)]++ds,[],p,⟨p,[],?_,by rw [hvs]; exact rfl,by simp,?_,?_⟩,fun x hx _=>by simpa using hx⟩⟩
 ·rw [hsp']; exact hresT _ _ _
 ·rw [hsp',List.append_nil]; exact hargs _ fun x hx=>by simpa using hold x hx
 ·rw [hvs,hsp']; rfl
 ·exact ok_one hres rfl (okWide_bool_mk hb _)
 ·have:=trodAll_append (hargs (fun _=>true) fun _ _=>rfl) (hresT 0 (fun _=>true) true)
  simpa using this
 ·intro b off hp;have hlt:=hold _ hp;have:=hz b off (List.mem_append_left _ hp);simp only [World.frozen?] at this⊢;simp only [MemPlace.block] at hlt;rw [Qga hk hlt]; exact this
 ·intro ha;have:=hn ha;simpa using this
theorem Qvu {f:FuncId} {cn:Con} (hs:Qfg P f cn) (hrs:cn.rs=[.s (.dat .bool)]) (hT:QR P T=true) (hS:Qrp T=true) {rc:Reach} {b0:Nat} {ts:List TypeId} {args:Array Value} {ds:List (DataW H)} {pl:List MemPlace}
  (hps:psTy T ts cn.ps=true) (hbx:QaN 0 cn.ps=[]∧Qbx 0 cn.ps=[]) (hA:DataW.TrodAll enc P w base spare held ts args.toList ds pl) (hv: ∀(j:Nat) t v,ts[j]?=some t→args[j]?=some v→Value.okWide P w rc b0 t v)
  (hF: ∀x,inRP cn.ps x→ ∃y,cn.F x=some y∧ ∀vs F1 w' S Q B,VKsR w' S Q B cn.rs y.1 vs F1→vs=[.bool true]) (hnl:cn.nl=false:=by rfl) (hgl: ∀p∈GL, ∃c e fz,w.heap[p.1]?=some (.cells c e fz)∧c[p.2.1]?=some p.2.2:=by intro p hp; cases hp):Calls P f args w fun e w'=>e= .returned (.bool true)∧Kept (fun b _=>w.heap.size≤b) w w':=by
 obtain ⟨x,hx,hin⟩:=Qlf (i:=0) hT hS hps hA fun j t v ht hvj=>hv j t v ht (by simpa using hvj)
 obtain ⟨y,hy,hyv⟩:=hF x hin
 have hpre:Pre (fun b _=>w.heap.size≤b) w cn.ps (fun _=>True) (fun _=>True) noB []:=
  {
   laid:=fun p hp=>by
    obtain ⟨c,e,fz,h1,h2⟩:=hgl p hp;exact ⟨⟨c,e,fz,h1,h2⟩,fun i hi=>by have:=(Array.getElem?_eq_some_iff.1 h1).1; omega⟩
   fresh:=fun b hb _=>hb
   nodup:=by simp
   mine:=fun b hb=>by simp at hb
   box:=fun o b base h=>by simp [noB] at h
   row:=fun o q n h=>by simp [noB] at h
   inj:=fun o o' b base base' h=>by simp [noB] at h
   data:=fun b _ _=>⟨by simp,fun o base h=>by simp [noB] at h⟩
   ptr:=fun b _=>⟨by simp,fun o base h=>by simp [noB] at h⟩ }
 have:=hs x y hy w args.toList _ _ _ _ _ hpre hx (by rw [hnl]; trivial)
 rw [Array.toArray_toList] at this;refine this.mono fun e w' hp=>?_
 obtain ⟨v,rfl,hk,vs,F1,F2,rfl,hvk,_⟩:=hp;have:=hyv vs F1 w' _ _ _ hvk;subst this;exact ⟨rfl,hk⟩
end
end
section
open Go Go.RowKit
theorem QjK {α β γ:Type} {step:(α→Option γ)→α→Option γ} (φ:β→α) (I:β→Prop) (G:β→Option γ) (μ:β→Nat)
  (h: ∀rec b,I b→(∀b',I b'→μ b'< μ b→rec (φ b')=G b')→step rec (φ b)=G b): ∀n b,I b→μ b< n→Qd step n (φ b)=G b
 | 0,b,_,hm=>absurd hm (Nat.not_lt_zero _)
 | n+1,b,hI,hm=>h (Qd step n) b hI fun c hc hlt=>QjK φ I G μ h n c hc (by omega)
theorem QG:lots=18446744073709551616:=rfl
theorem Qq {n:Int} (h1: -9223372036854775808≤n) (h2:n≤9223372036854775807):IntKind.i64.wrap n=n:=by
 show (if (true && decide (n % 18446744073709551616≥9223372036854775808))=true then n % 18446744073709551616-18446744073709551616 else n % 18446744073709551616)=n
 split
 ·rename_i h; simp at h; omega
 ·rename_i h; simp at h; omega
theorem Qdk:maxLen=9223372036854775807:=by decide
theorem QqJ {α:Type} {m:List α} {i:Int} (h0:0≤i) (h:i< (m.length:Int)): ∃y,m[i.toNat]?=some y∧y∈m∧m.drop i.toNat=y::m.drop (i+1).toNat:=by
 have hn:i.toNat< m.length:=by omega
 refine ⟨m[i.toNat],List.getElem?_eq_getElem hn,List.getElem_mem hn,?_⟩;rw [List.drop_eq_getElem_cons hn];congr 2;omega
theorem Qqu {i:Int} {n:Nat} (h0:0≤i) (h:i< (n:Int)) (hn:n≤maxLen):IntKind.i64.wrap (i+1)=i+1:=by
 rw [Qdk] at hn;exact Qq (by omega) (by omega)
theorem Qhk {α:Type} {m:List α} {i:Int} (h: ¬i< (m.length:Int)):m.drop i.toNat=[]:=List.drop_of_length_le (by omega)
end
section
open Go Go.RowKit
variable {P:Program} {T:Tab} {G:Env} {w w' w0:World} {Z:Nat→Prop} {M:Nat→Nat→Prop} {N:Nat→Option (Option (Nat×Nat))} {a:Act} {σ:St} {β:Qr}
variable {o:Oper} {next:Act→World→Prop} {Q:Exit→Act→World→Prop}
theorem Quo (hT:QR P T=true) (hrep:Rep Z M N w0 σ a w) {t t':TypeId} {x:Operand} (ho:o.op= .binOp .eql t x (.const (.slice none 0 0)) t') {d:Nat} (hd:o.dst=some d) (hdn:d< σ.nt) {r:Row} {u:Ty} (hr:look T t=some r) (hty:r.ty= .slice u)
  {xs:List (den u)} (hx:ev σ x=some (.s (.d (.slice u) xs))) (hy:xs=[]→ ∀a' w',Rep Z M N w0 (σ.set d (.s (.d .bool true))) a' w'→next a' w')
  (hn: ∀a' w',Rep Z M N w0 (σ.set d (.s (.d .bool false))) a' w'→next a' w'):o.wp P a w next Q:=by
 obtain ⟨β,hrep⟩:=hrep;obtain ⟨i,dd,z,hrow⟩:=QA hT hr;have hdd:=hrow.desc;unfold QaS at hdd;rw [hty] at hdd;cases dd <;> first | (simp at hdd; done) | skip
 rename_i e;have hv:=Qh hrep hx;have hv:=(VV_d (t:= .slice u) rfl).1 hv;obtain ⟨A,cap,hv,hcap,hne⟩:=hv;simp only [List.cons.injEq,and_true] at hv
 have hrun:(execOp a.eval o).run P w= .ok (.value (.bool A.isNone)) w:=by
  unfold execOp;rw [ho];have e2:a.eval (.const (.slice none 0 0))= .slice none 0 0:=rfl;simp only [hv,e2];rw [Sem.run_bind]
  have:(do eqGuard .eql t x (.const (.slice none 0 0)) (.slice A xs.length cap) (.slice none 0 0); binOp .eql t (.slice A xs.length cap) (.slice none 0 0):Sem Value).run P w= .ok (.bool A.isNone) w:=by
   have e3:(eqGuard .eql t x (.const (.slice none 0 0)) (.slice A xs.length cap) (.slice none 0 0):Sem Unit)=pure ():=rfl;rw [e3];simp only [pure_bind,binOp];simp [run_equal_slice_nil w t e A xs.length cap hrow.under]
  rw [this];rfl
 refine QD (v:= .bool A.isNone) (w':=w) hrun ?_;rw [hd]
 have hset: ∀b,b=A.isNone→RepB Z M N w0 β (σ.set d (.s (.d .bool b))) (a.put (some d) (.bool A.isNone)) w:=fun b hb=>
  hrep.set hdn ((VV_d (t:= .bool) rfl).2 (by rw [hb]; rfl))
 cases hA:A with
 | none=>
  have hxs:xs=[]:=by
   cases xs with
   | nil=>rfl
   | cons y ys=>
    obtain ⟨b,off,h1,_⟩:=hne (by simp)
    rw [hA] at h1; cases h1
  have:=hset true (by rw [hA]; rfl)
  rw [hA] at this;exact hy hxs _ _ ⟨β,this⟩
 | some q=>
  have:=hset false (by rw [hA]; rfl)
  rw [hA] at this;exact hn _ _ ⟨β,this⟩
theorem Qdl (hT : QR P T = true) {f : FuncId} {fn : Func} {cn : Con} {c0 ca cb : Code} {id d nm : Nat} {o1 o2 : Oper} {t t' : TypeId} {x : Operand} {r : Row} {u : Ty} (hf : P.funcs[f]? = some fn) (hn0 : (fn.name == "runtime.NumGoroutine") = false)
  (hb:fn.body=some (.seq c0 (.seq (.seq (.region id #[o1,o2] false) (.cond (.tmp d) ca .skip)) cb))) (hn2:cn.ps.all QdA=true∧cn.rs.all resK=true) (hnames: ∀x,QeO (st0 fn cn.ps x)=true)
  (hg1:o1.guard=none) (hg2:o2.guard=none) (ho:o2.op= .binOp .eql t x (.const (.slice none 0 0)) t') (hd:o2.dst=some d) (hr:look T t=some r) (hty:r.ty= .slice u)
  (s1 s2:denP cn.ps→St) (xs:denP cn.ps→List (den u)) (h1: ∀y,run T [] [] c0 (st0 fn cn.ps y) (fun e σ=>match e with | .normal=>some σ | _=>none)=some (s1 y)) (hdo: ∀y,QM o1.dst (s1 y).nt=true)
  (h2: ∀y,opR T [] nm o1 (s1 y) some=some (s2 y)) (hd2: ∀y,d< (s2 y).nt) (hev: ∀y,ev (s2 y) x=some (.s (.d (.slice u) (xs y)))) (hpl:QbV [] c0=true) (hpa:QbV [] ca=true) (hpb:QbV [] cb=true) (hnt: ∀y,(s2 y).nt=(st0 fn cn.ps y).nt)
  (hA: ∀y,xs y=[]→run T [] [] (.seq (.cond (.tmp d) ca .skip) cb) ((s2 y).set d (.s (.d .bool true))) (endE T fn cn.ps cn.rs y)=cn.F y)
  (hB: ∀y,run T [] [] (.seq (.cond (.tmp d) ca .skip) cb) ((s2 y).set d (.s (.d .bool false))) (endE T fn cn.ps cn.rs y)=cn.F y):Qb P f cn:=by
 have hs:Qfg P f cn:=by
  refine Qix (T:=T) hT hf hb hn2 fun y z hz=>⟨hnames y,fun Z M N w0 a w Q hrep hK=>?_⟩
  refine wp_seq (QcC (L:=[]) hT Qc (QhC hpl) hrep (h1 y) fun e σ' he hn a' w' hr'=>?_)
  cases e with
  | exit i=>cases he
  | ret=>cases he
  | normal=>
   obtain rfl:=Osj he
   have rest: ∀{b:Bool} {a'':Act} {w'':World},(b=true→xs y=[])→Rep Z M N w0 ((s2 y).set d (.s (.d .bool b))) a'' w''→(Code.cond (.tmp d) ca .skip).wp P (Exit.then (cb.wp P Q) Q) a'' w'':=by
    intro b a'' w'' hbt hrep''
    have hrun:run T [] [] (.seq (.cond (.tmp d) ca .skip) cb) ((s2 y).set d (.s (.d .bool b))) (endE T fn cn.ps cn.rs y)=some z:=by
     cases b with
     | true=>rw [hA y (hbt rfl)]; exact hz
     | false=>rw [hB y]; exact hz
    rw [run] at hrun;refine QcC (L:=[]) hT Qc (QhC (by simp [QbV,hpa])) hrep'' hrun fun e σ3 he3 hn3 a3 w3 hr3=>?_
    have hn3':σ3.nt=(st0 fn cn.ps y).nt:=hn3.trans (hnt y);cases e with
    | normal=>exact QcC (L:=[]) hT Qc (QhC hpb) hr3 he3 fun e σ4 he4 hn4 a4 w4 hr4=>hK e σ4 he4 (hn4.trans hn3') a4 w4 hr4
    | exit i=>exact hK (.exit i) σ3 he3 hn3' a3 w3 hr3
    | ret=>exact hK .ret σ3 he3 hn3' a3 w3 hr3
   refine wp_seq (wp_seq (wp_region_list ?_));unfold wpList;rw [if_pos (by simp [Region.wanted,hg1])]
   refine .inl ?_;obtain ⟨β,hr'⟩:=hr';refine Qij hT Qc hr' (hdo y) (fun σ4 h4 hn4 a4 w4 hr4=>?_) (h2 y)
   obtain rfl:=Osj h4;unfold wpList;rw [if_pos (by simp [Region.wanted,hg2])]
   exact .inl (Quo hT hr4 ho hd (hd2 y) hr hty (hev y) (fun hxs a5 w5 hr5=>rest (fun _=>hxs) hr5) (fun a5 w5 hr5=>rest (fun h=>by cases h) hr5))
 exact hs.ok (Qfo hf hn0 (by rw [hb]; rfl))
end
section
open Go Go.RowKit
variable {P:Program} {T:Tab} {w w':World} {M:Nat→Nat→Prop}
theorem QpG (o:Obj):Kept M w (w.alloc o):=(Kept.refl M w).alloc o
theorem QvD {w:World} {ps:List PK} {S Q:Nat→Prop} {B:Nat→Option Pl} {F:List Nat} (hp:Pre M w ps S Q B F) {b:Nat} (hb:w.heap.size≤b) (o base:Nat):B o≠some (.box b base):=fun h=>by
 have:=(hp.box o b base h).2.2.1;omega
def Qxp (t:Ty) (by_:Nat) (e:TypeId) (x:denP [.val (.slice t),.val (.int .i64)]):Option (denV [.s (.own e t)]×denQ [.val (.slice t),.val (.int .i64)]):=
 if (0:Int)≤x.2.1∧x.2.1*(by_:Int)≤140737488355328 then some (([],()),()) else none
theorem Qtb {f:FuncId} {t:TypeId} (hw: ∀(A:Option Addr) (n cap:Nat) (w:World),Calls P f #[.slice A n cap] w fun r w'=>r= .returned (.pointer (some ⟨w.heap.size,0,none⟩))∧w'=w.alloc (.cells #[.slice A n cap,.int .i64 0] t)):
  Qfg P f ⟨[.val (.slice (.int .u8))],[.s (.bx (.pair (.slice (.int .u8)) (.pair (.int .i64) .unit)))],fun x=>some (((x.1,(0:Int),()),()),()),false⟩:=by
 intro x y hx w args S Q B M F hp ha _;obtain rfl:=Osj hx;obtain ⟨v0,vs0,rfl,⟨cs,hv,hr⟩,rfl,rfl⟩:=ha;have h1:cs=[v0]:=hv;subst h1;obtain ⟨A,cap,e1,hcap,hA⟩:=hr;have e2:v0= .slice A x.1.length cap:=by simpa using e1
 subst e2;refine (hw A x.1.length cap w).mono fun r w' h=>?_
 obtain ⟨rfl,rfl⟩:=h;have hnew:(w.alloc (.cells #[.slice A x.1.length cap,.int .i64 0] t)).heap[w.heap.size]?=some (.cells #[.slice A x.1.length cap,.int .i64 0] t (0,0)):=Qhq w _;have hrp:Rp w S (.slice (.int .u8)) x.1 [.slice A x.1.length cap]:=⟨A,cap,rfl,hcap,hA⟩
 have hrp':Rp (w.alloc (.cells #[.slice A x.1.length cap,.int .i64 0] t)) (after S M B ([w.heap.size]++[])) (.slice (.int .u8)) x.1 [.slice A x.1.length cap]:=
  Qaa (fun b hb hS=>⟨⟨.inl hS,by simp; omega,(hp.data b hb hS).2⟩,heap_alloc_old w _ b hb⟩) hrp
 refine ⟨_,rfl,QpG _,[.pointer (some ⟨w.heap.size,0,none⟩)],[w.heap.size],[],rfl,⟨_,[],[w.heap.size],[],rfl,rfl,⟨w.heap.size,_,t,_,rfl,hnew,rfl,⟨[_],[_],rfl,hrp',⟨[_],[],rfl,rfl,rfl⟩⟩,rfl⟩,rfl,rfl⟩,
  ⟨_,_,rfl,rfl,rfl⟩,by simp,fun b hb=>?_⟩
 simp only [List.append_nil,List.mem_singleton] at hb;subst hb;exact ⟨fun i=>hp.fresh _ (Nat.le_refl _) i,(Array.getElem?_eq_some_iff.1 hnew).1,fun o base=>QvD hp (Nat.le_refl _) o base⟩
end
end Go.Proofs.YtkkljegcnnfanaaGreatDoor.S
