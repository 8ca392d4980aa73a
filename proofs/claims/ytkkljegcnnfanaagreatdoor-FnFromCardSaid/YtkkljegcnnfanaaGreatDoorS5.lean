/- The machinery S, part 5: a run of a program's code over typed symbolic data, and that it is what the code does. -/
import Derived.Test.YtkkljegcnnfanaaGreatDoorS4
import Derived.ProofKit
import Derived.WideKeyArgs
import Derived.Laws.Cover3
import Derived.Lib.AppendZeros
set_option linter.unusedVariables false
set_option linter.unusedSimpArgs false
namespace Go.Proofs.YtkkljegcnnfanaaGreatDoor.S
section
open Go Go.RowKit
variable {T:Tab} {G:Env} {σ σ2:St} {o:Oper} {R:Type} {H H2:Heap} {own:Bool}
def preE (i:Option Nat) (x:Sl):List (Nat×Sl):=match i with | some j=>[(j,x)] | none=>[]
theorem Qbr {σ:St} {i:Option Nat} {x:SV}:σ.sets i x=⟨σ.nt,preE i (.v x)++σ.env,σ.H⟩:=by
 cases i <;> rfl
theorem QkT {σ:St} {i:Option Nat}:σ.skip i=⟨σ.nt,preE i (.t [])++σ.env,σ.H⟩:=by
 cases i <;> rfl
theorem QkS {i:Option Nat} {x:Sl} {env:List (Nat×Sl)}:Qrf i x env=preE i x++env:=by
 cases i <;> rfl
theorem QaN {i:Option Nat} {x:Sl}: ∀p∈preE i x,i=some p.1:=by
 intro p a;cases i with
 | none=>simp [preE] at a
 | some j=>simp [preE] at a; subst a; rfl
def St.pre (σ:St) (pe:List (Nat×Sl)) (pH:Heap):St:=⟨σ.nt,pe++σ.env,pH++σ.H⟩
def Loc (T:Tab) (G:Env) (nm:Nat) (o:Oper) (σ:St) (pe:List (Nat×Sl)) (pH:Heap):Prop:=
 ∀σ2,AgO o σ σ2→agN σ.H σ2.H (pH.map (·.1))→opR T G nm o σ2 some=some (σ2.pre pe pH)
theorem Qoq {q:Out} {p:Heap} (h:frz σ.H q.fr=p++σ.H):addO σ o.dst q=σ.pre (preE o.dst q.x) (q.n++p):=by
 unfold addO St.pre;rw [h,List.append_assoc];cases o.dst <;> rfl
theorem QfY {nm:Nat} {σ':St} (hp: ∀σ2,σ2=σ∨AgO o σ σ2→opR T G nm o σ2 some=Qal T o σ2 fun q=>some (addO σ2 o.dst q)) (h:opR T G nm o σ some=some σ'):
  ∃pe pH,σ'=σ.pre pe pH∧(∀p∈pe,o.dst=some p.1)∧Loc T G nm o σ pe pH:=by
 rw [hp σ (.inl rfl),QdV] at h;obtain ⟨q,i,h⟩:=Obs h;obtain rfl:=Osj h;obtain ⟨p,a,e⟩:=QhP (H:=σ.H) q.fr;refine ⟨preE o.dst q.x,q.n++p,Qoq a,QaN,fun σ2 b g=>?_⟩
 obtain ⟨c,d⟩:=QtG b i (g.sub fun n f=>by rw [List.map_append]; exact List.mem_append_left _ f)
 rw [hp σ2 (.inr b),QdV,c,Obn,Qoq (e σ2.H d)]
theorem Qua {nm:Nat} {σ':St} {t:TypeId} {a x:Operand} (ho:o.op= .store t a x) (h:opR T G nm o σ some=some σ'):
  ∃pe pH,σ'=σ.pre pe pH∧(∀p∈pe,o.dst=some p.1)∧Loc T G nm o σ pe pH:=by
 have d:a∈o.op.operands:=by simp [ho,Op.operands]
 have f:x∈o.op.operands:=by simp [ho,Op.operands]
 unfold opR at h;rw [ho] at h;simp only at h;split at h
 ·rename_i r b w y l g k;split at h
  ·rename_i cs m;split at h
   ·rename_i hc;obtain rfl:=Osj h;refine ⟨preE o.dst (.v (.s .any)),[(b,.box (Qgb cs w (cellsOf y)))],Qbr,QaN,fun σ2 c hn=>?_⟩
    unfold opR;rw [ho];simp only;rw [c.ev a d,c.ev x f];simp only [l,g,k];rw [(c.nmv (by rw [ho]; rfl) (by rw [ho]; rfl) a d _ g).close b (by simp [Qi,Qh]),m]
    simp only;rw [if_pos hc];exact congrArg some Qbr
   ·cases h
  ·cases h
 ·rename_i r b i w y l g k;split at h
  ·rename_i v H' ag;split at h
   ·rename_i e u xs m;obtain ⟨z,q,h⟩:=Obs h;obtain ⟨s,j,h⟩:=Obs h;obtain rfl:=Osj h;obtain ⟨p,hp, -⟩:=Qna (H2:=σ.H) (fun n _=>rfl) ag
    refine ⟨preE o.dst (.v (.s .any)),(b,.row e u (xs.set i s))::p,?_,QaN,fun σ2 c hn=>?_⟩
    ·rw [Qbr,hp]; rfl
    ·unfold opR;rw [ho];simp only;rw [c.ev a d,c.ev x f];simp only [l,g,k];obtain ⟨p2,ao,ak⟩:=Qna (c.nmv (by rw [ho]; rfl) (by rw [ho]; rfl) x f _ k) ag
     obtain rfl:p=p2:=List.append_cancel_right (hp.symm.trans ao);rw [ak];simp only;have am:=((c.nmv (by rw [ho]; rfl) (by rw [ho]; rfl) a d _ g).close.pre p) b (by simp [Qi,Qh])
     rw [am, ←hp,m];simp only [q,j,Obn];exact congrArg some Qbr
   ·cases h
  ·cases h
 ·rename_i r b i w jj y l g k;split at h
  ·rename_i e u xs m;split at h
   ·rename_i hc;obtain ⟨v,hv,h⟩:=Obs h;obtain ⟨z,q,h⟩:=Obs h;obtain ⟨ys,aq,h⟩:=Obs h;obtain ⟨s,j,h⟩:=Obs h;obtain rfl:=Osj h;refine ⟨preE o.dst (.v (.s .any)),[(b,.row e u (xs.set i s))],Qbr,QaN,fun σ2 c hn=>?_⟩
    unfold opR;rw [ho];simp only;rw [c.ev a d,c.ev x f];simp only [l,g,k];rw [(c.nmv (by rw [ho]; rfl) (by rw [ho]; rfl) a d _ g).close b (by simp [Qi,Qh]),m]
    simp only;rw [if_pos hc,QbZ (c.nmv (by rw [ho]; rfl) (by rw [ho]; rfl) x f _ k).close,hv,Obn]
    simp only [q,aq,j,Obn];exact congrArg some Qbr
   ·cases h
  ·cases h
 ·rename_i r b i w y l g k;split at h
  ·rename_i e u xs m;split at h
   ·cases h
   rename_i ab;split at h
   ·rename_i ac;obtain ⟨v,hv,h⟩:=Obs h;obtain ⟨z,q,h⟩:=Obs h;obtain ⟨s4,ap,h⟩:=Obs h;obtain ⟨s,j,h⟩:=Obs h;obtain rfl:=Osj h;refine ⟨preE o.dst (.v (.s .any)),[(b,.row e u (xs.set i s))],Qbr,QaN,fun σ2 c hn=>?_⟩
    unfold opR;rw [ho];simp only;rw [c.ev a d,c.ev x f];simp only [l,g,k];rw [(c.nmv (by rw [ho]; rfl) (by rw [ho]; rfl) a d _ g).close b (by simp [Qi,Qh]),m]
    simp only;rw [if_neg ab,if_pos ac,QbZ (c.nmv (by rw [ho]; rfl) (by rw [ho]; rfl) x f _ k).close,hv,Obn]
    simp only [q,ap,j,Obn];exact congrArg some Qbr
   ·rename_i ac;obtain ⟨⟨x1,ns,rr⟩,ai,h⟩:=Obs h;split at h
    ·rename_i af;obtain ⟨z,q,h⟩:=Obs h;obtain ⟨s,j,h⟩:=Obs h;obtain rfl:=Osj h;refine ⟨preE o.dst (.v (.s .any)),(b,.row (e % 1000000000000) u (xs.set i s))::ns.map (fun o=>(o,Ob.dead)),?_,QaN,fun σ2 c hn=>?_⟩
     ·rw [Qbr]; rfl
     ·unfold opR;rw [ho];simp only;rw [c.ev a d,c.ev x f];simp only [l,g,k];rw [(c.nmv (by rw [ho]; rfl) (by rw [ho]; rfl) a d _ g).close b (by simp [Qi,Qh]),m]
      simp only;rw [if_neg ab,if_neg ac,QhK ((c.nmv (by rw [ho]; rfl) (by rw [ho]; rfl) x f _ k).close.sub QgS),ai,Obn]
      simp only at af j⊢;rw [if_pos af];simp only [q,j,Obn];exact congrArg some Qbr
    ·cases h
  ·cases h
 ·cases h
theorem Qrx {nm:Nat} {σ':St} {t:TypeId} {m x v:Operand} (ho:o.op= .mapUpdate t m x v) (h:opR T G nm o σ some=some σ'):
  ∃pe pH,σ'=σ.pre pe pH∧(∀p∈pe,o.dst=some p.1)∧Loc T G nm o σ pe pH:=by
 have c:m∈o.op.operands:=by simp [ho,Op.operands]
 have f:x∈o.op.operands:=by simp [ho,Op.operands]
 have e:v∈o.op.operands:=by simp [ho,Op.operands]
 unfold opR at h;rw [ho] at h;simp only at h;split at h
 ·rename_i w b n s i j d k l;split at h
  ·rename_i g q;obtain rfl:=Osj h;refine ⟨[],[(b,.map (setM g n s))],rfl,fun p r=>by simp at r,fun y a u=>?_⟩
   unfold opR;rw [ho];simp only;rw [a.ev m c,a.ev x f,a.ev v e];simp only [i,j,d,k,l];rw [(a.nmv (by rw [ho]; rfl) (by rw [ho]; rfl) m c _ d).close b (by simp [Qi,Qh]),q]
   rfl
  ·cases h
 ·cases h
theorem QkK {H H2:Heap} {y:SV} (h:agN H H2 (Qi y)):rowD H2 y=rowD H y:=by
 unfold rowD;split
 ·rename_i b;rw [h b (by simp [Qi,Qh])]
 ·rfl
theorem Quu {t:TypeId} {len:Nat} {parts:Array (Nat×Operand)} (ho:o.op= .buildSlice t len parts) (hg:AgO o σ σ2):bld1 T σ2 o.dst t parts.toList=bld1 T σ o.dst t parts.toList:=by
 unfold bld1;split
 ·rename_i k x a
  have:x∈o.op.operands:=by
   have:(k,x)∈parts:=by rw [←Array.mem_toList_iff,a]; simp
   simp only [ho,Op.operands]; simp; exact ⟨k,by simpa using this⟩
  rw [hg.ev x this]
 ·rfl
theorem Qpo {H H2:Heap} {r:Row} {t:Ty} {y:SV} (h:agN H H2 (Qi y)):ownD r H2 t y=ownD r H t y:=by
 unfold ownD;rw [QhK (h.sub QgS)]
theorem QsQ {nm:Nat} {σ':St} {t:TypeId} {len:Nat} {parts:Array (Nat×Operand)} (ho:o.op= .buildSlice t len parts) (h:opR T G nm o σ some=some σ'):
  ∃pe pH,σ'=σ.pre pe pH∧(∀p∈pe,o.dst=some p.1)∧Loc T G nm o σ pe pH:=by
 have l: ∀a,a=σ∨AgO o σ a→bld1 T a o.dst t parts.toList=bld1 T σ o.dst t parts.toList:=fun a f=>by
  rcases f with rfl | f
  ·rfl
  ·exact Quu ho f
 have h0:=h;unfold opR at h;rw [ho] at h;simp only at h;split at h
 ·rename_i k j r q y1 d;obtain ⟨x,h1,f,h3,h4,y⟩:=QlY d;simp only at h1 f h3 h4 y
  have s:x∈o.op.operands:=by
   have:(k,x)∈parts:=by rw [←Array.mem_toList_iff,h1]; simp
   simp only [ho,Op.operands]; simp; exact ⟨k,by simpa using this⟩
  split at h
  ·rename_i b i ap g;split at h
   ·rename_i e u xs hb;split at h
    ·rename_i hc;obtain ⟨z,hz,h⟩:=Obs h;obtain ⟨y2,ae,h⟩:=Obs h;obtain rfl:=Osj h;refine ⟨preE o.dst (.v (.s (.sl j))),[(j,.row r.elem q.ty [y2]),(b,.row (raw e) u xs)],?_,QaN,fun a n hn=>?_⟩
     ·rw [f]; rfl
     ·unfold opR;rw [ho];simp only;rw [l a (.inr n),d];simp only [g];have w:=n.nmv (by rw [ho]; rfl) (by rw [ho]; rfl) x s _ y
      rw [w.close b (by rw [Qne g]; simp [Qi,Qh]),hb]
      simp only;rw [QaD (H:=σ.H) (hn.sub (by simp)),if_pos hc]
      simp only [hz,ae,Obn];rw [f];rfl
    ·cases h
   ·cases h
  ·rename_i g;split at h
   ·rename_i v m;obtain ⟨x1,ns,rr⟩:=v;split at h
    ·rename_i hc;obtain rfl:=Osj h;refine ⟨preE o.dst (.v (.s (.sl j))),(j,.row r.made q.ty [x1])::ns.map (fun o=>(o,Ob.dead)),?_,QaN,fun a n hn=>?_⟩
     ·rw [f]; rfl
     ·unfold opR;rw [ho];simp only;rw [l a (.inr n),d];simp only [g];have w:=n.nmv (by rw [ho]; rfl) (by rw [ho]; rfl) x s _ y
      rw [Qpo w.close,m];simp only at hc⊢;rw [QaD (H:=σ.H) (hn.sub (by simp)),if_pos hc,f]
      rfl
    ·cases h
   ·rename_i m;refine QfY (fun a c=>?_) h0
    unfold opR;rw [ho];simp only;rw [l a c,d];simp only [g]
    have e:ownD r a.H q.ty y1=none:=by
     rcases c with rfl | c
     ·exact m
     ·rw [Qpo (c.nmv (by rw [ho]; rfl) (by rw [ho]; rfl) x s _ y).close]; exact m
    rw [e]
 ·rename_i d;refine QfY (fun a c=>?_) h0
  unfold opR;rw [ho];simp only;rw [l a c,d]
theorem Qql {nm:Nat} {σ':St} {c:Call} (ho:o.op= .call c) (hc:c.callee= .builtin .append) (h:opR T G nm o σ some=some σ'):
  ∃pe pH,σ'=σ.pre pe pH∧(∀p∈pe,o.dst=some p.1)∧Loc T G nm o σ pe pH:=by
 unfold opR at h;rw [ho] at h;simp only [hc] at h;split at h
 ·rename_i s x t t' j h1 h2 n
  have l:s∈o.op.operands:=by
   have:s∈c.args:=by rw [←Array.mem_toList_iff,h1]; simp
   simp [ho,Op.operands,Call.operands,this]
  have f:x∈o.op.operands:=by
   have:x∈c.args:=by rw [←Array.mem_toList_iff,h1]; simp
   simp [ho,Op.operands,Call.operands,this]
  split at h
  ·rename_i r h4;split at h
   ·rename_i q h5;split at h
    ·rename_i ab;split at h
     ·rename_i b y w m;split at h
      ·rename_i e u xs hb;split at h
       ·rename_i ad;split at h
        ·rename_i b2 e2 v;obtain ⟨af,ae,h⟩:=Obs h;obtain ⟨ys,k,h⟩:=Obs h;split at h
         ·rename_i g;split at h
          ·rename_i i;obtain rfl:=Osj h;refine ⟨preE o.dst (.v (.s (.sl nm))),[(nm,.row (e % 1000000000000) q.ty (af++ys)),(b2,.dead),(b,.dead)],?_,QaN,fun σ2 d z=>?_⟩
           ·rw [n]; rfl
           ·unfold opR;rw [ho];simp only [hc,h1,h2,n,h4,h5];rw [if_pos ab,d.ev s l,d.ev x f];simp only [w,m];have a:=d.nmv (by rw [ho]; rfl) (by rw [ho]; rfl) x f _ m
            rw [(d.nmv (by rw [ho]; rfl) (by rw [ho]; rfl) s l _ w).close b (by simp [Qi,Qh]),hb]
            simp only;rw [if_pos ad,QkK a.close,v];simp only;rw [ae,Obn,QbZ a.close,k,Obn,QaD (z.sub (by simp)),if_pos g,if_pos i]
            rfl
          ·cases h
         ·cases h
        ·cases h
       rename_i ad;obtain ⟨ys,k,h⟩:=Obs h;obtain ⟨af,ae,h⟩:=Obs h;split at h
       ·rename_i g;split at h
        ·rename_i i;obtain rfl:=Osj h;refine ⟨preE o.dst (.v (.s (.sl nm))),[(nm,.row r.elem q.ty (af++ys)),(b,.dead)],?_,QaN,fun σ2 d z=>?_⟩
         ·rw [n]; rfl
         ·unfold opR;rw [ho];simp only [hc,h1,h2,n,h4,h5];rw [if_pos ab,d.ev s l,d.ev x f];simp only [w,m];have a:=d.nmv (by rw [ho]; rfl) (by rw [ho]; rfl) x f _ m
          rw [(d.nmv (by rw [ho]; rfl) (by rw [ho]; rfl) s l _ w).close b (by simp [Qi,Qh]),hb]
          simp only;rw [if_neg ad,QbZ a.close,k,Obn,ae,Obn,QbL a.close,Qfk a.close,QaD (z.sub (by simp)),if_pos g,if_pos i]
          rfl
        ·cases h
       ·cases h
      ·cases h
     ·rename_i y w m;split at h
      ·rename_i b2 e2 v;obtain ⟨ys,k,h⟩:=Obs h;split at h
       ·rename_i g;split at h
        ·rename_i i;obtain rfl:=Osj h;refine ⟨preE o.dst (.v (.s (.sl nm))),[(nm,.row (e2 % 1000000000000) q.ty ys),(b2,.dead)],?_,QaN,fun σ2 d z=>?_⟩
         ·rw [n]; rfl
         ·unfold opR;rw [ho];simp only [hc,h1,h2,n,h4,h5];rw [if_pos ab,d.ev s l,d.ev x f];simp only [w,m];have a:=d.nmv (by rw [ho]; rfl) (by rw [ho]; rfl) x f _ m
          rw [QkK a.close,v];simp only;rw [QbZ a.close,k,Obn,QaD (z.sub (by simp)),if_pos g,if_pos i]
          rfl
        ·cases h
       ·cases h
      rename_i v;obtain ⟨ys,k,h⟩:=Obs h;split at h
      ·rename_i g;split at h
       ·rename_i i;obtain rfl:=Osj h;refine ⟨preE o.dst (.v (.s (.sl nm))),[(nm,.row r.elem q.ty ys)],?_,QaN,fun σ2 d z=>?_⟩
        ·rw [n]; rfl
        ·unfold opR;rw [ho];simp only [hc,h1,h2,n,h4,h5];rw [if_pos ab,d.ev s l,d.ev x f];simp only [w,m];have a:=d.nmv (by rw [ho]; rfl) (by rw [ho]; rfl) x f _ m
         rw [QkK a.close,v];simp only;rw [QbZ a.close,k,Obn,Qfk a.close,QaD (z.sub (by simp)),if_pos g,if_pos i]
         rfl
       ·cases h
      ·cases h
     ·cases h
    ·cases h
   ·cases h
  ·cases h
 ·cases h
theorem QtL {p:PK} {x:SV}: ∀o∈Qhb H p x,o∈Qu H x:=by
 intro o a;cases p with
 | box h i=>
  simp only [Qhb] at a;split at a
  ·rename_i b g;split at a
   ·rename_i j e;simp only [Qu,e];simp only [QL,List.mem_filterMap] at a⊢;obtain ⟨f,c,d⟩:=a;exact ⟨f,List.mem_of_mem_drop (List.mem_of_mem_take c),d⟩
   ·cases a
  ·cases a
 | _=>exact a
theorem QkM: ∀{ps:List PK} {xs:List SV} {o:Nat},o∈QbU H ps xs→ ∃x∈xs,o∈Qu H x
 | p::r,x::xs,o,h=>by
  simp only [QbU] at h;rcases List.mem_append.1 h with h | h
  ·exact ⟨x,by simp,QtL o h⟩
  ·obtain ⟨y,h1,h2⟩:=QkM h;exact ⟨y,by simp [h1],h2⟩
 | [],_,_,h=>by simp [QbU] at h
 | _::_,[],_,h=>by simp [QbU] at h
theorem QtK {p:PK} {x:SV} (h:agN H H2 (Qi x)):Qhb H2 p x=Qhb H p x:=by
 cases p with
 | box c d=>
  simp only [Qhb];split
  ·rename_i b a;rw [h b (by simp [Qi,Qh])]
  ·rfl
 | _=>exact QbL h
theorem QkL: ∀{ps:List PK} {xs:List SV},(∀x∈xs,agN H H2 (QaK H (Qi x)))→QbU H2 ps xs=QbU H ps xs
 | p::r,x::xs,h=>by
  simp only [QbU];rw [QtK (h x (by simp)).close,QkL fun y hy=>h y (by simp [hy])]
 | [],_,_=>rfl
 | _::_,[],_=>rfl
theorem QsR {cn:Con} {b i off:Nat} {y:SV} {dst:Option Nat} {σ':St} (h:QgR cn b i off y dst σ some=some σ'):
  ∃pe pH,σ'=σ.pre pe pH∧(∀p∈pe,dst=some p.1)∧ ∀σ2:St,look σ2.H b=look σ.H b→(∀t,toD false σ2.H t y=toD false σ.H t y)→QgR cn b i off y dst σ2 some=some (σ2.pre pe pH):=by
 unfold QgR at h;split at h
 ·rename_i w x t2 q F;split at h
  ·rename_i e u s k;split at h
   ·rename_i l;obtain ⟨n,m,h⟩:=Obs h;obtain ⟨z,o,h⟩:=Obs h;obtain ⟨ys,c,h⟩:=Obs h;obtain ⟨r,j,h⟩:=Obs h;obtain ⟨v,d,h⟩:=Obs h;split at h
    ·rename_i a;obtain rfl:=Osj h;refine ⟨preE dst (.v (.s (.d q r.1.1))),[(b,.row e u (s.set i v))],Qbr,QaN,fun σ2 f g=>?_⟩
     unfold QgR;simp only [f,k,g,m,Obn,o,c,j,d];rw [if_pos l,if_pos a];exact congrArg some Qbr
    ·cases h
   ·cases h
  ·cases h
 ·cases h
theorem Qqp {cn:Con} {b i off:Nat} {y:SV} {dst:Option Nat} {K:St→Option R}:QgR cn b i off y dst σ K=(QgR cn b i off y dst σ some).bind K:=by
 unfold QgR;split
 ·split
  ·split
   ·simp only [Option.bind_assoc];congr 1;funext n;congr 1;funext z;congr 1;funext ys;congr 1;funext r;congr 1;funext z';split <;> rfl
   ·rfl
  ·rfl
 ·rfl
theorem Quy {nm:Nat} {σ':St} {c:Call} {f:Operand} (ho:o.op= .call c) (hc:c.callee= .value f) (h:opR T G nm o σ some=some σ'):
  ∃pe pH,σ'=σ.pre pe pH∧(∀p∈pe,o.dst=some p.1)∧Loc T G nm o σ pe pH:=by
 unfold opR at h;rw [ho] at h;simp only [hc] at h;have l:f∈o.op.operands:=by simp [ho,Op.operands,Call.operands,hc]
 have u: ∀x∈c.args.toList,x∈o.op.operands:=fun x a=>by
  simp only [ho,Op.operands,Call.operands]; simp at a; simp [a]
 split at h
 ·rename_i g lc ah h1 s;split at h
  ·rename_i j k;split at h
   ·rename_i d h3;obtain ⟨pe,pH,e1,e2,e3⟩:=QsR h;obtain ⟨rfl,rfl⟩:=Qnd k;refine ⟨pe,pH,e1,e2,fun i e b=>?_⟩
    have a: ∀x∈[SV.s (.dp j.1 j.2.1 j.2.2.1 .tok),j.2.2.2],agN σ.H i.H (QaK σ.H (Qi x)):=fun x a=>by
     obtain ⟨p,m,r⟩:=QhX s x a;exact e.nmv (by rw [ho]; rfl) (by rw [ho]; rfl) p (u p m) x r
    unfold opR;rw [ho];simp only [hc];rw [e.ev f l,Qcf (g:=S.ev σ) fun x a=>e.ev x (u x a)]
    simp only [h1,s,k,h3];exact e3 i ((a (SV.s (.dp j.1 j.2.1 j.2.2.1 .tok)) (by simp)).close j.1 (by simp [Qi,Qh])) fun t=>QbZ (a j.2.2.2 (by simp)).close
   ·cases h
  rename_i k;generalize aa:(ah++lc.map fun c=>SV.s (capS c))=xs at h
  split at h
  ·rename_i d h3;unfold QjU at h;obtain ⟨q,hq,h⟩:=Obs h;split at h
   ·rename_i ae;obtain ⟨y,hy,h⟩:=Obs h;simp only at h;split at h
    ·rename_i ad;obtain rfl:=Osj h
     have ag: ∀(i:St),AgO o σ i→ ∀x∈xs,agN σ.H i.H (QaK σ.H (Qi x)):=fun i e x a=>by
      rw [←aa] at a;rcases List.mem_append.1 a with a | a
      ·obtain ⟨p,m,r⟩:=QhX s x a;exact e.nmv (by rw [ho]; rfl) (by rw [ho]; rfl) p (u p m) x r
      ·obtain ⟨c,hc,rfl⟩:=List.mem_map.1 a;refine (e.nmv (by rw [ho]; rfl) (by rw [ho]; rfl) f l _ h1).sub (Qhl fun n b=>?_)
       simp only [Qi,Qh,List.mem_flatMap];refine ⟨c,hc,?_⟩;cases c with
       | pd t z=>simp [capS,Qi,Qh] at b
       | p o aq=>simpa [capS,Qi,Qh] using b
     generalize w:(if Qha d.ps d.rs=true then List.filter (fun o=>!q.2.1.contains o) (QbU σ.H d.ps xs) else [])=fr at*
     obtain ⟨p,m,h4⟩:=QhP (H:=σ.H) fr;refine ⟨preE o.dst (tup (mkVs nm d.rs y.1).1),((mkVs nm d.rs y.1).2++(outA (nm+250) σ.H d.ps y.2 xs).1)++((outA (nm+250) σ.H d.ps y.2 xs).2++(q.2.1.map (fun o=>(o,Ob.dead))++p)),?_,QaN,fun i e b=>?_⟩
     ·rw [QkS,m];simp only [St.pre,List.append_assoc]
     ·have a:=ag i e;unfold opR;rw [ho];simp only [hc];rw [e.ev f l,Qcf (g:=S.ev σ) fun x a=>e.ev x (u x a)]
      simp only [h1,s,k,aa,h3];unfold QjU;rw [QlU a,hq,Obn,Qkh a,Qpj a,if_pos ae,hy,Obn];simp only
      rw [QdR a,QhY (H:=σ.H) (b.sub fun n b=>by
       rw [List.map_append]; exact List.mem_append_left _ b),if_pos ad]
      have v:QbU i.H d.ps xs=QbU σ.H d.ps xs:=QkL a
      rw [v,w,h4 i.H (fun n b=>by
       rw [←w] at b;split at b
       ·obtain ⟨x,af,b⟩:=QkM (List.mem_filter.1 b).1;exact QgD (a x af) n b
       ·simp at b),QkS]
      simp only [St.pre,List.append_assoc]
    ·cases h
   ·cases h
  ·cases h
 ·cases h
theorem Qsc {nm:Nat} {σ':St} (h:opR T G nm o σ some=some σ'):
  ∃pe pH,σ'=σ.pre pe pH∧(∀p∈pe,o.dst=some p.1)∧Loc T G nm o σ pe pH:=by
 cases d:o.op with
 | store t a x=>exact Qua d h
 | buildSlice t i g=>exact QsQ d h
 | mapUpdate t m x v=>exact Qrx d h
 | call c=>
  cases e:c.callee with
  | builtin b=>
   cases b with
   | append=>exact Qql d e h
   | _=>exact QfY (fun σ _=>by unfold opR; rw [d]; simp only [e]) h
  | value f=>exact Quy d e h
  | _=>exact QfY (fun σ _=>by unfold opR; rw [d]; simp only [e]) h
 | _=>exact QfY (fun σ _=>by unfold opR; rw [d]) h
theorem Qqo {nm:Nat} {cn:Con} {xs:List SV} {dst:Option Nat} {K:St→Option R}:QjU nm cn xs dst σ K=(QjU nm cn xs dst σ some).bind K:=by
 unfold QjU;rw [Option.bind_assoc];congr 1;funext q;split
 ·rw [Option.bind_assoc];congr 1;funext y;simp only;split <;> rfl
 ·rfl
theorem Qpk {nm:Nat} {K:St→Option R}:opR T G nm o σ K=(opR T G nm o σ some).bind K:=by
 have d:(Qal T o σ fun q=>K (addO σ o.dst q))=(Qal T o σ fun q=>some (addO σ o.dst q)).bind K:=by
  rw [QdV,QdV (K:=fun q=>some (addO σ o.dst q)),Option.bind_assoc]; rfl
 cases e:o.op with
 | mapUpdate t m x v=>
  unfold opR;rw [e];simp only;split
  ·split <;> rfl
  ·rfl
 | store t a x=>
  unfold opR;rw [e];simp only;split
  ·split
   ·split <;> rfl
   ·rfl
  ·split
   ·split
    ·rw [Option.bind_assoc];congr 1;funext z;rw [Option.bind_assoc];rfl
    ·rfl
   ·rfl
  ·split
   ·split
    ·rw [Option.bind_assoc];congr 1;funext z;rw [Option.bind_assoc];congr 1;funext z;rw [Option.bind_assoc];congr 1;funext z;rw [Option.bind_assoc];rfl
    ·rfl
   ·rfl
  ·split
   ·split
    ·rfl
    split
    ·rw [Option.bind_assoc];congr 1;funext z;rw [Option.bind_assoc];congr 1;funext z;rw [Option.bind_assoc];congr 1;funext z;rw [Option.bind_assoc];rfl
    ·rw [Option.bind_assoc];congr 1;funext z;split
     ·rw [Option.bind_assoc];congr 1;funext z;rw [Option.bind_assoc];rfl
     ·rfl
   ·rfl
  ·rfl
 | call c=>
  cases g:c.callee with
  | builtin b=>
   cases b with
   | append=>
    unfold opR;rw [e];simp only [g];split
    ·split
     ·split
      ·split
       ·split
        ·split
         ·split
          ·split
           ·rw [Option.bind_assoc];congr 1;funext z;rw [Option.bind_assoc];congr 1;funext z';split
            ·split <;> rfl
            ·rfl
           ·rfl
          ·rw [Option.bind_assoc];congr 1;funext z;rw [Option.bind_assoc];congr 1;funext z';split
           ·split <;> rfl
           ·rfl
         ·rfl
        ·split
         ·rw [Option.bind_assoc];congr 1;funext z;split
          ·split <;> rfl
          ·rfl
         ·rw [Option.bind_assoc];congr 1;funext z;split
          ·split <;> rfl
          ·rfl
        ·rfl
       ·rfl
      ·rfl
     ·rfl
    ·rfl
   | _=>unfold opR; rw [e]; simp only [g]; exact d
  | value f=>
   unfold opR;rw [e];simp only [g];split
   ·split
    ·split
     ·exact Qqp
     ·rfl
    ·split
     ·exact Qqo
     ·rfl
   ·rfl
  | _=>unfold opR; rw [e]; simp only [g]; exact d
 | buildSlice t i h=>
  unfold opR;rw [e];simp only;split
  ·split
   ·split
    ·split
     ·rw [Option.bind_assoc];congr 1;funext z;rw [Option.bind_assoc];rfl
     ·rfl
    ·rfl
   ·split
    ·split <;> rfl
    ·exact d
  ·exact d
 | _=>unfold opR; rw [e]; exact d
end
section
open Go Go.RowKit
variable {P:Program} {T:Tab} {G:Env} {w w' w0:World} {Z:Nat→Prop} {M:Nat→Nat→Prop} {N:Nat→Option (Option (Nat×Nat))} {a:Act} {σ σ':St} {β:Qr}
variable {o:Oper} {Q:Exit→Act→World→Prop} {R:Type} {ops:Array Oper}
structure Leq (σ σ':St):Prop where
 nt:σ'.nt=σ.nt
 env: ∀i,look σ'.env i=look σ.env i
 H: ∀i,look σ'.H i=look σ.H i
theorem Leq.refl (σ:St):Leq σ σ:=⟨rfl,fun _=>rfl,fun _=>rfl⟩
theorem Leq.symm (h:Leq σ σ'):Leq σ' σ:=⟨h.nt.symm,fun i=>(h.env i).symm,fun i=>(h.H i).symm⟩
theorem Leq.trans {σ'':St} (h:Leq σ σ') (k:Leq σ' σ''):Leq σ σ'':=⟨k.nt.trans h.nt,fun i=>(k.env i).trans (h.env i),fun i=>(k.H i).trans (h.H i)⟩
theorem Leq.pre (h:Leq σ σ') (pe:List (Nat×Sl)) (pH:Heap):Leq (σ.pre pe pH) (σ'.pre pe pH):=
 ⟨h.nt,fun i=>by simp only [St.pre,QC]; rw [h.env i],fun i=>by simp only [St.pre,QC]; rw [h.H i]⟩
theorem Qui {H H':Heap} (h: ∀i,look H' i=look H i) {b:Nat} (ho:Own β H' b):Own β H b:=by
 obtain ⟨o,f,a,c,d,e⟩:=ho;exact ⟨o,f,a,by rw [←h o]; exact c,d,e⟩
theorem QlP {S':Nat→Prop} {q:Option (Nat×Nat)} {ob:Ob} (hh:w'.heap=w.heap):Step w w' S' q ob q (some ob):=QaP fun _ _ _=>by rw [hh]
theorem RepB.same (h:RepB Z M N w0 β σ a w) (hl:Leq σ σ'):RepB Z M N w0 β σ' a w:=by
 have y: ∀b,b< w.heap.size→ ¬Own β σ.H b→ ¬Own β σ'.H b∧w.heap[b]?=w.heap[b]? :=fun b _ m=>⟨fun d=>m (Qui hl.H d),rfl⟩
 have n: ∀b,b< w.heap.size→RO Z β σ.H b→RO Z β σ'.H b∧w.heap[b]?=w.heap[b]? :=Qam y;have hn: ∀o f,look σ.H o=some f→Step w w (RO Z β σ'.H) (β o) f (β o) (look σ'.H o):=fun o f d=>by rw [hl.H o,d]; exact QlP rfl
 refine { h with
  pin:=fun o q z=>?_
  size:=by rw [h.size,hl.nt]
  hold:=fun o f q b d=>?_
  one:=fun o o' f ae q q' b d ab p=>?_
  obj:=fun o f d=>?_
  env:=fun i x l=>?_
  bz:=fun o cs b g d h9 z=>h.bz o cs b g (by rw [hl.H o] at d; exact d) h9 z }
 ·have:=h.pin o q z;rw [hl.H o]; exact this
 ·rw [hl.H o] at d; exact h.hold o f q b d
 ·rw [hl.H o] at d; rw [hl.H o'] at p; exact h.one o o' f ae q q' b d ab p
 ·rw [hl.H o] at d;have:=h.obj o f d;cases f with
  | box cs=>
   obtain ⟨b,g,c,e,j,k,s,u⟩:=this;exact ⟨b,g,c,e,j,k,s,u.mono fun x v l=>⟨Qed n y hn l.1,l.2⟩⟩
  | row e t xs=>
   rcases this with j | ⟨b,cap,c,rows,j,k,s,u,h5,h6,h7⟩
   ·exact .inl j
   ·exact .inr ⟨b,cap,c,rows,j,k,s,u,h5,Qad (fun x r hr=>Qaa (fun b m hg=>hg.elim (fun h=>⟨.inl (n b m h).1,(n b m h).2⟩) (fun h=>⟨.inr h,rfl⟩)) hr) h6,h7⟩
  | _=>trivial
 ·rw [hl.env i] at l;obtain ⟨j,k⟩:=h.env i x l;exact ⟨j,Qnv n y hn k⟩
theorem Rep.same (h:Rep Z M N w0 σ a w) (hl:Leq σ σ'):Rep Z M N w0 σ' a w:=h.elim fun β h=>⟨β,h.same hl⟩
theorem RepB.drawn (h:RepB Z M N w0 β σ a w) (n:Nat):RepB Z M N w0 β σ a { w with drawn:=n }:=by
 have u: ∀b,b< w.heap.size→ ¬Own β σ.H b→ ¬Own β σ.H b∧({ w with drawn:=n }:World).heap[b]?=w.heap[b]? :=fun b _ j=>⟨j,rfl⟩
 have k: ∀b,b< w.heap.size→RO Z β σ.H b→RO Z β σ.H b∧({ w with drawn:=n }:World).heap[b]?=w.heap[b]? :=Qam u
 have y: ∀o f,look σ.H o=some f→Step w { w with drawn:=n } (RO Z β σ.H) (β o) f (β o) (look σ.H o):=fun o f s=>by rw [s]; exact QlP rfl
 refine { h with
  below:=⟨h.below.os,h.below.tape,h.below.output,h.below.size,h.below.block,h.below.cells⟩
  obj:=fun o f s=>?_
  env:=fun i x l=>?_ }
 ·have:=h.obj o f s;cases f with
  | box cs=>
   obtain ⟨b,m,c,e,d,g,p,q⟩:=this;exact ⟨b,m,c,e,d,g,p,q.mono fun x v l=>⟨Qed k u y l.1,l.2⟩⟩
  | row e t xs=>
   rcases this with d | ⟨b,cap,c,rows,d,g,p,q,h5,h6,h7,h8,h9,h10⟩
   ·exact .inl d
   ·exact .inr ⟨b,cap,c,rows,d,g,p,q,h5,Qad (fun x r hr=>Qaa (fun b j hg=>hg.elim (fun h=>⟨.inl (k b j h).1,(k b j h).2⟩) (fun h=>⟨.inr h,rfl⟩)) hr) h6,h7,h8,h9,fun z=>(h10 z).imp fun F h=>⟨Qew (w:=w) (fun _ _=>rfl) h.1,h.2⟩⟩
  | _=>trivial
 ·obtain ⟨d,g⟩:=h.env i x l;exact ⟨d,Qnv k u y g⟩
structure Rec where
 it:It
 pe:List (Nat×Sl)
 pH:Heap
structure StepOk (P:Program) (ops:Array Oper) (Q:Exit→Act→World→Prop) (Z:Nat→Prop) (M:Nat→Nat→Prop) (N:Nat→Option (Option (Nat×Nat))) (w0:World) (i:Nat) (r:Rec) (τ:St):Prop where
 pe: ∀p∈r.pe,r.it.dst=some p.1
 pH: ∀p∈r.pH,p.1∈r.it.wr
 wp: ∀σ2:St,σ2.nt=τ.nt→(∀t∈r.it.rd,look σ2.env t=look τ.env t)→agN τ.H σ2.H r.it.tch→ ∀a w,Rep Z M N w0 σ2 a w→
  ∀K:Act→World→Prop,(∀a' w',Rep Z M N w0 (σ2.pre r.pe r.pH) a' w'→K a' w')→wpOp P ops Q i K a w
theorem StepOk.same {i:Nat} {r:Rec} (h:StepOk P ops Q Z M N w0 i r σ) (hl:Leq σ σ'):StepOk P ops Q Z M N w0 i r σ' where
 pe:=h.pe
 pH:=h.pH
 wp:=fun f b a c=>h.wp f (b.trans hl.nt) (fun t e=>(a t e).trans (hl.env t)) (fun n d=>(c n d).trans (hl.H n))
theorem Qxe {σ2:St} {all:Array Oper} (hnt:σ2.nt=σ.nt) (henv: ∀t∈o.looksAt all,look σ2.env t=look σ.env t) (hH:isMv o.op=false→agN σ.H σ2.H (match isAd o.op with | true=>Qfy σ (o.looksAt all) | false=>QaK σ.H (Qfy σ (o.looksAt all)))):AgO o σ σ2:=by
 have d: ∀t,Operand.tmp t∈o.op.operands→t∈o.looksAt all:=fun t k=>
  List.mem_append_left _ (List.mem_filterMap.2 ⟨.tmp t,by simpa using k,rfl⟩)
 have j: ∀x∈o.op.operands, ∀v,S.ev σ x=some v→ ∀n∈Qi v,n∈Qfy σ (o.looksAt all):=by
  intro x e v a n i;cases x with
  | tmp t=>
   simp only [ev] at a;split at a
   ·rename_i y m;obtain rfl:=Osj a;refine List.mem_flatMap.2 ⟨t,d t e,?_⟩;rw [m];exact i
   ·obtain rfl:=Osj a; simp [Qi,Qh] at i
   ·cases a
  | const c=>
   have:Qi v=[]:=by
    simp only [ev] at a;unfold Qqq at a;split at a <;> first | (obtain rfl:=Osj a; rfl) | cases a
   rw [this] at i; simp at i
  | func f=>
   simp only [ev] at a;obtain rfl:=Osj a;simp [Qi,Qh] at i
  | global g=>simp [ev] at a
 refine ⟨hnt,fun x e=>?_,fun t k=>henv t (d t k),fun b x e v a=>?_,fun h b x e v a=>?_⟩
 ·cases x with
  | tmp t=>simp only [ev]; rw [henv t (d t e)]
  | _=>rfl
 ·have h:isMv o.op=false:=by
   cases l:o.op <;> rw [l] at b <;> first | rfl | (simp [isAd] at b; done)
  have hH:=hH h;simp only [b] at hH;exact hH.sub (j x e v a)
 ·have hH:=hH h;simp only [b] at hH;exact hH.sub (Qhl (j x e v a))
theorem Qqg {pe:List (Nat×Sl)} {pH:Heap}:wrOf σ (σ.pre pe pH)=pH.map (·.1):=by
 unfold wrOf St.pre;simp
theorem QrO (hT:QR P T=true) (hG:Qci P G) {i nm anc:Nat} {pe:List (Nat×Sl)} {pH:Heap} (ho:ops[i]?=some o) (hd:QK o.dst σ.nt=true)
  (hpe: ∀p∈pe,o.dst=some p.1) (hloc:Loc T G nm o σ pe pH)
  (hw: ∀σ2:St,(∀t∈o.looksAt ops,look σ2.env t=look σ.env t)→ ∀a w,Rep Z M N w0 σ2 a w→Region.wanted o (yielded ops a.tmps)=true):
  StepOk P ops Q Z M N w0 i ⟨itOf ops anc o σ (σ.pre pe pH),pe,pH⟩ σ where
 pe:=hpe
 pH:=fun p n=>by simp only [itOf,Qqg]; exact List.mem_map_of_mem n
 wp:=by
  intro σ2 d c e a w b K m;have f:=Qxe (o:=o) (all:=ops) d c (fun g=>by have:=e.left; simp only [g] at this; exact this)
  have h:=hloc σ2 f (by have:=e.right; rw [Qqg] at this; exact this)
  have j:=hw σ2 c a w b;unfold wpOp;rw [ho];simp only;rw [if_pos j];obtain ⟨β,b⟩:=b;refine .inl (QiJ (K:=some) hT hG b (by rw [d]; exact hd) (fun u l s k r q=>?_) h)
  obtain rfl:=Osj l;exact m k r q
theorem Qqh {σ2:St} {j t:Nat} {b:Bool} (ht:(ops[j]?).bind (·.dst)=some t) (hb:look σ2.env t=some (.v (.s (.d .bool b)))) (hrep:Rep Z M N w0 σ2 a w):yielded ops a.tmps j=some b:=by
 obtain ⟨β,hrep⟩:=hrep;obtain ⟨e,d⟩:=hrep.env t _ hb;have d:VV w (RO Z β σ2.H) β σ2.H (.s (.d .bool b)) (a.tmps.getD t undef):=d;have c:=Qee (S:=RO Z β σ2.H) (β:=β) (H:=σ2.H) d
 have:a.tmps[t]?=some (.bool b):=by
  rw [Array.getElem?_eq_getElem e];rw [Array.getD_eq_getD_getElem?,Array.getElem?_eq_getElem e] at c;exact congrArg some c
 simp [yielded,ht,this]
theorem QmS {i anc:Nat} {j t:Nat} {want:Bool} (ho:ops[i]?=some o) (hd:QK o.dst σ.nt=true) (hgd:o.guard=some (j,want)) (ht:(ops[j]?).bind (·.dst)=some t)
  (hy: ∀{σ2:St} {a:Act} {w:World},look σ2.env t=look σ.env t→Rep Z M N w0 σ2 a w→yielded ops a.tmps j≠some want):StepOk P ops Q Z M N w0 i ⟨Qhr ops anc o,preE o.dst (.t []),[]⟩ σ where
 pe:=QaN
 pH:=fun p g=>by simp at g
 wp:=by
  intro σ2 d c h a w b K f;have e:t∈o.looksAt ops:=by simp [Oper.looksAt,hgd,ht]
  have hy:=hy (c t e) b;have: ¬(Region.wanted o (yielded ops a.tmps)=true):=by simpa [Region.wanted,hgd] using hy
  unfold wpOp;rw [ho];simp only;rw [if_neg this];refine f _ _ ?_;obtain ⟨β,b⟩:=b;have:=b.skip (i:=o.dst) (by rw [d]; exact hd)
  rw [QkT] at this;exact ⟨β,this⟩
def appD (D:Nat→Bool) (recs:List Rec) (σ:St):Nat→St
 | 0=>σ
 | k+1=>match recs[k]? with
  | some r=>if D k then (appD D recs σ k).pre r.pe r.pH else appD D recs σ k
  | none=>appD D recs σ k
def Qok (ops:Array Oper) (recs:List Rec) (k:Nat) (r:Rec):Prop:=
 ∃o,ops[k]?=some o∧(∀e∈Qiw o,e< k)∧(∀m,r.it.anc.testBit m=true→ ∃e∈Qiw o,m=e∨ ∃r',recs[e]?=some r'∧r'.it.anc.testBit m=true)
structure Apart (x y:It):Prop where
 h1: ∀n∈x.wr,n∉y.tch
 h2: ∀n∈y.wr,n∉x.tch
 h3: ∀n∈x.wr,n∉y.wr
 h4: ∀d,x.dst=some d→d∉y.rd
 h5: ∀d,x.dst=some d→y.dst≠some d
 h6: ∀d,y.dst=some d→d∉x.rd
theorem Qiy {l m:List Nat} (h:disj l m=true): ∀n∈l,n∉m:=by
 intro n b a;have:=List.all_eq_true.1 h n b;simp [a] at this
theorem Qot {x y:It} (h:Qny x y=true):Apart x y:=by
 unfold Qny at h;simp only [Bool.and_eq_true] at h;obtain ⟨⟨⟨⟨e,f⟩,g⟩,a⟩,c⟩:=h;refine ⟨Qiy e,Qiy f,Qiy g,fun d b=>?_,fun d b=>?_,fun d b=>?_⟩
 ·rw [b] at a; simp at a; exact a.1
 ·rw [b] at a; simp at a; exact a.2
 ·rw [b] at c; simp at c; exact c
theorem Qut {r i:Nat} (h0:r≠0) (h:r.testBit i=true) (hne:i≠r.log2):(r-2 ^ r.log2).testBit i=true:=by
 have c:2 ^ r.log2≤r:=Nat.log2_self_le h0;have a:r< 2 ^ (r.log2+1):=Nat.lt_log2_self
 have b:i< r.log2:=by
  rcases Nat.lt_or_ge r.log2 i with hlt | hge
  ·have:r< 2 ^ i:=Nat.lt_of_lt_of_le a (Nat.pow_le_pow_right (by omega) hlt)
   rw [Nat.testBit_lt_two_pow this] at h; cases h
  ·omega
 have e:r=2 ^ r.log2+(r-2 ^ r.log2):=by omega
 rw [e,Nat.testBit_two_pow_add_gt b] at h;exact h
theorem Qmc {k:Nat} {acc:List It} {y:It}: ∀{n rest:Nat},chkI n rest k acc y=true→ ∀i,rest.testBit i=true→ ∃x,acc[k-1-i]?=some x∧Qny x y=true
 | 0,rest,h,i,hi=>by
  simp only [chkI,Nat.beq_eq] at h;subst h; simp at hi
 | n+1,rest,h,i,hi=>by
  simp only [chkI] at h;split at h
  ·rename_i h0;have:rest=0:=by simpa using h0
   subst this; simp at hi
  ·rename_i h0
   have h0:rest≠0:=by
    intro e; subst e; simp at h0
   split at h
   ·rename_i x b;simp only [Bool.and_eq_true] at h;by_cases a:i=rest.log2
    ·subst a; exact ⟨x,b,h.1⟩
    ·exact Qmc h.2 i (Qut h0 hi a)
   ·cases h
structure Tr (P:Program) (ops:Array Oper) (Q:Exit→Act→World→Prop) (Z:Nat→Prop) (M:Nat→Nat→Prop) (N:Nat→Option (Option (Nat×Nat))) (w0:World) (σ:St) (recs:List Rec):Prop where
 anc: ∀k r,recs[k]?=some r→Qok ops recs k r
 step: ∀k r,recs[k]?=some r→StepOk P ops Q Z M N w0 k r (appD (fun _=>true) recs σ k)
 pair: ∀(i k:Nat) (x y:Rec),recs[i]?=some x→recs[k]?=some y→i< k→y.it.anc.testBit i=false→Apart x.it y.it
theorem Qgp {D:Nat→Bool} {recs:List Rec} {r:Rec}: ∀{k:Nat},k≤recs.length→appD D (recs++[r]) σ k=appD D recs σ k
 | 0,_=>rfl
 | k+1,h=>by
  simp only [appD];rw [List.getElem?_append_left (by omega),Qgp (k:=k) (by omega)]
theorem Tr.snoc {recs:List Rec} {r:Rec} (h:Tr P ops Q Z M N w0 σ recs) (ha:Qok ops recs recs.length r) (hp: ∀(i:Nat) (x:Rec),recs[i]?=some x→r.it.anc.testBit i=false→Apart x.it r.it) (hs:StepOk P ops Q Z M N w0 recs.length r (appD (fun _=>true) recs σ recs.length)):
  Tr P ops Q Z M N w0 σ (recs++[r]):=by
 have j: ∀{e:Nat} {r':Rec},recs[e]?=some r'→(recs++[r])[e]?=some r':=fun {e r'} c=>by
  rw [List.getElem?_append_left (List.getElem?_eq_some_iff.1 c).1]; exact c
 have f: ∀{k:Nat} {q:Rec},Qok ops recs k q→Qok ops (recs++[r]) k q:=fun {k q} ⟨o,h1,h2,h3⟩=>
  ⟨o,h1,h2,fun m n=>(h3 m n).elim fun e c=>⟨e,c.1,c.2.imp id fun ⟨r',h4,h5⟩=>⟨r',j h4,h5⟩⟩⟩
 constructor
 ·intro k q a;rcases Nat.lt_or_ge k recs.length with b | hge
  ·rw [List.getElem?_append_left b] at a;exact f (h.anc k q a)
  ·rw [List.getElem?_append_right hge] at a
   have g:k-recs.length=0:=by
    have:=(List.getElem?_eq_some_iff.1 a).1;simp at this; omega
   have:k=recs.length:=by omega
   subst this;simp at a; subst a;exact f ha
 ·intro k q a;rcases Nat.lt_or_ge k recs.length with b | hge
  ·rw [List.getElem?_append_left b] at a;rw [Qgp (by omega)]
   exact h.step k q a
  ·rw [List.getElem?_append_right hge] at a
   have g:k-recs.length=0:=by
    have:=(List.getElem?_eq_some_iff.1 a).1;simp at this; omega
   have:k=recs.length:=by omega
   subst this;simp at a; subst a;rw [Qgp (Nat.le_refl _)];exact hs
 ·intro i k x y d a b l;rcases Nat.lt_or_ge k recs.length with hkl | hge
  ·rw [List.getElem?_append_left hkl] at a;rw [List.getElem?_append_left (by omega)] at d
   exact h.pair i k x y d a b l
  ·rw [List.getElem?_append_right hge] at a
   have g:k-recs.length=0:=by
    have:=(List.getElem?_eq_some_iff.1 a).1;simp at this; omega
   have:k=recs.length:=by omega
   subst this;simp at a; subst a;rw [List.getElem?_append_left (by omega)] at d
   exact hp i x d l
theorem Qkg {f:Nat→Nat}: ∀{l:List Nat} {m0 m:Nat},(l.foldl (fun m e=>Nat.lor m (Nat.lor (Nat.pow 2 e) (f e))) m0).testBit m=true→m0.testBit m=true∨ ∃e∈l,m=e∨(f e).testBit m=true
 | [],m0,m,h=> .inl h
 | e::r,m0,m,h=>by
  rcases Qkg (l:=r) h with h | ⟨e',he',h⟩
  ·have h:(m0 ||| (2 ^ e ||| f e)).testBit m=true:=h
   simp only [Nat.testBit_or,Bool.or_eq_true,Nat.testBit_two_pow,decide_eq_true_eq] at h;rcases h with h | h | h
   ·exact .inl h
   ·exact .inr ⟨e,by simp,.inl h.symm⟩
   ·exact .inr ⟨e,by simp,.inr h⟩
  ·exact .inr ⟨e',by simp [he'],h⟩
theorem Quo {recs:List Rec} {e:Nat} (he:e< recs.length):(recs.map Rec.it).reverse[recs.length-1-e]?=(recs[e]?).map Rec.it:=by
 rw [List.getElem?_reverse (by simp; omega)]
 simp only [List.length_map,List.getElem?_map];congr 2;omega
theorem Qxf {recs:List Rec} {r:Rec} (ho:ops[recs.length]?=some o) (hd:(Qiw o).all (fun e=>Nat.blt e recs.length)=true) (hr:r.it.anc=Qef recs.length (recs.map Rec.it).reverse o):Qok ops recs recs.length r:=by
 have b: ∀e∈Qiw o,e< recs.length:=fun e a=>by
  have:=List.all_eq_true.1 hd e a;exact Nat.le_of_ble_eq_true this
 refine ⟨o,ho,b,fun m c=>?_⟩
 rw [hr] at c;rcases Qkg c with h | ⟨e,a,h⟩
 ·simp at h
 ·refine ⟨e,a,h.imp id fun h=>?_⟩
  have f:=Quo (recs:=recs) (b e a);have h:(match (recs.map Rec.it).reverse[recs.length-1-e]? with | some it=>it.anc | none=>0).testBit m=true:=h
  rw [f] at h;cases d:recs[e]? with
  | none=>rw [d] at h; simp at h
  | some q=>rw [d] at h; exact ⟨q,rfl,h⟩
theorem Qwy {recs:List Rec} {y:It} (h:chkN recs.length (recs.map Rec.it).reverse y=true): ∀(i:Nat) (x:Rec),recs[i]?=some x→y.anc.testBit i=false→Apart x.it y:=by
 intro i x e f;have a:i< recs.length:=(List.getElem?_eq_some_iff.1 e).1
 have b:((2 ^ recs.length-1) ^^^ y.anc).testBit i=true:=by
  rw [Nat.testBit_xor,f,Nat.testBit_two_pow_sub_one];simp [a]
 obtain ⟨g,c,d⟩:=Qmc h i b;rw [Quo a,e] at c;simp only [Option.map_some,Oie] at c;subst c;exact Qot d
theorem QsK {recs:List Rec} {r:Rec}:appD (fun _=>true) (recs++[r]) σ (recs.length+1)=(appD (fun _=>true) recs σ recs.length).pre r.pe r.pH:=by
 simp only [appD];rw [List.getElem?_append_right (Nat.le_refl _)];simp [Qgp (Nat.le_refl _)]
theorem Qgd {t:Nat} {y:SV} (h:look σ.env t=some (.v y)):Leq σ (σ.set t y):=by
 refine ⟨rfl,fun i=>?_,fun i=>rfl⟩
 simp only [St.set,Qe];split
 ·rename_i e; subst e; exact h.symm
 ·rfl
theorem QkF (hT:QR P T=true) (hG:Qci P G) {σ0:St} {K:St→Option R} {y:R}: ∀{rest:List Oper} {nm:Nat} {σ:St} {recs:List Rec} {k:Nat} {acc:List It},
  (∀k,rest[k]?=ops[recs.length+k]?)→k=recs.length→acc=(recs.map Rec.it).reverse→Leq (appD (fun _=>true) recs σ0 recs.length) σ→Tr P ops Q Z M N w0 σ0 recs→opsD T G ops nm rest σ k acc K=some y→
  ∃recs' σ',recs'.length=recs.length+rest.length∧Leq (appD (fun _=>true) recs' σ0 recs'.length) σ'∧Tr P ops Q Z M N w0 σ0 recs'∧K σ'=some y
 | [],nm,σ,recs,k,acc,_,hk,hacc,hl,htr,h=>⟨recs,σ,by simp,hl,htr,h⟩
 | o::r,nm,σ,recs,k,acc,hrest,hk,hacc,hl,htr,h=>by
  subst hk;subst hacc;have ho:ops[recs.length]?=some o:=by have:=hrest 0; simpa using this.symm
  have x: ∀(q:Rec) k,r[k]?=ops[(recs++[q]).length+k]? :=fun q k=>by
   have:=hrest (k+1);simp only [List.getElem?_cons_succ] at this;rw [this,List.length_append];congr 1;simp; omega
  unfold opsD at h;split at h
  ·cases h
  ·rename_i aa;simp only [not_or,Bool.not_eq_false] at aa;obtain ⟨z,aj⟩:=aa
   have i: ∀(q:Rec) (σ1:St),q.it.anc=Qef recs.length (recs.map Rec.it).reverse o→StepOk P ops Q Z M N w0 recs.length q σ→Leq (σ.pre q.pe q.pH) σ1→
     (if chkN recs.length (recs.map Rec.it).reverse q.it=true then opsD T G ops (nm+500) r σ1 (recs.length+1) (q.it::(recs.map Rec.it).reverse) K else none)=some y→
     ∃recs' σ',recs'.length=recs.length+(o::r).length∧Leq (appD (fun _=>true) recs' σ0 recs'.length) σ'∧Tr P ops Q Z M N w0 σ0 recs'∧K σ'=some y:=by
    intro q σ1 ab al ak h;split at h
    ·rename_i ac;have ag:=htr.snoc (Qxf ho aj ab) (Qwy ac) (al.same hl.symm)
     obtain ⟨recs',σ',s,h2,h3,h4⟩:=QkF hT hG (recs:=recs++[q]) (k:=recs.length+1) (acc:=q.it::(recs.map Rec.it).reverse) (x q) (by simp) (by simp) (by
      rw [List.length_append,List.length_singleton,QsK];exact (hl.pre q.pe q.pH).trans ak) ag h
     exact ⟨recs',σ',by rw [s]; simp; omega,h2,h3,h4⟩
    ·cases h
   split at h
   ·rename_i d;rw [Qpk] at h;obtain ⟨σ',s,h⟩:=Obs h;obtain ⟨p,n,rfl,u,f⟩:=Qsc s;exact i ⟨itOf ops (Qef recs.length (recs.map Rec.it).reverse o) o σ (σ.pre p n),p,n⟩ _ rfl (QrO hT hG ho z u f fun σ2 _ a w _=>by simp [Region.wanted,d]) (Leq.refl _) h
   ·rename_i j g d;split at h
    ·rename_i t m;split at h
     ·rename_i b l;have am:t∈o.looksAt ops:=by simp [Oper.looksAt,d,m]
      split at h
      ·rename_i e;subst e;have c:Leq σ (σ.set t (.s (.d .bool b))):=Qgd l;rw [Qpk] at h;obtain ⟨σ',s,h⟩:=Obs h;obtain ⟨p,n,rfl,u,f⟩:=Qsc s
       refine i ⟨itOf ops (Qef recs.length (recs.map Rec.it).reverse o) o (σ.set t (.s (.d .bool b))) ((σ.set t (.s (.d .bool b))).pre p n),p,n⟩ _ rfl
        ((QrO (σ:=σ.set t (.s (.d .bool b))) hT hG ho z u f fun σ2 ae a w af=>?_).same c.symm) (c.pre p n) h
       have hy:=Qqh m ((ae t am).trans ((c.env t).trans l)) af;simp [Region.wanted,d,hy]
      ·rename_i e;have ai:b=!g:=by cases b <;> cases g <;> simp_all
       subst ai;have c:Leq σ (σ.set t (.s (.d .bool (!g)))):=Qgd l;refine i ⟨Qhr ops (Qef recs.length (recs.map Rec.it).reverse o) o,preE o.dst (.t []),[]⟩ _ rfl (QmS ho z d m fun he v=>?_) ?_ h
       ·rw [Qqh m (he.trans l) v]; simp
       ·rw [QkT];exact c.pre _ []
     ·rename_i l;refine i ⟨Qhr ops (Qef recs.length (recs.map Rec.it).reverse o) o,preE o.dst (.t []),[]⟩ _ rfl (QmS ho z d m fun he v=>?_) ?_ h
      ·obtain ⟨β,v⟩:=v;rw [Qlx m (he.trans l) v]; simp
      ·rw [QkT];exact (Leq.refl _).pre _ []
     ·cases h
    ·cases h
end
section
open Go Go.RowKit
variable {P:Program} {T:Tab} {G:Env} {w w' w0:World} {Z:Nat→Prop} {M:Nat→Nat→Prop} {N:Nat→Option (Option (Nat×Nat))} {a:Act} {σ σ':St} {β:Qr}
variable {o:Oper} {Q:Exit→Act→World→Prop} {R:Type} {ops:Array Oper} {recs:List Rec}
theorem QaL {α:Type} {p:List (Nat×α)} {n:Nat} (h: ∀q∈p,q.1≠n) (H:List (Nat×α)):look (p++H) n=look H n:=by
 rw [QC,Qdz h]
theorem Qgo {D:Nat→Bool}: ∀{k:Nat},(appD D recs σ k).nt=σ.nt
 | 0=>rfl
 | k+1=>by
  simp only [appD];split
  ·split
   ·exact Qgo
   ·exact Qgo
  ·exact Qgo
section
variable (htr:Tr P ops Q Z M N w0 σ recs)
include htr
theorem Qou {D D':Nat→Bool} {t:Nat}: ∀{k:Nat},(∀j r,j< k→recs[j]?=some r→D j≠D' j→r.it.dst≠some t)→look (appD D recs σ k).env t=look (appD D' recs σ k).env t
 | 0,_=>rfl
 | k+1,h=>by
  have ih:=Qou (k:=k) fun j r i=>h j r (by omega)
  simp only [appD];split
  ·rename_i r b;have f:r.it.dst≠some t→ ∀q∈r.pe,q.1≠t:=fun d q g e=>d (by rw [(htr.step k r b).pe q g,e])
   cases c:D k <;> cases a:D' k
   ·simpa using ih
   ·have:=h k r (by omega) b (by rw [c,a]; simp)
    simp only [Bool.false_eq_true,if_false,if_true,St.pre];rw [QaL (f this)]; exact ih
   ·have:=h k r (by omega) b (by rw [c,a]; simp)
    simp only [Bool.false_eq_true,if_false,if_true,St.pre];rw [QaL (f this)]; exact ih
   ·simp only [if_true,St.pre,QC,ih]
  ·exact ih
theorem Qup {D D':Nat→Bool} {n:Nat}: ∀{k:Nat},(∀j r,j< k→recs[j]?=some r→D j≠D' j→n∉r.it.wr)→look (appD D recs σ k).H n=look (appD D' recs σ k).H n
 | 0,_=>rfl
 | k+1,h=>by
  have ih:=Qup (k:=k) fun j r i=>h j r (by omega)
  simp only [appD];split
  ·rename_i r b;have f:n∉r.it.wr→ ∀q∈r.pH,q.1≠n:=fun d q g e=>d (by rw [←e]; exact (htr.step k r b).pH q g)
   cases c:D k <;> cases a:D' k
   ·simpa using ih
   ·have:=h k r (by omega) b (by rw [c,a]; simp)
    simp only [Bool.false_eq_true,if_false,if_true,St.pre];rw [QaL (f this)]; exact ih
   ·have:=h k r (by omega) b (by rw [c,a]; simp)
    simp only [Bool.false_eq_true,if_false,if_true,St.pre];rw [QaL (f this)]; exact ih
   ·simp only [if_true,St.pre,QC,ih]
  ·exact ih
omit htr in
theorem QjP {i:Nat}: ∀{k:Nat},appD (fun j=>decide (j< i)) recs σ k=appD (fun _=>true) recs σ (min k i)
 | 0=>by simp [appD]
 | k+1=>by
  rcases Nat.lt_or_ge k i with h | h
  ·have e:min (k+1) i=k+1:=by omega
   have b:min k i=k:=by omega
   have a:=QjP (i:=i) (k:=k);rw [b] at a;rw [e];simp only [appD,a,h,decide_true]
  ·have e:min (k+1) i=i:=by omega
   have b:min k i=i:=by omega
   have a:=QjP (i:=i) (k:=k);rw [b] at a;rw [e];have c:decide (k< i)=false:=by simp; omega
   simp only [appD,a,c];split <;> simp
omit htr in
theorem Qgv {α:Type} {A B C:List (Nat×α)} {n:Nat} (h:(∀q∈A,q.1≠n)∨ ∀q∈B,q.1≠n):look (A++(B++C)) n=look (B++(A++C)) n:=by
 rcases h with h | h
 ·rw [QaL h,QC,QC,QaL h]
 ·rw [QC,QaL h,QaL h,QC]
theorem Qov {D:Nat→Bool} {i:Nat} {r:Rec} (hr:recs[i]?=some r) (hDi:D i=false) (hap: ∀k q,recs[k]?=some q→i< k→D k=true→Apart r.it q.it):
  ∀{k:Nat},(k≤i→appD (fun j=>D j || j==i) recs σ k=appD D recs σ k)∧(i< k→Leq ((appD D recs σ k).pre r.pe r.pH) (appD (fun j=>D j || j==i) recs σ k))
 | 0=>⟨fun _=>rfl,fun h=>by omega⟩
 | k+1=>by
  obtain ⟨ih1,ih2⟩:=Qov hr hDi hap (k:=k);refine ⟨fun s=>?_,fun s=>?_⟩
  ·have:(k==i)=false:=by simp; omega
   simp only [appD,ih1 (by omega),this,Bool.or_false]
  ·rcases Nat.lt_or_ge i k with hlt | hge
   ·have b:(k==i)=false:=by simp; omega
    have m:=ih2 hlt;simp only [appD,b,Bool.or_false];split
    ·rename_i q g;cases p:D k with
     | false=>simpa using m
     | true=>
      have d:=hap k q g hlt p;simp only [if_true];refine Leq.trans (σ':=((appD D recs σ k).pre r.pe r.pH).pre q.pe q.pH) ⟨rfl,fun t=>?_,fun n=>?_⟩ (m.pre q.pe q.pH)
      ·simp only [St.pre];by_cases a: ∀z∈r.pe,z.1≠t
       ·exact (Qgv (.inl a)).symm
       ·refine (Qgv (.inr fun z l e=>?_)).symm
        apply a;intro o c f;exact d.h5 t (by rw [(htr.step i r hr).pe o c,f]) (by rw [(htr.step k q g).pe z l,e])
      ·simp only [St.pre];by_cases a: ∀z∈r.pH,z.1≠n
       ·exact (Qgv (.inl a)).symm
       ·refine (Qgv (.inr fun z l e=>?_)).symm
        apply a;intro o c f;exact d.h3 n (by rw [←f]; exact (htr.step i r hr).pH o c) (by rw [←e]; exact (htr.step k q g).pH z l)
    ·exact m
   ·have b:k=i:=by omega
    subst b;simp only [appD,hr,hDi,beq_self_eq_true,Bool.or_true,if_true,Bool.false_eq_true,if_false];rw [ih1 (Nat.le_refl _)];exact Leq.refl _
end
def unl (D:Nat→Bool):Nat→Nat
 | 0=>0
 | k+1=>unl D k+(if D k then 0 else 1)
theorem QsC {D:Nat→Bool} {i:Nat} (hi:D i=false): ∀{k:Nat},(k≤i→unl (fun j=>D j || j==i) k=unl D k)∧(i< k→unl (fun j=>D j || j==i) k+1=unl D k)
 | 0=>⟨fun _=>rfl,fun h=>by omega⟩
 | k+1=>by
  obtain ⟨h1,h2⟩:=QsC hi (k:=k);refine ⟨fun b=>?_,fun b=>?_⟩
  ·have:(k==i)=false:=by simp; omega
   simp only [unl,h1 (by omega),this,Bool.or_false]
  ·rcases Nat.lt_or_ge i k with hlt | hge
   ·have:(k==i)=false:=by simp; omega
    have:=h2 hlt;simp only [unl, *,Bool.or_false];omega
   ·have a:k=i:=by omega
    subst a;simp only [unl,h1 (Nat.le_refl _),hi,beq_self_eq_true,Bool.or_true,if_true,Bool.false_eq_true,if_false]
theorem Qqe {D:Nat→Bool}: ∀{k:Nat},unl D k=0→ ∀j,j< k→D j=true
 | 0,_,j,h=>by omega
 | k+1,h,j,hj=>by
  simp only [unl] at h;rcases Nat.lt_or_ge j k with hlt | hge
  ·exact Qqe (k:=k) (by omega) j hlt
  ·have:j=k:=by omega
   subst this;cases a:D j with
   | true=>rfl
   | false=>rw [a] at h; simp at h
theorem QjO {D:Nat→Bool}: ∀{k:Nat},(∀j,j< k→D j=true)→appD D recs σ k=appD (fun _=>true) recs σ k
 | 0,_=>rfl
 | k+1,h=>by simp only [appD,h k (by omega),QjO (k:=k) fun j hj=>h j (by omega)]
theorem QsJ (htr:Tr P ops Q Z M N w0 σ recs) (hn:recs.length=ops.size)
  (hQ: ∀a w,Rep Z M N w0 (appD (fun _=>true) recs σ ops.size) a w→Q .normal a w): ∀{fuel:Nat} {listed:Array Bool} {D:Nat→Bool} {a:Act} {w:World},(∀j,D j=listed.getD j false)→listed.size=ops.size→
  (∀j r,recs[j]?=some r→D j=true→ ∀m,r.it.anc.testBit m=true→D m=true)→unl D ops.size≤fuel→Rep Z M N w0 (appD D recs σ ops.size) a w→wpAny P .any ops Q fuel listed a w:=by
 intro fuel
 have z: ∀{listed:Array Bool} {D:Nat→Bool},(∀j,D j=listed.getD j false)→listed.size=ops.size→ ∀j,j< ops.size→listed.getD j true=D j:=fun s x j hj=>by
  rw [s j];have:j< _:=(x.symm▸hj:j< _);simp [this]
 have aw: ∀{listed:Array Bool} {D:Nat→Bool},(∀j,D j=listed.getD j false)→listed.size=ops.size→Region.ready .any ops listed=[]→ ∀j,j< ops.size→D j=true:=by
  intro listed D s x d j
  induction j using Nat.strongRecOn with
  | ind j ih=>
   intro hj;cases b:D j with
   | true=>rfl
   | false=>
    exfalso
    have:j∈Region.ready .any ops listed:=by
     obtain ⟨r,a5⟩: ∃r,recs[j]?=some r:=⟨recs[j]'(by omega),List.getElem?_eq_getElem (by omega)⟩
     obtain ⟨o,ho,ai, -⟩:=htr.anc j r a5;refine mem_ready.2 ⟨by rw [z s x j hj,b],o,ho,fun e he hb=>?_⟩
     have f:=ai e.on (List.mem_map.2 ⟨e,List.mem_filter.2 ⟨by simpa using he,hb⟩,rfl⟩)
     rw [←s];exact ih e.on f (by omega)
    rw [d] at this;cases this
 induction fuel with
 | zero=>
  intro listed D a w s x p ao v;have af:=Qqe (D:=D) (k:=ops.size) (by omega)
  refine ⟨?_,hQ a w (by rw [←QjO af]; exact v)⟩
  cases d:Region.ready .any ops listed with
  | nil=>rfl
  | cons j l=>
   exfalso;have hj:j∈Region.ready .any ops listed:=by rw [d]; simp
   obtain ⟨u,o,ho, -⟩:=mem_ready.1 hj;have f:j< ops.size:=(Array.getElem?_eq_some_iff.1 ho).1;rw [z s x j f,af j f] at u;cases u
 | succ fuel ih=>
  intro listed D a w s x p ao v;refine ⟨fun d=>hQ a w (by rw [←QjO (aw s x d)]; exact v),fun i hi=>?_⟩
  obtain ⟨u,o,ho,ae⟩:=mem_ready.1 hi;have f:i< ops.size:=(Array.getElem?_eq_some_iff.1 ho).1;rw [z s x i f] at u;obtain ⟨r,d⟩: ∃r,recs[i]?=some r:=⟨recs[i]'(by omega),List.getElem?_eq_getElem (by omega)⟩
  have aa: ∀m,r.it.anc.testBit m=true→D m=true:=by
   intro m hm;obtain ⟨o',au,ai,h3⟩:=htr.anc i r d;rw [ho] at au;obtain rfl:=Osj au;obtain ⟨e,he,h4⟩:=h3 m hm;obtain ⟨e',a1,rfl⟩:=List.mem_map.1 he;obtain ⟨a2,a3⟩:=List.mem_filter.1 a1;have aq:D e'.on=true:=by rw [s]; exact ae e' (by simpa using a2) a3
   rcases h4 with rfl | ⟨r',am,h5⟩
   ·exact aq
   ·exact p _ r' am aq m h5
  have al: ∀k q,recs[k]?=some q→i< k→D k=true→Apart r.it q.it:=fun k q g a4 a0=>by
   refine htr.pair _ _ _ _ d g a4 ?_;cases hb:q.it.anc.testBit i with
   | false=>rfl
   | true=>have:=p k q g a0 i hb; rw [u] at this; cases this
  have a6:=htr.step i r d
  have ah:appD (fun j=>decide (j< i)) recs σ ops.size=appD (fun _=>true) recs σ i:=by
   rw [QjP]; congr 1; omega
  refine a6.wp (appD D recs σ ops.size) (by rw [Qgo,Qgo]) (fun t ht=>?_) (fun n ar=>?_) a w v _ (fun a' w' am=>?_)
  ·rw [←ah];refine Qou htr fun j q hj g y ak=>?_
   rcases Nat.lt_or_ge j i with c | c
   ·have b:D j=false:=by simpa [c] using y
    have ag:=htr.pair _ _ _ _ g d c (by
     cases hb:r.it.anc.testBit j with
     | false=>rfl
     | true=>rw [aa j hb] at b; cases b)
    exact ag.h4 t ak ht
   ·have aj:decide (j< i)=false:=by simp; omega
    have b:D j=true:=by simpa [aj] using y
    have:i< j:=by
     rcases Nat.lt_or_ge i j with h | h
     ·exact h
     ·have:j=i:=by omega
      subst this; rw [u] at b; cases b
    exact (al j q g this b).h6 t ak ht
  ·rw [←ah];refine Qup htr fun j q hj g y av=>?_
   rcases Nat.lt_or_ge j i with c | c
   ·have b:D j=false:=by simpa [c] using y
    have ag:=htr.pair _ _ _ _ g d c (by
     cases hb:r.it.anc.testBit j with
     | false=>rfl
     | true=>rw [aa j hb] at b; cases b)
    exact ag.h1 n av ar
   ·have aj:decide (j< i)=false:=by simp; omega
    have b:D j=true:=by simpa [aj] using y
    have:i< j:=by
     rcases Nat.lt_or_ge i j with h | h
     ·exact h
     ·have:j=i:=by omega
      subst this; rw [u] at b; cases b
    exact (al j q g this b).h2 n av ar
  ·refine ih (D:=fun j=>D j || j==i) (fun j=>?_) (by simp [x]) (fun j q g b m hm=>?_) ?_ ?_
   ·by_cases c:j=i
    ·subst c;have:j< listed.size:=by omega
     simp [this]
    ·have e1:(j==i)=false:=by simpa using c
     rw [getD_set_ne false (fun e=>c e.symm), ←s j,e1,Bool.or_false]
   ·simp only [Bool.or_eq_true,beq_iff_eq] at b⊢;rcases b with b | rfl
    ·exact .inl (p j q g b m hm)
    ·rw [d] at g; obtain rfl:=Osj g;exact .inl (aa m hm)
   ·have:=(QsC u (k:=ops.size)).2 f;omega
   ·exact am.same ((Qov htr d u al (k:=ops.size)).2 f)
theorem QqX (hT:QR P T=true) (hG:Qci P G) (hm:P.follows .mixedOrders=true) {id nm:Nat} {K:St→Option R} {y:R} (hrep:Rep Z M N w0 σ a w)
  (h:opsD T G ops nm ops.toList σ 0 [] K=some y)
  (hK: ∀σ',K σ'=some y→σ'.nt=σ.nt→ ∀a' w',Rep Z M N w0 σ' a' w'→Q .normal a' w'):(Code.region id ops true).wp P Q a w:=by
 have f:Tr P ops Q Z M N w0 σ []:=⟨fun k r h=>by simp at h,fun k r h=>by simp at h,fun i k x y h=>by simp at h⟩
 obtain ⟨recs,σ',c,e,l,d⟩:=QkF hT hG (σ0:=σ) (recs:=[]) (k:=0) (acc:=[]) (fun k=>by simp) rfl rfl (Leq.refl _) f h
 simp only [List.length_nil,Nat.zero_add,Array.length_toList] at c;refine wp_region_any hm (QsJ l c (fun a' w' m=>?_) (D:=fun _=>false) (fun j=>?_) (by simp) (fun j r _ h=>by cases h) ?_ ?_)
 ·rw [c] at e;exact hK σ' d (by rw [e.nt,Qgo]) a' w' (m.same e)
 ·simp;cases h:(Array.replicate ops.size false)[j]? with
  | none=>rfl
  | some b=>
   have:=Array.getElem?_eq_some_iff.1 h;obtain ⟨n,d⟩:=this;simp at d;simp [←d]
 ·have: ∀k,unl (fun _=>false) k=k:=fun k=>by
   induction k with
   | zero=>rfl
   | succ k g=>simp [unl,g]
  rw [this]; exact Nat.le_refl _
 ·have:appD (fun _=>false) recs σ ops.size=σ:=by
   generalize ops.size=k
   induction k with
   | zero=>rfl
   | succ k g=>
    simp only [appD,g];split <;> simp
  rw [this];obtain ⟨β,hrep⟩:=hrep;exact ⟨β,hrep.drawn _⟩
end
section
open Go Go.RowKit
variable {P:Program} {T:Tab} {G:Env} {w w' w0:World} {Z:Nat→Prop} {M:Nat→Nat→Prop} {N:Nat→Option (Option (Nat×Nat))} {a:Act} {σ:St} {β:Qr} {l:List Nat}
variable {o:Oper} {next:Act→World→Prop} {Q:Exit→Act→World→Prop} {R:Type} {K:St→Option R} {y:R} {qo:Out}
def exOf:Ex→Exit
 | .normal=> .normal
 | .exit i=> .exit i
 | .ret=> .ret
def QrD (Z:Nat→Prop) (M:Nat→Nat→Prop) (N:Nat→Option (Option (Nat×Nat))) (w0:World) (nt:Nat):(os:List (Ex×Shp))→denO os→(Exit→Act→World→Prop)→Prop
 | [],_,_=>True
 | (e,s)::r,.inl x,Q=> ∀a w,Rep Z M N w0 (mk nt s x) a w→Q (exOf e) a w
 | (e,s)::r,.inr z,Q=>QrD Z M N w0 nt r z Q
def QgN (P:Program) (nt:Nat) (c:Code) (cut:Cut):Prop:=
 ∀x y,cut.F x=some y→ ∀Z M N w0 a w Q,Rep Z M N w0 (mk nt cut.inn x) a w→QrD Z M N w0 nt cut.outs y Q→c.wp P Q a w
def QZ (P:Program) (nt:Nat) (L:List (Nat×Cut)):Code→Prop
 | .seq a b=>QZ P nt L a∧QZ P nt L b
 | .cond _ a b=>QZ P nt L a∧QZ P nt L b
 | .block id c=>match look L (100000+id) with
  | some cut=>QgN P nt (.block id c) cut
  | none=>QZ P nt L c
 | .loop c=>match look L (Qbd c) with
  | some cut=>QgN P nt (.loop c) cut
  | none=>True
 | _=>True
theorem QoQ {nt:Nat} {K:Ex→St→Option R} (hK: ∀e σ',K e σ'=some y→σ'.nt=nt→ ∀a' w',Rep Z M N w0 σ' a' w'→Q (exOf e) a' w'): ∀{os:List (Ex×Shp)} {z:denO os},goOn nt K os z=some y→QrD Z M N w0 nt os z Q
 | [],_,_=>trivial
 | (e,s)::r,.inl x,h=>fun a w hr=>hK e _ h rfl a w hr
 | (e,s)::r,.inr z,h=>QoQ hK (os:=r) h
theorem Qip {K:Ex→St→Option R} {c:Code} {cut:Cut} (hc:QgN P σ.nt c cut) (hrep:Rep Z M N w0 σ a w) (h:Qoh K σ (some cut)=some y)
  (hK: ∀e σ',K e σ'=some y→σ'.nt=σ.nt→ ∀a' w',Rep Z M N w0 σ' a' w'→Q (exOf e) a' w'):c.wp P Q a w:=by
 unfold Qoh at h;obtain ⟨x,b,h⟩:=Obs h;obtain ⟨z,d,h⟩:=Obs h;exact hc x z d _ _ _ _ _ _ _ (QvO hrep b) (QoQ hK h)
theorem RepB.known {β:Qr} (h:RepB Z M N w0 β σ a w) {c:Operand} {b:Bool} (hb:ev σ c=some (.s (.d .bool b))):RepB Z M N w0 β (σ.known c b) a w:=by
 cases c with
 | tmp t=>
  simp only [ev] at hb;split at hb
  ·rename_i x i;obtain rfl:=Osj hb;obtain ⟨d,e⟩:=h.env t _ i;exact h.know d e
  ·cases hb
  ·cases hb
 | const v=>exact h
 | func f=>exact h
 | global g=>exact h
theorem QcQ (hT:QR P T=true) (hG:Qci P G) {L:List (Nat×Cut)}: ∀{c:Code} {σ:St} {a:Act} {w:World} {K:Ex→St→Option R} {Q:Exit→Act→World→Prop},QZ P σ.nt L c→Rep Z M N w0 σ a w→run T G L c σ K=some y→
  (∀e σ',K e σ'=some y→σ'.nt=σ.nt→ ∀a' w',Rep Z M N w0 σ' a' w'→Q (exOf e) a' w')→c.wp P Q a w:=by
 intro c
 induction c with
 | skip=>intro σ a w K Q _ d h f; exact wp_skip (f .normal σ h rfl a w d)
 | region v ad t=>
  intro σ a w K Q _ d h f;simp only [run] at h;split at h
  ·rename_i q;subst q;exact QqX hT hG (QpW hT) d h fun σ' l g a' w' j=>f .normal σ' l g a' w' j
  ·rename_i q;have:t=false:=by simpa using q
   subst this;exact wp_region_list (Qfj hT hG d h fun σ' l g a' w' j=>f .normal σ' l g a' w' j)
 | seq c1 c2 r s=>
  intro σ a w K Q k d h f;simp only [run] at h;refine wp_seq (r k.1 d h ?_);intro e σ' l g a' w' j;cases e with
  | normal=>exact s (by rw [g]; exact k.2) j l fun e o p n=>f e o p (by rw [n,g])
  | exit i=>exact f (.exit i) σ' l g a' w' j
  | ret=>exact f .ret σ' l g a' w' j
 | cond c c1 c2 r s=>
  intro σ a w K Q k d h f;simp only [run] at h;split at h
  ·rename_i b u;obtain ⟨β,j⟩:=d;have hv:=Qee (Qf j u);refine wp_cond hv ?_;have g: ∀b,(σ.known c b).nt=σ.nt:=fun b=>by cases c <;> rfl
   split at h
   ·rename_i e; subst e; exact r (by rw [g]; exact k.1) ⟨β,j.known u⟩ h fun e o p n=>f e o p (by rw [n,g])
   ·rename_i e;have:b=false:=by simpa using e
    subst this;exact s (by rw [g]; exact k.2) ⟨β,j.known u⟩ h fun e o p n=>f e o p (by rw [n,g])
  ·cases h
 | block v c z=>
  intro σ a w K Q k d h f;simp only [run] at h;simp only [QZ] at k;split at h
  ·rename_i x m;rw [m] at k;exact Qip k d h f
  ·rename_i m;rw [m] at k;refine wp_block (z k d h ?_);intro e σ' l g a' w' j;cases e with
   | normal=>exact f .normal σ' l g a' w' j
   | exit i=>
    simp only at l;simp only [exOf,Exit.inBlock];split at l
    ·rename_i e; rw [if_pos e]; exact f .normal σ' l g a' w' j
    ·rename_i e; rw [if_neg e]; exact f (.exit i) σ' l g a' w' j
   | ret=>exact f .ret σ' l g a' w' j
 | loop c z=>
  intro σ a w K Q k d h f;simp only [run] at h;simp only [QZ] at k;cases m:look L (Qbd c) with
  | none=>rw [m] at h; cases h
  | some x=>
   rw [m] at h k;exact Qip k d h f
 | exit v=>intro σ a w K Q _ d h f; exact wp_exit (f (.exit v) σ h rfl a w d)
 | ret=>intro σ a w K Q _ d h f; exact wp_ret (f .ret σ h rfl a w d)
 | _=>intro σ a w K Q _ d h f; simp only [run] at h; cases h
end
section
open Go Go.RowKit
variable {P:Program} {T:Tab} {G:Env} {L:List (Nat×Cut)} {w w' w0:World} {Z S Q0:Nat→Prop} {M:Nat→Nat→Prop} {N:Nat→Option (Option (Nat×Nat))} {a:Act} {σ:St} {β:Qr} {B B':Nat→Option Pl}
variable {Q:Exit→Act→World→Prop} {nt:Nat}
def QgU (inn:Shp) (outs:List (Ex×Shp)) (rec:inn.den→Option (denO outs)) (e:Ex) (σ:St):Option (denO outs):=
 match e with
 | .normal=>(un inn σ).bind rec
 | e=>outK outs e σ
def Qb {α γ:Type} (step:(α→Option γ)→α→Option γ):Nat→α→Option γ
 | 0,_=>none
 | n+1,x=>step (Qb step n) x
theorem QdS: ∀{os:List (Ex×Shp)} {e:Ex} {σ:St} {z:denO os},outK os e σ=some z→QrD Z M N w0 σ.nt os z Q→Rep Z M N w0 σ a w→Q (exOf e) a w
 | [],_,_,_,h,_,_=>by simp [outK] at h
 | (e',s)::r,e,σ,z,h,ho,hr=>by
  simp only [outK] at h;split at h
  ·rename_i he;subst he;split at h
   ·rename_i x hx;obtain rfl:=Osj h;exact ho a w (QvO hr hx)
   ·cases h
  ·split at h
   ·rename_i y b;obtain rfl:=Osj h;exact QdS (os:=r) b ho hr
   ·cases h
theorem Qd (hT:QR P T=true) (hG:Qci P G) {c:Code} {inn:Shp} {outs:List (Ex×Shp)} {step:(inn.den→Option (denO outs))→inn.den→Option (denO outs)}
  (hs: ∀rec x,run T G L c (mk nt inn x) (QgU inn outs rec)=step rec x) (hL:QZ P nt L c) (fuel:inn.den→Nat):
  QgN P nt (.loop c) { inn,outs,F:=fun x=>Qb step (fuel x) x }:=by
 intro x y h Z M N s a w Q m g;refine wp_loop_rounds (fuel x) ?_;simp only at h;generalize fuel x=n at h
 induction n generalizing x a w with
 | zero=>cases h
 | succ n o=>
  rw [rounds_succ];simp only [Qb] at h;rw [←hs] at h;refine QcQ hT hG (K:=QgU inn outs (Qb step n)) hL m h ?_;intro e r f b k p d;have b:r.nt=nt:=b;cases e with
  | normal=>
   obtain ⟨q,j,l⟩:=Obs f;have:=QvO d j;rw [b] at this;exact o q k p this l
  | exit i=>exact QdS (Q:=Q) (e:= .exit i) f (by rw [b]; exact g) d
  | ret=>exact QdS (Q:=Q) (e:= .ret) f (by rw [b]; exact g) d
def Qqn (id:Nat) (outs:List (Ex×Shp)) (e:Ex) (σ:St):Option (denO outs):=
 match e with
 | .normal=>outK outs .normal σ
 | .exit i=>if i=id then outK outs .normal σ else outK outs (.exit i) σ
 | .ret=>outK outs .ret σ
theorem QsO (hT:QR P T=true) (hG:Qci P G) {id:Nat} {c:Code} {inn:Shp} {outs:List (Ex×Shp)} {F:inn.den→Option (denO outs)} (hs: ∀x,run T G L c (mk nt inn x) (Qqn id outs)=F x) (hL:QZ P nt L c):
  QgN P nt (.block id c) { inn,outs,F }:=by
 intro x y h Z M N n a w Q j g;simp only at h;rw [←hs] at h;refine wp_block (QcQ hT hG hL j h ?_);intro e k d f l m b;have f:k.nt=nt:=f;cases e with
 | normal=>exact QdS (Q:=Q) (e:= .normal) d (by rw [f]; exact g) b
 | exit i=>
  simp only [Qqn] at d;simp only [exOf,Exit.inBlock];split at d
  ·rename_i e; rw [if_pos e]; exact QdS (Q:=Q) (e:= .normal) d (by rw [f]; exact g) b
  ·rename_i e; rw [if_neg e]; exact QdS (Q:=Q) (e:= .exit i) d (by rw [f]; exact g) b
 | ret=>exact QdS (Q:=Q) (e:= .ret) d (by rw [f]; exact g) b
end
section
open Go Go.RowKit
variable {P:Program} {T:Tab} {G:Env} {L:List (Nat×Cut)} {w w' w0:World} {Z S Qp:Nat→Prop} {M:Nat→Nat→Prop} {N:Nat→Option (Option (Nat×Nat))} {a:Act} {σ:St} {β:Qr} {B B':Nat→Option Pl} {H:Heap}
variable {Q:Exit→Act→World→Prop} {nt:Nat}
theorem QeQ {c:CK} {x:c.den} {v:Value} {F:List Nat} (h:Qds w S Qp noB c x v F):Qds w S Qp B c x v F:=by
 cases c with
 | ptr o e=>obtain ⟨⟨b,d,a,_⟩,_⟩:=h; cases a
 | ref o=>obtain ⟨⟨q,n,a,_⟩,_⟩:=h; cases a
 | _=>exact h
theorem QiR: ∀{cs:List CK} {x:denC cs} {vs:List Value} {F:List Nat},QbC w S Qp noB cs x vs F→QbC w S Qp B cs x vs F
 | [],_,_,_,h=>h
 | c::r,_,_,_,⟨v,vs',F1,F2,h1,h2,h3,h4⟩=>⟨v,vs',F1,F2,h1,h2,QeQ h3,QiR h4⟩
theorem QdC {nm:Nat} {z:List (Nat×TypeId×Ty)} {d:denW z} {Fz:List Nat} (hz:QhF w S B z d Fz): ∀{cs:List CK} {nm:Nat} {x:denC cs} {us:List Value} {F:List Nat},AggR w S Qp B nm cs x us F→
  QbC w S Qp B (QeJ nm cs) (refX nm cs x) us []∧QhF w S B (Qco nm z cs) (rowX nm d cs x) (F++Fz)
 | [],_,_,_,_,⟨h1,h2⟩=>by subst h1; subst h2; exact ⟨⟨rfl,rfl⟩,hz⟩
 | .own e t::r,nm,x,_,_,⟨v,vs',q,F2,h1,h2,h3,h4,h5,h6⟩=>by
  subst h1; subst h2;have ih:=QdC (nm:=nm) hz h6;exact ⟨⟨v,vs',[],[],rfl,rfl,⟨⟨q,_,h3,h5⟩,rfl⟩,ih.1⟩,⟨q,F2++Fz,by rw [List.append_assoc],h3,h4,ih.2⟩⟩
 | .dat t::r,nm,x,_,_,⟨v,vs',h1,h2,h3⟩=>by
  subst h1;have ih:=QdC (nm:=nm) hz h3;exact ⟨⟨v,vs',[],[],rfl,rfl,QeQ h2,ih.1⟩,ih.2⟩
 | .pd t::r,nm,x,_,_,⟨v,vs',h1,h2,h3⟩=>by
  subst h1;have ih:=QdC (nm:=nm) hz h3;exact ⟨⟨v,vs',[],[],rfl,rfl,QeQ h2,ih.1⟩,ih.2⟩
 | .fn f ts::r,nm,x,_,_,⟨v,vs',h1,h2,h3⟩=>by
  subst h1;have ih:=QdC (nm:=nm) hz h3;exact ⟨⟨v,vs',[],[],rfl,rfl,QeQ h2,ih.1⟩,ih.2⟩
 | .any::r,nm,x,_,_,⟨v,vs',h1,h3⟩=>by
  subst h1;have ih:=QdC (nm:=nm) hz h3;exact ⟨⟨v,vs',[],[],rfl,rfl,rfl,ih.1⟩,ih.2⟩
 | .ptr _ _::_,_,_,_,_,h=>h.elim
 | .ref _::_,_,_,_,_,h=>h.elim
 | .mp::_,_,_,_,_,h=>h.elim
 | .bx _::_,_,_,_,_,h=>h.elim
 | .vw _ _::_,_,_,_,_,h=>h.elim
theorem Qcl: ∀{ps:List PK} {i:Nat} {x:denP ps} {vs:List Value} {F:List Nat},Qda w S Qp B i ps x vs F→(∀k,k< vs.length→i+k< a.tmps.size∧a.tmps.getD (i+k) undef=vs.getD k undef)→
  Qhj w S Qp B a (QfV i ps) (QgZ i ps x) []∧vs.length=ps.length∧ ∃F2 F3,Qhi w S Qp B (QaS i ps) (QgX i ps x) F2∧QhF w S B (QbB i ps) (QgY i ps x) F3∧F.Perm (F2++F3)
 | [],_,_,_,_,⟨h1,h2⟩,_=>by subst h1; subst h2; exact ⟨rfl,rfl,[],[],rfl,rfl,List.Perm.refl _⟩
 | k::r,i,x,vs,F,h,ht=>by
  have tail: ∀{v:Value} {vs':List Value},vs=v::vs'→ ∀k,k< vs'.length→(i+1)+k< a.tmps.size∧a.tmps.getD ((i+1)+k) undef=vs'.getD k undef:=by
   intro v vs' e k hk;have:=ht (k+1) (by rw [e]; simpa using hk)
   rw [e] at this;rw [show i+1+k=i+(k+1) by omega]
   exact ⟨this.1,by rw [this.2]; rfl⟩
  have d: ∀{v:Value} {vs':List Value},vs=v::vs'→i< a.tmps.size∧a.tmps.getD i undef=v:=by
   intro v vs' e;have:=ht 0 (by rw [e]; simp)
   rw [e] at this;exact ⟨this.1,this.2⟩
  cases k with
  | val t=>
   obtain ⟨v,vs',h1,h2,g⟩:=h;obtain ⟨j,l,F2,F3,m,n,o⟩:=Qcl g (tail h1);refine ⟨⟨[],[],rfl,(d h1).1,⟨by rw [(d h1).2]; exact h2,rfl⟩,j⟩,by rw [h1]; simp [l],F2,F3,m,n,o⟩
  | ptr t=>
   obtain ⟨v,vs',h1,h2,g⟩:=h;obtain ⟨j,l,F2,F3,m,n,o⟩:=Qcl g (tail h1);exact ⟨⟨[],[],rfl,(d h1).1,⟨by rw [(d h1).2]; exact h2,rfl⟩,j⟩,by rw [h1]; simp [l],F2,F3,m,n,o⟩
  | fn f ts=>
   obtain ⟨v,vs',h1,⟨us,h2⟩,g⟩:=h;obtain ⟨j,l,F2,F3,m,n,o⟩:=Qcl g (tail h1);exact ⟨⟨[],[],rfl,(d h1).1,⟨⟨us,by rw [(d h1).2]; exact h2.1,h2.2⟩,rfl⟩,j⟩,by rw [h1]; simp [l],F2,F3,m,n,o⟩
  | box ci co=>
   obtain ⟨v,vs',p,F4,b,s,c,e,h1,h2,g,u,y,z,h7,h8,h9⟩:=h;obtain ⟨j,l,F2,F3,m,n,o⟩:=Qcl h9 (tail h1);refine ⟨⟨[],[],rfl,(d h1).1,⟨⟨b,s,g,by rw [(d h1).2]; exact u⟩,rfl⟩,j⟩,by rw [h1]; simp [l],p++F2,F3,?_,n,?_⟩
   ·exact ⟨p,F2,b,s,c,e,rfl,g,y,z,QiR h7,h8,m⟩
   ·rw [h2,List.append_assoc]; exact o.append_left p
  | row e t=>
   obtain ⟨v,vs',q,F4,h1,h2,g,u,y,z⟩:=h;obtain ⟨j,l,F2,F3,m,n,o⟩:=Qcl z (tail h1);refine ⟨⟨[],[],rfl,(d h1).1,⟨⟨q,_,g,by rw [(d h1).2]; exact y⟩,rfl⟩,j⟩,by rw [h1]; simp [l],F2,blkq q++F3,m,?_,?_⟩
   ·exact ⟨q,F3,rfl,g,u,n⟩
   ·rw [h2];refine (o.append_left (blkq q)).trans ?_;rw [←List.append_assoc, ←List.append_assoc];exact List.perm_append_comm.append_right F3
  | agg cs=>
   obtain ⟨v,vs',us,p,F4,h1,h2,g,u,y⟩:=h;obtain ⟨j,l,F2,F3,m,n,o⟩:=Qcl y (tail h1);have:=QdC (nm:=0) n u;refine ⟨⟨[],[],rfl,(d h1).1,⟨us,by rw [(d h1).2]; exact g,this.1⟩,j⟩,by rw [h1]; simp [l],F2,p++F3,m,this.2,?_⟩
   rw [h2];refine (o.append_left p).trans ?_;rw [←List.append_assoc, ←List.append_assoc];exact List.perm_append_comm.append_right F3
theorem Qia: ∀{ps:List PK} {i o:Nat},o∈(QaS i ps).map (·.1)→9000000≤o
 | [],_,_,h=>by simp [QaS] at h
 | k::r,i,o,h=>by
  cases k <;> simp only [QaS,List.map_cons,List.mem_cons] at h <;> first | exact Qia h | skip
  rcases h with rfl | h
  ·omega
  ·exact Qia h
theorem QkJ {z:List (Nat×TypeId×Ty)}: ∀{cs:List CK} {nm o:Nat},o∈(Qco nm z cs).map (·.1)→nm≤o∨o∈z.map (·.1)
 | [],_,_,h=> .inr h
 | c::r,nm,o,h=>by
  cases c <;> simp only [Qco,List.map_cons,List.mem_cons] at h <;> first | (rcases QkJ h with h | h; exact .inl (by omega); exact .inr h) | skip
  rcases h with rfl | h
  ·exact .inl (Nat.le_refl _)
  ·rcases QkJ h with h | h
   ·exact .inl (by omega)
   ·exact .inr h
theorem Qib: ∀{ps:List PK} {i o:Nat},o∈(QbB i ps).map (·.1)→9000000≤o
 | [],_,_,h=>by simp [QbB] at h
 | k::r,i,o,h=>by
  cases k <;> simp only [QbB,List.map_cons,List.mem_cons] at h <;> first | exact Qib h | skip
  ·rcases h with rfl | h
   ·omega
   ·exact Qib h
  ·rcases QkJ h with h | h
   ·omega
   ·exact Qib h
theorem QqY (hT:QR P T=true) (hrep:RepB Z M N w0 β σ a w) {r:ResultVar} {s:SV} (h:resV T σ r=some s):
  ∃v,((match r with | .tmp t=>pure (a.tmps.getD t undef) | .cell x t=>do loadVar t (←asAddr (a.tmps.getD x undef)):Sem Value)).run P w= .ok v w∧VV w (RO Z β σ.H) β σ.H s v:=by
 cases r with
 | tmp t=>
  simp only [resV] at h;split at h
  ·rename_i v y;obtain rfl:=Osj h;exact ⟨_,rfl,(hrep.env t _ y).2⟩
  ·cases h
 | cell x t=>
  simp only [resV] at h;split at h
  ·rename_i r b m hr hx;split at h
   ·rename_i cs hb;split at h
    ·rename_i n;obtain ⟨i,d,z,p⟩:=Qz hT hr;obtain ⟨g,f,ad,y⟩:=VV_p (w:=w) (S:=RO Z β σ.H) (hrep.env x _ hx).2 hb;obtain ⟨g',aj,c,e,o,hh,ab,j⟩:=hrep.obj b _ hb;rw [ad] at o;simp only [Oie,Pmi] at o;obtain ⟨rfl,rfl⟩:=o;obtain ⟨ae,af,ag⟩:=Qkx ab j n;have q:=Qcq (P:=P) p hh ae af;refine ⟨_,by simp only [y]; simp [asAddr,q]; rfl,?_⟩
     split at h
     ·rename_i l;obtain rfl:=Osj h;rw [if_pos l];exact ⟨_,rfl,ag⟩
     ·rename_i l;rw [if_neg l];split at h
      ·rename_i c1 ac;obtain rfl:=Osj h;obtain ⟨u,k,ai⟩:=j.get ac;have h1:=Qlg (by simpa using l)
       rw [h1];rw [List.getElem?_take] at k;split at k
       ·rw [List.getElem?_drop] at k
        have:c.toList.drop (f+m)=u::c.toList.drop (f+m+1):=by
         obtain ⟨ah,he⟩:=List.getElem?_eq_some_iff.1 k;rw [List.drop_eq_getElem_cons ah,he]
        rw [this];exact Qbk ai.1
       ·cases k
      ·cases h
    ·cases h
   ·cases h
  ·cases h
theorem Qjq (hT:QR P T=true) (hrep:RepB Z M N w0 β σ a w): ∀{rs:List ResultVar} {ss:List SV},mapO (resV T σ) rs=some ss→
  ∃vs,(rs.mapM fun r=>(match r with | .tmp t=>pure (a.tmps.getD t undef) | .cell x t=>do loadVar t (←asAddr (a.tmps.getD x undef)):Sem Value)).run P w= .ok vs w∧All2 (VV w (RO Z β σ.H) β σ.H) ss vs
 | [],_,h=>by
  simp only [mapO,Oie] at h;subst h;exact ⟨[],by simp,.nil⟩
 | r::rs,_,h=>by
  simp only [mapO] at h;split at h
  ·rename_i s hs;split at h
   ·rename_i z hz;obtain rfl:=Osj h;obtain ⟨v,b,c⟩:=QqY hT hrep hs;obtain ⟨vs,d,e⟩:=Qjq hT hrep hz;exact ⟨v::vs,by rw [List.mapM_cons]; simp only [Sem.run_bind,b,Result.andThen_ok,d,Sem.run_pure],.cons c e⟩
   ·cases h
  ·cases h
theorem Qer (hT:QR P T=true) (hrep:RepB Z M N w0 β σ a w) {fn:Func} {ss:List SV} (h:mapO (resV T σ) fn.results.toList=some ss):
  ∃vs,(results fn a.tmps).run P w= .ok (tupV vs) w∧All2 (VV w (RO Z β σ.H) β σ.H) ss vs:=by
 obtain ⟨vs,b,c⟩:=Qjq hT hrep h;refine ⟨vs,?_,c⟩;unfold results;rw [Array.mapM_eq_mapM_toList];simp only [Sem.run_bind,Sem.run_map]
 erw [b]
 simp only [Result.andThen_ok]
 match vs with
 | []=>rfl
 | [v]=>rfl
 | v::v'::vs=>simp [tupV]
end
section
open Go Go.RowKit
variable {P:Program} {T:Tab} {G:Env} {L:List (Nat×Cut)} {w w' w0:World} {Z S S' Qp:Nat→Prop} {M:Nat→Nat→Prop} {N:Nat→Option (Option (Nat×Nat))} {a:Act} {σ:St} {β:Qr} {B B':Nat→Option Pl} {H:Heap} {fr l:List Nat}
variable {Q:Exit→Act→World→Prop} {nt:Nat}
theorem QlM (hS:Mon w S S') {c:CK} {x:c.den} {v:Value} {F:List Nat} (h:Qds w S Qp B c x v F) (hc:resC c=true):Qds w S' (fun _=>False) noB c x v F:=by
 cases c with
 | dat t=>obtain ⟨⟨a,b⟩,d⟩:=h; exact ⟨⟨a,hS.rp b⟩,d⟩
 | own e t=>obtain ⟨q,a,b⟩:=h; exact ⟨q,RowO.mon hS a,b⟩
 | vw e t=>obtain ⟨q,a,b⟩:=h; exact ⟨q,RowO.mon hS a,b⟩
 | fn f i=>
  obtain ⟨⟨j,e,h⟩,g⟩:=h;cases i with
  | nil=>exact ⟨⟨j,e,h⟩,g⟩
  | cons t r=>simp [resC] at hc
 | any=>exact h
 | _=>simp [resC] at hc
theorem QeR (hS:Mon w S S'): ∀{cs:List CK} {x:denC cs} {vs:List Value} {F:List Nat},QbC w S Qp B cs x vs F→cs.all resC=true→QbC w S' (fun _=>False) noB cs x vs F
 | [],_,_,_,h,_=>h
 | c::r,_,_,_,⟨v,vs',F1,F2,h1,h2,h3,h4⟩,hc=>by
  simp only [List.all_cons,Bool.and_eq_true] at hc;exact ⟨v,vs',F1,F2,h1,h2,QlM hS h3 hc.1,QeR hS h4 hc.2⟩
theorem QvZ (hS:Mon w S S') {k:VK} {x:k.den} {v:Value} {F:List Nat} (h:VKR w S Qp B k x v F) (hc:resK k=true):VKR w S' (fun _=>False) noB k x v F:=by
 cases k with
 | b a=>simp [resK] at hc
 | g a=>obtain ⟨m,e,h⟩:=h; exact ⟨m,e,QeR hS h hc⟩
 | s c=>
  by_cases d: ∃t,c= .dat t
  ·obtain ⟨t,rfl⟩:=d;obtain ⟨⟨a,i,j⟩,l⟩:=h;exact ⟨⟨a,i,hS.rp j⟩,l⟩
  ·have f: ∀t,c≠ .dat t:=fun t e=>d ⟨t,e⟩
   exact (QiU f).2 (QlM hS ((QiU f).1 h) hc)
theorem Qop (hS:Mon w S S'): ∀{ks:List VK} {x:denV ks} {vs:List Value} {F:List Nat},VKsR w S Qp B ks x vs F→ks.all resK=true→VKsR w S' (fun _=>False) noB ks x vs F
 | [],_,_,_,h,_=>h
 | c::r,_,_,_,⟨v,vs',F1,F2,h1,h2,h3,h4⟩,hc=>by
  simp only [List.all_cons,Bool.and_eq_true] at hc;exact ⟨v,vs',F1,F2,h1,h2,QvZ hS h3 hc.1,Qop hS h4 hc.2⟩
theorem Qie: ∀{cs:List CK},cs.all resC=true→cs.all (ptrC [])=true
 | [],_=>rfl
 | c::r,h=>by
  simp only [List.all_cons,Bool.and_eq_true] at h⊢;exact ⟨by cases c <;> first | rfl | simp [resC] at h,Qie h.2⟩
theorem QvA {k:VK} (h:resK k=true):ptrV [] k=true:=by
 cases k with
 | b a=>simp [resK] at h
 | g a=>exact Qie h
 | s c=>cases c <;> first | rfl | simp [resK,resC] at h
theorem QmN: ∀{ks:List VK},ks.all resK=true→ks.all (ptrV [])=true
 | [],_=>rfl
 | c::r,h=>by
  simp only [List.all_cons,Bool.and_eq_true] at h⊢;exact ⟨QvA h.1,QmN h.2⟩
theorem Qio {o:Nat} {e:TypeId} {t:Ty} {ys:List (den t)} (h:unR H o e t=some ys): ∃e',QbM e' e=true∧look H o=some (.row e' t ys):=by
 unfold unR at h;split at h
 ·rename_i e' g j f;split at h
  ·rename_i d;split at h
   ·rename_i i c;obtain rfl:=Osj h;obtain ⟨a,b⟩:=QV c;simp only [Ty.slice.injEq] at a;subst a;simp only at b;subst b;exact ⟨_,d,f⟩
   ·cases h
  ·cases h
 ·cases h
theorem Qba: ∀{cs:List CK} {nm:Nat} {x:denC cs} {y:Qcv cs} {l1:List Nat},unRs H nm cs x=some (y,l1)→Rows H l1
 | [],_,_,_,_,h=>by
  simp only [unRs,Oie,Pmi] at h;rw [←h.2]; exact fun o ho=>by simp at ho
 | .own e t::r,nm,x,_,_,h=>by
  simp only [unRs] at h;split at h
  ·rename_i y z hy hz;simp only [Oie,Pmi] at h;rw [←h.2];intro o ho;rcases List.mem_cons.1 ho with rfl | ho
   ·obtain ⟨e',_,hk⟩:=Qio hy; exact ⟨_,hk,rfl⟩
   ·exact Qba hz o ho
  ·cases h
 | .dat _::r,_,_,_,_,h=>Qba (cs:=r) h
 | .ptr _ _::r,_,_,_,_,h=>Qba (cs:=r) h
 | .ref _::r,_,_,_,_,h=>Qba (cs:=r) h
 | .pd _::r,_,_,_,_,h=>Qba (cs:=r) h
 | .fn _ _::r,_,_,_,_,h=>Qba (cs:=r) h
 | .mp::r,_,_,_,_,h=>Qba (cs:=r) h
 | .bx _::r,_,_,_,_,h=>Qba (cs:=r) h
 | .vw _ _::r,_,_,_,_,h=>Qba (cs:=r) h
 | .any::r,_,_,_,_,h=>Qba (cs:=r) h
theorem Qec: ∀{ps:List PK} {i:Nat} {x:denP ps} {y:denQ ps} {l1:List Nat},unA H i ps x=some (y,l1)→Rows H l1∧ ∀p∈QaS i ps, ∃cs,look H p.1=some (.box cs)∧cs.length=p.2.length
 | [],_,_,_,_,h=>by
  simp only [unA,Oie,Pmi] at h;rw [←h.2]; exact ⟨fun o ho=>by simp at ho,fun p hp=>by simp [QaS] at hp⟩
 | .val _::r,_,_,_,_,h=>Qec (ps:=r) h
 | .ptr _::r,_,_,_,_,h=>Qec (ps:=r) h
 | .fn _ _::r,_,_,_,_,h=>Qec (ps:=r) h
 | .box ci co::r,i,x,_,_,h=>by
  simp only [unA] at h;split at h
  ·rename_i cs hk;split at h
   ·rename_i hl;split at h
    ·rename_i q hq;split at h
     ·rename_i q' hq';simp only [Oie,Pmi] at h;rw [←h.2];have ih:=Qec (ps:=r) hq';refine ⟨(Qcs hq).1.append ih.1,fun p hp=>?_⟩
      simp only [QaS,List.mem_cons] at hp;rcases hp with rfl | hp
      ·exact ⟨cs,hk,hl.1⟩
      ·exact ih.2 p hp
     ·cases h
    ·cases h
   ·cases h
  ·cases h
 | .row e t::r,i,x,_,_,h=>by
  simp only [unA] at h;split at h
  ·rename_i y q' a hq';simp only [Oie,Pmi] at h;rw [←h.2];have ih:=Qec (ps:=r) hq';refine ⟨fun o ho=>?_,ih.2⟩
   rcases List.mem_cons.1 ho with rfl | ho
   ·obtain ⟨b,_,hk⟩:=Qio a; exact ⟨_,hk,rfl⟩
   ·exact ih.1 o ho
  ·cases h
 | .agg cs::r,i,x,_,_,h=>by
  simp only [unA] at h;split at h
  ·rename_i y q' a hq';simp only [Oie,Pmi] at h;rw [←h.2];have ih:=Qec (ps:=r) hq';exact ⟨(Qba a).append ih.1,ih.2⟩
  ·cases h
def Qqk (β:Qr) (B:Nat→Option Pl):Prop:=(∀o b base,B o=some (.box b base)→β o=some (b,base))∧ ∀o q n,B o=some (.row q n)→β o=q
theorem QcV {w1:World} {S1 Q1:Nat→Prop} (hO:Owns w S β (frz H fr)) (hfr: ∀o,o∈l→o∉fr) (hpin:Qqk β B): ∀{cs:List CK} {nm:Nat} {x:denC cs} {y:Qcv cs} {l1:List Nat} {us:List Value} {F:List Nat},
  AggR w1 S1 Q1 B nm cs x us F→unRs H nm cs x=some (y,l1)→(∀o∈l1,o∈l)→QdM cs x y=true→CwR w S B nm cs y us (blks β l1)
 | [],_,_,_,_,_,_,⟨h1,_⟩,h,_,_=>by
  simp only [unRs,Oie,Pmi] at h;rw [←h.2]; exact ⟨h1,rfl⟩
 | .own e t::r,nm,x,_,_,_,_,⟨v,vs',q,F2,e1,e2,e3,e4,e5,e6⟩,h,hl,hln=>by
  simp only [unRs] at h;split at h
  ·rename_i y z hy hz;simp only [Oie,Pmi] at h;obtain ⟨h1,h2⟩:=h;subst h1; subst h2; subst e1;obtain ⟨i,c,d⟩:=Qio hy;simp only [QdM,Bool.and_eq_true,beq_iff_eq] at hln;obtain ⟨f,hln⟩:=hln;have b:=hpin.2 nm q _ e3;have a:=QaE (l:=fr) d;rw [if_neg (hfr nm (hl nm (by simp)))] at a
   refine ⟨v,vs',q,blks β z.2,rfl,by simp [blks,b],?_,⟨_,e3⟩,QcV hO hfr hpin e6 hz (fun o g=>hl o (List.mem_cons_of_mem _ g)) hln⟩
   rw [←b]; exact QbN c (hO nm _ a)
  ·cases h
 | .dat _::r,_,_,_,_,_,_,⟨v,vs',e1,_,e3⟩,h,hl,hln=>⟨v,vs',e1,QcV hO hfr hpin e3 h hl hln⟩
 | .pd _::r,_,_,_,_,_,_,⟨v,vs',e1,_,e3⟩,h,hl,hln=>⟨v,vs',e1,QcV hO hfr hpin e3 h hl hln⟩
 | .fn _ _::r,_,_,_,_,_,_,⟨v,vs',e1,_,e3⟩,h,hl,hln=>⟨v,vs',e1,QcV hO hfr hpin e3 h hl hln⟩
 | .any::r,_,_,_,_,_,_,⟨v,vs',e1,e3⟩,h,hl,hln=>⟨v,vs',e1,QcV hO hfr hpin e3 h hl hln⟩
 | .ptr _ _::_,_,_,_,_,_,_,h,_,_,_=>h.elim
 | .ref _::_,_,_,_,_,_,_,h,_,_,_=>h.elim
 | .mp::_,_,_,_,_,_,_,h,_,_,_=>h.elim
 | .bx _::_,_,_,_,_,_,_,h,_,_,_=>h.elim
 | .vw _ _::_,_,_,_,_,_,_,h,_,_,_=>h.elim
theorem QcU {w1:World} {S1 Q1:Nat→Prop} (hO:Owns w S β (frz H fr)) (hQ: ∀b, ¬Own β (frz H fr) b→Qp b) (hS:Mon w S S') (hS2: ∀e t xs q,RowO w S e t xs q→RowO w S' e t xs q) (hfr: ∀o,o∈l→o∉fr) (hpin:Qqk β B) (hc: ∀sh,Cuts H fr l sh):
  ∀{ps:List PK} {i:Nat} {x:denP ps} {y:denQ ps} {l1:List Nat} {vs:List Value} {F:List Nat},Qda w1 S1 Q1 B i ps x vs F→unA H i ps x=some (y,l1)→(∀o∈l1,o∈l)→QoM H l i ps=true→ps.all QdP=true→lenQ ps x y=true→Qex w S' B i ps y vs (blks β l1)
 | [],_,_,_,_,_,_,⟨h1,_⟩,h,_,_,_,_=>by
  simp only [unA,Oie,Pmi] at h;rw [←h.2]; exact ⟨h1,rfl⟩
 | .val _::r,_,_,_,_,_,_,⟨v,vs',e1,_,e3⟩,h,hl,hf,hp,hln=>by
  simp only [List.all_cons,Bool.and_eq_true] at hp;exact ⟨v,vs',e1,QcU hO hQ hS hS2 hfr hpin hc e3 h hl hf hp.2 hln⟩
 | .ptr _::r,_,_,_,_,_,_,⟨v,vs',e1,_,e3⟩,h,hl,hf,hp,hln=>by
  simp only [List.all_cons,Bool.and_eq_true] at hp;exact ⟨v,vs',e1,QcU hO hQ hS hS2 hfr hpin hc e3 h hl hf hp.2 hln⟩
 | .fn _ _::r,_,_,_,_,_,_,⟨v,vs',e1,_,e3⟩,h,hl,hf,hp,hln=>by
  simp only [List.all_cons,Bool.and_eq_true] at hp;exact ⟨v,vs',e1,QcU hO hQ hS hS2 hfr hpin hc e3 h hl hf hp.2 hln⟩
 | .box ci co::r,i,x,_,_,_,_,⟨v,vs',F1,F2,b,base,c,e,e1,e2,e3,e4,e5,e6,e7,e8,e9⟩,h,hl,hf,hp,hln=>by
  simp only [List.all_cons,Bool.and_eq_true,QdP] at hp;simp only [unA] at h;split at h
  ·rename_i cs hk;split at h
   ·rename_i hlen;split at h
    ·rename_i q hq;split at h
     ·rename_i q' hq';simp only [Oie,Pmi] at h;obtain ⟨h1,h2⟩:=h;subst h1; subst h2; subst e1;simp only [QoM,hk,Bool.and_eq_true] at hf;have d:=hpin.1 _ _ _ e3;obtain ⟨b',z,c',m,j,i2,u,k⟩:=hO _ _ (QaC (fr:=fr) hk);rw [d] at j;simp only [Oie,Pmi] at j;obtain ⟨rfl,rfl⟩:=j;have s:cs.length=co.length:=by rw [hlen.1,hlen.2]
      rw [s] at u k;have n:=Qch hO hQ (k.mono fun _ _ h=>h.1) hq (fun o a=>hl o (List.mem_append_left _ a)) hf.1 (bs:=[]) (Qie hp.1.2) (fun o a=>by simp at a) (hc _)
      refine ⟨v,vs',_,_,b,base,c',m,rfl,QG,e4,hlen.2,i2,u,QeR hS n hp.1.2,k.right fun _ _ h=>h.2,QcU hO hQ hS hS2 hfr hpin hc e9 hq' (fun o a=>hl o (List.mem_append_right _ a)) hf.2 hp.2 hln⟩
     ·cases h
    ·cases h
   ·cases h
  ·cases h
 | .row e t::r,i,x,_,_,_,_,⟨v,vs',q,F2,e1,e2,e3,e4,e5,e6⟩,h,hl,hf,hp,hln=>by
  simp only [List.all_cons,Bool.and_eq_true] at hp;simp only [unA] at h;split at h
  ·rename_i y q' g hq';simp only [Oie,Pmi] at h;obtain ⟨h1,h2⟩:=h;subst h1; subst h2; subst e1;obtain ⟨m,he,hk⟩:=Qio g;simp only [lenQ,Bool.and_eq_true,beq_iff_eq] at hln;obtain ⟨hlen,hln⟩:=hln;have d:=hpin.2 _ q _ e3;have f:=QaE (l:=fr) hk;rw [if_neg (hfr _ (hl _ (by simp)))] at f
   refine ⟨v,vs',q,blks β q'.2,rfl,by simp [blks,d],?_,⟨_,e3⟩,QcU hO hQ hS hS2 hfr hpin hc e6 hq' (fun o a=>hl o (List.mem_cons_of_mem _ a)) hf hp.2 hln⟩
   rw [←d]; exact hS2 _ _ _ _ (QbN he (hO _ _ f))
  ·cases h
 | .agg cs::r,i,x,_,_,_,_,⟨v,vs',us,F1,F2,e1,e2,e3,e4,e5⟩,h,hl,hf,hp,hln=>by
  simp only [List.all_cons,Bool.and_eq_true] at hp;simp only [unA] at h;split at h
  ·rename_i y q' g hq';simp only [Oie,Pmi] at h;obtain ⟨h1,h2⟩:=h;subst h1; subst h2; subst e1;simp only [lenQ,Bool.and_eq_true] at hln;have p:=QcV hO hfr hpin e4 g (fun o a=>hl o (List.mem_append_left _ a)) hln.1
   exact ⟨v,vs',us,_,_,rfl,QG,e3,QrC (sl:=true) (S':=S') (fun B t x cs _ h=>hS _ _ _ _ h) (fun e=>by cases e) p,QcU hO hQ hS hS2 hfr hpin hc e5 hq' (fun o a=>hl o (List.mem_append_right _ a)) hf hp.2 hln.2⟩
  ·cases h
theorem Qdb: ∀{ps:List PK} {i:Nat} {x:denP ps} {vs:List Value} {F:List Nat},Qda w S Qp B i ps x vs F→vs.length=ps.length
 | [],_,_,_,_,⟨h,_⟩=>by rw [h]; rfl
 | k::r,_,_,_,_,h=>by
  cases k with
  | val t=>obtain ⟨v,vs',h1,_,h3⟩:=h; rw [h1]; simp [Qdb h3]
  | ptr t=>obtain ⟨v,vs',h1,_,h3⟩:=h; rw [h1]; simp [Qdb h3]
  | fn f d=>obtain ⟨v,vs',h1,_,h3⟩:=h; rw [h1]; simp [Qdb h3]
  | box a b=>obtain ⟨v,vs',_,_,_,_,_,_,h1,_,_,_,_,_,_,_,h3⟩:=h; rw [h1]; simp [Qdb h3]
  | row e t=>obtain ⟨v,vs',_,_,h1,_,_,_,_,h3⟩:=h; rw [h1]; simp [Qdb h3]
  | agg c=>obtain ⟨v,vs',_,_,_,h1,_,_,_,h3⟩:=h; rw [h1]; simp [Qdb h3]
def st0 (fn:Func) (ps:List PK) (x:denP ps):St:=mk (Nat.max fn.ntmps ps.length) { slots:=QfV 0 ps,boxes:=QaS 0 ps,rows:=QbB 0 ps } (QgZ 0 ps x,QgX 0 ps x,QgY 0 ps x)
theorem Qpv (T:Tab) (σ:St) (fr:List Nat):resV T { σ with H:=frz σ.H fr }=resV T σ:=by
 funext r;cases r with
 | tmp t=>rfl
 | cell x t=>
  simp only [resV];split
  ·rename_i r b m j k;by_cases c: ∃d,look σ.H b=some (.box d)
   ·obtain ⟨d,c⟩:=c;rw [c,QaC c]
   ·have n: ∀{z:Option SV},(match look σ.H b with | some (.box d)=>z | _=>(none:Option SV))=none:=by
     intro z;split
     ·rename_i d a; exact absurd ⟨d,a⟩ c
     ·rfl
    split
    ·rename_i d a;exfalso;by_cases f: ∃e t g,look σ.H b=some (.row e t g)
     ·obtain ⟨e,o,g,i⟩:=f;rw [QaE (l:=fr) i] at a;split at a <;> cases a
     ·rw [Qaz fun e t g h=>f ⟨e,t,g,h⟩] at a
      exact c ⟨d,a⟩
    ·split
     ·rename_i d a; exact absurd ⟨d,a⟩ c
     ·rfl
  ·rfl
theorem Qja (hT:QR P T=true) {f:FuncId} {fn:Func} {c:Code} {cn:Con} (hf:P.funcs[f]?=some fn) (hb:fn.body=some c) (hn2:cn.ps.all QdP=true∧cn.rs.all resK=true)
  (hW: ∀x y,cn.F x=some y→Qfi (st0 fn cn.ps x)=true∧ ∀(Z:Nat→Prop) (M:Nat→Nat→Prop) (N:Nat→Option (Option (Nat×Nat))) (w0:World) (a:Act) (w:World) (Q:Exit→Act→World→Prop),Rep Z M N w0 (st0 fn cn.ps x) a w→
   (∀e σ',endE T fn cn.ps cn.rs x e σ'=some y→σ'.nt=(st0 fn cn.ps x).nt→ ∀a' w',Rep Z M N w0 σ' a' w'→Q (exOf e) a' w')→c.wp P Q a w):Qfx P f cn:=by
 intro x y hx w aa S Qp B M F hp ha _;obtain ⟨bt,hW⟩:=hW x y hx;have be:=Qdb ha;refine calls_of_wp hf hb ?_;generalize az:({ tmps:=aa.toArray++Array.replicate (fn.ntmps-aa.toArray.size) undef,defers:=[] }:Act)=a
 have bg:a.tmps.size=Nat.max fn.ntmps cn.ps.length:=by
  rw [←az,show Nat.max fn.ntmps cn.ps.length=max fn.ntmps cn.ps.length from rfl]; simp [be]; omega
 have bk: ∀k,k< aa.length→0+k< a.tmps.size∧a.tmps.getD (0+k) undef=aa.getD k undef:=by
  intro k m;refine ⟨by rw [bg, ←be,show Nat.max fn.ntmps aa.length=max fn.ntmps aa.length from rfl]; omega,?_⟩
  rw [←az,Nat.zero_add];simp [Array.getElem?_append,m]
 obtain ⟨hs,_,F2,F3,bq,bw,av⟩:=Qcl (a:=a) ha bk;have ar: ∀b,b∈F↔b∈([]++F2)++F3:=fun b=>by rw [List.nil_append]; exact av.mem_iff
 let N:Nat→Option (Option (Nat×Nat)):=fun o=>match B o with | some (.box b d)=>some (some (b,d)) | some (.row q n)=>some q | none=>none
 have bm:Rep (fun b=>S b∨ ∀i,M b i) M N w (mk (Nat.max fn.ntmps cn.ps.length) { slots:=QfV 0 cn.ps,boxes:=QaS 0 cn.ps,rows:=QbB 0 cn.ps } (QgZ 0 cn.ps x,QgX 0 cn.ps x,QgY 0 cn.ps x)) a w:=by
  refine QkC (B:=B) hp.laid hp.fresh (fun b h=> .inr h) (by rw [←az]) bg (Kept.refl M w) bt hs bq bw ?_ ?_ ?_ hp.row hp.inj ?_ ?_ ?_ ?_
  ·rw [List.nil_append]; exact (av.nodup_iff).1 hp.nodup
  ·intro b hb; exact hp.mine b ((ar b).2 hb)
  ·intro o b d g;have:=hp.box o b d g;exact ⟨this.1,fun h=>this.2.1 ((ar b).2 h),this.2.2⟩
  ·intro b hb h;have:=hp.data b hb h;exact ⟨.inl h,fun h=>this.1 ((ar b).2 h),this.2⟩
  ·intro b h;have:=hp.ptr b h;exact ⟨fun h=>this.1 ((ar b).2 h),this.2⟩
  ·intro o b d g h9;exact absurd (Qia (hp.box o b d g).1) (by omega)
  ·intro o q g;simp only [N] at g;split at g
   ·rename_i b d ab;obtain rfl:=Osj g;exact ⟨Qia (hp.box o b d ab).1,.inl ⟨b,d,rfl,ab⟩⟩
   ·rename_i q' n ab;obtain rfl:=Osj g;exact ⟨Qib (hp.row o q' n ab),.inr ⟨n,ab⟩⟩
   ·cases g
 have a7: ∀{σ':St} {a':Act} {w':World} {β:Qr},RepB (fun b=>S b∨ ∀i,M b i) M N w β σ' a' w'→Qqk β B:=by
  intro σ' a' w' β h;refine ⟨fun o b d g=>(h.pin o (some (b,d)) (by simp [N,g])).1,fun o q n g=>(h.pin o q (by simp [N,g])).1⟩
 refine hW _ _ _ _ _ _ (bodyPost P fn _) bm ?_;intro e σ' j hn a' w' hr;obtain ⟨β,hr⟩:=hr
 have bi:endK T fn cn.ps cn.rs x σ'=some y→
   a'.defers=[]∧ ∃v,(results fn a'.tmps).run P w'= .ok v w'∧ ∃v',Ending.returned v= .returned v'∧Post M w S B cn aa y v' w':=by
  intro j;unfold endK at j;split at j
  ·cases j
  ·rename_i ss bf;split at j
   ·cases j
   ·rename_i y1 bh;split at j
    ·cases j
    ·rename_i z hz;split at j
     ·rename_i hc;by_cases a2:lenQ cn.ps x z.1=true
      case neg=>rw [if_neg a2] at j; cases j
      rw [if_pos a2] at j;obtain rfl:=Osj j;simp only [Bool.and_eq_true] at hc;obtain ⟨⟨c1,c2⟩,c3⟩:=hc
      let l:=y1.2++z.2
      let fr:=others σ'.H l
      have ae:=hr.frz fr;obtain ⟨vs,b7,b6⟩:=Qer hT hr bf;obtain ⟨cd,a9,a6⟩:=Qer (fn:=fn) hT ae (by rw [Qpv]; exact bf)
      have a4:=a7 hr
      have a5:Rows σ'.H y1.2:=by
       have: ∀{rs:List VK} {ss:List SV} {x:denV rs} {l1:List Nat},unVs σ'.H rs ss=some (x,l1)→Rows σ'.H l1:=by
        intro rs
        induction rs with
        | nil=>
         intro ss x l1 h;cases ss with
         | nil=>
          simp only [unVs,Oie,Pmi] at h;rw [←h.2]; exact fun o g=>by simp at g
         | cons _ _=>simp [unVs] at h
        | cons k r ih=>
         intro ss x l1 h;cases ss with
         | nil=>simp [unVs] at h
         | cons s ss=>
          simp only [unVs] at h;split at h
          ·rename_i q hq;split at h
           ·rename_i q' bv;simp only [Oie,Pmi] at h;rw [←h.2];exact (Qqd hq).append (ih bv)
           ·cases h
          ·cases h
       exact this bh
      have am:=Qec hz;have ba:=a5.append am.1
      have au: ∀o∈l, ∃u,look (frz σ'.H fr) o=some u∧QcD u=true:=by
       intro o g;obtain ⟨u,m,hl⟩:=ba o g;exact ⟨u,QhO m hl (QbJ o g),hl⟩
      have ak: ∀o b d,B o=some (.box b d)→ ∃cs,look (frz σ'.H fr) o=some (.box cs)∧β o=some (b,d):=by
       intro o b d g;obtain ⟨p,bu,rfl⟩:=List.mem_map.1 (hp.box o b d g).1;obtain ⟨cs,e1,_⟩:=am.2 p bu;exact ⟨cs,QaC e1,a4.1 _ _ _ g⟩
      have bd: ∀b,b∈blks β y1.2++blks β z.2↔ ∃o∈l,b∈blkq (β o):=by
       intro b; rw [←QG]; exact Qbp
      have af: ∀o∈l, ∀b,b∈blkq (β o)→ ∃u p,look (frz σ'.H fr) o=some u∧QcD u=true∧β o=some p∧foot u p b:=by
       intro o g b hb;obtain ⟨u,m,hl⟩:=au o g;have hO:=Qcp hl (ae.obj o u m);cases hq:β o with
       | none=>rw [hq] at hb; simp [blkq] at hb
       | some p=>
        rw [hq] at hb hO;exact ⟨u,p,m,hl,rfl,hO.foot.2 hb⟩
      have bo: ∀b,RO (fun b=>S b∨ ∀i,M b i) β (frz σ'.H fr) b→after S M B (blks β y1.2++blks β z.2) b:=by
       intro b hb;refine ⟨hb.1,fun bp=>?_,fun o d g=>?_⟩
       ·obtain ⟨o',al,ab⟩:=(bd b).1 bp;obtain ⟨u,p,ag,a1,ah,a0⟩:=af o' al b ab;exact hb.2 ⟨o',_,p,ag,QN a1,ah,a0⟩
       ·obtain ⟨cs,m,aj⟩:=ak o b d g;exact hb.2 ⟨o,_,_,m,rfl,aj,Qm⟩
      have ai:Mon w' (RO (fun b=>S b∨ ∀i,M b i) β (frz σ'.H fr)) (after S M B (blks β y1.2++blks β z.2)):=
       Mon.sub fun b _ hb=>bo b hb
      refine ⟨hr.defers,_,a9,_,rfl,hr.below,_,blks β y1.2,blks β z.2,rfl,?_,?_,?_,?_⟩
      ·exact Qop ai (Qlo ae.owns (Q:=fun _=>True) (fun _ _=>trivial) a6 bh (fun o g=>List.mem_append_left _ g) c2 (bs:=[]) (QmN hn2.2) (fun o g=>by simp at g) (fun s _=>Qdl)) hn2.2
      ·exact QcU (Qp:=fun _=>True) ae.owns (fun _ _=>trivial) ai (fun e t xs q h=>RowO.mon ai h) QbJ a4 (fun sh=>Qdl) ha hz (fun o g=>List.mem_append_right _ g) c3 hn2.1 a2
      ·rw [←QG];refine QdH (l:=l) ?_ ?_ (fun o g=>g) (Qap c1)
       ·intro o o' b g al hb aj;obtain ⟨u,p,m,hl,ah,hf⟩:=af o g b hb;obtain ⟨cc,p',ag,a1,bl,a0⟩:=af o' al b aj;exact ae.one o o' _ _ p p' b m (QN hl) ag (QN a1) ah bl hf a0
       ·intro o g;obtain ⟨u,m,hl⟩:=au o g;exact (Qcp hl (ae.obj o u m)).nodup
      ·intro b hb;obtain ⟨o,g,ab⟩:=(bd b).1 hb;obtain ⟨u,p,m,hl,ah,hf⟩:=af o g b ab;have a3:=ae.hold o _ p b m (QN hl) ah hf;refine ⟨QiM hl a3.1,a3.2,fun o' d al=>?_⟩
       obtain ⟨cs,ag,aj⟩:=ak o' b d al;have:=ae.one o o' _ _ p _ b m (QN hl) ag rfl ah aj hf Qm;subst this;rw [m] at ag;cases ag;cases hl
     ·cases j
 cases e with
 | exit i=>cases j
 | normal=>exact bi j
 | ret=>exact bi j
theorem QoJ (hT:QR P T=true) (hG:Qci P G) {f:FuncId} {fn:Func} {c:Code} {cn:Con} (hf:P.funcs[f]?=some fn) (hb:fn.body=some c) (hL:QZ P (Nat.max fn.ntmps cn.ps.length) L c)
  (hF: ∀x,QA T G L fn cn.ps cn.rs x=cn.F x):Qfx P f cn:=by
 by_cases g:cn.ps.all QdP=true∧cn.rs.all resK=true
 ·refine Qja (T:=T) hT hf hb g fun x y b=>?_
  rw [←hF] at b;unfold QA at b;rw [hb] at b;simp only at b;split at b
  ·cases b
  ·rename_i d
   have h:Qfi (st0 fn cn.ps x)=true:=by
    simp only [not_or,Bool.not_eq_false] at d; exact d.1
   exact ⟨h,fun Z M N j a w Q e i=>QcQ hT hG (by exact hL) e b i⟩
 ·intro x y b;exfalso;rw [←hF] at b;unfold QA at b;rw [hb] at b;simp only at b;split at b
  ·cases b
  ·rename_i d;apply g;simp only [not_or,Bool.not_eq_false,Bool.and_eq_true] at d;exact d.2
end
section
open Go Go.RowKit
variable {P:Program} {T:Tab} {G:Env} {L:List (Nat×Cut)} {w w' w0:World} {S Qp:Nat→Prop} {M:Nat→Nat→Prop} {B:Nat→Option Pl}
def Qpd:PK→Bool
 | .val _=>true
 | _=>false
def QrP (T:Tab) (fn:Func) (ps:List PK) (cs:List CK) (x:denP ps) (σ:St):Option (denV [.b cs]×denQ ps):=
 match mapO (resV T σ) fn.results.toList with
 | some [.s (.p o off)]=>match look σ.H o with
  | some (.box ss)=>match unCs σ.H cs ss with
   | some y=>match unA σ.H 0 ps x with
    | some z=>if ((decide (o< 9000000) && decide (off=0)) && decide (0< cs.length)) && ((QcO y.2 && Qcx σ.H y.2 cs ss) && cs.all resC) then some ((y.1,()),z.1) else none
    | none=>none
   | none=>none
  | _=>none
 | _=>none
def QxN (T:Tab) (fn:Func) (ps:List PK) (cs:List CK) (x:denP ps) (e:Ex) (σ:St):Option (denV [.b cs]×denQ ps):=
 match e with
 | .exit _=>none
 | .normal=>QrP T fn ps cs x σ
 | .ret=>QrP T fn ps cs x σ
def Qra (T:Tab) (G:Env) (L:List (Nat×Cut)) (fn:Func) (ps:List PK) (cs:List CK) (x:denP ps):Option (denV [.b cs]×denQ ps):=
 match fn.body with
 | none=>none
 | some c=>if Qfi (st0 fn ps x)=false∨ps.all Qpd=false then none else run T G L c (st0 fn ps x) (QxN T fn ps cs x)
theorem Qse: ∀{ps:List PK} {i:Nat},ps.all Qpd=true→QaS i ps=[]∧QbB i ps=[]
 | [],_,_=>⟨rfl,rfl⟩
 | k::r,i,h=>by
  simp only [List.all_cons,Bool.and_eq_true] at h;cases k <;> first | (simp [Qpd] at h; done) | skip
  exact Qse (ps:=r) (i:=i+1) h.2
theorem Qox: ∀{ps:List PK} {i:Nat} {x:denP ps} {vs:List Value} {F:List Nat},ps.all Qpd=true→Qda w S Qp B i ps x vs F→
  F=[]∧ ∀(y:denQ ps) (w':World) (S':Nat→Prop) (B':Nat→Option Pl),Qex w' S' B' i ps y vs []
 | [],_,_,_,_,_,h=>⟨h.2,fun _ _ _ _=>⟨h.1,rfl⟩⟩
 | k::r,i,x,vs,F,hv,h=>by
  simp only [List.all_cons,Bool.and_eq_true] at hv;cases k <;> first | (simp [Qpd] at hv; done) | skip
  obtain ⟨v,vs',e,_,h⟩:=h;obtain ⟨a,b⟩:=Qox (ps:=r) hv.2 h;exact ⟨a,fun y w' S' B'=>⟨v,vs',e,b y w' S' B'⟩⟩
theorem QsX (hT:QR P T=true) (hG:Qci P G) {f:FuncId} {fn:Func} {c:Code} {ps:List PK} {cs:List CK} {Fn:denP ps→Option (denV [.b cs]×denQ ps)} (hf:P.funcs[f]?=some fn) (hb:fn.body=some c)
  (hL:QZ P (Nat.max fn.ntmps ps.length) L c) (hF: ∀x,Qra T G L fn ps cs x=Fn x):Qfx P f { ps:=ps,rs:=[.b cs],F:=Fn }:=by
 intro x y hx w ag S Qp B M F hp ha _;simp only at x y hx hp ha;rw [←hF] at hx;unfold Qra at hx;rw [hb] at hx;simp only at hx;split at hx
 ·cases hx
 rename_i az;simp only [not_or,Bool.not_eq_false] at az;obtain ⟨ch,a4⟩:=az;obtain ⟨bl,bv⟩:=Qse (i:=0) a4;obtain ⟨b3,bq⟩:=Qox a4 ha;subst b3
 have ai: ∀o b d,B o≠some (.box b d):=fun o b d ho=>by
  have:=(hp.box o b d ho).1;rw [bl] at this; simp at this
 have b2: ∀o q n,B o≠some (.row q n):=fun o q n ho=>by
  have:=hp.row o q n ho;rw [bv] at this; simp at this
 have bb:Laid (fun b _=>w.heap.size≤b) w:=hp.laid.sub fun p _ i h=>⟨0,hp.fresh _ h 0⟩
 have bf:=Qdb ha;refine calls_of_wp hf hb ?_;generalize ay:({ tmps:=ag.toArray++Array.replicate (fn.ntmps-ag.toArray.size) undef,defers:=[] }:Act)=a
 have bh:a.tmps.size=Nat.max fn.ntmps ps.length:=by
  rw [←ay,show Nat.max fn.ntmps ps.length=max fn.ntmps ps.length from rfl]; simp [bf]; omega
 have bm: ∀k,k< ag.length→0+k< a.tmps.size∧a.tmps.getD (0+k) undef=ag.getD k undef:=by
  intro k r;refine ⟨by rw [bh, ←bf,show Nat.max fn.ntmps ag.length=max fn.ntmps ag.length from rfl]; omega,?_⟩
  rw [←ay,Nat.zero_add];simp [Array.getElem?_append,r]
 obtain ⟨hs,_,F2,F3,b9,ck,au⟩:=Qcl (a:=a) ha bm;have a0: ∀b, ¬b∈([]++F2)++F3:=fun b hb=>by rw [List.nil_append] at hb; have:=(au.mem_iff).2 hb; simp at this
 have bu:Rep (fun b=>S b∨ ∀i,(fun b (_:Nat)=>w.heap.size≤b) b i) (fun b _=>w.heap.size≤b) (fun _=>none) w (st0 fn ps x) a w:=by
  refine QkC (B:=B) bb (fun b h _=>h) (fun b h=> .inr h) (by rw [←ay]) bh (Kept.refl _ w) ch hs b9 ck ?_ ?_ ?_ (fun o q n ho=>absurd ho (b2 o q n)) (fun o o' b d cp ho=>absurd ho (ai o b d)) ?_ ?_ ?_ ?_
  ·rw [List.nil_append]; exact (au.nodup_iff).1 hp.nodup
  ·intro b hb; exact absurd hb (a0 b)
  ·intro o b d ho; exact absurd ho (ai o b d)
  ·intro b hb h; exact ⟨.inl h,a0 b,fun o d=>ai o b d⟩
  ·intro b h; exact ⟨a0 b,fun o d=>ai o b d⟩
  ·intro o b d ho; exact absurd ho (ai o b d)
  ·intro o q ho; cases ho
 refine QcQ (Q:=bodyPost P fn _) hT hG hL bu hx ?_;intro e s j hn a' w' hr;obtain ⟨β,hr⟩:=hr
 have bi:QrP T fn ps cs x s=some y→
   a'.defers=[]∧ ∃v,(results fn a'.tmps).run P w'= .ok v w'∧ ∃v',Ending.returned v= .returned v'∧Post M w S B { ps:=ps,rs:=[.b cs],F:=Fn } ag y v' w':=by
  intro j;unfold QrP at j;split at j
  ·rename_i o c5 cl;split at j
   ·rename_i ss bk;split at j
    ·rename_i y1 a5;split at j
     ·rename_i z hz;split at j
      ·rename_i hc;obtain rfl:=Osj j;simp only [Bool.and_eq_true,decide_eq_true_eq] at hc;obtain ⟨⟨⟨h9,h0⟩,bt⟩,⟨ci,ba⟩,a2⟩:=hc;subst h0;have ae:=hr.frz (others s.H y1.2);obtain ⟨co,bc,a8⟩:=Qer (fn:=fn) hT ae (ss:=[.s (.p o 0)]) (by rw [Qpv]; exact cl)
       have bd:=(Qcs a5).1;have ap:=(Qcs a5).2
       have ar: ∀i∈y1.2, ∃ob,look (frz s.H (others s.H y1.2)) i=some ob∧QcD ob=true:=by
        intro i m;obtain ⟨ob,r,hl⟩:=bd i m;exact ⟨ob,QhO r hl (QbJ i m),hl⟩
       have t:look (frz s.H (others s.H y1.2)) o=some (.box ss):=QaC bk;obtain ⟨g,d,c1,e1,hβ,hg,av,ak⟩:=ae.obj o _ t;have b7:d=0:=ae.bz o ss g d t h9 hβ;subst b7;obtain ⟨bo,bn⟩:=ae.own o _ g 0 t rfl hβ;have bp:w.heap.size≤g:=bo 0 (by rw [ap]; exact bt)
       have cm: ∃v1,co=[v1]∧v1= .pointer (some ⟨g,0,none⟩):=by
        cases a8 with
        | cons j h2=>
         cases h2;refine ⟨_,rfl,?_⟩;simp only [VV,VS,t] at j;obtain ⟨b,d,q1,q2⟩:=j;rw [hβ] at q1;cases q1;simpa using q2
       obtain ⟨v1,rfl,rfl⟩:=cm
       have af: ∀i∈y1.2, ∀b,b∈blkq (β i)→ ∃ob p,look (frz s.H (others s.H y1.2)) i=some ob∧QcD ob=true∧β i=some p∧foot ob p b:=by
        intro i m b hb;obtain ⟨ob,r,hl⟩:=ar i m;have hO:=Qcp hl (ae.obj i ob r);cases hq:β i with
        | none=>rw [hq] at hb; simp [blkq] at hb
        | some p=>
         rw [hq] at hb hO;exact ⟨ob,p,r,hl,rfl,hO.foot.2 hb⟩
       have cc:g∉blks β y1.2:=by
        intro hb;obtain ⟨i,m,aj⟩:=Qbp.1 hb;obtain ⟨ob,p,r,hl,hq,hf⟩:=af i m g aj;have:=ae.one i o _ _ p _ g r (QN hl) t rfl hq hβ hf Qm;subst this;rw [t] at r;cases r;cases hl
       have b5: ∀b,RO (fun b=>S b∨ ∀i,(fun b (_:Nat)=>w.heap.size≤b) b i) β (frz s.H (others s.H y1.2)) b→after S M B ((g::blks β y1.2)++[]) b:=by
        intro b hb;refine ⟨hb.1.imp_right fun h=>hp.fresh b (h 0),fun aq=>?_,fun o d=>ai o b d⟩
        rw [List.append_nil] at aq;rcases List.mem_cons.1 aq with rfl | aq
        ·exact hb.2 ⟨o,_,_,t,rfl,hβ,Qm⟩
        ·obtain ⟨i,m,aj⟩:=Qbp.1 aq;obtain ⟨ob,p,r,hl,hq,hf⟩:=af i m b aj;exact hb.2 ⟨i,_,p,r,QN hl,hq,hf⟩
       have a9:Mon w' (RO (fun b=>S b∨ ∀i,(fun b (_:Nat)=>w.heap.size≤b) b i) β (frz s.H (others s.H y1.2))) (after S M B ((g::blks β y1.2)++[])):=
        Mon.sub fun b _ hb=>b5 b hb
       rw [List.drop_zero] at ak;have aw:All2 (VS w' (RO (fun b=>S b∨ ∀i,(fun b (_:Nat)=>w.heap.size≤b) b i) β (frz s.H (others s.H y1.2))) β (frz s.H (others s.H y1.2))) ss (c1.toList.take ss.length):=ak.mono fun _ _ h=>h.1
       have bg:=QeR a9 (Qch ae.owns (Q:=fun _=>True) (fun _ _=>trivial) aw a5 (fun o ho=>ho) ba (bs:=[]) (Qie a2) (fun o ho=>by simp at ho) Qdl) a2
       have a1: ∀u∈c1.toList.take ss.length,u.oneCell'=true:=by
        have: ∀{as:List S1} {bs:List Value},All2 (fun x v=>VS w' (RO (fun b=>S b∨ ∀i,(fun b (_:Nat)=>w.heap.size≤b) b i) β (frz s.H (others s.H y1.2))) β (frz s.H (others s.H y1.2)) x v∧v.oneCell'=true) as bs→ ∀u∈bs,u.oneCell'=true:=by
         intro as bs h
         induction h with
         | nil=>intro u hu; cases hu
         | cons j h2 ih=>intro u hu; rcases List.mem_cons.1 hu with rfl | hu; exact j.2; exact ih u hu
        exact this ak
       rw [ap] at bg a1
       refine ⟨hr.defers,_,bc,_,rfl,⟨hr.below.os,hr.below.tape,hr.below.output,hr.below.size,fun b hb h=>hr.below.block b hb fun i m=>absurd m (Nat.not_le.2 hb),fun b c e fz b8=>?_⟩,
        [.pointer (some ⟨g,0,none⟩)],g::blks β y1.2,[],rfl,?_,?_,?_,?_⟩
       ·obtain ⟨c',q1,q2,q3⟩:=hr.below.cells b c e fz b8;exact ⟨c',q1,q2,fun i m=>q3 i fun cg=>m (hp.fresh b cg i)⟩
       ·refine ⟨_,[],g::blks β y1.2,[],rfl,by simp,⟨g,c1,e1,blks β y1.2,rfl,hg,by rw [Nat.zero_add,ap] at av; exact av,bg,a1,rfl⟩,rfl,rfl⟩
       ·exact bq _ _ _ _
       ·rw [List.append_nil];refine List.nodup_cons.2 ⟨cc,QdH (l:=y1.2) ?_ ?_ (fun o ho=>ho) (Qap ci)⟩
        ·intro i i' b m cd hb b6;obtain ⟨ob,p,r,hl,hq,hf⟩:=af i m b hb;obtain ⟨c4,p',ce,cf,cj,cb⟩:=af i' cd b b6;exact ae.one i i' _ _ p p' b r (QN hl) ce (QN cf) hq cj hf cb
        ·intro i m;obtain ⟨ob,r,hl⟩:=ar i m;exact (Qcp hl (ae.obj i ob r)).nodup
       ·intro b hb;rw [List.append_nil] at hb;refine ⟨?_,?_,fun o d=>ai o b d⟩
        ·rcases List.mem_cons.1 hb with rfl | hb
         ·exact hp.fresh _ bp
         ·obtain ⟨i,m,aj⟩:=Qbp.1 hb;obtain ⟨ob,p,r,hl,hq,hf⟩:=af i m b aj;have br:=ae.hold i _ p b r (QN hl) hq hf;exact hp.fresh _ (QiM hl br.1 0)
        ·rcases List.mem_cons.1 hb with rfl | hb
         ·exact bn
         ·obtain ⟨i,m,aj⟩:=Qbp.1 hb;obtain ⟨ob,p,r,hl,hq,hf⟩:=af i m b aj;exact (ae.hold i _ p b r (QN hl) hq hf).2
      ·cases j
     ·cases j
    ·cases j
   ·cases j
  ·cases j
 cases e with
 | exit i=>cases j
 | normal=>exact bi j
 | ret=>exact bi j
end
section
open Go Go.RowKit
def QbT (L:List (Nat×Cut)):Code→Bool
 | .seq a b=>QbT L a && QbT L b
 | .cond _ a b=>QbT L a && QbT L b
 | .block id c=>(look L (100000+id)).isNone && QbT L c
 | .loop _=>false
 | _=>true
theorem Qid {P:Program} {nt:Nat} {L:List (Nat×Cut)}: ∀{c:Code},QbT L c=true→QZ P nt L c:=by
 intro c
 induction c with
 | seq a b d e=>intro h; simp only [QbT,Bool.and_eq_true] at h; exact ⟨d h.1,e h.2⟩
 | cond x a b d e=>intro h; simp only [QbT,Bool.and_eq_true] at h; exact ⟨d h.1,e h.2⟩
 | block g c f=>
  intro h;simp only [QbT,Bool.and_eq_true,Option.isNone_iff_eq_none] at h;simp only [QZ,h.1];exact f h.2
 | loop c f=>intro h; simp [QbT] at h
 | _=>intro _; trivial
theorem Quv {P:Program} {nt:Nat} {L:List (Nat×Cut)} {id:Nat} {c:Code} (hl:(look L (100000+id)).isNone=true) (h:QZ P nt L c):QZ P nt L (.block id c):=by
 simp only [QZ,Option.isNone_iff_eq_none.1 hl]; exact h
theorem Qwm {P:Program} {nt:Nat} {L:List (Nat×Cut)} {c:Code} {cut:Cut} (hl:look L (Qbd c)=some cut) (h:QgN P nt (.loop c) cut):QZ P nt L (.loop c):=by
 simp only [QZ,hl]; exact h
theorem QsP {P:Program} {nt:Nat} {L:List (Nat×Cut)} {id:Nat} {c:Code} {cut:Cut} (hl:look L (100000+id)=some cut) (h:QgN P nt (.block id c) cut):QZ P nt L (.block id c):=by
 simp only [QZ,hl]; exact h
def navC:Code→List Nat→Code
 | c,[]=>c
 | .seq a _,0::r=>navC a r
 | .seq _ b,_::r=>navC b r
 | .cond _ a _,0::r=>navC a r
 | .cond _ _ b,_::r=>navC b r
 | .block _ c,_::r=>navC c r
 | .loop c,_::r=>navC c r
 | _,_=> .skip
def nav (fn:Func) (p:List Nat):Code:=navC (fn.body.getD .skip) p
def Qel (fn:Func) (p:List Nat) (i:Nat):Oper:=match nav fn p with
 | .region _ ops _ => (ops[i]?).getD { dst := none, op := .alloc 0, type := 0, pos := "", after := #[], guard := none }
 | _ => { dst := none, op := .alloc 0, type := 0, pos := "", after := #[], guard := none }
def lots:Nat:=18446744073709551616
abbrev iand (k:IntKind) (x y:Int):Int:=k.wrap (BitVec.ofInt k.bits x &&& BitVec.ofInt k.bits y).toNat
abbrev ior (k:IntKind) (x y:Int):Int:=k.wrap (BitVec.ofInt k.bits x ||| BitVec.ofInt k.bits y).toNat
abbrev ixor (k:IntKind) (x y:Int):Int:=k.wrap (BitVec.ofInt k.bits x ^^^ BitVec.ofInt k.bits y).toNat
theorem Qc {P:Program}:Qci P []:=fun _ h=>by cases h
theorem Qa {P:Program} {f:FuncId} {cn:Con} {G:Env} (h:Qdu P f cn) (hG:Qci P G):Qci P ((f,cn)::G):=fun p a=>by
 rcases List.mem_cons.1 a with rfl | a
 ·exact h
 ·exact hG p a
theorem QuH {P : Program} {T : Tab} {G : Env} {L : List (Nat × Cut)} (hT : QR P T = true) (hG : Qci P G) {f : FuncId} (fn : Func) {cn : Con} (hf : P.funcs[f]? = some fn) (hn : (fn.name == "runtime.NumGoroutine") = false) (hb : fn.body.isSome = true)
  (hL:QZ P (Nat.max fn.ntmps cn.ps.length) L (nav fn [])) (hF: ∀x,QA T G L fn cn.ps cn.rs x=cn.F x):Qdu P f cn:=by
 obtain ⟨c,a⟩:=Option.isSome_iff_exists.1 hb;have:nav fn []=c:=by simp only [nav,a,navC,Option.getD_some]
 rw [this] at hL;exact (QoJ hT hG hf a hL hF).ok (QfF hf hn hb)
theorem QsW {P : Program} {T : Tab} {G : Env} {L : List (Nat × Cut)} (hT : QR P T = true) (hG : Qci P G) {f : FuncId} (fn : Func) {ps : List PK} {cs : List CK} {Fn : denP ps → Option (denV [.b cs] × denQ ps)} (hf : P.funcs[f]? = some fn) (hn : (fn.name == "runtime.NumGoroutine") = false) (hb : fn.body.isSome = true)
  (hL:QZ P (Nat.max fn.ntmps ps.length) L (nav fn [])) (hF: ∀x,Qra T G L fn ps cs x=Fn x):Qdu P f { ps:=ps,rs:=[.b cs],F:=Fn }:=by
 obtain ⟨c,a⟩:=Option.isSome_iff_exists.1 hb;have:nav fn []=c:=by simp only [nav,a,navC,Option.getD_some]
 rw [this] at hL;exact (QsX hT hG hf a hL hF).ok (QfF hf hn hb)
theorem Qxo {P:Program} {T:Tab} {G:Env} {L:List (Nat×Cut)} (hT:QR P T=true) (hG:Qci P G) {f:FuncId} (fn:Func) {cn:Con} (hf:P.funcs[f]?=some fn) (hb:fn.body.isSome=true)
  (hL:QZ P (Nat.max fn.ntmps cn.ps.length) L (nav fn [])) (hF: ∀x,QA T G L fn cn.ps cn.rs x=cn.F x):Qfx P f cn:=by
 obtain ⟨c,a⟩:=Option.isSome_iff_exists.1 hb;have:nav fn []=c:=by simp only [nav,a,navC,Option.getD_some]
 rw [this] at hL;exact QoJ hT hG hf a hL hF
theorem okP {P:Program} {nt:Nat} {L:List (Nat×Cut)} {c:Code} (h:QbT L c=true:=by kernel_rfl):QZ P nt L c:=Qid h
theorem okS {P:Program} {nt:Nat} {L:List (Nat×Cut)} {a b:Code} (h:QZ P nt L a) (k:QZ P nt L b):QZ P nt L (.seq a b):=⟨h,k⟩
theorem okI {P:Program} {nt:Nat} {L:List (Nat×Cut)} {x:Operand} {a b:Code} (h:QZ P nt L a) (k:QZ P nt L b):QZ P nt L (.cond x a b):=⟨h,k⟩
theorem okB {P:Program} {nt:Nat} {L:List (Nat×Cut)} {id:Nat} {c:Code} (h:QZ P nt L c) (hl:(look L (100000+id)).isNone=true:=by kernel_rfl):QZ P nt L (.block id c):=Quv hl h
theorem okU {P:Program} {nt:Nat} {L:List (Nat×Cut)} {c:Code} {cut:Cut} (h:QgN P nt (.loop c) cut) (hl:look L (Qbd c)=some cut:=by kernel_rfl):QZ P nt L (.loop c):=Qwm hl h
theorem okX {P:Program} {nt:Nat} {L:List (Nat×Cut)} {id:Nat} {c:Code} {cut:Cut} (h:QgN P nt (.block id c) cut) (hl:look L (100000+id)=some cut:=by kernel_rfl):QZ P nt L (.block id c):=QsP hl h
theorem fnC {P:Program} {T:Tab} {G:Env} {L:List (Nat×Cut)} (hT:QR P T=true) (hG:Qci P G) {f:FuncId} (fn:Func) {cn:Con}
  (hL : QZ P (Nat.max fn.ntmps cn.ps.length) L (nav fn [])) (hF : ∀ x, QA T G L fn cn.ps cn.rs x = cn.F x) (hf : P.funcs[f]? = some fn := by kernel_rfl) (hn : (fn.name == "runtime.NumGoroutine") = false := by kernel_rfl) (hb : fn.body.isSome = true := by kernel_rfl) : Qdu P f cn :=
 QuH hT hG fn hf hn hb hL hF
end
section
open Go Go.RowKit Go.ChangeShapes Go.WideShapes Go.ChangeAt
def QdW (T:Tab):Ty→List (Nat×TypeId)→Nat→Bool
 | .unit,[],_=>true
 | .pair a b,(o,t)::r,off=>decide (o=off) && (match look T t with | some q=>decide (q.ty=a) | none=>false) && QdW T b r (off+sz a)
 | _,_,_=>false
def Qss (T:Tab):Bool:=T.all fun p=>!(isAg p.2.ty) || QdW T p.2.ty p.2.fields 0
def inR:(t:Ty)→den t→Prop
 | .int k,n=>k.min≤n∧n≤k.max
 | .bool,_=>True
 | .str,s=>s.length≤maxLen
 | .unit,_=>True
 | .opq,_=>True
 | .pair a b,x=>inR a x.1∧inR b x.2
 | .slice t,xs=>xs.length≤maxLen∧ ∀x∈xs,inR t x
section
variable {H:Type} {enc:TypeId×Value→H} {P:Program} {T:Tab} {w:World} {base:Nat} {spare:Nat→Bool} {held:Bool}
theorem RowOk.cells {t:TypeId} {r:Row} {i:TypeInfo} {d:TypeDesc} {z:Value} (h:RowOk P T t r i d z):P.cellsOf t=sz r.ty:=by
 simp [Program.cellsOf,h.info,h.size]
theorem Qjm {α:Type} {p:Nat→α→Prop}: ∀{n:Nat},(∀i,i< n→ ∃x,p i x)→ ∃xs:List α,xs.length=n∧ ∀i x,xs[i]?=some x→p i x
 | 0,_=>⟨[],rfl,fun i x h=>by simp at h⟩
 | n+1,h=>by
  obtain ⟨xs,hl,hx⟩:=Qjm (p:=p) (n:=n) fun i a=>h i (by omega)
  obtain ⟨y,b⟩:=h n (by omega)
  refine ⟨xs++[y],by simp [hl],fun i x a=>?_⟩
  rcases Nat.lt_or_ge i n with hlt | hge
  ·rw [List.getElem?_append_left (by omega)] at a; exact hx i x a
  ·rw [List.getElem?_append_right (by omega)] at a
   have:i=n:=by
    have:=(List.getElem?_eq_some_iff.1 a).1;simp at this; omega
   subst this;rw [hl] at a; simp at a; subst a; exact b
theorem Quj {α:Type} {R:α→List Value→Prop} {m:Nat} {F:Nat→Option Value}: ∀{xs:List α} {k:Nat},(∀i x,xs[i]?=some x→ ∃cs,R x cs∧cs.length=m∧ ∀j,j< m→F ((k+i)*m+j)=cs[j]?)→
  ∃rows,RpL R xs rows∧rows.length=xs.length*m∧ ∀j,j< rows.length→F (k*m+j)=rows[j]?
 | [],k,_=>⟨[],rfl,by simp,fun j hj=>by simp at hj⟩
 | x::xs,k,h=>by
  obtain ⟨cs,hc,hl,hF⟩:=h 0 x rfl
  obtain ⟨rows,e,f,g⟩:=Quj (R:=R) (m:=m) (F:=F) (xs:=xs) (k:=k+1) fun i y l=>by
   obtain ⟨a,b,c,d⟩:=h (i+1) y (by simpa using l)
   exact ⟨a,b,c,fun j hj=>by rw [←d j hj,show k+1+i=k+(i+1) by omega]⟩
  refine ⟨cs++rows,⟨cs,rows,rfl,hc,e⟩,by simp [hl,f,Nat.add_mul]; omega,fun j hj=>?_⟩
  rcases Nat.lt_or_ge j m with hlt | hge
  ·rw [List.getElem?_append_left (by omega), ←hF j hlt]; congr 1
  ·rw [List.getElem?_append_right (by omega),hl, ←g (j-m) (by simp at hj; omega)]
   congr 1;rw [Nat.add_mul]; omega
theorem Qmi {f:TypeId→List Value→Prop} (hf: ∀t q,look T t=some q→ ∀cs,f t cs→ ∃d:den q.ty,Rp w (fun _=>True) q.ty d cs∧inR q.ty d) {cs:List Value}:
  ∀{ty:Ty} {fl:List (Nat×TypeId)} {off:Nat},QdW T ty fl off=true→cs.length=off+sz ty→(∀p∈fl, ∀q,look T p.2=some q→f p.2 ((cs.drop p.1).take (sz q.ty)))→
  ∃d:den ty,Rp w (fun _=>True) ty d (cs.drop off)∧inR ty d
 | .unit,[],off,_,hl,_=>⟨(),by
   have:cs.drop off=[]:=List.drop_of_length_le (by simp [sz] at hl; omega)
   rw [this]; exact ⟨rfl,trivial⟩⟩
 | .pair a b,(o,t)::r,off,h,hl,hp=>by
  simp only [QdW,Bool.and_eq_true,decide_eq_true_eq] at h;obtain ⟨⟨rfl,h1⟩,h2⟩:=h;split at h1
  ·rename_i q g;have e:q.ty=a:=of_decide_eq_true h1;subst e;obtain ⟨i,m,k⟩:=hf t q g _ (hp (o,t) (by simp) q g)
   obtain ⟨j,n,l⟩:=Qmi hf (ty:=b) (fl:=r) (off:=o+sz q.ty) h2 (by simp [sz] at hl; omega) fun p c=>hp p (by simp [c])
   refine ⟨(i,j),⟨_,_,?_,m,n⟩,k,l⟩;rw [←List.drop_drop,List.take_append_drop]
  ·cases h1
 | .unit,_::_,_,h,_,_=>by simp [QdW] at h
 | .pair _ _,[],_,h,_,_=>by simp [QdW] at h
 | .int _,_,_,h,_,_=>by simp [QdW] at h
 | .bool,_,_,h,_,_=>by simp [QdW] at h
 | .str,_,_,h,_,_=>by simp [QdW] at h
 | .opq,_,_,h,_,_=>by simp [QdW] at h
 | .slice _,_,_,h,_,_=>by simp [QdW] at h
theorem QjW {a:Addr} {v:Value} (h:w.cell? a=some v): ∃c e fz,w.heap[a.block]?=some (.cells c e fz)∧c[a.off]?=some v∧a.spot=none:=by
 unfold World.cell? at h;split at h
 ·rename_i c e fz b;split at h
  ·cases h
  ·rename_i f;exact ⟨c,e,fz,b,h,by cases d:a.spot <;> simp [d] at f⊢⟩
 ·cases h
theorem QwL (hT:QR P T=true) (hS:Qss T=true): ∀(fuel:Nat) (t:TypeId) (r:Row) (cs:List Value) (x:DataW H×List MemPlace),look T t=some r→DataW.trod enc P w base spare held fuel t cs=some x→
  ∃d:den r.ty,Rp w (fun _=>True) r.ty d cs∧inR r.ty d:=by
 intro fuel
 induction fuel with
 | zero=>intro t r cs x _ h; simp [DataW.trod] at h
 | succ fuel ih=>
  intro t r cs x hr h;obtain ⟨i,d,z,o⟩:=Qz hT hr;have hu:=o.under;have g:=o.desc;have hc:=o.cells;have he:=o.elem;have hs:=List.all_eq_true.1 hS _ (QaY hr);obtain ⟨ty,ag,bw,bs⟩:=r;simp only at g hc he hs⊢
  have al:isAg ty=true→ ∃d:den ty,Rp w (fun _=>True) ty d cs∧inR ty d:=by
   intro am;rw [am] at hs;obtain ⟨fs,rfl,bf⟩:=o.fields am;obtain ⟨xs,n,e1,_,hl,ai,hx⟩:=DataW.trod_struct hu h;obtain rfl:=Nat.succ.inj e1
   have:=Qmi (T:=T) (w:=w) (f:=fun t cs=> ∃y,DataW.trod enc P w base spare held fuel t cs=some y) (fun t q hq cs ⟨y,hy⟩=>ih t q cs y hq hy) (cs:=cs) (ty:=ty) (fl:=ag) (off:=0)
    (by simpa using hs) (by rw [hl,hc]; omega) (fun p hp q hq=>by
     have bm:p∈List.map (fun f:Field=>(f.offset,f.type)) fs.toList:=by rw [bf]; exact hp
     obtain ⟨f,hf,rfl⟩:=List.mem_map.1 bm;obtain ⟨k,hk,he⟩:=List.getElem_of_mem hf
     have bi:fs[k]?=some f:=by
      rw [Array.getElem?_eq_getElem (by simpa using hk)]
      simpa using he
     obtain ⟨i2,d2,z2,v⟩:=Qz hT hq;rw [←v.cells,hx k f bi];have bj:k< xs.length:=by rw [ai]; simpa using hk
     exact ⟨xs[k],List.getElem?_eq_getElem bj⟩)
   simpa using this
  cases ty with
  | int k=>
   simp only [QaW] at g;cases d <;> first | (simp at g; done) | skip
   simp only [decide_eq_true_eq] at g;subst g;obtain ⟨n,rfl,_,hw⟩:=DataW.trod_int hu h;simp only [Lit.wf,Bool.and_eq_true,decide_eq_true_eq] at hw;exact ⟨n,rfl,hw⟩
  | bool=>
   simp only [QaW] at g;cases d <;> first | (simp at g; done) | skip
   obtain ⟨b,rfl,_⟩:=DataW.trod_bool hu h;exact ⟨b,rfl,trivial⟩
  | str=>
   simp only [QaW] at g;cases d <;> first | (simp at g; done) | skip
   obtain ⟨s,rfl,_,hw⟩:=DataW.trod_string hu h;exact ⟨s.data.toList,rfl,by show s.data.toList.length≤maxLen; rw [Array.length_toList]; exact hw⟩
  | opq=>
   simp only [QaW] at g;cases d <;> first | (simp at g; done) | skip
   have br: ∃A,cs=[.pointer A]:=by
    unfold DataW.trod at h;rw [hu] at h;split at h <;> first | (cases h; done) | simp_all
   exact ⟨(),br,trivial⟩
  | unit=>exact al rfl
  | pair a b=>exact al rfl
  | slice u=>
   simp only [QaW] at g;cases d <;> first | (simp at g; done) | skip
   rename_i e;simp only [decide_eq_true_eq] at g;subst g;simp only [Qka] at he;split at he
   ·rename_i q hq;simp only [Bool.and_eq_true,decide_eq_true_eq] at he;obtain ⟨rfl,a1⟩:=he;obtain ⟨i2,d2,z2,v⟩:=Qz hT hq;have bd:=v.cells;rcases DataW.trod_slice hu h with ⟨rfl,_⟩ | ⟨a,ap,a5,bt,b6,n,e1,rfl,_,hb,hl,hm,ai,be,_,_⟩
    ·exact ⟨[],⟨none,0,rfl,by simp,fun hx=>absurd rfl hx⟩,Nat.zero_le _,fun x hx=>by simp at hx⟩
    ·obtain rfl:=Nat.succ.inj e1
     have af: ∀i,i< ap→ ∃d:den q.ty, ∃l,w.cells? base (a.add (i*sz q.ty)) (sz q.ty)=some l∧Rp w (fun _=>True) q.ty d l∧inR q.ty d:=by
      intro i hi;have:=be i hi;rw [List.getElem?_eq_getElem (by omega),bd] at this
      obtain ⟨l,h1,h2⟩:=Obs this;obtain ⟨d,h3,h4⟩:=ih _ q l _ hq h2;exact ⟨d,l,h1,h3,h4⟩
     obtain ⟨xs,ao,hx⟩:=Qjm af
     refine ⟨xs,⟨some a,a5,by rw [ao],by omega,fun bl=>?_⟩,by simp only [inR]; exact ⟨by omega,fun x bp=>by
      obtain ⟨i,hi⟩:=List.getElem?_of_mem bp;obtain ⟨_,_,_,h⟩:=hx i x hi;exact h⟩⟩
     have h0:0< ap:=by rw [←ao]; exact List.length_pos_iff.2 bl
     obtain ⟨d0,a6,bc,ca,_⟩:=af 0 h0;obtain ⟨_,b9,bg⟩:=World.cells?_some bc;have az:0< a6.length:=by omega
     have aa:=bg 0 a1;rw [List.getElem?_eq_getElem az] at aa;obtain ⟨c,el,fz,hh,_,bo⟩:=QjW aa;simp [Addr.add] at hh bo
     obtain ⟨a4,aj,cb,hF⟩:=Quj (R:=Rp w (fun _=>True) q.ty) (m:=sz q.ty) (F:=fun j=>c[a.off+j]?) (xs:=xs) (k:=0) (fun i y hy=>by
      obtain ⟨l,h1,h2,h3⟩:=hx i y hy;obtain ⟨_,h4,h5⟩:=World.cells?_some h1;refine ⟨l,h2,h4,fun j hj=>?_⟩
      have h6:=h5 j hj;rw [List.getElem?_eq_getElem (by omega)] at h6⊢
      obtain ⟨c',e',b8,h7,h8,_⟩:=QjW h6
      have ax:((a.add (i*sz q.ty)).add j).block=a.block:=by
       unfold Addr.add; split <;> split <;> rfl
      have a0:((a.add (i*sz q.ty)).add j).off=a.off+(i*sz q.ty+j):=by
       unfold Addr.add;split <;> split <;> simp_all <;> omega
      rw [ax,hh] at h7;simp only [Oie,Obj.cells.injEq] at h7;rw [a0, ←h7.1] at h8;rw [Nat.zero_add]; exact h8)
     refine ⟨a.block,a.off,by cases a; simp_all,trivial,a4,aj,c,el,fz,hh,fun i hi=>?_⟩
     have:=hF i hi;simpa using this
   ·cases he
def psTy (T:Tab):List TypeId→List PK→Bool
 | [],[]=>true
 | t::ts,.val u::ps=>(match look T t with | some r=>decide (r.ty=u) | none=>false) && psTy T ts ps
 | _,_=>false
def inRP:(ps:List PK)→denP ps→Prop
 | [],_=>True
 | .val t::r,x=>inR t x.1∧inRP r x.2
 | _::_,_=>True
theorem QqR (hT:QR P T=true) {t:TypeId} {r:Row} (hr:look T t=some r) {rc:Reach} {b0:Nat} {v:Value} (hv:Value.okWide P w rc b0 t v) {cs:List Value} (hcs:v.cells.toList=cs) {d:den r.ty} (hd:Rp w (fun _=>True) r.ty d cs):Val r.ty v cs:=by
 obtain ⟨i,k,z,b⟩:=Qz hT hr;have h:=b.under;have a:=b.desc;unfold Val;split
 ·rename_i f;obtain ⟨l,rfl,_⟩:=b.fields f;unfold Value.okWide at hv;rw [h] at hv;simp only at hv;obtain ⟨c,rfl,_⟩:=hv;simp [Value.cells] at hcs;rw [←hcs]
 ·rename_i f
  have g: ∀c,v≠ .agg c:=by
   intro c e;subst e;unfold Value.okWide at hv;rw [h] at hv;unfold QaW at a;cases j:r.ty <;> rw [j] at a f <;> first | (exact absurd rfl f) | skip
   all_goals (cases k <;> simp at a)
   all_goals (simp [Cell.okWide,h,Cell.ok] at hv)
  have:v.cells= #[v]:=by
   cases v <;> first | rfl | exact absurd rfl (g _)
  rw [this] at hcs;simpa using hcs.symm
theorem QlV (hT:QR P T=true) (hS:Qss T=true) {rc:Reach} {b0:Nat}: ∀{ts:List TypeId} {ps:List PK} {vs:List Value} {ds:List (DataW H)} {pl:List MemPlace} {i:Nat},psTy T ts ps=true→DataW.TrodAll enc P w base spare held ts vs ds pl→
  (∀(j:Nat) t v,ts[j]?=some t→vs[j]?=some v→Value.okWide P w rc b0 t v)→ ∃x:denP ps,Qda w (fun _=>True) (fun _=>True) noB i ps x vs []∧inRP ps x
 | [],[],[],[],_,_,_,_,_=>⟨(),⟨rfl,rfl⟩,trivial⟩
 | t::ts,.val u::ps,v::vs,d::ds,_,i,h,⟨p,q,⟨fuel,h1⟩,h2,_⟩,hv=>by
  simp only [psTy,Bool.and_eq_true] at h;obtain ⟨h3,h4⟩:=h;split at h3
  ·rename_i r b;have e:r.ty=u:=of_decide_eq_true h3;subst e;obtain ⟨x,f,a⟩:=QwL hT hS fuel t r _ _ b h1;obtain ⟨y,l,g⟩:=QlV hT hS (ps:=ps) (i:=i+1) h4 h2 fun j t v k c=>hv (j+1) t v (by simpa using k) (by simpa using c)
   exact ⟨(x,y),⟨v,vs,rfl,⟨_,QqR hT b (hv 0 t v rfl rfl) rfl f,f⟩,l⟩,a,g⟩
  ·cases h3
theorem Qgs {W W':World} (hk:Kept (fun b _=>W.heap.size≤b) W W') {b:Nat} (hb:b< W.heap.size):W'.heap[b]?=W.heap[b]? :=
 hk.block b hb fun i a=>by omega
theorem Qts {W W':World} (hk:Kept (fun b _=>W.heap.size≤b) W W') {p:MemPlace} (hp:p.block< W.heap.size):W.sameAt W' p:=by
 cases p with
 | cell b a=>
  have:=Qgs hk hp;simp only [MemPlace.block] at this;simp only [World.sameAt,World.cell?]; rw [this]
 | map b=>simp only [World.sameAt]; exact Qgs hk hp
theorem QuT {W W':World} (hk:Kept (fun b _=>W.heap.size≤b) W W') (may:MemPlace→Prop):W.keptBut W' may:=by
 refine ⟨hk.os,hk.output,fun i a=>?_⟩
 rw [Qgs hk a];cases h:W.heap[i]? with
 | none=>rfl
 | some o=>cases o <;> simp
theorem Qhg (hl:laidOutB P=true) {W W':World} {sp':Nat→Bool}: ∀{ts:List TypeId} {vs:List Value} {ds:List (DataW H)} {pl:List MemPlace},(∀t∈ts,P.readableRec t=true∧t< P.types.size)→
  DataW.TrodAll enc P W base (fun _=>true) true ts vs ds pl→(∀p∈pl,W.sameAt W' p)→(∀p∈pl,sp' p.block=true)→DataW.TrodAll enc P W' base sp' true ts vs ds pl
 | [],[],[],_,_,h,_,_=>h
 | t::ts,v::vs,d::ds,_,hr,⟨p,q,h1,h2,e⟩,hs,hb=>by
  subst e
  exact ⟨p,q,Go.WideElems.Trod_stays hl (hr t (by simp)).1 (hr t (by simp)).2 h1 (fun x hx=>hs x (List.mem_append_left _ hx)) (fun x hx=>hb x (List.mem_append_left _ hx)),
   Qhg hl (fun t ht=>hr t (by simp [ht])) h2 (fun x hx=>hs x (List.mem_append_right _ hx)) (fun x hx=>hb x (List.mem_append_right _ hx)),rfl⟩
theorem Qva {f:Func} {s:ChangeSpec} {apart fresh handsOn again:Bool} {W W':World} {args:Array Value} {ds gs:List (DataW H)} {before:List MemPlace} {tb:TypeId} (hl:laidOutB P=true)
  (hr: ∀t∈f.params.toList,P.readableRec t=true∧t< P.types.size) (hb:P.underlying tb=some .bool) (hres:f.resultTypes= #[tb]) (hvs:s.vars=[])
  (hsp: ∀ds:List (DataW H),ds.length=f.params.size→s.fn H ds={ results:=[.lit (.bool true)],args:=ds }) (hW:DataW.Whole enc P f.params.toList s.vars apart W args.toList ds gs before)
  (hk:Kept (fun b _=>W.heap.size≤b) W W'):s.post enc P f apart fresh handsOn again W args (.bool true) W':=by
 have n:=hW;obtain ⟨p,q,y,r,rfl,hz,hn⟩:=hW;rw [hvs] at r
 have aa:gs=[]∧q=[]:=by
  cases gs with
  | nil=>exact ⟨rfl,r⟩
  | cons g gs=>exact r.elim
 obtain ⟨rfl,rfl⟩:=aa
 have u: ∀{m:List TypeId} {l:List Value} {ds:List (DataW H)} {w:List MemPlace},DataW.TrodAll enc P W 0 (fun _=>true) true m l ds w→ds.length=m.length:=by
  intro m
  induction m with
  | nil=>
   intro l ds w h;cases l with
   | nil=>cases ds with
    | nil=>rfl
    | cons _ _=>exact h.elim
   | cons _ _=>exact h.elim
  | cons t m ih=>
   intro l ds w h;cases l with
   | nil=>exact h.elim
   | cons v l=>cases ds with
    | nil=>exact h.elim
    | cons d ds=>
     obtain ⟨p,q,_,h2,_⟩:=h;simp [ih h2]
 have c:=hsp (ds++[]) (by rw [List.append_nil,u y]; simp)
 have a: ∀x∈p,x.block< W.heap.size:=fun x e=>n.lt x (List.mem_append_left _ e)
 have i: ∀k:Nat→Bool,(∀x∈p,k x.block=true)→DataW.TrodAll enc P W' 0 k true f.params.toList args.toList ds p:=fun k hsp=>
  Qhg hl hr y (fun x e=>Qts hk (a x e)) hsp
 have j: ∀(b:Nat) (k:Nat→Bool) (z:Bool),DataW.TrodAll enc P W' b k z f.resultTypes.toList ((Value.bool true).resultList f.resultTypes.size) [.lit (.bool true)] []:=fun b k z=>by
  rw [hres];exact ⟨[],[],shut_bool hb true,rfl,rfl⟩
 refine ⟨ds,[],p++[],[],p,[],n,?_,?_,?_,QuT hk _,fun _=>⟨?_,[.lit (.bool true)]++ds,[],p,⟨p,[],?_,by rw [hvs]; exact rfl,by simp,?_,?_⟩,fun x e _=>by simpa using e⟩⟩
 ·rw [c]; exact j _ _ _
 ·rw [c,List.append_nil]; exact i _ fun x e=>by simpa using a x e
 ·rw [hvs,c]; rfl
 ·exact ok_one hres rfl (okWide_bool_mk hb _)
 ·have:=trodAll_append (i (fun _=>true) fun _ _=>rfl) (j 0 (fun _=>true) true)
  simpa using this
 ·intro b ac hp;have o:=a _ hp;have:=hz b ac (List.mem_append_left _ hp);simp only [World.frozen?] at this⊢;simp only [MemPlace.block] at o;rw [Qgs hk o]; exact this
 ·intro ha;have:=hn ha;simpa using this
theorem Qwl {f:FuncId} {cn:Con} (hs:Qfx P f cn) (hrs:cn.rs=[.s (.dat .bool)]) (hT:QR P T=true) (hS:Qss T=true) {rc:Reach} {b0:Nat} {ts:List TypeId} {args:Array Value} {ds:List (DataW H)} {pl:List MemPlace}
  (hps:psTy T ts cn.ps=true) (hbx:QaS 0 cn.ps=[]∧QbB 0 cn.ps=[]) (hA:DataW.TrodAll enc P w base spare held ts args.toList ds pl) (hv: ∀(j:Nat) t v,ts[j]?=some t→args[j]?=some v→Value.okWide P w rc b0 t v)
  (hF: ∀x,inRP cn.ps x→ ∃y,cn.F x=some y∧ ∀vs F1 w' S Q B,VKsR w' S Q B cn.rs y.1 vs F1→vs=[.bool true]) (hnl:cn.nl=false:=by rfl) (hgl: ∀p∈GL, ∃c e fz,w.heap[p.1]?=some (.cells c e fz)∧c[p.2.1]?=some p.2.2:=by intro p hp; cases hp):Calls P f args w fun e w'=>e= .returned (.bool true)∧Kept (fun b _=>w.heap.size≤b) w w':=by
 obtain ⟨x,hx,k⟩:=QlV (i:=0) hT hS hps hA fun j t v ht l=>hv j t v ht (by simpa using l)
 obtain ⟨y,hy,r⟩:=hF x k
 have d:Pre (fun b _=>w.heap.size≤b) w cn.ps (fun _=>True) (fun _=>True) noB []:=
  {
   laid:=fun p hp=>by
    obtain ⟨c,e,fz,g,u⟩:=hgl p hp;exact ⟨⟨c,e,fz,g,u⟩,fun i hi=>by have:=(Array.getElem?_eq_some_iff.1 g).1; omega⟩
   fresh:=fun b a _=>a
   nodup:=by simp
   mine:=fun b a=>by simp at a
   box:=fun o b base h=>by simp [noB] at h
   row:=fun o q n h=>by simp [noB] at h
   inj:=fun o o' b base s h=>by simp [noB] at h
   data:=fun b _ _=>⟨by simp,fun o base h=>by simp [noB] at h⟩
   ptr:=fun b _=>⟨by simp,fun o base h=>by simp [noB] at h⟩ }
 have:=hs x y hy w args.toList _ _ _ _ _ d hx (by rw [hnl]; trivial)
 rw [Array.toArray_toList] at this;refine this.mono fun e w' hp=>?_
 obtain ⟨v,rfl,z,vs,F1,F2,rfl,m,_⟩:=hp;have:=r vs F1 w' _ _ _ m;subst this;exact ⟨rfl,z⟩
end
end
section
open Go Go.RowKit
theorem QhT {α β γ:Type} {step:(α→Option γ)→α→Option γ} (φ:β→α) (I:β→Prop) (G:β→Option γ) (μ:β→Nat)
  (h: ∀rec b,I b→(∀b',I b'→μ b'< μ b→rec (φ b')=G b')→step rec (φ b)=G b): ∀n b,I b→μ b< n→Qb step n (φ b)=G b
 | 0,b,_,hm=>absurd hm (Nat.not_lt_zero _)
 | n+1,b,hI,hm=>h (Qb step n) b hI fun c hc hlt=>QhT φ I G μ h n c hc (by omega)
theorem QE:lots=18446744073709551616:=rfl
theorem Qj {n:Int} (h1: -9223372036854775808≤n) (h2:n≤9223372036854775807):IntKind.i64.wrap n=n:=by
 show (if (true && decide (n % 18446744073709551616≥9223372036854775808))=true then n % 18446744073709551616-18446744073709551616 else n % 18446744073709551616)=n
 split
 ·rename_i h; simp at h; omega
 ·rename_i h; simp at h; omega
theorem QcM:maxLen=9223372036854775807:=by decide
theorem QlX {α:Type} {m:List α} {i:Int} (h0:0≤i) (h:i< (m.length:Int)): ∃y,m[i.toNat]?=some y∧y∈m∧m.drop i.toNat=y::m.drop (i+1).toNat:=by
 have a:i.toNat< m.length:=by omega
 refine ⟨m[i.toNat],List.getElem?_eq_getElem a,List.getElem_mem a,?_⟩;rw [List.drop_eq_getElem_cons a];congr 2;omega
theorem Qod {i:Int} {n:Nat} (h0:0≤i) (h:i< (n:Int)) (hn:n≤maxLen):IntKind.i64.wrap (i+1)=i+1:=by
 rw [QcM] at hn;exact Qj (by omega) (by omega)
theorem QeA {α:Type} {m:List α} {i:Int} (h: ¬i< (m.length:Int)):m.drop i.toNat=[]:=List.drop_of_length_le (by omega)
end
section
open Go Go.RowKit
variable {P:Program} {T:Tab} {G:Env} {w w' w0:World} {Z:Nat→Prop} {M:Nat→Nat→Prop} {N:Nat→Option (Option (Nat×Nat))} {a:Act} {σ:St} {β:Qr}
variable {o:Oper} {next:Act→World→Prop} {Q:Exit→Act→World→Prop}
theorem Qvi (hT:QR P T=true) (hrep:Rep Z M N w0 σ a w) {t t':TypeId} {x:Operand} (ho:o.op= .binOp .eql t x (.const (.slice none 0 0)) t') {d:Nat} (hd:o.dst=some d) (hdn:d< σ.nt) {r:Row} {u:Ty} (hr:look T t=some r) (hty:r.ty= .slice u)
  {xs:List (den u)} (hx:ev σ x=some (.s (.d (.slice u) xs))) (hy:xs=[]→ ∀a' w',Rep Z M N w0 (σ.set d (.s (.d .bool true))) a' w'→next a' w')
  (hn: ∀a' w',Rep Z M N w0 (σ.set d (.s (.d .bool false))) a' w'→next a' w'):o.wp P a w next Q:=by
 obtain ⟨β,hrep⟩:=hrep;obtain ⟨i,s,z,j⟩:=Qz hT hr;have h:=j.desc;unfold QaW at h;rw [hty] at h;cases s <;> first | (simp at h; done) | skip
 rename_i e;have f:=Qf hrep hx;have f:=(VV_d (t:= .slice u) rfl).1 f;obtain ⟨A,c,f,ad,n⟩:=f;simp only [List.cons.injEq,and_true] at f
 have l:(execOp a.eval o).run P w= .ok (.value (.bool A.isNone)) w:=by
  unfold execOp;rw [ho];have e2:a.eval (.const (.slice none 0 0))= .slice none 0 0:=rfl;simp only [f,e2];rw [Sem.run_bind]
  have:(do eqGuard .eql t x (.const (.slice none 0 0)) (.slice A xs.length c) (.slice none 0 0); binOp .eql t (.slice A xs.length c) (.slice none 0 0):Sem Value).run P w= .ok (.bool A.isNone) w:=by
   have e3:(eqGuard .eql t x (.const (.slice none 0 0)) (.slice A xs.length c) (.slice none 0 0):Sem Unit)=pure ():=rfl;rw [e3];simp only [pure_bind,binOp];simp [run_equal_slice_nil w t e A xs.length c j.under]
  rw [this];rfl
 refine QD (v:= .bool A.isNone) (w':=w) l ?_;rw [hd]
 have k: ∀b,b=A.isNone→RepB Z M N w0 β (σ.set d (.s (.d .bool b))) (a.put (some d) (.bool A.isNone)) w:=fun b hb=>
  hrep.set hdn ((VV_d (t:= .bool) rfl).2 (by rw [hb]; rfl))
 cases g:A with
 | none=>
  have p:xs=[]:=by
   cases xs with
   | nil=>rfl
   | cons y ys=>
    obtain ⟨b,ae,m,_⟩:=n (by simp)
    rw [g] at m; cases m
  have:=k true (by rw [g]; rfl)
  rw [g] at this;exact hy p _ _ ⟨β,this⟩
 | some q=>
  have:=k false (by rw [g]; rfl)
  rw [g] at this;exact hn _ _ ⟨β,this⟩
theorem QcN (hT : QR P T = true) {f : FuncId} {fn : Func} {cn : Con} {c0 ca cb : Code} {id d nm : Nat} {o1 o2 : Oper} {t t' : TypeId} {x : Operand} {r : Row} {u : Ty} (hf : P.funcs[f]? = some fn) (hn0 : (fn.name == "runtime.NumGoroutine") = false)
  (hb:fn.body=some (.seq c0 (.seq (.seq (.region id #[o1,o2] false) (.cond (.tmp d) ca .skip)) cb))) (hn2:cn.ps.all QdP=true∧cn.rs.all resK=true) (hnames: ∀x,Qfi (st0 fn cn.ps x)=true)
  (hg1:o1.guard=none) (hg2:o2.guard=none) (ho:o2.op= .binOp .eql t x (.const (.slice none 0 0)) t') (hd:o2.dst=some d) (hr:look T t=some r) (hty:r.ty= .slice u)
  (s1 s2:denP cn.ps→St) (xs:denP cn.ps→List (den u)) (h1: ∀y,run T [] [] c0 (st0 fn cn.ps y) (fun e σ=>match e with | .normal=>some σ | _=>none)=some (s1 y)) (hdo: ∀y,QK o1.dst (s1 y).nt=true)
  (h2: ∀y,opR T [] nm o1 (s1 y) some=some (s2 y)) (hd2: ∀y,d< (s2 y).nt) (hev: ∀y,ev (s2 y) x=some (.s (.d (.slice u) (xs y)))) (hpl:QbT [] c0=true) (hpa:QbT [] ca=true) (hpb:QbT [] cb=true) (hnt: ∀y,(s2 y).nt=(st0 fn cn.ps y).nt)
  (hA: ∀y,xs y=[]→run T [] [] (.seq (.cond (.tmp d) ca .skip) cb) ((s2 y).set d (.s (.d .bool true))) (endE T fn cn.ps cn.rs y)=cn.F y)
  (hB: ∀y,run T [] [] (.seq (.cond (.tmp d) ca .skip) cb) ((s2 y).set d (.s (.d .bool false))) (endE T fn cn.ps cn.rs y)=cn.F y):Qdu P f cn:=by
 have hs:Qfx P f cn:=by
  refine Qja (T:=T) hT hf hb hn2 fun y z hz=>⟨hnames y,fun Z M N w0 a w Q ac hK=>?_⟩
  refine wp_seq (QcQ (L:=[]) hT Qc (Qid hpl) ac (h1 y) fun e σ' he hn a' w' k=>?_)
  cases e with
  | exit i=>cases he
  | ret=>cases he
  | normal=>
   obtain rfl:=Osj he
   have q: ∀{b:Bool} {g:Act} {s:World},(b=true→xs y=[])→Rep Z M N w0 ((s2 y).set d (.s (.d .bool b))) g s→(Code.cond (.tmp d) ca .skip).wp P (Exit.then (cb.wp P Q) Q) g s:=by
    intro b g s ag o
    have p:run T [] [] (.seq (.cond (.tmp d) ca .skip) cb) ((s2 y).set d (.s (.d .bool b))) (endE T fn cn.ps cn.rs y)=some z:=by
     cases b with
     | true=>rw [hA y (ag rfl)]; exact hz
     | false=>rw [hB y]; exact hz
    rw [run] at p;refine QcQ (L:=[]) hT Qc (Qid (by simp [QbT,hpa])) o p fun e σ3 j ai a3 w3 l=>?_
    have c:σ3.nt=(st0 fn cn.ps y).nt:=ai.trans (hnt y);cases e with
    | normal=>exact QcQ (L:=[]) hT Qc (Qid hpb) l j fun e σ4 ah v a4 w4 m=>hK e σ4 ah (v.trans c) a4 w4 m
    | exit i=>exact hK (.exit i) σ3 j c a3 w3 l
    | ret=>exact hK .ret σ3 j c a3 w3 l
   refine wp_seq (wp_seq (wp_region_list ?_));unfold wpList;rw [if_pos (by simp [Region.wanted,hg1])]
   refine .inl ?_;obtain ⟨β,k⟩:=k;refine QiJ hT Qc k (hdo y) (fun σ4 h4 v a4 w4 m=>?_) (h2 y)
   obtain rfl:=Osj h4;unfold wpList;rw [if_pos (by simp [Region.wanted,hg2])]
   exact .inl (Qvi hT m ho hd (hd2 y) hr hty (hev y) (fun aj a5 w5 n=>q (fun _=>aj) n) (fun a5 w5 n=>q (fun h=>by cases h) n))
 exact hs.ok (QfF hf hn0 (by rw [hb]; rfl))
end
section
open Go Go.RowKit
variable {P:Program} {T:Tab} {w w':World} {M:Nat→Nat→Prop}
theorem QqI (o:Obj):Kept M w (w.alloc o):=(Kept.refl M w).alloc o
theorem Qws {w:World} {ps:List PK} {S Q:Nat→Prop} {B:Nat→Option Pl} {F:List Nat} (hp:Pre M w ps S Q B F) {b:Nat} (hb:w.heap.size≤b) (o base:Nat):B o≠some (.box b base):=fun h=>by
 have:=(hp.box o b base h).2.2.1;omega
def QxV (t:Ty) (by_:Nat) (e:TypeId) (x:denP [.val (.slice t),.val (.int .i64)]):Option (denV [.s (.own e t)]×denQ [.val (.slice t),.val (.int .i64)]):=
 if (0:Int)≤x.2.1∧x.2.1*(by_:Int)≤140737488355328 then some (([],()),()) else none
theorem QtZ {f:FuncId} {t:TypeId} (hw: ∀(A:Option Addr) (n cap:Nat) (w:World),Calls P f #[.slice A n cap] w fun r w'=>r= .returned (.pointer (some ⟨w.heap.size,0,none⟩))∧w'=w.alloc (.cells #[.slice A n cap,.int .i64 0] t)):
  Qfx P f ⟨[.val (.slice (.int .u8))],[.s (.bx (.pair (.slice (.int .u8)) (.pair (.int .i64) .unit)))],fun x=>some (((x.1,(0:Int),()),()),()),false⟩:=by
 intro x y hx w p S Q B M F g ha _;obtain rfl:=Osj hx;obtain ⟨m,ae,rfl,⟨q,hv,hr⟩,rfl,rfl⟩:=ha;have v:q=[m]:=hv;subst v;obtain ⟨A,cap,s,e,z⟩:=hr;have u:m= .slice A x.1.length cap:=by simpa using s
 subst u;refine (hw A x.1.length cap w).mono fun r w' h=>?_
 obtain ⟨rfl,rfl⟩:=h;have c:(w.alloc (.cells #[.slice A x.1.length cap,.int .i64 0] t)).heap[w.heap.size]?=some (.cells #[.slice A x.1.length cap,.int .i64 0] t (0,0)):=QhR w _;have l:Rp w S (.slice (.int .u8)) x.1 [.slice A x.1.length cap]:=⟨A,cap,rfl,e,z⟩
 have j:Rp (w.alloc (.cells #[.slice A x.1.length cap,.int .i64 0] t)) (after S M B ([w.heap.size]++[])) (.slice (.int .u8)) x.1 [.slice A x.1.length cap]:=
  Qaa (fun b a k=>⟨⟨.inl k,by simp; omega,(g.data b a k).2⟩,heap_alloc_old w _ b a⟩) l
 refine ⟨_,rfl,QqI _,[.pointer (some ⟨w.heap.size,0,none⟩)],[w.heap.size],[],rfl,⟨_,[],[w.heap.size],[],rfl,rfl,⟨w.heap.size,_,t,_,rfl,c,rfl,⟨[_],[_],rfl,j,⟨[_],[],rfl,rfl,rfl⟩⟩,rfl⟩,rfl,rfl⟩,
  ⟨_,_,rfl,rfl,rfl⟩,by simp,fun b a=>?_⟩
 simp only [List.append_nil,List.mem_singleton] at a;subst a;exact ⟨fun i=>g.fresh _ (Nat.le_refl _) i,(Array.getElem?_eq_some_iff.1 c).1,fun o d=>Qws g (Nat.le_refl _) o d⟩
end
end Go.Proofs.YtkkljegcnnfanaaGreatDoor.S
