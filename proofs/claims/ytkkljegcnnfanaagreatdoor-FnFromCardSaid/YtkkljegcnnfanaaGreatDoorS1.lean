/- The machinery S, part 1: a run of a program's code over typed symbolic data, and that it is what the code does. -/
import Derived.Below
import Derived.Orders
import Derived.Tactics
import Derived.KernelRfl
import Derived.Laws.Cells
import Derived.Laws.NewBlocks
import Derived.Laws.Rows
import Derived.Laws.AppendOwn
import Derived.Laws.MakeOwn
set_option linter.unusedVariables false
set_option linter.unusedSimpArgs false
namespace Go.Proofs.YtkkljegcnnfanaaGreatDoor.S
section
open Go Go.RowKit
theorem Obs {α:Type _} {β:Type _} {o:Option α} {f:α→Option β} {b:β} (h:o.bind f=some b): ∃a,o=some a∧f a=some b:=Option.bind_eq_some_iff.1 h
theorem Obn {α:Type _} {β:Type _} (a:α) (f:α→Option β):(some a).bind f=f a:=rfl
theorem Oie {α:Type _} (a b:α):(some a=some b)=(a=b):=Option.some.injEq a b
theorem Pmi {α:Type _} {β:Type _} (a:α) (b:β) (c:α) (d:β):((a,b)=(c,d))=(a=c∧b=d):=Prod.mk.injEq a b c d
theorem Osj {α:Type _} {a b:α} (h:some a=some b):a=b:=Option.some.inj h
inductive Ty
 | int (k:IntKind)
 | bool
 | str
 | unit
 | pair (a b:Ty)
 | slice (t:Ty)
 | opq
 deriving DecidableEq
@[reducible] def den:Ty→Type
 | .int _=>Int
 | .bool=>Bool
 | .str=>List UInt8
 | .unit=>Unit
 | .pair a b=>den a×den b
 | .slice t=>List (den t)
 | .opq=>Unit
def sz:Ty→Nat
 | .int _=>1
 | .bool=>1
 | .str=>1
 | .unit=>0
 | .pair a b=>sz a+sz b
 | .slice _=>1
 | .opq=>1
def isAg:Ty→Bool
 | .unit=>true
 | .pair _ _=>true
 | _=>false
def cst (s t:Ty) (x:den s):Option (den t):=if h:s=t then some (h▸x) else none
def mark:Ty→Option Ty
 | .pair .opq u=>some u
 | _=>none
inductive Cap
 | p (o off:Nat)
 | pd (t:Ty) (x:den t)
@[reducible] def denT:List Ty→Type
 | []=>Unit
 | t::r=>den t×denT r
inductive Tk
 | ptr
 | tok
 | «at» (j:Nat)
inductive S1
 | any
 | d (t:Ty) (x:den t)
 | nls
 | sl (o:Nat)
 | mp (o:Nat)
 | p (o off:Nat)
 | pe (o i off:Nat)
 | dp (o i off:Nat) (tk:Tk)
 | vw (o lo n:Nat)
 | pd (t:Ty) (x:den t)
 | fn (f:FuncId) (l:List Cap)
inductive SV
 | s (x:S1)
 | g (xs:List S1)
inductive Sl
 | v (x:SV)
 | t (xs:List SV)
def deep (e:TypeId):Bool:=Nat.ble 1000000 e
def raw (e:TypeId):TypeId:=if deep e then e % 1000000 else e
def inn (e:TypeId):TypeId:=e % 1000000000000 / 1000000-1
def lent (e:TypeId):Bool:=Nat.ble 1000000000000 e
def QbM (e e':TypeId):Bool:=e==e' || (deep (e % 1000000000000) && e % 1000000000000==e' % 1000000000000)
def nlE (e:TypeId):TypeId:=if QbM e (e % 1000000000000)=true then e % 1000000000000 else e
inductive Ob
 | dead
 | box (cs:List S1)
 | row (e:TypeId) (t:Ty) (xs:List (den t))
 | fro (t:Ty) (xs:List (den t))
 | map (es:List (Int×Bool))
structure St where
 nt:Nat
 env:List (Nat×Sl)
 H:List (Nat×Ob)
def look {α:Type}:List (Nat×α)→Nat→Option α
 | [],_=>none
 | (k,x)::r,i=>if k=i then some x else look r i
def St.set (σ:St) (i:Nat) (x:SV):St:={ σ with env:=(i,.v x)::σ.env }
def St.sets (σ:St) (i:Option Nat) (x:SV):St:=match i with | some j=>σ.set j x | none=>σ
def St.skip (σ:St) (i:Option Nat):St:=match i with | some j=>{ σ with env:=(j,.t [])::σ.env } | none=>σ
def QU (H:List (Nat×Ob)) (o:Nat):Bool:=(look H o).isNone
def St.put (σ:St) (o:Nat) (x:Ob):St:={ σ with H:=(o,x)::σ.H }
structure Row where
 ty:Ty
 fields:List (Nat×TypeId)
 elem:TypeId
 bytes:Nat
 dm:TypeId
def Row.made (r:Row):TypeId:=if r.dm=0 then r.elem else r.dm % 1000000000000
def Row.madeOk (r:Row):Bool:=r.dm==0 || (deep (r.dm % 1000000000000) && raw (r.dm % 1000000000000)==r.elem)
def Row.app (r:Row):Bool:=lent r.dm
abbrev Tab:=List (TypeId×Row)
def Qqq:Value→Option SV
 | .int k n=>some (.s (.d (.int k) n))
 | .bool b=>some (.s (.d .bool b))
 | .string s=>some (.s (.d .str s.data.toList))
 | .slice none 0 0=>some (.s .nls)
 | .pointer none=>some (.s .any)
 | _=>none
def ev (σ:St):Operand→Option SV
 | .tmp t=>match look σ.env t with
  | some (.v x)=>some x
  | some (.t _)=>some (.s .any)
  | none=>none
 | .const v=>Qqq v
 | .func f=>some (.s (.fn f []))
 | .global _=>none
def split:(t:Ty)→den t→List S1
 | .int k,x=>[.d (.int k) x]
 | .bool,x=>[.d .bool x]
 | .str,x=>[.d .str x]
 | .unit,_=>[]
 | .pair a b,x=>split a x.1++split b x.2
 | .slice t,x=>[.d (.slice t) x]
 | .opq,_=>[.any]
def known:S1→Bool
 | .any=>false
 | _=>true
def cellsOf:SV→List S1
 | .s (.d t x)=>split t x
 | .s y=>[y]
 | .g xs=>xs
def QcC (H:List (Nat×Ob)):SV→Bool
 | .s (.sl o)=>match look H o with
  | some (.row e _ _)=>!deep e
  | _=>true
 | .s (.vw o _ _)=>match look H o with
  | some (.row e _ _)=>!deep e
  | _=>true
 | _=>true
def Qae (own:Bool) (H:List (Nat×Ob)) (t:Ty):S1→Option (den t)
 | .d s x=>cst s t x
 | .nls=>match t with | .slice _=>some [] | _=>none
 | .sl o=>match look H o with
  | some (.row _ s xs)=>if own then cst (.slice s) t xs else none
  | some (.fro s xs)=>cst (.slice s) t xs
  | _=>none
 | .vw o lo n=>match look H o with
  | some (.row _ s xs)=>if own then cst (.slice s) t ((xs.drop lo).take n) else none
  | some (.fro s xs)=>cst (.slice s) t ((xs.drop lo).take n)
  | _=>none
 | _=>none
def gat (own:Bool) (H:List (Nat×Ob)):(t:Ty)→List S1→Option (den t×List S1)
 | .unit,cs=>some ((),cs)
 | .pair a b,cs=>match gat own H a cs with
  | some (x,r)=>match gat own H b r with
   | some (y,r')=>some ((x,y),r')
   | none=>none
  | none=>none
 | .int k,c::r=>match Qae own H (.int k) c with | some x=>some (x,r) | none=>none
 | .bool,c::r=>match Qae own H .bool c with | some x=>some (x,r) | none=>none
 | .str,c::r=>match Qae own H .str c with | some x=>some (x,r) | none=>none
 | .slice t,c::r=>match Qae own H (.slice t) c with | some x=>some (x,r) | none=>none
 | .opq,c::r=>match Qae own H .opq c with | some x=>some (x,r) | none=>none
 | _,[]=>none
def toD (own:Bool) (H:List (Nat×Ob)) (t:Ty):SV→Option (den t)
 | .s x=>Qae own H t x
 | .g cs=>if isAg t then (match gat own H t cs with | some (x,[])=>some x | _=>none) else none
def sub:(t:Ty)→den t→Nat→(u:Ty)→Option (den u)
 | .pair a b,x,off,u=>
  if off=0∧Ty.pair a b=u then cst (.pair a b) u x
  else if off< sz a then sub a x.1 off u else sub b x.2 (off-sz a) u
 | t,x,off,u=>if off=0 then cst t u x else none
def ptrL (r:Ty):(u:Ty)→den u→Option S1
 | .pair .opq u,y=>if r= .opq∧mark u=none then some (.pd u y.2) else none
 | u,y=>match sub u y 0 r with | some z=>some (.d r z) | none=>none
def upd:(t:Ty)→den t→Nat→(u:Ty)→den u→Option (den t)
 | .pair a b,x,off,u,y=>
  if off=0∧Ty.pair a b=u then cst u (.pair a b) y
  else if off< sz a then (match upd a x.1 off u y with | some z=>some (z,x.2) | none=>none)
  else (match upd b x.2 (off-sz a) u y with | some z=>some (x.1,z) | none=>none)
 | t,_,off,u,y=>if off=0 then cst u t y else none
def Qbf:(t:Ty)→den t
 | .int _=>(0:Int)
 | .bool=>false
 | .str=>[]
 | .unit=>()
 | .pair a b=>(Qbf a,Qbf b)
 | .slice _=>[]
 | .opq=>()
def Qqi:Ty→List S1
 | .int k=>[.d (.int k) (0:Int)]
 | .bool=>[.d .bool false]
 | .str=>[.d .str []]
 | .unit=>[]
 | .pair a b=>Qqi a++Qqi b
 | .slice _=>[.nls]
 | .opq=>[.any]
inductive CK
 | dat (t:Ty)
 | own (e:TypeId) (t:Ty)
 | ptr (o off:Nat)
 | ref (o:Nat)
 | pd (t:Ty)
 | fn (f:FuncId) (ts:List Ty)
 | mp
 | bx (t:Ty)
 | vw (e:TypeId) (t:Ty)
 | any
@[reducible] def CK.den:CK→Type
 | .dat t=>S.den t
 | .own _ t=>List (S.den t)
 | .vw _ t=>List (S.den t)×Nat×Nat
 | .pd t=>S.den t
 | .fn _ ts=>denT ts
 | .mp=>List (Int×Bool)
 | .bx t=>S.den t
 | _=>Unit
inductive VK
 | s (c:CK)
 | g (cs:List CK)
 | b (cs:List CK)
@[reducible] def denC:List CK→Type
 | []=>Unit
 | c::r=>c.den×denC r
@[reducible] def VK.den:VK→Type
 | .s c=>c.den
 | .g cs=>denC cs
 | .b cs=>denC cs
inductive PK
 | val (t:Ty)
 | ptr (t:Ty)
 | box (ci co:List CK)
 | row (e:TypeId) (t:Ty)
 | agg (cs:List CK)
 | fn (f:FuncId) (ts:List Ty)
@[reducible] def PK.den:PK→Type
 | .val t=>S.den t
 | .ptr t=>S.den t
 | .box ci _=>denC ci
 | .row _ t=>List (S.den t)
 | .agg cs=>denC cs
 | .fn _ ts=>denT ts
@[reducible] def denP:List PK→Type
 | []=>Unit
 | p::r=>p.den×denP r
@[reducible] def Qcv:List CK→Type
 | []=>Unit
 | .own _ t::r=>List (den t)×Qcv r
 | .dat _::r=>Qcv r
 | .ptr _ _::r=>Qcv r
 | .ref _::r=>Qcv r
 | .pd _::r=>Qcv r
 | .fn _ _::r=>Qcv r
 | .mp::r=>Qcv r
 | .bx _::r=>Qcv r
 | .vw _ _::r=>Qcv r
 | .any::r=>Qcv r
@[reducible] def denQ:List PK→Type
 | []=>Unit
 | .box _ co::r=>denC co×denQ r
 | .row _ t::r=>List (den t)×denQ r
 | .agg cs::r=>Qcv cs×denQ r
 | .val _::r=>denQ r
 | .ptr _::r=>denQ r
 | .fn _ _::r=>denQ r
@[reducible] def denV:List VK→Type
 | []=>Unit
 | k::r=>k.den×denV r
@[reducible] def denW:List (Nat×TypeId×Ty)→Type
 | []=>Unit
 | c::r=>List (den c.2.2)×denW r
structure Con where
 ps:List PK
 rs:List VK
 F:denP ps→Option (denV rs×denQ ps)
 nl:Bool:=false
abbrev Env:=List (FuncId×Con)
def QuG:List PK→List SV→Bool
 | .fn f _::r,.s (.fn g _)::xs=>g==f && QuG r xs
 | _::r,_::xs=>QuG r xs
 | _,_=>true
def Qmw:Env→FuncId→List SV→Option Con
 | [],_,_=>none
 | (k,cn)::r,g,xs=>if k=g∧QuG cn.ps xs=true then some cn else Qmw r g xs
def capS:Cap→S1
 | .p o off=> .p o off
 | .pd t x=> .pd t x
def QaR:Ty→Bool
 | .slice _=>true
 | .pair a b=>QaR a || QaR b
 | _=>false
def QwT:Ty→Bool
 | .slice _=>true
 | _=>false
def CK.sl:CK→Bool
 | .dat t=>QaR t
 | .own _ t=>QaR t
 | .vw _ t=>QaR t
 | .pd _=>true
 | .bx _=>true
 | _=>false
def VK.sl:VK→Bool
 | .s c=>c.sl
 | .g cs=>cs.any CK.sl
 | .b cs=>cs.any CK.sl
def PK.sl:PK→Bool
 | .box _ co=>co.any CK.sl
 | .row _ t=>QaR t
 | .agg cs=>cs.any CK.sl
 | _=>false
def Qha (ps:List PK) (rs:List VK):Bool:=rs.any VK.sl || ps.any PK.sl
def mapO {α β:Type} (f:α→Option β):List α→Option (List β)
 | []=>some []
 | x::r=>match f x with
  | some y=>match mapO f r with | some z=>some (y::z) | none=>none
  | none=>none
def QL (cs:List S1):List Nat:=cs.filterMap fun c=>match c with | .sl o=>some o | .vw o _ _=>some o | _=>none
def Qu (H:List (Nat×Ob)):SV→List Nat
 | .s (.sl o)=>[o]
 | .s (.vw o _ _)=>[o]
 | .s (.p o _)=>match look H o with
  | some (.box cs)=>QL cs
  | _=>[]
 | .s (.pe o _ _)=>[o]
 | .s (.fn _ l)=>l.flatMap fun c=>match c with
  | .p o _=>match look H o with
   | some (.box cs)=>QL cs
   | _=>[]
  | .pd _ _=>[]
 | .s _=>[]
 | .g cs=>QL cs
def Qhb (H:List (Nat×Ob)):PK→SV→List Nat
 | .box ci _,x=>match x with
  | .s (.p o off)=>match look H o with
   | some (.box cs)=>QL ((cs.drop off).take ci.length)
   | _=>[]
  | _=>[]
 | .val _,x=>Qu H x
 | .ptr _,x=>Qu H x
 | .row _ _,x=>Qu H x
 | .agg _,x=>Qu H x
 | .fn _ _,x=>Qu H x
def QbU (H:List (Nat×Ob)):List PK→List SV→List Nat
 | p::r,x::xs=>Qhb H p x++QbU H r xs
 | _,_=>[]
def frz (H:List (Nat×Ob)):List Nat→List (Nat×Ob)
 | []=>H
 | o::r=>match look (frz H r) o with
  | some (.row _ t xs)=>(o,.fro t xs)::frz H r
  | _=>frz H r
def ltI:Int→Int→Bool
 | .ofNat m,.ofNat n=>Nat.ble (Nat.succ m) n
 | .ofNat _,.negSucc _=>false
 | .negSucc _,.ofNat _=>true
 | .negSucc m,.negSucc n=>Nat.ble (Nat.succ n) m
def leI (x y:Int):Bool:=match ltI y x with
 | true=>false
 | false=>true
theorem Qav (x y:Int):ltI x y=decide (x< y):=by
 cases x <;> cases y <;> simp only [ltI]
 ·rename_i m n;rw [Bool.eq_iff_iff,decide_eq_true_eq,Nat.ble_eq];show m< n↔Int.ofNat m< Int.ofNat n;exact Int.ofNat_lt.symm
 ·rename_i m n
  have: ¬(Int.ofNat m< Int.negSucc n):=by
   have a:(0:Int)≤Int.ofNat m:=Int.natCast_nonneg m;have b:Int.negSucc n< 0:=Int.negSucc_lt_zero n;omega
  exact (decide_eq_false this).symm
 ·rename_i m n
  have:Int.negSucc m< Int.ofNat n:=by
   have a:(0:Int)≤Int.ofNat n:=Int.natCast_nonneg n;have b:Int.negSucc m< 0:=Int.negSucc_lt_zero m;omega
  exact (decide_eq_true this).symm
 ·rename_i m n;rw [Bool.eq_iff_iff,decide_eq_true_eq,Nat.ble_eq];rw [Int.negSucc_eq,Int.negSucc_eq];omega
theorem Qan (x y:Int):leI x y=decide (x≤y):=by
 unfold leI;rw [Qav];by_cases h:y< x
 ·have a: ¬x≤y:=by omega
  simp [h,a]
 ·have a:x≤y:=by omega
  simp [h,a]
def bin (op:BinOp) (k:IntKind) (x y:Int):Option S1:=
 match op with
 | .add=>some (.d (.int k) (k.wrap (x+y):Int))
 | .sub=>some (.d (.int k) (k.wrap (x-y):Int))
 | .mul=>some (.d (.int k) (k.wrap (x*y):Int))
 | .quo=>if y=0 then none else some (.d (.int k) (k.wrap (x.tdiv y):Int))
 | .rem=>if y=0 then none else some (.d (.int k) (x.tmod y:Int))
 | .and=>some (.d (.int k) (k.wrap (BitVec.ofInt k.bits x &&& BitVec.ofInt k.bits y).toNat:Int))
 | .or=>some (.d (.int k) (k.wrap (BitVec.ofInt k.bits x ||| BitVec.ofInt k.bits y).toNat:Int))
 | .xor=>some (.d (.int k) (k.wrap (BitVec.ofInt k.bits x ^^^ BitVec.ofInt k.bits y).toNat:Int))
 | .eql=>some (.d .bool (x==y))
 | .neq=>some (.d .bool (x !=y))
 | .lss=>some (.d .bool (ltI x y))
 | .leq=>some (.d .bool (leI x y))
 | .gtr=>some (.d .bool (ltI y x))
 | .geq=>some (.d .bool (leI y x))
 | _=>none
def shf (op:BinOp) (k:IntKind) (x y:Int):Option S1:=
 if y< 0 then none else
 match op with
 | .shl=>some (.d (.int k) (k.wrap (x*2 ^ (min y.toNat k.bits)):Int))
 | .shr=>some (.d (.int k) (x.fdiv (2 ^ (min y.toNat k.bits)):Int))
 | _=>none
def Qff:BinOp→Bool
 | .shl=>true
 | .shr=>true
 | _=>false
def eqD:(t:Ty)→den t→den t→Bool
 | .int _,x,y=>let a:Int:=x; let b:Int:=y; a==b
 | .bool,x,y=>let a:Bool:=x; let b:Bool:=y; a==b
 | .str,x,y=>let a:List UInt8:=x; let b:List UInt8:=y; a==b
 | .unit,_,_=>true
 | .pair a b,x,y=>eqD a x.1 y.1 && eqD b x.2 y.2
 | .slice _,_,_=>false
 | .opq,_,_=>false
def eqA (T:Tab) (t:TypeId) (op:BinOp) (a b:SV):Option S1:=
 match look T t with
 | some r=>if isAg r.ty && r.elem==1 then (match toD false [] r.ty a,toD false [] r.ty b with
  | some x,some y=>match op with
   | .eql=>some (.d .bool (eqD r.ty x y))
   | .neq=>some (.d .bool (!eqD r.ty x y))
   | _=>none
  | _,_=>none) else none
 | none=>none
def bin2 (T:Tab) (t:TypeId) (op:BinOp) (a b:SV):Option S1:=
 match a,b with
 | .s (.d (.int k) x),.s (.d (.int l) y)=>if Qff op then shf op k x y else if k=l then bin op k x y else none
 | .s (.d .str x),.s (.d .str y)=>match op with
  | .add=>if x.length+y.length≤9223372036854775807 then some (.d .str (x++y)) else none
  | .eql=>some (.d .bool (x==y))
  | .neq=>some (.d .bool (!(x==y)))
  | _=>none
 | .s (.d .bool x),.s (.d .bool y)=>match look T t with
  | none=>none
  | some r=>if r.ty= .bool then (match op with
   | .eql=>some (.d .bool (x==y))
   | .neq=>some (.d .bool (!(x==y)))
   | _=>none) else none
 | a,b=>eqA T t op a b
def Qdk (H:List (Nat×Ob)):List (Nat×Ob)→Bool
 | []=>true
 | p::r=>QU H p.1 && QU r p.1 && Qdk H r
def Qve:(ts:List Ty)→denT ts→List Cap
 | [],_=>[]
 | t::r,x=> .pd t x.1::Qve r x.2
def Qlm:(ts:List Ty)→List Cap→Option (denT ts)
 | [],[]=>some ()
 | t::r,.pd s y::l=>match cst s t y,Qlm r l with
  | some z,some q=>some (z,q)
  | _,_=>none
 | _,_=>none
def mkC (nm:Nat):(c:CK)→c.den→S1×List (Nat×Ob)
 | .dat t,x=>(.d t x,[])
 | .own e t,x=>(.sl nm,[(nm,.row e t x)])
 | .vw e t,x=>(.vw nm x.2.1 x.2.2,[(nm,.row e t x.1)])
 | .ptr o off,_=>(.p o off,[])
 | .ref o,_=>(.sl o,[])
 | .pd t,x=>(.pd t x,[])
 | .fn f ts,x=>(.fn f (Qve ts x),[])
 | .mp,x=>(.mp nm,[(nm,.map x)])
 | .bx t,x=>(.p nm 0,[(nm,.box (split t x))])
 | .any,_=>(.any,[])
def mkCs (nm:Nat):(cs:List CK)→denC cs→List S1×List (Nat×Ob)
 | [],_=>([],[])
 | c::r,x=>let q:=mkC nm c x.1; let q':=mkCs (nm+1) r x.2; (q.1::q'.1,q.2++q'.2)
def mkV (nm:Nat):(c:VK)→c.den→SV×List (Nat×Ob)
 | .s c,x=>let q:=mkC nm c x; (.s q.1,q.2)
 | .g cs,x=>let q:=mkCs nm cs x; (.g q.1,q.2)
 | .b cs,x=>let q:=mkCs (nm+1) cs x; (.s (.p nm 0),(nm,.box q.1)::q.2)
def unC (H:List (Nat×Ob)):(c:CK)→S1→Option (c.den×List Nat)
 | .dat t,s=>match Qae true H t s with | some x=>some (x,[]) | none=>none
 | .own e t,s=>match s with
  | .nls=>some ([],[])
  | .sl o=>match look H o with
   | some (.row e' t' xs)=>if QbM e' e=true then (match cst (.slice t') (.slice t) xs with | some ys=>some (ys,[o]) | none=>none) else none
   | _=>none
  | _=>none
 | .vw e t,s=>if deep e=true then none else match s with
  | .nls=>some (([],0,0),[])
  | .sl o=>match look H o with
   | some (.row e' t' xs)=>if QbM e' e=true then (match cst (.slice t') (.slice t) xs with | some ys=>some ((ys,0,ys.length),[o]) | none=>none) else none
   | _=>none
  | .vw o lo n=>match look H o with
   | some (.row e' t' xs)=>if QbM e' e=true then (match cst (.slice t') (.slice t) xs with | some ys=>some ((ys,lo,n),[o]) | none=>none) else none
   | _=>none
  | _=>none
 | .ptr o off,s=>match s with
  | .p o' off'=>if o'=o∧off'=off then (match look H o with | some (.box _)=>some ((),[]) | _=>none) else none
  | _=>none
 | .ref o,s=>match s with
  | .sl o'=>if o'=o then (match look H o with | some (.row _ _ _)=>some ((),[]) | _=>none) else none
  | _=>none
 | .pd t,s=>match s with
  | .pd s' y=>match cst s' t y with | some z=>some (z,[]) | none=>none
  | _=>none
 | .fn f ts,s=>match s with
  | .fn g l=>if g=f then (match Qlm ts l with | some x=>some (x,[]) | none=>none) else none
  | _=>none
 | .mp,s=>match s with
  | .mp o=>match look H o with
   | some (.map es)=>some (es,[o])
   | _=>none
  | _=>none
 | .bx _,_=>none
 | .any,_=>some ((),[])
def unCs (H:List (Nat×Ob)):(cs:List CK)→List S1→Option (denC cs×List Nat)
 | [],[]=>some ((),[])
 | c::r,s::ss=>match unC H c s with
  | some (x,l)=>match unCs H r ss with
   | some (y,m)=>some ((x,y),l++m)
   | none=>none
  | none=>none
 | _,_=>none
def unV (H:List (Nat×Ob)):(c:VK)→SV→Option (c.den×List Nat)
 | .s (.dat t),v=>match toD true H t v with | some x=>some (x,[]) | none=>none
 | .s c,.s s=>unC H c s
 | .s _,.g _=>none
 | .g cs,.g ss=>unCs H cs ss
 | .g cs,.s (.d t x)=>if isAg t then unCs H cs (split t x) else none
 | .g _,_=>none
 | .b _,_=>none
def QcO:List Nat→Bool
 | []=>true
 | x::r=>!(r.contains x) && QcO r
def Qeh (H:List (Nat×Ob)) (l:List Nat):CK→S1→Bool
 | .dat _,.sl o=>!(l.contains o) || (match look H o with | some (.row _ _ _)=>false | _=>true)
 | .dat _,.vw o _ _=>!(l.contains o) || (match look H o with | some (.row _ _ _)=>false | _=>true)
 | _,_=>true
def Qcx (H:List (Nat×Ob)) (l:List Nat):List CK→List S1→Bool
 | c::r,s::ss=>Qeh H l c s && Qcx H l r ss
 | _,_=>true
def Qmo (H:List (Nat×Ob)) (l:List Nat):VK→SV→Bool
 | .s (.dat t),v=>(cellsOf v).all (Qeh H l (.dat t))
 | .s c,.s s=>Qeh H l c s
 | .s _,.g _=>true
 | .g cs,v=>Qcx H l cs (cellsOf v)
 | .b _,_=>true
def boxV (H:List (Nat×Ob)) (cs:List S1):(t:Ty)→Option (den t)
 | .pair .opq u=>match cs with
  | .pd s y::_=>if mark u=none then (match cst s u y with | some z=>some ((),z) | none=>none) else none
  | _=>none
 | t=>match gat true H t cs with | some q=>some q.1 | none=>none
def capV (H:List (Nat×Ob)) (t:Ty):Cap→Option (den t)
 | .pd s y=>cst s t y
 | .p o off=>match look H o with
  | some (.box cs)=>boxV H (cs.drop off) t
  | _=>none
def capD (H:List (Nat×Ob)):(ts:List Ty)→List Cap→Option (denT ts)
 | [],[]=>some ()
 | t::r,c::l=>match capV H t c with
  | some y=>match capD H r l with
   | some z=>some (y,z)
   | none=>none
  | none=>none
 | _,_=>none
def argD (σ:St) (k:PK) (x:SV):Option (k.den×List Nat×List Nat):=
 match k with
 | .val t=>match toD true σ.H t x with | some y=>some (y,[],[]) | none=>none
 | .ptr t=>match x with
  | .s (.pd s y)=>match cst s t y with | some z=>some (z,[],[]) | none=>none
  | .s (.p o off)=>match look σ.H o with
   | some (.box cs)=>(match boxV σ.H (cs.drop off) t with | some y=>some (y,[],[]) | none=>none)
   | _=>none
  | .s (.pe o i off)=>match look σ.H o with
   | some (.row _ s xs)=>if mark t=none then (xs[i]?).bind fun y=>(sub s y off t).bind fun z=>some (z,[],[]) else none
   | _=>none
  | _=>none
 | .box ci _=>match x with
  | .s (.p o off)=>match look σ.H o with
   | some (.box cs)=>if off+ci.length≤cs.length then (match unCs σ.H ci ((cs.drop off).take ci.length) with | some q=>some (q.1,q.2,[o]) | none=>none) else none
   | _=>none
  | _=>none
 | .row e t=>match x with
  | .s s=>(match unC σ.H (.own e t) s with | some q=>some (q.1,q.2,[]) | none=>none)
  | _=>none
 | .agg cs=>match x with
  | .g ss=>(match unCs σ.H cs ss with | some q=>some (q.1,q.2,[]) | none=>none)
  | _=>none
 | .fn f ts=>match x with
  | .s (.fn g l)=>if g=f then (match capD σ.H ts l with | some y=>some (y,[],[]) | none=>none) else none
  | _=>none
def Qbb (σ:St):(ps:List PK)→List SV→Option (denP ps×List Nat×List Nat)
 | [],[]=>some ((),[],[])
 | p::r,x::xs=>match argD σ p x with
  | some y=>match Qbb σ r xs with
   | some z=>some ((y.1,z.1),y.2.1++z.2.1,y.2.2++z.2.2)
   | none=>none
  | none=>none
 | _,_=>none
def QnC (bs:List Nat):Cap→Bool
 | .p o _=>!(bs.contains o)
 | .pd _ _=>true
def QfI (H:List (Nat×Ob)) (l bs:List Nat):PK→SV→Bool
 | .val _,x=>(Qu H x).all fun o=>!(l.contains o)
 | .ptr _,x=>(Qu H x).all (fun o=>!(l.contains o)) && (match x with | .s (.p o _)=>!(bs.contains o) | _=>true)
 | .box ci _,x=>match x with
  | .s (.p o off)=>match look H o with
   | some (.box cs)=>Qcx H l ci ((cs.drop off).take ci.length)
   | _=>true
  | _=>true
 | .row _ _,_=>true
 | .agg cs,x=>match x with
  | .g ss=>Qcx H l cs ss
  | _=>true
 | .fn _ _,x=>(Qu H x).all (fun o=>!(l.contains o)) && (match x with | .s (.fn _ q)=>q.all (QnC bs) | _=>true)
def QfJ (H:List (Nat×Ob)) (l bs:List Nat):List PK→List SV→Bool
 | p::r,x::xs=>QfI H l bs p x && QfJ H l bs r xs
 | _,_=>true
def nlC (H:List (Nat×Ob)):S1→Bool
 | .sl o=>match look H o with
  | some (.row e _ _)=>!lent e
  | _=>true
 | .vw o _ _=>match look H o with
  | some (.row e _ _)=>!lent e
  | _=>true
 | _=>true
def nlA (H:List (Nat×Ob)):PK→SV→Bool
 | .row _ _,.s s=>nlC H s
 | .agg _,.g ss=>ss.all (nlC H)
 | .box ci _,.s (.p o off)=>match look H o with
  | some (.box cs)=>((cs.drop off).take ci.length).all (nlC H)
  | _=>true
 | _,_=>true
def nlAs (H:List (Nat×Ob)):List PK→List SV→Bool
 | p::r,x::xs=>nlA H p x && nlAs H r xs
 | _,_=>true
def reR (e:TypeId) (t:Ty) (xs:List (den t)):S1→List (Nat×Ob)
 | .sl o=>[(o,.row (nlE e) t xs)]
 | _=>[]
def reCs:(cs:List CK)→Qcv cs→List S1→List (Nat×Ob)
 | [],_,_=>[]
 | .own e t::r,y,s::ss=>reR e t y.1 s++reCs r y.2 ss
 | .dat _::r,y,_::ss=>reCs r y ss
 | .ptr _ _::r,y,_::ss=>reCs r y ss
 | .ref _::r,y,_::ss=>reCs r y ss
 | .pd _::r,y,_::ss=>reCs r y ss
 | .fn _ _::r,y,_::ss=>reCs r y ss
 | .mp::r,y,_::ss=>reCs r y ss
 | .bx _::r,y,_::ss=>reCs r y ss
 | .vw _ _::r,y,_::ss=>reCs r y ss
 | .any::r,y,_::ss=>reCs r y ss
 | _::_,_,[]=>[]
def QdM:(cs:List CK)→denC cs→Qcv cs→Bool
 | [],_,_=>true
 | .own _ _::r,x,y=>x.1.length==y.1.length && QdM r x.2 y.2
 | .dat _::r,x,y=>QdM r x.2 y
 | .ptr _ _::r,x,y=>QdM r x.2 y
 | .ref _::r,x,y=>QdM r x.2 y
 | .pd _::r,x,y=>QdM r x.2 y
 | .fn _ _::r,x,y=>QdM r x.2 y
 | .mp::r,x,y=>QdM r x.2 y
 | .bx _::r,x,y=>QdM r x.2 y
 | .vw _ _::r,x,y=>QdM r x.2 y
 | .any::r,x,y=>QdM r x.2 y
def lenQ:(ps:List PK)→denP ps→denQ ps→Bool
 | [],_,_=>true
 | .val _::r,x,y=>lenQ r x.2 y
 | .ptr _::r,x,y=>lenQ r x.2 y
 | .fn _ _::r,x,y=>lenQ r x.2 y
 | .box _ _::r,x,y=>lenQ r x.2 y.2
 | .row _ _::r,x,y=>x.1.length==y.1.length && lenQ r x.2 y.2
 | .agg cs::r,x,y=>QdM cs x.1 y.1 && lenQ r x.2 y.2
def Qgb (cs:List S1) (off:Nat) (ys:List S1):List S1:=cs.take off++ys++cs.drop (off+ys.length)
def outA (nm:Nat) (H:List (Nat×Ob)):(ps:List PK)→denQ ps→List SV→List (Nat×Ob)×List (Nat×Ob)
 | .val _::r,y,_::xs=>outA nm H r y xs
 | .ptr _::r,y,_::xs=>outA nm H r y xs
 | .fn _ _::r,y,_::xs=>outA nm H r y xs
 | .box _ co::r,y,x::xs=>
  let q:=outA (nm+30) H r y.2 xs
  match x with
  | .s (.p o off)=>match look H o with
   | some (.box cs)=>let c:=mkCs nm co y.1; (c.2++q.1,(o,.box (Qgb cs off c.1))::q.2)
   | _=>q
  | _=>q
 | .row e t::r,y,x::xs=>
  let q:=outA nm H r y.2 xs
  (q.1,(match x with | .s s=>reR e t y.1 s | _=>[])++q.2)
 | .agg cs::r,y,x::xs=>
  let q:=outA nm H r y.2 xs
  (q.1,(match x with | .g ss=>reCs cs y.1 ss | _=>[])++q.2)
 | _,_,_=>([],[])
def mkVs (nm:Nat):(rs:List VK)→denV rs→List SV×List (Nat×Ob)
 | [],_=>([],[])
 | k::r,y=>let q:=mkV nm k y.1; let q':=mkVs (nm+30) r y.2; (q.1::q'.1,q.2++q'.2)
def tup:List SV→Sl
 | [x]=> .v x
 | l=> .t l
def QeJ (nm:Nat):List CK→List CK
 | []=>[]
 | .own _ _::r=> .ref nm::QeJ (nm+1) r
 | .dat t::r=> .dat t::QeJ (nm+1) r
 | .ptr o f::r=> .ptr o f::QeJ (nm+1) r
 | .ref o::r=> .ref o::QeJ (nm+1) r
 | .pd t::r=> .pd t::QeJ (nm+1) r
 | .fn f ts::r=> .fn f ts::QeJ (nm+1) r
 | .mp::r=> .mp::QeJ (nm+1) r
 | .bx t::r=> .bx t::QeJ (nm+1) r
 | .vw e t::r=> .vw e t::QeJ (nm+1) r
 | .any::r=> .any::QeJ (nm+1) r
def refX (nm:Nat):(cs:List CK)→denC cs→denC (QeJ nm cs)
 | [],_=>()
 | .own _ _::r,x=>((),refX (nm+1) r x.2)
 | .dat _::r,x=>(x.1,refX (nm+1) r x.2)
 | .ptr _ _::r,x=>(x.1,refX (nm+1) r x.2)
 | .ref _::r,x=>(x.1,refX (nm+1) r x.2)
 | .pd _::r,x=>(x.1,refX (nm+1) r x.2)
 | .fn _ _::r,x=>(x.1,refX (nm+1) r x.2)
 | .mp::r,x=>(x.1,refX (nm+1) r x.2)
 | .bx _::r,x=>(x.1,refX (nm+1) r x.2)
 | .vw _ _::r,x=>(x.1,refX (nm+1) r x.2)
 | .any::r,x=>(x.1,refX (nm+1) r x.2)
def Qco (nm:Nat) (z:List (Nat×TypeId×Ty)):List CK→List (Nat×TypeId×Ty)
 | []=>z
 | .own e t::r=>(nm,e,t)::Qco (nm+1) z r
 | .dat _::r=>Qco (nm+1) z r
 | .ptr _ _::r=>Qco (nm+1) z r
 | .ref _::r=>Qco (nm+1) z r
 | .pd _::r=>Qco (nm+1) z r
 | .fn _ _::r=>Qco (nm+1) z r
 | .mp::r=>Qco (nm+1) z r
 | .bx _::r=>Qco (nm+1) z r
 | .vw _ _::r=>Qco (nm+1) z r
 | .any::r=>Qco (nm+1) z r
def rowX (nm:Nat) {z:List (Nat×TypeId×Ty)} (d:denW z):(cs:List CK)→denC cs→denW (Qco nm z cs)
 | [],_=>d
 | .own _ _::r,x=>(x.1,rowX (nm+1) d r x.2)
 | .dat _::r,x=>rowX (nm+1) d r x.2
 | .ptr _ _::r,x=>rowX (nm+1) d r x.2
 | .ref _::r,x=>rowX (nm+1) d r x.2
 | .pd _::r,x=>rowX (nm+1) d r x.2
 | .fn _ _::r,x=>rowX (nm+1) d r x.2
 | .mp::r,x=>rowX (nm+1) d r x.2
 | .bx _::r,x=>rowX (nm+1) d r x.2
 | .vw _ _::r,x=>rowX (nm+1) d r x.2
 | .any::r,x=>rowX (nm+1) d r x.2
def QfV (i:Nat):List PK→List (Nat×VK)
 | []=>[]
 | .val t::r=>(i,.s (.dat t))::QfV (i+1) r
 | .ptr t::r=>(i,.s (.pd t))::QfV (i+1) r
 | .fn f ts::r=>(i,.s (.fn f ts))::QfV (i+1) r
 | .box _ _::r=>(i,.s (.ptr (9000000+i) 0))::QfV (i+1) r
 | .row _ _::r=>(i,.s (.ref (9000100+100*i)))::QfV (i+1) r
 | .agg cs::r=>(i,.g (QeJ (9000100+100*i) cs))::QfV (i+1) r
def QaS (i:Nat):List PK→List (Nat×List CK)
 | []=>[]
 | .val _::r=>QaS (i+1) r
 | .ptr _::r=>QaS (i+1) r
 | .fn _ _::r=>QaS (i+1) r
 | .box ci _::r=>(9000000+i,ci)::QaS (i+1) r
 | .row _ _::r=>QaS (i+1) r
 | .agg _::r=>QaS (i+1) r
def QbB (i:Nat):List PK→List (Nat×TypeId×Ty)
 | []=>[]
 | .val _::r=>QbB (i+1) r
 | .ptr _::r=>QbB (i+1) r
 | .fn _ _::r=>QbB (i+1) r
 | .box _ _::r=>QbB (i+1) r
 | .row e t::r=>(9000100+100*i,e,t)::QbB (i+1) r
 | .agg cs::r=>Qco (9000100+100*i) (QbB (i+1) r) cs
def ptrC (bs:List Nat):CK→Bool
 | .ptr o _=>bs.contains o
 | .ref o=>bs.contains o
 | .bx _=>false
 | _=>true
def aggC:CK→Bool
 | .ptr _ _=>false
 | .vw _ _=>false
 | .ref _=>false
 | .mp=>false
 | .bx _=>false
 | _=>true
def resC:CK→Bool
 | .ptr _ _=>false
 | .ref _=>false
 | .pd _=>false
 | .fn _ ts=>ts.isEmpty
 | .mp=>false
 | .bx _=>false
 | _=>true
def resK:VK→Bool
 | .s c=>resC c
 | .g cs=>cs.all resC
 | .b _=>false
def QdP:PK→Bool
 | .box ci co=>ci.all aggC && co.all resC
 | .agg cs=>cs.all aggC
 | _=>true
def psOk (ps:List PK):Bool:=QcO ((QaS 0 ps).map (·.1)++(QbB 0 ps).map (·.1)) && ps.all QdP
def Qrf (dst:Option Nat) (x:Sl) (env:List (Nat×Sl)):List (Nat×Sl):=match dst with | some j=>(j,x)::env | none=>env
def nlOk:Bool→List SV→Bool
 | false,_=>true
 | true,.s .nls::_=>true
 | _,_=>false
def QjU {R:Type} (nm:Nat) (cn:Con) (xs:List SV) (dst:Option Nat) (σ:St) (K:St→Option R):Option R:=
 (Qbb σ cn.ps xs).bind fun q=>
  if nlOk cn.nl xs && QcO q.2.1 && QcO q.2.2 && QfJ σ.H q.2.1 q.2.2 cn.ps xs && psOk cn.ps && nlAs σ.H cn.ps xs then
   (cn.F q.1).bind fun y=>
    let rv:=mkVs nm cn.rs y.1
    let ov:=outA (nm+250) σ.H cn.ps y.2 xs
    let fr:=if Qha cn.ps cn.rs then (QbU σ.H cn.ps xs).filter (fun o=>!(q.2.1.contains o)) else []
    if lenQ cn.ps q.1 y.2 && Qdk σ.H (rv.2++ov.1) then
     K { nt:=σ.nt,env:=Qrf dst (tup rv.1) σ.env,H:=(rv.2++ov.1)++(ov.2++(q.2.1.map (fun o=>(o,Ob.dead))++frz σ.H fr)) }
    else none
  else none
def tokA:List Cap→List SV→Option (Nat×Nat×Nat×SV)
 | [],[.s (.dp b i off .tok),y]=>some (b,i,off,y)
 | _,_=>none
def QgR {R:Type} (cn:Con) (b i off:Nat) (y:SV) (dst:Option Nat) (σ:St) (K:St→Option R):Option R:=
 match cn with
 | ⟨[.row e1 t1,.val t2],[.s (.dat t3)],F,false⟩=>match look σ.H b with
  | some (.row e u xs)=>
   if ((e1=inn e∧deep e1=false)∧lent e=true∧deep e=true)∧QaR t1=false∧QaR t2=false∧QaR t3=false then
    (toD false σ.H t2 y).bind fun n=>(xs[i]?).bind fun z=>(sub u z off (.slice t1)).bind fun ys=>
     (F (ys,n,())).bind fun r=>(upd u z off (.slice t1) r.2.1).bind fun z'=>
      if r.2.1.length=ys.length then K ((σ.put b (.row e u (xs.set i z'))).sets dst (.s (.d t3 r.1.1))) else none
   else none
  | _=>none
 | _=>none
def dgat (H:List (Nat×Ob)) (e1:TypeId):(t:Ty)→List S1→Option (den t×List Nat×List S1)
 | .pair a b,cs=>match dgat H e1 a cs with
  | some (x,n,r)=>match dgat H e1 b r with
   | some (y,n',r')=>some ((x,y),n++n',r')
   | none=>none
  | none=>none
 | .unit,cs=>some ((),[],cs)
 | .slice t,c::r=>match c with
  | .nls=>some ([],[],r)
  | .sl o=>match look H o with
   | some (.row e0 t0 ys)=>if e0=e1∧deep e0=false∧QaR t0=false then (match cst (.slice t0) (.slice t) ys with | some z=>some (z,[o],r) | none=>none) else none
   | _=>none
  | _=>none
 | .int k,c::r=>match c with
  | .d s z=>match cst s (.int k) z with | some z'=>some (z',[],r) | none=>none
  | _=>none
 | .bool,c::r=>match c with
  | .d s z=>match cst s .bool z with | some z'=>some (z',[],r) | none=>none
  | _=>none
 | .str,c::r=>match c with
  | .d s z=>match cst s .str z with | some z'=>some (z',[],r) | none=>none
  | _=>none
 | .opq,_::_=>none
 | _,[]=>none
section
variable {R:Type}
def QpX (H:List (Nat×Ob)) (t:Ty) (x:SV):Option (den t×List (Nat×Ob)):=
 match toD false (frz H (Qu H x)) t x with
 | some y=>some (y,frz H (Qu H x))
 | none=>none
def Qif:Nat→List (Nat×Operand)→Bool
 | _,[]=>true
 | n,(i,_)::r=>i==n && Qif (n+1) r
def QrS (fields:List (Nat×TypeId)) (szs:TypeId→Option Nat) (cs:List S1):List (Nat×List S1)→Option (List S1)
 | []=>some cs
 | (i,ys)::r=>match fields[i]? with
  | some (off,t)=>if szs t=some ys.length∧off+ys.length≤cs.length then QrS fields szs (Qgb cs off ys) r else none
  | none=>none
def lenOf (t:Ty) (H:List (Nat×Ob)) (x:SV):Option Nat:=
 match t with
 | .str=>match x with
  | .s (.d .str s)=>some s.length
  | _=>none
 | .slice _=>match x with
  | .s (.d (.slice _) xs)=>some xs.length
  | .s .nls=>some 0
  | .s (.sl o)=>match look H o with
   | some (.row _ _ xs)=>some xs.length
   | some (.fro _ xs)=>some xs.length
   | _=>none
  | .s (.vw o lo n)=>match look H o with
   | some (.row _ _ _)=>some n
   | some (.fro _ xs)=>some ((xs.drop lo).take n).length
   | _=>none
  | _=>none
 | _=>none
def ownD (r:Row) (H:List (Nat×Ob)) (t:Ty) (y:SV):Option (den t×List Nat×List S1):=if r.app=true then dgat H (inn r.made) t (cellsOf y) else none
def tokS:SV→Option (Nat×Nat×Nat)
 | .s (.dp b i off .tok)=>some (b,i,off)
 | _=>none
def bld1 (T:Tab) (σ:St) (dst:Option Nat) (t:TypeId):List (Nat×Operand)→Option (Nat×Nat×Row×Row×SV)
 | [(k,x)]=>match dst,look T t with
  | some j,some r=>match look T r.elem,ev σ x with
   | some q,some y=>some (k,j,r,q,y)
   | _,_=>none
  | _,_=>none
 | _=>none
def rowD (H:List (Nat×Ob)):SV→Option (Nat×TypeId)
 | .s (.sl b)=>match look H b with
  | some (.row e _ _)=>if deep e=true then some (b,e) else none
  | _=>none
 | _=>none
def vwOf (H:List (Nat×Ob)) (u:Ty):SV→Option (Nat×Nat×Nat)
 | .s (.sl o)=>match look H o with
  | some (.row e s xs)=>if deep e=false∧s=u then some (o,0,xs.length) else none
  | _=>none
 | .s (.vw o lo n)=>match look H o with
  | some (.row e s _)=>if deep e=false∧s=u then some (o,lo,n) else none
  | _=>none
 | _=>none
def QwV:SV→Option Int
 | .s (.d (.int .i64) x)=>some x
 | _=>none
def optB (σ:St) (d:Int):Option Operand→Option Int
 | none=>some d
 | some o=>match ev σ o with | some x=>QwV x | none=>none
def splc {α:Type} (xs ys:List α) (lo n:Nat):List α:=xs.take lo++(ys.take n++xs.drop (lo+min n ys.length))
structure Out where
 x:Sl
 n:List (Nat×Ob)
 fr:List Nat
def QvL:SV→Option Cap
 | .s (.p o off)=>some (.p o off)
 | .s (.pd t x)=>some (.pd t x)
 | _=>none
def Qky:Tab→TypeId→Option (TypeId×TypeId)
 | [],_=>none
 | (t,r)::l,m=>match r.ty with
  | .bool=>match look r.fields m with
   | some k=>some (t,k)
   | none=>Qky l m
  | _=>Qky l m
def getM:List (Int×Bool)→Int→Bool
 | [],_=>false
 | p::r,n=>if p.1=n then p.2 else getM r n
def setM:List (Int×Bool)→Int→Bool→List (Int×Bool)
 | [],n,b=>[(n,b)]
 | p::r,n,b=>if p.1=n then (n,b)::r else p::setM r n b
def Qnf (σ:St):Operand→Option (List SV)
 | .tmp t=>match look σ.env t with
  | some (.t xs)=>some xs
  | _=>none
 | _=>none
def binC (T:Tab) (t:TypeId) (op:BinOp) (a b:SV) (K:S1→Option R):Option R:=
 match op,a,b with
 | .quo,.s (.d (.int k) x),.s (.d (.int l) y)=>if k=l then (if y=0 then none else K (.d (.int k) (k.wrap (x.tdiv y):Int))) else none
 | .rem,.s (.d (.int k) x),.s (.d (.int l) y)=>if k=l then (if y=0 then none else K (.d (.int k) (x.tmod y:Int))) else none
 | .shl,.s (.d (.int k) x),.s (.d (.int _) y)=>if y< 0 then none else K (.d (.int k) (k.wrap (x*2 ^ (min y.toNat k.bits)):Int))
 | .shr,.s (.d (.int k) x),.s (.d (.int _) y)=>if y< 0 then none else K (.d (.int k) (x.fdiv (2 ^ (min y.toNat k.bits)):Int))
 | .add,.s (.d .str x),.s (.d .str y)=>if x.length+y.length≤9223372036854775807 then K (.d .str (x++y)) else none
 | op,a,b=>(bin2 T t op a b).bind K
def val1 (x:SV):Option Out:=some { x:= .v x,n:=[],fr:=[] }
def kv (K:Out→Option R) (x:SV):Option R:=K { x:= .v x,n:=[],fr:=[] }
def Qal (T:Tab) (o:Oper) (σ:St) (K:Out→Option R):Option R:=
 match o.op with
 | .move x | .assign x=>match Qnf σ x with
  | some xs=>K { x:= .t xs,n:=[],fr:=[] }
  | none=>match ev σ x with
   | some y=>kv K y
   | none=>none
 | .pick c a b=>match ev σ c,ev σ a,ev σ b with
  | some (.s (.d .bool y)),some va,some vb=>if y then kv K va else kv K vb
  | _,_,_=>none
 | .alloc t=>match look T t,o.dst with
  | some r,some j=>if QU σ.H j=true then K { x:= .v (.s (.p j 0)),n:=[(j,.box (Qqi r.ty))],fr:=[] } else none
  | _,_=>none
 | .box t x=>match look T t,ev σ x,o.dst with
  | some r,some y,some j=>if (cellsOf y).length=sz r.ty∧QU σ.H j=true∧(cellsOf y).all known=true then
    K { x:= .v (.s (.p j 0)),n:=[(j,.box (cellsOf y))],fr:=[] } else none
  | _,_,_=>none
 | .build t parts=>match look T t,mapO (fun p=>(ev σ p.2).map fun y=>(p.1,cellsOf y)) parts.toList with
  | some r,some ps=>if isAg r.ty=false then none else match QrS r.fields (fun u=>(look T u).map fun q=>sz q.ty) (Qqi r.ty) ps with
   | some cs=>if ps.all (fun p=>p.2.all known)=true then kv K (.g cs) else none
   | none=>none
  | _,_=>none
 | .buildSlice t len parts=>match look T t,o.dst with
  | some r,some j=>match look T r.elem,mapO (fun p=>ev σ p.2) parts.toList with
   | some q,some xs=>
    if len=parts.toList.length∧Qif 0 parts.toList=true∧len*sz q.ty≤1000∧QU σ.H j=true∧(r.ty= .slice q.ty)∧deep r.elem=false then
     match mapO (toD false (frz σ.H (xs.flatMap (Qu σ.H))) q.ty) xs with
     | some ys=>K { x:= .v (.s (.sl j)),n:=[(j,.row r.elem q.ty ys)],fr:=xs.flatMap (Qu σ.H) }
     | none=>none
    else none
   | _,_=>none
  | _,_=>none
 | .load t a=>match look T t,ev σ a with
  | some r,some (.s (.p b off))=>match look σ.H b with
   | some (.box cs)=>
    if off+sz r.ty≤cs.length then
     (if isAg r.ty then kv K (.g ((cs.drop off).take (sz r.ty))) else match cs[off]? with | some c=>kv K (.s c) | none=>none)
    else none
   | _=>none
  | some r,some (.s (.pe b i off))=>match look σ.H b with
   | some (.row _ u xs)=>(xs[i]?).bind fun y=>(sub u y off r.ty).bind fun z=>kv K (.s (.d r.ty z))
   | _=>none
  | some r,some (.s (.dp b i off .ptr))=>match look σ.H b with
   | some (.row e u xs)=>(xs[i]?).bind fun y=>(sub u y off r.ty).bind fun z=>
    if deep e=false then none else if QaR r.ty=false then kv K (.s (.d r.ty z)) else if (lent e=true∧deep e=true)∧QwT r.ty=true then kv K (.s (.dp b i off .tok)) else none
   | _=>none
  | some r,some (.s (.pd u y))=>(ptrL r.ty u y).bind fun z=>kv K (.s z)
  | _,_=>none
 | .nilCheck x=>match ev σ x with
  | some (.s (.p b off))=>match look σ.H b with
   | some (.box _)=>kv K (.s (.p b off))
   | _=>none
  | some (.s (.pd u y))=>kv K (.s (.pd u y))
  | some (.s (.pe b i off))=>match look σ.H b with
   | some (.row _ _ _)=>kv K (.s (.pe b i off))
   | _=>none
  | _=>none
 | .binOp op t x y _=>match ev σ x,ev σ y with
  | some a,some b=>binC T t op a b fun r=>kv K (.s r)
  | _,_=>none
 | .unOp op _ x=>match op,ev σ x with
  | .not,some (.s (.d .bool b))=>kv K (.s (.d .bool (!b)))
  | .neg,some (.s (.d (.int k) n))=>kv K (.s (.d (.int k) (k.wrap (0-n):Int)))
  | _,_=>none
 | .convert u' u x=>match look T u',look T u,ev σ x with
  | some _,some r,some (.s (.d (.int _) n))=>match r.ty with
   | .int l=>kv K (.s (.d (.int l) (l.wrap n:Int)))
   | _=>none
  | _,_,_=>none
 | .makeSlice t l c=>match look T t,o.dst,ev σ l,ev σ c with
  | some r,some j,some (.s (.d (.int .i64) n)),some (.s (.d (.int .i64) m))=>match look T r.elem with
   | some q=>if r.ty= .slice q.ty∧QU σ.H j=true∧deep r.elem=false∧r.madeOk=true then (if n=m∧0≤n∧n*q.bytes≤140737488355328∧n≤9223372036854775807 then
     K { x:= .v (.s (.sl j)),n:=[(j,.row r.made q.ty (List.replicate n.toNat (Qbf q.ty)))],fr:=[] } else none) else none
   | none=>none
  | _,_,_,_=>none
 | .slice t x lo hi mx=>match mx,look T t,ev σ x with
  | none,some r,some y=>match r.ty with
   | .str=>match y with
    | .s (.d .str s)=>(optB σ 0 lo).bind fun l=>(optB σ s.length hi).bind fun h=>
     if 0≤l∧l≤h∧h≤s.length then kv K (.s (.d .str ((s.drop l.toNat).take (h.toNat-l.toNat)))) else none
    | _=>none
   | .slice u=>match vwOf σ.H u y with
    | some (o,l0,n0)=>(optB σ 0 lo).bind fun l=>(optB σ n0 hi).bind fun h=>
      if 0≤l∧l≤h∧h≤n0 then kv K (.s (.vw o (l0+l.toNat) (h.toNat-l.toNat))) else none
    | none=>(toD true σ.H (.slice u) y).bind fun xs=>(optB σ 0 lo).bind fun l=>(optB σ xs.length hi).bind fun h=>
      if 0≤l∧l≤h∧h≤xs.length then
       K { x:= .v (.s (.d (.slice u) ((xs.drop l.toNat).take (h.toNat-l.toNat)))),n:=[],fr:=Qu σ.H y } else none
   | _=>none
  | _,_,_=>none
 | .fieldAddr s x f=>match look T s with
  | some r=>if isAg r.ty=false then none else match r.fields[f]? with
   | some (off,u)=>match look T u with
    | some q=>if sz q.ty=0 then none else match ev σ x with
     | some (.s (.p b k))=>match look σ.H b with
      | some (.box _)=>kv K (.s (.p b (k+off)))
      | _=>none
     | some (.s (.pe b i k))=>match look σ.H b with
      | some (.row _ _ _)=>kv K (.s (.pe b i (k+off)))
      | _=>none
     | some (.s (.dp b i k .ptr))=>match look σ.H b with
      | some (.row e _ _)=>if deep e=true then kv K (.s (.dp b i (k+off) .ptr)) else none
      | _=>none
     | some (.s (.pd w y))=>if mark w=none∧mark q.ty=none then (sub w y off q.ty).bind fun z=>kv K (.s (.pd q.ty z)) else none
     | _=>none
    | none=>none
   | none=>none
  | none=>none
 | .field s x f=>match look T s with
  | some r=>if isAg r.ty=false then none else match r.fields[f]? with
   | some (off,u)=>match look T u,ev σ x with
    | some q,some (.g cs)=>if off+sz q.ty≤cs.length then
      (if isAg q.ty then kv K (.g ((cs.drop off).take (sz q.ty))) else match cs[off]? with | some c=>kv K (.s c) | none=>none) else none
    | some q,some (.s (.d w y))=>if isAg w then (sub w y off q.ty).bind fun z=>kv K (.s (.d q.ty z)) else none
    | _,_=>none
   | none=>none
  | none=>none
 | .indexAddr t x ix=>match look T t,ev σ x,ev σ ix with
  | some r,some (.s (.sl b)),some (.s (.d (.int _) i))=>match look σ.H b with
   | some (.row e u xs)=>if r.ty= .slice u then (if 0≤i∧i< xs.length then kv K (.s (if deep e then .dp b i.toNat 0 .ptr else .pe b i.toNat 0)) else none) else none
   | some (.fro u xs)=>if r.ty= .slice u∧mark u=none then (if 0≤i then (xs[i.toNat]?).bind fun y=>kv K (.s (.pd u y)) else none) else none
   | _=>none
  | some r,some (.s (.vw b lo n)),some (.s (.d (.int _) i))=>match look σ.H b with
   | some (.row e u _)=>if r.ty= .slice u∧deep e=false then (if 0≤i∧i< n then kv K (.s (.pe b (lo+i.toNat) 0)) else none) else none
   | some (.fro u xs)=>if r.ty= .slice u∧mark u=none then (if 0≤i then (((xs.drop lo).take n)[i.toNat]?).bind fun y=>kv K (.s (.pd u y)) else none) else none
   | _=>none
  | some r,some (.s (.dp b i off .tok)),some (.s (.d (.int _) j))=>match look σ.H b with
   | some (.row e u xs)=>match r.ty with
    | .slice t1=>if (lent e=true∧deep e=true)∧sz t1=1 then ((xs[i]?).bind fun z=>(sub u z off (.slice t1)).bind fun ys=>if 0≤j∧j< ys.length then kv K (.s (.dp b i off (.at j.toNat))) else none) else none
    | _=>none
   | _=>none
  | some r,some (.s (.d (.slice u) xs)),some (.s (.d (.int _) i))=>if r.ty= .slice u∧mark u=none then (if 0≤i then (xs[i.toNat]?).bind fun y=>kv K (.s (.pd u y)) else none) else none
  | _,_,_=>none
 | .index t x ix=>match look T t,ev σ x,ev σ ix with
  | some r,some (.s (.d .str s)),some (.s (.d (.int _) i))=>if r.ty= .str then (if 0≤i then (s[i.toNat]?).bind fun c=>kv K (.s (.d (.int .u8) (c.toNat:Int))) else none) else none
  | _,_,_=>none
 | .extract x i=>match x with
  | .tmp t=>match look σ.env t with
   | some (.t xs)=>match xs[i]? with
    | some y=>kv K y
    | none=>none
   | _=>none
  | _=>none
 | .call c=>match c.callee with
  | .builtin .len=>match c.args.toList,c.argTypes.toList with
   | [a],[t]=>match look T t,ev σ a with
    | some r,some x=>(lenOf r.ty σ.H x).bind fun n=>kv K (.s (.d (.int .i64) (n:Int)))
    | _,_=>none
   | _,_=>none
  | .builtin .max=>match c.args.toList with
   | [a,b]=>match ev σ a,ev σ b with
    | some (.s (.d (.int k) x)),some (.s (.d (.int l) y))=>if k=l then kv K (.s (.d (.int k) (if y > x then y else x:Int))) else none
    | _,_=>none
   | _=>none
  | .builtin .min=>match c.args.toList with
   | [a,b]=>match ev σ a,ev σ b with
    | some (.s (.d (.int k) x)),some (.s (.d (.int l) y))=>if k=l then kv K (.s (.d (.int k) (if y< x then y else x:Int))) else none
    | _,_=>none
   | _=>none
  | .builtin .copy=>match c.args.toList,c.argTypes.toList with
   | [s,x],[t,_]=>match look T t,ev σ s,ev σ x with
    | some r,some d,some y=>match look T r.elem with
     | some q=>if r.ty= .slice q.ty then (vwOf σ.H q.ty d).bind fun v=>match look σ.H v.1 with
      | some (.row e u xs)=>(toD true σ.H (.slice q.ty) y).bind fun ys=>(cst (.slice u) (.slice q.ty) xs).bind fun xs'=>
       if QcC σ.H y=true then (if 0< v.2.2∧0< ys.length then
        K { x:= .v (.s (.d (.int .i64) ((min v.2.2 ys.length:Nat):Int))),n:=[(v.1,.row e q.ty (splc xs' ys v.2.1 v.2.2))],fr:=[] } else none) else none
      | _=>none
      else none
     | none=>none
    | _,_,_=>none
   | _,_=>none
  | _=>none
 | .makeMap _ r=>match r,o.dst with
  | none,some j=>if QU σ.H j=true then K { x:= .v (.s (.mp j)),n:=[(j,.map [])],fr:=[] } else none
  | _,_=>none
 | .lookup t m x ok=>match ok,Qky T t,ev σ m,ev σ x with
  | false,some _,some (.s (.mp b)),some (.s (.d (.int .i64) n))=>match look σ.H b with
   | some (.map es)=>kv K (.s (.d .bool (getM es n)))
   | _=>none
  | _,_,_,_=>none
 | .makeFunc g first caps=>match g,first.toList,mapO (ev σ) caps.toList with
  | .func f,[],some vs=>match mapO QvL vs with
   | some l=>kv K (.s (.fn f l))
   | none=>none
  | _,_,_=>none
 | _=>none
def QI (T:Tab) (o:Oper) (σ:St):Option Out:=Qal T o σ some
def addO (σ:St) (dst:Option Nat) (q:Out):St:=
 { nt:=σ.nt,env:=match dst with | some j=>(j,q.x)::σ.env | none=>σ.env,H:=q.n++frz σ.H q.fr }
def opR (T:Tab) (G:Env) (nm:Nat) (o:Oper) (σ:St) (K:St→Option R):Option R:=
 match o.op with
 | .store t a x=>match look T t,ev σ a,ev σ x with
  | some r,some (.s (.p b off)),some y=>match look σ.H b with
   | some (.box cs)=>
    if (cellsOf y).length=sz r.ty∧off+sz r.ty≤cs.length∧(cellsOf y).all known=true then K ((σ.put b (.box (Qgb cs off (cellsOf y)))).sets o.dst (.s .any)) else none
   | _=>none
  | some r,some (.s (.pe b i off)),some y=>match QpX σ.H r.ty y with
   | some (v,H')=>match look H' b with
    | some (.row e u xs)=>(xs[i]?).bind fun z=>(upd u z off r.ty v).bind fun z'=>K (({ σ with H:=H' }.put b (.row e u (xs.set i z'))).sets o.dst (.s .any))
    | _=>none
   | none=>none
  | some r,some (.s (.dp b i off (.at j))),some y=>match look σ.H b with
   | some (.row e u xs)=>if ((lent e=true∧deep e=true)∧deep (inn e)=false)∧QaR r.ty=false∧sz r.ty=1 then
     (toD false σ.H r.ty y).bind fun v=>(xs[i]?).bind fun z=>(sub u z off (.slice r.ty)).bind fun ys=>(upd u z off (.slice r.ty) (ys.set j v)).bind fun z'=>K ((σ.put b (.row e u (xs.set i z'))).sets o.dst (.s .any))
    else none
   | _=>none
  | some r,some (.s (.dp b i off .ptr)),some y=>match look σ.H b with
   | some (.row e u xs)=>if deep e=false then none else if QaR r.ty=false then
     (toD false σ.H r.ty y).bind fun v=>(xs[i]?).bind fun z=>(sub u z off r.ty).bind fun _=>(upd u z off r.ty v).bind fun z'=>K ((σ.put b (.row e u (xs.set i z'))).sets o.dst (.s .any))
    else (dgat σ.H (inn e) r.ty (cellsOf y)).bind fun v=>
     if ((QbM e (e % 1000000000000)=true∧b< 9000000)∧(cellsOf y).all known=true)∧QcO v.2.1=true∧(v.2.1.all fun o=>decide (o< 9000000) && decide (o≠b))=true∧v.2.2.isEmpty=true then
      (xs[i]?).bind fun z=>(upd u z off r.ty v.1).bind fun z'=>
       K ({ σ with H:=(b,.row (e % 1000000000000) u (xs.set i z'))::(v.2.1.map (fun o=>(o,Ob.dead))++σ.H) }.sets o.dst (.s .any))
     else none
   | _=>none
  | _,_,_=>none
 | .mapUpdate t m x v=>match o.dst,Qky T t,ev σ m,ev σ x,ev σ v with
  | none,some _,some (.s (.mp b)),some (.s (.d (.int .i64) n)),some (.s (.d .bool y))=>match look σ.H b with
   | some (.map es)=>K (σ.put b (.map (setM es n y)))
   | _=>none
  | _,_,_,_,_=>none
 | .buildSlice t len parts=>match bld1 T σ o.dst t parts.toList with
  | some (k,j,r,q,y)=>match tokS y with
   | some (b,i,off)=>match look σ.H b with
    | some (.row e u xs)=>
     if (((k=0∧len=1)∧sz q.ty=1)∧(r.ty= .slice q.ty∧deep r.elem=false))∧((lent e=true∧deep e=true)∧deep (raw e)=false)∧b< 9000000∧QU σ.H j=true then
      (xs[i]?).bind fun z=>(sub u z off q.ty).bind fun y=>K (((σ.put b (.row (raw e) u xs)).put j (.row r.elem q.ty [y])).set j (.s (.sl j)))
     else none
    | _=>none
   | none=>match ownD r σ.H q.ty y with
    | some v=>
     if (((k=0∧len=1)∧sz q.ty≤1000)∧(r.ty= .slice q.ty∧r.madeOk=true∧deep r.made=true))∧((QU σ.H j=true∧(cellsOf y).all known=true)∧QcO v.2.1=true)∧(v.2.1.all fun o=>decide (o< 9000000))=true∧v.2.2.isEmpty=true then
      K (({ σ with H:=(j,.row r.made q.ty [v.1])::(v.2.1.map (fun o=>(o,Ob.dead))++σ.H) }:St).set j (.s (.sl j)))
     else none
    | none=>Qal T o σ fun q=>K (addO σ o.dst q)
  | none=>Qal T o σ fun q=>K (addO σ o.dst q)
 | .call c=>match c.callee with
  | .builtin .append=>match c.args.toList,c.argTypes.toList,o.dst with
   | [s,x],[t,t'],some j=>match look T t with
    | some r=>match look T r.elem with
     | some q=>if r.ty= .slice q.ty∧t=t'∧deep r.elem=false then (match ev σ s,ev σ x with
      | some (.s (.sl b)),some y=>match look σ.H b with
       | some (.row e u xs)=>if deep e=true then (match rowD σ.H y with
        | some (b2,e2)=>(cst (.slice u) (.slice q.ty) xs).bind fun xs'=>(toD true σ.H (.slice q.ty) y).bind fun ys=>
         if ((QbM e (e % 1000000000000)=true∧QbM e e2=true)∧raw e=r.elem∧0< q.bytes)∧(b≠b2∧b< 9000000∧b2< 9000000)∧QU σ.H nm=true then (if (xs'.length+ys.length)*q.bytes≤140737488355328 then
          K ((((σ.put b .dead).put b2 .dead).put nm (.row (e % 1000000000000) q.ty (xs'++ys))).set j (.s (.sl nm))) else none) else none
        | none=>none)
        else (toD true σ.H (.slice q.ty) y).bind fun ys=>(cst (.slice u) (.slice q.ty) xs).bind fun xs'=>
         if e=r.elem∧0< q.bytes∧(Qu σ.H y).contains b=false∧QU σ.H nm=true∧QcC σ.H y=true then (if (xs'.length+ys.length)*q.bytes≤140737488355328 then
          K (((σ.put b .dead).put nm (.row r.elem q.ty (xs'++ys))).set j (.s (.sl nm))) else none) else none
       | _=>none
      | some (.s .nls),some y=>match rowD σ.H y with
       | some (b2,e2)=>(toD true σ.H (.slice q.ty) y).bind fun ys=>
        if (QbM e2 (e2 % 1000000000000)=true∧raw e2=r.elem∧0< q.bytes)∧b2< 9000000∧QU σ.H nm=true then (if ys.length*q.bytes≤140737488355328 then
         K (((σ.put b2 .dead).put nm (.row (e2 % 1000000000000) q.ty ys)).set j (.s (.sl nm))) else none) else none
       | none=>(toD true σ.H (.slice q.ty) y).bind fun ys=>if 0< q.bytes∧QU σ.H nm=true∧QcC σ.H y=true then (if ys.length*q.bytes≤140737488355328 then
        K ((σ.put nm (.row r.elem q.ty ys)).set j (.s (.sl nm))) else none) else none
      | _,_=>none) else none
     | none=>none
    | none=>none
   | _,_,_=>none
  | .value f=>match ev σ f,mapO (ev σ) c.args.toList with
   | some (.s (.fn g l)),some xs=>match tokA l xs with
    | some q=>match Qmw G g xs with
     | some cn=>QgR cn q.1 q.2.1 q.2.2.1 q.2.2.2 o.dst σ K
     | none=>none
    | none=>match Qmw G g (xs++l.map fun c=> .s (capS c)) with
     | some cn=>QjU nm cn (xs++l.map fun c=> .s (capS c)) o.dst σ K
     | none=>none
   | _,_=>none
  | _=>Qal T o σ fun q=>K (addO σ o.dst q)
 | _=>Qal T o σ fun q=>K (addO σ o.dst q)
def QK:Option Nat→Nat→Bool
 | none,_=>true
 | some j,n=>decide (j< n)
def opsR (T:Tab) (G:Env) (all:Array Oper):Nat→List Oper→St→(St→Option R)→Option R
 | _,[],σ,K=>K σ
 | nm,o::r,σ,K=>if QK o.dst σ.nt=false then none else match o.guard with
  | none=>opR T G nm o σ fun σ'=>opsR T G all (nm+500) r σ' K
  | some (j,want)=>match ((all[j]?).bind (·.dst)) with
   | some t=>match look σ.env t with
    | some (.v (.s (.d .bool b)))=>
     if b=want then opR T G nm o (σ.set t (.s (.d .bool want))) fun σ'=>opsR T G all (nm+500) r σ' K
     else opsR T G all (nm+500) r ((σ.set t (.s (.d .bool (!want)))).skip o.dst) K
    | some (.t [])=>opsR T G all (nm+500) r (σ.skip o.dst) K
    | _=>none
   | none=>none
def Qh:S1→List Nat
 | .fn _ l=>l.flatMap fun c=>match c with | .p o _=>[o] | .pd _ _=>[]
 | .sl o=>[o]
 | .vw o _ _=>[o]
 | .p o _=>[o]
 | .pe o _ _=>[o]
 | .dp o _ _ _=>[o]
 | .mp o=>[o]
 | _=>[]
def Qi:SV→List Nat
 | .s x=>Qh x
 | .g cs=>cs.flatMap Qh
def Qxu:Sl→List Nat
 | .v x=>Qi x
 | .t xs=>xs.flatMap Qi
def QhJ (H:List (Nat×Ob)) (o:Nat):List Nat:=match look H o with | some (.box cs)=>cs.flatMap Qh | _=>[]
def Qfy (σ:St) (l:List Nat):List Nat:=l.flatMap fun t=>match look σ.env t with | some s=>Qxu s | none=>[]
def QaK (H:List (Nat×Ob)) (l:List Nat):List Nat:=l++l.flatMap (QhJ H)
structure It where
 anc:Nat
 rd:List Nat
 dst:Option Nat
 tch:List Nat
 wr:List Nat
def Qiw (o:Oper):List Nat:=(o.after.toList.filter (Region.binds .any)).map (·.on)
def Qef (n:Nat) (acc:List It) (o:Oper):Nat:=(Qiw o).foldl (fun m e=>Nat.lor m (Nat.lor (Nat.pow 2 e) (match acc[Nat.sub (Nat.sub n 1) e]? with | some it=>it.anc | none=>0))) 0
def wrOf (σ σ':St):List Nat:=(σ'.H.take (σ'.H.length-σ.H.length)).map (·.1)
def isMv:Op→Bool
 | .move _=>true
 | _=>false
def isAd:Op→Bool
 | .load _ _=>true
 | .fieldAddr _ _ _=>true
 | .nilCheck _=>true
 | _=>false
def itOf (all:Array Oper) (anc:Nat) (o:Oper) (σ σ':St):It:=
 { anc,rd:=o.looksAt all,dst:=o.dst,tch:=(match isMv o.op with | true=>[] | false=>match isAd o.op with | true=>Qfy σ (o.looksAt all) | false=>QaK σ.H (Qfy σ (o.looksAt all)))++wrOf σ σ',wr:=wrOf σ σ' }
def Qhr (all:Array Oper) (anc:Nat) (o:Oper):It:=
 { anc,rd:=o.looksAt all,dst:=o.dst,tch:=[],wr:=[] }
def disj (l m:List Nat):Bool:=l.all fun x=>!(m.contains x)
def Qny (x y:It):Bool:=
 disj x.wr y.tch && disj y.wr x.tch && disj x.wr y.wr && (match x.dst with | some d=>!(y.rd.contains d) && !(y.dst==some d) | none=>true) &&
  (match y.dst with | some d=>!(x.rd.contains d) | none=>true)
def chkI:Nat→Nat→Nat→List It→It→Bool
 | 0,rest,_,_,_=>Nat.beq rest 0
 | n+1,rest,k,acc,y=>match Nat.beq rest 0 with
  | true=>true
  | false=>match acc[Nat.sub (Nat.sub k 1) (Nat.log2 rest)]? with
   | some x=>Qny x y && chkI n (Nat.sub rest (Nat.pow 2 (Nat.log2 rest))) k acc y
   | none=>false
def chkN (k:Nat) (acc:List It) (y:It):Bool:=chkI k (Nat.xor (Nat.sub (Nat.pow 2 k) 1) y.anc) k acc y
def opsD (T:Tab) (G:Env) (all:Array Oper):Nat→List Oper→St→Nat→List It→(St→Option R)→Option R
 | _,[],σ,_,_,K=>K σ
 | nm,o::r,σ,k,acc,K=>if QK o.dst σ.nt=false∨(Qiw o).all (fun e=>Nat.blt e k)=false then none else match o.guard with
  | none=>opR T G nm o σ fun σ'=>if chkN k acc (itOf all (Qef k acc o) o σ σ')=true then opsD T G all (nm+500) r σ' (k+1) (itOf all (Qef k acc o) o σ σ'::acc) K else none
  | some (j,want)=>match ((all[j]?).bind (·.dst)) with
   | some t=>match look σ.env t with
    | some (.v (.s (.d .bool b)))=>
     if b=want then opR T G nm o (σ.set t (.s (.d .bool want))) fun σ'=>
      if chkN k acc (itOf all (Qef k acc o) o (σ.set t (.s (.d .bool want))) σ')=true then opsD T G all (nm+500) r σ' (k+1) (itOf all (Qef k acc o) o (σ.set t (.s (.d .bool want))) σ'::acc) K else none
     else if chkN k acc (Qhr all (Qef k acc o) o)=true then opsD T G all (nm+500) r ((σ.set t (.s (.d .bool (!want)))).skip o.dst) (k+1) (Qhr all (Qef k acc o) o::acc) K else none
    | some (.t [])=>if chkN k acc (Qhr all (Qef k acc o) o)=true then opsD T G all (nm+500) r (σ.skip o.dst) (k+1) (Qhr all (Qef k acc o) o::acc) K else none
    | _=>none
   | none=>none
end
inductive Ex
 | normal
 | exit (id:Nat)
 | ret
 deriving DecidableEq
@[reducible] def denS:List (Nat×VK)→Type
 | []=>Unit
 | c::r=>c.2.den×denS r
@[reducible] def denB:List (Nat×List CK)→Type
 | []=>Unit
 | c::r=>denC c.2×denB r
structure Shp where
 slots:List (Nat×VK)
 boxes:List (Nat×List CK)
 rows:List (Nat×TypeId×Ty):=[]
@[reducible] def Shp.den (s:Shp):Type:=denS s.slots×denB s.boxes×denW s.rows
def mkS (nm:Nat):(l:List (Nat×VK))→denS l→List (Nat×Sl)×List (Nat×Ob)
 | [],_=>([],[])
 | (i,c)::r,x=>let q:=mkV nm c x.1; let q':=mkS (nm+30) r x.2; ((i,.v q.1)::q'.1,q.2++q'.2)
def mkB (nm:Nat):(l:List (Nat×List CK))→denB l→List (Nat×Ob)×List (Nat×Ob)
 | [],_=>([],[])
 | (i,cs)::r,x=>let q:=mkCs nm cs x.1; let q':=mkB (nm+30) r x.2; ((i,.box q.1)::q'.1,q.2++q'.2)
def mkW:(l:List (Nat×TypeId×Ty))→denW l→List (Nat×Ob)
 | [],_=>[]
 | (o,e,t)::r,x=>(o,.row e t x.1)::mkW r x.2
def mk (nt:Nat) (s:Shp) (x:s.den):St:=
 let q:=mkS 500000 s.slots x.1
 let b:=mkB 600000 s.boxes x.2.1
 { nt,env:=q.1,H:=(q.2++(b.2++mkW s.rows x.2.2))++b.1 }
def Qfi (σ:St):Bool:=QcO (σ.H.map (·.1))
def ptrV (bs:List Nat):VK→Bool
 | .s c=>ptrC bs c
 | .g cs=>cs.all (ptrC bs)
 | .b _=>false
def Qvy (s:Shp):Bool:=
 let bs:=s.boxes.map (·.1)++s.rows.map (·.1)
 s.slots.all (fun p=>ptrV bs p.2) && s.boxes.all (fun p=>p.2.all (ptrC bs))
def unS (H:List (Nat×Ob)) (env:List (Nat×Sl)):(l:List (Nat×VK))→Option (denS l×List Nat)
 | []=>some ((),[])
 | (i,c)::r=>match look env i with
  | some (.v v)=>match unV H c v with
   | some (x,l)=>match unS H env r with
    | some (y,m)=>some ((x,y),l++m)
    | none=>none
   | none=>none
  | _=>none
def unB (H:List (Nat×Ob)):(l:List (Nat×List CK))→Option (denB l×List Nat)
 | []=>some ((),[])
 | (i,cs)::r=>match look H i with
  | some (.box ss)=>match unCs H cs ss with
   | some (x,l)=>match unB H r with
    | some (y,m)=>some ((x,y),l++m)
    | none=>none
   | none=>none
  | _=>none
def QrU (H:List (Nat×Ob)) (env:List (Nat×Sl)) (l:List Nat):List (Nat×VK)→Bool
 | []=>true
 | (i,c)::r=>(match look env i with | some (.v v)=>Qmo H l c v | _=>true) && QrU H env l r
def QrT (H:List (Nat×Ob)) (l:List Nat):List (Nat×List CK)→Bool
 | []=>true
 | (i,cs)::r=>(match look H i with | some (.box ss)=>Qcx H l cs ss | _=>true) && QrT H l r
def unW (H:List (Nat×Ob)):(l:List (Nat×TypeId×Ty))→Option (denW l)
 | []=>some ()
 | (o,e,t)::r=>match look H o with
  | some (.row e' t' xs)=>if QbM e' e=true then (match cst (.slice t') (.slice t) xs with
   | some ys=>match unW H r with
    | some y=>some (ys,y)
    | none=>none
   | none=>none) else none
  | _=>none
def un (s:Shp) (σ:St):Option s.den:=
 match unS σ.H σ.env s.slots with
 | some (x,l)=>match unB σ.H s.boxes with
  | some (y,m)=>match unW σ.H s.rows with
   | some z=>
    let n:=s.rows.map (·.1)
    if QcO ((l++m)++n) && QcO (s.boxes.map (·.1)) && Qvy s && QrU σ.H σ.env ((l++m)++n) s.slots && QrT σ.H ((l++m)++n) s.boxes && Qfi (mk 0 s (x,y,z)) &&
      σ.H.all (fun p=>decide (p.1< 9000000) || (s.boxes.map (·.1)++n).contains p.1) then some (x,y,z) else none
   | none=>none
  | none=>none
 | none=>none
@[reducible] def denO:List (Ex×Shp)→Type
 | []=>Empty
 | p::r=>p.2.den ⊕ denO r
def outK:(os:List (Ex×Shp))→Ex→St→Option (denO os)
 | [],_,_=>none
 | (e,s)::r,e',σ=>if e=e' then (match un s σ with | some x=>some (.inl x) | none=>none) else (match outK r e' σ with | some y=>some (.inr y) | none=>none)
def goOn {R:Type} (nt:Nat) (K:Ex→St→Option R):(os:List (Ex×Shp))→denO os→Option R
 | [],_=>none
 | (e,s)::r,y=>match y with
  | .inl x=>K e (mk nt s x)
  | .inr z=>goOn nt K r z
structure Cut where
 inn:Shp
 outs:List (Ex×Shp)
 F:inn.den→Option (denO outs)
def Qbd:Code→Nat
 | .region id _ _=>id
 | .seq a _=>Qbd a
 | .block _ c=>Qbd c
 | .loop c=>Qbd c
 | _=>0
section
variable {R:Type}
def Qoh (K:Ex→St→Option R) (σ:St):Option Cut→Option R
 | none=>none
 | some c=>(un c.inn σ).bind fun x=>(c.F x).bind fun y=>goOn σ.nt K c.outs y
def St.known (σ:St) (c:Operand) (b:Bool):St:=match c with
 | .tmp t=>σ.set t (.s (.d .bool b))
 | _=>σ
def run (T:Tab) (G:Env) (L:List (Nat×Cut)):Code→St→(Ex→St→Option R)→Option R
 | .skip,σ,K=>K .normal σ
 | .region id ops draw,σ,K=>
  if draw then opsD T G ops (1000000+id*32000) ops.toList σ 0 [] (K .normal)
  else opsR T G ops (1000000+id*32000) ops.toList σ (K .normal)
 | .seq a b,σ,K=>run T G L a σ fun e σ'=>match e with
  | .normal=>run T G L b σ' K
  | .exit i=>K (.exit i) σ'
  | .ret=>K .ret σ'
 | .cond c a b,σ,K=>match ev σ c with
  | some (.s (.d .bool y))=>if y then run T G L a (σ.known c true) K else run T G L b (σ.known c false) K
  | _=>none
 | .block id c,σ,K=>match look L (100000+id) with
  | some q=>Qoh K σ (some q)
  | none=>run T G L c σ fun e σ'=>match e with
   | .normal=>K .normal σ'
   | .exit i=>if i=id then K .normal σ' else K (.exit i) σ'
   | .ret=>K .ret σ'
 | .loop c,σ,K=>Qoh K σ (look L (Qbd c))
 | .exit id,σ,K=>K (.exit id) σ
 | .ret,σ,K=>K .ret σ
 | _,_,_=>none
end
def resV (T:Tab) (σ:St):ResultVar→Option SV
 | .tmp t=>match look σ.env t with
  | some (.v v)=>some v
  | _=>none
 | .cell a t=>match look T t,look σ.env a with
  | some r,some (.v (.s (.p b off)))=>match look σ.H b with
   | some (.box cs)=>
    if off+sz r.ty≤cs.length then
     (if isAg r.ty then some (.g ((cs.drop off).take (sz r.ty))) else match cs[off]? with | some c=>some (.s c) | none=>none)
    else none
   | _=>none
  | _,_=>none
def unVs (H:List (Nat×Ob)):(rs:List VK)→List SV→Option (denV rs×List Nat)
 | [],[]=>some ((),[])
 | k::r,x::xs=>match unV H k x with
  | some q=>match unVs H r xs with
   | some q'=>some ((q.1,q'.1),q.2++q'.2)
   | none=>none
  | none=>none
 | _,_=>none
def QnG (H:List (Nat×Ob)) (l:List Nat):List VK→List SV→Bool
 | k::r,x::xs=>Qmo H l k x && QnG H l r xs
 | _,_=>true
def QgZ (i:Nat):(ps:List PK)→denP ps→denS (QfV i ps)
 | [],_=>()
 | .val _::r,x=>(x.1,QgZ (i+1) r x.2)
 | .ptr _::r,x=>(x.1,QgZ (i+1) r x.2)
 | .fn _ _::r,x=>(x.1,QgZ (i+1) r x.2)
 | .box _ _::r,x=>((),QgZ (i+1) r x.2)
 | .row _ _::r,x=>((),QgZ (i+1) r x.2)
 | .agg cs::r,x=>(refX (9000100+100*i) cs x.1,QgZ (i+1) r x.2)
def QgX (i:Nat):(ps:List PK)→denP ps→denB (QaS i ps)
 | [],_=>()
 | .val _::r,x=>QgX (i+1) r x.2
 | .ptr _::r,x=>QgX (i+1) r x.2
 | .fn _ _::r,x=>QgX (i+1) r x.2
 | .box _ _::r,x=>(x.1,QgX (i+1) r x.2)
 | .row _ _::r,x=>QgX (i+1) r x.2
 | .agg _::r,x=>QgX (i+1) r x.2
def QgY (i:Nat):(ps:List PK)→denP ps→denW (QbB i ps)
 | [],_=>()
 | .val _::r,x=>QgY (i+1) r x.2
 | .ptr _::r,x=>QgY (i+1) r x.2
 | .fn _ _::r,x=>QgY (i+1) r x.2
 | .box _ _::r,x=>QgY (i+1) r x.2
 | .row _ _::r,x=>(x.1,QgY (i+1) r x.2)
 | .agg cs::r,x=>rowX (9000100+100*i) (QgY (i+1) r x.2) cs x.1
def unR (H:List (Nat×Ob)) (o:Nat) (e:TypeId) (t:Ty):Option (List (den t)):=
 match look H o with
 | some (.row e' t' ys)=>if QbM e' e=true then (match cst (.slice t') (.slice t) ys with
  | some zs=>some zs
  | none=>none) else none
 | _=>none
def unRs (H:List (Nat×Ob)) (nm:Nat):(cs:List CK)→denC cs→Option (Qcv cs×List Nat)
 | [],_=>some ((),[])
 | .own e t::r,x=>match unR H nm e t,unRs H (nm+1) r x.2 with
  | some y,some z=>some ((y,z.1),nm::z.2)
  | _,_=>none
 | .dat _::r,x=>unRs H (nm+1) r x.2
 | .ptr _ _::r,x=>unRs H (nm+1) r x.2
 | .ref _::r,x=>unRs H (nm+1) r x.2
 | .pd _::r,x=>unRs H (nm+1) r x.2
 | .fn _ _::r,x=>unRs H (nm+1) r x.2
 | .mp::r,x=>unRs H (nm+1) r x.2
 | .bx _::r,x=>unRs H (nm+1) r x.2
 | .vw _ _::r,x=>unRs H (nm+1) r x.2
 | .any::r,x=>unRs H (nm+1) r x.2
def unA (H:List (Nat×Ob)) (i:Nat):(ps:List PK)→denP ps→Option (denQ ps×List Nat)
 | [],_=>some ((),[])
 | .val _::r,x=>unA H (i+1) r x.2
 | .ptr _::r,x=>unA H (i+1) r x.2
 | .fn _ _::r,x=>unA H (i+1) r x.2
 | .box ci co::r,x=>match look H (9000000+i) with
  | some (.box cs)=>if cs.length=ci.length∧co.length=ci.length then (match unCs H co cs with
   | some q=>match unA H (i+1) r x.2 with
    | some q'=>some ((q.1,q'.1),q.2++q'.2)
    | none=>none
   | none=>none) else none
  | _=>none
 | .row e t::r,x=>match unR H (9000100+100*i) e t,unA H (i+1) r x.2 with
  | some y,some q'=>some ((y,q'.1),(9000100+100*i)::q'.2)
  | _,_=>none
 | .agg cs::r,x=>match unRs H (9000100+100*i) cs x.1,unA H (i+1) r x.2 with
  | some q,some q'=>some ((q.1,q'.1),q.2++q'.2)
  | _,_=>none
def QoM (H:List (Nat×Ob)) (l:List Nat) (i:Nat):List PK→Bool
 | []=>true
 | .box _ co::r=>(match look H (9000000+i) with | some (.box cs)=>Qcx H l co cs | _=>true) && QoM H l (i+1) r
 | _::r=>QoM H l (i+1) r
def endK (T:Tab) (fn:Func) (ps:List PK) (rs:List VK) (x:denP ps) (σ:St):Option (denV rs×denQ ps):=
 match mapO (resV T σ) fn.results.toList with
 | none=>none
 | some vs=>match unVs σ.H rs vs with
  | none=>none
  | some y=>match unA σ.H 0 ps x with
   | none=>none
   | some z=>if QcO (y.2++z.2) && QnG σ.H (y.2++z.2) rs vs && QoM σ.H (y.2++z.2) 0 ps then (if lenQ ps x z.1=true then some (y.1,z.1) else none) else none
def endE (T:Tab) (fn:Func) (ps:List PK) (rs:List VK) (x:denP ps) (e:Ex) (σ:St):Option (denV rs×denQ ps):=
 match e with
 | .exit _=>none
 | .normal=>endK T fn ps rs x σ
 | .ret=>endK T fn ps rs x σ
def QA (T:Tab) (G:Env) (L:List (Nat×Cut)) (fn:Func) (ps:List PK) (rs:List VK) (x:denP ps):Option (denV rs×denQ ps):=
 match fn.body with
 | none=>none
 | some c=>
  let σ0:=mk (Nat.max fn.ntmps ps.length) { slots:=QfV 0 ps,boxes:=QaS 0 ps,rows:=QbB 0 ps } (QgZ 0 ps x,QgX 0 ps x,QgY 0 ps x)
  if Qfi σ0=false∨(ps.all QdP && rs.all resK)=false then none else run T G L c σ0 (endE T fn ps rs x)
end
section
open Go Go.RowKit
def RpL {α:Type} (R:α→List Value→Prop):List α→List Value→Prop
 | [],rows=>rows=[]
 | x::xs,rows=> ∃r rs,rows=r++rs∧R x r∧RpL R xs rs
def At (w:World) (b off:Nat) (rows:List Value):Prop:=
 ∃c e fz,w.heap[b]?=some (.cells c e fz)∧ ∀i,i< rows.length→c[off+i]?=rows[i]?
def Rp (w:World) (S:Nat→Prop):(t:Ty)→den t→List Value→Prop
 | .int k,x,cs=>cs=[.int k x]
 | .bool,x,cs=>cs=[.bool x]
 | .str,x,cs=>cs=[.string ⟨x.toArray⟩]
 | .unit,_,cs=>cs=[]
 | .opq,_,cs=> ∃A,cs=[.pointer A]
 | .pair a b,x,cs=> ∃c1 c2,cs=c1++c2∧Rp w S a x.1 c1∧Rp w S b x.2 c2
 | .slice t,xs,cs=> ∃A cap,cs=[.slice A xs.length cap]∧xs.length≤cap∧
   (xs≠[]→ ∃b off,A=some ⟨b,off,none⟩∧S b∧ ∃rows,RpL (Rp w S t) xs rows∧At w b off rows)
theorem Qad {α:Type} {R R':α→List Value→Prop} (h: ∀x r,R x r→R' x r): ∀{xs:List α} {rows},RpL R xs rows→RpL R' xs rows
 | [],_,hr=>hr
 | _::_,_,⟨r,rs,e,hx,hr⟩=>⟨r,rs,e,h _ _ hx,Qad h hr⟩
theorem QaJ {α:Type} {R:α→List Value→Prop} {n:Nat} (h: ∀x r,R x r→r.length=n): ∀{xs:List α} {rows},RpL R xs rows→rows.length=xs.length*n
 | [],_,hr=>by simp only [RpL] at hr; subst hr; simp
 | x::xs,_,⟨r,rs,e,hx,hr⟩=>by
  subst e;rw [List.length_append,h _ _ hx,QaJ h hr,List.length_cons,Nat.add_mul];omega
theorem QeV {α:Type} {R:α→List Value→Prop}: ∀{xs ys:List α} {r s},RpL R xs r→RpL R ys s→RpL R (xs++ys) (r++s)
 | [],_,_,_,hx,hy=>by simp only [RpL] at hx; subst hx; simpa using hy
 | x::xs,ys,_,s,⟨r,rs,e,h,hx⟩,hy=>⟨r,rs++s,by rw [e,List.append_assoc],h,QeV hx hy⟩
theorem QeW {α:Type} {R:α→List Value→Prop} {n:Nat} (h: ∀x r,R x r→r.length=n): ∀{xs:List α} {rows} {i:Nat} {x:α},RpL R xs rows→xs[i]?=some x→
  ∃r,R x r∧ ∀j,j< n→rows[i*n+j]?=r[j]?
 | [],_,i,_,_,hi=>by simp at hi
 | y::ys,_,0,x,⟨r,rs,e,hx,hr⟩,hi=>by
  simp at hi; subst hi; subst e;refine ⟨r,hx,fun j hj=>?_⟩
  rw [Nat.zero_mul,Nat.zero_add,List.getElem?_append_left (by rw [h _ _ hx]; exact hj)]
 | y::ys,_,i+1,x,⟨r,rs,e,hx,hr⟩,hi=>by
  obtain ⟨q,hq,hj⟩:=QeW h hr (i:=i) (by simpa using hi)
  subst e;refine ⟨q,hq,fun j a=>?_⟩
  have c:=h _ _ hx;have b:(i+1)*n=n+i*n:=by rw [Nat.add_mul]; omega
  rw [List.getElem?_append_right (by omega), ←hj j a]
  congr 1;omega
theorem Qfw {α:Type} {R:α→List Value→Prop} {n:Nat} (h: ∀x r,R x r→r.length=n): ∀{xs:List α} {rows} (i:Nat),RpL R xs rows→RpL R (xs.drop i) (rows.drop (i*n))
 | xs,rows,0,hr=>by simpa using hr
 | [],rows,i+1,hr=>by simp only [RpL] at hr; subst hr; simp [RpL]
 | x::xs,_,i+1,⟨r,rs,e,hx,hr⟩=>by
  subst e;have hl:=h _ _ hx;have a:(i+1)*n=r.length+i*n:=by rw [Nat.add_mul]; omega
  have b:r.drop (r.length+i*n)=[]:=List.drop_of_length_le (by omega)
  rw [List.drop_succ_cons,a,List.drop_append,b,List.nil_append,Nat.add_sub_cancel_left];exact Qfw h i hr
theorem Qey {α:Type} {R:α→List Value→Prop} {n:Nat} (h: ∀x r,R x r→r.length=n): ∀{xs:List α} {rows} (i:Nat),RpL R xs rows→RpL R (xs.take i) (rows.take (i*n))
 | xs,rows,0,hr=>by simp [RpL]
 | [],rows,i+1,hr=>by simp only [RpL] at hr; subst hr; simp [RpL]
 | x::xs,_,i+1,⟨r,rs,e,hx,hr⟩=>by
  subst e;have hl:=h _ _ hx;have a:(i+1)*n=r.length+i*n:=by rw [Nat.add_mul]; omega
  rw [List.take_succ_cons,a,List.take_append];refine ⟨r,rs.take (i*n),?_,hx,Qey h i hr⟩;rw [List.take_of_length_le (by omega),Nat.add_sub_cancel_left]
theorem Qt {w:World} {S:Nat→Prop}: ∀{t:Ty} {x:den t} {cs},Rp w S t x cs→cs.length=sz t
 | .int _,_,_,h=>by simp only [Rp] at h; subst h; rfl
 | .bool,_,_,h=>by simp only [Rp] at h; subst h; rfl
 | .str,_,_,h=>by simp only [Rp] at h; subst h; rfl
 | .unit,_,_,h=>by simp only [Rp] at h; subst h; rfl
 | .opq,_,_,⟨_,h⟩=>by subst h; rfl
 | .pair _ _,_,_,h=>by
  obtain ⟨c1,c2,e,h1,h2⟩:=h;subst e;rw [List.length_append,Qt h1,Qt h2]; rfl
 | .slice _,_,_,h=>by obtain ⟨A,a,e,_⟩:=h; subst e; rfl
theorem Qaw {w:World} {S:Nat→Prop}: ∀{t:Ty} {x:den t} {cs},Rp w S t x cs→ ∀v∈cs,v.oneCell'=true
 | .int _,_,_,h=>by simp only [Rp] at h; subst h; simp [Value.oneCell']
 | .bool,_,_,h=>by simp only [Rp] at h; subst h; simp [Value.oneCell']
 | .str,_,_,h=>by simp only [Rp] at h; subst h; simp [Value.oneCell']
 | .unit,_,_,h=>by simp only [Rp] at h; subst h; simp
 | .opq,_,_,⟨_,h⟩=>by subst h; simp [Value.oneCell']
 | .pair _ _,_,_,h=>by
  obtain ⟨c1,c2,e,h1,h2⟩:=h;subst e;intro v a;rcases List.mem_append.1 a with a | a
  ·exact Qaw h1 v a
  ·exact Qaw h2 v a
 | .slice _,_,_,h=>by obtain ⟨A,b,e,_⟩:=h; subst e; simp [Value.oneCell']
theorem At.lt {w:World} {b off:Nat} {rows:List Value} (h:At w b off rows):b< w.heap.size:=by
 obtain ⟨c,e,a,h,_⟩:=h;exact (Array.getElem?_eq_some_iff.1 h).1
theorem Qaa {w w':World} {S S':Nat→Prop} (h: ∀b,b< w.heap.size→S b→S' b∧w'.heap[b]?=w.heap[b]?):
  ∀{t:Ty} {x:den t} {cs},Rp w S t x cs→Rp w' S' t x cs
 | .int _,_,_,hr=>hr
 | .bool,_,_,hr=>hr
 | .str,_,_,hr=>hr
 | .unit,_,_,hr=>hr
 | .opq,_,_,hr=>hr
 | .pair _ _,_,_,⟨c1,c2,e,h1,h2⟩=>⟨c1,c2,e,Qaa h h1,Qaa h h2⟩
 | .slice t,xs,_,⟨A,cap,e,hc,hx⟩=>by
  refine ⟨A,cap,e,hc,fun hn=>?_⟩
  obtain ⟨b,off,ha,hs,rows,hrows,c,e',fz,hh,hi⟩:=hx hn;have a:=h b (At.lt ⟨c,e',fz,hh,hi⟩) hs;exact ⟨b,off,ha,a.1,rows,Qad (fun x r hr=>Qaa h hr) hrows,c,e',fz,by rw [a.2]; exact hh,hi⟩
theorem Qns {w w':World} {S:Nat→Prop} (h: ∀b,b< w.heap.size→S b→w'.heap[b]?=w.heap[b]?) {b off:Nat} {rows:List Value} (hs:S b) (ha:At w b off rows):At w' b off rows:=by
 have g:=ha.lt;obtain ⟨c,e,a,d,f⟩:=ha;exact ⟨c,e,a,by rw [h b g hs]; exact d,f⟩
def PtrR (w:World) (S q:Nat→Prop):(t:Ty)→den t→Value→Prop
 | .pair .opq u,x,v=> ∃b off b2 off2 cs,v= .pointer (some ⟨b,off,none⟩)∧q b∧At w b off [.pointer (some ⟨b2,off2,none⟩)]∧q b2∧Rp w S u x.2 cs∧At w b2 off2 cs
 | t,x,v=> ∃b off cs,v= .pointer (some ⟨b,off,none⟩)∧q b∧Rp w S t x cs∧At w b off cs
theorem PtrR.plain {w:World} {S q:Nat→Prop}: ∀{t:Ty} {x:den t} {v:Value},mark t=none→(PtrR w S q t x v↔ ∃b off cs,v= .pointer (some ⟨b,off,none⟩)∧q b∧Rp w S t x cs∧At w b off cs)
 | .int _,_,_,_=>Iff.rfl
 | .bool,_,_,_=>Iff.rfl
 | .str,_,_,_=>Iff.rfl
 | .unit,_,_,_=>Iff.rfl
 | .opq,_,_,_=>Iff.rfl
 | .slice _,_,_,_=>Iff.rfl
 | .pair a _,_,_,h=>by cases a <;> first | exact Iff.rfl | cases h
theorem PtrR.mk {w:World} {S q:Nat→Prop} {t:Ty} {x:den t} {v:Value} (h:mark t=none) (h': ∃b off cs,v= .pointer (some ⟨b,off,none⟩)∧q b∧Rp w S t x cs∧At w b off cs):PtrR w S q t x v:=(PtrR.plain h).2 h'
theorem PtrR.un {w:World} {S q:Nat→Prop} {t:Ty} {x:den t} {v:Value} (h:mark t=none) (h':PtrR w S q t x v): ∃b off cs,v= .pointer (some ⟨b,off,none⟩)∧q b∧Rp w S t x cs∧At w b off cs:=(PtrR.plain h).1 h'
theorem QeG: ∀{t u:Ty},mark t=some u→t= .pair .opq u
 | .pair a _,_,h=>by cases a <;> first | (cases h; rfl) | cases h
 | .int _,_,h | .bool,_,h | .str,_,h | .unit,_,h | .opq,_,h | .slice _,_,h=>by cases h
theorem QqW {r:Ty}: ∀{u:Ty} {y:den u} {s:S1},mark u=none→ptrL r u y=some s→ ∃z,sub u y 0 r=some z∧s= .d r z:=by
 have c: ∀{u:Ty} {y:den u} {s:S1},(match sub u y 0 r with | some z=>some (S1.d r z) | none=>none)=some s→ ∃z,sub u y 0 r=some z∧s= .d r z:=by
  intro u y s h;split at h
  ·rename_i z e; cases h; exact ⟨z,e,rfl⟩
  ·cases h
 intro u y s d h;cases u with
 | pair a b=>cases a <;> first | exact c h | cases d
 | _=>exact c h
theorem PtrR.any {w:World} {S q:Nat→Prop} {t:Ty} {x:den t} {v:Value} (h:PtrR w S q t x v): ∃b off,v= .pointer (some ⟨b,off,none⟩)∧q b:=by
 cases c:mark t with
 | none=>obtain ⟨b,off,d,e,a,_⟩:=h.un c; exact ⟨b,off,e,a⟩
 | some u=>obtain rfl:=QeG c; obtain ⟨b,off,_,_,_,e,a,_⟩:=h; exact ⟨b,off,e,a⟩
theorem PtrR.mono {w:World} {S S' q q':Nat→Prop} (hr: ∀{t:Ty} {x:den t} {cs:List Value},Rp w S t x cs→Rp w S' t x cs) (hq: ∀b,q b→q' b)
  {t:Ty} {x:den t} {v:Value} (h:PtrR w S q t x v):PtrR w S' q' t x v:=by
 cases f:mark t with
 | none=>
  obtain ⟨b,a,cs,e,g,c,d⟩:=h.un f;exact .mk f ⟨b,a,cs,e,hq b g,hr c,d⟩
 | some u=>
  obtain rfl:=QeG f;obtain ⟨b,a,j,i,cs,e,g,d,l,c,k⟩:=h;exact ⟨b,a,j,i,cs,e,hq b g,d,hq j l,hr c,k⟩
theorem PtrR.cell {w:World} {S q:Nat→Prop} {t:Ty} {x:den t} {v:Value} (h:PtrR w S q t x v):v.oneCell'=true:=by
 obtain ⟨b,a,rfl,_⟩:=h.any; rfl
theorem PtrR.keep {w w':World} {S S' q q':Nat→Prop} (hk: ∀b,b< w.heap.size→S b→S' b∧w'.heap[b]?=w.heap[b]?) (hp: ∀b,b< w.heap.size→q b→q' b∧w'.heap[b]?=w.heap[b]?)
  {t:Ty} {x:den t} {v:Value} (h:PtrR w S q t x v):PtrR w' S' q' t x v:=by
 cases k:mark t with
 | none=>
  obtain ⟨b,f,j,e,a,l,c⟩:=h.un k;exact .mk k ⟨b,f,j,e,(hp b c.lt a).1,Qaa hk l,Qns (S:=q) (fun b d a=>(hp b d a).2) a c⟩
 | some u=>
  obtain rfl:=QeG k;obtain ⟨b,f,n,m,j,e,a,c,i,l,g⟩:=h;exact ⟨b,f,n,m,j,e,(hp b c.lt a).1,Qns (S:=q) (fun b d a=>(hp b d a).2) a c,(hp n g.lt i).1,Qaa hk l,Qns (S:=q) (fun b d a=>(hp b d a).2) i g⟩
abbrev Heap:=List (Nat×Ob)
abbrev Qr:=Nat→Option (Nat×Nat)
def live:Ob→Bool
 | .box _=>true
 | .row _ _ _=>true
 | .map _=>true
 | _=>false
def Qms:Ob→Bool
 | .row _ _ _=>true
 | _=>false
def QaO (c:Nat):Nat:=c % 2 ^ 64
def bits (c:Nat):List Nat:=(List.range (c / 2 ^ 64)).filter (Nat.testBit (c / 2 ^ 64))
def foot (ob:Ob) (q:Nat×Nat) (b:Nat):Prop:=b=q.1∨(Qms ob=true∧b∈bits q.2)
def Own (β:Qr) (H:Heap) (b:Nat):Prop:= ∃o ob q,look H o=some ob∧live ob=true∧β o=some q∧foot ob q b
def RO (Z:Nat→Prop) (β:Qr) (H:Heap) (b:Nat):Prop:=Z b∧ ¬Own β H b
def RowV (q:Option (Nat×Nat)) (n:Nat) (v:Value):Prop:=
 match q with
 | none=>v= .slice none 0 0∧n=0
 | some (b,cap)=>v= .slice (some ⟨b,0,none⟩) n (QaO cap)
inductive All2 {α β:Type} (R:α→β→Prop):List α→List β→Prop
 | nil:All2 R [] []
 | cons {a b as bs}:R a b→All2 R as bs→All2 R (a::as) (b::bs)
def VW (q:Option (Nat×Nat)) (s lo n:Nat) (v:Value):Prop:=
 match q with
 | none=>v= .slice none 0 0∧n=0∧lo=0
 | some (b,cap)=> ∃A,v= .slice A n (QaO cap-lo)∧(0< n→A=some ⟨b,lo*s,none⟩)
theorem Qwa {q:Option (Nat×Nat)} {s lo n:Nat} {v:Value} (h:VW q s lo n v):v.oneCell'=true:=by
 unfold VW at h;cases q with
 | none=>obtain ⟨rfl,_⟩:=h; rfl
 | some q=>obtain ⟨A,rfl,_⟩:=h; rfl
def PR (w:World) (S:Nat→Prop) (β:Qr) (H:Heap):Cap→Value→Prop
 | .p o off,v=>match look H o with
  | none=>False
  | some (.box _)=> ∃b base,β o=some (b,base)∧v= .pointer (some ⟨b,base+off,none⟩)
  | some _=>v.oneCell'=true
 | .pd t x,v=>PtrR w S (fun b=> ¬Own β H b) t x v
def VS (w:World) (S:Nat→Prop) (β:Qr) (H:Heap):S1→Value→Prop
 | .any,_=>True
 | .d t x,v=>isAg t=false∧Rp w S t x [v]
 | .nls,v=>v= .slice none 0 0
 | .sl o,v=>match look H o with
  | none=>False
  | some (.row _ _ xs)=>RowV (β o) xs.length v
  | some (.fro t xs)=>Rp w S (.slice t) xs [v]
  | some _=>v.oneCell'=true
 | .mp o,v=>match look H o with
  | none=>False
  | some (.map _)=> ∃b base,β o=some (b,base)∧v= .map (some b)
  | some _=>v.oneCell'=true
 | .p o off,v=>match look H o with
  | none=>False
  | some (.box _)=> ∃b base,β o=some (b,base)∧v= .pointer (some ⟨b,base+off,none⟩)
  | some _=>v.oneCell'=true
 | .pe o i off,v=>match look H o with
  | none=>False
  | some (.row e t xs)=>(i< xs.length∧deep e=false)∧ ∃b cap,β o=some (b,cap)∧v= .pointer (some ⟨b,i*sz t+off,none⟩)
  | some _=>v.oneCell'=true
 | .dp o i off tk,v=>match look H o with
  | none=>False
  | some (.row e t xs)=>v.oneCell'=true∧(deep e=true→i< xs.length∧ ∃b cap,β o=some (b,cap)∧
    match tk with
    | .ptr=>v= .pointer (some ⟨b,i*sz t+off,none⟩)
    | .tok=>lent e=true→ ∃c e' fz A n k,w.heap[b]?=some (.cells c e' fz)∧c[i*sz t+off]?=some v∧v= .slice A n k
    | .at j=>lent e=true→ ∃c e' fz A n k,w.heap[b]?=some (.cells c e' fz)∧c[i*sz t+off]?=some (.slice (some A) n k)∧j< n∧v= .pointer (some (A.add j)))
  | some _=>v.oneCell'=true
 | .vw o lo n,v=>match look H o with
  | none=>False
  | some (.row e t xs)=>(deep e=false∧lo+n≤xs.length)∧(∃v0,RowV (β o) xs.length v0)∧VW (β o) (sz t) lo n v
  | some (.fro t xs)=>Rp w S (.slice t) ((xs.drop lo).take n) [v]
  | some _=>v.oneCell'=true
 | .pd t x,v=>PtrR w S (fun b=> ¬Own β H b) t x v
 | .fn f l,v=> ∃vs,v= .func (.func f) #[] vs.toArray∧All2 (PR w S β H) l vs
def Val (t:Ty) (v:Value) (cs:List Value):Prop:=if isAg t then v= .agg cs.toArray else cs=[v]
def VV (w:World) (S:Nat→Prop) (β:Qr) (H:Heap):SV→Value→Prop
 | .s (.d t x),v=> ∃cs,Val t v cs∧Rp w S t x cs
 | .s y,v=>VS w S β H y v
 | .g ys,v=> ∃cs,v= .agg cs.toArray∧All2 (VS w S β H) ys cs
def VL (w:World) (S:Nat→Prop) (β:Qr) (H:Heap):Sl→Value→Prop
 | .v x,v=>VV w S β H x v
 | .t xs,v=> ∃vs,v= .tuple vs.toArray∧All2 (VV w S β H) xs vs
def MapO (w:World) (es:List (Int×Bool)) (q:Option (Nat×Nat)):Prop:=
 ∃b cap arr clock,q=some (b,cap)∧w.heap[b]?=some (.map arr clock)∧(arr.toList.map (fun e=>(e.key,e.val))=es.map fun p=>(Value.int .i64 p.1,Value.bool p.2))∧cap≤maxLen
theorem Qct {w w':World} {S S':Nat→Prop}: ∀{t:Ty} {x:den t} {cs:List Value},QaR t=false→Rp w S t x cs→Rp w' S' t x cs
 | .int _,_,_,_,h=>h
 | .bool,_,_,_,h=>h
 | .str,_,_,_,h=>h
 | .unit,_,_,_,h=>h
 | .opq,_,_,_,h=>h
 | .pair _ _,_,_,hs,⟨c1,c2,e,h1,h2⟩=>by
  simp only [QaR,Bool.or_eq_false_iff] at hs;exact ⟨c1,c2,e,Qct hs.1 h1,Qct hs.2 h2⟩
 | .slice _,_,_,hs,_=>by simp [QaR] at hs
def Dp (w:World) (e1:TypeId):(t:Ty)→den t→List Value→List Nat→Prop
 | .int k,x,cs,F=>cs=[.int k x]∧F=[]
 | .bool,x,cs,F=>cs=[.bool x]∧F=[]
 | .str,x,cs,F=>cs=[.string ⟨x.toArray⟩]∧F=[]
 | .unit,_,cs,F=>cs=[]∧F=[]
 | .opq,_,cs,F=>(∃A,cs=[.pointer A])∧F=[]
 | .pair a b,x,cs,F=> ∃c1 c2 F1 F2,cs=c1++c2∧F=F1++F2∧Dp w e1 a x.1 c1 F1∧Dp w e1 b x.2 c2 F2
 | .slice t,xs,cs,F=>(cs=[.slice none 0 0]∧xs=[]∧F=[])∨ ∃b cap c rows,cs=[.slice (some ⟨b,0,none⟩) xs.length cap]∧F=[b]∧w.heap[b]?=some (.cells c e1 (0,0))∧c.size=cap*sz t∧
   xs.length≤cap∧cap≤maxLen∧RpL (Rp w (fun _=>False) t) xs rows∧ ∀i,i< rows.length→c[i]?=rows[i]?
def DpL (w:World) (e1:TypeId) (t:Ty):List (den t)→List Value→List Nat→Prop
 | [],rows,F=>rows=[]∧F=[]
 | x::xs,rows,F=> ∃r rs F1 F2,rows=r++rs∧F=F1++F2∧Dp w e1 t x r F1∧DpL w e1 t xs rs F2
theorem Qdv {w w':World} {e1:TypeId}: ∀{t:Ty} {x:den t} {cs:List Value} {F:List Nat},(∀g∈F,w'.heap[g]?=w.heap[g]?)→Dp w e1 t x cs F→Dp w' e1 t x cs F
 | .int _,_,_,_,_,h=>h
 | .bool,_,_,_,_,h=>h
 | .str,_,_,_,_,h=>h
 | .unit,_,_,_,_,h=>h
 | .opq,_,_,_,_,h=>h
 | .pair _ _,_,_,_,hk,⟨c1,c2,F1,F2,e1,e2,h1,h2⟩=>
  ⟨c1,c2,F1,F2,e1,e2,Qdv (fun g hg=>hk g (by rw [e2]; exact List.mem_append_left _ hg)) h1,Qdv (fun g hg=>hk g (by rw [e2]; exact List.mem_append_right _ hg)) h2⟩
 | .slice _,_,_,_,_,.inl h=> .inl h
 | .slice t,_,_,_,hk,.inr ⟨b,cap,c,rows,h1,h2,h3,h4,h5,h6,h7,h8⟩=>
  .inr ⟨b,cap,c,rows,h1,h2,by rw [hk b (by rw [h2]; simp)]; exact h3,h4,h5,h6,Qad (fun _ _=>Qaa fun _ _ h=>h.elim) h7,h8⟩
theorem Qew {w w':World} {e1:TypeId} {t:Ty}: ∀{xs:List (den t)} {rows:List Value} {F:List Nat},(∀g∈F,w'.heap[g]?=w.heap[g]?)→DpL w e1 t xs rows F→DpL w' e1 t xs rows F
 | [],_,_,_,h=>h
 | x::xs,_,_,hk,⟨r,rs,F1,F2,e1,e2,h1,h2⟩=>
  ⟨r,rs,F1,F2,e1,e2,Qdv (fun g hg=>hk g (by rw [e2]; exact List.mem_append_left _ hg)) h1,Qew (fun g hg=>hk g (by rw [e2]; exact List.mem_append_right _ hg)) h2⟩
theorem QlN {w:World} {e1:TypeId} {S:Nat→Prop}: ∀{t:Ty} {x:den t} {cs:List Value} {F:List Nat},(∀g∈F,S g)→Dp w e1 t x cs F→Rp w S t x cs
 | .int _,_,_,_,_,h=>h.1
 | .bool,_,_,_,_,h=>h.1
 | .str,_,_,_,_,h=>h.1
 | .unit,_,_,_,_,h=>h.1
 | .opq,_,_,_,_,h=>h.1
 | .pair _ _,_,_,_,hk,⟨c1,c2,F1,F2,e1,e2,h1,h2⟩=>
  ⟨c1,c2,e1,QlN (fun g hg=>hk g (by rw [e2]; exact List.mem_append_left _ hg)) h1,QlN (fun g hg=>hk g (by rw [e2]; exact List.mem_append_right _ hg)) h2⟩
 | .slice _,_,_,_,_,.inl ⟨h1,h2,_⟩=>by subst h2; exact ⟨none,0,h1,by simp,fun h=>absurd rfl h⟩
 | .slice t,xs,_,_,hk,.inr ⟨b,cap,c,rows,h1,h2,h3,h4,h5,h6,h7,h8⟩=>
  ⟨_,cap,h1,h5,fun _=>⟨b,0,rfl,hk b (by rw [h2]; simp),rows,Qad (fun _ _=>Qaa fun _ _ h=>h.elim) h7,c,e1,_,h3,fun i hi=>by rw [Nat.zero_add]; exact h8 i hi⟩⟩
theorem Qfu {w:World} {e1:TypeId} {S:Nat→Prop} {t:Ty}: ∀{xs:List (den t)} {rows:List Value} {F:List Nat},(∀g∈F,S g)→DpL w e1 t xs rows F→RpL (Rp w S t) xs rows
 | [],_,_,_,h=>h.1
 | x::xs,_,_,hk,⟨r,rs,F1,F2,e1,e2,h1,h2⟩=>
  ⟨r,rs,e1,QlN (fun g hg=>hk g (by rw [e2]; exact List.mem_append_left _ hg)) h1,Qfu (fun g hg=>hk g (by rw [e2]; exact List.mem_append_right _ hg)) h2⟩
def RowO (w:World) (S:Nat→Prop) (e:TypeId) (t:Ty) (xs:List (den t)) (q:Option (Nat×Nat)):Prop:=
 (q=none∧xs=[])∨ ∃b cap c rows,q=some (b,cap)∧w.heap[b]?=some (.cells c (raw e) (0,0))∧c.size=QaO cap*sz t∧xs.length≤QaO cap∧QaO cap≤maxLen∧
  RpL (Rp w (fun g=>S g∨g∈bits cap) t) xs rows∧(∀i,i< rows.length→c[i]?=rows[i]?)∧(deep e=true∨cap≤maxLen)∧b∉bits cap∧(deep e=true→ ∃F,DpL w (inn e) t xs rows F∧F.Nodup∧ ∀g∈F,g∈bits cap)
theorem QgC {e:TypeId} (h:deep e=false):raw e=e:=by simp [raw,h]
theorem Qay {c:Nat} (h:c≤maxLen):QaO c=c:=by
 unfold QaO;unfold maxLen at h;exact Nat.mod_eq_of_lt (by omega)
theorem QaU {c:Nat} (h:c≤maxLen):bits c=[]:=by
 unfold bits;unfold maxLen at h;have:c / 2 ^ 64=0:=Nat.div_eq_of_lt (by omega)
 rw [this]; rfl
theorem Quk {S:Nat→Prop} {l:List Nat} (h:l=[]):(fun g=>S g∨g∈l)=S:=by
 subst h;funext g;simp
theorem Qaf {w:World} {S:Nat→Prop} {e:TypeId} {t:Ty} {xs:List (den t)} {q:Option (Nat×Nat)} (hd:deep e=false):
  RowO w S e t xs q↔(q=none∧xs=[])∨ ∃b cap c rows,q=some (b,cap)∧w.heap[b]?=some (.cells c e (0,0))∧c.size=cap*sz t∧xs.length≤cap∧cap≤maxLen∧
   RpL (Rp w S t) xs rows∧ ∀i,i< rows.length→c[i]?=rows[i]? :=by
 constructor
 ·rintro (h | ⟨b,cap,c,rows,h1,h2,h3,h4,h5,h6,h7,h8,h9⟩)
  ·exact .inl h
  ·have a:cap≤maxLen:=h8.resolve_left (by rw [hd]; simp)
   rw [Qay a] at h3 h4 h5;rw [QgC hd] at h2;rw [Quk (QaU a)] at h6;exact .inr ⟨b,cap,c,rows,h1,h2,h3,h4,h5,h6,h7⟩
 ·rintro (h | ⟨b,cap,c,rows,h1,h2,h3,h4,h5,h6,h7⟩)
  ·exact .inl h
  ·refine .inr ⟨b,cap,c,rows,h1,by rw [QgC hd]; exact h2,by rw [Qay h5]; exact h3,by rw [Qay h5]; exact h4,by rw [Qay h5]; exact h5,?_,h7,.inr h5,?_,fun h=>by rw [hd] at h; cases h⟩
   ·rw [Quk (QaU h5)]; exact h6
   ·rw [QaU h5]; simp
def Mon (w:World) (S S':Nat→Prop):Prop:= ∀(B:Nat→Prop) t (x:den t) cs,Rp w (fun g=>S g∨B g) t x cs→Rp w (fun g=>S' g∨B g) t x cs
theorem Mon.rp {w:World} {S S':Nat→Prop} (h:Mon w S S') {t:Ty} {x:den t} {cs:List Value} (hr:Rp w S t x cs):Rp w S' t x cs:=by
 have:=h (fun _=>False) t x cs (by simpa using hr)
 simpa using this
theorem Mon.sub {w:World} {S S':Nat→Prop} (h: ∀b,b< w.heap.size→S b→S' b):Mon w S S':=fun B t x e d=>
 Qaa (fun g c a=>⟨a.elim (fun a=> .inl (h g c a)) .inr,rfl⟩) d
theorem RowO.mon {w:World} {S S':Nat→Prop} (hs:Mon w S S') {e:TypeId} {t:Ty} {xs:List (den t)} {q:Option (Nat×Nat)} (h:RowO w S e t xs q):RowO w S' e t xs q:=by
 rcases h with h | ⟨b,cap,c,rs,e1,e2,e3,e4,e5,e6,e7⟩
 ·exact .inl h
 ·exact .inr ⟨b,cap,c,rs,e1,e2,e3,e4,e5,Qad (fun _ _=>hs _ _ _ _) e6,e7⟩
theorem mod6 (e:Nat):e % 1000000000000 % 1000000=e % 1000000:=Nat.mod_mod_of_dvd e (by decide)
theorem QdX {e e':TypeId} (h:QbM e e'=true):e=e'∨(deep e=true∧deep e'=true∧raw e=raw e'∧inn e=inn e'):=by
 unfold QbM at h;simp only [Bool.or_eq_true,Bool.and_eq_true,beq_iff_eq] at h;rcases h with h | ⟨h1,h2⟩
 ·exact .inl h
 ·have d: ∀k:Nat,deep (k % 1000000000000)=true→deep k=true:=fun k h=>by
   have:Nat.le 1000000 (k % 1000000000000):=Nat.le_of_ble_eq_true h;exact Nat.ble_eq_true_of_le (Nat.le_trans this (Nat.mod_le _ _))
  have a:=d e h1;have b:=d e' (by rw [←h2]; exact h1)
  refine .inr ⟨a,b,?_,?_⟩
  ·simp only [raw,a,b,if_true];rw [←mod6 e, ←mod6 e',h2]
  ·simp only [inn,h2]
theorem Qfl {e e':TypeId} (h:QbM e e'=true):deep e=deep e':=by
 rcases QdX h with h | ⟨h1,h2,_⟩
 ·rw [h]
 ·rw [h1,h2]
theorem QmR {e' e:TypeId} (h:QbM e' e=true):QbM e' (nlE e)=true:=by
 unfold nlE;split
 ·rename_i a;unfold QbM at h a⊢;simp only [Bool.or_eq_true,Bool.and_eq_true,beq_iff_eq,Nat.mod_mod] at h a⊢;rcases h with h | h
  ·subst h;exact a.elim .inl fun b=> .inr ⟨b.1,rfl⟩
  ·exact .inr h
 ·exact h
theorem Qvc {e0 e:TypeId} (h0:lent e0=false) (h:QbM e0 e=true):lent (nlE e)=false:=by
 have b:lent (e % 1000000000000)=false:=by
  unfold lent;have:e % 1000000000000< 1000000000000:=Nat.mod_lt _ (by decide)
  rw [←Bool.not_eq_true,Nat.ble_eq];exact Nat.not_le.2 this
 unfold nlE;split
 ·exact b
 ·rename_i a;unfold QbM at h a;simp only [Bool.or_eq_true,Bool.and_eq_true,beq_iff_eq,Nat.mod_mod] at h a;rcases h with h | ⟨h,h3⟩
  ·rw [←h]; exact h0
  ·exact absurd (.inr ⟨by rw [←h3]; exact h,trivial⟩) a
theorem QbN {w:World} {S:Nat→Prop} {e e':TypeId} {t:Ty} {xs:List (den t)} {q:Option (Nat×Nat)} (he:QbM e e'=true) (h:RowO w S e t xs q):RowO w S e' t xs q:=by
 rcases QdX he with rfl | ⟨d1,d2,hr,hi⟩
 ·exact h
 ·rcases h with h | ⟨b,cap,c,rows,h1,h2,h3,h4,h5,h6,h7,h8,h9,h10⟩
  ·exact .inl h
  ·exact .inr ⟨b,cap,c,rows,h1,by rw [←hr]; exact h2,h3,h4,h5,h6,h7,.inl d2,h9,fun _=>by rw [←hi]; exact h10 d1⟩
def OR (w:World) (S:Nat→Prop) (β:Qr) (H:Heap) (q:Option (Nat×Nat)):Ob→Prop
 | .box cs=> ∃b base c e,q=some (b,base)∧w.heap[b]?=some (.cells c e (0,0))∧base+cs.length≤c.size∧
   All2 (fun x v=>VS w S β H x v∧v.oneCell'=true) cs ((c.toList.drop base).take cs.length)
 | .row e t xs=>RowO w S e t xs q
 | .map es=>MapO w es q
 | _=>True
structure Kept (M:Nat→Nat→Prop) (w w':World):Prop where
 os:w'.os=w.os
 tape:w'.tape=w.tape
 output:w'.output=w.output
 size:w.heap.size≤w'.heap.size
 block: ∀b,b< w.heap.size→(∀i, ¬M b i)→w'.heap[b]?=w.heap[b]?
 cells: ∀b c e fz,w.heap[b]?=some (.cells c e fz)→ ∃c',w'.heap[b]?=some (.cells c' e fz)∧c'.size=c.size∧ ∀i, ¬M b i→c'[i]?=c[i]?
def GL:List (Nat×Nat×Value):=[(0,0,.int .u8 0),(0,1,.int .u8 1),(0,3,.int .u8 2)]
def Laid (M:Nat→Nat→Prop) (w:World):Prop:= ∀p∈GL,(∃c e fz,w.heap[p.1]?=some (.cells c e fz)∧c[p.2.1]?=some p.2.2)∧ ∀i, ¬M p.1 i
theorem Laid.kept {M:Nat→Nat→Prop} {w w':World} (h:Laid M w) (hk:Kept M w w'):Laid M w':=by
 intro p g;obtain ⟨⟨c,e,d,a,f⟩,b⟩:=h p g;exact ⟨⟨c,e,d,by rw [hk.block p.1 (Array.getElem?_eq_some_iff.1 a).1 b]; exact a,f⟩,b⟩
theorem Laid.sub {M M':Nat→Nat→Prop} {w:World} (h:Laid M w) (hs: ∀p∈GL, ∀i,M' p.1 i→ ∃j,M p.1 j):Laid M' w:=by
 intro p a;obtain ⟨b,c⟩:=h p a;exact ⟨b,fun i d=>by obtain ⟨j,e⟩:=hs p a i d; exact c j e⟩
def mayW (M:Nat→Nat→Prop) (b base:Nat):Ob→Prop
 | .box cs=> ∀i,i< cs.length→M b (base+i)
 | _=> ∀i,M b i
structure RepB (Z:Nat→Prop) (M:Nat→Nat→Prop) (N:Nat→Option (Option (Nat×Nat))) (w0:World) (β:Qr) (σ:St) (a:Act) (w:World):Prop where
 fresh: ∀b,w0.heap.size≤b→ ∀i,M b i
 whole: ∀b,(∀i,M b i)→Z b
 pin: ∀o q,N o=some q→β o=q∧(look σ.H o).isSome=true∧9000000≤o
 laid:Laid M w0
 bz: ∀o cs b base,look σ.H o=some (.box cs)→o< 9000000→β o=some (b,base)→base=0
 defers:a.defers=[]
 size:a.tmps.size=σ.nt
 below:Kept M w0 w
 hold: ∀o ob q b,look σ.H o=some ob→live ob=true→β o=some q→foot ob q b→mayW M b q.2 ob∧b< w.heap.size
 one: ∀o o' ob ob' q q' b,look σ.H o=some ob→live ob=true→look σ.H o'=some ob'→live ob'=true→β o=some q→β o'=some q'→foot ob q b→foot ob' q' b→o=o'
 obj: ∀o ob,look σ.H o=some ob→OR w (RO Z β σ.H) β σ.H (β o) ob
 env: ∀i x,look σ.env i=some x→i< a.tmps.size∧VL w (RO Z β σ.H) β σ.H x (a.tmps.getD i undef)
theorem Qm {ob:Ob} {b c:Nat}:foot ob (b,c) b:= .inl rfl
theorem Qdf {cs:List S1} {b c g:Nat} (h:foot (.box cs) (b,c) g):g=b:=by
 rcases h with h | ⟨h,_⟩
 ·exact h
 ·cases h
theorem QoL {es:List (Int×Bool)} {b c g:Nat} (h:foot (.map es) (b,c) g):g=b:=by
 rcases h with h | ⟨h,_⟩
 ·exact h
 ·cases h
theorem QeZ {ob:Ob} {b c g:Nat} (h:foot ob (b,c) g) (hc:c≤maxLen):g=b:=by
 rcases h with h | ⟨_,h⟩
 ·exact h
 ·rw [QaU hc] at h; cases h
theorem RepB.own {Z:Nat→Prop} {M:Nat→Nat→Prop} {N:Nat→Option (Option (Nat×Nat))} {w0 w:World} {β:Qr} {σ:St} {a:Act} (h:RepB Z M N w0 β σ a w) (o:Nat) (ob:Ob) (b cap:Nat)
  (ho:look σ.H o=some ob) (hl:live ob=true) (hb:β o=some (b,cap)):mayW M b cap ob∧b< w.heap.size:=h.hold o ob _ b ho hl hb Qm
theorem RepB.inj {Z:Nat→Prop} {M:Nat→Nat→Prop} {N:Nat→Option (Option (Nat×Nat))} {w0 w:World} {β:Qr} {σ:St} {a:Act} (h:RepB Z M N w0 β σ a w) (o o':Nat) (ob ob':Ob) (b cap cap':Nat)
  (ho:look σ.H o=some ob) (hl:live ob=true) (ho':look σ.H o'=some ob') (hl':live ob'=true) (hb:β o=some (b,cap)) (hb':β o'=some (b,cap')):o=o':=
 h.one o o' ob ob' _ _ b ho hl ho' hl' hb hb' Qm Qm
def Rep (Z:Nat→Prop) (M:Nat→Nat→Prop) (N:Nat→Option (Option (Nat×Nat))) (w0:World) (σ:St) (a:Act) (w:World):Prop:= ∃β,RepB Z M N w0 β σ a w
theorem All2.mono {α β:Type} {R R':α→β→Prop} (h: ∀a b,R a b→R' a b): ∀{as:List α} {bs:List β},All2 R as bs→All2 R' as bs
 | _,_,.nil=> .nil
 | _,_,.cons hx hr=> .cons (h _ _ hx) (All2.mono h hr)
theorem All2.len {α β:Type} {R:α→β→Prop}: ∀{as:List α} {bs:List β},All2 R as bs→as.length=bs.length
 | _,_,.nil=>rfl
 | _,_,.cons _ hr=>by simp [hr.len]
theorem All2.get {α β:Type} {R:α→β→Prop}: ∀{as:List α} {bs:List β} {i:Nat} {x:α},All2 R as bs→as[i]?=some x→ ∃y,bs[i]?=some y∧R x y
 | _,_,i,_,.nil,hi=>by simp at hi
 | _,_,0,x,.cons h hr,hi=>⟨_,rfl,by simp at hi; subst hi; exact h⟩
 | _,_,i+1,x,.cons h hr,hi=>by
  obtain ⟨y,hy,hx⟩:=hr.get (i:=i) (by simpa using hi)
  exact ⟨y,by simpa using hy,hx⟩
theorem All2.append {α β:Type} {R:α→β→Prop}: ∀{as as':List α} {bs bs':List β},All2 R as bs→All2 R as' bs'→All2 R (as++as') (bs++bs')
 | _,_,_,_,.nil,h=>h
 | _,_,_,_,.cons h hr,h'=> .cons h (hr.append h')
theorem All2.drop {α β:Type} {R:α→β→Prop}: ∀{as:List α} {bs:List β} (n:Nat),All2 R as bs→All2 R (as.drop n) (bs.drop n)
 | _,_,0,h=>by simpa using h
 | _,_,n+1,.nil=>by simpa using All2.nil
 | _,_,n+1,.cons h hr=>by simpa using hr.drop n
theorem All2.take {α β:Type} {R:α→β→Prop}: ∀{as:List α} {bs:List β} (n:Nat),All2 R as bs→All2 R (as.take n) (bs.take n)
 | _,_,0,h=>by simpa using All2.nil
 | _,_,n+1,.nil=>by simpa using All2.nil
 | _,_,n+1,.cons h hr=>by simpa using All2.cons h (hr.take n)
def HdrS (w w':World) (q:Option (Nat×Nat)):Prop:= ∀b cap c e fz,q=some (b,cap)→w.heap[b]?=some (.cells c e fz)→ ∃c' e' fz',w'.heap[b]?=some (.cells c' e' fz')∧ ∀(i:Nat) A n k,c[i]?=some (.slice A n k)→c'[i]?=c[i]?
theorem HdrS.same {w w':World} {q:Option (Nat×Nat)} (h: ∀p,q=some p→w'.heap[p.1]?=w.heap[p.1]?):HdrS w w' q:=fun b g c e a f d=>⟨c,e,a,by rw [h _ f]; exact d,fun _ _ _ _ _=>rfl⟩
def Qdt:Option (Nat×Nat)→Option (Nat×Nat)→Prop
 | none,none=>True
 | some p,some p'=>p'.1=p.1∧QaO p'.2=QaO p.2
 | _,_=>False
theorem QvY: ∀{q:Option (Nat×Nat)} {s n:Nat} {v:Value},RowV q n v→VW q s 0 n v
 | none,_,_,_,h=>⟨h.1,h.2,rfl⟩
 | some _,_,_,_,h=>⟨_,h,fun _=>by rw [Nat.zero_mul]⟩
theorem Qdt.refl: ∀{q:Option (Nat×Nat)},Qdt q q
 | none=>trivial
 | some _=>⟨rfl,rfl⟩
theorem Qdt.row: ∀{q q':Option (Nat×Nat)},Qdt q q'→ ∀{n:Nat} {v:Value},RowV q n v→RowV q' n v
 | none,none,_,_,_,h=>h
 | some (b,c),some (b',c'),⟨h1,h2⟩,n,v,h=>by
  simp only at h1 h2;simp only [RowV] at h⊢;rw [h1,h2]; exact h
 | none,some _,h,_,_,_=>h.elim
 | some _,none,h,_,_,_=>h.elim
theorem Qdt.vw: ∀{q q':Option (Nat×Nat)},Qdt q q'→ ∀{s lo n:Nat} {v:Value},VW q s lo n v→VW q' s lo n v
 | none,none,_,_,_,_,_,h=>h
 | some (b,c),some (b',c'),⟨h1,h2⟩,_,_,_,_,h=>by
  simp only at h1 h2;simp only [VW] at h⊢;rw [h1,h2]; exact h
 | none,some _,h,_,_,_,_,_=>h.elim
 | some _,none,h,_,_,_,_,_=>h.elim
theorem Qdt.some {b cap:Nat}: ∀{q':Option (Nat×Nat)},Qdt (some (b,cap)) q'→ ∃cap',q'= .some (b,cap')
 | .some (b',c'),⟨h1,_⟩=>by simp only at h1; subst h1; exact ⟨c',rfl⟩
 | none,h=>h.elim
theorem Qgu {e:TypeId} (h:deep e=false):lent e=false:=by
 cases c:lent e with
 | false=>rfl
 | true=>
  have b:Nat.le 1000000000000 e:=Nat.le_of_ble_eq_true c;have a:deep e=true:=Nat.ble_eq_true_of_le (Nat.le_trans (by decide) b)
  rw [h] at a; cases a
def Step (w w':World) (S':Nat→Prop) (q:Option (Nat×Nat)) (ob:Ob) (q':Option (Nat×Nat)):Option Ob→Prop
 | none=>False
 | some .dead=>True
 | some (.box cs)=>(∃cs',ob= .box cs')∧q'=q
 | some (.row e t xs)=> ∃(e0:TypeId) (xs':List (den t)),ob= .row e0 t xs'∧xs'.length=xs.length∧Qdt q q'∧(deep e=true→deep e0=true)∧(lent e=true→lent e0=true∧HdrS w w' q)
 | some (.map es)=>(∃es',ob= .map es')∧q'=q
 | some (.fro t xs)=>ob= .fro t xs∨ ∃e,ob= .row e t xs∧ ∀v,RowV q xs.length v→Rp w' S' (.slice t) xs [v]
theorem Qdx {w:World} {S:Nat→Prop} {β:Qr} {H:Heap}: ∀{x:S1} {v:Value},VS w S β H x v→known x=true→v.oneCell'=true
 | .any,_,_,h=>by simp [known] at h
 | .d t x,v,h,_=>Qaw h.2 v (by simp)
 | .nls,_,h,_=>by simp only [VS] at h; subst h; rfl
 | .fn _ _,_,h,_=>by obtain ⟨vs,e,_⟩:=h; subst e; rfl
 | .pd _ _,_,h,_=>h.cell
 | .sl o,v,h,_=>by
  simp only [VS] at h;cases a:look H o with
  | none=>rw [a] at h; exact h.elim
  | some c=>
   rw [a] at h;cases c with
   | dead=>exact h
   | box _=>exact h
   | row e t f=>
    simp only [RowV] at h;cases g:β o with
    | none=>rw [g] at h; rw [h.1]; rfl
    | some q=>rw [g] at h; simp only at h; rw [h]; rfl
   | fro t f=>exact Qaw h v (by simp)
   | map _=>exact h
 | .vw o lo n,v,h,_=>by
  simp only [VS] at h;cases a:look H o with
  | none=>rw [a] at h; exact h.elim
  | some c=>
   rw [a] at h;cases c with
   | dead=>exact h
   | box _=>exact h
   | row e t f=>exact Qwa h.2.2
   | fro t f=>exact Qaw h v (by simp)
   | map _=>exact h
 | .mp o,v,h,_=>by
  simp only [VS] at h;cases a:look H o with
  | none=>rw [a] at h; exact h.elim
  | some c=>
   rw [a] at h;cases c with
   | dead=>exact h
   | row _ _ _=>exact h
   | fro _ _=>exact h
   | box _=>exact h
   | map _=>obtain ⟨b,d,_,e⟩:=h; rw [e]; rfl
 | .p o off,v,h,_=>by
  simp only [VS] at h;cases a:look H o with
  | none=>rw [a] at h; exact h.elim
  | some c=>
   rw [a] at h;cases c with
   | dead=>exact h
   | row _ _ _=>exact h
   | fro _ _=>exact h
   | map _=>exact h
   | box _=>obtain ⟨b,d,_,e⟩:=h; rw [e]; rfl
 | .pe o i off,v,h,_=>by
  simp only [VS] at h;cases a:look H o with
  | none=>rw [a] at h; exact h.elim
  | some c=>
   rw [a] at h;cases c with
   | dead=>exact h
   | box _=>exact h
   | fro _ _=>exact h
   | map _=>exact h
   | row _ _ _=>obtain ⟨_,b,d,_,e⟩:=h; rw [e]; rfl
 | .dp o i off tk,v,h,_=>by
  simp only [VS] at h;cases a:look H o with
  | none=>rw [a] at h; exact h.elim
  | some c=>
   rw [a] at h;cases c with
   | dead=>exact h
   | box _=>exact h
   | fro _ _=>exact h
   | map _=>exact h
   | row _ _ _=>exact h.1
theorem QvX {w w':World} {S S':Nat→Prop} {β β':Qr} {H H':Heap} (hk: ∀b,b< w.heap.size→S b→S' b∧w'.heap[b]?=w.heap[b]?)
  (hp: ∀b,b< w.heap.size→ ¬Own β H b→ ¬Own β' H' b∧w'.heap[b]?=w.heap[b]?)
  (hn: ∀o ob,look H o=some ob→Step w w' S' (β o) ob (β' o) (look H' o)): ∀{x:Cap} {v:Value},PR w S β H x v→PR w' S' β' H' x v
 | .pd t x,v,h=>h.keep hk hp
 | .p o off,v,h=>by
  have hc:=Qdx (w:=w) (S:=S) (x:= .p o off) h rfl;simp only [PR] at h⊢;cases d:look H o with
  | none=>rw [d] at h; exact h.elim
  | some ob=>
   rw [d] at h;have a:=hn o ob d;cases c:look H' o with
   | none=>rw [c] at a; exact a
   | some f=>
    rw [c] at a;cases f with
    | dead=>exact hc
    | box l=>
     obtain ⟨⟨k,g⟩,i⟩:=a;subst g;simp only at h⊢;rw [i]; exact h
    | row e t j=>exact hc
    | fro t j=>exact hc
    | map _=>exact hc
theorem QwP {w:World} {S:Nat→Prop} {t:Ty} {xs:List (den t)} {q:Option (Nat×Nat)} {v0 v:Value} {lo n:Nat} (h:Rp w S (.slice t) xs [v0]) (h0:RowV q xs.length v0) (hv:VW q (sz t) lo n v) (hl:lo+n≤xs.length):
  Rp w S (.slice t) ((xs.drop lo).take n) [v]:=by
 have a:((xs.drop lo).take n).length=n:=by rw [List.length_take,List.length_drop]; omega
 cases q with
 | none=>
  obtain ⟨rfl,rfl,rfl⟩:=hv;exact ⟨none,0,by rw [a],by rw [a]; omega,fun d=>absurd (by simp) d⟩
 | some q=>
  obtain ⟨b,j⟩:=q;obtain ⟨A,rfl,u⟩:=hv;simp only [RowV] at h0;subst h0;obtain ⟨A',p,e,y,l⟩:=h;simp only [List.cons.injEq,Value.slice.injEq,and_true] at e;obtain ⟨rfl,_,rfl⟩:=e;refine ⟨A,QaO j-lo,by rw [a],by rw [a]; omega,fun d=>?_⟩
  have f:0< n:=by rw [←a]; exact List.length_pos_iff.2 d
  obtain ⟨b',ac,k,x,g,o,c,r,s,z,hi⟩:=l (by intro e; subst e; simp at hl; omega)
  simp only [Oie,Addr.mk.injEq,and_true] at k;obtain ⟨rfl,rfl⟩:=k;have ab:=QaJ (fun _ _=>Qt) o
  refine ⟨b,lo*sz t,u f,x,(g.drop (lo*sz t)).take (n*sz t),Qey (fun _ _=>Qt) _ (Qfw (fun _ _=>Qt) _ o),c,r,s,z,fun i m=>?_⟩
  rw [List.length_take,List.length_drop] at m;rw [List.getElem?_take,if_pos (by omega),List.getElem?_drop]
  have:=hi (lo*sz t+i) (by omega)
  rw [Nat.zero_add] at this;exact this
theorem Qed {w w':World} {S S':Nat→Prop} {β β':Qr} {H H':Heap} (hk: ∀b,b< w.heap.size→S b→S' b∧w'.heap[b]?=w.heap[b]?)
  (hp: ∀b,b< w.heap.size→ ¬Own β H b→ ¬Own β' H' b∧w'.heap[b]?=w.heap[b]?)
  (hn: ∀o ob,look H o=some ob→Step w w' S' (β o) ob (β' o) (look H' o)): ∀{x:S1} {v:Value},VS w S β H x v→VS w' S' β' H' x v
 | .any,_,_=>trivial
 | .d t x,v,h=>⟨h.1,Qaa hk h.2⟩
 | .nls,_,h=>h
 | .fn _ _,_,⟨vs,e,h⟩=>⟨vs,e,h.mono fun _ _=>QvX hk hp hn⟩
 | .pd t x,v,h=>h.keep hk hp
 | .sl o,v,h=>by
  have hc:=Qdx h rfl;simp only [VS] at h⊢;cases f:look H o with
  | none=>rw [f] at h; exact h.elim
  | some ob=>
   rw [f] at h;have a:=hn o ob f;cases d:look H' o with
   | none=>rw [d] at a; exact a
   | some m=>
    rw [d] at a;cases m with
    | dead=>exact hc
    | box cs=>exact hc
    | row e t p=>
     obtain ⟨e0,aj,g,l,q,_⟩:=a;subst g;simp only at h⊢;rw [←l]; exact q.row h
    | fro t p=>
     rcases a with g | ⟨e,g,l⟩
     ·subst g; exact Qaa hk h
     ·subst g; exact l v h
    | map _=>exact hc
 | .vw o lo n,v,h=>by
  have hc:=Qdx h rfl;simp only [VS] at h⊢;cases f:look H o with
  | none=>rw [f] at h; exact h.elim
  | some ob=>
   rw [f] at h;have a:=hn o ob f;cases d:look H' o with
   | none=>rw [d] at a; exact a
   | some m=>
    rw [d] at a;cases m with
    | dead=>exact hc
    | box cs=>exact hc
    | row e t p=>
     obtain ⟨e0,aj,g,l,q,e4,_⟩:=a;subst g;simp only at h⊢;rw [eq_comm] at l;obtain ⟨⟨y,z⟩,⟨v0,r⟩,s⟩:=h;refine ⟨⟨?_,?_⟩,⟨v0,?_⟩,?_⟩
     ·exact Bool.eq_false_iff.2 fun h=>by rw [e4 h] at y; cases y
     ·rw [l]; exact z
     ·rw [l]; exact q.row r
     ·exact q.vw s
    | fro t p=>
     rcases a with g | ⟨e,g,l⟩
     ·subst g; exact Qaa hk h
     ·subst g;obtain ⟨⟨y,z⟩,⟨v0,r⟩,s⟩:=h;exact QwP (l v0 r) r s z
    | map _=>exact hc
 | .mp o,v,h=>by
  have hc:=Qdx h rfl;simp only [VS] at h⊢;cases f:look H o with
  | none=>rw [f] at h; exact h.elim
  | some ob=>
   rw [f] at h;have a:=hn o ob f;cases d:look H' o with
   | none=>rw [d] at a; exact a
   | some m=>
    rw [d] at a;cases m with
    | dead=>exact hc
    | map es=>
     obtain ⟨⟨a1,g⟩,l⟩:=a;subst g;simp only at h⊢;rw [l]; exact h
    | row e t p=>exact hc
    | fro t p=>exact hc
    | box _=>exact hc
 | .p o off,v,h=>by
  have hc:=Qdx h rfl;simp only [VS] at h⊢;cases f:look H o with
  | none=>rw [f] at h; exact h.elim
  | some ob=>
   rw [f] at h;have a:=hn o ob f;cases d:look H' o with
   | none=>rw [d] at a; exact a
   | some m=>
    rw [d] at a;cases m with
    | dead=>exact hc
    | box cs=>
     obtain ⟨⟨a0,g⟩,l⟩:=a;subst g;simp only at h⊢;rw [l]; exact h
    | row e t p=>exact hc
    | fro t p=>exact hc
    | map _=>exact hc
 | .pe o i off,v,h=>by
  have hc:=Qdx h rfl;simp only [VS] at h⊢;cases f:look H o with
  | none=>rw [f] at h; exact h.elim
  | some ob=>
   rw [f] at h;have a:=hn o ob f;cases d:look H' o with
   | none=>rw [d] at a; exact a
   | some m=>
    rw [d] at a;cases m with
    | dead=>exact hc
    | box cs=>exact hc
    | row e t p=>
     obtain ⟨e0,aj,g,l,q,e4,_⟩:=a;subst g;simp only at h⊢;obtain ⟨⟨y,z⟩,b,aa,r,s⟩:=h;rw [r] at q;obtain ⟨u,h5⟩:=q.some;rw [←l];exact ⟨⟨y,Bool.eq_false_iff.2 fun h=>by rw [e4 h] at z; cases z⟩,b,u,h5,s⟩
    | fro t p=>exact hc
    | map _=>exact hc
 | .dp o i off tk,v,h=>by
  have hc:=Qdx h rfl;simp only [VS] at h⊢;cases f:look H o with
  | none=>rw [f] at h; exact h.elim
  | some ob=>
   rw [f] at h;have a:=hn o ob f;cases d:look H' o with
   | none=>rw [d] at a; exact a
   | some m=>
    rw [d] at a;cases m with
    | dead=>exact hc
    | box cs=>exact hc
    | row e t p=>
     obtain ⟨e0,aj,g,l,q,e4,e5⟩:=a;subst g;simp only at h⊢;refine ⟨hc,fun hd=>?_⟩
     obtain ⟨y,b,aa,r,s⟩:=h.2 (e4 hd);have am:=r;rw [r] at q;obtain ⟨u,h5⟩:=q.some;rw [←l];refine ⟨y,b,u,h5,?_⟩;cases tk with
     | ptr=>exact s
     | tok=>
      intro hl;obtain ⟨ae,af⟩:=e5 hl;obtain ⟨c,e',fz,A,n,k,h7,h8,h9⟩:=s ae;obtain ⟨c',ab,ad,ag,ah⟩:=af b aa c e' fz am h7;exact ⟨c',ab,ad,A,n,k,ag,by rw [ah _ A n k (by rw [h8,h9])]; exact h8,h9⟩
     | «at» j=>
      intro hl;obtain ⟨ae,af⟩:=e5 hl;obtain ⟨c,e',fz,A,n,k,h7,h8,h9⟩:=s ae;obtain ⟨c',ab,ad,ag,ah⟩:=af b aa c e' fz am h7;exact ⟨c',ab,ad,A,n,k,ag,by rw [ah _ (some A) n k h8]; exact h8,h9⟩
    | fro t p=>exact hc
    | map _=>exact hc
theorem VV_s {w:World} {S:Nat→Prop} {β:Qr} {H:Heap} {y:S1} {v:Value} (hy: ∀t x,y≠ .d t x):VV w S β H (.s y) v↔VS w S β H y v:=by
 cases y <;> first | exact absurd rfl (hy _ _) | exact Iff.rfl
theorem Qnw {w w':World} {S S':Nat→Prop} {β β':Qr} {H H':Heap} (hk: ∀b,b< w.heap.size→S b→S' b∧w'.heap[b]?=w.heap[b]?)
  (hp: ∀b,b< w.heap.size→ ¬Own β H b→ ¬Own β' H' b∧w'.heap[b]?=w.heap[b]?)
  (hn: ∀o ob,look H o=some ob→Step w w' S' (β o) ob (β' o) (look H' o)) {x:SV} {v:Value} (h:VV w S β H x v):VV w' S' β' H' x v:=by
 cases x with
 | g f=>
  obtain ⟨a,e,c⟩:=h;exact ⟨a,e,c.mono fun _ _=>Qed hk hp hn⟩
 | s y=>
  cases y <;> first
   | (obtain ⟨a,e,d⟩:=h; exact ⟨a,e,Qaa hk d⟩)
   | exact (VV_s (by intros; simp)).2 (Qed hk hp hn ((VV_s (by intros; simp)).1 h))
theorem Qnv {w w':World} {S S':Nat→Prop} {β β':Qr} {H H':Heap} (hk: ∀b,b< w.heap.size→S b→S' b∧w'.heap[b]?=w.heap[b]?)
  (hp: ∀b,b< w.heap.size→ ¬Own β H b→ ¬Own β' H' b∧w'.heap[b]?=w.heap[b]?)
  (hn: ∀o ob,look H o=some ob→Step w w' S' (β o) ob (β' o) (look H' o)) {x:Sl} {v:Value} (h:VL w S β H x v):VL w' S' β' H' x v:=by
 cases x with
 | v y=>exact Qnw hk hp hn (x:=y) h
 | t d=>
  obtain ⟨c,e,a⟩:=h;exact ⟨c,e,a.mono fun _ _=>Qnw hk hp hn⟩
end
section
open Go Go.RowKit
theorem Qe {α:Type} (k:Nat) (x:α) (r:List (Nat×α)) (i:Nat):look ((k,x)::r) i=if k=i then some x else look r i:=rfl
variable {Z:Nat→Prop} {M:Nat→Nat→Prop} {N:Nat→Option (Option (Nat×Nat))} {w0 w w':World} {β β':Qr} {σ:St} {a:Act}
theorem Kept.refl (M:Nat→Nat→Prop) (w:World):Kept M w w:=⟨rfl,rfl,rfl,Nat.le_refl _,fun _ _ _=>rfl,fun b c e a h=>⟨c,h,rfl,fun _ _=>rfl⟩⟩
theorem Kept.step {M:Nat→Nat→Prop} {a w w':World} (h:Kept M a w) (hos:w'.os=w.os) (ht:w'.tape=w.tape) (hout:w'.output=w.output) (hs:w.heap.size≤w'.heap.size)
  (hb: ∀b,b< a.heap.size→w'.heap[b]?=w.heap[b]?∨ ∃c c' e fz,w.heap[b]?=some (.cells c e fz)∧w'.heap[b]?=some (.cells c' e fz)∧c'.size=c.size∧ ∀i, ¬M b i→c'[i]?=c[i]?):Kept M a w' where
 os:=hos.trans h.os
 tape:=ht.trans h.tape
 output:=hout.trans h.output
 size:=Nat.le_trans h.size hs
 block:=by
  intro b d l;rcases hb b d with e | ⟨c,c',e,fz,f,j,k,h4⟩
  ·rw [e]; exact h.block b d l
  ·rw [←h.block b d l,f,j]
   have:c'=c:=Array.ext (by omega) fun i g n=>by
    have:=h4 i (l i);rw [Array.getElem?_eq_getElem g,Array.getElem?_eq_getElem n] at this;exact Osj this
   rw [this]
 cells:=by
  intro b c e fz m;obtain ⟨o,f,j,k⟩:=h.cells b c e fz m;have d:b< a.heap.size:=(Array.getElem?_eq_some_iff.1 m).1;rcases hb b d with e' | ⟨c2,c',e2,fz2,h4,h5,h6,h7⟩
  ·exact ⟨o,by rw [e']; exact f,j,k⟩
  ·rw [f] at h4;simp only [Oie,Obj.cells.injEq] at h4;obtain ⟨rfl,rfl,rfl⟩:=h4;exact ⟨c',h5,by omega,fun i g=>(h7 i g).trans (k i g)⟩
theorem Kept.alloc {M:Nat→Nat→Prop} {a w:World} (h:Kept M a w) (o:Obj):Kept M a (w.alloc o):=
 h.step rfl rfl rfl (by simp) fun b c=> .inl (Below.heap_alloc w o b (Nat.lt_of_lt_of_le c h.size))
theorem Qbg {H:Heap} {j:Nat} (h:QU H j=true):look H j=none:=by
 simpa [QU] using h
def Qr.put (β:Qr) (j:Nat) (q:Option (Nat×Nat)):Qr:=fun o=>if o=j then q else β o
theorem Qam {Z:Nat→Prop} {H H':Heap} (hk: ∀b,b< w.heap.size→ ¬Own β H b→ ¬Own β' H' b∧w'.heap[b]?=w.heap[b]?):
  ∀b,b< w.heap.size→RO Z β H b→RO Z β' H' b∧w'.heap[b]?=w.heap[b]? :=fun b a h=>⟨⟨h.1,(hk b a h.2).1⟩,(hk b a h.2).2⟩
theorem RepB.set (h:RepB Z M N w0 β σ a w) {i:Nat} {y:SV} {v:Value} (hi:i< σ.nt) (hv:VV w (RO Z β σ.H) β σ.H y v):RepB Z M N w0 β (σ.set i y) (a.put (some i) v) w where
 fresh:=h.fresh
 whole:=h.whole
 pin:=h.pin
 laid:=h.laid
 bz:=h.bz
 defers:=h.defers
 size:=by simp [Act.put,h.size,St.set]
 below:=h.below
 hold:=h.hold
 one:=h.one
 obj:=h.obj
 env:=by
  intro k x b;simp only [Act.put,Array.size_setIfInBounds];simp only [St.set,Qe] at b;by_cases e:i=k
  ·subst e;rw [if_pos rfl] at b;obtain rfl:=Osj b;have c:i< a.tmps.size:=by rw [h.size]; exact hi
   refine ⟨c,?_⟩;simp only [Act.put,Array.getD_eq_getD_getElem?,Array.getElem?_setIfInBounds,if_pos c,if_true];exact hv
  ·rw [if_neg e] at b;obtain ⟨c,this⟩:=h.env k x b;refine ⟨c,?_⟩;simp only [Act.put,Array.getD_eq_getD_getElem?,Array.getElem?_setIfInBounds,if_neg e];rw [Array.getD_eq_getD_getElem?] at this;exact this
theorem RepB.sets (h:RepB Z M N w0 β σ a w) {i:Option Nat} {y:SV} {v:Value} (hi:QK i σ.nt=true) (hv:VV w (RO Z β σ.H) β σ.H y v):RepB Z M N w0 β (σ.sets i y) (a.put i v) w:=by
 cases i with
 | none=>exact h
 | some j=>exact h.set (by simpa [QK] using hi) hv
theorem RepB.setL (h:RepB Z M N w0 β σ a w) {i:Nat} {y:Sl} {v:Value} (hi:i< σ.nt) (hv:VL w (RO Z β σ.H) β σ.H y v):RepB Z M N w0 β { σ with env:=(i,y)::σ.env } (a.put (some i) v) w where
 fresh:=h.fresh
 whole:=h.whole
 pin:=h.pin
 laid:=h.laid
 bz:=h.bz
 defers:=h.defers
 size:=by simp [Act.put,h.size]
 below:=h.below
 hold:=h.hold
 one:=h.one
 obj:=h.obj
 env:=by
  intro k x b;simp only [Act.put,Array.size_setIfInBounds];simp only [Qe] at b;by_cases e:i=k
  ·subst e;rw [if_pos rfl] at b;obtain rfl:=Osj b;have c:i< a.tmps.size:=by rw [h.size]; exact hi
   refine ⟨c,?_⟩;simp only [Act.put,Array.getD_eq_getD_getElem?,Array.getElem?_setIfInBounds,if_pos c,if_true];exact hv
  ·rw [if_neg e] at b;obtain ⟨c,this⟩:=h.env k x b;refine ⟨c,?_⟩;simp only [Act.put,Array.getD_eq_getD_getElem?,Array.getElem?_setIfInBounds,if_neg e];rw [Array.getD_eq_getD_getElem?] at this;exact this
theorem QqQ {H:Heap} {o:Nat} {ob ob':Ob} {β':Qr} (ho:look H o=some ob): ∀o' cs b base,look H o'=none→look ((o,ob')::H) o'=some (.box cs)→β' o'=some (b,base)→base=0:=by
 intro o' cs b base c a _;rw [Qe] at a;split at a
 ·rename_i e; subst e; rw [ho] at c; cases c
 ·rw [c] at a; cases a
theorem RepB.move (h:RepB Z M N w0 β σ a w) {H':Heap} (hbelow:Kept M w0 w') (hpin: ∀o q,β o=q→(look σ.H o).isSome=true→9000000≤o→β' o=q∧(look H' o).isSome=true)
  (hk: ∀b,b< w.heap.size→ ¬Own β σ.H b→ ¬Own β' H' b∧w'.heap[b]?=w.heap[b]?)
  (hn: ∀o ob,look σ.H o=some ob→Step w w' (RO Z β' H') (β o) ob (β' o) (look H' o))
  (hown: ∀o ob q b,look H' o=some ob→live ob=true→β' o=some q→foot ob q b→mayW M b q.2 ob∧b< w'.heap.size)
  (hinj: ∀o o' ob ob' q q' b,look H' o=some ob→live ob=true→look H' o'=some ob'→live ob'=true→β' o=some q→β' o'=some q'→foot ob q b→foot ob' q' b→o=o')
  (hobj: ∀o ob,look H' o=some ob→OR w' (RO Z β' H') β' H' (β' o) ob)
  (hbz: ∀o cs b base,look σ.H o=none→look H' o=some (.box cs)→β' o=some (b,base)→base=0):RepB Z M N w0 β' { σ with H:=H' } a w' where
 fresh:=h.fresh
 whole:=h.whole
 pin:=fun o q c=>⟨(hpin o q (h.pin o q c).1 (h.pin o q c).2.1 (h.pin o q c).2.2).1,(hpin o q (h.pin o q c).1 (h.pin o q c).2.1 (h.pin o q c).2.2).2,(h.pin o q c).2.2⟩
 laid:=h.laid
 bz:=fun o cs b base f m d=>by
  cases c:look σ.H o with
  | none=>exact hbz o cs b base c f d
  | some ob=>
   have g:=hn o ob c;rw [show look H' o=some (.box cs) from f] at g
   obtain ⟨⟨e,k⟩,l⟩:=g;subst k;rw [l] at d;exact h.bz o e b base c m d
 defers:=h.defers
 size:=h.size
 below:=hbelow
 hold:=hown
 one:=hinj
 obj:=hobj
 env:=fun i x j=>⟨(h.env i x j).1,Qnv (Qam hk) hk hn (h.env i x j).2⟩
theorem Qdw {S S':Nat→Prop} {H H':Heap} (hk: ∀b,b< w.heap.size→S b→S' b∧w'.heap[b]?=w.heap[b]?)
  (hp: ∀b,b< w.heap.size→ ¬Own β H b→ ¬Own β' H' b∧w'.heap[b]?=w.heap[b]?)
  (hn: ∀o ob,look H o=some ob→Step w w' S' (β o) ob (β' o) (look H' o)) {q:Option (Nat×Nat)} {ob:Ob} (hb: ∀b p,q=some p→live ob=true→foot ob p b→w'.heap[b]?=w.heap[b]?)
  (h:OR w S β H q ob):OR w' S' β' H' q ob:=by
 cases ob with
 | dead=>trivial
 | fro _ _=>trivial
 | box y=>
  obtain ⟨b,f,c,e,d,i,n⟩:=h;exact ⟨b,f,c,e,d,by rw [hb b _ d rfl Qm]; exact i,n.1,n.2.mono fun _ _ r=>⟨Qed hk hp hn r.1,r.2⟩⟩
 | row e t xs=>
  rcases h with h | ⟨b,f,c,rows,d,i,hs,hl,hm,hr,hi,hcap,hnot,hdp⟩
  ·exact .inl h
  ·refine .inr ⟨b,f,c,rows,d,by rw [hb b _ d rfl Qm]; exact i,hs,hl,hm,Qad (fun _ _=>Qaa fun g k a=>?_) hr,hi,hcap,hnot,fun v=>?_⟩
   case refine_2=>
    obtain ⟨F,s,u,m⟩:=hdp v;exact ⟨F,Qew (fun g k=>hb g _ d rfl (.inr ⟨rfl,m g k⟩)) s,u,m⟩
   rcases a with a | a
   ·exact ⟨.inl (hk g k a).1,(hk g k a).2⟩
   ·exact ⟨.inr a,hb g _ d rfl (.inr ⟨rfl,a⟩)⟩
 | map z=>
  obtain ⟨b,f,l,j,d,i,x⟩:=h;exact ⟨b,f,l,j,d,by rw [hb b _ d rfl Qm]; exact i,x⟩
theorem QaP {S':Nat→Prop} {q:Option (Nat×Nat)} {ob:Ob} (hb:live ob=true→ ∀p,q=some p→w'.heap[p.1]?=w.heap[p.1]?):Step w w' S' q ob q (some ob):=by
 cases ob with
 | dead=>trivial
 | box b=>exact ⟨⟨b,rfl⟩,rfl⟩
 | row e t a=>exact ⟨e,a,rfl,rfl,Qdt.refl,id,fun h=>⟨h,HdrS.same (hb rfl)⟩⟩
 | fro t a=>exact .inl rfl
 | map c=>exact ⟨⟨c,rfl⟩,rfl⟩
theorem Qn {j:Nat} {q:Option (Nat×Nat)} {o:Nat} (h:o≠j):(β.put j q) o=β o:=by simp [Qr.put,h]
theorem Qx {j:Nat} {q:Option (Nat×Nat)}:(β.put j q) j=q:=by simp [Qr.put]
theorem QvW {H:Heap} {j:Nat} {q:Option (Nat×Nat)} {ob:Ob} {b:Nat} (hj:look H j=none):
  Own (β.put j q) ((j,ob)::H) b↔(live ob=true∧ ∃p,q=some p∧foot ob p b)∨Own β H b:=by
 constructor
 ·rintro ⟨o,ob',p,ho,hl,hb,hf⟩;rw [Qe] at ho;by_cases e:j=o
  ·subst e;rw [if_pos rfl] at ho;obtain rfl:=Osj ho;rw [Qx] at hb;exact .inl ⟨hl,p,hb,hf⟩
  ·rw [if_neg e] at ho;rw [Qn (fun h=>e h.symm)] at hb
   exact .inr ⟨o,ob',p,ho,hl,hb,hf⟩
 ·rintro (⟨hl,p,hq,hf⟩ | ⟨o,ob',p,ho,hl,hb,hf⟩)
  ·exact ⟨j,ob,p,by rw [Qe,if_pos rfl],hl,by rw [Qx]; exact hq,hf⟩
  ·have a:j≠o:=fun e=>by subst e; rw [hj] at ho; cases ho
   exact ⟨o,ob',p,by rw [Qe,if_neg a]; exact ho,hl,by rw [Qn (fun h=>a h.symm)]; exact hb,hf⟩
theorem Qkz {M:Nat→Nat→Prop} {n b cap:Nat} {ob:Ob} (h: ∀b,n≤b→ ∀i,M b i) (hb:n≤b):mayW M b cap ob:=by
 cases ob <;> first | exact fun i _=>h b hb _ | exact fun i=>h b hb _
theorem QdE {α:Type} {H:List (Nat×α)} {j:Nat} {x:α} {o:Nat} (h:(look H o).isSome=true):(look ((j,x)::H) o).isSome=true:=by
 rw [Qe];split
 ·rfl
 ·exact h
theorem Qwz {H:Heap} {j:Nat} {q q':Option (Nat×Nat)} {ob:Ob} (hj:look H j=none) {o:Nat} (ho:β o=q') (hs:(look H o).isSome=true):
  (β.put j q) o=q'∧(look ((j,ob)::H) o).isSome=true:=
 ⟨by rw [Qn (fun e=>by subst e; rw [hj] at hs; cases hs)]; exact ho,QdE hs⟩
theorem RepB.new (h:RepB Z M N w0 β σ a w) {j:Nat} {ob:Ob} {q:Option (Nat×Nat)} (hj:QU σ.H j=true) (hbelow:Kept M w0 w')
  (hold: ∀b,b< w.heap.size→w'.heap[b]?=w.heap[b]?) (hsize:w.heap.size≤w'.heap.size)
  (hq: ∀b p,q=some p→live ob=true→foot ob p b→w.heap.size≤b∧b< w'.heap.size)
  (hobj: ∀S' β' H',(∀x v,VS w (RO Z β σ.H) β σ.H x v→VS w' S' β' H' x v)→(∀t x cs,Rp w (RO Z β σ.H) t x cs→Rp w' S' t x cs)→OR w' S' β' H' q ob) (hbz: ∀cs b base,ob= .box cs→q=some (b,base)→base=0:=by intro _ _ _ h; cases h):
  RepB Z M N w0 (β.put j q) (σ.put j ob) a w':=by
 have u:=Qbg hj;have aj:w0.heap.size≤w.heap.size:=h.below.size
 have n: ∀b,b< w.heap.size→ ¬Own β σ.H b→ ¬Own (β.put j q) ((j,ob)::σ.H) b∧w'.heap[b]?=w.heap[b]? :=by
  intro b d z;refine ⟨fun c=>?_,hold b d⟩
  rcases (QvW u).1 c with ⟨g,p,hc,k⟩ | c
  ·have:=(hq b p hc g k).1; omega
  ·exact z c
 have z: ∀o f,look σ.H o=some f→Step w w' (RO Z (β.put j q) ((j,ob)::σ.H)) (β o) f ((β.put j q) o) (look ((j,ob)::σ.H) o):=by
  intro o f c;have ab:j≠o:=fun e=>by subst e; rw [u] at c; cases c
  rw [Qe,if_neg ab,Qn (fun h=>ab h.symm),c]
  exact QaP fun g p hp=>hold p.1 (h.hold o f p p.1 c g hp Qm).2
 refine h.move hbelow (fun o q c hs _=>Qwz u c hs) n z ?_ ?_ ?_ (fun o cs b base h0 r h2=>by
  rw [Qe] at r;split at r
  ·rename_i e;subst e;rw [Qx] at h2;exact hbz cs b base (Osj r) h2
  ·rw [h0] at r; cases r)
 ·intro o f p b c g d k;rw [Qe] at c;by_cases e:j=o
  ·subst e;rw [if_pos rfl] at c;obtain rfl:=Osj c;rw [Qx] at d;have:=hq b p d g k;exact ⟨Qkz h.fresh (by omega),this.2⟩
  ·rw [if_neg e] at c;rw [Qn (fun h=>e h.symm)] at d
   have:=h.hold o f p b c g d k;exact ⟨this.1,by omega⟩
 ·intro o o' ac ad p p' b c g i y d l k s;rw [Qe] at c i;by_cases e:j=o
  ·by_cases m:j=o'
   ·omega
   ·subst e;rw [if_pos rfl] at c;obtain rfl:=Osj c;rw [Qx] at d;rw [if_neg m] at i;rw [Qn (fun h=>m h.symm)] at l
    have:=hq b p d g k;have:=(h.hold o' ad p' b i y l s).2;omega
  ·by_cases m:j=o'
   ·subst m;rw [if_pos rfl] at i;obtain rfl:=Osj i;rw [Qx] at l;rw [if_neg e] at c;rw [Qn (fun h=>e h.symm)] at d
    have:=hq b p' l y s;have:=(h.hold o ac p b c g d k).2;omega
   ·rw [if_neg e] at c;rw [if_neg m] at i;rw [Qn (fun h=>e h.symm)] at d
    rw [Qn (fun h=>m h.symm)] at l
    exact h.one o o' ac ad p p' b c g i y d l k s
 ·intro o f c;rw [Qe] at c;by_cases e:j=o
  ·subst e;rw [if_pos rfl] at c;obtain rfl:=Osj c;rw [Qx];exact hobj _ _ _ (fun x v=>Qed (Qam n) n z) (fun t x cs=>Qaa (Qam n))
  ·rw [if_neg e] at c;rw [Qn (fun h=>e h.symm)]
   refine Qdw (Qam n) n z (fun b p d g k=>?_) (h.obj o f c)
   exact hold b (h.hold o f p b c g d k).2
theorem RepB.turn (h:RepB Z M N w0 β σ a w) {o:Nat} {p:Nat×Nat} {ob ob':Ob} (ho:look σ.H o=some ob) (hl:live ob=true) (hl':live ob'=true) (hb:β o=some p)
  (hs: ∀S',Step w w' S' (β o) ob (β o) (some ob')) (hM: ∀b,foot ob' p b→mayW M b p.2 ob') (hfoot: ∀b,foot ob' p b↔foot ob p b) (hbelow:Kept M w0 w') (hsz:w'.heap.size=w.heap.size) (hw: ∀b', ¬foot ob p b'→w'.heap[b']?=w.heap[b']?)
  (hobj: ∀S' H',(∀x v,VS w (RO Z β σ.H) β σ.H x v→VS w' S' β H' x v)→(∀t x cs,Rp w (RO Z β σ.H) t x cs→Rp w' S' t x cs)→OR w' S' β H' (β o) ob'):
  RepB Z M N w0 β (σ.put o ob') a w':=by
 have f: ∀g d,look ((o,ob')::σ.H) g=some d→live d=true→ ∃i,look σ.H g=some i∧live i=true∧ ∀q b,β g=some q→(foot d q b↔foot i q b):=by
  intro g d c l1;rw [Qe] at c;by_cases e:o=g
  ·subst e;rw [if_pos rfl] at c;obtain rfl:=Osj c;refine ⟨ob,ho,hl,fun q b hq=>?_⟩
   rw [hb] at hq;obtain rfl:=Osj hq;exact hfoot b
  ·rw [if_neg e] at c; exact ⟨d,c,l1,fun _ _ _=>Iff.rfl⟩
 have hO: ∀b',Own β ((o,ob')::σ.H) b'↔Own β σ.H b':=by
  intro b';constructor
  ·rintro ⟨g,d,q,c,k,j,l⟩;obtain ⟨i,r,y,z⟩:=f g d c k;exact ⟨g,i,q,r,y,j,(z q b' j).1 l⟩
  ·rintro ⟨g,d,q,c,k,j,l⟩;by_cases e:o=g
   ·subst e;rw [ho] at c;obtain rfl:=Osj c;have s:=j;rw [hb] at s;obtain rfl:=Osj s;exact ⟨o,ob',_,by rw [Qe,if_pos rfl],hl',j,(hfoot b').2 l⟩
   ·exact ⟨g,d,q,by rw [Qe,if_neg e]; exact c,k,j,l⟩
 have m: ∀b',b'< w.heap.size→ ¬Own β σ.H b'→ ¬Own β ((o,ob')::σ.H) b'∧w'.heap[b']?=w.heap[b']? :=by
  intro b' u n;exact ⟨fun hh=>n ((hO b').1 hh),hw b' fun e=>n ⟨o,ob,p,ho,hl,hb,e⟩⟩
 have n: ∀g d,look σ.H g=some d→Step w w' (RO Z β ((o,ob')::σ.H)) (β g) d (β g) (look ((o,ob')::σ.H) g):=by
  intro g d c;by_cases e:o=g
  ·subst e;rw [ho] at c;obtain rfl:=Osj c;rw [Qe,if_pos rfl];exact hs _
  ·rw [Qe,if_neg e,c];exact QaP fun hl' p' ag=>hw p'.1 fun hf=>e (h.one o g ob d p p' p'.1 ho hl c hl' hb ag hf Qm)
 refine h.move hbelow (fun g q af hs _=>⟨af,QdE hs⟩) m n ?_ ?_ ?_ (QqQ ho)
 ·intro g d q b' c k j l;rw [hsz];obtain ⟨i,r,y,z⟩:=f g d c k;have:=h.hold g i q b' r y j ((z q b' j).1 l);refine ⟨?_,this.2⟩;rw [Qe] at c;by_cases e:o=g
  ·subst e;rw [if_pos rfl] at c; obtain rfl:=Osj c;rw [hb] at j;obtain rfl:=Osj j;exact hM b' l
  ·rw [if_neg e,r] at c;obtain rfl:=Osj c;exact this.1
 ·intro o1 o2 d i q1 q2 b' c l1 k l2 b1 b2 f1 f2;obtain ⟨p1,ak,r1,s1⟩:=f o1 d c l1;obtain ⟨p2,al,r2,s2⟩:=f o2 i k l2;exact h.one o1 o2 p1 p2 q1 q2 b' ak r1 al r2 b1 b2 ((s1 _ _ b1).1 f1) ((s2 _ _ b2).1 f2)
 ·intro g d c;rw [Qe] at c;by_cases e:o=g
  ·subst e;rw [if_pos rfl] at c;obtain rfl:=Osj c;exact hobj _ _ (fun x v=>Qed (Qam m) m n) (fun t x cs=>Qaa (Qam m))
  ·rw [if_neg e] at c;refine Qdw (Qam m) m n (fun b' q' u hl' ae=>hw b' fun e'=>?_) (h.obj g d c)
   exact e (h.one o g ob d p q' b' ho hl c hl' hb u e' ae)
theorem RepB.frz1 (h:RepB Z M N w0 β σ a w) {o:Nat} {e:TypeId} {t:Ty} {xs:List (den t)} (ho:look σ.H o=some (.row e t xs)):RepB Z M N w0 β (σ.put o (.fro t xs)) a w:=by
 have hO: ∀k,Own β ((o,.fro t xs)::σ.H) k→Own β σ.H k:=by
  rintro k ⟨f,j,cap',d,l,p⟩;rw [Qe] at d;by_cases e:o=f
  ·subst e; rw [if_pos rfl] at d; obtain rfl:=Osj d; simp [live] at l
  ·rw [if_neg e] at d; exact ⟨f,j,cap',d,l,p⟩
 have s: ∀k,k< w.heap.size→ ¬Own β σ.H k→ ¬Own β ((o,.fro t xs)::σ.H) k∧w.heap[k]?=w.heap[k]? :=fun k _ u=>⟨fun hh=>u (hO k hh),rfl⟩
 have y: ∀b q,β o=some q→foot (.row e t xs) q b→ ¬Own β ((o,.fro t xs)::σ.H) b:=by
  rintro b q hb hf ⟨f,j,q',d,l,p,z⟩;rw [Qe] at d;by_cases e:o=f
  ·subst e; rw [if_pos rfl] at d; obtain rfl:=Osj d; simp [live] at l
  ·rw [if_neg e] at d;exact e (h.one o f _ _ q q' b ho rfl d l hb p hf z)
 have u: ∀f j,look σ.H f=some j→Step w w (RO Z β ((o,.fro t xs)::σ.H)) (β f) j (β f) (look ((o,.fro t xs)::σ.H) f):=by
  intro f j d;by_cases e':o=f
  ·subst e';rw [ho] at d;obtain rfl:=Osj d;rw [Qe,if_pos rfl];refine .inr ⟨e,rfl,fun v r=>?_⟩
   rcases h.obj o _ ho with ⟨n,hx⟩ | ⟨b,x,c,ac,n,hh,hs,hl,a2,hr,hi,_,_⟩
   ·rw [n] at r;obtain ⟨rfl,_⟩:=r;subst hx;exact ⟨none,0,rfl,by simp,fun hx=>absurd rfl hx⟩
   ·rw [n] at r;simp only [RowV] at r;subst r;refine ⟨_,QaO x,rfl,hl,fun _=>⟨b,0,rfl,⟨h.whole b (h.own o _ b x ho rfl n).1,y b _ n Qm⟩,ac,Qad (fun _ _=>Qaa fun g hg m=>?_) hr,c,raw e,_,hh,fun i ag=>by rw [Nat.zero_add]; exact hi i ag⟩⟩
    rcases m with m | m
    ·exact Qam s g hg m
    ·exact ⟨⟨h.whole g (h.hold o _ _ g ho rfl n (.inr ⟨rfl,m⟩)).1,y g _ n (.inr ⟨rfl,m⟩)⟩,rfl⟩
  ·rw [Qe,if_neg e',d];exact QaP fun _ _ _=>rfl
 refine h.move h.below (fun f q ah hs _=>⟨ah,QdE hs⟩) s u ?_ ?_ ?_ (QqQ ho)
 ·intro f j q k d l p z;rw [Qe] at d;by_cases e:o=f
  ·subst e; rw [if_pos rfl] at d; obtain rfl:=Osj d; simp [live] at l
  ·rw [if_neg e] at d; exact h.hold f j q k d l p z
 ·intro o1 o2 j ao q1 q2 k d l1 l l2 b1 b2 f1 f2;rw [Qe] at d l;by_cases e1:o=o1
  ·subst e1; rw [if_pos rfl] at d; obtain rfl:=Osj d; simp [live] at l1
  ·by_cases e2:o=o2
   ·subst e2; rw [if_pos rfl] at l; obtain rfl:=Osj l; simp [live] at l2
   ·rw [if_neg e1] at d; rw [if_neg e2] at l;exact h.one o1 o2 j ao q1 q2 k d l1 l l2 b1 b2 f1 f2
 ·intro f j d;rw [Qe] at d;by_cases e:o=f
  ·subst e; rw [if_pos rfl] at d; obtain rfl:=Osj d; trivial
  ·rw [if_neg e] at d;exact Qdw (Qam s) s u (fun _ _ _ _ _=>rfl) (h.obj f j d)
theorem RepB.frz (h:RepB Z M N w0 β σ a w): ∀l:List Nat,RepB Z M N w0 β { σ with H:=S.frz σ.H l } a w
 | []=>h
 | o::r=>by
  have ih:=RepB.frz h r;unfold S.frz;split
  ·rename_i e t c b;exact ih.frz1 (σ:={ σ with H:=S.frz σ.H r }) b
  ·exact ih
theorem RepB.frz1V (h:RepB Z M N w0 β σ a w) {o:Nat} {e:TypeId} {t:Ty} {xs:List (den t)} (ho:look σ.H o=some (.row e t xs)) {x:SV} {v:Value} (hv:VV w (RO Z β σ.H) β σ.H x v):VV w (RO Z β ((o,.fro t xs)::σ.H)) β ((o,.fro t xs)::σ.H) x v:=by
 have hO: ∀j,Own β ((o,.fro t xs)::σ.H) j→Own β σ.H j:=by
  rintro j ⟨f,l,cap',d,h2,h3⟩;rw [Qe] at d;by_cases e:o=f
  ·subst e; rw [if_pos rfl] at d; obtain rfl:=Osj d; simp [live] at h2
  ·rw [if_neg e] at d; exact ⟨f,l,cap',d,h2,h3⟩
 have s: ∀j,j< w.heap.size→ ¬Own β σ.H j→ ¬Own β ((o,.fro t xs)::σ.H) j∧w.heap[j]?=w.heap[j]? :=fun j _ u=>⟨fun r=>u (hO j r),rfl⟩
 have p: ∀b q,β o=some q→foot (.row e t xs) q b→ ¬Own β ((o,.fro t xs)::σ.H) b:=by
  rintro b q hb hf ⟨f,l,q',d,h2,h3,h4⟩;rw [Qe] at d;by_cases e:o=f
  ·subst e; rw [if_pos rfl] at d; obtain rfl:=Osj d; simp [live] at h2
  ·rw [if_neg e] at d;exact e (h.one o f _ _ q q' b ho rfl d h2 hb h3 hf h4)
 have u: ∀f l,look σ.H f=some l→Step w w (RO Z β ((o,.fro t xs)::σ.H)) (β f) l (β f) (look ((o,.fro t xs)::σ.H) f):=by
  intro f l d;by_cases e':o=f
  ·subst e';rw [ho] at d;obtain rfl:=Osj d;rw [Qe,if_pos rfl];refine .inr ⟨e,rfl,fun v hv=>?_⟩
   rcases h.obj o _ ho with ⟨m,y⟩ | ⟨b,n,c,z,m,r,hs,hl,ah,hr,hi,_,_⟩
   ·rw [m] at hv;obtain ⟨rfl,_⟩:=hv;subst y;exact ⟨none,0,rfl,by simp,fun y=>absurd rfl y⟩
   ·rw [m] at hv;simp only [RowV] at hv;subst hv;refine ⟨_,QaO n,rfl,hl,fun _=>⟨b,0,rfl,⟨h.whole b (h.own o _ b n ho rfl m).1,p b _ m Qm⟩,z,Qad (fun _ _=>Qaa fun g hg k=>?_) hr,c,raw e,_,r,fun i ab=>by rw [Nat.zero_add]; exact hi i ab⟩⟩
    rcases k with k | k
    ·exact Qam s g hg k
    ·exact ⟨⟨h.whole g (h.hold o _ _ g ho rfl m (.inr ⟨rfl,k⟩)).1,p g _ m (.inr ⟨rfl,k⟩)⟩,rfl⟩
  ·rw [Qe,if_neg e',d];exact QaP fun _ _ _=>rfl
 exact Qnw (Qam s) s u hv
theorem RepB.frzV (h:RepB Z M N w0 β σ a w) {x:SV} {v:Value} (hv:VV w (RO Z β σ.H) β σ.H x v): ∀l:List Nat,VV w (RO Z β (S.frz σ.H l)) β (S.frz σ.H l) x v
 | []=>hv
 | o::r=>by
  have ih:=RepB.frzV h hv r;have c:=h.frz r;unfold S.frz;split
  ·rename_i e t d b;exact c.frz1V (σ:={ σ with H:=S.frz σ.H r }) b ih
  ·exact ih
theorem RepB.val (h:RepB Z M N w0 β σ a w) {i:Option Nat} {y:SV} {v:Value} (hi:QK i σ.nt=true) (hv:VV w (RO Z β σ.H) β σ.H y v):
  RepB Z M N w0 β (addO σ i { x:= .v y,n:=[],fr:=[] }) (a.put i v) w:=by
 cases i with
 | none=>exact h
 | some j=>exact h.set (by simpa [QK] using hi) hv
theorem RepB.valL (h:RepB Z M N w0 β σ a w) {i:Option Nat} {y:Sl} {v:Value} (hi:QK i σ.nt=true) (hv:VL w (RO Z β σ.H) β σ.H y v):
  RepB Z M N w0 β (addO σ i { x:=y,n:=[],fr:=[] }) (a.put i v) w:=by
 cases i with
 | none=>exact h
 | some j=>exact h.setL (by simpa [QK] using hi) hv
theorem RepB.skip (h:RepB Z M N w0 β σ a w) {i:Option Nat} (hi:QK i σ.nt=true):RepB Z M N w0 β (σ.skip i) (a.put i undef) w:=by
 cases i with
 | none=>exact h
 | some j=>exact h.setL (by simpa [QK] using hi) ⟨[],rfl,.nil⟩
end
section
open Go Go.RowKit
variable {Z:Nat→Prop} {M:Nat→Nat→Prop} {N:Nat→Option (Option (Nat×Nat))} {w0 w w':World} {β β':Qr} {σ:St} {a:Act} {S S':Nat→Prop} {H:Heap}
theorem QV {s t:Ty} {x:den s} {y:den t} (h:cst s t x=some y): ∃e:s=t,e▸x=y:=by
 unfold cst at h;split at h
 ·rename_i e; exact ⟨e,by simpa using h⟩
 ·cases h
theorem Qhm {s t:Ty} {x:den s} {y:den t} (h:cst s t x=some y) {cs} (hr:Rp w S s x cs):s=t∧Rp w S t y cs:=by
 obtain ⟨e,rfl⟩:=QV h;subst e;exact ⟨rfl,hr⟩
theorem QfD {q:Nat→Prop} {s t:Ty} {x:den s} {y:den t} (h:cst s t x=some y) {v:Value} (hr:PtrR w S q s x v):s=t∧PtrR w S q t y v:=by
 obtain ⟨e,rfl⟩:=QV h;subst e;exact ⟨rfl,hr⟩
theorem Qf (h:RepB Z M N w0 β σ a w) {x:Operand} {y:SV} (hx:ev σ x=some y):VV w (RO Z β σ.H) β σ.H y (a.eval x):=by
 cases x with
 | tmp t=>
  simp only [ev] at hx;split at hx
  ·rename_i z b;obtain rfl:=Osj hx;exact (h.env t _ b).2
  ·obtain rfl:=Osj hx; exact trivial
  ·cases hx
 | const v=>
  simp only [ev,Qqq] at hx;split at hx
  ·obtain rfl:=Osj hx; exact ⟨_,rfl,rfl⟩
  ·obtain rfl:=Osj hx; exact ⟨_,rfl,rfl⟩
  ·obtain rfl:=Osj hx; exact ⟨_,rfl,rfl⟩
  ·obtain rfl:=Osj hx; rfl
  ·obtain rfl:=Osj hx; exact trivial
  ·cases hx
 | global g=>simp [ev] at hx
 | func f=>
  simp only [ev] at hx;obtain rfl:=Osj hx;exact ⟨[],rfl,.nil⟩
theorem QrG {t:Ty} {v:Value} {cs} (ht:isAg t=false) (h:Val t v cs):cs=[v]:=by simpa [Val,ht] using h
theorem Qbx {k:IntKind} {x:Int} {v:Value} (h:VV w S β H (.s (.d (.int k) x)) v):v= .int k x:=by
 obtain ⟨c,a,b⟩:=h;simp only [Val,isAg,Rp] at a b;subst b;simpa using a.symm
theorem Qee {x:Bool} {v:Value} (h:VV w S β H (.s (.d .bool x)) v):v= .bool x:=by
 obtain ⟨c,a,b⟩:=h;simp only [Val,isAg,Rp] at a b;subst b;simpa using a.symm
theorem QjN {x:List UInt8} {v:Value} (h:VV w S β H (.s (.d .str x)) v):v= .string ⟨x.toArray⟩:=by
 obtain ⟨c,a,b⟩:=h;simp only [Val,isAg,Rp] at a b;subst b;simpa using a.symm
theorem VV_d {t:Ty} {x:den t} (ht:isAg t=false) {v:Value}:VV w S β H (.s (.d t x)) v↔Rp w S t x [v]:=by
 constructor
 ·rintro ⟨cs,h1,h2⟩;rw [QrG ht h1] at h2; exact h2
 ·intro h;exact ⟨[v],by simp [Val,ht],h⟩
theorem QgI: ∀{t:Ty} {x:den t} {cs},Rp w S t x cs→All2 (VS w S β H) (split t x) cs
 | .int _,x,_,h=>by have e:=h; simp only [Rp] at e; subst e; exact .cons ⟨rfl,h⟩ .nil
 | .bool,x,_,h=>by have e:=h; simp only [Rp] at e; subst e; exact .cons ⟨rfl,h⟩ .nil
 | .str,x,_,h=>by have e:=h; simp only [Rp] at e; subst e; exact .cons ⟨rfl,h⟩ .nil
 | .unit,x,_,h=>by simp only [Rp] at h; subst h; exact .nil
 | .opq,x,_,⟨_,h⟩=>by subst h; exact .cons trivial .nil
 | .pair _ _,x,_,⟨c1,c2,e,h1,h2⟩=>by subst e; exact (QgI h1).append (QgI h2)
 | .slice _,x,_,h=>by
  have e:=h;obtain ⟨A,a,e,_⟩:=e;subst e;exact .cons ⟨rfl,h⟩ .nil
theorem QeO: ∀{t:Ty} (x:den t),(split t x).length=sz t
 | .int _,_=>rfl
 | .bool,_=>rfl
 | .str,_=>rfl
 | .unit,_=>rfl
 | .opq,_=>rfl
 | .pair a b,x=>by simp [split,sz,QeO x.1,QeO x.2]
 | .slice _,_=>rfl
theorem QdD {t:Ty} {v:Value} {cs} (h:Val t v cs) (hc: ∀u∈cs,u.oneCell'=true):v.cells=cs.toArray:=by
 unfold Val at h;split at h
 ·rw [h]; rfl
 ·subst h;have:=hc v (by simp)
  cases v <;> first | rfl | (simp [Value.oneCell'] at this)
theorem QtA {v:Value} (h:v.oneCell'=true):v.cells= #[v]:=by
 cases v <;> first | rfl | (simp [Value.oneCell'] at h)
theorem Qdc {y:SV} {v:Value} (h:VV w S β H y v) (hk:(cellsOf y).all known=true):
  ∃cs,v.cells=cs.toArray∧All2 (fun x u=>VS w S β H x u∧u.oneCell'=true) (cellsOf y) cs:=by
 cases y with
 | g o=>
  obtain ⟨cs,e,c⟩:=h;refine ⟨cs,by rw [e]; rfl,?_⟩
  simp only [cellsOf,List.all_eq_true] at hk⊢;clear e
  induction c with
  | nil=>exact .nil
  | cons a b d=>exact .cons ⟨a,Qdx a (hk _ (by simp))⟩ (d fun x a=>hk x (by simp [a]))
 | s x=>
  by_cases j: ∃t z,x= .d t z
  ·obtain ⟨t,z,rfl⟩:=j;obtain ⟨cs,m,b⟩:=h;refine ⟨cs,QdD m (Qaw b),?_⟩;have k:All2 (VS w S β H) (split t z) cs:=QgI b;have c:=Qaw b;simp only [cellsOf];clear m b hk;generalize split t z=l at k
   induction k with
   | nil=>exact .nil
   | cons a b d=>exact .cons ⟨a,c _ (by simp)⟩ (d fun u n=>c u (by simp [n]))
  ·have a: ∀t z,x≠ .d t z:=fun t z e=>j ⟨t,z,e⟩
   have f:=(VV_s a).1 h;have e:cellsOf (.s x)=[x]:=by cases x <;> first | rfl | exact absurd rfl (a _ _)
   rw [e] at hk⊢;have i:=Qdx f (by simpa using hk)
   exact ⟨[v],QtA i,.cons ⟨f,i⟩ .nil⟩
theorem Qom {t:Ty} {xs:List (den t)} {e:TypeId} {q:Option (Nat×Nat)} {v:Value} (ho:OR w S β H q (.row e t xs)) (hv:RowV q xs.length v) (hS: ∀b p,q=some p→foot (.row e t xs) p b→S' b)
  (hm: ∀t (x:den t) cs,Rp w (fun g=>S g∨ ∃p,q=some p∧g∈bits p.2) t x cs→Rp w S' t x cs):Rp w S' (.slice t) xs [v]:=by
 rcases ho with ⟨d,f⟩ | ⟨b,k,c,j,d,m,u,o,s,r,n,_,_⟩
 ·rw [d] at hv;obtain ⟨rfl,_⟩:=hv;subst f;exact ⟨none,0,rfl,by simp,fun f=>absurd rfl f⟩
 ·rw [d] at hv;simp only [RowV] at hv;subst hv;refine ⟨_,QaO k,rfl,o,fun _=>⟨b,0,rfl,hS b _ d Qm,j,Qad (fun _ _ h=>hm _ _ _ (Qaa (fun g _ a=>⟨?_,rfl⟩) h)) r,c,raw e,_,m,fun i l=>by rw [Nat.zero_add]; exact n i l⟩⟩
  rcases a with a | a
  ·exact .inl a
  ·exact .inr ⟨_,d,a⟩
def Owns (w:World) (S:Nat→Prop) (β:Qr) (H:Heap):Prop:= ∀o ob,look H o=some ob→OR w S β H (β o) ob
theorem QbF {own:Bool} (hO:Owns w S β H) (hm: ∀t (x:den t) cs,Rp w S t x cs→Rp w S' t x cs) (hS:own=true→ ∀b,S' b) {t:Ty} {c:S1} {v:Value} {x:den t} (hv:VS w S β H c v)
  (h:Qae own H t c=some x):isAg t=false∧Rp w S' t x [v]:=by
 cases c with
 | any=>simp [Qae] at h
 | d s z=>
  simp only [Qae] at h;obtain ⟨rfl,k⟩:=Qhm h (hm _ _ _ hv.2);exact ⟨hv.1,k⟩
 | nls=>
  simp only [VS] at hv;subst hv;cases t <;> simp only [Qae] at h <;> first | (cases h; done) | skip
  obtain rfl:=Osj h;exact ⟨rfl,none,0,rfl,by simp,fun r=>absurd rfl r⟩
 | sl o=>
  simp only [Qae] at h;simp only [VS] at hv;split at h
  ·rename_i e s l i;rw [i] at hv;split at h
   ·rename_i f;obtain ⟨j,a⟩:=QV h;subst j;simp only at a;subst a;exact ⟨rfl,Qom (hO o _ i) hv (fun b _ _ _=>hS f b) (fun _ _ _ h=>Qaa (fun g _ _=>⟨hS f g,rfl⟩) h)⟩
   ·cases h
  ·rename_i s l i;rw [i] at hv;obtain ⟨j,a⟩:=QV h;subst j;simp only at a;subst a;exact ⟨rfl,hm (.slice s) _ _ hv⟩
  ·cases h
 | vw o y n=>
  simp only [Qae] at h;simp only [VS] at hv;split at h
  ·rename_i e s l i;rw [i] at hv;obtain ⟨⟨u,k⟩,⟨v0,m⟩,q⟩:=hv;split at h
   ·rename_i f;obtain ⟨j,a⟩:=QV h;subst j;simp only at a;subst a;exact ⟨rfl,QwP (Qom (hO o _ i) m (fun b _ _ _=>hS f b) (fun _ _ _ h=>Qaa (fun g _ _=>⟨hS f g,rfl⟩) h)) m q k⟩
   ·cases h
  ·rename_i s l i;rw [i] at hv;obtain ⟨j,a⟩:=QV h;subst j;simp only at a;subst a;exact ⟨rfl,hm (.slice s) _ _ hv⟩
  ·cases h
 | p=>simp [Qae] at h
 | pe=>simp [Qae] at h
 | dp=>simp [Qae] at h
 | pd=>simp [Qae] at h
 | fn=>simp [Qae] at h
 | mp=>simp [Qae] at h
theorem Qmp {own:Bool} (hO:Owns w S β H) (hm: ∀t (x:den t) cs,Rp w S t x cs→Rp w S' t x cs) (hS:own=true→ ∀b,S' b):
  ∀{t:Ty} {cs:List S1} {vs:List Value} {x:den t} {r:List S1},All2 (VS w S β H) cs vs→gat own H t cs=some (x,r)→
  ∃v1 v2,vs=v1++v2∧Rp w S' t x v1∧All2 (VS w S β H) r v2:=by
 intro t
 induction t with
 | unit=>
  intro cs vs x r h a;simp only [gat,Oie,Pmi] at a;obtain ⟨_,rfl⟩:=a;exact ⟨[],vs,rfl,rfl,h⟩
 | pair p q l m=>
  intro cs vs x r h a;simp only [gat] at a;split at a
  ·rename_i x1 z o;split at a
   ·rename_i y1 r2 s;simp only [Oie,Pmi] at a;obtain ⟨rfl,rfl⟩:=a;obtain ⟨v1,v2,rfl,i,g⟩:=l h o;obtain ⟨n,u,rfl,j,f⟩:=m g s;exact ⟨v1++n,u,by simp,⟨v1,n,rfl,i,j⟩,f⟩
   ·cases a
  ·cases a
 | int k=>
  intro cs vs x r h a;cases h with
  | nil=>simp [gat] at a
  | cons d c=>
   simp only [gat] at a;split at a
   ·rename_i y e;simp only [Oie,Pmi] at a;obtain ⟨rfl,rfl⟩:=a;exact ⟨[_],_,rfl,(QbF hO hm hS d e).2,c⟩
   ·cases a
 | opq=>
  intro cs vs x r h a;cases h with
  | nil=>simp [gat] at a
  | cons d c=>
   simp only [gat] at a;split at a
   ·rename_i y e;simp only [Oie,Pmi] at a;obtain ⟨_,rfl⟩:=a;exact ⟨[_],_,rfl,(QbF hO hm hS d e).2,c⟩
   ·cases a
 | bool=>
  intro cs vs x r h a;cases h with
  | nil=>simp [gat] at a
  | cons d c=>
   simp only [gat] at a;split at a
   ·rename_i y e;simp only [Oie,Pmi] at a;obtain ⟨rfl,rfl⟩:=a;exact ⟨[_],_,rfl,(QbF hO hm hS d e).2,c⟩
   ·cases a
 | str=>
  intro cs vs x r h a;cases h with
  | nil=>simp [gat] at a
  | cons d c=>
   simp only [gat] at a;split at a
   ·rename_i y e;simp only [Oie,Pmi] at a;obtain ⟨rfl,rfl⟩:=a;exact ⟨[_],_,rfl,(QbF hO hm hS d e).2,c⟩
   ·cases a
 | slice t v=>
  intro cs vs x r h a;cases h with
  | nil=>simp [gat] at a
  | cons d c=>
   simp only [gat] at a;split at a
   ·rename_i y e;simp only [Oie,Pmi] at a;obtain ⟨rfl,rfl⟩:=a;exact ⟨[_],_,rfl,(QbF hO hm hS d e).2,c⟩
   ·cases a
theorem Qbv {own:Bool} (hO:Owns w S β H) (hm: ∀t (x:den t) cs,Rp w S t x cs→Rp w S' t x cs) (hS:own=true→ ∀b,S' b) {t:Ty} {x:SV} {v:Value} {y:den t}
  (hv:VV w S β H x v) (h:toD own H t x=some y): ∃cs,Val t v cs∧Rp w S' t y cs:=by
 cases x with
 | s c=>
  simp only [toD] at h;by_cases i: ∃s z,c= .d s z
  ·obtain ⟨s,z,rfl⟩:=i;obtain ⟨cs,a,d⟩:=hv;simp only [Qae] at h;obtain ⟨rfl,j⟩:=Qhm h (hm _ _ _ d);exact ⟨cs,a,j⟩
  ·have n: ∀s z,c≠ .d s z:=fun s z e=>i ⟨s,z,e⟩
   obtain ⟨a,d⟩:=QbF hO hm hS ((VV_s n).1 hv) h;exact ⟨[v],by simp [Val,a],d⟩
 | g cs=>
  simp only [toD] at h;split at h
  ·rename_i m;split at h
   ·rename_i z o;obtain rfl:=Osj h;obtain ⟨r,e,f⟩:=hv;obtain ⟨p,q,rfl,l,k⟩:=Qmp hO hm hS f o;cases k;exact ⟨p,by simp [Val,m,e],l⟩
   ·cases h
  ·cases h
theorem Qaz: ∀{l:List Nat} {H:Heap} {o:Nat},(∀e t xs,look H o≠some (.row e t xs))→look (frz H l) o=look H o
 | [],_,_,_=>rfl
 | k::r,H,o,h=>by
  have ih:=Qaz (l:=r) h;unfold frz;split
  ·rename_i e t xs b;rw [Qe];by_cases a:k=o
   ·subst a; rw [ih] at b; exact absurd b (h _ _ _)
   ·rw [if_neg a]; exact ih
  ·exact ih
theorem QaE: ∀{l:List Nat} {H:Heap} {o:Nat} {e:TypeId} {t:Ty} {xs:List (den t)},look H o=some (.row e t xs)→look (frz H l) o=some (if o∈l then .fro t xs else .row e t xs)
 | [],_,_,_,_,_,h=>by simpa [frz] using h
 | k::r,H,o,e,t,xs,h=>by
  have ih:=QaE (l:=r) h;unfold frz;split
  ·rename_i g i f b;rw [Qe];by_cases c:k=o
   ·subst c;rw [if_pos rfl];rw [ih] at b;split at b
    ·cases b
    ·simp only [Oie,Ob.row.injEq] at b;obtain ⟨rfl,rfl,b⟩:=b;have:=eq_of_heq b;subst this;simp
   ·rw [if_neg c,ih]
    have:(o∈k::r)↔o∈r:=by
     constructor
     ·intro a; rcases List.mem_cons.1 a with rfl | a
      ·exact absurd rfl c
      ·exact a
     ·exact List.mem_cons_of_mem _
    simp [this]
  ·rename_i d;rw [ih];by_cases c:k=o
   ·subst c;by_cases a:k∈r
    ·simp [a]
    ·rw [ih] at d;rw [if_neg a] at d;exact absurd rfl (d _ _ _)
   ·have:(o∈k::r)↔o∈r:=by
     constructor
     ·intro a; rcases List.mem_cons.1 a with rfl | a
      ·exact absurd rfl c
      ·exact a
     ·exact List.mem_cons_of_mem _
    simp [this]
theorem Qit {H:Heap} {l:List Nat} {t:Ty} {c:S1} {x:den t} (h:Qae true H t c=some x) (hl: ∀o e s xs,o∈QL [c]→look H o=some (.row e s xs)→o∈l):Qae false (frz H l) t c=some x:=by
 cases c with
 | vw o g n=>
  simp only [Qae] at h⊢;split at h
  ·rename_i e s xs a;have:=QaE (l:=l) a;rw [if_pos (hl o e s xs (by simp [QL]) a)] at this
   rw [this];simpa using h
  ·rename_i s xs a;rw [Qaz (by intro e t f b; rw [a] at b; cases b),a]
   exact h
  ·cases h
 | any=>exact h
 | d s z=>exact h
 | nls=>exact h
 | p=>exact h
 | pe=>exact h
 | dp=>exact h
 | pd=>exact h
 | fn=>exact h
 | mp=>exact h
 | sl o=>
  simp only [Qae] at h⊢;split at h
  ·rename_i e s xs a;have:=QaE (l:=l) a;rw [if_pos (hl o e s xs (by simp [QL]) a)] at this
   rw [this];simpa using h
  ·rename_i s xs a;rw [Qaz (by intro e t f b; rw [a] at b; cases b),a]
   exact h
  ·cases h
theorem QoO: ∀{t:Ty} {cs:List S1} {x:den t} {r:List S1} {own:Bool},gat own H t cs=some (x,r)→ ∃pre,cs=pre++r:=by
 intro t
 induction t with
 | unit=>intro cs x r own h; simp only [gat,Oie,Pmi] at h; exact ⟨[],by rw [h.2]; rfl⟩
 | pair p q a b=>
  intro cs x r own h;simp only [gat] at h;split at h
  ·rename_i k i d;split at h
   ·rename_i l j e;simp only [Oie,Pmi] at h;obtain ⟨f,rfl⟩:=a d;obtain ⟨g,rfl⟩:=b e;exact ⟨f++g,by rw [←h.2]; simp⟩
   ·cases h
  ·cases h
 | _=>
  intro cs x r own h;cases cs with
  | nil=>simp [gat] at h
  | cons c cs=>
   simp only [gat] at h;split at h
   ·simp only [Oie,Pmi] at h;exact ⟨[c],by rw [←h.2]; rfl⟩
   ·cases h
theorem QrV {l:List Nat}: ∀{t:Ty} {cs:List S1} {x:den t} {r:List S1},gat true H t cs=some (x,r)→(∀o∈QL cs, ∀e s xs,look H o=some (.row e s xs)→o∈l)→gat false (frz H l) t cs=some (x,r):=by
 intro t
 induction t with
 | unit=>intro cs x r h _; exact h
 | pair p q g i=>
  intro cs x r h a;simp only [gat] at h⊢;split at h
  ·rename_i w u b;split at h
   ·rename_i z v j;obtain ⟨n,rfl⟩:=QoO b;rw [g b a];simp only;rw [i j (fun o f=>a o (by unfold QL at f⊢; rw [List.filterMap_append]; exact List.mem_append_right _ f))]
    exact h
   ·cases h
  ·cases h
 | _=>
  intro cs x r h a;cases cs with
  | nil=>simp [gat] at h
  | cons c cs=>
   simp only [gat] at h⊢;split at h
   ·rename_i y m;rw [Qit m (fun o e s xs d k=>a o (by simp only [QL,List.filterMap_cons,List.filterMap_nil] at d⊢; split at d <;> simp_all) e s xs k)]
    exact h
   ·cases h
theorem Qlj {l:List Nat} {t:Ty} {x:SV} {y:den t} (h:toD true H t x=some y) (hl: ∀o∈Qu H x, ∀e s xs,look H o=some (.row e s xs)→o∈l):toD false (frz H l) t x=some y:=by
 cases x with
 | s c=>
  simp only [toD] at h⊢;refine Qit h fun o e s xs i b=>?_
  refine hl o ?_ e s xs b;cases c <;> simp_all [QL,Qu]
 | g f=>
  simp only [toD] at h⊢;split at h
  ·rename_i a;rw [if_pos a];split at h
   ·rename_i z d;have:=QrV (l:=l) d hl;rw [this];exact h
   ·cases h
  ·cases h
theorem QwK {t:Ty} {x:SV} {y:den t} (h:toD true H t x=some y):toD false (frz H (Qu H x)) t x=some y:=Qlj h fun o a _ _ _ _=>a
theorem QpV {t:Ty} (ht: ∀a b,t≠ .pair a b) {x:den t} {off:Nat} {u:Ty}:sub t x off u=if off=0 then cst t u x else none:=by
 cases t <;> first | rfl | exact absurd rfl (ht _ _)
theorem Qcr: ∀{t:Ty} {x:den t} {off:Nat} {u:Ty} {y:den u} {cs:List Value},sub t x off u=some y→Rp w S t x cs→
  ∃p m q,cs=p++m++q∧p.length=off∧Rp w S u y m:=by
 intro t
 induction t with
 | pair c d j k=>
  intro x off u y cs h b;simp only [sub] at h;split at h
  ·rename_i e;obtain ⟨o,a⟩:=Qhm h b;exact ⟨[],cs,[],by simp,by simp [e.1],a⟩
  ·obtain ⟨l,n,rfl,i,a⟩:=b;split at h
   ·obtain ⟨p,m,q,rfl,g,f⟩:=j h i;exact ⟨p,m,q++n,by simp,g,f⟩
   ·rename_i r;obtain ⟨p,m,q,rfl,g,f⟩:=k h a;refine ⟨l++p,m,q,by simp,?_,f⟩
    rw [List.length_append,Qt i,g];omega
 | _=>
  intro x off u y cs h b;rw [QpV (by intros; simp)] at h
  split at h
  ·rename_i e;obtain ⟨o,a⟩:=Qhm h b;exact ⟨[],cs,[],by simp,by simp [e],a⟩
  ·cases h
theorem Qlp {t:Ty} (ht: ∀a b,t≠ .pair a b) {x:den t} {off:Nat} {u:Ty} {y:den u}:upd t x off u y=if off=0 then cst u t y else none:=by
 cases t <;> first | rfl | exact absurd rfl (ht _ _)
theorem Qud: ∀{t:Ty} {x:den t} {off:Nat} {u:Ty} {y:den u} {z:den t} {cs m:List Value},upd t x off u y=some z→Rp w S t x cs→Rp w S u y m→
  off+m.length≤cs.length∧Rp w S t z (cs.take off++m++cs.drop (off+m.length)):=by
 intro t
 induction t with
 | pair c d r s=>
  intro x off u y z cs m h j a;simp only [upd] at h;split at h
  ·rename_i e;obtain ⟨g,b⟩:=Qhm h a;have o:m.length=cs.length:=by rw [Qt a,Qt j,g]
   obtain ⟨v,_⟩:=e;subst v;refine ⟨by omega,?_⟩
   rw [List.take_zero,List.nil_append,Nat.zero_add,List.drop_of_length_le (by omega),List.append_nil]
   exact b
  ·obtain ⟨f,k,rfl,n,b⟩:=j;have l1:=Qt n;split at h
   ·rename_i q;split at h
    ·rename_i z1 p;obtain rfl:=Osj h;obtain ⟨o,i⟩:=r p n a;refine ⟨by rw [List.length_append]; omega,f.take off++m++f.drop (off+m.length),k,?_,i,b⟩
     rw [List.take_append,List.drop_append];have g:off-f.length=0:=by omega
     have l:off+m.length-f.length=0:=by omega
     rw [g,l,List.take_zero,List.drop_zero];simp
    ·cases h
   ·rename_i q;split at h
    ·rename_i z1 p;obtain rfl:=Osj h;obtain ⟨o,i⟩:=s p b a;refine ⟨by rw [List.length_append]; omega,f,k.take (off-sz c)++m++k.drop (off-sz c+m.length),?_,n,i⟩
     rw [List.take_append,List.drop_append,List.take_of_length_le (by omega),List.drop_of_length_le (by omega),l1]
     have l:off+m.length-sz c=off-sz c+m.length:=by omega
     rw [l];simp
    ·cases h
 | _=>
  intro x off u y z cs m h j a;rw [Qlp (by intros; simp)] at h
  split at h
  ·rename_i e;obtain ⟨g,b⟩:=Qhm h a;have o:m.length=cs.length:=by rw [Qt a,Qt j,g]
   subst e;refine ⟨by omega,?_⟩
   rw [List.take_zero,List.nil_append,Nat.zero_add,List.drop_of_length_le (by omega),List.append_nil]
   exact b
  ·cases h
theorem QbD {w:World} {e1:TypeId} {t:Ty} {x:den t} {cs:List Value} {F:List Nat} (h:Dp w e1 t x cs F):cs.length=sz t:=Qt (QlN (S:=fun _=>True) (fun _ _=>trivial) h)
theorem QjB {w:World} {e1:TypeId} {S:Nat→Prop}: ∀{t:Ty} {x:den t} {cs:List Value},QaR t=false→Rp w S t x cs→Dp w e1 t x cs []
 | .int _,_,_,_,h=>⟨h,rfl⟩
 | .bool,_,_,_,h=>⟨h,rfl⟩
 | .str,_,_,_,h=>⟨h,rfl⟩
 | .unit,_,_,_,h=>⟨h,rfl⟩
 | .opq,_,_,_,h=>⟨h,rfl⟩
 | .pair _ _,_,_,hs,⟨c1,c2,e,h1,h2⟩=>by
  simp only [QaR,Bool.or_eq_false_iff] at hs;exact ⟨c1,c2,[],[],e,rfl,QjB hs.1 h1,QjB hs.2 h2⟩
 | .slice _,_,_,hs,_=>by simp [QaR] at hs
theorem Qiv {w:World} {e1:TypeId} {t u:Ty} {x:den t} {y:den u} {cs:List Value} {F:List Nat} (h:cst t u x=some y) (hr:Dp w e1 t x cs F):t=u∧Dp w e1 u y cs F:=by
 obtain ⟨a,b⟩:=QV h;subst a;simp only at b;subst b;exact ⟨rfl,hr⟩
theorem QvQ {w:World} {e1:TypeId}: ∀{t:Ty} {x:den t} {off:Nat} {u:Ty} {y:den u} {z:den t} {cs m:List Value} {F Fm:List Nat},upd t x off u y=some z→Dp w e1 t x cs F→Dp w e1 u y m Fm→
  off+m.length≤cs.length∧ ∃A B C,F=A++B++C∧Dp w e1 t z (cs.take off++m++cs.drop (off+m.length)) (A++Fm++C):=by
 intro t
 induction t with
 | pair c d v aa=>
  intro x off u y z cs m F Fm h i a;simp only [upd] at h;split at h
  ·rename_i e;obtain ⟨e1,b⟩:=Qiv h a;have o:m.length=cs.length:=by rw [QbD a,QbD i,e1]
   obtain ⟨k,_⟩:=e;subst k;refine ⟨by omega,[],F,[],by simp,?_⟩
   rw [List.take_zero,List.nil_append,Nat.zero_add,List.drop_of_length_le (by omega),List.append_nil]
   simpa using b
  ·obtain ⟨f,j,q,r,rfl,rfl,n,b⟩:=i;have l1:=QbD n;split at h
   ·rename_i s;split at h
    ·rename_i z1 p;obtain rfl:=Osj h;obtain ⟨o,A,B,C,rfl,g⟩:=v p n a;refine ⟨by rw [List.length_append]; omega,A,B,C++r,by simp,f.take off++m++f.drop (off+m.length),j,A++Fm++C,r,?_,by simp,g,b⟩
     rw [List.take_append,List.drop_append];have e1:off-f.length=0:=by omega
     have l:off+m.length-f.length=0:=by omega
     rw [e1,l,List.take_zero,List.drop_zero];simp
    ·cases h
   ·rename_i s;split at h
    ·rename_i z1 p;obtain rfl:=Osj h;obtain ⟨o,A,B,C,rfl,g⟩:=aa p b a;refine ⟨by rw [List.length_append]; omega,q++A,B,C,by simp,f,j.take (off-sz c)++m++j.drop (off-sz c+m.length),q,A++Fm++C,?_,by simp,n,g⟩
     rw [List.take_append,List.drop_append,List.take_of_length_le (by omega),List.drop_of_length_le (by omega),l1]
     have l:off+m.length-sz c=off-sz c+m.length:=by omega
     rw [l];simp
    ·cases h
 | _=>
  intro x off u y z cs m F Fm h i a;rw [Qlp (by intros; simp)] at h
  split at h
  ·rename_i k;subst k;obtain ⟨e1,b⟩:=Qiv h a;have o:m.length=cs.length:=by rw [QbD a,QbD i,e1]
   refine ⟨by omega,[],F,[],by simp,?_⟩
   rw [List.take_zero,List.nil_append,Nat.zero_add,List.drop_of_length_le (by omega),List.append_nil]
   simpa using b
  ·cases h
theorem Qiq {w:World} {e1:TypeId} {t:Ty}: ∀{xs:List (den t)} {rows:List Value} {F:List Nat} {i:Nat} {x:den t},DpL w e1 t xs rows F→xs[i]?=some x→
  ∃A Fi C row,F=A++Fi++C∧Dp w e1 t x row Fi∧(∀j,j< sz t→rows[i*sz t+j]?=row[j]?)∧i*sz t+sz t≤rows.length∧
   ∀(w':World) x' row' Fi',(∀g∈A++C,w'.heap[g]?=w.heap[g]?)→Dp w' e1 t x' row' Fi'→DpL w' e1 t (xs.set i x') (rows.take (i*sz t)++row'++rows.drop (i*sz t+sz t)) (A++Fi'++C)
 | [],_,_,i,_,_,hi=>by simp at hi
 | y::ys,_,_,0,x,⟨r,rs,F1,F2,rfl,rfl,h1,h2⟩,hi=>by
  simp at hi;subst hi;have hl:=QbD h1;refine ⟨[],F1,F2,r,by simp,h1,fun j d=>?_,by rw [List.length_append]; omega,fun w' x' row' Fi' b c=>?_⟩
  ·rw [Nat.zero_mul,Nat.zero_add,List.getElem?_append_left (by omega)]
  ·refine ⟨row',rs,Fi',F2,?_,by simp,c,Qew (fun g a=>b g (by simpa using a)) h2⟩
   rw [Nat.zero_mul,List.take_zero,List.nil_append,Nat.zero_add, ←hl,List.drop_append,List.drop_of_length_le (Nat.le_refl _),List.nil_append,Nat.sub_self,List.drop_zero]
 | y::ys,_,_,i+1,x,⟨r,rs,F1,F2,rfl,rfl,h1,h2⟩,hi=>by
  obtain ⟨A,Fi,C,row,rfl,h,k,m,l⟩:=Qiq h2 (i:=i) (by simpa using hi)
  have hl:=QbD h1;have e1:(i+1)*sz t=sz t+i*sz t:=by rw [Nat.add_mul]; omega
  refine ⟨F1++A,Fi,C,row,by simp,h,fun j d=>?_,by rw [List.length_append]; omega,fun w' x' row' Fi' b c=>?_⟩
  ·rw [List.getElem?_append_right (by omega), ←k j d]
   congr 1; omega
  ·refine ⟨r,_,F1,_,?_,?_,Qdv (fun g a=>b g (by simp [a])) h1,l w' x' row' Fi' (fun g a=>b g (by
    rcases List.mem_append.1 a with a | a
    ·simp [a]
    ·simp [a])) c⟩
   ·rw [List.take_append,List.drop_append,List.take_of_length_le (by omega),List.drop_of_length_le (by omega),e1,hl]
    have e:sz t+i*sz t-sz t=i*sz t:=by omega
    have f:sz t+i*sz t+sz t-sz t=i*sz t+sz t:=by omega
    rw [e,f];simp
   ·simp
theorem QeX {w:World} {S:Nat→Prop}: ∀{t:Ty} {x:den t} {cs:List Value},QaR t=false→Rp w S t x cs→ ∀A n k,Value.slice A n k∉cs
 | .int _,_,_,_,h,A,n,k=>by simp only [Rp] at h; subst h; simp
 | .bool,_,_,_,h,A,n,k=>by simp only [Rp] at h; subst h; simp
 | .str,_,_,_,h,A,n,k=>by simp only [Rp] at h; subst h; simp
 | .unit,_,_,_,h,A,n,k=>by simp only [Rp] at h; subst h; simp
 | .opq,_,_,_,⟨_,h⟩,A,n,k=>by subst h; simp
 | .pair _ _,_,_,hs,⟨c1,c2,e,h1,h2⟩,A,n,k=>by
  simp only [QaR,Bool.or_eq_false_iff] at hs;subst e;rw [List.mem_append];exact fun h=>h.elim (QeX hs.1 h1 A n k) (QeX hs.2 h2 A n k)
 | .slice _,_,_,hs,_,_,_,_=>by simp [QaR] at hs
end
section
open Go Go.RowKit
def zD:Ty→List Value→Bool
 | .int k,[.int k' n]=>decide (k=k') && decide (n=0)
 | .bool,[.bool b]=>!b
 | .str,[.string s]=>decide (s.size=0)
 | .unit,[]=>true
 | .opq,[.pointer none]=>true
 | .pair a b,vs=>zD a (vs.take (sz a)) && zD b (vs.drop (sz a))
 | .slice _,[.slice none 0 0]=>true
 | _,_=>false
def QaW (r:Row) (d:TypeDesc):Bool:=match r.ty with
 | .int k=>match d with | .int k'=>decide (k=k') | _=>false
 | .bool=>match d with | .bool=>true | _=>false
 | .str=>match d with | .string=>true | _=>false
 | .opq=>match d with | .pointer _=>true | _=>false
 | .slice _=>match d with | .slice e=>decide (e=r.elem) | _=>false
 | _=>match d with | .struct fs=>decide (fs.toList.map (fun f=>(f.offset,f.type))=r.fields) | _=>false
def Qka (T:Tab) (r:Row):Bool:=match r.ty with
 | .slice u=>match look T r.elem with | some q=>decide (q.ty=u) && decide (0< sz q.ty) | none=>false
 | _=>r.fields.all fun f=>(look T f.2).isSome
def Qmg (T:Tab):Nat→Ty→List (Nat×TypeId)→Bool
 | _,.unit,[]=>true
 | k,.pair a b,(off,u)::r=>decide (off=k) && (match look T u with | some q=>decide (q.ty=a) | none=>false) && (match a with | .int _=>true | .bool=>true | .str=>true | _=>false) && Qmg T (k+1) b r
 | _,_,_=>false
def eqOk (P:Program) (T:Tab) (t:TypeId) (r:Row) (d:TypeDesc):Bool:=
 match isAg r.ty && r.elem==1 with
 | false=>true
 | true => !P.stoodInHeld t && !P.eqGuardType P.depth t && Qmg T 0 r.ty r.fields && (match d with | .struct fs => fs.toList.all fun f => !(f.name == "_") | _ => false)
def Qvd (P:Program) (T:Tab) (t:TypeId) (r:Row):Bool:=match r.ty with
 | .bool=>r.fields.all fun f=>(match P.underlying f.1 with | some (.map k e)=>decide (k=f.2) && decide (e=t) | _=>false) && (match look T f.2 with | some q=>decide (q.ty= .int .i64) | none=>false) && (match P.info? t with | some i=>(match i.zero with | some (.bool b)=>!b | _=>false) | none=>false)
 | _=>true
def QwX (P:Program) (T:Tab) (t:TypeId) (r:Row):Bool:=
 match P.info? t,P.underlying t with
 | some i,some d=>decide (i.size=sz r.ty) && decide (i.bytes=r.bytes) && QaW r d && Qka T r && (match i.zero with | some z=>zD r.ty z.cells.toList | none=>false) && eqOk P T t r d && Qvd P T t r
 | _,_=>false
def QR (P:Program) (T:Tab):Bool:=P.follows .mixedOrders && T.all fun p=>QwX P T p.1 p.2
theorem QpW {P:Program} {T:Tab} (h:QR P T=true):P.follows .mixedOrders=true:=(Bool.and_eq_true_iff.1 h).1
structure RowOk (P:Program) (T:Tab) (t:TypeId) (r:Row) (i:TypeInfo) (d:TypeDesc) (z:Value):Prop where
 info:P.info? t=some i
 under:P.underlying t=some d
 size:i.size=sz r.ty
 bytes:i.bytes=r.bytes
 desc:QaW r d=true
 elem:Qka T r=true
 zero:i.zero=some z
 zcells:zD r.ty z.cells.toList=true
 eqs:eqOk P T t r d=true
 maps:Qvd P T t r=true
theorem QaY {α:Type}: ∀{l:List (Nat×α)} {i:Nat} {x:α},look l i=some x→(i,x)∈l
 | (k,y)::r,i,x,h=>by
  rw [Qe] at h;by_cases e:k=i
  ·subst e; rw [if_pos rfl] at h; obtain rfl:=Osj h; simp
  ·rw [if_neg e] at h; exact List.mem_cons_of_mem _ (QaY h)
theorem Qst {P:Program} {T:Tab} (hT:QR P T=true) {t:TypeId} {r:Row} (h:(t,r)∈T): ∃i d z,RowOk P T t r i d z:=by
 have:=List.all_eq_true.1 (Bool.and_eq_true_iff.1 hT).2 _ h;simp only [QwX] at this;split at this
 ·rename_i i d l k;simp only [Bool.and_eq_true,decide_eq_true_eq] at this;obtain ⟨⟨⟨⟨⟨⟨b,c⟩,e⟩,f⟩,a⟩,g⟩,j⟩:=this;split at a
  ·rename_i z m;exact ⟨i,d,z,l,k,b,c,e,f,m,a,g,j⟩
  ·cases a
 ·cases this
theorem Qz {P:Program} {T:Tab} (hT:QR P T=true) {t:TypeId} {r:Row} (h:look T t=some r): ∃i d z,RowOk P T t r i d z:=Qst hT (QaY h)
theorem Qft {w:World} {S:Nat→Prop}: ∀{t:Ty} {vs:List Value},zD t vs=true→Rp w S t (Qbf t) vs:=by
 intro t
 induction t with
 | pair a b c e=>
  intro vs h;simp only [zD,Bool.and_eq_true] at h;exact ⟨_,_,(List.take_append_drop (sz a) vs).symm,c h.1,e h.2⟩
 | unit=>
  intro vs h;cases vs with
  | nil=>rfl
  | cons _ _=>simp [zD] at h
 | int k=>
  intro vs h;unfold zD at h;split at h <;> first | (cases h; done) | skip
  all_goals simp_all [Rp,Qbf]
 | opq=>
  intro vs h;unfold zD at h;split at h <;> first | (cases h; done) | skip
  all_goals first | (simp_all; done) | exact ⟨_,rfl⟩
 | bool=>
  intro vs h;unfold zD at h;split at h <;> first | (cases h; done) | skip
  all_goals simp_all [Rp,Qbf]
 | str=>
  intro vs h;unfold zD at h;split at h <;> first | (cases h; done) | skip
  all_goals simp_all [Rp,Qbf]
  rename_i s;cases s with | mk d=>congr
 | slice t g=>
  intro vs h;unfold zD at h;split at h <;> first | (cases h; done) | skip
  all_goals first | (simp_all; done) | exact ⟨none,0,rfl,by simp [Qbf],fun f=>absurd rfl f⟩
theorem QxU {w:World} {e1:TypeId}: ∀{t:Ty} {vs:List Value},zD t vs=true→Dp w e1 t (Qbf t) vs []:=by
 intro t
 induction t with
 | pair a b c d=>
  intro vs h;simp only [zD,Bool.and_eq_true] at h;exact ⟨_,_,[],[],(List.take_append_drop (sz a) vs).symm,rfl,c h.1,d h.2⟩
 | unit=>
  intro vs h;cases vs with
  | nil=>exact ⟨rfl,rfl⟩
  | cons _ _=>simp [zD] at h
 | int k=>intro vs h; exact ⟨Qft (w:=w) (S:=fun _=>True) h,rfl⟩
 | bool=>intro vs h; exact ⟨Qft (w:=w) (S:=fun _=>True) h,rfl⟩
 | opq=>intro vs h; exact ⟨Qft (w:=w) (S:=fun _=>True) h,rfl⟩
 | str=>intro vs h; exact ⟨Qft (w:=w) (S:=fun _=>True) h,rfl⟩
 | slice t e=>
  intro vs h;unfold zD at h;split at h <;> first | (cases h; done) | skip
  all_goals first | (simp_all; done) | exact .inl ⟨rfl,rfl,rfl⟩
theorem QgO {w:World} {e1:TypeId} {t:Ty} {x:den t} {r:List Value} (h:Dp w e1 t x r []): ∀m:Nat,DpL w e1 t (List.replicate m x) (List.replicate m r).flatten []
 | 0=>⟨rfl,rfl⟩
 | m+1=>⟨r,_,[],[],by rw [List.replicate_succ,List.flatten_cons],rfl,h,QgO h m⟩
theorem All2.zcell {w:World} {S:Nat→Prop} {β:Qr} {H:Heap}: ∀{t:Ty} {vs:List Value},zD t vs=true→All2 (fun x v=>VS w S β H x v∧v.oneCell'=true) (Qqi t) vs:=by
 intro t
 induction t with
 | pair a b d e=>
  intro vs h;simp only [zD,Bool.and_eq_true] at h;have:=(d h.1).append (e h.2)
  rwa [List.take_append_drop] at this
 | unit=>
  intro vs h;cases vs with
  | nil=>exact .nil
  | cons _ _=>simp [zD] at h
 | int k=>
  intro vs h;have c:=Qft (w:=w) (S:=S) h;have f:=Qaw c;simp only [Rp] at c;subst c;exact .cons ⟨⟨rfl,rfl⟩,rfl⟩ .nil
 | opq=>
  intro vs h;obtain ⟨A,rfl⟩:=Qft (w:=w) (S:=S) h;exact .cons ⟨trivial,rfl⟩ .nil
 | bool=>
  intro vs h;have c:=Qft (w:=w) (S:=S) h;simp only [Rp] at c;subst c;exact .cons ⟨⟨rfl,rfl⟩,rfl⟩ .nil
 | str=>
  intro vs h;have c:=Qft (w:=w) (S:=S) h;simp only [Rp] at c;subst c;exact .cons ⟨⟨rfl,rfl⟩,rfl⟩ .nil
 | slice t g=>
  intro vs h;unfold zD at h;split at h <;> first | (cases h; done) | skip
  all_goals first | (simp_all; done) | exact .cons ⟨rfl,rfl⟩ .nil
section run
variable {P:Program} {T:Tab} {t:TypeId} {r:Row} {i:TypeInfo} {d:TypeDesc} {z:Value}
theorem RowOk.run_size (h:RowOk P T t r i d z) (w:World):(sizeOf t).run P w= .ok (sz r.ty) w:=by
 simp [sizeOf,typeInfo,h.info,h.size]
theorem RowOk.run_isAgg (h:RowOk P T t r i d z) (w:World):(isAgg t).run P w= .ok (isAg r.ty) w:=by
 have a:=h.desc;simp only [isAgg,Sem.run_bind,run_underlying h.under w,Result.andThen_ok];unfold QaW at a;cases b:r.ty <;> rw [b] at a <;> cases d <;> first | (simp at a; done) | simp [isAg]
theorem RowOk.run_zero (h:RowOk P T t r i d z) (w:World):(zeroValue t).run P w= .ok z w:=by
 simp [zeroValue,typeInfo,h.info,h.zero]
theorem RowOk.fields (h:RowOk P T t r i d z) (ha:isAg r.ty=true): ∃fs,d= .struct fs∧fs.toList.map (fun f=>(f.offset,f.type))=r.fields:=by
 have a:=h.desc;unfold QaW at a;cases b:r.ty <;> rw [b] at a ha <;> first | (simp [isAg] at ha; done) | skip
 all_goals
  cases d <;> first | (simp at a; done) | skip
  exact ⟨_,rfl,by simpa using a⟩
theorem RowOk.fieldIn (h:RowOk P T t r i d z) (ha:isAg r.ty=true) {k off:Nat} {u:TypeId} (hf:r.fields[k]?=some (off,u)): ∃q,look T u=some q:=by
 have a:=h.elem;unfold Qka at a
 have:r.fields.all (fun f=>(look T f.2).isSome)=true:=by
  cases b:r.ty <;> rw [b] at a ha <;> first | (simp [isAg] at ha; done) | exact a
 have:=List.all_eq_true.1 this _ (List.mem_of_getElem? hf);exact Option.isSome_iff_exists.1 this
theorem RowOk.slice (h:RowOk P T t r i d z) {u:Ty} (hr:r.ty= .slice u):d= .slice r.elem∧ ∃q,look T r.elem=some q∧q.ty=u∧0< sz u:=by
 have b:=h.desc;have a:=h.elem;unfold QaW at b;unfold Qka at a;rw [hr] at b a;cases d <;> first | (simp at b; done) | skip
 refine ⟨by simpa using b,?_⟩
 simp only at a;split at a
 ·rename_i q f;simp only [Bool.and_eq_true,decide_eq_true_eq] at a;obtain ⟨e,c⟩:=a;subst e;exact ⟨q,f,rfl,c⟩
 ·cases a
end run
section ops
variable {P:Program} {T:Tab} {G:Env} {Z:Nat→Prop} {M:Nat→Nat→Prop} {N:Nat→Option (Option (Nat×Nat))} {w0 w w':World} {β:Qr} {σ:St} {a:Act} {o:Oper} {next:Act→World→Prop} {Q:Exit→Act→World→Prop} {v:Value}
theorem ite2 {p q:Prop} [Decidable p] [Decidable q] {γ:Type} {x:Option γ}:(if p then (if q then x else none) else none)=if p∧q then x else none:=by
 by_cases a:p <;> by_cases b:q <;> simp [a,b]
theorem QD (h:(execOp a.eval o).run P w= .ok (.value v) w') (hn:next (a.put o.dst v) w'):o.wp P a w next Q:=by
 unfold Oper.wp; rw [h]; exact hn
theorem QeP (h:(execOp a.eval o).run P w= .ok .skip w') (hn:next (a.put o.dst undef) w'):o.wp P a w next Q:=by
 unfold Oper.wp; rw [h]; exact hn
theorem RepB.owns (h:RepB Z M N w0 β σ a w):Owns w (RO Z β σ.H) β σ.H:=h.obj
def GoP (Z:Nat→Prop) (M:Nat→Nat→Prop) (N:Nat→Option (Option (Nat×Nat))) (w0:World) (σ:St) (o:Oper) (q:Out) (next:Act→World→Prop):Prop:= ∀a' w',Rep Z M N w0 (addO σ o.dst q) a' w'→next a' w'
theorem Qq {x:SV} {q:Out} (h:val1 x=some q):q={ x:= .v x,n:=[],fr:=[] }:=(Osj h).symm
variable {q:Out}
theorem Qsd (hrep:RepB Z M N w0 β σ a w) (hd:QK o.dst σ.nt=true) (hg:GoP Z M N w0 σ o q next) {x:Operand} (ho:o.op= .move x∨o.op= .assign x)
  (h:(match Qnf σ x with
   | some xs=>some ({ x:= .t xs,n:=[],fr:=[] }:Out)
   | none=>match ev σ x with | some z=>val1 z | none=>none)=some q):o.wp P a w next Q:=by
 have c:(execOp a.eval o).run P w= .ok (.value (a.eval x)) w:=by
  unfold execOp;rcases ho with ho | ho <;> rw [ho] <;> rfl
 split at h
 ·rename_i xs b;obtain rfl:=Osj h;unfold Qnf at b;split at b
  ·rename_i t;split at b
   ·rename_i e d;obtain rfl:=Osj b;exact QD c (hg _ _ ⟨β,hrep.valL hd (hrep.env t _ d).2⟩)
   ·cases b
  ·cases b
 ·split at h
  ·rename_i z b;obtain rfl:=Qq h;exact QD c (hg _ _ ⟨β,hrep.val hd (Qf hrep b)⟩)
  ·cases h
theorem Qww (hrep:RepB Z M N w0 β σ a w) (hd:QK o.dst σ.nt=true) (hg:GoP Z M N w0 σ o q next) {c x z:Operand} (ho:o.op= .pick c x z)
  (h:QI T o σ=some q):o.wp P a w next Q:=by
 unfold QI Qal at h;rw [ho] at h;simp only at h
 have f: ∀b,a.eval c= .bool b→(execOp a.eval o).run P w= .ok (.value (if b then a.eval x else a.eval z)) w:=by
  intro b d;unfold execOp;rw [ho];simp [d,asBool]
 split at h
 ·rename_i b k l g i j;have d:=f b (Qee (Qf hrep g));by_cases e:b=true
  ·subst e;rw [if_pos rfl] at h;obtain rfl:=Qq h;exact QD d (hg _ _ ⟨β,hrep.val hd (Qf hrep i)⟩)
  ·rw [if_neg e] at h;simp only [Bool.not_eq_true] at e;subst e;obtain rfl:=Qq h;exact QD d (hg _ _ ⟨β,hrep.val hd (Qf hrep j)⟩)
 ·cases h
theorem QhR (w:World) (x:Obj):(w.alloc x).heap[w.heap.size]?=some x:=heap_alloc_new w x
theorem RepB.newBox (h:RepB Z M N w0 β σ a w) {j:Nat} (hj:QU σ.H j=true) (hjn:j< σ.nt) {cs:List S1} {c:List Value} {e:TypeId}
  (hc:All2 (fun x v=>VS w (RO Z β σ.H) β σ.H x v∧v.oneCell'=true) cs c):
  RepB Z M N w0 (β.put j (some (w.heap.size,0))) ((σ.put j (.box cs)).set j (.s (.p j 0))) (a.put (some j) (.pointer (some ⟨w.heap.size,0,none⟩))) (w.alloc (.cells c.toArray e)):=by
 have f:RepB Z M N w0 (β.put j (some (w.heap.size,0))) (σ.put j (.box cs)) a (w.alloc (.cells c.toArray e)):=by
  refine h.new hj (h.below.alloc _) (fun b g=>heap_alloc_old w _ b g) (by simp) ?_ ?_ (by rintro _ _ _ _ h; cases h; rfl)
  ·intro b n l _ i;obtain rfl:=Osj l;rw [Qdf i];simp
  ·intro p q o m _;have k:=hc.len;refine ⟨w.heap.size,0,c.toArray,e,rfl,QhR w _,by simp; omega,?_⟩
   rw [List.drop_zero,k,List.take_of_length_le (by simp)]
   exact hc.mono fun x v d=>⟨m x v d.1,d.2⟩
 refine f.set hjn ?_;refine (VV_s (by intros; simp)).2 ?_
 simp only [VS,St.put,Qe,if_true];exact ⟨w.heap.size,0,Qx,by rw [Nat.zero_add]⟩
theorem Qvm (hT:QR P T=true) (hrep:RepB Z M N w0 β σ a w) (hd:QK o.dst σ.nt=true) (hg:GoP Z M N w0 σ o q next) {t:TypeId} (ho:o.op= .alloc t)
  (h:QI T o σ=some q):o.wp P a w next Q:=by
 unfold QI Qal at h;rw [ho] at h;simp only at h;split at h
 ·rename_i r j k f;split at h
  ·rename_i g;obtain rfl:=(Osj h).symm;obtain ⟨i,d,z,b⟩:=Qz hT k;unfold GoP at hg;rw [f] at hd hg;refine QD (v:= .pointer (some ⟨w.heap.size,0,none⟩)) (w':=w.alloc (.cells z.cells t)) ?_ ?_
   ·unfold execOp;rw [ho];simp [Instr.alloc,b.run_zero,newVar,newRow]
   ·rw [f];refine hg _ _ ⟨β.put j (some (w.heap.size,0)),?_⟩;have:=hrep.newBox g (by simpa [QK] using hd) (c:=z.cells.toList) (e:=t) (All2.zcell b.zcells)
    rw [Array.toArray_toList] at this;exact this
  ·cases h
 ·cases h
theorem Qxx (hT:QR P T=true) (hrep:RepB Z M N w0 β σ a w) (hd:QK o.dst σ.nt=true) (hg:GoP Z M N w0 σ o q next) {t:TypeId} {x:Operand} (ho:o.op= .box t x)
  (h:QI T o σ=some q):o.wp P a w next Q:=by
 unfold QI Qal at h;rw [ho] at h;simp only at h;split at h
 ·rename_i r u j k g e;split at h
  ·rename_i c;obtain rfl:=(Osj h).symm;obtain ⟨_,c,f⟩:=c;unfold GoP at hg;rw [e] at hd hg;obtain ⟨i,d,b⟩:=Qdc (Qf hrep g) f;refine QD (v:= .pointer (some ⟨w.heap.size,0,none⟩)) (w':=w.alloc (.cells (a.eval x).cells t)) ?_ ?_
   ·unfold execOp;rw [ho];simp [Instr.box,newVar,newRow]
   ·rw [e];refine hg _ _ ⟨β.put j (some (w.heap.size,0)),?_⟩;rw [d];exact hrep.newBox c (by simpa [QK] using hd) b
  ·cases h
 ·cases h
theorem QnD {b off:Nat} {c:Array Value} {e:TypeId} {fz:Nat×Nat} (hh:w.heap[b]?=some (.cells c e fz)):w.cell? ⟨b,off,none⟩=c[off]? :=cell_of_row w b off c e fz hh
theorem QdG (b o n:Nat):Addr.add ⟨b,o,none⟩ n=⟨b,o+n,none⟩:=Addr.add_lit b o n
theorem Qcq {t:TypeId} {r:Row} {i:TypeInfo} {d:TypeDesc} {z:Value} (hrow:RowOk P T t r i d z) {b off:Nat} {c:Array Value} {e:TypeId} {fz:Nat×Nat} (hh:w.heap[b]?=some (.cells c e fz)) {vs:List Value} (hl:vs.length=sz r.ty)
  (hv: ∀k,k< vs.length→c[off+k]?=vs[k]?):(loadVar t ⟨b,off,none⟩).run P w= .ok (if isAg r.ty then .agg vs.toArray else vs.headD undef) w:=by
 have a: ∀j v,vs[j]?=some v→w.cell? ((⟨b,off,none⟩:Addr).add j)=some v:=by
  intro j v g;have h:j< vs.length:=(List.getElem?_eq_some_iff.1 g).1;rw [QdG,QnD hh,hv j h,g]
 by_cases f:isAg r.ty=true
 ·have:=run_loadCells_list (P:=P) w ⟨b,off,none⟩ vs a;rw [hl] at this;simp [loadVar,hrow.run_isAgg,f,hrow.run_size,this]
 ·simp only [Bool.not_eq_true] at f;have l:sz r.ty=1:=by cases m:r.ty <;> rw [m] at f <;> first | rfl | (simp [isAg] at f)
  cases vs with
  | nil=>simp [l] at hl
  | cons u n=>
   have:=a 0 u rfl;simp only [QdG,Nat.add_zero] at this;simp [loadVar,hrow.run_isAgg,f,this]
end ops
theorem Qap: ∀{l:List Nat},QcO l=true→l.Nodup
 | [],_=>by simp
 | x::r,h=>by
  simp only [QcO,Bool.and_eq_true,Bool.not_eq_true',List.contains_eq_mem,decide_eq_false_iff_not] at h;exact List.nodup_cons.2 ⟨h.1,Qap h.2⟩
theorem Qev (g:Nat): ∀L:List Nat,(L.foldr (fun b m=>m ||| 2 ^ b) 0).testBit g=decide (g∈L)
 | []=>by simp
 | b::r=>by
  rw [List.foldr_cons,Nat.testBit_or,Qev g r,Nat.testBit_two_pow];by_cases h:b=g
  ·simp [h]
  ·simp [h,Ne.symm h]
theorem QfG {cap0:Nat} (h:cap0≤maxLen) (L:List Nat): ∃c,QaO c=cap0∧ ∀g,g∈bits c↔g∈L:=by
 have a:cap0< 2 ^ 64:=by unfold maxLen at h; omega
 refine ⟨cap0+2 ^ 64*(L.foldr (fun b m=>m ||| 2 ^ b) 0),?_,fun g=>?_⟩
 ·unfold QaO;rw [Nat.add_mul_mod_self_left,Nat.mod_eq_of_lt a]
 ·have e:(cap0+2 ^ 64*(L.foldr (fun b m=>m ||| 2 ^ b) 0)) / 2 ^ 64=L.foldr (fun b m=>m ||| 2 ^ b) 0:=by
   rw [Nat.add_mul_div_left _ _ (by decide),Nat.div_eq_of_lt a,Nat.zero_add]
  unfold bits;rw [e,List.mem_filter,List.mem_range,Qev];constructor
  ·rintro ⟨_,h⟩; simpa using h
  ·intro d;have f:(L.foldr (fun b m=>m ||| 2 ^ b) 0).testBit g=true:=by rw [Qev]; simpa using d
   exact ⟨Nat.lt_of_lt_of_le Nat.lt_two_pow_self (Nat.ge_two_pow_of_testBit f),by simpa using d⟩
section give
variable {w w' w0:World} {S:Nat→Prop} {β:Qr} {H:Heap} {e1:TypeId} {Z:Nat→Prop} {M:Nat→Nat→Prop} {N:Nat→Option (Option (Nat×Nat))} {σ:St} {a:Act}
def blk1 (β:Qr) (o:Nat):List Nat:=match β o with | some p=>[p.1] | none=>[]
theorem Qix {t:Ty} {s:Ty} {z:den s} {v:Value} {x:den t} (hs:QaR t=false) (h:VS w S β H (.d s z) v) (hc:cst s t z=some x):Dp w e1 t x [v] []:=by
 obtain ⟨rfl,a⟩:=Qhm hc h.2;exact QjB hs a
theorem QjY (hO:Owns w S β H): ∀{t:Ty} {cs:List S1} {vs:List Value} {x:den t} {ns:List Nat} {r:List S1},All2 (VS w S β H) cs vs→dgat H e1 t cs=some (x,ns,r)→
  ∃v1 v2,vs=v1++v2∧Dp w e1 t x v1 (ns.flatMap (blk1 β))∧All2 (VS w S β H) r v2:=by
 intro t
 induction t with
 | pair a b u y=>
  intro cs vs x ns r e h;simp only [dgat] at h;split at h
  ·rename_i x1 n1 r1 d;split at h
   ·rename_i x2 n2 r2 f;simp only [Oie,Pmi] at h;obtain ⟨rfl,rfl,rfl⟩:=h;obtain ⟨v1,v2,rfl,g1,g2⟩:=u e d;obtain ⟨v3,v4,rfl,g3,g4⟩:=y g2 f;exact ⟨v1++v3,v4,by simp,⟨v1,v3,_,_,rfl,by simp,g1,g3⟩,g4⟩
   ·cases h
  ·cases h
 | unit=>
  intro cs vs x ns r e h;simp only [dgat,Oie,Pmi] at h;obtain ⟨_,rfl,rfl⟩:=h;exact ⟨[],vs,rfl,⟨rfl,rfl⟩,e⟩
 | slice t ih=>
  intro cs vs x ns r e h;cases e with
  | nil=>simp [dgat] at h
  | @cons c v cs' vs' d f=>
   simp only [dgat] at h;split at h
   ·simp only [Oie,Pmi] at h;obtain ⟨rfl,rfl,rfl⟩:=h;simp only [VS] at d;exact ⟨[v],vs',rfl,.inl ⟨by rw [d],rfl,rfl⟩,f⟩
   ·rename_i o;split at h
    ·rename_i e0 t0 ys q;split at h
     ·rename_i hc;obtain ⟨rfl,hd,hs⟩:=hc;split at h
      ·rename_i z g;simp only [Oie,Pmi] at h;obtain ⟨rfl,rfl,rfl⟩:=h;obtain ⟨n,p⟩:=QV g;simp only [Ty.slice.injEq] at n;subst n;simp only at p;subst p;simp only [VS,q] at d;rcases (Qaf hd).1 (hO o _ q) with ⟨i,hx⟩ | ⟨b,m,c,l,i,hh,s,hl,j,hr,hi⟩
       ·rw [i] at d;refine ⟨[v],vs',rfl,.inl ⟨by rw [d.1],hx,by simp [blk1,i]⟩,f⟩
       ·rw [i] at d;simp only [RowV] at d;rw [Qay j] at d;refine ⟨[v],vs',rfl,.inr ⟨b,m,c,l,by rw [d],by simp [blk1,i],hh,s,hl,j,Qad (fun _ _=>Qct hs) hr,hi⟩,f⟩
      ·cases h
     ·cases h
    ·cases h
   ·cases h
 | int k=>
  intro cs vs x ns r e h;cases e with
  | nil=>simp [dgat] at h
  | @cons c v cs' vs' d f=>
   simp only [dgat] at h;split at h
   ·split at h
    ·rename_i z' g;simp only [Oie,Pmi] at h;obtain ⟨rfl,rfl,rfl⟩:=h;exact ⟨[v],vs',rfl,Qix rfl d g,f⟩
    ·cases h
   ·cases h
 | opq=>
  intro cs vs x ns r e h;cases cs <;> cases h
 | bool=>
  intro cs vs x ns r e h;cases e with
  | nil=>simp [dgat] at h
  | @cons c v cs' vs' d f=>
   simp only [dgat] at h;split at h
   ·split at h
    ·rename_i z' g;simp only [Oie,Pmi] at h;obtain ⟨rfl,rfl,rfl⟩:=h;exact ⟨[v],vs',rfl,Qix rfl d g,f⟩
    ·cases h
   ·cases h
 | str=>
  intro cs vs x ns r e h;cases e with
  | nil=>simp [dgat] at h
  | @cons c v cs' vs' d f=>
   simp only [dgat] at h;split at h
   ·split at h
    ·rename_i z' g;simp only [Oie,Pmi] at h;obtain ⟨rfl,rfl,rfl⟩:=h;exact ⟨[v],vs',rfl,Qix rfl d g,f⟩
    ·cases h
   ·cases h
theorem Qme: ∀{t:Ty} {cs:List S1} {x:den t} {ns:List Nat} {r:List S1},dgat H e1 t cs=some (x,ns,r)→ ∀o∈ns, ∃e0 t0 ys,look H o=some (.row e0 t0 ys):=by
 intro t
 induction t with
 | pair a b f g=>
  intro cs x ns r h;simp only [dgat] at h;split at h
  ·rename_i s l p i;split at h
   ·rename_i u m q j;simp only [Oie,Pmi] at h;obtain ⟨rfl,rfl,rfl⟩:=h;intro o d;exact (List.mem_append.1 d).elim (f i o) (g j o)
   ·cases h
  ·cases h
 | unit=>
  intro cs x ns r h;simp only [dgat,Oie,Pmi] at h;rw [←h.2.1]; exact fun o d=>by cases d
 | slice t k=>
  intro cs x ns r h;cases cs with
  | nil=>simp [dgat] at h
  | cons c cs=>
   simp only [dgat] at h;split at h
   ·simp only [Oie,Pmi] at h;rw [←h.2.1]; exact fun o d=>by cases d
   ·split at h
    ·rename_i o e0 t0 ys d;split at h
     ·split at h
      ·simp only [Oie,Pmi] at h;rw [←h.2.1];intro n e;simp only [List.mem_singleton] at e;subst e;exact ⟨_,_,_,d⟩
      ·cases h
     ·cases h
    ·cases h
   ·cases h
 | opq=>
  intro cs x ns r h;cases cs <;> cases h
 | _=>
  intro cs x ns r h;cases cs with
  | nil=>simp [dgat] at h
  | cons c cs=>
   simp only [dgat] at h;split at h
   ·split at h
    ·simp only [Oie,Pmi] at h;rw [←h.2.1]; exact fun o d=>by cases d
    ·cases h
   ·cases h
theorem QfA {ns:List Nat} {g:Nat}:g∈ns.flatMap (blk1 β)↔ ∃o∈ns, ∃c,β o=some (g,c):=by
 simp only [List.mem_flatMap];constructor
 ·rintro ⟨o,ho,h⟩;unfold blk1 at h;split at h
  ·rename_i p a;simp only [List.mem_singleton] at h;exact ⟨o,ho,p.2,by rw [a,h]⟩
  ·cases h
 ·rintro ⟨o,ho,c,h⟩;exact ⟨o,ho,by simp [blk1,h]⟩
theorem Qce {H:Heap}: ∀{ns:List Nat} {o:Nat},look (ns.map (fun o=>(o,Ob.dead))++H) o=if o∈ns then some .dead else look H o
 | [],o=>by simp
 | n::r,o=>by
  rw [List.map_cons,List.cons_append,Qe];by_cases e:n=o
  ·simp [e]
  ·rw [if_neg e,Qce];have:(o∈n::r)↔o∈r:=by simp [Ne.symm e]
   simp only [this]
theorem RepB.give (h:RepB Z M N w0 β σ a w) {b:Nat} {e e':TypeId} {t:Ty} {xs xs':List (den t)} {ns:List Nat} {g cap cap':Nat}
  (hb:look σ.H b=some (.row e t xs)) (hg:β b=some (g,cap)) (hse:QbM e e'=true) (hlent:lent e'=false) (hb9:b< 9000000) (hn9: ∀o∈ns,o< 9000000)
  (hns: ∀o∈ns,o≠b∧ ∃e0 t0 ys,look σ.H o=some (.row e0 t0 ys)) (hlen:xs'.length=xs.length)
  (hcap:QaO cap'=QaO cap) (hbits: ∀g2,g2∈bits cap'↔g2∈bits cap∨g2∈ns.flatMap (blk1 β))
  (hbelow:Kept M w0 w') (hsz:w'.heap.size=w.heap.size) (hw: ∀b',b'≠g→w'.heap[b']?=w.heap[b']?)
  (hobj: ∀S',(∀t x cs,Rp w (RO Z β σ.H) t x cs→Rp w' S' t x cs)→RowO w' S' e' t xs' (some (g,cap'))):
  RepB Z M N w0 (β.put b (some (g,cap'))) { σ with H:=(b,.row e' t xs')::(ns.map (fun o=>(o,Ob.dead))++σ.H) } a w':=by
 have j: ∀o d,look ((b,.row e' t xs')::(ns.map (fun o=>(o,Ob.dead))++σ.H)) o=some d→(o=b∧d= .row e' t xs')∨(o≠b∧o∈ns∧d= .dead)∨(o≠b∧o∉ns∧look σ.H o=some d):=by
  intro o d f;rw [Qe] at f;by_cases m:b=o
  ·rw [if_pos m] at f; exact .inl ⟨m.symm,(Osj f).symm⟩
  ·rw [if_neg m,Qce] at f;by_cases u:o∈ns
   ·rw [if_pos u] at f; exact .inr (.inl ⟨Ne.symm m,u,(Osj f).symm⟩)
   ·rw [if_neg u] at f; exact .inr (.inr ⟨Ne.symm m,u,f⟩)
 have v: ∀ys b',foot (.row e' t ys) (g,cap') b'→ ∃o d p,(o=b∨o∈ns)∧look σ.H o=some d∧Qms d=true∧β o=some p∧foot d p b':=by
  intro ys b' i;rcases i with i | ⟨_,i⟩
  ·exact ⟨b,_,_,.inl rfl,hb,rfl,hg,.inl i⟩
  ·rcases (hbits b').1 i with i | i
   ·exact ⟨b,_,_,.inl rfl,hb,rfl,hg,.inr ⟨rfl,i⟩⟩
   ·obtain ⟨o,f,c,hc⟩:=QfA.1 i;obtain ⟨_,e0,t0,ys,hk⟩:=hns o f;exact ⟨o,_,_,.inr f,hk,rfl,hc,Qm⟩
 have r: ∀d,Qms d=true→live d=true:=fun d h=>by cases d <;> first | rfl | cases h
 have hk: ∀b',b'< w.heap.size→ ¬Own β σ.H b'→ ¬Own (β.put b (some (g,cap'))) ((b,.row e' t xs')::(ns.map (fun o=>(o,Ob.dead))++σ.H)) b'∧w'.heap[b']?=w.heap[b']? :=by
  intro b' bg hn;refine ⟨?_,hw b' fun e=>hn ⟨b,_,_,hb,rfl,hg,.inl e⟩⟩
  rintro ⟨o,d,p,f,l,k,i⟩;rcases j o d f with ⟨rfl,rfl⟩ | ⟨_,_,rfl⟩ | ⟨n,h2,h3⟩
  ·rw [Qx] at k;obtain rfl:=Osj k;obtain ⟨o',s,p',_,k1,k2,k3,k4⟩:=v _ _ i;exact hn ⟨o',s,p',k1,r _ k2,k3,k4⟩
  ·cases l
  ·rw [Qn n] at k; exact hn ⟨o,d,p,h3,l,k,i⟩
 have ai: ∀o d p,o≠b→look σ.H o=some d→live d=true→β o=some p→ ∀b',foot d p b'→b'≠g:=by
  intro o d p ah f l k b' i e;exact ah (h.one o b _ _ p _ b' f l hb rfl k hg i (.inl e))
 have hn: ∀o d,look σ.H o=some d→Step w w' (RO Z (β.put b (some (g,cap'))) ((b,.row e' t xs')::(ns.map (fun o=>(o,Ob.dead))++σ.H))) (β o) d ((β.put b (some (g,cap'))) o) (look ((b,.row e' t xs')::(ns.map (fun o=>(o,Ob.dead))++σ.H)) o):=by
  intro o d f;rw [Qe];by_cases m:b=o
  ·subst m;rw [if_pos rfl,Qx,hg];rw [hb] at f;obtain rfl:=Osj f;exact ⟨e,xs,rfl,hlen.symm,⟨rfl,hcap⟩,fun hd=>by rw [Qfl hse]; exact hd,fun l=>by rw [hlent] at l; cases l⟩
  ·rw [if_neg m,Qce,Qn (fun h=>m h.symm)]
   by_cases u:o∈ns
   ·rw [if_pos u]; trivial
   ·rw [if_neg u,f];exact QaP fun l p k=>hw p.1 (ai o d p (Ne.symm m) f l k p.1 Qm)
 refine h.move (H':=(b,.row e' t xs')::(ns.map (fun o=>(o,Ob.dead))++σ.H)) hbelow ?_ hk hn ?_ ?_ ?_ (fun o cs b' a7 h0 n _=>by
  rcases j o _ n with ⟨rfl,e⟩ | ⟨_,_,e⟩ | ⟨_,_,e⟩
  ·cases e
  ·cases e
  ·rw [h0] at e; cases e)
 ·intro o q hq hs h9;refine ⟨by rw [Qn (by omega)]; exact hq,?_⟩
  rw [Qe,if_neg (by omega),Qce,if_neg (fun hh=>by have:=hn9 o hh; omega)]
  exact hs
 ·intro o d p b' f l k i;rw [hsz];rcases j o d f with ⟨rfl,rfl⟩ | ⟨_,_,rfl⟩ | ⟨n,h2,h3⟩
  ·rw [Qx] at k;obtain rfl:=Osj k;obtain ⟨o',s,p',_,k1,k2,k3,k4⟩:=v _ _ i;have:=h.hold o' s p' b' k1 (r _ k2) k3 k4;refine ⟨?_,this.2⟩;cases s <;> first | exact this.1 | cases k2
  ·cases l
  ·rw [Qn n] at k; exact h.hold o d p b' h3 l k i
 ·intro o1 o2 ao y p1 p2 b' n l1 h2 l2 b1 b2 f1 f2
  have z: ∀o d p,o≠b→o∉ns→look σ.H o=some d→live d=true→β o=some p→foot d p b'→ ∀ys,foot (.row e' t ys) (g,cap') b'→False:=by
   intro o d p ah a2 f l k i ys a1;obtain ⟨o',s,p',k0,k1,k2,k3,k4⟩:=v _ _ a1;have:=h.one o o' _ _ p p' b' f l k1 (r _ k2) k k3 i k4;subst this;exact k0.elim ah a2
  rcases j o1 ao n with ⟨rfl,rfl⟩ | ⟨_,_,rfl⟩ | ⟨q1,q2,q3⟩
  ·rcases j o2 y h2 with ⟨rfl,rfl⟩ | ⟨_,_,rfl⟩ | ⟨r1,r2,r3⟩
   ·rfl
   ·cases l2
   ·rw [Qx] at b1; rw [Qn r1] at b2;obtain rfl:=Osj b1;exact (z o2 y p2 r1 r2 r3 l2 b2 f2 _ f1).elim
  ·cases l1
  ·rcases j o2 y h2 with ⟨rfl,rfl⟩ | ⟨_,_,rfl⟩ | ⟨r1,r2,r3⟩
   ·rw [Qx] at b2; rw [Qn q1] at b1;obtain rfl:=Osj b2;exact (z o1 ao p1 q1 q2 q3 l1 b1 f1 _ f2).elim
   ·cases l2
   ·rw [Qn q1] at b1; rw [Qn r1] at b2;exact h.one o1 o2 ao y p1 p2 b' q3 l1 r3 l2 b1 b2 f1 f2
 ·intro o d f;rcases j o d f with ⟨rfl,rfl⟩ | ⟨_,_,rfl⟩ | ⟨n,h2,h3⟩
  ·rw [Qx]; exact hobj _ (fun t x cs=>Qaa (Qam hk))
  ·trivial
  ·rw [Qn n];exact Qdw (Qam hk) hk hn (fun b' p k l i=>hw b' (ai o d p n h3 l k b' i)) (h.obj o d h3)
theorem Qhk {L:List Nat} (hinj: ∀o o' g c c',o∈L→o'∈L→β o=some (g,c)→β o'=some (g,c')→o=o'): ∀{ns:List Nat},(∀o∈ns,o∈L)→ns.Nodup→(ns.flatMap (blk1 β)).Nodup
 | [],_,_=>by simp
 | o::r,hl,hd=>by
  have hd':=List.nodup_cons.1 hd;rw [List.flatMap_cons,List.nodup_append];refine ⟨?_,Qhk hinj (fun o l=>hl o (by simp [l])) hd'.2,?_⟩
  ·unfold blk1;split <;> simp
  ·intro g k m f e;subst e;obtain ⟨o',a,c',d⟩:=QfA.1 f;have i:g∈[o].flatMap (blk1 β):=by simpa using k
   obtain ⟨h,b,c,j⟩:=QfA.1 i;simp only [List.mem_singleton] at b;subst b;have:=hinj h o' g c c' (hl h (by simp)) (hl o' (by simp [a])) j d
   subst this;exact hd'.1 a
end give
section taken
variable {w:World} {e1:TypeId}
theorem Qug: ∀{t:Ty} {x:den t} {off:Nat} {u:Ty} {y:den u} {cs:List Value} {F:List Nat},sub t x off u=some y→Dp w e1 t x cs F→
  ∃A Fi C p m q,F=A++Fi++C∧cs=p++m++q∧p.length=off∧Dp w e1 u y m Fi∧
   ∀(w':World) y' z' Fi',upd t x off u y'=some z'→(∀g∈A++C,w'.heap[g]?=w.heap[g]?)→Dp w' e1 u y' m Fi'→Dp w' e1 t z' cs (A++Fi'++C):=by
 intro t
 induction t with
 | pair c d ag ah=>
  intro x off u y cs F h o;simp only [sub] at h;split at h
  ·rename_i e;obtain ⟨af,j⟩:=Qiv h o;refine ⟨[],F,[],[],cs,[],by simp,by simp,by simp [e.1],j,fun w' y' z' Fi' a _ b=>?_⟩
   simp only [upd] at a;rw [if_pos e] at a;simpa using (Qiv a b).2
  ·rename_i r;obtain ⟨c1,c2,F1,F2,rfl,rfl,s,j⟩:=o;split at h
   ·rename_i l;obtain ⟨A,Fi,C,p,m,q,rfl,rfl,z,v,i⟩:=ag h s;refine ⟨A,Fi,C++F2,p,m,q++c2,by simp,by simp,z,v,fun w' y' z' Fi' a k b=>?_⟩
    simp only [upd] at a;rw [if_neg r,if_pos l] at a;split at a
    ·rename_i z1 n;obtain rfl:=Osj a
     exact ⟨p++m++q,c2,A++Fi'++C,F2,by simp,by simp,i w' y' z1 Fi' n (fun g f=>k g (by
      rcases List.mem_append.1 f with h | h
      ·simp [h]
      ·simp [h])) b,Qdv (fun g f=>k g (by simp [f])) j⟩
    ·cases a
   ·rename_i l;obtain ⟨A,Fi,C,p,m,q,rfl,rfl,z,v,i⟩:=ah h j;refine ⟨F1++A,Fi,C,c1++p,m,q,by simp,by simp,?_,v,fun w' y' z' Fi' a k b=>?_⟩
    ·rw [List.length_append,QbD s,z]; omega
    ·simp only [upd] at a;rw [if_neg r,if_neg l] at a;split at a
     ·rename_i z1 n;obtain rfl:=Osj a
      exact ⟨c1,p++m++q,F1,A++Fi'++C,by simp,by simp,Qdv (fun g f=>k g (by simp [f])) s,i w' y' z1 Fi' n (fun g f=>k g (by
       rcases List.mem_append.1 f with h | h
       ·simp [h]
       ·simp [h])) b⟩
     ·cases a
 | _=>
  intro x off u y cs F h o;rw [QpV (by intros; simp)] at h
  split at h
  ·rename_i e;obtain ⟨af,j⟩:=Qiv h o;refine ⟨[],F,[],[],cs,[],by simp,by simp,by simp [e],j,fun w' y' z' Fi' a _ b=>?_⟩
   rw [Qlp (by intros; simp),if_pos e] at a
   simpa using (Qiv a b).2
  ·cases h
theorem RepB.turnG {Z:Nat→Prop} {M:Nat→Nat→Prop} {N:Nat→Option (Option (Nat×Nat))} {w0 w w':World} {β:Qr} {σ:St} {a:Act} (h:RepB Z M N w0 β σ a w) {o:Nat} {p:Nat×Nat} {ob ob':Ob}
  (ho:look σ.H o=some ob) (hl:live ob=true) (hl':live ob'=true) (hb:β o=some p)
  (hs: ∀S',Step w w' S' (β o) ob (β o) (some ob')) (hM: ∀b,foot ob' p b→mayW M b p.2 ob') (hfoot: ∀b,foot ob' p b↔foot ob p b) (hbelow:Kept M w0 w') (hsz:w.heap.size≤w'.heap.size) (hw: ∀b',b'< w.heap.size→ ¬foot ob p b'→w'.heap[b']?=w.heap[b']?)
  (hobj: ∀S',OR w' S' β ((o,ob')::σ.H) (β o) ob'):
  RepB Z M N w0 β (σ.put o ob') a w':=by
 have f: ∀g c,look ((o,ob')::σ.H) g=some c→live c=true→ ∃i,look σ.H g=some i∧live i=true∧ ∀q b,β g=some q→(foot c q b↔foot i q b):=by
  intro g c d z;rw [Qe] at d;by_cases e:o=g
  ·subst e;rw [if_pos rfl] at d;obtain rfl:=Osj d;refine ⟨ob,ho,hl,fun q b hq=>?_⟩
   rw [hb] at hq;obtain rfl:=Osj hq;exact hfoot b
  ·rw [if_neg e] at d; exact ⟨c,d,z,fun _ _ _=>Iff.rfl⟩
 have y: ∀b',b'< w.heap.size→ ¬Own β σ.H b'→ ¬Own β ((o,ob')::σ.H) b'∧w'.heap[b']?=w.heap[b']? :=by
  intro b' k m;refine ⟨?_,hw b' k fun e=>m ⟨o,ob,p,ho,hl,hb,e⟩⟩
  rintro ⟨g,c,q,d,l,j,s⟩;obtain ⟨i,r,v,x⟩:=f g c d l;exact m ⟨g,i,q,r,v,j,(x q b' j).1 s⟩
 have m: ∀g c,look σ.H g=some c→Step w w' (RO Z β ((o,ob')::σ.H)) (β g) c (β g) (look ((o,ob')::σ.H) g):=by
  intro g c d;by_cases e:o=g
  ·subst e;rw [ho] at d;obtain rfl:=Osj d;rw [Qe,if_pos rfl];exact hs _
  ·rw [Qe,if_neg e,d];exact QaP fun hl' n u=>hw n.1 (h.hold g c n n.1 d hl' u Qm).2 fun hf=>e (h.one o g ob c p n n.1 ho hl d hl' hb u hf Qm)
 refine h.move hbelow (fun g q ac hs _=>⟨ac,QdE hs⟩) y m ?_ ?_ ?_ (QqQ ho)
 ·intro g c q b' d l j s;obtain ⟨i,r,v,x⟩:=f g c d l;have:=h.hold g i q b' r v j ((x q b' j).1 s);refine ⟨?_,Nat.lt_of_lt_of_le this.2 hsz⟩;rw [Qe] at d;by_cases e:o=g
  ·subst e;rw [if_pos rfl] at d; obtain rfl:=Osj d;rw [hb] at j;obtain rfl:=Osj j;exact hM b' s
  ·rw [if_neg e,r] at d;obtain rfl:=Osj d;exact this.1
 ·intro o1 o2 c i q1 q2 b' d z l l2 b1 b2 f1 f2;obtain ⟨p1,ah,r1,s1⟩:=f o1 c d z;obtain ⟨p2,ai,r2,s2⟩:=f o2 i l l2;exact h.one o1 o2 p1 p2 q1 q2 b' ah r1 ai r2 b1 b2 ((s1 _ _ b1).1 f1) ((s2 _ _ b2).1 f2)
 ·intro g c d;rw [Qe] at d;by_cases e:o=g
  ·subst e;rw [if_pos rfl] at d;obtain rfl:=Osj d;exact hobj _
  ·rw [if_neg e] at d;refine Qdw (Qam y) y m (fun b' q' k hl' t=>hw b' (h.hold g c q' b' d hl' k t).2 fun e'=>?_) (h.obj g c d)
   exact e (h.one o g ob c p q' b' ho hl d hl' hb k e' t)
end taken
end
end Go.Proofs.YtkkljegcnnfanaaGreatDoor.S
