/- The machinery S, part 4: a run of a program's code over typed symbolic data, and that it is what the code does. -/
import Derived.Test.YtkkljegcnnfanaaGreatDoorS3
import Derived.MapKept
import Derived.LoopN
set_option linter.unusedVariables false
set_option linter.unusedSimpArgs false
namespace Go.Proofs.YtkkljegcnnfanaaGreatDoor.S
section
open Go Go.RowKit
variable {w w' w0:World} {S S' S3 Q Z:Nat→Prop} {M M':Nat→Nat→Prop} {N:Nat→Option (Option (Nat×Nat))} {B:Nat→Option Pl} {a:Act} {σ:St} {β:Qr} {H:Heap} {fr l:List Nat}
theorem Qnt {e:TypeId} {t:Ty} {xs:List (den t)} {q:Option (Nat×Nat)} (hs: ∀(B:Nat→Prop) x cs,Rp w (fun g=>S g∨B g) t x cs→Rp w (fun g=>S' g∨B g) t x cs) (h:RowO w S e t xs q):RowO w S' e t xs q:=by
 rcases h with h | ⟨b,cap,c,rows,h1,h2,h3,h4,h5,h6,h7⟩
 ·exact .inl h
 ·exact .inr ⟨b,cap,c,rows,h1,h2,h3,h4,h5,Qad (fun _ _=>hs _ _ _) h6,h7⟩
def QhG (w:World) (S S':Nat→Prop) (sl:Bool):Prop:= ∀(B:Nat→Prop) t (x:den t) cs,(sl=false→QaR t=false)→Rp w (fun g=>S g∨B g) t x cs→Rp w (fun g=>S' g∨B g) t x cs
theorem QhG.rp {sl:Bool} (hs:QhG w S S' sl) {t:Ty} {x:den t} {cs:List Value} (hc:sl=false→QaR t=false) (h:Rp w S t x cs):Rp w S' t x cs:=by
 have:=hs (fun _=>False) t x cs hc (by simpa using h)
 simpa using this
theorem QrB {sl:Bool} (hs:QhG w S S' sl) {c:CK} {x:c.den} {v:Value} {F:List Nat} (hc:sl=false→c.sl=false) (h:Qds w S (fun _=>False) B c x v F):Qds w S' (fun _=>False) B c x v F:=by
 cases c with
 | dat t=>obtain ⟨⟨a,d⟩,g⟩:=h; exact ⟨⟨a,hs.rp hc d⟩,g⟩
 | own e t=>obtain ⟨q,a,d⟩:=h; exact ⟨q,Qnt (fun _ _ _=>hs _ _ _ _ hc) a,d⟩
 | vw e t=>obtain ⟨q,a,d⟩:=h; exact ⟨q,Qnt (fun _ _ _=>hs _ _ _ _ hc) a,d⟩
 | pd t=>obtain ⟨_,_,_,d⟩:=h.1.any; exact d.elim
 | fn f m=>
  obtain ⟨⟨n,e,h⟩,i⟩:=h;cases m with
  | nil=>exact ⟨⟨n,e,h⟩,i⟩
  | cons t r=>obtain ⟨_,_,_,a,_⟩:=h; obtain ⟨_,_,_,l⟩:=a.any; exact l.elim
 | bx t=>obtain ⟨b,c,e,j,a,d,g,i,k⟩:=h; exact ⟨b,c,e,j,a,d,g,hs.rp (fun e=>by have:=hc e; cases this) i,k⟩
 | _=>exact h
theorem QhE {sl:Bool} (hs:QhG w S S' sl): ∀{cs:List CK} {x:denC cs} {vs:List Value} {F:List Nat},(sl=false→cs.any CK.sl=false)→QbC w S (fun _=>False) B cs x vs F→QbC w S' (fun _=>False) B cs x vs F
 | [],_,_,_,_,h=>h
 | c::r,_,_,_,hc,⟨v,vs',F1,F2,h1,h2,h3,h4⟩=>
  ⟨v,vs',F1,F2,h1,h2,QrB hs (fun e=>by have:=hc e; simp only [List.any_cons,Bool.or_eq_false_iff] at this; exact this.1) h3,QhE hs (fun e=>by have:=hc e; simp only [List.any_cons,Bool.or_eq_false_iff] at this; exact this.2) h4⟩
theorem QxL {sl:Bool} (hs:QhG w S S' sl) {k:VK} {x:k.den} {v:Value} {F:List Nat} (hc:sl=false→k.sl=false) (h:VKR w S (fun _=>False) B k x v F):VKR w S' (fun _=>False) B k x v F:=by
 cases k with
 | b a=>obtain ⟨g,c,e,m,d,f,o,i,n⟩:=h; exact ⟨g,c,e,m,d,f,o,QhE hs hc i,n⟩
 | g a=>obtain ⟨p,e,h⟩:=h; exact ⟨p,e,QhE hs hc h⟩
 | s c=>
  by_cases j: ∃t,c= .dat t
  ·obtain ⟨t,rfl⟩:=j;obtain ⟨⟨a,d,f⟩,i⟩:=h;exact ⟨⟨a,d,hs.rp hc f⟩,i⟩
  ·have l: ∀t,c≠ .dat t:=fun t e=>j ⟨t,e⟩
   exact (QiU l).2 (QrB hs hc ((QiU l).1 h))
theorem Qul {sl:Bool} (hs:QhG w S S' sl): ∀{ks:List VK} {x:denV ks} {vs:List Value} {F:List Nat},(sl=false→ks.any VK.sl=false)→VKsR w S (fun _=>False) B ks x vs F→VKsR w S' (fun _=>False) B ks x vs F
 | [],_,_,_,_,h=>h
 | c::r,_,_,_,hc,⟨v,vs',F1,F2,h1,h2,h3,h4⟩=>
  ⟨v,vs',F1,F2,h1,h2,QxL hs (fun e=>by have:=hc e; simp only [List.any_cons,Bool.or_eq_false_iff] at this; exact this.1) h3,Qul hs (fun e=>by have:=hc e; simp only [List.any_cons,Bool.or_eq_false_iff] at this; exact this.2) h4⟩
theorem QrC {sl:Bool} (hs:QhG w S S' sl): ∀{cs:List CK} {y:Qcv cs} {vs:List Value} {F:List Nat} {nm:Nat},(sl=false→cs.any CK.sl=false)→CwR w S B nm cs y vs F→CwR w S' B nm cs y vs F
 | [],_,_,_,_,_,h=>h
 | c::r,_,_,_,_,hc,h=>by
  have hc1:sl=false→c.sl=false:=fun e=>by have:=hc e; simp only [List.any_cons,Bool.or_eq_false_iff] at this; exact this.1
  have b:sl=false→r.any CK.sl=false:=fun e=>by have:=hc e; simp only [List.any_cons,Bool.or_eq_false_iff] at this; exact this.2
  cases c with
  | own e t=>obtain ⟨v,a,q,g,d,f,i,j,k⟩:=h; exact ⟨v,a,q,g,d,f,Qnt (fun _ _ _=>hs _ _ _ _ hc1) i,j,QrC hs b k⟩
  | _=>obtain ⟨v,a,d,f⟩:=h; exact ⟨v,a,d,QrC hs b f⟩
theorem QeT {sl:Bool} (hs:QhG w S S' sl): ∀{ps:List PK} {y:denQ ps} {vs:List Value} {F:List Nat} {i:Nat},(sl=false→ps.any PK.sl=false)→Qex w S B i ps y vs F→Qex w S' B i ps y vs F
 | [],_,_,_,_,_,h=>h
 | k::r,_,_,_,_,hc,h=>by
  have hc1:sl=false→k.sl=false:=fun e=>by have:=hc e; simp only [List.any_cons,Bool.or_eq_false_iff] at this; exact this.1
  have j:sl=false→r.any PK.sl=false:=fun e=>by have:=hc e; simp only [List.any_cons,Bool.or_eq_false_iff] at this; exact this.2
  cases k with
  | val t=>obtain ⟨v,a,d,g⟩:=h; exact ⟨v,a,d,QeT hs j g⟩
  | ptr t=>obtain ⟨v,a,d,g⟩:=h; exact ⟨v,a,d,QeT hs j g⟩
  | fn f ts=>obtain ⟨v,a,d,g⟩:=h; exact ⟨v,a,d,QeT hs j g⟩
  | box ci co=>
   obtain ⟨v,a,p,l,b,s,c,e,d,g,m,n,o,u,x,z,h9⟩:=h;exact ⟨v,a,p,l,b,s,c,e,d,g,m,n,o,u,QhE hs hc1 x,z,QeT hs j h9⟩
  | row e t=>obtain ⟨v,a,q,l,d,g,m,n,o⟩:=h; exact ⟨v,a,q,l,d,g,Qnt (fun _ _ _=>hs _ _ _ _ hc1) m,n,QeT hs j o⟩
  | agg cs=>obtain ⟨v,a,us,p,l,d,g,m,n,o⟩:=h; exact ⟨v,a,us,p,l,d,g,m,QrC hs hc1 n,QeT hs j o⟩
theorem Kept.trans {a b c:World} (h:Kept M a b) (k:Kept M' b c) (hM: ∀g i,M' g i→M g i):Kept M a c where
 os:=k.os.trans h.os
 tape:=k.tape.trans h.tape
 output:=k.output.trans h.output
 size:=Nat.le_trans h.size k.size
 block:=fun g j l=>by rw [k.block g (Nat.lt_of_lt_of_le j h.size) fun i d=>l i (hM g i d),h.block g j l]
 cells:=fun g x e f r=>by
  obtain ⟨s,m,u,n⟩:=h.cells g x e f r;obtain ⟨t,o,v,p⟩:=k.cells g s e f m;exact ⟨t,o,by omega,fun i d=>(p i fun q=>d (hM g i q)).trans (n i d)⟩
theorem QjF (hrep:RepB Z M N w0 β σ a w): ∀{xs:List Operand} {ys:List SV},mapO (ev σ) xs=some ys→All2 (VV w (RO Z β σ.H) β σ.H) ys (xs.map a.eval)
 | [],_,h=>by
  simp only [mapO,Oie] at h;subst h; exact .nil
 | x::r,_,h=>by
  simp only [mapO] at h;split at h
  ·rename_i y hy;split at h
   ·rename_i z hz;obtain rfl:=Osj h;exact .cons (Qf hrep hy) (QjF hrep hz)
   ·cases h
  ·cases h
theorem QgW: ∀{l:List (Nat×Ob)},Qdk H l=true→(∀p∈l,look H p.1=none)∧(l.map (·.1)).Nodup
 | [],_=>⟨fun p hp=>by simp at hp,by simp⟩
 | p::r,h=>by
  simp only [Qdk,Bool.and_eq_true] at h;obtain ⟨⟨h1,h2⟩,h3⟩:=h;have c:=QgW h3;refine ⟨fun q a=>?_,?_⟩
  ·rcases List.mem_cons.1 a with rfl | a
   ·exact Qbg h1
   ·exact c.1 q a
  ·simp only [List.map_cons,List.nodup_cons];refine ⟨fun d=>?_,c.2⟩
   have:=Qbg h2;obtain ⟨q,a,e⟩:=List.mem_map.1 d;have b:=Qar c.2 a;rw [e] at b;rw [this] at b;cases b
theorem QC {α:Type}: ∀{A C:List (Nat×α)} {o:Nat},look (A++C) o=match look A o with | some x=>some x | none=>look C o
 | [],_,_=>rfl
 | p::r,C,o=>by
  obtain ⟨k,x⟩:=p;rw [List.cons_append,Qe,Qe];by_cases e:k=o
  ·simp [e]
  ·simp only [if_neg e]; exact QC
theorem QiH {l:List Nat} {o:Nat}:look (l.map fun o=>(o,Ob.dead)) o=if o∈l then some .dead else none:=by
 induction l with
 | nil=>rfl
 | cons k r b=>
  rw [List.map_cons,Qe,b];by_cases e:k=o
  ·simp [e]
  ·rw [if_neg e];by_cases h:o∈r
   ·simp [h]
   ·rw [if_neg h,if_neg];simp only [List.mem_cons,not_or];exact ⟨fun a=>e a.symm,h⟩
theorem Qdz {α:Type}: ∀{l:List (Nat×α)} {o:Nat},(∀p∈l,p.1≠o)→look l o=none
 | [],_,_=>rfl
 | p::r,o,h=>by
  obtain ⟨k,x⟩:=p;rw [Qe,if_neg (h (k,x) (by simp))]
  exact Qdz fun p a=>h p (by simp [a])
theorem Qho {fr:List Nat} {o:Nat}:(look (frz H fr) o).isSome=(look H o).isSome:=by
 by_cases h: ∃e t a,look H o=some (.row e t a)
 ·obtain ⟨e,t,a,h⟩:=h;rw [QaE (l:=fr) h,h];rfl
 ·rw [Qaz (fun e t a b=>h ⟨e,t,a,b⟩)]
theorem Quc {xs:List SV} {vs:List Value} (h:All2 (VV w S β H) xs vs):VL w S β H (tup xs) (tupV vs):=by
 cases h with
 | nil=>exact ⟨[],rfl,.nil⟩
 | cons a b=>
  cases b with
  | nil=>exact a
  | cons c d=>exact ⟨_,rfl,.cons a (.cons c d)⟩
end
section
open Go Go.RowKit
variable {P:Program} {T:Tab} {G:Env} {w w' w0:World} {S S' S3 Q Z:Nat→Prop} {M M':Nat→Nat→Prop} {N:Nat→Option (Option (Nat×Nat))} {B:Nat→Option Pl} {a:Act} {σ:St} {β:Qr} {H:Heap} {fr l:List Nat}
variable {o:Oper} {next:Act→World→Prop} {Q':Exit→Act→World→Prop} {R:Type} {K:St→Option R} {y:R}
theorem Qeg: ∀{ps:List PK} {xs:List SV} {i:Nat},((bxl i ps xs).map (·.1)).Sublist ((QaS i ps).map (·.1))∧ ∀p∈bxl i ps xs, ∃ci,(p.1,ci)∈QaS i ps∧ci.length=p.2.2.2
 | [],xs,i=>by cases xs <;> exact ⟨by simp [bxl],fun p hp=>by simp [bxl] at hp⟩
 | k::r,[],i=>by cases k <;> exact ⟨by simp [bxl],fun p hp=>by simp [bxl] at hp⟩
 | .val _::r,x::xs,i=>Qeg (ps:=r)
 | .ptr _::r,x::xs,i=>Qeg (ps:=r)
 | .fn _ _::r,x::xs,i=>Qeg (ps:=r)
 | .row _ _::r,x::xs,i=>Qeg (ps:=r)
 | .agg _::r,x::xs,i=>Qeg (ps:=r)
 | .box ci co::r,x::xs,i=>by
  have ih:=Qeg (ps:=r) (xs:=xs) (i:=i+1);by_cases f: ∃o a,x= .s (.p o a)
  ·obtain ⟨o,a,rfl⟩:=f;refine ⟨by simp only [bxl,QaS,List.map_cons]; exact ih.1.cons_cons _,fun p hp=>?_⟩
   simp only [bxl,List.mem_cons] at hp;rcases hp with rfl | hp
   ·exact ⟨ci,by simp [QaS],rfl⟩
   ·obtain ⟨b,c,d⟩:=ih.2 p hp;exact ⟨b,by simp [QaS,c],d⟩
  ·have e:bxl i (.box ci co::r) (x::xs)=bxl (i+1) r xs:=by
    cases x with
    | g _=>rfl
    | s s=>cases s <;> first | rfl | exact absurd ⟨_,_,rfl⟩ f
   rw [e];refine ⟨by simp only [QaS,List.map_cons]; exact ih.1.cons _,fun p hp=>?_⟩
   obtain ⟨b,c,d⟩:=ih.2 p hp;exact ⟨b,by simp [QaS,c],d⟩
theorem Qpw {nm:Nat} {z:List (Nat×TypeId×Ty)}: ∀{cs:List CK},Qco nm z cs=Qco nm [] cs++z:=by
 intro cs
 induction cs generalizing nm with
 | nil=>rfl
 | cons c r a=>cases c <;> simp only [Qco,List.cons_append] <;> first | exact a | rw [a]
theorem QcG {β:Qr} {H:Heap}: ∀{cs:List CK} {ss:List S1} {nm:Nat},((rwC β H nm cs ss).map (·.1)).Sublist ((Qco nm [] cs).map (·.1))∧ ∀p∈rwC β H nm cs ss, ∃q n,p.2= .row q n
 | [],ss,nm=>by cases ss <;> exact ⟨by simp [rwC],fun p hp=>by simp [rwC] at hp⟩
 | c::r,[],nm=>by cases c <;> exact ⟨by simp [rwC],fun p hp=>by simp [rwC] at hp⟩
 | .own e t::r,s::ss,nm=>by
  have ih:=QcG (β:=β) (H:=H) (cs:=r) (ss:=ss) (nm:=nm+1);refine ⟨by simp only [rwC,Qco,List.map_cons]; exact ih.1.cons_cons _,fun p hp=>?_⟩
  simp only [rwC,List.mem_cons] at hp;rcases hp with rfl | hp
  ·cases s <;> exact ⟨_,_,rfl⟩
  ·exact ih.2 p hp
 | .dat t::r,s::ss,nm=>QcG (cs:=r)
 | .ptr _ _::r,s::ss,nm=>QcG (cs:=r)
 | .ref _::r,s::ss,nm=>QcG (cs:=r)
 | .pd _::r,s::ss,nm=>QcG (cs:=r)
 | .fn _ _::r,s::ss,nm=>QcG (cs:=r)
 | .mp::r,s::ss,nm=>QcG (cs:=r)
 | .bx _::r,s::ss,nm=>QcG (cs:=r)
 | .vw _ _::r,s::ss,nm=>QcG (cs:=r)
 | .any::r,s::ss,nm=>QcG (cs:=r)
theorem QdB {β:Qr} {H:Heap}: ∀{ps:List PK} {xs:List SV} {i:Nat},((rwl β H i ps xs).map (·.1)).Sublist ((QbB i ps).map (·.1))∧ ∀p∈rwl β H i ps xs, ∃q n,p.2= .row q n
 | [],xs,i=>by cases xs <;> exact ⟨by simp [rwl],fun p hp=>by simp [rwl] at hp⟩
 | k::r,[],i=>by cases k <;> exact ⟨by simp [rwl],fun p hp=>by simp [rwl] at hp⟩
 | .val _::r,x::xs,i=>QdB (ps:=r)
 | .ptr _::r,x::xs,i=>QdB (ps:=r)
 | .fn _ _::r,x::xs,i=>QdB (ps:=r)
 | .box _ _::r,x::xs,i=>QdB (ps:=r)
 | .row e t::r,x::xs,i=>by
  have ih:=QdB (β:=β) (H:=H) (ps:=r) (xs:=xs) (i:=i+1);cases x with
  | g _=>exact ⟨by simp only [rwl,QbB,List.map_cons]; exact ih.1.cons _,ih.2⟩
  | s s=>
   refine ⟨by simp only [rwl,QbB,List.map_cons]; exact ih.1.cons_cons _,fun p hp=>?_⟩
   simp only [rwl,List.mem_cons] at hp;rcases hp with rfl | hp
   ·cases s <;> exact ⟨_,_,rfl⟩
   ·exact ih.2 p hp
 | .agg cs::r,x::xs,i=>by
  have ih:=QdB (β:=β) (H:=H) (ps:=r) (xs:=xs) (i:=i+1);cases x with
  | s _=>exact ⟨by simp only [rwl,QbB]; rw [Qpw,List.map_append]; exact ih.1.trans (List.sublist_append_right _ _),ih.2⟩
  | g ss=>
   have a:=QcG (β:=β) (H:=H) (cs:=cs) (ss:=ss) (nm:=9000100+100*i);refine ⟨by simp only [rwl,QbB]; rw [Qpw,List.map_append,List.map_append]; exact a.1.append ih.1,fun p hp=>?_⟩
   simp only [rwl,List.mem_append] at hp;rcases hp with hp | hp
   ·exact a.2 p hp
   ·exact ih.2 p hp
def QjK (H:Heap) (l:List Nat):Prop:= ∀o∈l, ∃e t xs,look H o=some (.row e t xs)
theorem QjK.append {l m:List Nat} (h:QjK H l) (h':QjK H m):QjK H (l++m):=fun o a=>by
 rcases List.mem_append.1 a with a | a
 ·exact h o a
 ·exact h' o a
theorem Qnl {c:CK} {s:S1} {x:c.den} {l:List Nat} (h:unC H c s=some (x,l)) (hc:aggC c=true):QjK H l:=by
 intro o a;have g:=Qll h o a;obtain ⟨j,d,i⟩:=g;cases j with
 | row e t k=>exact ⟨e,t,k,d⟩
 | map m=>
  exfalso;cases c with
  | own e t=>
   simp only [unC] at h;split at h
   ·simp only [Oie,Pmi] at h; rw [←h.2] at a; simp at a
   ·split at h
    ·rename_i b;split at h
     ·split at h
      ·simp only [Oie,Pmi] at h;rw [←h.2] at a;simp only [List.mem_singleton] at a;subst a;rw [d] at b;cases b
      ·cases h
     ·cases h
    ·cases h
   ·cases h
  | dat t=>
   simp only [unC] at h;split at h
   ·simp only [Oie,Pmi] at h; rw [←h.2] at a; simp at a
   ·cases h
  | pd t=>
   simp only [unC] at h;split at h
   ·split at h
    ·simp only [Oie,Pmi] at h; rw [←h.2] at a; simp at a
    ·cases h
   ·cases h
  | fn f n=>
   simp only [unC] at h;split at h
   ·split at h
    ·split at h
     ·simp only [Oie,Pmi] at h; rw [←h.2] at a; simp at a
     ·cases h
    ·cases h
   ·cases h
  | any=>simp only [unC,Oie,Pmi] at h; rw [←h.2] at a; simp at a
  | _=>simp [aggC] at hc
 | _=>cases i
theorem QhB: ∀{cs:List CK} {ss:List S1} {x:denC cs} {l:List Nat},unCs H cs ss=some (x,l)→cs.all aggC=true→QjK H l
 | [],[],_,_,h,_=>by
  simp only [unCs,Oie,Pmi] at h;rw [←h.2]; exact fun o ho=>by simp at ho
 | c::r,s::ss,_,_,h,hc=>by
  simp only [List.all_cons,Bool.and_eq_true] at hc;simp only [unCs] at h;split at h
  ·rename_i hy;split at h
   ·rename_i hz;simp only [Oie,Pmi] at h;rw [←h.2];exact (Qnl hy hc.1).append (QhB hz hc.2)
   ·cases h
  ·cases h
 | [],_::_,_,_,h,_=>by simp [unCs] at h
 | _::_,[],_,_,h,_=>by simp [unCs] at h
theorem QvN {c:CK} {s:S1} {x:c.den} {l:List Nat} (h:unC H c s=some (x,l)) (hn:nlC H s=true): ∀o∈l, ∀e t xs,look H o=some (.row e t xs)→lent e=false:=by
 intro o a e t xs d;cases c with
 | own g i=>
  simp only [unC] at h;split at h
  ·simp only [Oie,Pmi] at h; rw [←h.2] at a; simp at a
  ·split at h
   ·rename_i b;split at h
    ·split at h
     ·simp only [Oie,Pmi] at h;rw [←h.2] at a;simp only [List.mem_singleton] at a;subst a;simpa [nlC,d] using hn
     ·cases h
    ·cases h
   ·cases h
  ·cases h
 | vw g i=>
  simp only [unC] at h;split at h
  ·cases h
  split at h
  ·simp only [Oie,Pmi] at h; rw [←h.2] at a; simp at a
  all_goals first | (cases h; done) | skip
  all_goals
   split at h
   ·rename_i b;split at h
    ·split at h
     ·simp only [Oie,Pmi] at h;rw [←h.2] at a;simp only [List.mem_singleton] at a;subst a;simpa [nlC,d] using hn
     ·cases h
    ·cases h
   ·cases h
 | mp=>
  simp only [unC] at h;split at h
  ·split at h
   ·rename_i b;simp only [Oie,Pmi] at h;rw [←h.2] at a;simp only [List.mem_singleton] at a;subst a;rw [d] at b;cases b
   ·cases h
  ·cases h
 | bx t=>simp [unC] at h
 | any=>simp only [unC,Oie,Pmi] at h; rw [←h.2] at a; simp at a
 | dat t=>
  simp only [unC] at h;split at h
  ·simp only [Oie,Pmi] at h; rw [←h.2] at a; simp at a
  ·cases h
 | pd t=>
  simp only [unC] at h;split at h
  ·split at h
   ·simp only [Oie,Pmi] at h; rw [←h.2] at a; simp at a
   ·cases h
  ·cases h
 | fn f k=>
  simp only [unC] at h;split at h
  ·split at h
   ·split at h
    ·simp only [Oie,Pmi] at h; rw [←h.2] at a; simp at a
    ·cases h
   ·cases h
  ·cases h
 | ptr o j=>
  simp only [unC] at h;split at h
  ·split at h
   ·split at h
    ·simp only [Oie,Pmi] at h; rw [←h.2] at a; simp at a
    ·cases h
   ·cases h
  ·cases h
 | ref o=>
  simp only [unC] at h;split at h
  ·split at h
   ·split at h
    ·simp only [Oie,Pmi] at h; rw [←h.2] at a; simp at a
    ·cases h
   ·cases h
  ·cases h
theorem Qog: ∀{cs:List CK} {ss:List S1} {x:denC cs} {l:List Nat},unCs H cs ss=some (x,l)→ss.all (nlC H)=true→ ∀o∈l, ∀e t xs,look H o=some (.row e t xs)→lent e=false
 | [],[],_,_,h,_=>by
  simp only [unCs,Oie,Pmi] at h;rw [←h.2]; exact fun o ho=>by simp at ho
 | c::r,s::ss,_,_,h,hc=>by
  simp only [List.all_cons,Bool.and_eq_true] at hc;simp only [unCs] at h;split at h
  ·rename_i hy;split at h
   ·rename_i hz;simp only [Oie,Pmi] at h;rw [←h.2];intro o ho;rcases List.mem_append.1 ho with ho | ho
    ·exact QvN hy hc.1 o ho
    ·exact Qog hz hc.2 o ho
   ·cases h
  ·cases h
 | [],_::_,_,_,h,_=>by simp [unCs] at h
 | _::_,[],_,_,h,_=>by simp [unCs] at h
theorem Qow: ∀{ps:List PK} {xs:List SV} {x:denP ps} {l1 b1:List Nat},Qbb σ ps xs=some (x,l1,b1)→nlAs σ.H ps xs=true→ ∀o∈l1, ∀e t xs,look σ.H o=some (.row e t xs)→lent e=false
 | [],[],_,_,_,h,_=>by
  simp only [Qbb,Oie,Pmi] at h;obtain ⟨_,rfl,rfl⟩:=h;exact fun o b=>by simp at b
 | k::r,s::ss,_,l1,b1,h,hn=>by
  simp only [nlAs,Bool.and_eq_true] at hn;simp only [Qbb] at h;split at h
  ·rename_i x1 a;split at h
   ·rename_i z l;simp only [Oie,Pmi] at h;obtain ⟨_,rfl,rfl⟩:=h;have m:=Qow (l1:=z.2.1) (b1:=z.2.2) l hn.2;intro o b;rcases List.mem_append.1 b with b | b
    case inr=>exact m o b
    have c:=hn.1;cases k with
    | val t=>
     exfalso;simp only [argD] at a;split at a
     ·obtain rfl:=Osj a; simp at b
     ·cases a
    | fn f ts=>
     exfalso;simp only [argD] at a;split at a
     ·split at a
      ·split at a
       ·obtain rfl:=Osj a; simp at b
       ·cases a
      ·cases a
     ·cases a
    | ptr t=>
     exfalso;simp only [argD] at a;split at a
     ·split at a
      ·obtain rfl:=Osj a; simp at b
      ·cases a
     ·split at a
      ·split at a
       ·obtain rfl:=Osj a; simp at b
       ·cases a
      ·cases a
     ·split at a
      ·obtain ⟨_,a⟩:=Qcz a;obtain ⟨d,y,a⟩:=Obs a;obtain ⟨w,n,a⟩:=Obs a;obtain rfl:=Osj a; simp at b
      ·cases a
     ·cases a
    | box u v=>
     simp only [argD] at a;split at a
     ·rename_i o' p;split at a
      ·rename_i i j;split at a
       ·split at a
        ·rename_i q g;obtain rfl:=Osj a;simp only [nlA,j] at c;exact Qog g c o b
        ·cases a
       ·cases a
      ·cases a
     ·cases a
    | row e t=>
     simp only [argD] at a;split at a
     ·split at a
      ·rename_i q g;obtain rfl:=Osj a;exact QvN g c o b
      ·cases a
     ·cases a
    | agg i=>
     simp only [argD] at a;split at a
     ·split at a
      ·rename_i q g;obtain rfl:=Osj a;exact Qog g c o b
      ·cases a
     ·cases a
   ·cases h
  ·cases h
 | [],_::_,_,_,_,h,_=>by simp [Qbb] at h
 | _::_,[],_,_,_,h,_=>by simp [Qbb] at h
theorem Qbc: ∀{ps:List PK} {xs:List SV} {x:denP ps} {l1 b1:List Nat} {i:Nat},ps.all QdP=true→Qbb σ ps xs=some (x,l1,b1)→QjK σ.H l1∧(bxl i ps xs).map (·.2.1)=b1∧ ∀p∈bxl i ps xs, ∃cs,look σ.H p.2.1=some (.box cs)∧p.2.2.1+p.2.2.2≤cs.length
 | [],[],_,_,_,_,_,h=>by
  simp only [Qbb,Oie,Pmi] at h;obtain ⟨_,rfl,rfl⟩:=h;exact ⟨fun o v=>by simp at v,rfl,fun p c=>by simp [bxl] at c⟩
 | k::r,s::ss,_,l1,b1,i,hno,h=>by
  simp only [List.all_cons,Bool.and_eq_true] at hno;simp only [Qbb] at h;split at h
  ·rename_i m a;split at h
   ·rename_i z w;simp only [Oie,Pmi] at h;obtain ⟨_,rfl,rfl⟩:=h;have b:=Qbc (l1:=z.2.1) (b1:=z.2.2) (i:=i+1) hno.2 w;cases k with
    | val t=>
     simp only [argD] at a;split at a
     ·obtain rfl:=Osj a;exact b
     ·cases a
    | fn f ts=>
     have g:m.2.1=[]∧m.2.2=[]:=by
      simp only [argD] at a;split at a
      ·split at a
       ·split at a
        ·obtain rfl:=Osj a; exact ⟨rfl,rfl⟩
        ·cases a
       ·cases a
      ·cases a
     rw [g.1,g.2,List.nil_append,List.nil_append];exact b
    | ptr t=>
     have g:m.2.1=[]∧m.2.2=[]:=by
      simp only [argD] at a;split at a
      ·split at a
       ·obtain rfl:=Osj a; exact ⟨rfl,rfl⟩
       ·cases a
      ·split at a
       ·split at a
        ·obtain rfl:=Osj a; exact ⟨rfl,rfl⟩
        ·cases a
       ·cases a
      ·split at a
       ·obtain ⟨_,a⟩:=Qcz a;obtain ⟨d,hd,a⟩:=Obs a;obtain ⟨d',y,a⟩:=Obs a;obtain rfl:=Osj a; exact ⟨rfl,rfl⟩
       ·cases a
      ·cases a
     rw [g.1,g.2];exact b
    | box ci co=>
     simp only [argD] at a;split at a
     ·rename_i o aa;split at a
      ·rename_i cs u;split at a
       ·rename_i n;split at a
        ·rename_i q l;obtain rfl:=Osj a;have j:=hno.1;simp only [QdP,Bool.and_eq_true] at j;refine ⟨(QhB l j.1).append b.1,by simp only [bxl,List.map_cons,b.2.1]; rfl,fun p c=>?_⟩
         simp only [bxl,List.mem_cons] at c;rcases c with rfl | c
         ·exact ⟨cs,u,n⟩
         ·exact b.2.2 p c
        ·cases a
       ·cases a
      ·cases a
     ·cases a
    | row e t=>
     simp only [argD] at a;split at a
     ·split at a
      ·rename_i q l;obtain rfl:=Osj a;exact ⟨(Qnl l rfl).append b.1,b.2⟩
      ·cases a
     ·cases a
    | agg cs=>
     simp only [argD] at a;split at a
     ·split at a
      ·rename_i q l;obtain rfl:=Osj a;exact ⟨(QhB l hno.1).append b.1,b.2⟩
      ·cases a
     ·cases a
   ·cases h
  ·cases h
 | [],_::_,_,_,_,_,_,h=>by simp [Qbb] at h
 | _::_,[],_,_,_,_,_,h=>by simp [Qbb] at h
theorem QwI {α:Type} {c c':List α} {base L off n:Nat} (hl:c'.length=c.length) (hb:base+L≤c.length) (hn:off+n≤L) (hs: ∀i, ¬(base+off≤i∧i< base+off+n)→c'[i]?=c[i]?):
  (c'.drop base).take L=((c.drop base).take L).take off++(c'.drop (base+off)).take n++((c.drop base).take L).drop (off+n):=by
 apply List.ext_getElem?;intro i;have b:(((c.drop base).take L).take off).length=off:=by simp; omega
 have f:((c'.drop (base+off)).take n).length=n:=by simp; omega
 by_cases d:i< off
 ·rw [List.append_assoc,List.getElem?_append_left (by omega),List.getElem?_take,if_pos (by omega),List.getElem?_take,if_pos d,List.getElem?_take,if_pos (by omega),List.getElem?_drop,List.getElem?_drop]
  exact hs _ (by omega)
 ·by_cases g:i< off+n
  ·rw [List.append_assoc,List.getElem?_append_right (by omega),b,List.getElem?_append_left (by omega),List.getElem?_take,if_pos (by omega),List.getElem?_drop,List.getElem?_take,if_pos (by omega),List.getElem?_drop]
   congr 1; omega
  ·rw [List.getElem?_append_right (by rw [List.length_append]; omega),List.length_append,b,f,List.getElem?_drop,List.getElem?_take,List.getElem?_take]
   have e:off+n+(i-(off+n))=i:=by omega
   rw [e];by_cases a:i< L
   ·rw [if_pos a,if_pos a,List.getElem?_drop,List.getElem?_drop];exact hs _ (by omega)
   ·rw [if_neg a,if_neg a]
end
section
open Go Go.RowKit
variable {P:Program} {T:Tab} {G:Env} {w w' w0:World} {S S' S3 Q Z:Nat→Prop} {M M':Nat→Nat→Prop} {N:Nat→Option (Option (Nat×Nat))} {B:Nat→Option Pl} {a:Act} {σ:St} {β:Qr} {H:Heap} {fr l:List Nat}
variable {o:Oper} {next:Act→World→Prop} {Q':Exit→Act→World→Prop} {R:Type} {K:St→Option R} {y:R}
def QjT (w:World) (β:Qr) (l:List Nat) (bl:List (Nat×Nat×Nat×Nat)) (b i:Nat):Prop:=
 w.heap.size≤b∨b∈blks β l∨ ∃p∈bl, ∃base,β p.2.1=some (b,base)∧base+p.2.2.1≤i∧i< base+p.2.2.1+p.2.2.2
def Qfq (β:Qr) (bl:List (Nat×Nat×Nat×Nat)) (rl:List (Nat×Pl)):List (Nat×Pl):=
 bl.map (fun p=>(p.1,match β p.2.1 with | some q=>Pl.box q.1 (q.2+p.2.2.1) | none=> .row none 0))++rl
structure Hand (Z:Nat→Prop) (M:Nat→Nat→Prop) (N:Nat→Option (Option (Nat×Nat))) (w0:World) (β:Qr) (σ:St) (a:Act) (w:World) (ps:List PK) (xs:List SV) (vs:List Value) (x:denP ps) (l bs:List Nat):Prop where
 rep:RepB Z M N w0 β σ a w
 args:Qbb σ ps xs=some (x,l,bs)
 ln:l.Nodup
 bn:bs.Nodup
 free:QfJ σ.H l bs ps xs=true
 ok:psOk ps=true
 vals:All2 (VV w (RO Z β σ.H) β σ.H) xs vs
 nl:nlAs σ.H ps xs=true
def shown (σ:St) (ps:List PK) (xs:List SV) (l:List Nat):List Nat:=(QbU σ.H ps xs).filter fun o=>!(l.contains o)
section hand
variable {ps:List PK} {xs:List SV} {vs:List Value} {x:denP ps} {bs:List Nat}
theorem Hand.noP (h:Hand Z M N w0 β σ a w ps xs vs x l bs):ps.all QdP=true:=by
 have b:=h.ok;simp only [psOk,Bool.and_eq_true] at b;exact b.2
theorem Hand.out (h:Hand Z M N w0 β σ a w ps xs vs x l bs): ∀o,o∈l→o∉shown σ ps xs l:=by
 intro o c b;simp [shown] at b;exact b.2 c
theorem Hand.live (h:Hand Z M N w0 β σ a w ps xs vs x l bs) {fr:List Nat} (hfr: ∀o,o∈l→o∉fr): ∀o∈l, ∃e t ys,look (frz σ.H fr) o=some (.row e t ys):=by
 intro o b;obtain ⟨e,t,ys,c⟩:=(Qbc (i:=0) h.noP h.args).1 o b;exact ⟨e,t,ys,by rw [QaE (l:=fr) c,if_neg (hfr o b)]⟩
theorem QaC {fr:List Nat} {o:Nat} {cs:List S1} (h:look H o=some (.box cs)):look (frz H fr) o=some (.box cs):=by
 rw [Qaz (by intro e t b a; rw [h] at a; cases a),h]
theorem Hand.box (h:Hand Z M N w0 β σ a w ps xs vs x l bs) {p:Nat×Nat×Nat×Nat} (hp:p∈bxl 0 ps xs): ∃cs b base c e,look σ.H p.2.1=some (.box cs)∧p.2.2.1+p.2.2.2≤cs.length∧β p.2.1=some (b,base)∧
  w.heap[b]?=some (.cells c e (0,0))∧base+cs.length≤c.size∧(∀i,i< cs.length→M b (base+i))∧b< w.heap.size∧p.2.1∈bs:=by
 have j:=Qbc (i:=0) h.noP h.args;obtain ⟨cs,d,k⟩:=j.2.2 p hp;obtain ⟨b,base,c,e,g,m,n,_⟩:=h.rep.obj _ _ d;have:=h.rep.own _ _ b base d rfl g;exact ⟨cs,b,base,c,e,d,k,g,m,n,this.1,this.2,by rw [←j.2.1]; exact List.mem_map_of_mem (f:=fun p:Nat×Nat×Nat×Nat=>p.2.1) hp⟩
theorem QsB {α β:Type} {f:α→β}: ∀{l:List α},(l.map f).Nodup→ ∀{p p':α},p∈l→p'∈l→f p=f p'→p=p'
 | q::r,hn,p,p',hp,hp',e=>by
  simp only [List.map_cons,List.nodup_cons] at hn;rcases List.mem_cons.1 hp with rfl | hp1
  ·rcases List.mem_cons.1 hp' with rfl | hp2
   ·rfl
   ·exact absurd (e▸List.mem_map_of_mem (f:=f) hp2) hn.1
  ·rcases List.mem_cons.1 hp' with rfl | hp2
   ·exact absurd (e▸List.mem_map_of_mem (f:=f) hp1) hn.1
   ·exact QsB hn.2 hp1 hp2 e
theorem Hand.box1 (h:Hand Z M N w0 β σ a w ps xs vs x l bs) {p p':Nat×Nat×Nat×Nat} (hp:p∈bxl 0 ps xs) (hp':p'∈bxl 0 ps xs) (e:p.2.1=p'.2.1):p=p':=
 QsB (f:=fun p:Nat×Nat×Nat×Nat=>p.2.1) (by rw [(Qbc (i:=0) h.noP h.args).2.1]; exact h.bn) hp hp' e
theorem Hand.F (h:Hand Z M N w0 β σ a w ps xs vs x l bs) {b:Nat} (hb:b∈blks β l): ∃o∈l, ∃e t ys p,look σ.H o=some (.row e t ys)∧β o=some p∧foot (.row e t ys) p b∧(∀i,M b i)∧b< w.heap.size:=by
 obtain ⟨o,f,j⟩:=Qbp.1 hb;obtain ⟨e,t,ys,d⟩:=(Qbc (i:=0) h.noP h.args).1 o f;obtain ⟨p,g,c⟩:=Qdo (e:=e) (ys:=ys) j;have:=h.rep.hold o _ p b d rfl g c;exact ⟨o,f,e,t,ys,p,d,g,c,this.1,this.2⟩
theorem Hand.may (h:Hand Z M N w0 β σ a w ps xs vs x l bs): ∀b i,QjT w β l (bxl 0 ps xs) b i→M b i:=by
 intro b i d;rcases d with d | d | ⟨p,hp,base,h1,h2,h3⟩
 ·exact h.rep.fresh b (Nat.le_trans h.rep.below.size d) i
 ·obtain ⟨_,_,_,_,_,_,_,_,_,g,_⟩:=h.F d;exact g i
 ·obtain ⟨n,m,j,c,e,g,o,f,_,_,k,_⟩:=h.box hp;rw [h1] at f;simp only [Oie,Pmi] at f;obtain ⟨rfl,rfl⟩:=f;have:=k (i-base) (by omega)
  rwa [show base+(i-base)=i by omega] at this
theorem Hand.MOwn (h:Hand Z M N w0 β σ a w ps xs vs x l bs) {fr:List Nat} (hfr: ∀o,o∈l→o∉fr) {b i:Nat} (hm:QjT w β l (bxl 0 ps xs) b i) (hb:b< w.heap.size):Own β (frz σ.H fr) b:=by
 rcases hm with hm | hm | ⟨p,d,base,h1,h2,h3⟩
 ·omega
 ·obtain ⟨o,n,j⟩:=Qbp.1 hm;obtain ⟨e,t,ys,m⟩:=h.live hfr o n;obtain ⟨p,d,k⟩:=Qdo (e:=e) (ys:=ys) j;exact ⟨o,_,p,m,rfl,d,k⟩
 ·obtain ⟨r,q,f,c,e,g,_⟩:=h.box d;exact ⟨p.2.1,_,_,QaC g,rfl,h1,Qm⟩
theorem Hand.names (h:Hand Z M N w0 β σ a w ps xs vs x l bs):((Qfq β (bxl 0 ps xs) (rwl β σ.H 0 ps xs)).map (·.1)).Nodup:=by
 have b:=h.ok;simp only [psOk,Bool.and_eq_true] at b;have:=Qap b.1;rw [Qfq,List.map_append,List.map_map];exact this.sublist (Qeg.1.append QdB.1)
theorem Hand.bl_mem (h:Hand Z M N w0 β σ a w ps xs vs x l bs) {p:Nat×Nat×Nat×Nat} (hp:p∈bxl 0 ps xs) {b base:Nat} (hb:β p.2.1=some (b,base)):look (Qfq β (bxl 0 ps xs) (rwl β σ.H 0 ps xs)) p.1=some (.box b (base+p.2.2.1)):=by
 refine Qar (p:=(p.1,Pl.box b (base+p.2.2.1))) h.names ?_;refine List.mem_append_left _ (List.mem_map.2 ⟨p,hp,by simp only [hb]⟩)
theorem Hand.rl_mem (h:Hand Z M N w0 β σ a w ps xs vs x l bs) {p:Nat×Pl} (hp:p∈rwl β σ.H 0 ps xs):look (Qfq β (bxl 0 ps xs) (rwl β σ.H 0 ps xs)) p.1=some p.2:=
 Qar h.names (List.mem_append_right _ hp)
theorem Hand.bl_of (h:Hand Z M N w0 β σ a w ps xs vs x l bs) {o b base:Nat} (ho:look (Qfq β (bxl 0 ps xs) (rwl β σ.H 0 ps xs)) o=some (.box b base)): ∃p∈bxl 0 ps xs, ∃base0,p.1=o∧β p.2.1=some (b,base0)∧base=base0+p.2.2.1:=by
 have d:=QaY ho;rcases List.mem_append.1 d with d | d
 ·obtain ⟨p,i,e⟩:=List.mem_map.1 d;obtain ⟨k,j,f,c,m,r,s,g,_⟩:=h.box i;rw [g] at e;simp only [Pmi,Pl.box.injEq] at e;obtain ⟨rfl,rfl,rfl⟩:=e;exact ⟨p,i,f,rfl,g,rfl⟩
 ·obtain ⟨q,n,e⟩:=QdB.2 _ d;cases e
theorem Hand.pre (h:Hand Z M N w0 β σ a w ps xs vs x l bs):
  Pre (QjT w β l (bxl 0 ps xs)) w ps (RO Z β (frz σ.H (shown σ ps xs l))) (fun b=>b∉blks β l∧ ∀o base,look (Qfq β (bxl 0 ps xs) (rwl β σ.H 0 ps xs)) o≠some (.box b base)) (fun o=>look (Qfq β (bxl 0 ps xs) (rwl β σ.H 0 ps xs)) o) (blks β l):=by
 have al:=h.rep.inj;refine ⟨(h.rep.laid.kept h.rep.below).sub fun p _ i hi=>⟨i,h.may p.1 i hi⟩,fun b g i=> .inl g,?_,fun b g=>⟨fun i=> .inr (.inl g),?_⟩,?_,?_,?_,?_,fun b g=>g⟩
 ·refine QdH (l:=l) ?_ ?_ (fun o j=>j) h.ln
  ·intro o v b j r g au;obtain ⟨e,t,ys,s⟩:=(Qbc (i:=0) h.noP h.args).1 o j;obtain ⟨e',t',az,ay⟩:=(Qbc (i:=0) h.noP h.args).1 v r;obtain ⟨p,d,hf⟩:=Qdo (e:=e) (ys:=ys) g;obtain ⟨p',z,aw⟩:=Qdo (e:=e') (ys:=az) au;exact h.rep.one o v _ _ p p' b s rfl ay rfl d z hf aw
  ·intro o j;obtain ⟨e,t,ys,s⟩:=(Qbc (i:=0) h.noP h.args).1 o j;exact OwnO.nodup (ob:= .row e t ys) (h.rep.obj o _ s)
 ·obtain ⟨_,_,_,_,_,_,_,_,_,_,m⟩:=h.F g;exact m
 ·intro o b base j;obtain ⟨p,d,k,rfl,u,rfl⟩:=h.bl_of j;obtain ⟨cs,b',y,c,e',m,h5,h6,h7,h8,h9,aq,a6⟩:=h.box d;rw [u] at h6;simp only [Oie,Pmi] at h6;obtain ⟨rfl,rfl⟩:=h6;obtain ⟨ci,g1,g2⟩:=Qeg.2 p d;refine ⟨List.mem_map_of_mem (f:=(·.1)) g1,fun g=>?_,aq,fun a4 av i hi=>?_⟩
  ·obtain ⟨v,r,e,t,ys,p',s,hc,hf,_⟩:=h.F g;have:=h.rep.one _ _ _ _ _ p' b m rfl s rfl u hc Qm hf;rw [this,s] at m;cases m
  ·have ag:=h.ok;simp only [psOk,Bool.and_eq_true] at ag;have hn:=Qap ag.1;have af:=(List.nodup_append.1 hn).1;have e1:=Qar af g1;have e2:=Qar af av;simp only at e1 e2;rw [e1] at e2;obtain rfl:=Osj e2;exact .inr (.inr ⟨p,d,k,u,by omega,by omega⟩)
 ·intro o q n j;have hm:=QaY j;rcases List.mem_append.1 hm with hm | hm
  ·obtain ⟨p,d,e⟩:=List.mem_map.1 hm;obtain ⟨cs,b',y,c,e',m,h5,h6,_⟩:=h.box d;rw [h6] at e;simp at e
  ·exact QdB.1.subset (List.mem_map_of_mem (f:=(·.1)) hm)
 ·intro o v b base y j r;obtain ⟨p,d,k,rfl,u,_⟩:=h.bl_of j;obtain ⟨p',z,aa,rfl,ap,_⟩:=h.bl_of r;obtain ⟨cs,_,_,_,_,m,_⟩:=h.box d;obtain ⟨a5,_,_,_,_,ar,_⟩:=h.box z;have:=al _ _ _ _ b k aa m rfl ar rfl u ap;rw [h.box1 d z this]
 ·intro b _ g;refine ⟨fun hF=>?_,fun o base j=>?_⟩
  ·obtain ⟨v,r,hc⟩:=Qbp.1 hF;obtain ⟨e,t,ys,s⟩:=h.live h.out v r;obtain ⟨p,d,hf⟩:=Qdo (e:=e) (ys:=ys) hc;exact g.2 ⟨v,_,p,s,rfl,d,hf⟩
  ·obtain ⟨p,d,k,rfl,u,_⟩:=h.bl_of j;obtain ⟨cs,_,_,_,_,m,_⟩:=h.box d;exact g.2 ⟨p.2.1,_,_,QaC m,rfl,u,Qm⟩
theorem Hand.vals1 (h:Hand Z M N w0 β σ a w ps xs vs x l bs) {fr:List Nat}:All2 (VV w (RO Z β (frz σ.H fr)) β (frz σ.H fr)) xs vs:=
 h.vals.mono fun _ _ b=>h.rep.frzV b fr
theorem Hand.argsR (h:Hand Z M N w0 β σ a w ps xs vs x l bs):
  Qda w (RO Z β (frz σ.H (shown σ ps xs l))) (fun b=>b∉blks β l∧ ∀o base,look (Qfq β (bxl 0 ps xs) (rwl β σ.H 0 ps xs)) o≠some (.box b base)) (fun o=>look (Qfq β (bxl 0 ps xs) (rwl β σ.H 0 ps xs)) o) 0 ps x vs (blks β l):=by
 have hr:=h.rep.frz (shown σ ps xs l);have aa:=h.rep.inj;have ad:=h.ok;simp only [psOk,Bool.and_eq_true] at ad
 have aj: ∀o e t ys b k,look σ.H o=some (.row e t ys)→o∉l→β o=some (b,k)→b∉blks β l:=by
  intro o e t ys b k f j i v;obtain ⟨u,m,e',t',aq,p',r,y,z,_⟩:=h.F v;have:=h.rep.one _ _ _ _ _ p' b f rfl r rfl i y Qm z;exact j (this▸m)
 refine QjQ (S0:=RO Z β σ.H) (fr:=shown σ ps xs l) (l:=l) (bs:=bs) hr.owns h.rep.owns ?_ ?_ h.out ?_ ?_ h.vals1 h.vals h.args (fun o j=>j) (fun o j=>j) h.free ad.2 ?_ ?_ ?_
 ·intro t d cs;refine Qaa fun b _ i=>⟨⟨i.1,fun hO=>i.2 ?_⟩,rfl⟩
  obtain ⟨o,ob,k,g,h2,h3⟩:=hO;by_cases ab: ∃e t ys,look σ.H o=some (.row e t ys)
  ·obtain ⟨e,t,ys,f⟩:=ab;rw [QaE f] at g;by_cases hm:o∈shown σ ps xs l
   ·rw [if_pos hm] at g;have e1:=Osj g;rw [←e1] at h2;cases h2
   ·rw [if_neg hm] at g;have e1:=Osj g;rw [←e1] at h3;exact ⟨o,_,k,f,rfl,h3⟩
  ·rw [Qaz fun e t ys e'=>ab ⟨e,t,ys,e'⟩] at g
   exact ⟨o,ob,k,g,h2,h3⟩
 ·intro b i;refine ⟨fun v=>?_,fun o base j=>?_⟩
  ·obtain ⟨u,m,y⟩:=Qbp.1 v;obtain ⟨e,t,ys,f⟩:=h.live h.out u m;obtain ⟨p,n,z⟩:=Qdo (e:=e) (ys:=ys) y;exact i ⟨u,_,p,f,rfl,n,z⟩
  ·obtain ⟨p,n,q,rfl,g,_⟩:=h.bl_of j;obtain ⟨cs,_,_,_,_,s,_⟩:=h.box n;exact i ⟨p.2.1,_,_,QaC s,rfl,g,Qm⟩
 ·intro o cs b base f j i;refine ⟨fun v=>?_,fun u ac m=>?_⟩
  ·obtain ⟨u,m,e',t',aq,p',r,y,z,_⟩:=h.F v;have:=h.rep.one _ _ _ _ _ p' b f rfl r rfl i y Qm z;rw [this,r] at f;cases f
  ·obtain ⟨p,n,q,rfl,g,_⟩:=h.bl_of m;obtain ⟨al,_,_,_,_,s,_,_,_,_,_,_,h5⟩:=h.box n;have:=aa _ _ _ _ b base q f rfl s rfl i g;exact j (this▸h5)
 ·intro o e t ys b k f j i;refine ⟨aj o e t ys b k f j i,fun u ac m=>?_⟩
  obtain ⟨p,n,q,rfl,g,_⟩:=h.bl_of m;obtain ⟨al,_,_,_,_,s,_⟩:=h.box n;have:=aa _ _ _ _ b k q f rfl s rfl i g;rw [this,s] at f;cases f
 ·refine ⟨h.out,fun o j e t ys f ap=>?_⟩
  simp only [shown,List.mem_filter,List.contains_eq_mem,Bool.not_eq_true',decide_eq_false_iff_not];exact ⟨j,ap⟩
 ·intro p n;obtain ⟨cs,b,base,c,e,_,_,h6,_⟩:=h.box n;exact ⟨b,base,h6,h.bl_mem n h6⟩
 ·intro p n;exact h.rl_mem n
end hand
end
section
open Go Go.RowKit
variable {P:Program} {T:Tab} {G:Env} {w w' w0:World} {Z:Nat→Prop} {M:Nat→Nat→Prop} {N:Nat→Option (Option (Nat×Nat))} {a:Act} {σ:St} {β:Qr} {l:List Nat}
theorem Qjo {α:Type}: ∀{l:List (Nat×α)} {p:Nat×α},p∈l→(look l p.1).isSome=true
 | q::r,p,hp=>by
  obtain ⟨k,z⟩:=q;rw [Qe];split
  ·rfl
  ·rename_i a;rcases List.mem_cons.1 hp with rfl | hp
   ·exact absurd rfl a
   ·exact Qjo hp
theorem QkA: ∀{cs:List CK} {nm:Nat} {x:denC cs},cs.all resC=true→ ∀p∈(mkCs nm cs x).2, ∀c,p.2≠Ob.box c
 | [],_,_,_,p,hp,_=>by simp [mkCs] at hp
 | k::r,nm,x,h,p,hp,c=>by
  simp only [List.all_cons,Bool.and_eq_true] at h;simp only [mkCs,List.mem_append] at hp;rcases hp with hp | hp
  ·cases k <;> simp only [mkC,List.mem_singleton,List.not_mem_nil] at hp <;> first | (exact hp.elim; done) | skip
   all_goals first | (subst hp; intro e; cases e; done) | (simp [resC] at h; done)
  ·exact QkA h.2 p hp c
theorem Qbh {H:Heap}: ∀{ps:List PK} {y:denQ ps} {xs:List SV} {nm:Nat},ps.all QdP=true→ ∀p∈(outA nm H ps y xs).1, ∀c,p.2=Ob.box c→False
 | [],_,_,_,_,p,hp,_,_=>by simp [outA] at hp
 | k::r,y,[],nm,h,p,hp,c,e=>by cases k <;> simp [outA] at hp
 | k::r,y,s::ss,nm,h,p,hp,c,e=>by
  simp only [List.all_cons,Bool.and_eq_true] at h;cases k with
  | val t=>exact Qbh h.2 p hp c e
  | ptr t=>exact Qbh h.2 p hp c e
  | fn f ts=>exact Qbh h.2 p hp c e
  | row e0 t=>exact Qbh (y:=y.2) h.2 p hp c e
  | agg cs=>exact Qbh (y:=y.2) h.2 p hp c e
  | box ci co=>
   simp only [QdP,Bool.and_eq_true] at h;simp only [outA] at hp;split at hp
   ·split at hp
    ·rcases List.mem_append.1 hp with hp | hp
     ·exact QkA h.1.2 p hp c e
     ·exact Qbh (y:=y.2) h.2 p hp c e
    ·exact Qbh (y:=y.2) h.2 p hp c e
   ·exact Qbh (y:=y.2) h.2 p hp c e
theorem Qtd {cn:Con} {xs:List SV} {vs:List Value} {x:denP cn.ps} {bs:List Nat} (h:Hand Z M N w0 β σ a w cn.ps xs vs x l bs)
  {y:denV cn.rs×denQ cn.ps} {v:Value} (hpost:Post (QjT w β l (bxl 0 cn.ps xs)) w (RO Z β (frz σ.H (shown σ cn.ps xs l))) (fun o=>look (Qfq β (bxl 0 cn.ps xs) (rwl β σ.H 0 cn.ps xs)) o) cn vs y v w')
  (hlen:lenQ cn.ps x y.2=true) {nm nm':Nat} (hnew:Qdk σ.H ((mkVs nm cn.rs y.1).2++(outA nm' σ.H cn.ps y.2 xs).1)=true) {dst:Option Nat} (hd:QK dst σ.nt=true):
  Rep Z M N w0 { nt:=σ.nt,env:=Qrf dst (tup (mkVs nm cn.rs y.1).1) σ.env,H:=((mkVs nm cn.rs y.1).2++(outA nm' σ.H cn.ps y.2 xs).1)++((outA nm' σ.H cn.ps y.2 xs).2++(l.map (fun o=>(o,Ob.dead))++frz σ.H (if Qha cn.ps cn.rs then shown σ cn.ps xs l else []))) } (a.put dst v) w':=by
 obtain ⟨al,us,F1,F2,rfl,b5,bb,dm,hF⟩:=hpost;generalize hS:RO Z β (frz σ.H (shown σ cn.ps xs l))=S at b5 bb;generalize bw:(if Qha cn.ps cn.rs then shown σ cn.ps xs l else [])=fr2
 have a2: ∀o,o∈l→o∉fr2:=by
  intro o n;rw [←bw];split
  ·exact h.out o n
  ·simp
 have dq:=h.rep.frz (shown σ cn.ps xs l);have ah:=h.rep.frz fr2
 --where the answer's data lie
 let S3:Nat→Prop:=if Qha cn.ps cn.rs=true then after S (QjT w β l (bxl 0 cn.ps xs)) (fun o=>look (Qfq β (bxl 0 cn.ps xs) (rwl β σ.H 0 cn.ps xs)) o) (F1++F2) else fun _=>False
 have bj:QhG w' (after S (QjT w β l (bxl 0 cn.ps xs)) (fun o=>look (Qfq β (bxl 0 cn.ps xs) (rwl β σ.H 0 cn.ps xs)) o) (F1++F2)) S3 (Qha cn.ps cn.rs):=by
  intro B t d cs hs hr;by_cases e:Qha cn.ps cn.rs=true
  ·simp only [S3,e,if_true]; exact hr
  ·exact Qct (hs (by simpa using e)) hr
 have cz:Qha cn.ps cn.rs=false→cn.rs.any VK.sl=false∧cn.ps.any PK.sl=false:=by
  intro e; simpa [Qha] using e
 have b5:=Qul bj (fun e=>(cz e).1) b5
 have bb:=QeT bj (fun e=>(cz e).2) bb
 obtain ⟨bl,g1,k1⟩:=QkB nm b5;obtain ⟨bm,Fa,Fb,g2,b3,cf,k2⟩:=QdT (nm:=nm') (i:=0) dq.owns h.out h.vals1 h.args (fun o n=>n) hlen (fun p u=>h.rl_mem u) bb
 have g:=g1.append g2;have ba:(F1++(Fa++Fb)).Nodup:=((b3.append_left F1).nodup_iff).1 dm;have cw: ∀b,b∈F1++F2↔b∈F1++(Fa++Fb):=fun b=>(b3.append_left F1).mem_iff
 have c5:(F1++Fa).Nodup:=by rw [←List.append_assoc] at ba; exact (List.nodup_append.1 ba).1
 have c3: ∀b,b∈F1++Fa→b∉Fb:=by
  intro b k s;rw [←List.append_assoc] at ba;exact (List.nodup_append.1 ba).2.2 b k b s rfl
 have bk: ∀b,b∈F1++Fa→b∈F1++F2:=fun b r=>(cw b).2 (by rw [←List.append_assoc]; exact List.mem_append_left _ r)
 have ds: ∀b,b∈Fb→b∈F1++F2:=fun b r=>(cw b).2 (by rw [←List.append_assoc]; exact List.mem_append_right _ r)
 generalize bv:(mkVs nm cn.rs y.1).2++(outA nm' σ.H cn.ps y.2 xs).1=NEW at g hnew⊢;generalize dy:(outA nm' σ.H cn.ps y.2 xs).2=RW at k2 cf⊢;obtain ⟨cp,b2⟩:=QgW hnew
 let β':Qr:=fun o=>match look (bl++bm) o with | some q=>q | none=>β o
 let H':Heap:=NEW++(RW++(l.map (fun o=>(o,Ob.dead))++frz σ.H fr2))
 have ay: ∀p∈bl++bm,β' p.1=p.2:=by
  intro p u;show (match look (bl++bm) p.1 with | some q=>q | none=>β p.1)=p.2
  rw [Qar (by rw [g.names]; exact b2) u]
 have aj: ∀o,(look σ.H o).isSome=true→look NEW o=none∧β' o=β o:=by
  intro o n;have k: ∀p∈NEW,p.1≠o:=fun p u e=>by rw [←e,cp p u] at n; cases n
  refine ⟨Qdz k,?_⟩;show (match look (bl++bm) o with | some q=>q | none=>β o)=β o
  rw [Qdz];intro p u e;have:p.1∈NEW.map (·.1):=by rw [←g.names]; exact List.mem_map_of_mem (f:=(·.1)) u
  obtain ⟨p',bi,e'⟩:=List.mem_map.1 this;exact k p' bi (by rw [e',e])
 have ct: ∀p∈NEW,look H' p.1=some p.2:=by
  intro p u;show look (NEW++_) p.1=_;rw [QC,Qar b2 u]
 have cc: ∀p∈(mkVs nm cn.rs y.1).2,look H' p.1=some p.2:=fun p u=>ct p (by rw [←bv]; exact List.mem_append_left _ u)
 have cd: ∀p∈(outA nm' σ.H cn.ps y.2 xs).1,look H' p.1=some p.2:=fun p u=>ct p (by rw [←bv]; exact List.mem_append_right _ u)
 have b4: ∀p∈RW,QiS w' S3 β σ.H l Fb p∨QlO w' (fun _=>True) β β' σ.H H' (bxl 0 cn.ps xs) bs p:=
  k2 ⟨fun _ _ _ e=>(by cases e),fun _ _ _ e=>(by cases e),fun _ e=>e.elim,Mon.sub fun b _ _=>trivial⟩ cd (fun p u=>ay p (List.mem_append_right _ u))
 have a9: ∀p∈RW,(look σ.H p.1).isSome=true:=by
  intro p u;rcases b4 p u with ⟨e,e0,t,ys,a4,_,_,h3,_⟩ | ⟨cs,nc,a7,b,ai,c',e',pn,k,_⟩
  ·rw [h3]; rfl
  ·rw [k]; rfl
 --what a name is known as
 have au: ∀o m,look H' o=some m→(o,m)∈NEW∨(o,m)∈RW∨(o∈l∧m= .dead)∨(o∉l∧o∉bs∧look (frz σ.H fr2) o=some m):=by
  intro o m n;have n:look (NEW++(RW++(l.map (fun o=>(o,Ob.dead))++frz σ.H fr2))) o=some m:=n
  rw [QC,QC,QC,QiH] at n;split at n
  ·rename_i z hz;obtain rfl:=Osj n;exact .inl (QaY hz)
  ·split at n
   ·rename_i z hz;obtain rfl:=Osj n;exact .inr (.inl (QaY hz))
   ·rename_i hz;by_cases hl:o∈l
    ·rw [if_pos hl] at n;exact .inr (.inr (.inl ⟨hl,(Osj n).symm⟩))
    ·rw [if_neg hl] at n;refine .inr (.inr (.inr ⟨hl,fun r=>?_,n⟩))
     obtain ⟨p,u,e⟩:=cf o r;have:=Qjo u;rw [e] at this;rw [hz] at this;cases this
 have a0: ∀o m,look (frz σ.H fr2) o=some m→(look σ.H o).isSome=true:=by
  intro o m n;rw [←Qho (fr:=fr2),n]; rfl
 have c4:=ah.inj
 --an elder object that was not handed over lies apart
 have ar: ∀o m q b,look (frz σ.H fr2) o=some m→live m=true→β o=some q→foot m q b→o∉l→o∉bs→ ∀i, ¬QjT w β l (bxl 0 cn.ps xs) b i:=by
  intro o m q b n hl r hf k s i hm;have dl:=(ah.hold o m q b n hl r hf).2;rcases hm with hm | hm | ⟨p,u,ai,e1,_⟩
  ·omega
  ·obtain ⟨o',a3,hc⟩:=Qbp.1 hm;obtain ⟨e,t,ys,hk⟩:=h.live a2 o' a3;obtain ⟨p',bi,a1⟩:=Qdo (e:=e) (ys:=ys) hc;exact k (ah.one o o' _ _ q p' b n hl hk rfl r bi hf a1▸a3)
  ·obtain ⟨cs,_,_,_,_,h4,_,_,_,_,_,_,h5⟩:=h.box u;exact s (ah.one o p.2.1 _ _ q _ b n hl (QaC h4) rfl r e1 hf Qm▸h5)
 --who owns what
 have ax: ∀o m q b,look H' o=some m→live m=true→β' o=some q→foot m q b→((o,some q)∈bl++bm∧b∈F1++Fa∧True)∨
   (b∉F1++Fa∧β o=some q∧(∃ak,look (frz σ.H fr2) o=some ak∧live ak=true∧foot ak q b)∧
    ((o∈l∧b∈Fb)∨(∃p∈bxl 0 cn.ps xs,p.2.1=o∧b=q.1)∨(o∉l∧o∉bs∧look (frz σ.H fr2) o=some m))):=by
  intro o m q b n hl r hf;rcases au o m n with hm | hm | ⟨_,e⟩ | ⟨hl1,hb1,hk⟩
  ·left;obtain ⟨q',k,s,h3⟩:=g.mem _ hm;have h4:=ay _ k;simp only at h4 k;rw [r] at h4;rw [←h4] at k s;exact ⟨k,s b (Qbs hf),trivial⟩
  ·right;have hs:=a9 _ hm;rw [(aj o hs).2] at r;rcases b4 _ hm with ⟨e,e0,t,ys,a4,k,s,h3,h4,h5,h6,cr⟩ | ⟨cs,nc,a7,b',ai,c',e',pn,k,s,h3,h4,_,h6,_⟩
   ·simp only at k s h3 h6;subst k;have cv:=h6 b (by rw [r]; exact Qbs hf)
    refine ⟨fun hh=>c3 b hh cv,r,⟨.row e0 t a4,?_,rfl,hf⟩,.inl ⟨s,cv⟩⟩
    rw [QaE (l:=fr2) h3,if_neg (a2 o s)]
   ·simp only at k s h3 h4 h6;subst h4;rw [r] at h6;obtain rfl:=Osj h6;obtain rfl:=Qdf hf;refine ⟨fun hh=>(hF b (bk b hh)).2.2 pn _ (h.bl_mem h3 r),r,⟨.box cs,QaC k,rfl,Qm⟩,.inr (.inl ⟨_,h3,rfl,rfl⟩)⟩
  ·subst e; simp [live] at hl
  ·right;rw [(aj o (a0 o m hk)).2] at r;exact ⟨fun hh=>ar o m q b hk hl r hf hl1 hb1 0 ((hF b (bk b hh)).1 0),r,⟨m,hk,hl,hf⟩,.inr (.inr ⟨hl1,hb1,hk⟩)⟩
 have hk: ∀b,b< w.heap.size→ ¬Own β (frz σ.H fr2) b→ ¬Own β' H' b∧w'.heap[b]?=w.heap[b]? :=by
  intro b r hn;refine ⟨?_,al.block b r fun i hm=>hn (h.MOwn a2 hm r)⟩
  rintro ⟨o,m,q,n,hl,hbo,hf⟩;rcases ax o m q b n hl hbo hf with ⟨_,s,_⟩ | ⟨_,s,⟨ak,h3,h4,h5⟩,_⟩
  ·exact hn (h.MOwn a2 ((hF b (bk b s)).1 0) r)
  ·exact hn ⟨o,ak,q,h3,h4,s,h5⟩
 have dj: ∀b,S3 b→RO Z β' H' b:=by
  intro b r;by_cases e:Qha cn.ps cn.rs=true
  ·simp only [S3,e,if_true] at r;obtain ⟨k,s,h3⟩:=r;rw [if_pos e] at bw;subst bw;refine ⟨?_,?_⟩
   ·rcases k with k | k
    ·rw [←hS] at k; exact k.1
    ·exact h.rep.whole b fun i=>h.may b i (k i)
   ·rintro ⟨o,m,q,n,hl,hbo,hf⟩;rcases ax o m q b n hl hbo hf with ⟨_,h4,_⟩ | ⟨_,h4,⟨ak,h5,h6,df⟩,h7⟩
    ·exact s (bk b h4)
    ·rcases h7 with ⟨_,h7⟩ | ⟨p,u,h7,h8⟩ | ⟨h7,h8,h9⟩
     ·exact s (ds b h7)
     ·subst h7;subst h8;exact h3 p.1 _ (h.bl_mem u h4)
     ·rcases k with k | k
      ·rw [←hS] at k; exact k.2 ⟨o,ak,q,h5,h6,h4,df⟩
      ·exact ar o m q b h9 hl h4 hf h7 h8 0 (k 0)
  ·simp only [S3,e,if_false] at r;exact r.elim
 have bh:Agree S3 (fun _=>False) noB w' (RO Z β' H') β' H':=
  ⟨fun _ _ _ e=>(by cases e),fun _ _ _ e=>(by cases e),fun _ e=>e.elim,Mon.sub fun b _ r=>dj b r⟩
 have dh:=k2 bh cd (fun p u=>ay p (List.mem_append_right _ u))
 have hn: ∀o m,look (frz σ.H fr2) o=some m→Step w w' (RO Z β' H') (β o) m (β' o) (look H' o):=by
  intro o m n;obtain ⟨e1,e2⟩:=aj o (a0 o m n);rw [e2];cases af:look H' o with
  | none=>
   exfalso;have af:look (NEW++(RW++(l.map (fun o=>(o,Ob.dead))++frz σ.H fr2))) o=none:=af
   rw [QC,QC,QC,QiH,e1] at af;simp only at af;split at af
   ·cases af
   ·split at af
    ·cases af
    ·rw [n] at af; cases af
  | some b6=>
   rcases au o b6 af with hm | hm | ⟨_,e⟩ | ⟨hl1,hb1,hk2⟩
   ·rw [Qar b2 hm] at e1; cases e1
   ·rcases b4 _ hm with ⟨e,e0,t,ys,a4,k,s,h3,h4,_,_,cr,dg⟩ | ⟨cs,nc,a7,b',ai,c',e',pn,k,s,h3,h4,_⟩
    ·simp only at k s h3;subst k;rw [QaE (l:=fr2) h3,if_neg (a2 o s)] at n;obtain rfl:=Osj n;exact ⟨e0,a4,rfl,h4,Qdt.refl,fun h=>by rw [Qfl cr]; exact h,fun hl=>by rw [dg (Qow h.args h.nl o s e0 t a4 h3)] at hl; cases hl⟩
    ·simp only at k h4;subst h4;rw [QaC k] at n;obtain rfl:=Osj n;exact ⟨⟨cs,rfl⟩,rfl⟩
   ·subst e; trivial
   ·rw [n] at hk2;obtain rfl:=Osj hk2;exact QaP fun hl p u=>al.block p.1 (ah.hold o m p p.1 n hl u Qm).2 (ar o m p p.1 n hl u Qm hl1 hb1)
 have b1:RepB Z M N w0 β' { { σ with H:=frz σ.H fr2 } with H:=H' } a w':=by
  refine ah.move (h.rep.below.trans al h.may) ?_ hk hn ?_ ?_ ?_ (fun o cs b ai h0 k s=>by
   rcases au o _ k with hm | hm | ⟨_,e⟩ | ⟨_,_,e⟩
   ·obtain ⟨q,g1,g2,g4⟩:=g.mem _ hm;simp only at g1 g4;have h3:=ay _ g1;simp only at h3;rw [s] at h3;subst h3;obtain ⟨_,_,_,e1,_⟩:=g4;cases e1; rfl
   ·have hs:=a9 _ hm;rw [←Qho (fr:=fr2)] at hs;rw [show look (frz σ.H fr2) o=none from h0] at hs
    cases hs
   ·cases e
   ·rw [show look (frz σ.H fr2) o=none from h0] at e; cases e)
  ·intro o q hq hs _;have c0:(look σ.H o).isSome=true:=by rw [←Qho (fr:=fr2)]; exact hs
   refine ⟨by rw [(aj o c0).2]; exact hq,?_⟩
   show (look (NEW++(RW++(l.map (fun o=>(o,Ob.dead))++frz σ.H fr2))) o).isSome=true
   rw [QC,QC,QC,QiH,(aj o c0).1];simp only;split
   ·rfl
   ·split
    ·rfl
    ·exact hs
  ·intro o m q b n hl r hf;rcases ax o m q b n hl r hf with ⟨k,s,_⟩ | ⟨_,s,⟨ak,h3,h4,ca⟩,h5⟩
   ·have:=hF b (bk b s);exact ⟨Qpi fun i=>h.may b i (this.1 i),this.2.1⟩
   ·have bc:=ah.hold o ak q b h3 h4 s ca;refine ⟨?_,Nat.lt_of_lt_of_le bc.2 al.size⟩;rcases au o m n with hm | hm | ⟨_,e⟩ | ⟨_,_,hk2⟩
    ·have:=aj o (a0 o ak h3);rw [Qar b2 hm] at this;cases this.1
    ·rcases b4 _ hm with ⟨e,e0,t,ys,a4,g1,g2,g3,g4,_⟩ | ⟨cs,nc,a7,b',ai,c',e',pn,g1,g2,g3,g4,g5,_⟩
     ·simp only at g1 g2 g3;subst g1;rw [QaE (l:=fr2) g3,if_neg (a2 o g2)] at h3;obtain rfl:=Osj h3;exact bc.1
     ·simp only at g1 g4;subst g4;rw [QaC g1] at h3;obtain rfl:=Osj h3;intro i hi;exact bc.1 i (by simp only [Qgb,List.length_append,List.length_take,List.length_drop] at hi; omega)
    ·subst e; simp [live] at hl
    ·rw [h3] at hk2;obtain rfl:=Osj hk2;exact bc.1
  ·intro o o' m b6 q q' b n hl a3 cx r cu hf a1;rcases ax o m q b n hl r hf with ⟨k,s,_⟩ | ⟨k,s,⟨ak,h3,h4,ca⟩,_⟩
   ·rcases ax o' b6 q' b a3 cx cu a1 with ⟨bf,bz,_⟩ | ⟨bf,_⟩
    ·have:=g.inj c5 _ k _ bf b (Qbs hf) (Qbs a1);exact (Prod.mk.inj this).1
    ·exact absurd s bf
   ·rcases ax o' b6 q' b a3 cx cu a1 with ⟨bf,bz,_⟩ | ⟨bf,bz,⟨d5,dd,de,c1⟩,_⟩
    ·exact absurd bz k
    ·exact ah.one o o' _ _ q q' b h3 h4 dd de s bz ca c1
  ·intro o m n;rcases au o m n with hm | hm | ⟨_,e⟩ | ⟨h7,h8,hk2⟩
   ·obtain ⟨q,k,s,h4⟩:=g.mem _ hm;simp only at k h4;rw [ay _ k];refine h4.or bh.data fun cs hc=>?_
    subst hc;have ao:(o,Ob.box cs)∈(mkVs nm cn.rs y.1).2++(outA nm' σ.H cn.ps y.2 xs).1:=by rw [bv]; exact hm
    rcases List.mem_append.1 ao with ao | ao
    ·have:=(k1 bh cc (fun p u=>ay p (List.mem_append_left _ u))).2 _ ao cs rfl
     rw [ay _ k] at this;exact this
    ·exact (Qbh h.noP _ ao cs rfl).elim
   ·rw [(aj o (a9 _ hm)).2];rcases dh _ hm with ⟨e,e0,t,ys,a4,g1,g2,g3,g4,g5,_⟩ | ⟨cs,nc,a7,b,ai,c',e',pn,g1,g2,g3,g4,g5,g6,g7,g8⟩
    ·simp only at g1 g5;subst g1;exact RowO.mon bh.data g5
    ·simp only at g1 g3 g4 g6;subst g4;obtain ⟨b0,du,c,e,i1,i2,i3,i4⟩:=ah.obj o _ (QaC g1);rw [g6] at i1;simp only [Oie,Pmi] at i1;obtain ⟨rfl,rfl⟩:=i1;obtain ⟨c2,j1,j2,j3⟩:=al.cells _ _ _ _ i2;rw [g7] at j1;simp only [Oie,Obj.cells.injEq] at j1;obtain ⟨rfl,rfl,_⟩:=j1;have cy:(Qgb cs a7 nc).length=cs.length:=by simp [Qgb]; omega
     refine ⟨b,ai,c',e',g6,g7,by rw [cy]; omega,?_⟩
     rw [cy,QwI (c:=c.toList) (c':=c'.toList) (by simpa using j2) (by simpa using i3) g5 ?_]
     ·have ch:=i4.mono (R':=fun x v=>VS w' (RO Z β' H') β' H' x v∧v.oneCell'=true) fun x v hx=>⟨Qed (Qam hk) hk hn hx.1,hx.2⟩
      exact ((ch.take a7).append g8).append (ch.drop _)
     ·intro i hi;rw [Array.getElem?_toList,Array.getElem?_toList];refine j3 i fun ao=>?_
      have dl:=(ah.own o _ b ai (QaC g1) rfl g6).2;rcases ao with ao | ao | ⟨p,u,base1,e1,e2,e3⟩
      ·omega
      ·obtain ⟨o',a3,hc⟩:=Qbp.1 ao;obtain ⟨e4,t,ys,af⟩:=h.live a2 o' a3;obtain ⟨p',bi,a1⟩:=Qdo (e:=e4) (ys:=ys) hc;have:=ah.one o o' _ _ _ p' b (QaC g1) rfl af rfl g6 bi Qm a1;subst this;rw [QaC g1] at af;cases af
      ·obtain ⟨d6,_,_,_,_,h4,_⟩:=h.box u;have:=c4 o p.2.1 _ _ b ai base1 (QaC g1) rfl (QaC h4) rfl g6 e1;have dn:=h.box1 g3 u this;rw [←dn] at e1 e2 e3;simp only at e1 e2 e3;rw [g6] at e1;simp only [Oie,Pmi] at e1;omega
   ·subst e; trivial
   ·rw [(aj o (a0 o m hk2)).2];refine Qdw (Qam hk) hk hn (fun b q r hl hf=>?_) (ah.obj o m hk2)
    exact al.block b (ah.hold o m q b hk2 hl r hf).2 (ar o m q b hk2 hl r hf h7 h8)
 have c6:=Quc (k1 bh cc (fun p u=>ay p (List.mem_append_left _ u))).1
 refine ⟨β',?_⟩;cases dst with
 | none=>exact b1
 | some j=>exact b1.setL (by simpa [QK] using hd) c6
section token
variable {P:Program} {Z:Nat→Prop} {M:Nat→Nat→Prop} {N:Nat→Option (Option (Nat×Nat))} {w0 w:World} {β:Qr} {σ:St} {a:Act} {o:Oper} {next:Act→World→Prop} {Q':Exit→Act→World→Prop}
theorem Qxc {e1:TypeId} (hd:deep e1=false) {t1:Ty} {ys:List (den t1)} {m:List Value} {F:List Nat} (h:Dp w e1 (.slice t1) ys m F):
  ∃q0 v,m=[v]∧RowO w (fun _=>False) e1 t1 ys q0∧RowV q0 ys.length v∧F=blkq q0:=by
 rcases h with ⟨e,a,f⟩ | ⟨b,d,c,i,e,a,f,j,k,g,l,n⟩
 ·exact ⟨none,_,e,.inl ⟨rfl,a⟩,⟨rfl,by rw [a]; rfl⟩,f⟩
 ·exact ⟨some (b,d),_,e,(Qaf hd).2 (.inr ⟨b,d,c,i,rfl,f,j,k,g,l,n⟩),by show _=_; rw [Qay g],by rw [a]; simp [blkq,QaU g]⟩
theorem QxE {e1:TypeId} (hd:deep e1=false) {t1:Ty} (hs:QaR t1=false) {S:Nat→Prop} {ys:List (den t1)} {v:Value} {q0:Option (Nat×Nat)} (h:RowO w S e1 t1 ys q0) (hv:RowV q0 ys.length v):Dp w e1 (.slice t1) ys [v] (blkq q0):=by
 rcases (Qaf hd).1 h with ⟨a,g⟩ | ⟨b,f,c,e,a,i,j,k,d,l,m⟩
 ·subst a;exact .inl ⟨by rw [hv.1],g,rfl⟩
 ·subst a;simp only [RowV] at hv;rw [Qay d] at hv;exact .inr ⟨b,f,c,e,by rw [hv],by simp [blkq,QaU d],i,j,k,d,Qad (fun _ _=>Qct hs) l,m⟩
theorem Qrw {f:FuncId} {b i off:Nat} {e:TypeId} {u t1 t2 t3:Ty} {xs:List (den u)} {F:denP [.row (inn e) t1,.val t2]→Option (denV [.s (.dat t3)]×denQ [.row (inn e) t1,.val t2])}
  (hrep:RepB Z M N w0 β σ a w) (hb:look σ.H b=some (.row e u xs)) {v1 v2:Value} (htok:VS w (RO Z β σ.H) β σ.H (.dp b i off .tok) v1) (hle:lent e=true) (hdp:deep e=true) (hs:QaR t1=false) (hd1:deep (inn e)=false)
  {z z':den u} {ys ys':List (den t1)} {n:den t2} {r:den t3} (hz:xs[i]?=some z) (hsub:sub u z off (.slice t1)=some ys) (hlen:ys'.length=ys.length) (hupd:upd u z off (.slice t1) ys'=some z') (hs3:QaR t3=false)
  (hF:F (ys,n,())=some ((r,()),(ys',()))) (hcall:Qdu P f ⟨[.row (inn e) t1,.val t2],[.s (.dat t3)],F,false⟩) (hv2: ∃cs,Val t2 v2 cs∧Rp w (fun _=>False) t2 n cs)
  (hnext: ∀v w',(∃cs,Val t3 v cs∧Rp w' (fun _=>False) t3 r cs)→RepB Z M N w0 β (σ.put b (.row e u (xs.set i z'))) a w'→next (a.put o.dst v) w'):
  o.upon P a next Q' ((callFunc f [v1,v2].toArray).run P w):=by
 simp only [VS,hb] at htok;obtain ⟨hi,g,al,y,htok⟩:=htok.2 hdp;obtain ⟨c,e',fz,A0,n0,k0,ap,bg,hv⟩:=htok hle;rcases hrep.obj b _ hb with ⟨hq,_⟩ | ⟨g',b2,c',ad,hq,hh,bt,hl,bn,b1,ax,bh,a1,bj⟩
 ·rw [y] at hq; cases hq
 rw [y] at hq;simp only [Oie,Pmi] at hq;obtain ⟨rfl,rfl⟩:=hq;rw [hh] at ap;simp only [Oie,Obj.cells.injEq] at ap;obtain ⟨rfl,_,_⟩:=ap;obtain ⟨F0,be,aq,t⟩:=bj hdp;obtain ⟨A,Fi,C,cc,rfl,ay,a3,hle,bb⟩:=Qiq be hz;obtain ⟨A',Fj,C',p,m,q,rfl,rfl,bo,hm,aw⟩:=Qug hsub ay;obtain ⟨l,v0,rfl,br,a4,rfl⟩:=Qxc hd1 hm;have bq:=QbD ay;simp only [List.length_append,List.length_singleton] at bq
 have bu:v0=v1:=by
  have h1:=a3 off (by omega)
  rw [←ax _ (by omega),bg,List.append_assoc,List.getElem?_append_right (by omega),bo,Nat.sub_self] at h1
  simpa using h1.symm
 subst bu;have af: ∀d∈blkq l,d∈bits al:=fun d k=>t d (by simp [k])
 have a7:=hrep.own b _ g al hb rfl y;have ao: ∀d∈blkq l,(∀i,M d i)∧d< w.heap.size:=fun d k=>hrep.hold b _ _ d hb rfl y (.inr ⟨rfl,af d k⟩)
 have a8:(blkq l).Nodup:=(List.nodup_append.1 (List.nodup_append.1 (List.nodup_append.1 (List.nodup_append.1 aq).1).2.1).1).2.1
 refine hcall (ys,n,()) ((r,()),(ys',())) hF w [v0,v2] (fun _=>False) (fun _=>False) (fun o=>if o=9000100 then some (.row l ys.length) else none) (fun x i=>w.heap.size≤x∨x∈blkq l) (blkq l)
  ⟨(hrep.laid.kept hrep.below).sub fun p _ i hi=>⟨0,hi.elim (fun h=>hrep.fresh p.1 (Nat.le_trans hrep.below.size h) 0) fun h=>(ao p.1 h).1 0⟩,fun b hb i=> .inl hb,a8,fun d k=>⟨fun i=> .inr k,(ao d k).2⟩,fun o b a5 h=>?_,fun o q n h=>?_,fun o o' b a5 bz h=>?_,fun b _ h=>h.elim,fun b h=>h.elim⟩
  ⟨v0,[v2],l,[],rfl,by simp,by simp,br,a4,v2,[],rfl,hv2,rfl,rfl⟩ trivial o a next Q' (fun v w' av=>?_)
 ·split at h <;> cases h
 ·split at h
  ·rename_i e9; subst e9; simp [QbB]
  ·cases h
 ·split at h <;> cases h
 ·obtain ⟨aa,us,F1,F2,bx,bv,a9,b6,cb⟩:=av;obtain ⟨vr,cd,Fa,Fb,rfl,rfl,⟨⟨bd,bc,bp⟩,rfl⟩,rfl,rfl⟩:=bv;obtain ⟨_,_,q2,F3,e5,rfl,ba,⟨n2,hB⟩,b0⟩:=a9;have hB:some (Pl.row l ys.length)=some (.row q2 n2):=hB;simp only [Oie,Pl.row.injEq] at hB;obtain ⟨rfl,_⟩:=hB;have bw:v=vr:=bx;subst bw;have s: ∀d,d< w.heap.size→d∉blkq l→w'.heap[d]?=w.heap[d]? :=fun d h1 k=>aa.block d h1 fun i hm=>hm.elim (fun h=>by omega) k
  have az:w'.heap[g]?=w.heap[g]? :=s g a7.2 fun h=>a1 (af g h)
  have bi:=QxE hd1 hs ba (v:=v0) (by rw [hlen]; exact a4)
  have a6: ∀d,d∈A++(A'++blkq l++C')++C→d< w.heap.size:=fun d k=>(hrep.hold b _ _ d hb rfl y (.inr ⟨rfl,t d k⟩)).2
  have au: ∀d,d∈A++A'++C'++C→d∉blkq l:=by
   intro d k h3
   have hp:(A++(A'++blkq l++C')++C).Perm (blkq l++(A++A'++C'++C)):=by
    simp only [List.append_assoc];refine ((List.perm_append_comm_assoc A' (blkq l) _).append_left A).trans ?_;exact List.perm_append_comm_assoc _ _ _
   exact (List.nodup_append.1 (hp.nodup_iff.1 aq)).2.2 d h3 d k rfl
  have a0: ∀d,d∈A++A'++C'++C→w'.heap[d]?=w.heap[d]? :=fun d k=>s d (a6 d (by simp only [List.mem_append] at k⊢; rcases k with ((h | h) | h) | h <;> simp [h])) (au d k)
  have bf:=aw w' ys' z' _ hupd (fun d k=>a0 d (by rcases List.mem_append.1 k with h | h <;> simp [h])) bi
  have am:=bb w' z' _ _ (fun d k=>a0 d (by rcases List.mem_append.1 k with h | h <;> simp [h])) bf
  have bs:ad.take (i*sz u)++(p++[v0]++q)++ad.drop (i*sz u+sz u)=ad:=by
   apply List.ext_getElem?;intro j;have ac:(p++[v0]++q).length=sz u:=by simp only [List.length_append,List.length_singleton]; omega
   by_cases h1:j< i*sz u
   ·rw [List.append_assoc,List.getElem?_append_left (by simp; omega),List.getElem?_take,if_pos h1]
   ·by_cases k:j< i*sz u+sz u
    ·have h3:=a3 (j-i*sz u) (by omega)
     rw [show i*sz u+(j-i*sz u)=j by omega] at h3
     rw [List.getElem?_append_left (by rw [List.length_append,ac]; simp; omega),List.getElem?_append_right (by simp; omega),h3,List.length_take,Nat.min_eq_left (by omega)]
    ·rw [List.getElem?_append_right (by rw [List.length_append,ac]; simp; omega),List.length_append,ac,List.length_take,Nat.min_eq_left (by omega),List.getElem?_drop]
     congr 1; omega
  rw [bs] at am;refine hnext v w' ⟨bd,bc,Qct hs3 bp⟩ ?_;refine hrep.turnG hb rfl rfl y (fun _=>⟨e,xs,rfl,by simp,Qdt.refl,id,fun bm=>⟨bm,HdrS.same fun p2 a2=>?_⟩⟩) (fun x hf=>(hrep.hold b _ _ x hb rfl y hf).1) (fun _=>Iff.rfl) (hrep.below.trans aa fun x i hm=>?_) aa.size (fun x h1 k=>s x h1 fun h3=>k (.inr ⟨rfl,af x h3⟩)) (fun S'=>?_)
  ·rw [y] at a2;obtain rfl:=Osj a2;exact az
  ·rcases hm with hm | hm
   ·exact hrep.fresh x (Nat.le_trans hrep.below.size hm) i
   ·exact (ao x hm).1 i
  ·rw [y];exact .inr ⟨g,al,_,ad,rfl,by rw [az]; exact hh,bt,by simpa using hl,bn,Qfu (fun d k=> .inr (t d k)) am,ax,bh,a1,fun _=>⟨_,am,aq,t⟩⟩
end token
end
section
open Go Go.RowKit
variable {P:Program} {T:Tab} {G:Env} {w w' w0:World} {Z:Nat→Prop} {M:Nat→Nat→Prop} {N:Nat→Option (Option (Nat×Nat))} {a:Act} {σ:St} {β:Qr} {l:List Nat}
variable {o:Oper} {next:Act→World→Prop} {Q:Exit→Act→World→Prop} {R:Type} {K:St→Option R} {y:R} {qo:Out}
theorem Qek (hT:QR P T=true): ∀{T':Tab},(∀p∈T',p∈T)→ ∀{m t k:TypeId},Qky T' m=some (t,k)→
  P.underlying m=some (.map k t)∧(∃r i d,RowOk P T t r i d (.bool false))∧ ∃q,look T k=some q∧q.ty= .int .i64
 | [],_,m,t,k,h=>by simp [Qky] at h
 | (t',r)::l,hm,m,t,k,h=>by
  simp only [Qky] at h;split at h
  ·rename_i hty;split at h
   ·rename_i k' hk;simp only [Oie,Pmi] at h;obtain ⟨rfl,rfl⟩:=h;obtain ⟨i,d,z,b⟩:=Qst hT (hm (t',r) (by simp))
    have a:=b.maps;unfold Qvd at a;rw [hty] at a;have:=List.all_eq_true.1 a _ (QaY hk);simp only [Bool.and_eq_true] at this;obtain ⟨⟨c,g⟩,f⟩:=this
    have s:z= .bool false:=by
     rw [b.info] at f;simp only [b.zero] at f;split at f
     ·rename_i e;simp only [Oie] at e;subst e;simpa using f
     ·cases f
    subst s;refine ⟨?_,⟨r,i,d,b⟩,?_⟩
    ·split at c
     ·rename_i o;simp only [Bool.and_eq_true,decide_eq_true_eq] at c;rw [o,c.1,c.2]
     ·cases c
    ·split at g
     ·rename_i q n;exact ⟨q,n,by simpa using g⟩
     ·cases g
   ·exact Qek hT (fun p j=>hm p (by simp [j])) h
  ·exact Qek hT (fun p j=>hm p (by simp [j])) h
def QhN:List (Int×Bool)→Int→Nat→Option (Nat×Value)
 | [],_,_=>none
 | p::r,n,i=>if p.1=n then some (i,.bool p.2) else QhN r n (i+1)
theorem Qiz {kind:TypeDesc} (hk: ∃k,kind= .int k) {n:Int}: ∀{es:List MapEntry} {xs:List (Int×Bool)} {i:Nat},es.map (fun e=>(e.key,e.val))=xs.map (fun p=>(Value.int .i64 p.1,Value.bool p.2))→
  Instr.findNow kind (.int .i64 n) es i=some (QhN xs n i)
 | [],[],_,_=>rfl
 | [],_::_,_,h=>by simp at h
 | _::_,[],_,h=>by simp at h
 | e::es,p::xs,i,h=>by
  obtain ⟨k,rfl⟩:=hk;simp only [List.map_cons,List.cons.injEq,Pmi] at h;obtain ⟨⟨b,c⟩,d⟩:=h;have f:=Qiz (kind:= .int k) ⟨k,rfl⟩ (n:=n) (i:=i+1) d;simp only [Instr.findNow,b,Instr.sameNow,if_true,QhN];by_cases a:p.1=n
  ·simp [a,c]
  ·have:(n==p.1)=false:=by simpa using fun h=>a h.symm
   simp [this,f,a]
theorem Qmk: ∀{xs:List (Int×Bool)} {n:Int} {i:Nat},(match QhN xs n i with | some q=>q.2 | none=>Value.bool false)= .bool (getM xs n)
 | [],_,_=>rfl
 | p::r,n,i=>by
  simp only [QhN,getM];by_cases e:p.1=n
  ·simp [e]
  ·simp only [if_neg e]; exact Qmk
theorem Qml {y:Bool}: ∀{xs:List (Int×Bool)} {n:Int} {i:Nat},match QhN xs n i with
  | some q=> ∃j,q.1=i+j∧j< xs.length∧setM xs n y=xs.set j (n,y)∧(xs[j]?).map (·.1)=some n
  | none=>setM xs n y=xs++[(n,y)]
 | [],_,_=>rfl
 | p::r,n,i=>by
  simp only [QhN,setM];by_cases e:p.1=n
  ·simp only [if_pos e];exact ⟨0,rfl,by simp,by simp,by simp [e]⟩
  ·simp only [if_neg e];have ih:=Qml (y:=y) (xs:=r) (n:=n) (i:=i+1);split at ih
   ·rename_i q c;obtain ⟨j,d,f,a,b⟩:=ih;exact ⟨j+1,by omega,by simp; omega,by simp [a],by simpa using b⟩
   ·rename_i c;rw [ih]; rfl
theorem QuU (hk:Kept M w0 w) {g:Nat} {es:Array MapEntry} {clock:Nat} (hh:w.heap[g]?=some (.map es clock)) (hM: ∀i,M g i) {ob:Obj}:Kept M w0 { w with heap:=w.heap.setIfInBounds g ob } where
 os:=hk.os
 tape:=hk.tape
 output:=hk.output
 size:=by simpa using hk.size
 block:=by
  intro b d h;by_cases e:b=g
  ·subst e; exact absurd (hM 0) (h 0)
  ·rw [(MapKept.heap_set hh).2 b e]; exact hk.block b d h
 cells:=by
  intro b c e k d;obtain ⟨j,a,l⟩:=hk.cells b c e k d;by_cases f:b=g
  ·subst f; rw [hh] at a; cases a
  ·exact ⟨j,by rw [(MapKept.heap_set hh).2 b f]; exact a,l⟩
theorem QqU (hrep:RepB Z M N w0 β σ a w) (hd:QK o.dst σ.nt=true) (hg:GoP Z M N w0 σ o qo next) {t:TypeId} {r:Option Operand} (ho:o.op= .makeMap t r)
  (h:QI T o σ=some qo):o.wp P a w next Q:=by
 unfold QI Qal at h;rw [ho] at h;simp only at h;split at h
 ·rename_i j f;split at h
  ·rename_i k;obtain rfl:=(Osj h).symm;unfold GoP at hg;rw [f] at hd hg;refine QD (v:= .map (some w.heap.size)) (w':=w.alloc (.map #[] 0)) ?_ ?_
   ·unfold execOp;rw [ho];simp [Instr.makeMap]
   ·rw [f];have c:=MapKept.heap_alloc w (.map #[] 0)
    have l:(w.alloc (.map #[] 0)).heap.size=w.heap.size+1:=by
     rw [show (w.alloc (.map #[] 0)).heap=w.heap.push (.map #[] 0) from rfl]; simp
    refine hg _ _ ⟨β.put j (some (w.heap.size,0)),?_⟩
    have d:=hrep.new (ob:= .map []) (q:=some (w.heap.size,0)) k (hrep.below.alloc _) c.2 (by omega) (fun b p e _ g=>by
     obtain rfl:=Osj e;rw [QoL g]; omega) (fun n s m _ _=>⟨w.heap.size,0, #[],0,rfl,c.1,rfl,Nat.zero_le _⟩)
    have:=d.set (i:=j) (y:= .s (.mp j)) (v:= .map (some w.heap.size)) (by show j< σ.nt; simpa [QK] using hd) ((VV_s (by intros; simp)).2 (by
     simp only [VS,St.put,Qe,if_true];exact ⟨w.heap.size,0,Qx,rfl⟩))
    exact this
  ·cases h
 ·cases h
theorem QtD (hT:QR P T=true) (hrep:RepB Z M N w0 β σ a w) (hd:QK o.dst σ.nt=true) (hg:GoP Z M N w0 σ o qo next) {t:TypeId} {m x:Operand} {ok:Bool} (ho:o.op= .lookup t m x ok)
  (h:QI T o σ=some qo):o.wp P a w next Q:=by
 unfold QI Qal at h;rw [ho] at h;simp only at h;split at h
 ·rename_i tk b n ai hm hx;split at h
  ·rename_i k hb;obtain rfl:=Qq h;obtain ⟨hu,⟨r,i,d,s⟩,q,hq,ah⟩:=Qek hT (fun p hp=>hp) ai
   obtain ⟨i2,y,z2,f⟩:=Qz hT hq;have e1:a.eval x= .int .i64 n:=Qbx (Qf hrep hx);have z:VS w (RO Z β σ.H) β σ.H (.mp b) (a.eval m):=(VV_s (by intros; simp)).1 (Qf hrep hm)
   simp only [VS,hb] at z;obtain ⟨g,al,af,hv⟩:=z;obtain ⟨g',aj,u,ak,j,hh,l,ao⟩:=hrep.obj b _ hb;rw [af] at j;simp only [Oie,Pmi] at j;obtain ⟨rfl,rfl⟩:=j
   have ac:y= .int .i64:=by
    have:=f.desc;unfold QaW at this;rw [ah] at this;cases y <;> first | (simp at this; done) | (have e:=of_decide_eq_true this; subst e; rfl)
   subst ac;have ae:=MapKept.run_findKey (w:=w) f.under (Qiz (n:=n) (i:=0) ⟨.i64,rfl⟩ l);have ab:(Instr.checkKey u.isEmpty 10000 tk.2 (.int .i64 n)).run P w= .ok () w:=MapKept.run_checkKey f.under (by simp [MapKept.IsKey]) _ 9999
   refine QD (v:= .bool (getM k n)) (w':=w) ?_ (hg _ _ ⟨β,hrep.val hd (Qbk ⟨rfl,rfl⟩)⟩);unfold execOp;rw [ho];simp only [e1,hv]
   have ag:(Instr.lookup t (.map (some g)) (.int .i64 n) false).run P w= .ok (.bool (getM k n)) w:=by
    have c:=Qmk (xs:=k) (n:=n) (i:=0);simp only [Instr.lookup,Sem.run_bind,run_underlying hu,Result.andThen_ok,MapKept.run_getObj_map hh,Sem.run_pure,ab,ae];cases hf:QhN k n 0 with
    | none=>rw [hf] at c; simp only at c; simp [s.run_zero,c]
    | some q=>rw [hf] at c; simp only at c; simp [c]
   simp [ag]
  ·cases h
 ·cases h
theorem QnT {nm:Nat} (hT:QR P T=true) (hrep:RepB Z M N w0 β σ a w) (hg:GoOn Z M N w0 σ K y next) {t:TypeId} {m x v:Operand} (ho:o.op= .mapUpdate t m x v)
  (h:opR T G nm o σ K=some y):o.wp P a w next Q:=by
 unfold opR at h;rw [ho] at h;simp only at h;split at h
 ·rename_i tk b n yv a0 bd hm hx bf;split at h
  ·rename_i es hb;obtain ⟨hu,⟨r,i,d,bm⟩,q,hq,bb⟩:=Qek hT (fun p hp=>hp) bd
   obtain ⟨i2,d2,z2,ab⟩:=Qz hT hq;have e1:a.eval x= .int .i64 n:=Qbx (Qf hrep hx);have e3:a.eval v= .bool yv:=Qee (Qf hrep bf);have e2:VS w (RO Z β σ.H) β σ.H (.mp b) (a.eval m):=(VV_s (by intros; simp)).1 (Qf hrep hm)
   simp only [VS,hb] at e2;obtain ⟨g,ai,ad,hv⟩:=e2;obtain ⟨g',bg,s,aa,al,hh,u,az⟩:=hrep.obj b _ hb;rw [ad] at al;simp only [Oie,Pmi] at al;obtain ⟨rfl,rfl⟩:=al
   have a8:d2= .int .i64:=by
    have:=ab.desc;unfold QaW at this;rw [bb] at this;cases d2 <;> first | (simp at this; done) | (have e:=of_decide_eq_true this; subst e; rfl)
   subst a8;have ac:=MapKept.run_findKey (w:=w) ab.under (Qiz (n:=n) (i:=0) ⟨.i64,rfl⟩ u);have au:(Instr.checkKey false 10000 tk.2 (.int .i64 n)).run P w= .ok () w:=MapKept.run_checkKey ab.under (by simp [MapKept.IsKey]) _ 9999
   have ak:=(hrep.own b _ g ai hb rfl ad).1;have ay: ∀i,M g i:=ak;have aj:s.toList.length=es.length:=by have:=congrArg List.length u; simpa using this
   have done: ∀(f:Array MapEntry) (c:Nat),(Instr.mapUpdate t (.map (some g)) (.int .i64 n) (.bool yv)).run P w= .ok () { w with heap:=w.heap.setIfInBounds g (.map f c) }→
     f.toList.map (fun e=>(e.key,e.val))=(setM es n yv).map (fun p=>(Value.int .i64 p.1,Value.bool p.2))→o.wp P a w next Q:=by
    intro f c a2 am;refine QeP (w':={ w with heap:=w.heap.setIfInBounds g (.map f c) }) ?_ (hg _ h rfl _ _ ⟨β,?_⟩)
    ·unfold execOp;rw [ho];simp [e1,e3,hv,a2]
    ·rw [a0];have hs:=MapKept.heap_set (o':= .map f c) hh;exact hrep.turn hb rfl rfl ad (fun _=>⟨⟨es,rfl⟩,rfl⟩) (fun b' hf=>by rw [QoL hf]; exact ak) (fun _=>Iff.rfl) (QuU hrep.below hh ay) (by simp) (fun b' a7=>hs.2 b' fun e=>a7 (.inl e)) (fun S' H' _ _=>⟨g,ai,f,c,ad,hs.1,am,az⟩)
   have z:=Qml (y:=yv) (xs:=es) (n:=n) (i:=0);cases hf:QhN es n 0 with
   | none=>
    rw [hf] at z ac;simp only at z;refine done (s.push { key:= .int .i64 n,val:= .bool yv,born:=aa }) (aa+1) ?_ (by rw [z]; simp [u])
    simp [Instr.mapUpdate,run_underlying hu,MapKept.run_getObj_map hh,au,ac,MapKept.run_setObj_map _ hh,Result.andThen]
   | some q=>
    rw [hf] at z ac;simp only [Nat.zero_add] at z;obtain ⟨j,h1,h2,h3,h4⟩:=z;have ae:j< s.size:=by rw [←Array.length_toList,aj]; exact h2
    obtain ⟨p,hp⟩: ∃p,es[j]?=some p:=⟨_,List.getElem?_eq_getElem h2⟩;have ba:p.1=n:=by rw [hp] at h4; simpa using h4
    have a9:(s[j]).key= .int .i64 n:=by
     have:=congrArg (fun l=>l[j]?) u
     simp only [List.getElem?_map,hp,Option.map_some,Array.getElem?_toList,Array.getElem?_eq_getElem ae,Oie,Pmi] at this;rw [this.1,ba]
    refine done (s.modify j fun e=>{ e with key:= .int .i64 n,val:= .bool yv }) aa ?_ ?_
    ·have ar:(Instr.keyThatStays (.int .i64 n) (.int .i64 n)).run P w= .ok (.int .i64 n) w:=by
      simp [Instr.keyThatStays,Instr.sameBits]
     have av:(Instr.keyThatStays (((s[q.1]?).map (·.key)).getD (.int .i64 n)) (.int .i64 n)).run P w= .ok (.int .i64 n) w:=by
      rw [h1,Array.getElem?_eq_getElem ae];simp only [Option.map_some,Option.getD_some,a9];exact ar
     obtain ⟨q1,q2⟩:=q;simp only at h1 av;simp only [Instr.mapUpdate,Sem.run_bind,run_underlying hu,Result.andThen_ok,MapKept.run_getObj_map hh,au,ac,av,MapKept.run_setObj_map _ hh];rw [h1]
    ·rw [h3,Array.toList_modify,List.map_set, ←u];apply List.ext_getElem?;intro k;simp only [List.getElem?_map,List.getElem?_modify,List.getElem?_set];by_cases e:j=k
     ·subst e;have a1:j< s.toList.length:=by rw [aj]; exact h2
      simp [a1];rw [if_pos ae,Array.getElem?_eq_getElem ae];simp
     ·simp [e]
  ·cases h
 ·cases h
end
section
open Go Go.RowKit
variable {P:Program} {T:Tab} {G:Env} {w w' w0:World} {Z:Nat→Prop} {M:Nat→Nat→Prop} {N:Nat→Option (Option (Nat×Nat))} {a:Act} {σ:St} {β:Qr} {l:List Nat}
variable {o:Oper} {next:Act→World→Prop} {Q:Exit→Act→World→Prop} {R:Type} {K:St→Option R} {y:R} {qo:Out}
theorem QqP {S:Nat→Prop} {H:Heap} {b:Bool} {xs:List SV} {vs:List Value} (h:nlOk b xs=true) (hv:All2 (VV w S β H) xs vs):nlV b vs:=by
 cases b with
 | false=>trivial
 | true=>
  cases hv with
  | nil=>simp [nlOk] at h
  | cons a _=>
   rename_i x v _ _ _;cases x with
   | g _=>simp [nlOk] at h
   | s c=>
    cases c <;> first | (simp [nlOk] at h; done) | skip
    obtain rfl:v=Value.slice none 0 0:=a;exact ⟨_,rfl⟩
theorem Qnd {l:List Cap} {xs:List SV} {q:Nat×Nat×Nat×SV} (h:tokA l xs=some q):l=[]∧xs=[.s (.dp q.1 q.2.1 q.2.2.1 .tok),q.2.2.2]:=by
 unfold tokA at h;split at h
 ·obtain rfl:=Osj h;exact ⟨rfl,rfl⟩
 ·cases h
theorem QoE (hG:Qci P G) (hrep:RepB Z M N w0 β σ a w) (hd:QK o.dst σ.nt=true) (hg:GoOn Z M N w0 σ K y next) {g:FuncId} {cn:Con} (hcn:(g,cn)∈G) {b i off:Nat} {y2:SV} {v1 v2:Value}
  (htok:VS w (RO Z β σ.H) β σ.H (.dp b i off .tok) v1) (hv2:VV w (RO Z β σ.H) β σ.H y2 v2) (h:QgR cn b i off y2 o.dst σ K=some y):o.upon P a next Q ((callFunc g [v1,v2].toArray).run P w):=by
 unfold QgR at h;split at h
 ·rename_i e1 t1 t2 t3 F;split at h
  ·rename_i e u xs hb;split at h
   ·rename_i hc;obtain ⟨⟨⟨rfl,k⟩,m,l⟩,x,h2,j⟩:=hc;obtain ⟨n,hn,h⟩:=Obs h;obtain ⟨z,hz,h⟩:=Obs h;obtain ⟨ys,q,h⟩:=Obs h;obtain ⟨⟨⟨r,u1⟩,ak,u2⟩,hF,h⟩:=Obs h;obtain ⟨z',s,h⟩:=Obs h;split at h
    ·rename_i c;obtain ⟨t,hv,hr⟩:=Qbv hrep.owns (S':=RO Z β σ.H) (fun _ _ _ h=>h) (fun h=>by cases h) hv2 hn
     refine Qrw hrep hb htok m l x k hz q c s j hF (hG _ hcn) ⟨t,hv,Qct h2 hr⟩ fun v w' d p=>?_
     obtain ⟨f,h4,h5⟩:=d;refine hg _ h (by rw [QgF]; rfl) _ _ ⟨β,p.sets hd ⟨f,h4,Qct j h5⟩⟩
    ·cases h
   ·cases h
  ·cases h
 ·cases h
theorem Qwt {nm:Nat} (hG:Qci P G) (hrep:RepB Z M N w0 β σ a w) (hd:QK o.dst σ.nt=true) (hg:GoOn Z M N w0 σ K y next) {c:Call} (ho:o.op= .call c) {f:Operand} (hc:c.callee= .value f)
  (h:opR T G nm o σ K=some y):o.wp P a w next Q:=by
 unfold opR at h;rw [ho] at h;simp only [hc] at h;split at h
 ·rename_i g i af hf p;obtain ⟨d,t,z⟩: ∃d:List Value,a.eval f= .func (.func g) #[] d.toArray∧All2 (PR w (RO Z β σ.H) β σ.H) i d:=(VV_s (by intros; simp)).1 (Qf hrep hf)
  have ab: ∀{i:List Cap} {d:List Value},All2 (PR w (RO Z β σ.H) β σ.H) i d→All2 (VV w (RO Z β σ.H) β σ.H) (i.map fun c=> .s (capS c)) d:=fun {i d} h=>by
   induction h with
   | nil=>exact .nil
   | @cons c u _ _ h1 _ ih=>exact .cons (by cases c <;> exact h1) ih
  split at h
  ·rename_i q0 x;obtain ⟨rfl,rfl⟩:=Qnd x;split at h
   ·rename_i r m;have k:=QjF hrep p;cases z;generalize ae:c.args.toList.map a.eval=vl at k
    match vl,k with
    | [v1,v2],.cons h1 (.cons h2 .nil)=>
     have e:(execOp a.eval o).run P w=(callFunc g [v1,v2].toArray).run P w:=by
      have e1:Array.map a.eval c.args++[].toArray=[v1,v2].toArray:=by
       rw [←Array.toList_inj]; simp [ae]
      unfold execOp;rw [ho];simp [resolve,hc,t,Deferred.ofValue,invoke,e1]
     unfold Oper.wp;rw [e];exact QoE hG hrep hd hg (QiG m) h1 h2 h
   ·cases h
  rename_i x;have n:=(QjF hrep p).append (ab z);revert h;generalize (af++i.map fun c=>SV.s (capS c))=xs at n⊢
  intro h;split at h
  ·rename_i r m;unfold QjU at h;obtain ⟨q,hq,h⟩:=Obs h;split at h
   ·rename_i l;obtain ⟨yy,hy,h⟩:=Obs h;simp only at h;split at h
    ·rename_i b;simp only [Bool.and_eq_true] at l b;obtain ⟨⟨⟨⟨⟨c0,c1⟩,c2⟩,c3⟩,c4⟩,c5⟩:=l
     let j:=c.args.toList.map a.eval++d
     have hh:Hand Z M N w0 β σ a w r.ps xs j q.1 q.2.1 q.2.2:=⟨hrep,hq,Qap c1,Qap c2,c3,c4,n,c5⟩
     have e:(execOp a.eval o).run P w=(callFunc g j.toArray).run P w:=by
      have e1:Array.map a.eval c.args++d.toArray=j.toArray:=by
       rw [←Array.toList_inj]; simp [j]
      unfold execOp;rw [ho];simp [resolve,hc,t,Deferred.ofValue,invoke,e1]
     unfold Oper.wp;rw [e];have ad:nlV r.nl j:=QqP c0 n;refine hG (g,r) (QiG m) q.1 yy hy w j _ _ _ _ _ hh.pre hh.argsR ad o a next Q fun v w' s=>?_
     exact hg _ h rfl _ _ (Qtd hh s b.1 b.2 hd)
    ·cases h
   ·cases h
  ·cases h
 ·cases h
theorem Qpe {p:Prop} [Decidable p] {α γ:Type} {x z:Option α} {f:α→Option γ}:(if p then x else z).bind f=if p then x.bind f else z.bind f:=by split <;> rfl
theorem QdV {K:Out→Option R}:Qal T o σ K=(QI T o σ).bind K:=by
 unfold QI Qal;simp only [Qis]
 split <;> (repeat' split) <;> first | rfl | (simp only [kv,Option.bind_assoc,Qpe,Obn,Option.bind_none]; done) |
  (rw [Option.bind_assoc]; congr 1; funext v; split <;> first | rfl | (simp only [Option.bind_assoc,Qpe,Obn,Option.bind_none]; done))
theorem Qin {S:Nat→Prop} {H:Heap}: ∀{vs:List SV} {l:List Cap} {us:List Value},All2 (VV w S β H) vs us→mapO QvL vs=some l→All2 (PR w S β H) l us
 | [],_,_,.nil,h=>by
  simp only [mapO,Oie] at h;subst h; exact .nil
 | x::r,_,_,.cons h1 h2,h=>by
  simp only [mapO] at h;split at h
  ·rename_i y hy;split at h
   ·rename_i z hz;obtain rfl:=Osj h;refine .cons ?_ (Qin h2 hz);unfold QvL at hy;split at hy
    ·obtain rfl:=Osj hy; exact h1
    ·obtain rfl:=Osj hy; exact h1
    ·cases hy
   ·cases h
  ·cases h
theorem Qpl (hrep:RepB Z M N w0 β σ a w) (hd:QK o.dst σ.nt=true) (hg:GoP Z M N w0 σ o qo next) {fn:Fn} {first caps:Array Operand} (ho:o.op= .makeFunc fn first caps)
  (h:QI T o σ=some qo):o.wp P a w next Q:=by
 unfold QI Qal at h;rw [ho] at h;simp only at h;split at h
 ·rename_i f i d e;split at h
  ·rename_i l g;obtain rfl:=Qq h;have b:=Qin (QjF hrep e) g
   have c:first= #[]:=by
    apply Array.ext'; simpa using d
   refine QD (v:= .func (.func f) #[] (caps.map a.eval)) (w':=w) ?_ (hg _ _ ⟨β,hrep.val hd ?_⟩)
   ·unfold execOp;rw [ho,c];simp [Instr.makeFunc]
   ·refine (VV_s (by intros; simp)).2 ⟨_,?_,b⟩
    congr 1;apply Array.ext';simp
  ·cases h
 ·cases h
theorem Qpt (hT:QR P T=true) (hrep:RepB Z M N w0 β σ a w) (hd:QK o.dst σ.nt=true) (hg:GoP Z M N w0 σ o qo next) (h:QI T o σ=some qo):o.wp P a w next Q:=by
 cases d:o.op with
 | move x=>exact Qsd hrep hd hg (.inl d) (by unfold QI Qal at h; rw [d] at h; exact h)
 | assign x=>exact Qsd hrep hd hg (.inr d) (by unfold QI Qal at h; rw [d] at h; exact h)
 | pick c x z=>exact Qww hrep hd hg d h
 | alloc t=>exact Qvm hT hrep hd hg d h
 | box t x=>exact Qxx hT hrep hd hg d h
 | build t i=>exact Qvo hT hrep hd hg d h
 | buildSlice t n i=>exact QlD hT hrep hd hg d h
 | load t x=>exact Qwv hT hrep hd hg d h
 | nilCheck x=>exact Qpm hrep hd hg d h
 | binOp f t x z y=>exact Qvn hrep hd hg d hT h
 | unOp f t x=>exact Qwx hrep hd hg d h
 | convert t u x=>exact QqS hT hrep hd hg d h
 | makeSlice t x z=>exact QnS hT hrep hd hg d h
 | slice t x q p s=>exact Qvr hT hrep hd hg d h
 | fieldAddr t x k=>exact QnQ hT hrep hd hg d h
 | field t x k=>exact Qvp hT hrep hd hg d h
 | indexAddr t x z=>exact QnR hT hrep hd hg d h
 | index t x z=>exact Qvq hT hrep hd hg d h
 | extract x k=>exact QqT hrep hd hg d h
 | makeFunc g l j=>exact Qpl hrep hd hg d h
 | makeMap t r=>exact QqU hrep hd hg d h
 | lookup t m x v=>exact QtD hT hrep hd hg d h
 | call c=>
  cases e:c.callee with
  | builtin b=>
   cases b with
   | len=>exact Qxy hT hrep hd hg d e h
   | max=>exact Qxz hrep hd hg d e h
   | min=>exact QxA hrep hd hg d e h
   | copy=>exact Qwu hT hrep hd hg d e h
   | _=>unfold QI Qal at h; rw [d] at h; simp only [e] at h; cases h
  | _=>unfold QI Qal at h; rw [d] at h; simp only [e] at h; cases h
 | _=>unfold QI Qal at h; rw [d] at h; cases h
theorem GoOn.pure (hg:GoOn Z M N w0 σ K y next) (h:K (addO σ o.dst qo)=some y):GoP Z M N w0 σ o qo next:=fun a c b=>hg _ h rfl a c b
theorem QiJ {nm:Nat} (hT:QR P T=true) (hG:Qci P G) (hrep:RepB Z M N w0 β σ a w) (hd:QK o.dst σ.nt=true) (hg:GoOn Z M N w0 σ K y next) (h:opR T G nm o σ K=some y):o.wp P a w next Q:=by
 have d:(QI T o σ).bind (fun q=>K (addO σ o.dst q))=some y→o.wp P a w next Q:=by
  intro h;obtain ⟨q,j,h⟩:=Obs h;exact Qpt hT hrep hd (hg.pure h) j
 have d:(Qal T o σ fun q=>K (addO σ o.dst q))=some y→o.wp P a w next Q:=fun h=>d (by rw [←QdV]; exact h)
 cases e:o.op with
 | store t x z=>exact Qvs hT hrep hd hg e h
 | mapUpdate t m x v=>exact QnT hT hrep hg e h
 | call c=>
  cases g:c.callee with
  | builtin b=>
   cases b with
   | append=>exact QtB hT hrep hd hg e g h
   | _=>refine d ?_; unfold opR at h; rw [e] at h; simp only [g] at h; exact h
  | value f=>exact Qwt hG hrep hd hg e g h
  | _=>refine d ?_; unfold opR at h; rw [e] at h; simp only [g] at h; exact h
 | buildSlice t k i=>exact QtC hT hrep hd hg d e h
 | _=>refine d ?_; unfold opR at h; rw [e] at h; exact h
theorem RepB.know (h:RepB Z M N w0 β σ a w) {i:Nat} {z:SV} (hi:i< a.tmps.size) (hv:VV w (RO Z β σ.H) β σ.H z (a.tmps.getD i undef)):RepB Z M N w0 β (σ.set i z) a w where
 fresh:=h.fresh
 whole:=h.whole
 pin:=h.pin
 laid:=h.laid
 bz:=h.bz
 defers:=h.defers
 size:=h.size
 below:=h.below
 hold:=h.hold
 one:=h.one
 obj:=h.obj
 env:=by
  intro k x b;simp only [St.set,Qe] at b;by_cases e:i=k
  ·subst e;rw [if_pos rfl] at b;obtain rfl:=Osj b;exact ⟨hi,hv⟩
  ·rw [if_neg e] at b;exact h.env k x b
theorem Qsq (σ:St) (i:Option Nat):(σ.skip i).nt=σ.nt:=by cases i <;> rfl
theorem Qlx {all:Array Oper} {j t:Nat} (ht:(all[j]?).bind (·.dst)=some t) (hb:look σ.env t=some (.t [])) (hrep:RepB Z M N w0 β σ a w):yielded all a.tmps j=none:=by
 obtain ⟨d,e,b,c⟩:=hrep.env t _ hb;cases c;have b:a.tmps.getD t undef= .tuple #[]:=b
 have:a.tmps[t]?=some (.tuple #[]):=by
  rw [Array.getElem?_eq_getElem d];rw [Array.getD_eq_getD_getElem?,Array.getElem?_eq_getElem d] at b;exact congrArg some b
 simp [yielded,ht,this]
theorem Qfj (hT:QR P T=true) (hG:Qci P G) {all:Array Oper}: ∀{ops:List Oper} {nm:Nat} {σ:St} {a:Act} {w:World},Rep Z M N w0 σ a w→opsR T G all nm ops σ K=some y→
  (∀σ',K σ'=some y→σ'.nt=σ.nt→ ∀a' w',Rep Z M N w0 σ' a' w'→Q .normal a' w')→wpList P all Q ops a w
 | [],_,σ,a,w,hrep,h,hK=>hK σ h rfl a w hrep
 | o::r,nm,σ,a,w,hrep,h,hK=>by
  obtain ⟨β,hrep⟩:=hrep;simp only [opsR] at h;split at h
  ·cases h
  ·rename_i i;have i:QK o.dst σ.nt=true:=by simpa using i
   have v: ∀{σ1:St},σ1.nt=σ.nt→RepB Z M N w0 β σ1 a w→(opR T G nm o σ1 fun σ'=>opsR T G all (nm+500) r σ' K)=some y→o.wp P a w (wpList P all Q r) Q:=by
    intro σ1 q n h1;refine QiJ hT hG n (by rw [q]; exact i) (fun σ' h2 hn a' w' hr=>?_) h1
    exact Qfj hT hG hr h2 fun f g d=>hK f g (by rw [d,hn,q])
   unfold wpList;split at h
   ·rename_i c;have:Region.wanted o (yielded all a.tmps)=true:=by simp [Region.wanted,c]
    rw [if_pos this];exact .inl (v rfl hrep h)
   ·rename_i j l c;split at h
    ·rename_i t z;split at h
     ·rename_i b u;obtain ⟨m,k⟩:=hrep.env t _ u;have k:VV w (RO Z β σ.H) β σ.H (.s (.d .bool b)) (a.tmps.getD t undef):=k;have s:=Qee (S:=RO Z β σ.H) (β:=β) (H:=σ.H) k
      have p:yielded all a.tmps j=some b:=by
       have:a.tmps[t]?=some (.bool b):=by
        rw [Array.getElem?_eq_getElem m];rw [Array.getD_eq_getD_getElem?,Array.getElem?_eq_getElem m] at s;exact congrArg some s
       simp [yielded,z,this]
      split at h
      ·rename_i e;subst e;have:Region.wanted o (yielded all a.tmps)=true:=by simp [Region.wanted,c,p]
       rw [if_pos this];exact .inl (v (σ1:=σ.set t (.s (.d .bool b))) rfl (hrep.know m k) h)
      ·rename_i e;have: ¬(Region.wanted o (yielded all a.tmps)=true):=by simpa [Region.wanted,c,p] using e
       rw [if_neg this];have x:b=!l:=by cases b <;> cases l <;> simp_all
       subst x;refine Qfj hT hG ⟨β,(hrep.know m k).skip i⟩ h fun f g d=>hK f g (by rw [d,Qsq]; rfl)
     ·rename_i u
      have: ¬(Region.wanted o (yielded all a.tmps)=true):=by
       have p:=Qlx z u hrep;simp [Region.wanted,c,p]
      rw [if_neg this];refine Qfj hT hG ⟨β,hrep.skip i⟩ h fun f g d=>hK f g (by rw [d,Qsq])
     ·cases h
    ·cases h
end
section
open Go Go.RowKit
variable {T:Tab} {G:Env} {σ σ2:St} {o:Oper} {R:Type} {H H2:Heap} {own:Bool}
def agN (H H2:Heap) (l:List Nat):Prop:= ∀n∈l,look H2 n=look H n
theorem agN.sub {l m:List Nat} (h:agN H H2 l) (hs: ∀n∈m,n∈l):agN H H2 m:=fun n a=>h n (hs n a)
theorem agN.left {l m:List Nat} (h:agN H H2 (l++m)):agN H H2 l:=h.sub fun n a=>List.mem_append_left _ a
theorem agN.right {l m:List Nat} (h:agN H H2 (l++m)):agN H H2 m:=h.sub fun n a=>List.mem_append_right _ a
theorem agN.pre {l:List Nat} (h:agN H H2 l) (p:Heap):agN (p++H) (p++H2) l:=fun n a=>by rw [QC,QC,h n a]
theorem Qfh {o:Nat} {cs:List S1} (h:look H o=some (.box cs)) {n:Nat} (hn:n∈cs.flatMap Qh):n∈QhJ H o:=by
 unfold QhJ; rw [h]; exact hn
theorem Qgw {l:List Nat} {o n:Nat} (ho:o∈l) (hn:n∈QhJ H o):n∈QaK H l:=List.mem_append_right _ (List.mem_flatMap.2 ⟨o,ho,hn⟩)
theorem Qhl {l m:List Nat} (h: ∀n∈m,n∈l): ∀n∈QaK H m,n∈QaK H l:=by
 intro n a;rcases List.mem_append.1 a with a | a
 ·exact List.mem_append_left _ (h n a)
 ·obtain ⟨o,b,a⟩:=List.mem_flatMap.1 a;exact Qgw (h o b) a
theorem agN.close {l:List Nat} (h:agN H H2 (QaK H l)):agN H H2 l:=h.left
theorem agN.box {l:List Nat} (h:agN H H2 (QaK H l)) {o:Nat} (ho:o∈l) {cs:List S1} (hb:look H o=some (.box cs)):agN H H2 (cs.flatMap Qh):=
 h.sub fun n a=>Qgw ho (Qfh hb a)
theorem QcH {t:Ty} {s:S1} (h:agN H H2 (Qh s)):Qae own H2 t s=Qae own H t s:=by
 cases s with
 | sl o=>simp only [Qae]; rw [h o (by simp [Qh])]
 | vw o a n=>simp only [Qae]; rw [h o (by simp [Qh])]
 | _=>rfl
theorem QjC: ∀{t:Ty} {cs:List S1},agN H H2 (cs.flatMap Qh)→gat own H2 t cs=gat own H t cs
 | .unit,cs,_=>rfl
 | .pair a b,cs,h=>by
  simp only [gat];rw [QjC (t:=a) h];cases hg:gat own H a cs with
  | none=>rfl
  | some q=>
   obtain ⟨x,r⟩:=q;obtain ⟨f,e⟩:=QoO hg;simp only;rw [QjC (t:=b) (cs:=r) (h.sub fun n d=>by rw [e,List.flatMap_append]; exact List.mem_append_right _ d)]
 | .int k,[],_=>rfl
 | .bool,[],_=>rfl
 | .str,[],_=>rfl
 | .opq,[],_=>rfl
 | .opq,c::r,h=>by
  simp only [gat]; rw [QcH (h.sub fun n d=>by simp [d])]
 | .slice t,[],_=>rfl
 | .int k,c::r,h=>by
  simp only [gat]; rw [QcH (h.sub fun n d=>by simp [d])]
 | .bool,c::r,h=>by
  simp only [gat]; rw [QcH (h.sub fun n d=>by simp [d])]
 | .str,c::r,h=>by
  simp only [gat]; rw [QcH (h.sub fun n d=>by simp [d])]
 | .slice t,c::r,h=>by
  simp only [gat]; rw [QcH (h.sub fun n d=>by simp [d])]
theorem QsT {e1:TypeId}: ∀{t:Ty} {cs:List S1} {x:den t} {ns:List Nat} {r:List S1},dgat H e1 t cs=some (x,ns,r)→ ∃pre,cs=pre++r:=by
 intro t
 induction t with
 | pair a b d e=>
  intro cs x ns r h;simp only [dgat] at h;split at h
  ·rename_i s m p g;split at h
   ·rename_i u n q i;simp only [Oie,Pmi] at h;obtain ⟨_,_,rfl⟩:=h;obtain ⟨j,e1⟩:=d g;obtain ⟨k,f⟩:=e i;exact ⟨j++k,by rw [e1,f,List.append_assoc]⟩
   ·cases h
  ·cases h
 | unit=>
  intro cs x ns r h;simp only [dgat,Oie,Pmi] at h;exact ⟨[],by rw [←h.2.2]; rfl⟩
 | slice t l=>
  intro cs x ns r h;cases cs with
  | nil=>simp [dgat] at h
  | cons c cs=>
   simp only [dgat] at h;split at h
   ·simp only [Oie,Pmi] at h;exact ⟨[.nls],by rw [←h.2.2]; rfl⟩
   ·rename_i o;split at h
    ·split at h
     ·split at h
      ·simp only [Oie,Pmi] at h;exact ⟨[.sl o],by rw [←h.2.2]; rfl⟩
      ·cases h
     ·cases h
    ·cases h
   ·cases h
 | opq=>
  intro cs x ns r h;cases cs <;> cases h
 | _=>
  intro cs x ns r h;cases cs with
  | nil=>simp [dgat] at h
  | cons c cs=>
   simp only [dgat] at h;split at h
   ·split at h
    ·simp only [Oie,Pmi] at h;exact ⟨[_],by rw [←h.2.2]; rfl⟩
    ·cases h
   ·cases h
theorem QhK {e1:TypeId}: ∀{t:Ty} {cs:List S1},agN H H2 (cs.flatMap Qh)→dgat H2 e1 t cs=dgat H e1 t cs
 | .unit,cs,_=>rfl
 | .pair a b,cs,h=>by
  simp only [dgat];rw [QhK (t:=a) h];cases hg:dgat H e1 a cs with
  | none=>rfl
  | some q=>
   obtain ⟨x,n,r⟩:=q;obtain ⟨f,e⟩:=QsT hg;simp only;rw [QhK (t:=b) (cs:=r) (h.sub fun n d=>by rw [e,List.flatMap_append]; exact List.mem_append_right _ d)]
 | .int k,[],_=>rfl
 | .bool,[],_=>rfl
 | .str,[],_=>rfl
 | .opq,[],_=>rfl
 | .opq,c::r,h=>rfl
 | .slice t,[],_=>rfl
 | .int k,c::r,h=>rfl
 | .bool,c::r,h=>rfl
 | .str,c::r,h=>rfl
 | .slice t,c::r,h=>by
  cases c with
  | sl o=>simp only [dgat]; rw [h o (by simp [Qh])]
  | _=>rfl
theorem Qgl: ∀{t:Ty} {x:den t},(split t x).flatMap Qh=[]
 | .int _,_=>rfl
 | .bool,_=>rfl
 | .str,_=>rfl
 | .unit,_=>rfl
 | .opq,_=>rfl
 | .slice _,_=>rfl
 | .pair a b,x=>by simp only [split,List.flatMap_append]; rw [Qgl,Qgl]; rfl
theorem QgS {y:SV}: ∀n∈(cellsOf y).flatMap Qh,n∈Qi y:=by
 intro n a;cases y with
 | g d=>exact a
 | s c=>
  by_cases b: ∃t x,c= .d t x
  ·obtain ⟨t,x,rfl⟩:=b;simp only [cellsOf] at a;rw [Qgl] at a;cases a
  ·have e:cellsOf (.s c)=[c]:=by cases c <;> first | rfl | exact absurd ⟨_,_,rfl⟩ b
   rw [e] at a;simpa [Qi] using a
theorem QbZ {t:Ty} {x:SV} (h:agN H H2 (Qi x)):toD own H2 t x=toD own H t x:=by
 cases x with
 | s c=>exact QcH h
 | g a=>simp only [toD]; rw [QjC h]
theorem QfR {o:Nat}: ∀{cs:List S1},o∈QL cs→o∈cs.flatMap Qh:=by
 intro cs h;obtain ⟨c,a,h⟩:=List.mem_filterMap.1 h;refine List.mem_flatMap.2 ⟨c,a,?_⟩;cases c <;> simp at h
 all_goals (subst h; simp [Qh])
theorem QbL {x:SV} (h:agN H H2 (Qi x)):Qu H2 x=Qu H x:=by
 cases x with
 | g d=>rfl
 | s c=>
  cases c with
  | p o a=>simp only [Qu]; rw [h o (by simp [Qi,Qh])]
  | fn f l=>
   simp only [Qu,List.flatMap_def];congr 1;refine List.map_congr_left fun c b=>?_
   cases c with
   | pd t z=>rfl
   | p o a=>simp only; rw [h o (by simp only [Qi,Qh,List.mem_flatMap]; exact ⟨_,b,by simp⟩)]
  | _=>rfl
theorem Qfk {x:SV} (h:agN H H2 (Qi x)):QcC H2 x=QcC H x:=by
 cases x with
 | g b=>rfl
 | s y=>
  cases y with
  | sl o=>simp only [QcC]; rw [h o (by simp [Qi,Qh])]
  | vw o a n=>simp only [QcC]; rw [h o (by simp [Qi,Qh])]
  | _=>rfl
theorem Qqf {u:Ty} {x:SV} (h:agN H H2 (Qi x)):vwOf H2 u x=vwOf H u x:=by
 cases x with
 | g b=>rfl
 | s y=>
  cases y with
  | sl o=>simp only [vwOf]; rw [h o (by simp [Qi,Qh])]
  | vw o a n=>simp only [vwOf]; rw [h o (by simp [Qi,Qh])]
  | _=>rfl
theorem QqZ {x:SV}: ∀n∈Qu H x,n∈QaK H (Qi x):=by
 intro n a;cases x with
 | g e=>exact List.mem_append_left _ (QfR a)
 | s c=>
  cases c with
  | p o b=>
   simp only [Qu] at a;split at a
   ·rename_i e d;exact Qgw (o:=o) (by simp [Qi,Qh]) (Qfh d (QfR a))
   ·simp at a
  | sl o=>exact List.mem_append_left _ (by simpa [Qu,Qi,Qh] using a)
  | vw o j n=>exact List.mem_append_left _ (by simpa [Qu,Qi,Qh] using a)
  | pe o i b=>exact List.mem_append_left _ (by simpa [Qu,Qi,Qh] using a)
  | fn f l=>
   simp only [Qu,List.mem_flatMap] at a;obtain ⟨c,h,a⟩:=a;cases c with
   | pd t z=>simp at a
   | p o b=>
    simp only at a;split at a
    ·rename_i e d;exact Qgw (o:=o) (by simp only [Qi,Qh,List.mem_flatMap]; exact ⟨_,h,by simp⟩) (Qfh d (QfR a))
    ·simp at a
  | _=>simp [Qu] at a
theorem QgD {x:SV} (h:agN H H2 (QaK H (Qi x))):agN H H2 (Qu H x):=h.sub QqZ
theorem QhP: ∀(l:List Nat), ∃p:Heap,frz H l=p++H∧ ∀H2,agN H H2 l→frz H2 l=p++H2
 | []=>⟨[],rfl,fun _ _=>rfl⟩
 | o::r=>by
  obtain ⟨p,hp,h2⟩:=QhP r
  have c: ∀H2,agN H H2 (o::r)→look (frz H2 r) o=look (frz H r) o:=by
   intro H2 h;rw [h2 H2 (h.sub fun n a=>List.mem_cons_of_mem _ a),hp,QC,QC,h o (by simp)]
  cases b:look (frz H r) o with
  | none=>
   refine ⟨p,by simp only [frz,b]; exact hp,fun H2 h=>?_⟩
   simp only [frz,c H2 h,b]; exact h2 H2 (h.sub fun n a=>List.mem_cons_of_mem _ a)
  | some d=>
   cases d with
   | row e t f=>
    refine ⟨(o,.fro t f)::p,by simp only [frz,b]; rw [hp]; rfl,fun H2 h=>?_⟩
    simp only [frz,c H2 h,b]; rw [h2 H2 (h.sub fun n a=>List.mem_cons_of_mem _ a)]; rfl
   | _=>
    refine ⟨p,by simp only [frz,b]; exact hp,fun H2 h=>?_⟩
    simp only [frz,c H2 h,b]; exact h2 H2 (h.sub fun n a=>List.mem_cons_of_mem _ a)
theorem agN.frz {l m:List Nat} (h:agN H H2 m) (hl:agN H H2 l):agN (S.frz H l) (S.frz H2 l) m:=by
 obtain ⟨p,b,a⟩:=QhP (H:=H) l;rw [b,a H2 hl];exact h.pre p
theorem Qtv {t:Ty} {x:SV} (h:agN H H2 (Qi x)):lenOf t H2 x=lenOf t H x:=by
 cases t <;> try rfl
 cases x with
 | g a=>rfl
 | s c=>
  cases c with
  | sl o=>simp only [lenOf]; rw [h o (by simp [Qi,Qh])]
  | vw o b n=>simp only [lenOf]; rw [h o (by simp [Qi,Qh])]
  | d u z=>cases u <;> rfl
  | _=>rfl
theorem QsA {c:CK} {s:S1} (h:agN H H2 (Qh s)):unC H2 c s=unC H c s:=by
 cases c with
 | dat t=>simp only [unC]; rw [QcH h]
 | own e t=>
  cases s with
  | sl o=>simp only [unC]; rw [h o (by simp [Qh])]
  | _=>rfl
 | vw e t=>
  cases s with
  | sl o=>simp only [unC]; rw [h o (by simp [Qh])]
  | vw o f n=>simp only [unC]; rw [h o (by simp [Qh])]
  | _=>rfl
 | ptr o d=>
  cases s with
  | p a b=>
   simp only [unC];by_cases e:a=o∧b=d
   ·rw [if_pos e,if_pos e, ←e.1,h a (by simp [Qh])]
   ·rw [if_neg e,if_neg e]
  | _=>rfl
 | ref o=>
  cases s with
  | sl a=>
   simp only [unC];by_cases e:a=o
   ·rw [if_pos e,if_pos e, ←e,h a (by simp [Qh])]
   ·rw [if_neg e,if_neg e]
  | _=>rfl
 | mp=>
  cases s with
  | mp o=>simp only [unC]; rw [h o (by simp [Qh])]
  | _=>rfl
 | _=>cases s <;> rfl
theorem Qln: ∀{ks:List CK} {ss:List S1},agN H H2 (ss.flatMap Qh)→unCs H2 ks ss=unCs H ks ss
 | [],[],_=>rfl
 | [],_::_,_=>rfl
 | _::_,[],_=>rfl
 | c::r,s::ss,h=>by
  simp only [unCs];rw [QsA (h.sub fun n hn=>by simp [hn]),Qln (h.sub fun n hn=>by simp only [List.flatMap_cons]; exact List.mem_append_right _ hn)]
theorem QsZ {l:List Nat} {c:CK} {s:S1} (h:agN H H2 (Qh s)):Qeh H2 l c s=Qeh H l c s:=by
 cases c with
 | dat t=>
  cases s with
  | sl o=>simp only [Qeh]; rw [h o (by simp [Qh])]
  | vw o a n=>simp only [Qeh]; rw [h o (by simp [Qh])]
  | _=>rfl
 | _=>cases s <;> rfl
theorem Qhn {l:List Nat}: ∀{ks:List CK} {ss:List S1},agN H H2 (ss.flatMap Qh)→Qcx H2 l ks ss=Qcx H l ks ss
 | [],[],_=>rfl
 | [],_::_,_=>rfl
 | _::_,[],_=>rfl
 | c::r,s::ss,h=>by
  simp only [Qcx];rw [QsZ (h.sub fun n hn=>by simp [hn]),Qhn (h.sub fun n hn=>by simp only [List.flatMap_cons]; exact List.mem_append_right _ hn)]
theorem QfH {cs ds:List S1} (h: ∀c∈ds,c∈cs): ∀n∈ds.flatMap Qh,n∈cs.flatMap Qh:=by
 intro n a;obtain ⟨c,b,a⟩:=List.mem_flatMap.1 a;exact List.mem_flatMap.2 ⟨c,h c b,a⟩
theorem QqO {cs:List S1} {i j:Nat}: ∀c∈(cs.drop i).take j,c∈cs:=fun c a=>List.mem_of_mem_drop (List.mem_of_mem_take a)
theorem QoC {t:Ty} {cs:List S1} (h:agN H H2 (cs.flatMap Qh)):boxV H2 cs t=boxV H cs t:=by
 have a:gat true H2 t cs=gat true H t cs:=QjC h;cases t with
 | pair p q=>cases p <;> first | rfl | (simp only [boxV]; rw [a])
 | _=>simp only [boxV]; rw [a]
theorem QoF (f:FuncId): ∀{ts:List Ty} {l:List Cap},agN H H2 (QaK H (Qh (.fn f l)))→capD H2 ts l=capD H ts l
 | [],[],_=>rfl
 | [],_::_,_=>rfl
 | _::_,[],_=>rfl
 | t::r,c::l,h=>by
  have hr:agN H H2 (QaK H (Qh (.fn f l))):=h.sub (Qhl fun n g=>by
   simp only [Qh,List.flatMap_cons]; exact List.mem_append_right _ g)
  simp only [capD];rw [QoF f hr];cases c with
  | pd s y=>rfl
  | p o b=>
   have a:o∈Qh (.fn f (.p o b::l)):=by simp [Qh]
   simp only [capV];rw [h.close o a];cases d:look H o with
   | none=>rfl
   | some i=>
    cases i with
    | box j=>
     simp only;rw [QoC ((h.box (o:=o) a d).sub (QfH fun c e=>List.mem_of_mem_drop e))]
    | _=>rfl
theorem Quq {k:PK} {x:SV} (hn:agN σ.H σ2.H (QaK σ.H (Qi x))):argD σ2 k x=argD σ k x:=by
 have a:=hn.close;cases k with
 | val t=>simp only [argD]; rw [QbZ a]
 | ptr t=>
  cases x with
  | g b=>rfl
  | s c=>
   cases c with
   | p o d=>
    simp only [argD];rw [a o (by simp [Qi,Qh])]
    cases h:look σ.H o with
    | none=>rfl
    | some j=>
     cases j with
     | box b=>
      simp only;rw [QoC ((hn.box (o:=o) (by simp [Qi,Qh]) h).sub (QfH fun c m=>List.mem_of_mem_drop m))]
     | _=>rfl
   | pe o i d=>
    simp only [argD];rw [a o (by simp [Qi,Qh])]
   | _=>rfl
 | box q r=>
  cases x with
  | g b=>rfl
  | s c=>
   cases c with
   | p o d=>
    simp only [argD];rw [a o (by simp [Qi,Qh])]
    cases h:look σ.H o with
    | none=>rfl
    | some j=>
     cases j with
     | box b=>
      simp only;rw [Qln ((hn.box (o:=o) (by simp [Qi,Qh]) h).sub (QfH QqO))]
     | _=>rfl
   | _=>rfl
 | row e t=>
  cases x with
  | g b=>rfl
  | s c=>simp only [argD]; rw [QsA a]
 | agg b=>
  cases x with
  | g n=>simp only [argD]; rw [Qln a]
  | s c=>rfl
 | fn f u=>
  cases x with
  | g n=>rfl
  | s c=>
   cases c with
   | fn g l=>simp only [argD]; rw [QoF g hn]
   | _=>rfl
theorem QlU: ∀{ps:List PK} {xs:List SV},(∀x∈xs,agN σ.H σ2.H (QaK σ.H (Qi x)))→Qbb σ2 ps xs=Qbb σ ps xs
 | [],[],_=>rfl
 | [],_::_,_=>rfl
 | _::_,[],_=>rfl
 | p::r,x::xs,h=>by
  simp only [Qbb];rw [Quq (h x (by simp)),QlU fun y hy=>h y (by simp [hy])]
theorem QsY {l bs:List Nat} {k:PK} {x:SV} (hn:agN H H2 (QaK H (Qi x))):QfI H2 l bs k x=QfI H l bs k x:=by
 have a:=hn.close;cases k with
 | val t=>simp only [QfI]; rw [QbL a]
 | ptr t=>simp only [QfI]; rw [QbL a]
 | row e t=>rfl
 | fn f q=>simp only [QfI]; rw [QbL a]
 | box j m=>
  cases x with
  | g b=>rfl
  | s c=>
   cases c with
   | p o i=>
    simp only [QfI];rw [a o (by simp [Qi,Qh])]
    cases d:look H o with
    | none=>rfl
    | some h=>
     cases h with
     | box b=>exact Qhn ((hn.box (o:=o) (by simp [Qi,Qh]) d).sub (QfH QqO))
     | _=>rfl
   | _=>rfl
 | agg b=>
  cases x with
  | g n=>exact Qhn a
  | s c=>rfl
theorem Qkh {l bs:List Nat}: ∀{ps:List PK} {xs:List SV},(∀x∈xs,agN H H2 (QaK H (Qi x)))→QfJ H2 l bs ps xs=QfJ H l bs ps xs
 | [],[],_=>rfl
 | [],_::_,_=>rfl
 | _::_,[],_=>rfl
 | p::r,x::xs,h=>by
  simp only [QfJ];rw [QsY (h x (by simp)),Qkh fun y hy=>h y (by simp [hy])]
theorem Qsb {c:S1} (h:agN H H2 (Qh c)):nlC H2 c=nlC H c:=by
 cases c with
 | sl o=>simp only [nlC]; rw [h o (by simp [Qh])]
 | vw o a n=>simp only [nlC]; rw [h o (by simp [Qh])]
 | _=>rfl
theorem QkD: ∀{cs:List S1},agN H H2 (cs.flatMap Qh)→cs.all (nlC H2)=cs.all (nlC H)
 | [],_=>rfl
 | c::r,h=>by
  simp only [List.all_cons];rw [Qsb (h.sub fun n hn=>by simp [hn]),QkD (h.sub fun n hn=>by simp only [List.flatMap_cons,List.mem_append]; exact .inr hn)]
theorem Qwr {k:PK} {x:SV} (hn:agN H H2 (QaK H (Qi x))):nlA H2 k x=nlA H k x:=by
 have b:=hn.close;cases k with
 | row e t=>
  cases x with
  | g a=>rfl
  | s c=>exact Qsb b
 | agg a=>
  cases x with
  | g m=>exact QkD b
  | s c=>rfl
 | box j l=>
  cases x with
  | g a=>rfl
  | s c=>
   cases c with
   | p o i=>
    simp only [nlA];rw [b o (by simp [Qi,Qh])]
    cases d:look H o with
    | none=>rfl
    | some h=>
     cases h with
     | box a=>exact QkD ((hn.box (o:=o) (by simp [Qi,Qh]) d).sub (QfH QqO))
     | _=>rfl
   | _=>rfl
 | val t=>rfl
 | ptr t=>rfl
 | fn f n=>rfl
theorem Qpj: ∀{ps:List PK} {xs:List SV},(∀x∈xs,agN H H2 (QaK H (Qi x)))→nlAs H2 ps xs=nlAs H ps xs
 | [],[],_=>rfl
 | [],_::_,_=>rfl
 | _::_,[],_=>rfl
 | p::r,x::xs,h=>by
  simp only [nlAs];rw [Qwr (h x (by simp)),Qpj fun y hy=>h y (by simp [hy])]
theorem QdR: ∀{nm:Nat} {ps:List PK} {y:denQ ps} {xs:List SV},(∀x∈xs,agN H H2 (QaK H (Qi x)))→outA nm H2 ps y xs=outA nm H ps y xs
 | _,[],_,_,_=>rfl
 | _,.val _::_,_,[],_=>rfl
 | _,.ptr _::_,_,[],_=>rfl
 | _,.fn _ _::_,_,[],_=>rfl
 | _,.box _ _::_,_,[],_=>rfl
 | _,.row _ _::_,_,[],_=>rfl
 | _,.agg _::_,_,[],_=>rfl
 | nm,.val _::r,y,x::xs,h=>QdR (ps:=r) fun z hz=>h z (by simp [hz])
 | nm,.ptr _::r,y,x::xs,h=>QdR (ps:=r) fun z hz=>h z (by simp [hz])
 | nm,.fn _ _::r,y,x::xs,h=>QdR (ps:=r) fun z hz=>h z (by simp [hz])
 | nm,.row _ _::r,y,x::xs,h=>by simp only [outA]; rw [QdR (ps:=r) fun z hz=>h z (by simp [hz])]
 | nm,.agg _::r,y,x::xs,h=>by simp only [outA]; rw [QdR (ps:=r) fun z hz=>h z (by simp [hz])]
 | nm,.box _ _::r,y,x::xs,h=>by
  simp only [outA];rw [QdR (ps:=r) fun z hz=>h z (by simp [hz])]
  cases x with
  | g cs=>rfl
  | s c=>
   cases c with
   | p o off=>
    have h1:=(h (.s (.p o off)) (by simp)).close
    simp only;rw [h1 o (by simp [Qi,Qh])]
   | _=>rfl
theorem QhY: ∀{l:List (Nat×Ob)},agN H H2 (l.map (·.1))→Qdk H2 l=Qdk H l
 | [],_=>rfl
 | p::r,h=>by
  simp only [Qdk,QU];rw [h p.1 (by simp),QhY fun n hn=>h n (by simp at hn⊢; exact .inr hn)]
theorem Qna {t:Ty} {x:SV} {y:den t} {H':Heap} (hn:agN H H2 (QaK H (Qi x))) (h:QpX H t x=some (y,H')):
  ∃p,H'=p++H∧QpX H2 t x=some (y,p++H2):=by
 obtain ⟨p,c,a⟩:=QhP (H:=H) (Qu H x);have b:=a H2 (QgD hn);unfold QpX at h⊢;rw [QbL hn.close,b];rw [c] at h;rw [QbZ (hn.close.pre p)];split at h
 ·rename_i z d;simp only [Oie,Pmi] at h;obtain ⟨rfl,rfl⟩:=h;exact ⟨p,rfl,rfl⟩
 ·cases h
theorem Qcf {α β:Type} {f g:α→Option β}: ∀{l:List α},(∀x∈l,f x=g x)→mapO f l=mapO g l
 | [],_=>rfl
 | x::r,h=>by simp only [mapO]; rw [h x (by simp),Qcf fun y hy=>h y (by simp [hy])]
theorem QhX {α β:Type} {f:α→Option β}: ∀{l:List α} {r:List β},mapO f l=some r→ ∀y∈r, ∃x∈l,f x=some y
 | [],r,h,y,hy=>by simp [mapO] at h; subst h; simp at hy
 | x::l,r,h,y,hy=>by
  simp only [mapO] at h;split at h
  ·rename_i z hz;split at h
   ·rename_i zs hzs;obtain rfl:=Osj h;rcases List.mem_cons.1 hy with rfl | hy
    ·exact ⟨x,by simp,hz⟩
    ·obtain ⟨b,a,e⟩:=QhX hzs y hy;exact ⟨b,by simp [a],e⟩
   ·cases h
  ·cases h
end
section
open Go Go.RowKit
variable {T:Tab} {G:Env} {σ σ2:St} {o:Oper} {R:Type} {H H2:Heap} {own:Bool}
structure AgO (o:Oper) (σ σ2:St):Prop where
 nt:σ2.nt=σ.nt
 ev: ∀x∈o.op.operands,S.ev σ2 x=S.ev σ x
 env: ∀t,Operand.tmp t∈o.op.operands→look σ2.env t=look σ.env t
 nma:isAd o.op=true→ ∀x∈o.op.operands, ∀v,S.ev σ x=some v→agN σ.H σ2.H (Qi v)
 nmv:isMv o.op=false→isAd o.op=false→ ∀x∈o.op.operands, ∀v,S.ev σ x=some v→agN σ.H σ2.H (QaK σ.H (Qi v))
theorem QaD {j:Nat} (h:agN H H2 [j]):QU H2 j=QU H j:=by
 unfold QU; rw [h j (by simp)]
theorem Qpn (hg:AgO o σ σ2) {d:Int} {x:Option Operand} (hx: ∀y,x=some y→y∈o.op.operands):optB σ2 d x=optB σ d x:=by
 cases x with
 | none=>rfl
 | some y=>simp only [optB]; rw [hg.ev y (hx y rfl)]
theorem QvU {H:Heap} {u:Ty} {x:SV} {v:Nat×Nat×Nat} (h:vwOf H u x=some v):v.1∈Qi x:=by
 unfold vwOf at h;split at h
 ·split at h
  ·split at h
   ·obtain rfl:=Osj h; simp [Qi,Qh]
   ·cases h
  ·cases h
 ·split at h
  ·split at h
   ·obtain rfl:=Osj h; simp [Qi,Qh]
   ·cases h
  ·cases h
 ·cases h
theorem Qng (hg:AgO o σ σ2) {x:Operand} (hx:x∈o.op.operands):Qnf σ2 x=Qnf σ x:=by
 cases x with
 | tmp t=>simp only [Qnf]; rw [hg.env t hx]
 | _=>rfl
theorem QtG (hg:AgO o σ σ2) {q:Out} (h:QI T o σ=some q) (hq:agN σ.H σ2.H (q.n.map (·.1))):QI T o σ2=some q∧agN σ.H σ2.H q.fr:=by
 have a:q.fr=[]→QI T o σ2=some q→QI T o σ2=some q∧agN σ.H σ2.H q.fr:=fun e h=>⟨h,by rw [e]; intro n hn; simp at hn⟩
 unfold QI Qal at h a⊢;cases ho:o.op with
 | move x=>
  rw [ho] at h a;have e:=hg.ev x (by simp [ho,Op.operands])
  have e':=Qng hg (x:=x) (by simp [ho,Op.operands])
  simp only at h a⊢;rw [e,e'] at a⊢;refine a ?_ h;split at h
  ·obtain rfl:=Osj h; rfl
  ·split at h
   ·obtain rfl:=Osj h; rfl
   ·cases h
 | assign x=>
  rw [ho] at h a;have e:=hg.ev x (by simp [ho,Op.operands])
  have e':=Qng hg (x:=x) (by simp [ho,Op.operands])
  simp only at h a⊢;rw [e,e'] at a⊢;refine a ?_ h;split at h
  ·obtain rfl:=Osj h; rfl
  ·split at h
   ·obtain rfl:=Osj h; rfl
   ·cases h
 | pick c x z=>
  rw [ho] at h a;have e1:=hg.ev c (by simp [ho,Op.operands])
  have e2:=hg.ev x (by simp [ho,Op.operands])
  have e3:=hg.ev z (by simp [ho,Op.operands])
  simp only at h a⊢;rw [e1,e2,e3] at a⊢;refine a ?_ h;split at h
  ·split at h <;> (obtain rfl:=Osj h; rfl)
  ·cases h
 | alloc t=>
  rw [ho] at h a;simp only at h a⊢;split at h
  ·rename_i r j h1 h2;split at h
   ·rename_i hj;obtain rfl:=Osj h;simp only [h1,h2] at a⊢;refine a (by trivial) ?_
    rw [QaD (H:=σ.H) (by simpa using hq),if_pos hj]
   ·cases h
  ·cases h
 | box t x=>
  rw [ho] at h a;have e:=hg.ev x (by simp [ho,Op.operands])
  simp only at h a⊢;rw [e] at a⊢;split at h
  ·rename_i r z j h1 h2 h3;split at h
   ·rename_i hj;obtain rfl:=Osj h;simp only [h1,h2,h3] at a⊢;refine a (by trivial) ?_
    rw [QaD (H:=σ.H) (by simpa using hq),if_pos hj]
   ·cases h
  ·cases h
 | build t ps=>
  rw [ho] at h a
  have e:mapO (fun p:Nat×Operand=>(S.ev σ2 p.2).map fun y=>(p.1,cellsOf y)) ps.toList=mapO (fun p:Nat×Operand=>(S.ev σ p.2).map fun y=>(p.1,cellsOf y)) ps.toList:=
   Qcf fun p hp=>by rw [hg.ev p.2 (by simp only [ho,Op.operands]; simp; exact ⟨p.1,by simpa using hp⟩)]
  simp only at h a⊢;rw [e] at a⊢;refine a ?_ h;split at h
  ·split at h
   ·cases h
   ·split at h
    ·split at h
     ·obtain rfl:=Osj h; rfl
     ·cases h
    ·cases h
  ·cases h
 | buildSlice t len ps=>
  rw [ho] at h;have hm: ∀p∈ps.toList,p.2∈o.op.operands:=fun p hp=>by simp only [ho,Op.operands]; simp; exact ⟨p.1,by simpa using hp⟩
  have e:mapO (fun p:Nat×Operand=>S.ev σ2 p.2) ps.toList=mapO (fun p:Nat×Operand=>S.ev σ p.2) ps.toList:=
   Qcf fun p hp=>by rw [hg.ev p.2 (hm p hp)]
  simp only at h⊢;rw [e];split at h
  ·rename_i r j h1 h2
   try simp only [h1,h2]
   split at h
   ·rename_i q' xs h3 h4
    have aq: ∀x∈xs,agN σ.H σ2.H (QaK σ.H (Qi x)):=fun x hx=>by
     obtain ⟨p,hp,bi⟩:=QhX h4 x hx;exact hg.nmv (by rw [ho]; rfl) (by rw [ho]; rfl) p.2 (hm p hp) x bi
    have a3:xs.flatMap (Qu σ2.H)=xs.flatMap (Qu σ.H):=by
     rw [List.flatMap_def,List.flatMap_def];congr 1;exact List.map_congr_left fun x hx=>QbL (aq x hx).close
    have a5:agN σ.H σ2.H (xs.flatMap (Qu σ.H)):=fun n hn=>by
     obtain ⟨x,hx,hn⟩:=List.mem_flatMap.1 hn;exact QgD (aq x hx) n hn
    try simp only [h3,h4]
    rw [a3];split at h
    ·rename_i hc;split at h
     ·rename_i ys bk;obtain rfl:=Osj h;have bh:QU σ2.H j=QU σ.H j:=QaD (by simpa using hq)
      rw [if_pos (by rw [bh]; exact hc)]
      have e2:mapO (toD false (frz σ2.H (xs.flatMap (Qu σ.H))) q'.ty) xs=mapO (toD false (frz σ.H (xs.flatMap (Qu σ.H))) q'.ty) xs:=
       Qcf fun x hx=>QbZ ((aq x hx).close.frz a5)
      rw [e2,bk];exact ⟨rfl,a5⟩
     ·cases h
    ·cases h
   ·cases h
  ·cases h
 | load t x=>
  rw [ho] at h a;have e:=hg.ev x (by simp [ho,Op.operands])
  simp only at h a⊢;rw [e] at a⊢;have hn:=hg.nma (by rw [ho]; rfl) x (by simp [ho,Op.operands])
  split at h
  ·rename_i r b ao h1 h2;simp only [h1,h2] at a⊢;have hl:=(hn _ h2) b (by simp [Qi,Qh])
   rw [hl] at a⊢;refine a ?_ h;split at h
   ·split at h
    ·split at h
     ·obtain rfl:=Osj h; rfl
     ·split at h
      ·obtain rfl:=Osj h; rfl
      ·cases h
    ·cases h
   ·cases h
  ·rename_i r b i ao h1 h2;simp only [h1,h2] at a⊢;have hl:=(hn _ h2) b (by simp [Qi,Qh])
   rw [hl] at a⊢;refine a ?_ h;split at h
   ·obtain ⟨z,hz,h⟩:=Obs h;obtain ⟨z',a0,h⟩:=Obs h;obtain rfl:=Osj h; rfl
   ·cases h
  ·rename_i r b i ao h1 h2;simp only [h1,h2] at a⊢;have hl:=(hn _ h2) b (by simp [Qi,Qh])
   rw [hl] at a⊢;refine a ?_ h;split at h
   ·obtain ⟨z,hz,h⟩:=Obs h;obtain ⟨z',a0,h⟩:=Obs h;split at h
    ·cases h
    split at h
    ·obtain rfl:=Osj h; rfl
    ·split at h
     ·obtain rfl:=Osj h; rfl
     ·cases h
   ·cases h
  ·rename_i r u z h1 h2;simp only [h1,h2] at a⊢;refine a ?_ h;obtain ⟨z',a0,h⟩:=Obs h;obtain rfl:=Osj h; rfl
  ·cases h
 | nilCheck x=>
  rw [ho] at h a;have e:=hg.ev x (by simp [ho,Op.operands])
  simp only at h a⊢;rw [e] at a⊢;have hn:=hg.nma (by rw [ho]; rfl) x (by simp [ho,Op.operands])
  split at h
  ·rename_i b ao h2;simp only [h2] at a⊢;have hl:=(hn _ h2) b (by simp [Qi,Qh])
   rw [hl] at a⊢;refine a ?_ h;split at h
   ·obtain rfl:=Osj h; rfl
   ·cases h
  ·rename_i u z h2;simp only [h2] at a⊢;refine a ?_ h;obtain rfl:=Osj h; rfl
  ·rename_i b i ao h2;simp only [h2] at a⊢;have hl:=(hn _ h2) b (by simp [Qi,Qh])
   rw [hl] at a⊢;refine a ?_ h;split at h
   ·obtain rfl:=Osj h; rfl
   ·cases h
  ·cases h
 | binOp op t x z t'=>
  rw [ho] at h a;have e1:=hg.ev x (by simp [ho,Op.operands])
  have e2:=hg.ev z (by simp [ho,Op.operands])
  simp only at h a⊢;rw [e1,e2] at a⊢;refine a ?_ h;split at h
  ·rw [Qis] at h;obtain ⟨z',a0,h⟩:=Obs h;obtain rfl:=Osj h; rfl
  ·cases h
 | unOp op t x=>
  rw [ho] at h a;have e:=hg.ev x (by simp [ho,Op.operands])
  simp only at h a⊢;rw [e] at a⊢;refine a ?_ h;split at h
  ·obtain rfl:=Osj h; rfl
  ·obtain rfl:=Osj h; rfl
  ·cases h
 | convert t u x=>
  rw [ho] at h a;have e:=hg.ev x (by simp [ho,Op.operands])
  simp only at h a⊢;rw [e] at a⊢;refine a ?_ h;split at h
  ·split at h
   ·obtain rfl:=Osj h; rfl
   ·cases h
  ·cases h
 | makeSlice t l c=>
  rw [ho] at h a;have e1:=hg.ev l (by simp [ho,Op.operands])
  have e2:=hg.ev c (by simp [ho,Op.operands])
  simp only at h a⊢;rw [e1,e2] at a⊢;split at h
  ·rename_i r j n m h1 h2 h3 h4;simp only [h1,h2,h3,h4] at a⊢;split at h
   ·rename_i q' h5;simp only [h5] at a⊢;split at h
    ·rename_i hc;split at h
     ·rename_i bg;obtain rfl:=Osj h;refine a (by trivial) ?_
      rw [QaD (H:=σ.H) (by simpa using hq),if_pos hc,if_pos bg]
     ·cases h
    ·cases h
   ·cases h
  ·cases h
 | slice t x lo hi mx=>
  rw [ho] at h;have e:=hg.ev x (by simp [ho,Op.operands])
  have hn:=hg.nmv (by rw [ho]; rfl) (by rw [ho]; rfl) x (by simp [ho,Op.operands])
  have el: ∀d,optB σ2 d lo=optB σ d lo:=fun d=>Qpn hg fun y hy=>by simp [ho,Op.operands,hy]
  have eh: ∀d,optB σ2 d hi=optB σ d hi:=fun d=>Qpn hg fun y hy=>by simp [ho,Op.operands,hy]
  simp only at h⊢;rw [e];split at h
  ·rename_i r z h1 h2
   try simp only [h1,h2]
   split at h
   ·rename_i ap
    try simp only [ap]
    split at h
    ·rename_i s
     try simp only
     rw [el];have e3:(optB σ 0 lo).bind (fun l=>(optB σ2 (s.length:Int) hi).bind fun h=>if 0≤l∧l≤h∧h≤(s.length:Int) then kv (R:=Out) some (.s (.d .str ((s.drop l.toNat).take (h.toNat-l.toNat)))) else none)=(optB σ 0 lo).bind (fun l=>(optB σ (s.length:Int) hi).bind fun h=>if 0≤l∧l≤h∧h≤(s.length:Int) then kv (R:=Out) some (.s (.d .str ((s.drop l.toNat).take (h.toNat-l.toNat)))) else none):=by rw [eh]
     refine ⟨e3.trans h,?_⟩;obtain ⟨z1,_,h⟩:=Obs h;obtain ⟨z2,_,h⟩:=Obs h;split at h
     ·obtain rfl:=Osj h; intro n hn; simp at hn
     ·cases h
    ·cases h
   ·rename_i u ap
    try simp only [ap]
    rw [QbZ (hn _ h2).close,QbL (hn _ h2).close,Qqf (hn _ h2).close];split at h
    ·rename_i b l0 n0 az
     try simp only [az]
     rw [el,eh];refine ⟨h,?_⟩;obtain ⟨z1,_,h⟩:=Obs h;obtain ⟨z2,_,h⟩:=Obs h;split at h
     ·obtain rfl:=Osj h; intro n hn; simp at hn
     ·cases h
    rename_i az
    try simp only [az]
    obtain ⟨xs,aq,h⟩:=Obs h;rw [aq,Obn];rw [el,eh];refine ⟨h,?_⟩;obtain ⟨z1,_,h⟩:=Obs h;obtain ⟨z2,_,h⟩:=Obs h;split at h
    ·obtain rfl:=Osj h; exact QgD (hn _ h2)
    ·cases h
   ·cases h
  ·cases h
 | fieldAddr s x f=>
  rw [ho] at h a;have e:=hg.ev x (by simp [ho,Op.operands])
  have hn:=hg.nma (by rw [ho]; rfl) x (by simp [ho,Op.operands])
  simp only at h a⊢;rw [e] at a⊢;split at h
  ·rename_i r h1;simp only [h1] at a⊢;split at h
   ·cases h
   ·rename_i bf;rw [if_neg bf] at a⊢;split at h
    ·rename_i ao u h2;simp only [h2] at a⊢;split at h
     ·rename_i q' h3;simp only [h3] at a⊢;split at h
      ·cases h
      ·rename_i hz;rw [if_neg hz] at a⊢;split at h
       ·rename_i b k h4;simp only [h4] at a⊢;have hl:=(hn _ h4) b (by simp [Qi,Qh])
        rw [hl] at a⊢;refine a ?_ h;split at h
        ·obtain rfl:=Osj h; rfl
        ·cases h
       ·rename_i b i k h4;simp only [h4] at a⊢;have hl:=(hn _ h4) b (by simp [Qi,Qh])
        rw [hl] at a⊢;refine a ?_ h;split at h
        ·obtain rfl:=Osj h; rfl
        ·cases h
       ·rename_i b i k h4;simp only [h4] at a⊢;have hl:=(hn _ h4) b (by simp [Qi,Qh])
        rw [hl] at a⊢;refine a ?_ h;split at h
        ·obtain ⟨_,h⟩:=Qcz h;obtain rfl:=Osj h; rfl
        ·cases h
       ·rename_i w z h4;simp only [h4] at a⊢;refine a ?_ h;obtain ⟨_,h⟩:=Qcz h;obtain ⟨z1,_,h⟩:=Obs h;obtain rfl:=Osj h; rfl
       ·cases h
     ·cases h
    ·cases h
  ·cases h
 | field s x f=>
  rw [ho] at h a;have e:=hg.ev x (by simp [ho,Op.operands])
  simp only at h a⊢;rw [e] at a⊢;refine a ?_ h;split at h
  ·split at h
   ·cases h
   ·split at h
    ·split at h
     ·split at h
      ·split at h
       ·obtain rfl:=Osj h; rfl
       ·split at h
        ·obtain rfl:=Osj h; rfl
        ·cases h
      ·cases h
     ·split at h
      ·obtain ⟨z1,_,h⟩:=Obs h;obtain rfl:=Osj h; rfl
      ·cases h
     ·cases h
    ·cases h
  ·cases h
 | indexAddr t x ix=>
  rw [ho] at h a;have e1:=hg.ev x (by simp [ho,Op.operands])
  have e2:=hg.ev ix (by simp [ho,Op.operands])
  have hn:=hg.nmv (by rw [ho]; rfl) (by rw [ho]; rfl) x (by simp [ho,Op.operands])
  simp only at h a⊢;rw [e1,e2] at a⊢;split at h
  ·rename_i r b k i h1 h2 h3;simp only [h1,h2,h3] at a⊢;have hl:=(hn _ h2).close b (by simp [Qi,Qh])
   rw [hl] at a⊢;refine a ?_ h;split at h
   ·split at h
    ·split at h
     ·obtain rfl:=Osj h; rfl
     ·cases h
    ·cases h
   ·split at h
    ·split at h
     ·obtain ⟨z1,_,h⟩:=Obs h;obtain rfl:=Osj h; rfl
     ·cases h
    ·cases h
   ·cases h
  ·rename_i r b lo n k i h1 h2 h3;simp only [h1,h2,h3] at a⊢;have hl:=(hn _ h2).close b (by simp [Qi,Qh])
   rw [hl] at a⊢;refine a ?_ h;split at h
   ·split at h
    ·split at h
     ·obtain rfl:=Osj h; rfl
     ·cases h
    ·cases h
   ·split at h
    ·split at h
     ·obtain ⟨z1,_,h⟩:=Obs h;obtain rfl:=Osj h; rfl
     ·cases h
    ·cases h
   ·cases h
  ·rename_i r b i ao k j h1 h2 h3;simp only [h1,h2,h3] at a⊢;have hl:=(hn _ h2).close b (by simp [Qi,Qh])
   rw [hl] at a⊢;refine a ?_ h;split at h
   ·split at h
    ·split at h
     ·obtain ⟨z1,_,h⟩:=Obs h;obtain ⟨z2,_,h⟩:=Obs h;split at h
      ·obtain rfl:=Osj h; rfl
      ·cases h
     ·cases h
    ·cases h
   ·cases h
  ·rename_i r u xs k i h1 h2 h3;simp only [h1,h2,h3] at a⊢;refine a ?_ h;split at h
   ·split at h
    ·obtain ⟨z1,_,h⟩:=Obs h;obtain rfl:=Osj h; rfl
    ·cases h
   ·cases h
  ·cases h
 | index t x ix=>
  rw [ho] at h a;have e1:=hg.ev x (by simp [ho,Op.operands])
  have e2:=hg.ev ix (by simp [ho,Op.operands])
  simp only at h a⊢;rw [e1,e2] at a⊢;refine a ?_ h;split at h
  ·split at h
   ·split at h
    ·obtain ⟨z1,_,h⟩:=Obs h;obtain rfl:=Osj h; rfl
    ·cases h
   ·cases h
  ·cases h
 | extract x i=>
  rw [ho] at h a;simp only at h a⊢;cases x with
  | tmp t=>
   have e:=hg.env t (by simp [ho,Op.operands])
   simp only at h a⊢;rw [e] at a⊢;refine a ?_ h;split at h
   ·split at h
    ·obtain rfl:=Osj h; rfl
    ·cases h
   ·cases h
  | _=>cases h
 | makeMap t r=>
  rw [ho] at h a;simp only at h a⊢;split at h
  ·rename_i j h1;split at h
   ·rename_i hj;obtain rfl:=Osj h;simp only [h1] at a⊢;refine a (by trivial) ?_
    rw [QaD (H:=σ.H) (by simpa using hq),if_pos hj]
   ·cases h
  ·cases h
 | lookup t m x ok=>
  rw [ho] at h a;have e1:=hg.ev m (by simp [ho,Op.operands])
  have e2:=hg.ev x (by simp [ho,Op.operands])
  have hn:=hg.nmv (by rw [ho]; rfl) (by rw [ho]; rfl) m (by simp [ho,Op.operands])
  simp only at h a⊢;rw [e1,e2] at a⊢;split at h
  ·rename_i tk b n h1 h2 h3;simp only [h1,h2,h3] at a⊢;rw [(hn _ h2).close b (by simp [Qi,Qh])] at a⊢
   refine a ?_ h;split at h
   ·obtain rfl:=Osj h; rfl
   ·cases h
  ·cases h
 | makeFunc g first aw=>
  rw [ho] at h a
  have e:mapO (S.ev σ2) aw.toList=mapO (S.ev σ) aw.toList:=Qcf fun x hx=>hg.ev x (by
   simp only [ho,Op.operands]; simp at hx; simp [hx])
  simp only at h a⊢;rw [e] at a⊢;refine a ?_ h;split at h
  ·split at h
   ·obtain rfl:=Osj h; rfl
   ·cases h
  ·cases h
 | call c=>
  rw [ho] at h a
  have hm: ∀x∈c.args.toList,x∈o.op.operands:=fun x hx=>by
   simp only [ho,Op.operands,Call.operands]; simp at hx; simp [hx]
  simp only at h a⊢;cases hc:c.callee with
  | builtin b=>
   simp only [hc] at h a⊢;cases b with
   | len=>
    simp only at h a⊢;split at h
    ·rename_i x t h1 h2;have hx:=hm x (by rw [h1]; simp)
     have e:=hg.ev x hx;have hn:=hg.nmv (by rw [ho]; rfl) (by rw [ho]; rfl) x hx
     simp only [h1,h2] at a⊢;rw [e] at a⊢;split at h
     ·rename_i r z h3 h4;simp only [h3,h4] at a⊢;rw [Qtv (hn _ h4).close] at a⊢;refine a ?_ h;obtain ⟨z1,_,h⟩:=Obs h;obtain rfl:=Osj h; rfl
     ·cases h
    ·cases h
   | max=>
    simp only at h a⊢;split at h
    ·rename_i x z h1;have e1:=hg.ev x (hm x (by rw [h1]; simp))
     have e2:=hg.ev z (hm z (by rw [h1]; simp))
     simp only [h1] at a⊢;rw [e1,e2] at a⊢;refine a ?_ h;split at h
     ·split at h
      ·obtain rfl:=Osj h; rfl
      ·cases h
     ·cases h
    ·cases h
   | min=>
    simp only at h a⊢;split at h
    ·rename_i x z h1;have e1:=hg.ev x (hm x (by rw [h1]; simp))
     have e2:=hg.ev z (hm z (by rw [h1]; simp))
     simp only [h1] at a⊢;rw [e1,e2] at a⊢;refine a ?_ h;split at h
     ·split at h
      ·obtain rfl:=Osj h; rfl
      ·cases h
     ·cases h
    ·cases h
   | copy=>
    simp only at h a⊢;split at h
    ·rename_i x z t t' h1 h2;have e1:=hg.ev x (hm x (by rw [h1]; simp))
     have e2:=hg.ev z (hm z (by rw [h1]; simp))
     have n1:=hg.nmv (by rw [ho]; rfl) (by rw [ho]; rfl) x (hm x (by rw [h1]; simp))
     have n2:=hg.nmv (by rw [ho]; rfl) (by rw [ho]; rfl) z (hm z (by rw [h1]; simp))
     simp only [h1,h2] at a⊢;rw [e1,e2] at a⊢;split at h
     ·rename_i r d y h3 h4 h5;simp only [h3,h4,h5] at a⊢;split at h
      ·rename_i qr h6;simp only [h6] at a⊢;split at h
       ·rename_i ap;rw [if_pos ap] at a⊢;rw [Qqf (n1 _ h4).close] at a⊢;obtain ⟨v,hv,h⟩:=Obs h;rw [hv,Obn] at a⊢;rw [(n1 _ h4).close v.1 (QvU hv),QbZ (n2 _ h5).close,Qfk (n2 _ h5).close] at a⊢;refine a ?_ h;split at h
        ·obtain ⟨ys,_,h⟩:=Obs h;obtain ⟨br,_,h⟩:=Obs h;split at h
         ·split at h
          ·obtain rfl:=Osj h; rfl
          ·cases h
         ·cases h
        ·cases h
       ·cases h
      ·cases h
     ·cases h
    ·cases h
   | _=>cases h
  | _=>simp only [hc] at h; cases h
 | _=>rw [ho] at h; cases h
end
end Go.Proofs.YtkkljegcnnfanaaGreatDoor.S
