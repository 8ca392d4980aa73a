/- The machinery S, part 4: a run of a program's code over typed symbolic data, and that it is what the code does. -/
import Derived.Test.YtkkljegcnnfanaaGreatDoorS3
import Derived.MapKept
import Derived.LoopN
set_option linter.unusedVariables false
set_option linter.unusedSimpArgs false
namespace Go.Proofs.YtkkljegcnnfanaaGreatDoor.S
section
open Go Go.RowKit
variable {w w' w0:World} {S S' S3 Q Z:Nat→Prop} {M M':Nat→Nat→Prop} {N:Nat→Option (Option (Nat×Nat))} {B:Nat→Option Pl} {a:Act} {σ:St} {β:Qr} {H:Heap} {fr l:List Nat}
theorem Qmy {e:TypeId} {t:Ty} {xs:List (den t)} {q:Option (Nat×Nat)} (hs: ∀(B:Nat→Prop) x cs,Rp w (fun g=>S g∨B g) t x cs→Rp w (fun g=>S' g∨B g) t x cs) (h:RowO w S e t xs q):RowO w S' e t xs q:=by
 rcases h with h | ⟨b,cap,c,rows,h1,h2,h3,h4,h5,h6,h7⟩
 ·exact .inl h
 ·exact .inr ⟨b,cap,c,rows,h1,h2,h3,h4,h5,Qac (fun _ _=>hs _ _ _) h6,h7⟩
def Qhe (w:World) (S S':Nat→Prop) (sl:Bool):Prop:= ∀(B:Nat→Prop) t (x:den t) cs,(sl=false→QaL t=false)→Rp w (fun g=>S g∨B g) t x cs→Rp w (fun g=>S' g∨B g) t x cs
theorem Qhe.rp {sl:Bool} (hs:Qhe w S S' sl) {t:Ty} {x:den t} {cs:List Value} (hc:sl=false→QaL t=false) (h:Rp w S t x cs):Rp w S' t x cs:=by
 have:=hs (fun _=>False) t x cs hc (by simpa using h)
 simpa using this
theorem QqB {sl:Bool} (hs:Qhe w S S' sl) {c:CK} {x:c.den} {v:Value} {F:List Nat} (hc:sl=false→c.sl=false) (h:QcW w S (fun _=>False) B c x v F):QcW w S' (fun _=>False) B c x v F:=by
 cases c with
 | dat t=>obtain ⟨⟨h1,h2⟩,h3⟩:=h; exact ⟨⟨h1,hs.rp hc h2⟩,h3⟩
 | own e t=>obtain ⟨q,h1,h2⟩:=h; exact ⟨q,Qmy (fun _ _ _=>hs _ _ _ _ hc) h1,h2⟩
 | vw e t=>obtain ⟨q,h1,h2⟩:=h; exact ⟨q,Qmy (fun _ _ _=>hs _ _ _ _ hc) h1,h2⟩
 | pd t=>obtain ⟨_,_,_,h2⟩:=h.1.any; exact h2.elim
 | fn f ts=>
  obtain ⟨⟨us,e,h⟩,h4⟩:=h;cases ts with
  | nil=>exact ⟨⟨us,e,h⟩,h4⟩
  | cons t r=>obtain ⟨_,_,_,h1,_⟩:=h; obtain ⟨_,_,_,hq⟩:=h1.any; exact hq.elim
 | bx t=>obtain ⟨b,c,e,cs,h1,h2,h3,h4,h5⟩:=h; exact ⟨b,c,e,cs,h1,h2,h3,hs.rp (fun e=>by have:=hc e; cases this) h4,h5⟩
 | _=>exact h
theorem Qhc {sl:Bool} (hs:Qhe w S S' sl): ∀{cs:List CK} {x:denC cs} {vs:List Value} {F:List Nat},(sl=false→cs.any CK.sl=false)→Qbz w S (fun _=>False) B cs x vs F→Qbz w S' (fun _=>False) B cs x vs F
 | [],_,_,_,_,h=>h
 | c::r,_,_,_,hc,⟨v,vs',F1,F2,h1,h2,h3,h4⟩=>
  ⟨v,vs',F1,F2,h1,h2,QqB hs (fun e=>by have:=hc e; simp only [List.any_cons,Bool.or_eq_false_iff] at this; exact this.1) h3,Qhc hs (fun e=>by have:=hc e; simp only [List.any_cons,Bool.or_eq_false_iff] at this; exact this.2) h4⟩
theorem Qxd {sl:Bool} (hs:Qhe w S S' sl) {k:VK} {x:k.den} {v:Value} {F:List Nat} (hc:sl=false→k.sl=false) (h:VKR w S (fun _=>False) B k x v F):VKR w S' (fun _=>False) B k x v F:=by
 cases k with
 | b cs=>obtain ⟨g,c,e,F',h1,h2,h5,h3,h4⟩:=h; exact ⟨g,c,e,F',h1,h2,h5,Qhc hs hc h3,h4⟩
 | g cs=>obtain ⟨vs,e,h⟩:=h; exact ⟨vs,e,Qhc hs hc h⟩
 | s c=>
  by_cases hd: ∃t,c= .dat t
  ·obtain ⟨t,rfl⟩:=hd;obtain ⟨⟨cs,h1,h2⟩,h3⟩:=h;exact ⟨⟨cs,h1,hs.rp hc h2⟩,h3⟩
  ·have hn: ∀t,c≠ .dat t:=fun t e=>hd ⟨t,e⟩
   exact (Qit hn).2 (QqB hs hc ((Qit hn).1 h))
theorem Qto {sl:Bool} (hs:Qhe w S S' sl): ∀{ks:List VK} {x:denV ks} {vs:List Value} {F:List Nat},(sl=false→ks.any VK.sl=false)→VKsR w S (fun _=>False) B ks x vs F→VKsR w S' (fun _=>False) B ks x vs F
 | [],_,_,_,_,h=>h
 | c::r,_,_,_,hc,⟨v,vs',F1,F2,h1,h2,h3,h4⟩=>
  ⟨v,vs',F1,F2,h1,h2,Qxd hs (fun e=>by have:=hc e; simp only [List.any_cons,Bool.or_eq_false_iff] at this; exact this.1) h3,Qto hs (fun e=>by have:=hc e; simp only [List.any_cons,Bool.or_eq_false_iff] at this; exact this.2) h4⟩
theorem QqC {sl:Bool} (hs:Qhe w S S' sl): ∀{cs:List CK} {y:Qci cs} {vs:List Value} {F:List Nat} {nm:Nat},(sl=false→cs.any CK.sl=false)→CwR w S B nm cs y vs F→CwR w S' B nm cs y vs F
 | [],_,_,_,_,_,h=>h
 | c::r,_,_,_,_,hc,h=>by
  have hc1:sl=false→c.sl=false:=fun e=>by have:=hc e; simp only [List.any_cons,Bool.or_eq_false_iff] at this; exact this.1
  have hc2:sl=false→r.any CK.sl=false:=fun e=>by have:=hc e; simp only [List.any_cons,Bool.or_eq_false_iff] at this; exact this.2
  cases c with
  | own e t=>obtain ⟨v,vs',q,F2,h1,h2,h3,h4,h5⟩:=h; exact ⟨v,vs',q,F2,h1,h2,Qmy (fun _ _ _=>hs _ _ _ _ hc1) h3,h4,QqC hs hc2 h5⟩
  | _=>obtain ⟨v,vs',h1,h2⟩:=h; exact ⟨v,vs',h1,QqC hs hc2 h2⟩
theorem QeC {sl:Bool} (hs:Qhe w S S' sl): ∀{ps:List PK} {y:denQ ps} {vs:List Value} {F:List Nat} {i:Nat},(sl=false→ps.any PK.sl=false)→Qeg w S B i ps y vs F→Qeg w S' B i ps y vs F
 | [],_,_,_,_,_,h=>h
 | k::r,_,_,_,_,hc,h=>by
  have hc1:sl=false→k.sl=false:=fun e=>by have:=hc e; simp only [List.any_cons,Bool.or_eq_false_iff] at this; exact this.1
  have hc2:sl=false→r.any PK.sl=false:=fun e=>by have:=hc e; simp only [List.any_cons,Bool.or_eq_false_iff] at this; exact this.2
  cases k with
  | val t=>obtain ⟨v,vs',h1,h2⟩:=h; exact ⟨v,vs',h1,QeC hs hc2 h2⟩
  | ptr t=>obtain ⟨v,vs',h1,h2⟩:=h; exact ⟨v,vs',h1,QeC hs hc2 h2⟩
  | fn f ts=>obtain ⟨v,vs',h1,h2⟩:=h; exact ⟨v,vs',h1,QeC hs hc2 h2⟩
  | box ci co=>
   obtain ⟨v,vs',F1,F2,b,base,c,e,h1,h2,h3,h4,h5,h6,h7,h8,h9⟩:=h;exact ⟨v,vs',F1,F2,b,base,c,e,h1,h2,h3,h4,h5,h6,Qhc hs hc1 h7,h8,QeC hs hc2 h9⟩
  | row e t=>obtain ⟨v,vs',q,F2,h1,h2,h3,h4,h5⟩:=h; exact ⟨v,vs',q,F2,h1,h2,Qmy (fun _ _ _=>hs _ _ _ _ hc1) h3,h4,QeC hs hc2 h5⟩
  | agg cs=>obtain ⟨v,vs',us,F1,F2,h1,h2,h3,h4,h5⟩:=h; exact ⟨v,vs',us,F1,F2,h1,h2,h3,QqC hs hc1 h4,QeC hs hc2 h5⟩
theorem Kept.trans {a b c:World} (h:Kept M a b) (k:Kept M' b c) (hM: ∀g i,M' g i→M g i):Kept M a c where
 os:=k.os.trans h.os
 tape:=k.tape.trans h.tape
 output:=k.output.trans h.output
 size:=Nat.le_trans h.size k.size
 block:=fun g hg hn=>by rw [k.block g (Nat.lt_of_lt_of_le hg h.size) fun i hi=>hn i (hM g i hi),h.block g hg hn]
 cells:=fun g x e fz hx=>by
  obtain ⟨x1,h1,h2,h3⟩:=h.cells g x e fz hx;obtain ⟨x2,h4,h5,h6⟩:=k.cells g x1 e fz h1;exact ⟨x2,h4,by omega,fun i hi=>(h6 i fun hh=>hi (hM g i hh)).trans (h3 i hi)⟩
theorem QiV (hrep:RepB Z M N w0 β σ a w): ∀{xs:List Operand} {ys:List SV},mapO (ev σ) xs=some ys→All2 (VV w (RO Z β σ.H) β σ.H) ys (xs.map a.eval)
 | [],_,h=>by
  simp only [mapO,Oie] at h;subst h; exact .nil
 | x::r,_,h=>by
  simp only [mapO] at h;split at h
  ·rename_i y hy;split at h
   ·rename_i z hz;obtain rfl:=Osj h;exact .cons (Qh hrep hy) (QiV hrep hz)
   ·cases h
  ·cases h
theorem Qgy: ∀{l:List (Nat×Ob)},QcQ H l=true→(∀p∈l,look H p.1=none)∧(l.map (·.1)).Nodup
 | [],_=>⟨fun p hp=>by simp at hp,by simp⟩
 | p::r,h=>by
  simp only [QcQ,Bool.and_eq_true] at h;obtain ⟨⟨h1,h2⟩,h3⟩:=h;have ih:=Qgy h3;refine ⟨fun q hq=>?_,?_⟩
  ·rcases List.mem_cons.1 hq with rfl | hq
   ·exact Qbg h1
   ·exact ih.1 q hq
  ·simp only [List.map_cons,List.nodup_cons];refine ⟨fun hm=>?_,ih.2⟩
   have:=Qbg h2;obtain ⟨q,hq,e⟩:=List.mem_map.1 hm;have h4:=Qap ih.2 hq;rw [e] at h4;rw [this] at h4;cases h4
theorem QC {α:Type}: ∀{A C:List (Nat×α)} {o:Nat},look (A++C) o=match look A o with | some x=>some x | none=>look C o
 | [],_,_=>rfl
 | p::r,C,o=>by
  obtain ⟨k,x⟩:=p;rw [List.cons_append,Qe,Qe];by_cases e:k=o
  ·simp [e]
  ·simp only [if_neg e]; exact QC
theorem Qih {l:List Nat} {o:Nat}:look (l.map fun o=>(o,Ob.dead)) o=if o∈l then some .dead else none:=by
 induction l with
 | nil=>rfl
 | cons k r ih=>
  rw [List.map_cons,Qe,ih];by_cases e:k=o
  ·simp [e]
  ·rw [if_neg e];by_cases h:o∈r
   ·simp [h]
   ·rw [if_neg h,if_neg];simp only [List.mem_cons,not_or];exact ⟨fun e'=>e e'.symm,h⟩
theorem Qdd {α:Type}: ∀{l:List (Nat×α)} {o:Nat},(∀p∈l,p.1≠o)→look l o=none
 | [],_,_=>rfl
 | p::r,o,h=>by
  obtain ⟨k,x⟩:=p;rw [Qe,if_neg (h (k,x) (by simp))]
  exact Qdd fun p hp=>h p (by simp [hp])
theorem QgP {fr:List Nat} {o:Nat}:(look (frz H fr) o).isSome=(look H o).isSome:=by
 by_cases h: ∃e t xs,look H o=some (.row e t xs)
 ·obtain ⟨e,t,xs,h⟩:=h;rw [Qaz (l:=fr) h,h];rfl
 ·rw [Qav (fun e t xs e'=>h ⟨e,t,xs,e'⟩)]
theorem Qtf {xs:List SV} {vs:List Value} (h:All2 (VV w S β H) xs vs):VL w S β H (tup xs) (tupV vs):=by
 cases h with
 | nil=>exact ⟨[],rfl,.nil⟩
 | cons h1 h2=>
  cases h2 with
  | nil=>exact h1
  | cons h3 h4=>exact ⟨_,rfl,.cons h1 (.cons h3 h4)⟩
end
section
open Go Go.RowKit
variable {P:Program} {T:Tab} {G:Env} {w w' w0:World} {S S' S3 Q Z:Nat→Prop} {M M':Nat→Nat→Prop} {N:Nat→Option (Option (Nat×Nat))} {B:Nat→Option Pl} {a:Act} {σ:St} {β:Qr} {H:Heap} {fr l:List Nat}
variable {o:Oper} {next:Act→World→Prop} {Q':Exit→Act→World→Prop} {R:Type} {K:St→Option R} {y:R}
theorem QdQ: ∀{ps:List PK} {xs:List SV} {i:Nat},((bxl i ps xs).map (·.1)).Sublist ((QaN i ps).map (·.1))∧ ∀p∈bxl i ps xs, ∃ci,(p.1,ci)∈QaN i ps∧ci.length=p.2.2.2
 | [],xs,i=>by cases xs <;> exact ⟨by simp [bxl],fun p hp=>by simp [bxl] at hp⟩
 | k::r,[],i=>by cases k <;> exact ⟨by simp [bxl],fun p hp=>by simp [bxl] at hp⟩
 | .val _::r,x::xs,i=>QdQ (ps:=r)
 | .ptr _::r,x::xs,i=>QdQ (ps:=r)
 | .fn _ _::r,x::xs,i=>QdQ (ps:=r)
 | .row _ _::r,x::xs,i=>QdQ (ps:=r)
 | .agg _::r,x::xs,i=>QdQ (ps:=r)
 | .box ci co::r,x::xs,i=>by
  have ih:=QdQ (ps:=r) (xs:=xs) (i:=i+1);by_cases hx: ∃o off,x= .s (.p o off)
  ·obtain ⟨o,off,rfl⟩:=hx;refine ⟨by simp only [bxl,QaN,List.map_cons]; exact ih.1.cons_cons _,fun p hp=>?_⟩
   simp only [bxl,List.mem_cons] at hp;rcases hp with rfl | hp
   ·exact ⟨ci,by simp [QaN],rfl⟩
   ·obtain ⟨c',h1,h2⟩:=ih.2 p hp;exact ⟨c',by simp [QaN,h1],h2⟩
  ·have e:bxl i (.box ci co::r) (x::xs)=bxl (i+1) r xs:=by
    cases x with
    | g _=>rfl
    | s s=>cases s <;> first | rfl | exact absurd ⟨_,_,rfl⟩ hx
   rw [e];refine ⟨by simp only [QaN,List.map_cons]; exact ih.1.cons _,fun p hp=>?_⟩
   obtain ⟨c',h1,h2⟩:=ih.2 p hp;exact ⟨c',by simp [QaN,h1],h2⟩
theorem QoB {nm:Nat} {z:List (Nat×TypeId×Ty)}: ∀{cs:List CK},Qcb nm z cs=Qcb nm [] cs++z:=by
 intro cs
 induction cs generalizing nm with
 | nil=>rfl
 | cons c r ih=>cases c <;> simp only [Qcb,List.cons_append] <;> first | exact ih | rw [ih]
theorem Qct {β:Qr} {H:Heap}: ∀{cs:List CK} {ss:List S1} {nm:Nat},((rwC β H nm cs ss).map (·.1)).Sublist ((Qcb nm [] cs).map (·.1))∧ ∀p∈rwC β H nm cs ss, ∃q n,p.2= .row q n
 | [],ss,nm=>by cases ss <;> exact ⟨by simp [rwC],fun p hp=>by simp [rwC] at hp⟩
 | c::r,[],nm=>by cases c <;> exact ⟨by simp [rwC],fun p hp=>by simp [rwC] at hp⟩
 | .own e t::r,s::ss,nm=>by
  have ih:=Qct (β:=β) (H:=H) (cs:=r) (ss:=ss) (nm:=nm+1);refine ⟨by simp only [rwC,Qcb,List.map_cons]; exact ih.1.cons_cons _,fun p hp=>?_⟩
  simp only [rwC,List.mem_cons] at hp;rcases hp with rfl | hp
  ·cases s <;> exact ⟨_,_,rfl⟩
  ·exact ih.2 p hp
 | .dat t::r,s::ss,nm=>Qct (cs:=r)
 | .ptr _ _::r,s::ss,nm=>Qct (cs:=r)
 | .ref _::r,s::ss,nm=>Qct (cs:=r)
 | .pd _::r,s::ss,nm=>Qct (cs:=r)
 | .fn _ _::r,s::ss,nm=>Qct (cs:=r)
 | .mp::r,s::ss,nm=>Qct (cs:=r)
 | .bx _::r,s::ss,nm=>Qct (cs:=r)
 | .vw _ _::r,s::ss,nm=>Qct (cs:=r)
 | .any::r,s::ss,nm=>Qct (cs:=r)
theorem Qdg {β:Qr} {H:Heap}: ∀{ps:List PK} {xs:List SV} {i:Nat},((rwl β H i ps xs).map (·.1)).Sublist ((Qbx i ps).map (·.1))∧ ∀p∈rwl β H i ps xs, ∃q n,p.2= .row q n
 | [],xs,i=>by cases xs <;> exact ⟨by simp [rwl],fun p hp=>by simp [rwl] at hp⟩
 | k::r,[],i=>by cases k <;> exact ⟨by simp [rwl],fun p hp=>by simp [rwl] at hp⟩
 | .val _::r,x::xs,i=>Qdg (ps:=r)
 | .ptr _::r,x::xs,i=>Qdg (ps:=r)
 | .fn _ _::r,x::xs,i=>Qdg (ps:=r)
 | .box _ _::r,x::xs,i=>Qdg (ps:=r)
 | .row e t::r,x::xs,i=>by
  have ih:=Qdg (β:=β) (H:=H) (ps:=r) (xs:=xs) (i:=i+1);cases x with
  | g _=>exact ⟨by simp only [rwl,Qbx,List.map_cons]; exact ih.1.cons _,ih.2⟩
  | s s=>
   refine ⟨by simp only [rwl,Qbx,List.map_cons]; exact ih.1.cons_cons _,fun p hp=>?_⟩
   simp only [rwl,List.mem_cons] at hp;rcases hp with rfl | hp
   ·cases s <;> exact ⟨_,_,rfl⟩
   ·exact ih.2 p hp
 | .agg cs::r,x::xs,i=>by
  have ih:=Qdg (β:=β) (H:=H) (ps:=r) (xs:=xs) (i:=i+1);cases x with
  | s _=>exact ⟨by simp only [rwl,Qbx]; rw [QoB,List.map_append]; exact ih.1.trans (List.sublist_append_right _ _),ih.2⟩
  | g ss=>
   have ic:=Qct (β:=β) (H:=H) (cs:=cs) (ss:=ss) (nm:=9000100+100*i);refine ⟨by simp only [rwl,Qbx]; rw [QoB,List.map_append,List.map_append]; exact ic.1.append ih.1,fun p hp=>?_⟩
   simp only [rwl,List.mem_append] at hp;rcases hp with hp | hp
   ·exact ic.2 p hp
   ·exact ih.2 p hp
def Qjb (H:Heap) (l:List Nat):Prop:= ∀o∈l, ∃e t xs,look H o=some (.row e t xs)
theorem Qjb.append {l m:List Nat} (h:Qjb H l) (h':Qjb H m):Qjb H (l++m):=fun o ho=>by
 rcases List.mem_append.1 ho with ho | ho
 ·exact h o ho
 ·exact h' o ho
theorem Qmr {c:CK} {s:S1} {x:c.den} {l:List Nat} (h:unC H c s=some (x,l)) (hc:aggC c=true):Qjb H l:=by
 intro o ho;have h0:=Qkz h o ho;obtain ⟨ob,hk,hl⟩:=h0;cases ob with
 | row e t xs=>exact ⟨e,t,xs,hk⟩
 | map es=>
  exfalso;cases c with
  | own e t=>
   simp only [unC] at h;split at h
   ·simp only [Oie,Pmi] at h; rw [←h.2] at ho; simp at ho
   ·split at h
    ·rename_i hk';split at h
     ·split at h
      ·simp only [Oie,Pmi] at h;rw [←h.2] at ho;simp only [List.mem_singleton] at ho;subst ho;rw [hk] at hk';cases hk'
      ·cases h
     ·cases h
    ·cases h
   ·cases h
  | dat t=>
   simp only [unC] at h;split at h
   ·simp only [Oie,Pmi] at h; rw [←h.2] at ho; simp at ho
   ·cases h
  | pd t=>
   simp only [unC] at h;split at h
   ·split at h
    ·simp only [Oie,Pmi] at h; rw [←h.2] at ho; simp at ho
    ·cases h
   ·cases h
  | fn f ts=>
   simp only [unC] at h;split at h
   ·split at h
    ·split at h
     ·simp only [Oie,Pmi] at h; rw [←h.2] at ho; simp at ho
     ·cases h
    ·cases h
   ·cases h
  | any=>simp only [unC,Oie,Pmi] at h; rw [←h.2] at ho; simp at ho
  | _=>simp [aggC] at hc
 | _=>cases hl
theorem QgZ: ∀{cs:List CK} {ss:List S1} {x:denC cs} {l:List Nat},unCs H cs ss=some (x,l)→cs.all aggC=true→Qjb H l
 | [],[],_,_,h,_=>by
  simp only [unCs,Oie,Pmi] at h;rw [←h.2]; exact fun o ho=>by simp at ho
 | c::r,s::ss,_,_,h,hc=>by
  simp only [List.all_cons,Bool.and_eq_true] at hc;simp only [unCs] at h;split at h
  ·rename_i hy;split at h
   ·rename_i hz;simp only [Oie,Pmi] at h;rw [←h.2];exact (Qmr hy hc.1).append (QgZ hz hc.2)
   ·cases h
  ·cases h
 | [],_::_,_,_,h,_=>by simp [unCs] at h
 | _::_,[],_,_,h,_=>by simp [unCs] at h
theorem QuR {c:CK} {s:S1} {x:c.den} {l:List Nat} (h:unC H c s=some (x,l)) (hn:nlC H s=true): ∀o∈l, ∀e t xs,look H o=some (.row e t xs)→lent e=false:=by
 intro o ho e t xs hk;cases c with
 | own e0 t0=>
  simp only [unC] at h;split at h
  ·simp only [Oie,Pmi] at h; rw [←h.2] at ho; simp at ho
  ·split at h
   ·rename_i hk';split at h
    ·split at h
     ·simp only [Oie,Pmi] at h;rw [←h.2] at ho;simp only [List.mem_singleton] at ho;subst ho;simpa [nlC,hk] using hn
     ·cases h
    ·cases h
   ·cases h
  ·cases h
 | vw e0 t0=>
  simp only [unC] at h;split at h
  ·cases h
  split at h
  ·simp only [Oie,Pmi] at h; rw [←h.2] at ho; simp at ho
  all_goals first | (cases h; done) | skip
  all_goals
   split at h
   ·rename_i hk';split at h
    ·split at h
     ·simp only [Oie,Pmi] at h;rw [←h.2] at ho;simp only [List.mem_singleton] at ho;subst ho;simpa [nlC,hk] using hn
     ·cases h
    ·cases h
   ·cases h
 | mp=>
  simp only [unC] at h;split at h
  ·split at h
   ·rename_i hk';simp only [Oie,Pmi] at h;rw [←h.2] at ho;simp only [List.mem_singleton] at ho;subst ho;rw [hk] at hk';cases hk'
   ·cases h
  ·cases h
 | bx t=>simp [unC] at h
 | any=>simp only [unC,Oie,Pmi] at h; rw [←h.2] at ho; simp at ho
 | dat t=>
  simp only [unC] at h;split at h
  ·simp only [Oie,Pmi] at h; rw [←h.2] at ho; simp at ho
  ·cases h
 | pd t=>
  simp only [unC] at h;split at h
  ·split at h
   ·simp only [Oie,Pmi] at h; rw [←h.2] at ho; simp at ho
   ·cases h
  ·cases h
 | fn f ts=>
  simp only [unC] at h;split at h
  ·split at h
   ·split at h
    ·simp only [Oie,Pmi] at h; rw [←h.2] at ho; simp at ho
    ·cases h
   ·cases h
  ·cases h
 | ptr o off=>
  simp only [unC] at h;split at h
  ·split at h
   ·split at h
    ·simp only [Oie,Pmi] at h; rw [←h.2] at ho; simp at ho
    ·cases h
   ·cases h
  ·cases h
 | ref o=>
  simp only [unC] at h;split at h
  ·split at h
   ·split at h
    ·simp only [Oie,Pmi] at h; rw [←h.2] at ho; simp at ho
    ·cases h
   ·cases h
  ·cases h
theorem Qnn: ∀{cs:List CK} {ss:List S1} {x:denC cs} {l:List Nat},unCs H cs ss=some (x,l)→ss.all (nlC H)=true→ ∀o∈l, ∀e t xs,look H o=some (.row e t xs)→lent e=false
 | [],[],_,_,h,_=>by
  simp only [unCs,Oie,Pmi] at h;rw [←h.2]; exact fun o ho=>by simp at ho
 | c::r,s::ss,_,_,h,hc=>by
  simp only [List.all_cons,Bool.and_eq_true] at hc;simp only [unCs] at h;split at h
  ·rename_i hy;split at h
   ·rename_i hz;simp only [Oie,Pmi] at h;rw [←h.2];intro o ho;rcases List.mem_append.1 ho with ho | ho
    ·exact QuR hy hc.1 o ho
    ·exact Qnn hz hc.2 o ho
   ·cases h
  ·cases h
 | [],_::_,_,_,h,_=>by simp [unCs] at h
 | _::_,[],_,_,h,_=>by simp [unCs] at h
theorem QnA: ∀{ps:List PK} {xs:List SV} {x:denP ps} {l1 b1:List Nat},Qbb σ ps xs=some (x,l1,b1)→nlAs σ.H ps xs=true→ ∀o∈l1, ∀e t xs,look σ.H o=some (.row e t xs)→lent e=false
 | [],[],_,_,_,h,_=>by
  simp only [Qbb,Oie,Pmi] at h;obtain ⟨_,rfl,rfl⟩:=h;exact fun o ho=>by simp at ho
 | k::r,s::ss,_,l1,b1,h,hn=>by
  simp only [nlAs,Bool.and_eq_true] at hn;simp only [Qbb] at h;split at h
  ·rename_i x1 hy;split at h
   ·rename_i z hz;simp only [Oie,Pmi] at h;obtain ⟨_,rfl,rfl⟩:=h;have ih:=QnA (l1:=z.2.1) (b1:=z.2.2) hz hn.2;intro o ho;rcases List.mem_append.1 ho with ho | ho
    case inr=>exact ih o ho
    have hn1:=hn.1;cases k with
    | val t=>
     exfalso;simp only [argD] at hy;split at hy
     ·obtain rfl:=Osj hy; simp at ho
     ·cases hy
    | fn f ts=>
     exfalso;simp only [argD] at hy;split at hy
     ·split at hy
      ·split at hy
       ·obtain rfl:=Osj hy; simp at ho
       ·cases hy
      ·cases hy
     ·cases hy
    | ptr t=>
     exfalso;simp only [argD] at hy;split at hy
     ·split at hy
      ·obtain rfl:=Osj hy; simp at ho
      ·cases hy
     ·split at hy
      ·split at hy
       ·obtain rfl:=Osj hy; simp at ho
       ·cases hy
      ·cases hy
     ·split at hy
      ·obtain ⟨_,hy⟩:=Qcl hy;obtain ⟨d,hd,hy⟩:=Obs hy;obtain ⟨d',hd',hy⟩:=Obs hy;obtain rfl:=Osj hy; simp at ho
      ·cases hy
     ·cases hy
    | box ci co=>
     simp only [argD] at hy;split at hy
     ·rename_i o' off;split at hy
      ·rename_i cs hk;split at hy
       ·split at hy
        ·rename_i q hq;obtain rfl:=Osj hy;simp only [nlA,hk] at hn1;exact Qnn hq hn1 o ho
        ·cases hy
       ·cases hy
      ·cases hy
     ·cases hy
    | row e t=>
     simp only [argD] at hy;split at hy
     ·split at hy
      ·rename_i q hq;obtain rfl:=Osj hy;exact QuR hq hn1 o ho
      ·cases hy
     ·cases hy
    | agg cs=>
     simp only [argD] at hy;split at hy
     ·split at hy
      ·rename_i q hq;obtain rfl:=Osj hy;exact Qnn hq hn1 o ho
      ·cases hy
     ·cases hy
   ·cases h
  ·cases h
 | [],_::_,_,_,_,h,_=>by simp [Qbb] at h
 | _::_,[],_,_,_,h,_=>by simp [Qbb] at h
theorem Qbc: ∀{ps:List PK} {xs:List SV} {x:denP ps} {l1 b1:List Nat} {i:Nat},ps.all QdA=true→Qbb σ ps xs=some (x,l1,b1)→Qjb σ.H l1∧(bxl i ps xs).map (·.2.1)=b1∧ ∀p∈bxl i ps xs, ∃cs,look σ.H p.2.1=some (.box cs)∧p.2.2.1+p.2.2.2≤cs.length
 | [],[],_,_,_,_,_,h=>by
  simp only [Qbb,Oie,Pmi] at h;obtain ⟨_,rfl,rfl⟩:=h;exact ⟨fun o ho=>by simp at ho,rfl,fun p hp=>by simp [bxl] at hp⟩
 | k::r,s::ss,_,l1,b1,i,hno,h=>by
  simp only [List.all_cons,Bool.and_eq_true] at hno;simp only [Qbb] at h;split at h
  ·rename_i x1 hy;split at h
   ·rename_i z hz;simp only [Oie,Pmi] at h;obtain ⟨_,rfl,rfl⟩:=h;have ih:=Qbc (l1:=z.2.1) (b1:=z.2.2) (i:=i+1) hno.2 hz;cases k with
    | val t=>
     simp only [argD] at hy;split at hy
     ·obtain rfl:=Osj hy;exact ih
     ·cases hy
    | fn f ts=>
     have hn:x1.2.1=[]∧x1.2.2=[]:=by
      simp only [argD] at hy;split at hy
      ·split at hy
       ·split at hy
        ·obtain rfl:=Osj hy; exact ⟨rfl,rfl⟩
        ·cases hy
       ·cases hy
      ·cases hy
     rw [hn.1,hn.2,List.nil_append,List.nil_append];exact ih
    | ptr t=>
     have hn:x1.2.1=[]∧x1.2.2=[]:=by
      simp only [argD] at hy;split at hy
      ·split at hy
       ·obtain rfl:=Osj hy; exact ⟨rfl,rfl⟩
       ·cases hy
      ·split at hy
       ·split at hy
        ·obtain rfl:=Osj hy; exact ⟨rfl,rfl⟩
        ·cases hy
       ·cases hy
      ·split at hy
       ·obtain ⟨_,hy⟩:=Qcl hy;obtain ⟨d,hd,hy⟩:=Obs hy;obtain ⟨d',hd',hy⟩:=Obs hy;obtain rfl:=Osj hy; exact ⟨rfl,rfl⟩
       ·cases hy
      ·cases hy
     rw [hn.1,hn.2];exact ih
    | box ci co=>
     simp only [argD] at hy;split at hy
     ·rename_i o off;split at hy
      ·rename_i cs hk;split at hy
       ·rename_i hle;split at hy
        ·rename_i q hq;obtain rfl:=Osj hy;have hno1:=hno.1;simp only [QdA,Bool.and_eq_true] at hno1;refine ⟨(QgZ hq hno1.1).append ih.1,by simp only [bxl,List.map_cons,ih.2.1]; rfl,fun p hp=>?_⟩
         simp only [bxl,List.mem_cons] at hp;rcases hp with rfl | hp
         ·exact ⟨cs,hk,hle⟩
         ·exact ih.2.2 p hp
        ·cases hy
       ·cases hy
      ·cases hy
     ·cases hy
    | row e t=>
     simp only [argD] at hy;split at hy
     ·split at hy
      ·rename_i q hq;obtain rfl:=Osj hy;exact ⟨(Qmr hq rfl).append ih.1,ih.2⟩
      ·cases hy
     ·cases hy
    | agg cs=>
     simp only [argD] at hy;split at hy
     ·split at hy
      ·rename_i q hq;obtain rfl:=Osj hy;exact ⟨(QgZ hq hno.1).append ih.1,ih.2⟩
      ·cases hy
     ·cases hy
   ·cases h
  ·cases h
 | [],_::_,_,_,_,_,_,h=>by simp [Qbb] at h
 | _::_,[],_,_,_,_,_,h=>by simp [Qbb] at h
theorem QvU {α:Type} {c c':List α} {base L off n:Nat} (hl:c'.length=c.length) (hb:base+L≤c.length) (hn:off+n≤L) (hs: ∀i, ¬(base+off≤i∧i< base+off+n)→c'[i]?=c[i]?):
  (c'.drop base).take L=((c.drop base).take L).take off++(c'.drop (base+off)).take n++((c.drop base).take L).drop (off+n):=by
 apply List.ext_getElem?;intro i;have l1:(((c.drop base).take L).take off).length=off:=by simp; omega
 have l2:((c'.drop (base+off)).take n).length=n:=by simp; omega
 by_cases h1:i< off
 ·rw [List.append_assoc,List.getElem?_append_left (by omega),List.getElem?_take,if_pos (by omega),List.getElem?_take,if_pos h1,List.getElem?_take,if_pos (by omega),List.getElem?_drop,List.getElem?_drop]
  exact hs _ (by omega)
 ·by_cases h2:i< off+n
  ·rw [List.append_assoc,List.getElem?_append_right (by omega),l1,List.getElem?_append_left (by omega),List.getElem?_take,if_pos (by omega),List.getElem?_drop,List.getElem?_take,if_pos (by omega),List.getElem?_drop]
   congr 1; omega
  ·rw [List.getElem?_append_right (by rw [List.length_append]; omega),List.length_append,l1,l2,List.getElem?_drop,List.getElem?_take,List.getElem?_take]
   have e:off+n+(i-(off+n))=i:=by omega
   rw [e];by_cases h3:i< L
   ·rw [if_pos h3,if_pos h3,List.getElem?_drop,List.getElem?_drop];exact hs _ (by omega)
   ·rw [if_neg h3,if_neg h3]
end
section
open Go Go.RowKit
variable {P:Program} {T:Tab} {G:Env} {w w' w0:World} {S S' S3 Q Z:Nat→Prop} {M M':Nat→Nat→Prop} {N:Nat→Option (Option (Nat×Nat))} {B:Nat→Option Pl} {a:Act} {σ:St} {β:Qr} {H:Heap} {fr l:List Nat}
variable {o:Oper} {next:Act→World→Prop} {Q':Exit→Act→World→Prop} {R:Type} {K:St→Option R} {y:R}
def Qjl (w:World) (β:Qr) (l:List Nat) (bl:List (Nat×Nat×Nat×Nat)) (b i:Nat):Prop:=
 w.heap.size≤b∨b∈blks β l∨ ∃p∈bl, ∃base,β p.2.1=some (b,base)∧base+p.2.2.1≤i∧i< base+p.2.2.1+p.2.2.2
def QeZ (β:Qr) (bl:List (Nat×Nat×Nat×Nat)) (rl:List (Nat×Pl)):List (Nat×Pl):=
 bl.map (fun p=>(p.1,match β p.2.1 with | some q=>Pl.box q.1 (q.2+p.2.2.1) | none=> .row none 0))++rl
structure Hand (Z:Nat→Prop) (M:Nat→Nat→Prop) (N:Nat→Option (Option (Nat×Nat))) (w0:World) (β:Qr) (σ:St) (a:Act) (w:World) (ps:List PK) (xs:List SV) (vs:List Value) (x:denP ps) (l bs:List Nat):Prop where
 rep:RepB Z M N w0 β σ a w
 args:Qbb σ ps xs=some (x,l,bs)
 ln:l.Nodup
 bn:bs.Nodup
 free:Qft σ.H l bs ps xs=true
 ok:psOk ps=true
 vals:All2 (VV w (RO Z β σ.H) β σ.H) xs vs
 nl:nlAs σ.H ps xs=true
def shown (σ:St) (ps:List PK) (xs:List SV) (l:List Nat):List Nat:=(QbM σ.H ps xs).filter fun o=>!(l.contains o)
section hand
variable {ps:List PK} {xs:List SV} {vs:List Value} {x:denP ps} {bs:List Nat}
theorem Hand.noP (h:Hand Z M N w0 β σ a w ps xs vs x l bs):ps.all QdA=true:=by
 have hok:=h.ok;simp only [psOk,Bool.and_eq_true] at hok;exact hok.2
theorem Hand.out (h:Hand Z M N w0 β σ a w ps xs vs x l bs): ∀o,o∈l→o∉shown σ ps xs l:=by
 intro o ho hm;simp [shown] at hm;exact hm.2 ho
theorem Hand.live (h:Hand Z M N w0 β σ a w ps xs vs x l bs) {fr:List Nat} (hfr: ∀o,o∈l→o∉fr): ∀o∈l, ∃e t ys,look (frz σ.H fr) o=some (.row e t ys):=by
 intro o ho;obtain ⟨e,t,ys,hk⟩:=(Qbc (i:=0) h.noP h.args).1 o ho;exact ⟨e,t,ys,by rw [Qaz (l:=fr) hk,if_neg (hfr o ho)]⟩
theorem Qaw {fr:List Nat} {o:Nat} {cs:List S1} (h:look H o=some (.box cs)):look (frz H fr) o=some (.box cs):=by
 rw [Qav (by intro e t xs e'; rw [h] at e'; cases e'),h]
theorem Hand.box (h:Hand Z M N w0 β σ a w ps xs vs x l bs) {p:Nat×Nat×Nat×Nat} (hp:p∈bxl 0 ps xs): ∃cs b base c e,look σ.H p.2.1=some (.box cs)∧p.2.2.1+p.2.2.2≤cs.length∧β p.2.1=some (b,base)∧
  w.heap[b]?=some (.cells c e (0,0))∧base+cs.length≤c.size∧(∀i,i< cs.length→M b (base+i))∧b< w.heap.size∧p.2.1∈bs:=by
 have hf:=Qbc (i:=0) h.noP h.args;obtain ⟨cs,h1,h2⟩:=hf.2.2 p hp;obtain ⟨b,base,c,e,h3,h4,h5,_⟩:=h.rep.obj _ _ h1;have:=h.rep.own _ _ b base h1 rfl h3;exact ⟨cs,b,base,c,e,h1,h2,h3,h4,h5,this.1,this.2,by rw [←hf.2.1]; exact List.mem_map_of_mem (f:=fun p:Nat×Nat×Nat×Nat=>p.2.1) hp⟩
theorem Qrx {α β:Type} {f:α→β}: ∀{l:List α},(l.map f).Nodup→ ∀{p p':α},p∈l→p'∈l→f p=f p'→p=p'
 | q::r,hn,p,p',hp,hp',e=>by
  simp only [List.map_cons,List.nodup_cons] at hn;rcases List.mem_cons.1 hp with rfl | hp1
  ·rcases List.mem_cons.1 hp' with rfl | hp2
   ·rfl
   ·exact absurd (e▸List.mem_map_of_mem (f:=f) hp2) hn.1
  ·rcases List.mem_cons.1 hp' with rfl | hp2
   ·exact absurd (e▸List.mem_map_of_mem (f:=f) hp1) hn.1
   ·exact Qrx hn.2 hp1 hp2 e
theorem Hand.box1 (h:Hand Z M N w0 β σ a w ps xs vs x l bs) {p p':Nat×Nat×Nat×Nat} (hp:p∈bxl 0 ps xs) (hp':p'∈bxl 0 ps xs) (e:p.2.1=p'.2.1):p=p':=
 Qrx (f:=fun p:Nat×Nat×Nat×Nat=>p.2.1) (by rw [(Qbc (i:=0) h.noP h.args).2.1]; exact h.bn) hp hp' e
theorem Hand.F (h:Hand Z M N w0 β σ a w ps xs vs x l bs) {b:Nat} (hb:b∈blks β l): ∃o∈l, ∃e t ys p,look σ.H o=some (.row e t ys)∧β o=some p∧foot (.row e t ys) p b∧(∀i,M b i)∧b< w.heap.size:=by
 obtain ⟨o,ho,hc⟩:=Qbk.1 hb;obtain ⟨e,t,ys,hk⟩:=(Qbc (i:=0) h.noP h.args).1 o ho;obtain ⟨p,hp,hf⟩:=QcS (e:=e) (ys:=ys) hc;have:=h.rep.hold o _ p b hk rfl hp hf;exact ⟨o,ho,e,t,ys,p,hk,hp,hf,this.1,this.2⟩
theorem Hand.may (h:Hand Z M N w0 β σ a w ps xs vs x l bs): ∀b i,Qjl w β l (bxl 0 ps xs) b i→M b i:=by
 intro b i hm;rcases hm with hm | hm | ⟨p,hp,base,h1,h2,h3⟩
 ·exact h.rep.fresh b (Nat.le_trans h.rep.below.size hm) i
 ·obtain ⟨_,_,_,_,_,_,_,_,_,h4,_⟩:=h.F hm;exact h4 i
 ·obtain ⟨cs,b',base',c,e,h4,h5,h6,_,_,h7,_⟩:=h.box hp;rw [h1] at h6;simp only [Oie,Pmi] at h6;obtain ⟨rfl,rfl⟩:=h6;have:=h7 (i-base) (by omega)
  rwa [show base+(i-base)=i by omega] at this
theorem Hand.MOwn (h:Hand Z M N w0 β σ a w ps xs vs x l bs) {fr:List Nat} (hfr: ∀o,o∈l→o∉fr) {b i:Nat} (hm:Qjl w β l (bxl 0 ps xs) b i) (hb:b< w.heap.size):Own β (frz σ.H fr) b:=by
 rcases hm with hm | hm | ⟨p,hp,base,h1,h2,h3⟩
 ·omega
 ·obtain ⟨o,ho,hc⟩:=Qbk.1 hm;obtain ⟨e,t,ys,hk⟩:=h.live hfr o ho;obtain ⟨p,hp,hf⟩:=QcS (e:=e) (ys:=ys) hc;exact ⟨o,_,p,hk,rfl,hp,hf⟩
 ·obtain ⟨cs,b',base',c,e,h4,_⟩:=h.box hp;exact ⟨p.2.1,_,_,Qaw h4,rfl,h1,Ql⟩
theorem Hand.names (h:Hand Z M N w0 β σ a w ps xs vs x l bs):((QeZ β (bxl 0 ps xs) (rwl β σ.H 0 ps xs)).map (·.1)).Nodup:=by
 have hok:=h.ok;simp only [psOk,Bool.and_eq_true] at hok;have:=Qan hok.1;rw [QeZ,List.map_append,List.map_map];exact this.sublist (QdQ.1.append Qdg.1)
theorem Hand.bl_mem (h:Hand Z M N w0 β σ a w ps xs vs x l bs) {p:Nat×Nat×Nat×Nat} (hp:p∈bxl 0 ps xs) {b base:Nat} (hb:β p.2.1=some (b,base)):look (QeZ β (bxl 0 ps xs) (rwl β σ.H 0 ps xs)) p.1=some (.box b (base+p.2.2.1)):=by
 refine Qap (p:=(p.1,Pl.box b (base+p.2.2.1))) h.names ?_;refine List.mem_append_left _ (List.mem_map.2 ⟨p,hp,by simp only [hb]⟩)
theorem Hand.rl_mem (h:Hand Z M N w0 β σ a w ps xs vs x l bs) {p:Nat×Pl} (hp:p∈rwl β σ.H 0 ps xs):look (QeZ β (bxl 0 ps xs) (rwl β σ.H 0 ps xs)) p.1=some p.2:=
 Qap h.names (List.mem_append_right _ hp)
theorem Hand.bl_of (h:Hand Z M N w0 β σ a w ps xs vs x l bs) {o b base:Nat} (ho:look (QeZ β (bxl 0 ps xs) (rwl β σ.H 0 ps xs)) o=some (.box b base)): ∃p∈bxl 0 ps xs, ∃base0,p.1=o∧β p.2.1=some (b,base0)∧base=base0+p.2.2.1:=by
 have hm:=QaY ho;rcases List.mem_append.1 hm with hm | hm
 ·obtain ⟨p,hp,e⟩:=List.mem_map.1 hm;obtain ⟨cs,b',base',c,e',h4,h5,h6,_⟩:=h.box hp;rw [h6] at e;simp only [Pmi,Pl.box.injEq] at e;obtain ⟨rfl,rfl,rfl⟩:=e;exact ⟨p,hp,base',rfl,h6,rfl⟩
 ·obtain ⟨q,n,e⟩:=Qdg.2 _ hm;cases e
theorem Hand.pre (h:Hand Z M N w0 β σ a w ps xs vs x l bs):
  Pre (Qjl w β l (bxl 0 ps xs)) w ps (RO Z β (frz σ.H (shown σ ps xs l))) (fun b=>b∉blks β l∧ ∀o base,look (QeZ β (bxl 0 ps xs) (rwl β σ.H 0 ps xs)) o≠some (.box b base)) (fun o=>look (QeZ β (bxl 0 ps xs) (rwl β σ.H 0 ps xs)) o) (blks β l):=by
 have hinj:=h.rep.inj;refine ⟨(h.rep.laid.kept h.rep.below).sub fun p _ i hi=>⟨i,h.may p.1 i hi⟩,fun b hb i=> .inl hb,?_,fun b hb=>⟨fun i=> .inr (.inl hb),?_⟩,?_,?_,?_,?_,fun b hb=>hb⟩
 ·refine Qdr (l:=l) ?_ ?_ (fun o ho=>ho) h.ln
  ·intro o o' b ho ho' hb hb';obtain ⟨e,t,ys,hk⟩:=(Qbc (i:=0) h.noP h.args).1 o ho;obtain ⟨e',t',ys',hk'⟩:=(Qbc (i:=0) h.noP h.args).1 o' ho';obtain ⟨p,hp,hf⟩:=QcS (e:=e) (ys:=ys) hb;obtain ⟨p',hp',hf'⟩:=QcS (e:=e') (ys:=ys') hb';exact h.rep.one o o' _ _ p p' b hk rfl hk' rfl hp hp' hf hf'
  ·intro o ho;obtain ⟨e,t,ys,hk⟩:=(Qbc (i:=0) h.noP h.args).1 o ho;exact OwnO.nodup (ob:= .row e t ys) (h.rep.obj o _ hk)
 ·obtain ⟨_,_,_,_,_,_,_,_,_,_,h4⟩:=h.F hb;exact h4
 ·intro o b base ho;obtain ⟨p,hp,base0,rfl,h1,rfl⟩:=h.bl_of ho;obtain ⟨cs,b',base',c,e',h4,h5,h6,h7,h8,h9,h10,h11⟩:=h.box hp;rw [h1] at h6;simp only [Oie,Pmi] at h6;obtain ⟨rfl,rfl⟩:=h6;obtain ⟨ci,g1,g2⟩:=QdQ.2 p hp;refine ⟨List.mem_map_of_mem (f:=(·.1)) g1,fun hb=>?_,h10,fun ci' hci i hi=>?_⟩
  ·obtain ⟨o',ho',e,t,ys,p',hk,hc,hf,_⟩:=h.F hb;have:=h.rep.one _ _ _ _ _ p' b h4 rfl hk rfl h1 hc Ql hf;rw [this,hk] at h4;cases h4
  ·have hok:=h.ok;simp only [psOk,Bool.and_eq_true] at hok;have hn:=Qan hok.1;have hn1:=(List.nodup_append.1 hn).1;have e1:=Qap hn1 g1;have e2:=Qap hn1 hci;simp only at e1 e2;rw [e1] at e2;obtain rfl:=Osj e2;exact .inr (.inr ⟨p,hp,base0,h1,by omega,by omega⟩)
 ·intro o q n ho;have hm:=QaY ho;rcases List.mem_append.1 hm with hm | hm
  ·obtain ⟨p,hp,e⟩:=List.mem_map.1 hm;obtain ⟨cs,b',base',c,e',h4,h5,h6,_⟩:=h.box hp;rw [h6] at e;simp at e
  ·exact Qdg.1.subset (List.mem_map_of_mem (f:=(·.1)) hm)
 ·intro o o' b base base' ho ho';obtain ⟨p,hp,base0,rfl,h1,_⟩:=h.bl_of ho;obtain ⟨p',hp',base0',rfl,h1',_⟩:=h.bl_of ho';obtain ⟨cs,_,_,_,_,h4,_⟩:=h.box hp;obtain ⟨cs',_,_,_,_,h4',_⟩:=h.box hp';have:=hinj _ _ _ _ b base0 base0' h4 rfl h4' rfl h1 h1';rw [h.box1 hp hp' this]
 ·intro b _ hb;refine ⟨fun hF=>?_,fun o base ho=>?_⟩
  ·obtain ⟨o',ho',hc⟩:=Qbk.1 hF;obtain ⟨e,t,ys,hk⟩:=h.live h.out o' ho';obtain ⟨p,hp,hf⟩:=QcS (e:=e) (ys:=ys) hc;exact hb.2 ⟨o',_,p,hk,rfl,hp,hf⟩
  ·obtain ⟨p,hp,base0,rfl,h1,_⟩:=h.bl_of ho;obtain ⟨cs,_,_,_,_,h4,_⟩:=h.box hp;exact hb.2 ⟨p.2.1,_,_,Qaw h4,rfl,h1,Ql⟩
theorem Hand.vals1 (h:Hand Z M N w0 β σ a w ps xs vs x l bs) {fr:List Nat}:All2 (VV w (RO Z β (frz σ.H fr)) β (frz σ.H fr)) xs vs:=
 h.vals.mono fun _ _ hv=>h.rep.frzV hv fr
theorem Hand.argsR (h:Hand Z M N w0 β σ a w ps xs vs x l bs):
  QcH w (RO Z β (frz σ.H (shown σ ps xs l))) (fun b=>b∉blks β l∧ ∀o base,look (QeZ β (bxl 0 ps xs) (rwl β σ.H 0 ps xs)) o≠some (.box b base)) (fun o=>look (QeZ β (bxl 0 ps xs) (rwl β σ.H 0 ps xs)) o) 0 ps x vs (blks β l):=by
 have hr:=h.rep.frz (shown σ ps xs l);have hinj:=h.rep.inj;have hok:=h.ok;simp only [psOk,Bool.and_eq_true] at hok
 have notF: ∀o e t ys b cap,look σ.H o=some (.row e t ys)→o∉l→β o=some (b,cap)→b∉blks β l:=by
  intro o e t ys b cap hk ho hb hF;obtain ⟨o',ho',e',t',ys',p',hk',hc,hf,_⟩:=h.F hF;have:=h.rep.one _ _ _ _ _ p' b hk rfl hk' rfl hb hc Ql hf;exact ho (this▸ho')
 refine Qji (S0:=RO Z β σ.H) (fr:=shown σ ps xs l) (l:=l) (bs:=bs) hr.owns h.rep.owns ?_ ?_ h.out ?_ ?_ h.vals1 h.vals h.args (fun o ho=>ho) (fun o ho=>ho) h.free hok.2 ?_ ?_ ?_
 ·intro t d cs;refine Qaa fun b _ hb=>⟨⟨hb.1,fun hO=>hb.2 ?_⟩,rfl⟩
  obtain ⟨o,ob,cap,h1,h2,h3⟩:=hO;by_cases hrow: ∃e t ys,look σ.H o=some (.row e t ys)
  ·obtain ⟨e,t,ys,hk⟩:=hrow;rw [Qaz hk] at h1;by_cases hm:o∈shown σ ps xs l
   ·rw [if_pos hm] at h1;have e1:=Osj h1;rw [←e1] at h2;cases h2
   ·rw [if_neg hm] at h1;have e1:=Osj h1;rw [←e1] at h3;exact ⟨o,_,cap,hk,rfl,h3⟩
  ·rw [Qav fun e t ys e'=>hrow ⟨e,t,ys,e'⟩] at h1
   exact ⟨o,ob,cap,h1,h2,h3⟩
 ·intro b hb;refine ⟨fun hF=>?_,fun o base ho=>?_⟩
  ·obtain ⟨o',ho',hc⟩:=Qbk.1 hF;obtain ⟨e,t,ys,hk⟩:=h.live h.out o' ho';obtain ⟨p,hp,hf⟩:=QcS (e:=e) (ys:=ys) hc;exact hb ⟨o',_,p,hk,rfl,hp,hf⟩
  ·obtain ⟨p,hp,base0,rfl,h1,_⟩:=h.bl_of ho;obtain ⟨cs,_,_,_,_,h4,_⟩:=h.box hp;exact hb ⟨p.2.1,_,_,Qaw h4,rfl,h1,Ql⟩
 ·intro o cs b base hk ho hb;refine ⟨fun hF=>?_,fun o' base' ho'=>?_⟩
  ·obtain ⟨o',ho',e',t',ys',p',hk',hc,hf,_⟩:=h.F hF;have:=h.rep.one _ _ _ _ _ p' b hk rfl hk' rfl hb hc Ql hf;rw [this,hk'] at hk;cases hk
  ·obtain ⟨p,hp,base0,rfl,h1,_⟩:=h.bl_of ho';obtain ⟨cs',_,_,_,_,h4,_,_,_,_,_,_,h5⟩:=h.box hp;have:=hinj _ _ _ _ b base base0 hk rfl h4 rfl hb h1;exact ho (this▸h5)
 ·intro o e t ys b cap hk ho hb;refine ⟨notF o e t ys b cap hk ho hb,fun o' base' ho'=>?_⟩
  obtain ⟨p,hp,base0,rfl,h1,_⟩:=h.bl_of ho';obtain ⟨cs',_,_,_,_,h4,_⟩:=h.box hp;have:=hinj _ _ _ _ b cap base0 hk rfl h4 rfl hb h1;rw [this,h4] at hk;cases hk
 ·refine ⟨h.out,fun o ho e t ys hk hol=>?_⟩
  simp only [shown,List.mem_filter,List.contains_eq_mem,Bool.not_eq_true',decide_eq_false_iff_not];exact ⟨ho,hol⟩
 ·intro p hp;obtain ⟨cs,b,base,c,e,_,_,h6,_⟩:=h.box hp;exact ⟨b,base,h6,h.bl_mem hp h6⟩
 ·intro p hp;exact h.rl_mem hp
end hand
end
section
open Go Go.RowKit
variable {P:Program} {T:Tab} {G:Env} {w w' w0:World} {Z:Nat→Prop} {M:Nat→Nat→Prop} {N:Nat→Option (Option (Nat×Nat))} {a:Act} {σ:St} {β:Qr} {l:List Nat}
theorem QiI {α:Type}: ∀{l:List (Nat×α)} {p:Nat×α},p∈l→(look l p.1).isSome=true
 | q::r,p,hp=>by
  obtain ⟨k,z⟩:=q;rw [Qe];split
  ·rfl
  ·rename_i hne;rcases List.mem_cons.1 hp with rfl | hp
   ·exact absurd rfl hne
   ·exact QiI hp
theorem QjR: ∀{cs:List CK} {nm:Nat} {x:denC cs},cs.all resC=true→ ∀p∈(mkCs nm cs x).2, ∀c,p.2≠Ob.box c
 | [],_,_,_,p,hp,_=>by simp [mkCs] at hp
 | k::r,nm,x,h,p,hp,c=>by
  simp only [List.all_cons,Bool.and_eq_true] at h;simp only [mkCs,List.mem_append] at hp;rcases hp with hp | hp
  ·cases k <;> simp only [mkC,List.mem_singleton,List.not_mem_nil] at hp <;> first | (exact hp.elim; done) | skip
   all_goals first | (subst hp; intro e; cases e; done) | (simp [resC] at h; done)
  ·exact QjR h.2 p hp c
theorem Qbh {H:Heap}: ∀{ps:List PK} {y:denQ ps} {xs:List SV} {nm:Nat},ps.all QdA=true→ ∀p∈(outA nm H ps y xs).1, ∀c,p.2=Ob.box c→False
 | [],_,_,_,_,p,hp,_,_=>by simp [outA] at hp
 | k::r,y,[],nm,h,p,hp,c,e=>by cases k <;> simp [outA] at hp
 | k::r,y,s::ss,nm,h,p,hp,c,e=>by
  simp only [List.all_cons,Bool.and_eq_true] at h;cases k with
  | val t=>exact Qbh h.2 p hp c e
  | ptr t=>exact Qbh h.2 p hp c e
  | fn f ts=>exact Qbh h.2 p hp c e
  | row e0 t=>exact Qbh (y:=y.2) h.2 p hp c e
  | agg cs=>exact Qbh (y:=y.2) h.2 p hp c e
  | box ci co=>
   simp only [QdA,Bool.and_eq_true] at h;simp only [outA] at hp;split at hp
   ·split at hp
    ·rcases List.mem_append.1 hp with hp | hp
     ·exact QjR h.1.2 p hp c e
     ·exact Qbh (y:=y.2) h.2 p hp c e
    ·exact Qbh (y:=y.2) h.2 p hp c e
   ·exact Qbh (y:=y.2) h.2 p hp c e
theorem Qsa {cn:Con} {xs:List SV} {vs:List Value} {x:denP cn.ps} {bs:List Nat} (h:Hand Z M N w0 β σ a w cn.ps xs vs x l bs)
  {y:denV cn.rs×denQ cn.ps} {v:Value} (hpost:Post (Qjl w β l (bxl 0 cn.ps xs)) w (RO Z β (frz σ.H (shown σ cn.ps xs l))) (fun o=>look (QeZ β (bxl 0 cn.ps xs) (rwl β σ.H 0 cn.ps xs)) o) cn vs y v w')
  (hlen:lenQ cn.ps x y.2=true) {nm nm':Nat} (hnew:QcQ σ.H ((mkVs nm cn.rs y.1).2++(outA nm' σ.H cn.ps y.2 xs).1)=true) {dst:Option Nat} (hd:QM dst σ.nt=true):
  Rep Z M N w0 { nt:=σ.nt,env:=Qqd dst (tup (mkVs nm cn.rs y.1).1) σ.env,H:=((mkVs nm cn.rs y.1).2++(outA nm' σ.H cn.ps y.2 xs).1)++((outA nm' σ.H cn.ps y.2 xs).2++(l.map (fun o=>(o,Ob.dead))++frz σ.H (if QgC cn.ps cn.rs then shown σ cn.ps xs l else []))) } (a.put dst v) w':=by
 obtain ⟨hkept,us,F1,F2,rfl,hvk,hout,hnd,hF⟩:=hpost;generalize hS:RO Z β (frz σ.H (shown σ cn.ps xs l))=S at hvk hout;generalize hfr2:(if QgC cn.ps cn.rs then shown σ cn.ps xs l else [])=fr2
 have hfl: ∀o,o∈l→o∉fr2:=by
  intro o ho;rw [←hfr2];split
  ·exact h.out o ho
  ·simp
 have hr1:=h.rep.frz (shown σ cn.ps xs l);have hr2:=h.rep.frz fr2
 --where the answer's data lie
 let S3:Nat→Prop:=if QgC cn.ps cn.rs=true then after S (Qjl w β l (bxl 0 cn.ps xs)) (fun o=>look (QeZ β (bxl 0 cn.ps xs) (rwl β σ.H 0 cn.ps xs)) o) (F1++F2) else fun _=>False
 have hshift:Qhe w' (after S (Qjl w β l (bxl 0 cn.ps xs)) (fun o=>look (QeZ β (bxl 0 cn.ps xs) (rwl β σ.H 0 cn.ps xs)) o) (F1++F2)) S3 (QgC cn.ps cn.rs):=by
  intro B t d cs hs hr;by_cases e:QgC cn.ps cn.rs=true
  ·simp only [S3,e,if_true]; exact hr
  ·exact Qcg (hs (by simpa using e)) hr
 have hro:QgC cn.ps cn.rs=false→cn.rs.any VK.sl=false∧cn.ps.any PK.sl=false:=by
  intro e; simpa [QgC] using e
 have hvk:=Qto hshift (fun e=>(hro e).1) hvk
 have hout:=QeC hshift (fun e=>(hro e).2) hout
 obtain ⟨qs1,g1,k1⟩:=QjS nm hvk;obtain ⟨qs2,Fa,Fb,g2,hperm,hcov,k2⟩:=QdD (nm:=nm') (i:=0) hr1.owns h.out h.vals1 h.args (fun o ho=>ho) hlen (fun p hp=>h.rl_mem hp) hout
 have g:=g1.append g2;have hnd':(F1++(Fa++Fb)).Nodup:=((hperm.append_left F1).nodup_iff).1 hnd;have hin: ∀b,b∈F1++F2↔b∈F1++(Fa++Fb):=fun b=>(hperm.append_left F1).mem_iff
 have hndn:(F1++Fa).Nodup:=by rw [←List.append_assoc] at hnd'; exact (List.nodup_append.1 hnd').1
 have hdis: ∀b,b∈F1++Fa→b∉Fb:=by
  intro b h1 h2;rw [←List.append_assoc] at hnd';exact (List.nodup_append.1 hnd').2.2 b h1 b h2 rfl
 have inN: ∀b,b∈F1++Fa→b∈F1++F2:=fun b hb=>(hin b).2 (by rw [←List.append_assoc]; exact List.mem_append_left _ hb)
 have inB: ∀b,b∈Fb→b∈F1++F2:=fun b hb=>(hin b).2 (by rw [←List.append_assoc]; exact List.mem_append_right _ hb)
 generalize hNEW:(mkVs nm cn.rs y.1).2++(outA nm' σ.H cn.ps y.2 xs).1=NEW at g hnew⊢;generalize hRWd:(outA nm' σ.H cn.ps y.2 xs).2=RW at k2 hcov⊢;obtain ⟨hnone,hnn⟩:=Qgy hnew
 let β':Qr:=fun o=>match look (qs1++qs2) o with | some q=>q | none=>β o
 let H':Heap:=NEW++(RW++(l.map (fun o=>(o,Ob.dead))++frz σ.H fr2))
 have hβq: ∀p∈qs1++qs2,β' p.1=p.2:=by
  intro p hp;show (match look (qs1++qs2) p.1 with | some q=>q | none=>β p.1)=p.2
  rw [Qap (by rw [g.names]; exact hnn) hp]
 have hold: ∀o,(look σ.H o).isSome=true→look NEW o=none∧β' o=β o:=by
  intro o ho;have h1: ∀p∈NEW,p.1≠o:=fun p hp e=>by rw [←e,hnone p hp] at ho; cases ho
  refine ⟨Qdd h1,?_⟩;show (match look (qs1++qs2) o with | some q=>q | none=>β o)=β o
  rw [Qdd];intro p hp e;have:p.1∈NEW.map (·.1):=by rw [←g.names]; exact List.mem_map_of_mem (f:=(·.1)) hp
  obtain ⟨p',hp',e'⟩:=List.mem_map.1 this;exact h1 p' hp' (by rw [e',e])
 have hNl: ∀p∈NEW,look H' p.1=some p.2:=by
  intro p hp;show look (NEW++_) p.1=_;rw [QC,Qap hnn hp]
 have hNl1: ∀p∈(mkVs nm cn.rs y.1).2,look H' p.1=some p.2:=fun p hp=>hNl p (by rw [←hNEW]; exact List.mem_append_left _ hp)
 have hNl2: ∀p∈(outA nm' σ.H cn.ps y.2 xs).1,look H' p.1=some p.2:=fun p hp=>hNl p (by rw [←hNEW]; exact List.mem_append_right _ hp)
 have hst: ∀p∈RW,Qis w' S3 β σ.H l Fb p∨QkY w' (fun _=>True) β β' σ.H H' (bxl 0 cn.ps xs) bs p:=
  k2 ⟨fun _ _ _ e=>(by cases e),fun _ _ _ e=>(by cases e),fun _ e=>e.elim,Mon.sub fun b _ _=>trivial⟩ hNl2 (fun p hp=>hβq p (List.mem_append_right _ hp))
 have hRWin: ∀p∈RW,(look σ.H p.1).isSome=true:=by
  intro p hp;rcases hst p hp with ⟨e,e0,t,ys,xs0,_,_,h3,_⟩ | ⟨cs,nc,off,b,base,c',e',pn,h1,_⟩
  ·rw [h3]; rfl
  ·rw [h1]; rfl
 --what a name is known as
 have hcase: ∀o ob,look H' o=some ob→(o,ob)∈NEW∨(o,ob)∈RW∨(o∈l∧ob= .dead)∨(o∉l∧o∉bs∧look (frz σ.H fr2) o=some ob):=by
  intro o ob ho;have ho:look (NEW++(RW++(l.map (fun o=>(o,Ob.dead))++frz σ.H fr2))) o=some ob:=ho
  rw [QC,QC,QC,Qih] at ho;split at ho
  ·rename_i z hz;obtain rfl:=Osj ho;exact .inl (QaY hz)
  ·split at ho
   ·rename_i z hz;obtain rfl:=Osj ho;exact .inr (.inl (QaY hz))
   ·rename_i hz;by_cases hl:o∈l
    ·rw [if_pos hl] at ho;exact .inr (.inr (.inl ⟨hl,(Osj ho).symm⟩))
    ·rw [if_neg hl] at ho;refine .inr (.inr (.inr ⟨hl,fun hb=>?_,ho⟩))
     obtain ⟨p,hp,e⟩:=hcov o hb;have:=QiI hp;rw [e] at this;rw [hz] at this;cases this
 have hsome: ∀o ob,look (frz σ.H fr2) o=some ob→(look σ.H o).isSome=true:=by
  intro o ob ho;rw [←QgP (fr:=fr2),ho]; rfl
 have hinj:=hr2.inj
 --an elder object that was not handed over lies apart
 have hapart: ∀o ob q b,look (frz σ.H fr2) o=some ob→live ob=true→β o=some q→foot ob q b→o∉l→o∉bs→ ∀i, ¬Qjl w β l (bxl 0 cn.ps xs) b i:=by
  intro o ob q b ho hl hb hf h1 h2 i hm;have hlt:=(hr2.hold o ob q b ho hl hb hf).2;rcases hm with hm | hm | ⟨p,hp,base,e1,_⟩
  ·omega
  ·obtain ⟨o',ho',hc⟩:=Qbk.1 hm;obtain ⟨e,t,ys,hk⟩:=h.live hfl o' ho';obtain ⟨p',hp',hf'⟩:=QcS (e:=e) (ys:=ys) hc;exact h1 (hr2.one o o' _ _ q p' b ho hl hk rfl hb hp' hf hf'▸ho')
  ·obtain ⟨cs,_,_,_,_,h4,_,_,_,_,_,_,h5⟩:=h.box hp;exact h2 (hr2.one o p.2.1 _ _ q _ b ho hl (Qaw h4) rfl hb e1 hf Ql▸h5)
 --who owns what
 have hwho: ∀o ob q b,look H' o=some ob→live ob=true→β' o=some q→foot ob q b→((o,some q)∈qs1++qs2∧b∈F1++Fa∧True)∨
   (b∉F1++Fa∧β o=some q∧(∃ob0,look (frz σ.H fr2) o=some ob0∧live ob0=true∧foot ob0 q b)∧
    ((o∈l∧b∈Fb)∨(∃p∈bxl 0 cn.ps xs,p.2.1=o∧b=q.1)∨(o∉l∧o∉bs∧look (frz σ.H fr2) o=some ob))):=by
  intro o ob q b ho hl hb hf;rcases hcase o ob ho with hm | hm | ⟨_,e⟩ | ⟨hl1,hb1,hk⟩
  ·left;obtain ⟨q',h1,h2,h3⟩:=g.mem _ hm;have h4:=hβq _ h1;simp only at h4 h1;rw [hb] at h4;rw [←h4] at h1 h2;exact ⟨h1,h2 b (Qbn hf),trivial⟩
  ·right;have hs:=hRWin _ hm;rw [(hold o hs).2] at hb;rcases hst _ hm with ⟨e,e0,t,ys,xs0,h1,h2,h3,h4,h5,h6,h66⟩ | ⟨cs,nc,off,b',base,c',e',pn,h1,h2,h3,h4,_,h6,_⟩
   ·simp only at h1 h2 h3 h6;subst h1;have hbF:=h6 b (by rw [hb]; exact Qbn hf)
    refine ⟨fun hh=>hdis b hh hbF,hb,⟨.row e0 t xs0,?_,rfl,hf⟩,.inl ⟨h2,hbF⟩⟩
    rw [Qaz (l:=fr2) h3,if_neg (hfl o h2)]
   ·simp only at h1 h2 h3 h4 h6;subst h4;rw [hb] at h6;obtain rfl:=Osj h6;obtain rfl:=QcN hf;refine ⟨fun hh=>(hF b (inN b hh)).2.2 pn _ (h.bl_mem h3 hb),hb,⟨.box cs,Qaw h1,rfl,Ql⟩,.inr (.inl ⟨_,h3,rfl,rfl⟩)⟩
  ·subst e; simp [live] at hl
  ·right;rw [(hold o (hsome o ob hk)).2] at hb;exact ⟨fun hh=>hapart o ob q b hk hl hb hf hl1 hb1 0 ((hF b (inN b hh)).1 0),hb,⟨ob,hk,hl,hf⟩,.inr (.inr ⟨hl1,hb1,hk⟩)⟩
 have hk: ∀b,b< w.heap.size→ ¬Own β (frz σ.H fr2) b→ ¬Own β' H' b∧w'.heap[b]?=w.heap[b]? :=by
  intro b hb hn;refine ⟨?_,hkept.block b hb fun i hm=>hn (h.MOwn hfl hm hb)⟩
  rintro ⟨o,ob,q,ho,hl,hbo,hf⟩;rcases hwho o ob q b ho hl hbo hf with ⟨_,h2,_⟩ | ⟨_,h2,⟨ob0,h3,h4,h5⟩,_⟩
  ·exact hn (h.MOwn hfl ((hF b (inN b h2)).1 0) hb)
  ·exact hn ⟨o,ob0,q,h3,h4,h2,h5⟩
 have hS3: ∀b,S3 b→RO Z β' H' b:=by
  intro b hb;by_cases e:QgC cn.ps cn.rs=true
  ·simp only [S3,e,if_true] at hb;obtain ⟨h1,h2,h3⟩:=hb;rw [if_pos e] at hfr2;subst hfr2;refine ⟨?_,?_⟩
   ·rcases h1 with h1 | h1
    ·rw [←hS] at h1; exact h1.1
    ·exact h.rep.whole b fun i=>h.may b i (h1 i)
   ·rintro ⟨o,ob,q,ho,hl,hbo,hf⟩;rcases hwho o ob q b ho hl hbo hf with ⟨_,h4,_⟩ | ⟨_,h4,⟨ob0,h5,h6,h6'⟩,h7⟩
    ·exact h2 (inN b h4)
    ·rcases h7 with ⟨_,h7⟩ | ⟨p,hp,h7,h8⟩ | ⟨h7,h8,h9⟩
     ·exact h2 (inB b h7)
     ·subst h7;subst h8;exact h3 p.1 _ (h.bl_mem hp h4)
     ·rcases h1 with h1 | h1
      ·rw [←hS] at h1; exact h1.2 ⟨o,ob0,q,h5,h6,h4,h6'⟩
      ·exact hapart o ob q b h9 hl h4 hf h7 h8 0 (h1 0)
  ·simp only [S3,e,if_false] at hb;exact hb.elim
 have hag:Agree S3 (fun _=>False) noB w' (RO Z β' H') β' H':=
  ⟨fun _ _ _ e=>(by cases e),fun _ _ _ e=>(by cases e),fun _ e=>e.elim,Mon.sub fun b _ hb=>hS3 b hb⟩
 have hRW:=k2 hag hNl2 (fun p hp=>hβq p (List.mem_append_right _ hp))
 have hn: ∀o ob,look (frz σ.H fr2) o=some ob→Step w w' (RO Z β' H') (β o) ob (β' o) (look H' o):=by
  intro o ob ho;obtain ⟨e1,e2⟩:=hold o (hsome o ob ho);rw [e2];cases hk':look H' o with
  | none=>
   exfalso;have hk':look (NEW++(RW++(l.map (fun o=>(o,Ob.dead))++frz σ.H fr2))) o=none:=hk'
   rw [QC,QC,QC,Qih,e1] at hk';simp only at hk';split at hk'
   ·cases hk'
   ·split at hk'
    ·cases hk'
    ·rw [ho] at hk'; cases hk'
  | some ob'=>
   rcases hcase o ob' hk' with hm | hm | ⟨_,e⟩ | ⟨hl1,hb1,hk2⟩
   ·rw [Qap hnn hm] at e1; cases e1
   ·rcases hst _ hm with ⟨e,e0,t,ys,xs0,h1,h2,h3,h4,_,_,h66,h67⟩ | ⟨cs,nc,off,b',base,c',e',pn,h1,h2,h3,h4,_⟩
    ·simp only at h1 h2 h3;subst h1;rw [Qaz (l:=fr2) h3,if_neg (hfl o h2)] at ho;obtain rfl:=Osj ho;exact ⟨e0,xs0,rfl,h4,QcX.refl,fun h=>by rw [QeT h66]; exact h,fun hl=>by rw [h67 (QnA h.args h.nl o h2 e0 t xs0 h3)] at hl; cases hl⟩
    ·simp only at h1 h4;subst h4;rw [Qaw h1] at ho;obtain rfl:=Osj ho;exact ⟨⟨cs,rfl⟩,rfl⟩
   ·subst e; trivial
   ·rw [ho] at hk2;obtain rfl:=Osj hk2;exact QaK fun hl p hp=>hkept.block p.1 (hr2.hold o ob p p.1 ho hl hp Ql).2 (hapart o ob p p.1 ho hl hp Ql hl1 hb1)
 have hmain:RepB Z M N w0 β' { { σ with H:=frz σ.H fr2 } with H:=H' } a w':=by
  refine hr2.move (h.rep.below.trans hkept h.may) ?_ hk hn ?_ ?_ ?_ (fun o cs b base h0 h1 h2=>by
   rcases hcase o _ h1 with hm | hm | ⟨_,e⟩ | ⟨_,_,e⟩
   ·obtain ⟨q,g1,g2,g4⟩:=g.mem _ hm;simp only at g1 g4;have h3:=hβq _ g1;simp only at h3;rw [h2] at h3;subst h3;obtain ⟨_,_,_,e1,_⟩:=g4;cases e1; rfl
   ·have hs:=hRWin _ hm;rw [←QgP (fr:=fr2)] at hs;rw [show look (frz σ.H fr2) o=none from h0] at hs
    cases hs
   ·cases e
   ·rw [show look (frz σ.H fr2) o=none from h0] at e; cases e)
  ·intro o q hq hs _;have hs':(look σ.H o).isSome=true:=by rw [←QgP (fr:=fr2)]; exact hs
   refine ⟨by rw [(hold o hs').2]; exact hq,?_⟩
   show (look (NEW++(RW++(l.map (fun o=>(o,Ob.dead))++frz σ.H fr2))) o).isSome=true
   rw [QC,QC,QC,Qih,(hold o hs').1];simp only;split
   ·rfl
   ·split
    ·rfl
    ·exact hs
  ·intro o ob q b ho hl hb hf;rcases hwho o ob q b ho hl hb hf with ⟨h1,h2,_⟩ | ⟨_,h2,⟨ob0,h3,h4,h4'⟩,h5⟩
   ·have:=hF b (inN b h2);exact ⟨Qon fun i=>h.may b i (this.1 i),this.2.1⟩
   ·have hown:=hr2.hold o ob0 q b h3 h4 h2 h4';refine ⟨?_,Nat.lt_of_lt_of_le hown.2 hkept.size⟩;rcases hcase o ob ho with hm | hm | ⟨_,e⟩ | ⟨_,_,hk2⟩
    ·have:=hold o (hsome o ob0 h3);rw [Qap hnn hm] at this;cases this.1
    ·rcases hst _ hm with ⟨e,e0,t,ys,xs0,g1,g2,g3,g4,_⟩ | ⟨cs,nc,off,b',base,c',e',pn,g1,g2,g3,g4,g5,_⟩
     ·simp only at g1 g2 g3;subst g1;rw [Qaz (l:=fr2) g3,if_neg (hfl o g2)] at h3;obtain rfl:=Osj h3;exact hown.1
     ·simp only at g1 g4;subst g4;rw [Qaw g1] at h3;obtain rfl:=Osj h3;intro i hi;exact hown.1 i (by simp only [QfM,List.length_append,List.length_take,List.length_drop] at hi; omega)
    ·subst e; simp [live] at hl
    ·rw [h3] at hk2;obtain rfl:=Osj hk2;exact hown.1
  ·intro o o' ob ob' q q' b ho hl ho' hl' hb hb' hf hf';rcases hwho o ob q b ho hl hb hf with ⟨h1,h2,_⟩ | ⟨h1,h2,⟨ob0,h3,h4,h4'⟩,_⟩
   ·rcases hwho o' ob' q' b ho' hl' hb' hf' with ⟨h1',h2',_⟩ | ⟨h1',_⟩
    ·have:=g.inj hndn _ h1 _ h1' b (Qbn hf) (Qbn hf');exact (Prod.mk.inj this).1
    ·exact absurd h2 h1'
   ·rcases hwho o' ob' q' b ho' hl' hb' hf' with ⟨h1',h2',_⟩ | ⟨h1',h2',⟨ob0',h3',h5',h5''⟩,_⟩
    ·exact absurd h2' h1
    ·exact hr2.one o o' _ _ q q' b h3 h4 h3' h5' h2 h2' h4' h5''
  ·intro o ob ho;rcases hcase o ob ho with hm | hm | ⟨_,e⟩ | ⟨h7,h8,hk2⟩
   ·obtain ⟨q,h1,h2,h4⟩:=g.mem _ hm;simp only at h1 h4;rw [hβq _ h1];refine h4.or hag.data fun cs hc=>?_
    subst hc;have hm':(o,Ob.box cs)∈(mkVs nm cn.rs y.1).2++(outA nm' σ.H cn.ps y.2 xs).1:=by rw [hNEW]; exact hm
    rcases List.mem_append.1 hm' with hm' | hm'
    ·have:=(k1 hag hNl1 (fun p hp=>hβq p (List.mem_append_left _ hp))).2 _ hm' cs rfl
     rw [hβq _ h1] at this;exact this
    ·exact (Qbh h.noP _ hm' cs rfl).elim
   ·rw [(hold o (hRWin _ hm)).2];rcases hRW _ hm with ⟨e,e0,t,ys,xs0,g1,g2,g3,g4,g5,_⟩ | ⟨cs,nc,off,b,base,c',e',pn,g1,g2,g3,g4,g5,g6,g7,g8⟩
    ·simp only at g1 g5;subst g1;exact RowO.mon hag.data g5
    ·simp only at g1 g3 g4 g6;subst g4;obtain ⟨b0,base0,c,e,i1,i2,i3,i4⟩:=hr2.obj o _ (Qaw g1);rw [g6] at i1;simp only [Oie,Pmi] at i1;obtain ⟨rfl,rfl⟩:=i1;obtain ⟨c2,j1,j2,j3⟩:=hkept.cells _ _ _ _ i2;rw [g7] at j1;simp only [Oie,Obj.cells.injEq] at j1;obtain ⟨rfl,rfl,_⟩:=j1;have hrl:(QfM cs off nc).length=cs.length:=by simp [QfM]; omega
     refine ⟨b,base,c',e',g6,g7,by rw [hrl]; omega,?_⟩
     rw [hrl,QvU (c:=c.toList) (c':=c'.toList) (by simpa using j2) (by simpa using i3) g5 ?_]
     ·have hst':=i4.mono (R':=fun x v=>VS w' (RO Z β' H') β' H' x v∧v.oneCell'=true) fun x v hx=>⟨QdN (Qam hk) hk hn hx.1,hx.2⟩
      exact ((hst'.take off).append g8).append (hst'.drop _)
     ·intro i hi;rw [Array.getElem?_toList,Array.getElem?_toList];refine j3 i fun hm'=>?_
      have hlt:=(hr2.own o _ b base (Qaw g1) rfl g6).2;rcases hm' with hm' | hm' | ⟨p,hp,base1,e1,e2,e3⟩
      ·omega
      ·obtain ⟨o',ho',hc⟩:=Qbk.1 hm';obtain ⟨e4,t,ys,hk'⟩:=h.live hfl o' ho';obtain ⟨p',hp',hf'⟩:=QcS (e:=e4) (ys:=ys) hc;have:=hr2.one o o' _ _ _ p' b (Qaw g1) rfl hk' rfl g6 hp' Ql hf';subst this;rw [Qaw g1] at hk';cases hk'
      ·obtain ⟨cs',_,_,_,_,h4,_⟩:=h.box hp;have:=hinj o p.2.1 _ _ b base base1 (Qaw g1) rfl (Qaw h4) rfl g6 e1;have hpe:=h.box1 g3 hp this;rw [←hpe] at e1 e2 e3;simp only at e1 e2 e3;rw [g6] at e1;simp only [Oie,Pmi] at e1;omega
   ·subst e; trivial
   ·rw [(hold o (hsome o ob hk2)).2];refine Qda (Qam hk) hk hn (fun b q hb hl hf=>?_) (hr2.obj o ob hk2)
    exact hkept.block b (hr2.hold o ob q b hk2 hl hb hf).2 (hapart o ob q b hk2 hl hb hf h7 h8)
 have hres:=Qtf (k1 hag hNl1 (fun p hp=>hβq p (List.mem_append_left _ hp))).1
 refine ⟨β',?_⟩;cases dst with
 | none=>exact hmain
 | some j=>exact hmain.setL (by simpa [QM] using hd) hres
section token
variable {P:Program} {Z:Nat→Prop} {M:Nat→Nat→Prop} {N:Nat→Option (Option (Nat×Nat))} {w0 w:World} {β:Qr} {σ:St} {a:Act} {o:Oper} {next:Act→World→Prop} {Q':Exit→Act→World→Prop}
theorem Qwp {e1:TypeId} (hd:deep e1=false) {t1:Ty} {ys:List (den t1)} {m:List Value} {F:List Nat} (h:Dp w e1 (.slice t1) ys m F):
  ∃q0 v,m=[v]∧RowO w (fun _=>False) e1 t1 ys q0∧RowV q0 ys.length v∧F=blkq q0:=by
 rcases h with ⟨h1,h2,h3⟩ | ⟨b,cap,c,rows,h1,h2,h3,h4,h5,h6,h7,h8⟩
 ·exact ⟨none,_,h1,.inl ⟨rfl,h2⟩,⟨rfl,by rw [h2]; rfl⟩,h3⟩
 ·exact ⟨some (b,cap),_,h1,(Qae hd).2 (.inr ⟨b,cap,c,rows,rfl,h3,h4,h5,h6,h7,h8⟩),by show _=_; rw [Qau h6],by rw [h2]; simp [blkq,QaR h6]⟩
theorem QwS {e1:TypeId} (hd:deep e1=false) {t1:Ty} (hs:QaL t1=false) {S:Nat→Prop} {ys:List (den t1)} {v:Value} {q0:Option (Nat×Nat)} (h:RowO w S e1 t1 ys q0) (hv:RowV q0 ys.length v):Dp w e1 (.slice t1) ys [v] (blkq q0):=by
 rcases (Qae hd).1 h with ⟨h1,h2⟩ | ⟨b,cap,c,rows,h1,h3,h4,h5,h6,h7,h8⟩
 ·subst h1;exact .inl ⟨by rw [hv.1],h2,rfl⟩
 ·subst h1;simp only [RowV] at hv;rw [Qau h6] at hv;exact .inr ⟨b,cap,c,rows,by rw [hv],by simp [blkq,QaR h6],h3,h4,h5,h6,Qac (fun _ _=>Qcg hs) h7,h8⟩
theorem Qqw {f:FuncId} {b i off:Nat} {e:TypeId} {u t1 t2 t3:Ty} {xs:List (den u)} {F:denP [.row (inn e) t1,.val t2]→Option (denV [.s (.dat t3)]×denQ [.row (inn e) t1,.val t2])}
  (hrep:RepB Z M N w0 β σ a w) (hb:look σ.H b=some (.row e u xs)) {v1 v2:Value} (htok:VS w (RO Z β σ.H) β σ.H (.dp b i off .tok) v1) (hle:lent e=true) (hdp:deep e=true) (hs:QaL t1=false) (hd1:deep (inn e)=false)
  {z z':den u} {ys ys':List (den t1)} {n:den t2} {r:den t3} (hz:xs[i]?=some z) (hsub:sub u z off (.slice t1)=some ys) (hlen:ys'.length=ys.length) (hupd:upd u z off (.slice t1) ys'=some z') (hs3:QaL t3=false)
  (hF:F (ys,n,())=some ((r,()),(ys',()))) (hcall:Qb P f ⟨[.row (inn e) t1,.val t2],[.s (.dat t3)],F,false⟩) (hv2: ∃cs,Val t2 v2 cs∧Rp w (fun _=>False) t2 n cs)
  (hnext: ∀v w',(∃cs,Val t3 v cs∧Rp w' (fun _=>False) t3 r cs)→RepB Z M N w0 β (σ.put b (.row e u (xs.set i z'))) a w'→next (a.put o.dst v) w'):
  o.upon P a next Q' ((callFunc f [v1,v2].toArray).run P w):=by
 simp only [VS,hb] at htok;obtain ⟨hi,g,cap,hg,htok⟩:=htok.2 hdp;obtain ⟨c,e',fz,A0,n0,k0,hh0,hc0,hv⟩:=htok hle;rcases hrep.obj b _ hb with ⟨hq,_⟩ | ⟨g',cap',c',rows,hq,hh,hsz,hl,hmx,hrows,hcl,hcp,hnb,hdd⟩
 ·rw [hg] at hq; cases hq
 rw [hg] at hq;simp only [Oie,Pmi] at hq;obtain ⟨rfl,rfl⟩:=hq;rw [hh] at hh0;simp only [Oie,Obj.cells.injEq] at hh0;obtain ⟨rfl,_,_⟩:=hh0;obtain ⟨F0,hD1,hnd,hsub0⟩:=hdd hdp;obtain ⟨A,Fi,C,row,rfl,hdr,hr2,hle,hset⟩:=QhO hD1 hz;obtain ⟨A',Fj,C',p,m,q,rfl,rfl,hpl,hm,hset2⟩:=Qti hsub hdr;obtain ⟨q0,v0,rfl,hro,hrv,rfl⟩:=Qwp hd1 hm;have hrl:=QbA hdr;simp only [List.length_append,List.length_singleton] at hrl
 have hv0:v0=v1:=by
  have h1:=hr2 off (by omega)
  rw [←hcl _ (by omega),hc0,List.append_assoc,List.getElem?_append_right (by omega),hpl,Nat.sub_self] at h1
  simpa using h1.symm
 subst hv0;have hinF: ∀g2∈blkq q0,g2∈bits cap:=fun g2 h2=>hsub0 g2 (by simp [h2])
 have hmay:=hrep.own b _ g cap hb rfl hg;have hMi: ∀g2∈blkq q0,(∀i,M g2 i)∧g2< w.heap.size:=fun g2 h2=>hrep.hold b _ _ g2 hb rfl hg (.inr ⟨rfl,hinF g2 h2⟩)
 have hndF:(blkq q0).Nodup:=(List.nodup_append.1 (List.nodup_append.1 (List.nodup_append.1 (List.nodup_append.1 hnd).1).2.1).1).2.1
 refine hcall (ys,n,()) ((r,()),(ys',())) hF w [v0,v2] (fun _=>False) (fun _=>False) (fun o=>if o=9000100 then some (.row q0 ys.length) else none) (fun b' i=>w.heap.size≤b'∨b'∈blkq q0) (blkq q0)
  ⟨(hrep.laid.kept hrep.below).sub fun p _ i hi=>⟨0,hi.elim (fun h=>hrep.fresh p.1 (Nat.le_trans hrep.below.size h) 0) fun h=>(hMi p.1 h).1 0⟩,fun b hb i=> .inl hb,hndF,fun g2 h2=>⟨fun i=> .inr h2,(hMi g2 h2).2⟩,fun o b base h=>?_,fun o q n h=>?_,fun o o' b base base' h=>?_,fun b _ h=>h.elim,fun b h=>h.elim⟩
  ⟨v0,[v2],q0,[],rfl,by simp,by simp,hro,hrv,v2,[],rfl,hv2,rfl,rfl⟩ trivial o a next Q' (fun v w' hpost=>?_)
 ·split at h <;> cases h
 ·split at h
  ·rename_i e9; subst e9; simp [Qbx]
  ·cases h
 ·split at h <;> cases h
 ·obtain ⟨hkept,us,F1,F2,hvv,hvk,hout,hnd2,hF2⟩:=hpost;obtain ⟨vr,vs',Fa,Fb,rfl,rfl,⟨⟨cs3,hval,hr3⟩,rfl⟩,rfl,rfl⟩:=hvk;obtain ⟨_,_,q2,F3,e5,rfl,hro2,⟨n2,hB⟩,hrest⟩:=hout;have hB:some (Pl.row q0 ys.length)=some (.row q2 n2):=hB;simp only [Oie,Pl.row.injEq] at hB;obtain ⟨rfl,_⟩:=hB;have hvr:v=vr:=hvv;subst hvr;have hothers: ∀g2,g2< w.heap.size→g2∉blkq q0→w'.heap[g2]?=w.heap[g2]? :=fun g2 h1 h2=>hkept.block g2 h1 fun i hm=>hm.elim (fun h=>by omega) h2
  have hgb:w'.heap[g]?=w.heap[g]? :=hothers g hmay.2 fun h=>hnb (hinF g h)
  have hd2:=QwS hd1 hs hro2 (v:=v0) (by rw [hlen]; exact hrv)
  have hbig: ∀g2,g2∈A++(A'++blkq q0++C')++C→g2< w.heap.size:=fun g2 h2=>(hrep.hold b _ _ g2 hb rfl hg (.inr ⟨rfl,hsub0 g2 h2⟩)).2
  have hdisj: ∀g2,g2∈A++A'++C'++C→g2∉blkq q0:=by
   intro g2 h2 h3
   have hp:(A++(A'++blkq q0++C')++C).Perm (blkq q0++(A++A'++C'++C)):=by
    simp only [List.append_assoc];refine ((List.perm_append_comm_assoc A' (blkq q0) _).append_left A).trans ?_;exact List.perm_append_comm_assoc _ _ _
   exact (List.nodup_append.1 (hp.nodup_iff.1 hnd)).2.2 g2 h3 g2 h2 rfl
  have hk2: ∀g2,g2∈A++A'++C'++C→w'.heap[g2]?=w.heap[g2]? :=fun g2 h2=>hothers g2 (hbig g2 (by simp only [List.mem_append] at h2⊢; rcases h2 with ((h | h) | h) | h <;> simp [h])) (hdisj g2 h2)
  have hDz:=hset2 w' ys' z' _ hupd (fun g2 h2=>hk2 g2 (by rcases List.mem_append.1 h2 with h | h <;> simp [h])) hd2
  have hDL:=hset w' z' _ _ (fun g2 h2=>hk2 g2 (by rcases List.mem_append.1 h2 with h | h <;> simp [h])) hDz
  have hrr:rows.take (i*sz u)++(p++[v0]++q)++rows.drop (i*sz u+sz u)=rows:=by
   apply List.ext_getElem?;intro j;have hrowl:(p++[v0]++q).length=sz u:=by simp only [List.length_append,List.length_singleton]; omega
   by_cases h1:j< i*sz u
   ·rw [List.append_assoc,List.getElem?_append_left (by simp; omega),List.getElem?_take,if_pos h1]
   ·by_cases h2:j< i*sz u+sz u
    ·have h3:=hr2 (j-i*sz u) (by omega)
     rw [show i*sz u+(j-i*sz u)=j by omega] at h3
     rw [List.getElem?_append_left (by rw [List.length_append,hrowl]; simp; omega),List.getElem?_append_right (by simp; omega),h3,List.length_take,Nat.min_eq_left (by omega)]
    ·rw [List.getElem?_append_right (by rw [List.length_append,hrowl]; simp; omega),List.length_append,hrowl,List.length_take,Nat.min_eq_left (by omega),List.getElem?_drop]
     congr 1; omega
  rw [hrr] at hDL;refine hnext v w' ⟨cs3,hval,Qcg hs3 hr3⟩ ?_;refine hrep.turnG hb rfl rfl hg (fun _=>⟨e,xs,rfl,by simp,QcX.refl,id,fun hl2=>⟨hl2,HdrS.same fun p2 hp2=>?_⟩⟩) (fun b' hf=>(hrep.hold b _ _ b' hb rfl hg hf).1) (fun _=>Iff.rfl) (hrep.below.trans hkept fun b' i hm=>?_) hkept.size (fun b' h1 h2=>hothers b' h1 fun h3=>h2 (.inr ⟨rfl,hinF b' h3⟩)) (fun S'=>?_)
  ·rw [hg] at hp2;obtain rfl:=Osj hp2;exact hgb
  ·rcases hm with hm | hm
   ·exact hrep.fresh b' (Nat.le_trans hrep.below.size hm) i
   ·exact (hMi b' hm).1 i
  ·rw [hg];exact .inr ⟨g,cap,_,rows,rfl,by rw [hgb]; exact hh,hsz,by simpa using hl,hmx,Qfe (fun g2 h2=> .inr (hsub0 g2 h2)) hDL,hcl,hcp,hnb,fun _=>⟨_,hDL,hnd,hsub0⟩⟩
end token
end
section
open Go Go.RowKit
variable {P:Program} {T:Tab} {G:Env} {w w' w0:World} {Z:Nat→Prop} {M:Nat→Nat→Prop} {N:Nat→Option (Option (Nat×Nat))} {a:Act} {σ:St} {β:Qr} {l:List Nat}
variable {o:Oper} {next:Act→World→Prop} {Q:Exit→Act→World→Prop} {R:Type} {K:St→Option R} {y:R} {qo:Out}
theorem QdV (hT:QR P T=true): ∀{T':Tab},(∀p∈T',p∈T)→ ∀{m t k:TypeId},QjP T' m=some (t,k)→
  P.underlying m=some (.map k t)∧(∃r i d,RowOk P T t r i d (.bool false))∧ ∃q,look T k=some q∧q.ty= .int .i64
 | [],_,m,t,k,h=>by simp [QjP] at h
 | (t',r)::l,hm,m,t,k,h=>by
  simp only [QjP] at h;split at h
  ·rename_i hty;split at h
   ·rename_i k' hk;simp only [Oie,Pmi] at h;obtain ⟨rfl,rfl⟩:=h;obtain ⟨i,d,z,hrow⟩:=Qrr hT (hm (t',r) (by simp))
    have hmaps:=hrow.maps;unfold Quj at hmaps;rw [hty] at hmaps;have:=List.all_eq_true.1 hmaps _ (QaY hk);simp only [Bool.and_eq_true] at this;obtain ⟨⟨h1,h2⟩,h3⟩:=this
    have hz:z= .bool false:=by
     rw [hrow.info] at h3;simp only [hrow.zero] at h3;split at h3
     ·rename_i e;simp only [Oie] at e;subst e;simpa using h3
     ·cases h3
    subst hz;refine ⟨?_,⟨r,i,d,hrow⟩,?_⟩
    ·split at h1
     ·rename_i hu;simp only [Bool.and_eq_true,decide_eq_true_eq] at h1;rw [hu,h1.1,h1.2]
     ·cases h1
    ·split at h2
     ·rename_i q hq;exact ⟨q,hq,by simpa using h2⟩
     ·cases h2
   ·exact QdV hT (fun p hp=>hm p (by simp [hp])) h
  ·exact QdV hT (fun p hp=>hm p (by simp [hp])) h
def Qhm:List (Int×Bool)→Int→Nat→Option (Nat×Value)
 | [],_,_=>none
 | p::r,n,i=>if p.1=n then some (i,.bool p.2) else Qhm r n (i+1)
theorem QhX {kind:TypeDesc} (hk: ∃k,kind= .int k) {n:Int}: ∀{es:List MapEntry} {xs:List (Int×Bool)} {i:Nat},es.map (fun e=>(e.key,e.val))=xs.map (fun p=>(Value.int .i64 p.1,Value.bool p.2))→
  Instr.findNow kind (.int .i64 n) es i=some (Qhm xs n i)
 | [],[],_,_=>rfl
 | [],_::_,_,h=>by simp at h
 | _::_,[],_,h=>by simp at h
 | e::es,p::xs,i,h=>by
  obtain ⟨k,rfl⟩:=hk;simp only [List.map_cons,List.cons.injEq,Pmi] at h;obtain ⟨⟨h1,h2⟩,h3⟩:=h;have ih:=QhX (kind:= .int k) ⟨k,rfl⟩ (n:=n) (i:=i+1) h3;simp only [Instr.findNow,h1,Instr.sameNow,if_true,Qhm];by_cases e':p.1=n
  ·simp [e',h2]
  ·have:(n==p.1)=false:=by simpa using fun h=>e' h.symm
   simp [this,ih,e']
theorem Qlt: ∀{xs:List (Int×Bool)} {n:Int} {i:Nat},(match Qhm xs n i with | some q=>q.2 | none=>Value.bool false)= .bool (getM xs n)
 | [],_,_=>rfl
 | p::r,n,i=>by
  simp only [Qhm,getM];by_cases e:p.1=n
  ·simp [e]
  ·simp only [if_neg e]; exact Qlt
theorem Qlu {y:Bool}: ∀{xs:List (Int×Bool)} {n:Int} {i:Nat},match Qhm xs n i with
  | some q=> ∃j,q.1=i+j∧j< xs.length∧setM xs n y=xs.set j (n,y)∧(xs[j]?).map (·.1)=some n
  | none=>setM xs n y=xs++[(n,y)]
 | [],_,_=>rfl
 | p::r,n,i=>by
  simp only [Qhm,setM];by_cases e:p.1=n
  ·simp only [if_pos e];exact ⟨0,rfl,by simp,by simp,by simp [e]⟩
  ·simp only [if_neg e];have ih:=Qlu (y:=y) (xs:=r) (n:=n) (i:=i+1);split at ih
   ·rename_i q hq;obtain ⟨j,h1,h2,h3,h4⟩:=ih;exact ⟨j+1,by omega,by simp; omega,by simp [h3],by simpa using h4⟩
   ·rename_i hq;rw [ih]; rfl
theorem QtZ (hk:Kept M w0 w) {g:Nat} {es:Array MapEntry} {clock:Nat} (hh:w.heap[g]?=some (.map es clock)) (hM: ∀i,M g i) {ob:Obj}:Kept M w0 { w with heap:=w.heap.setIfInBounds g ob } where
 os:=hk.os
 tape:=hk.tape
 output:=hk.output
 size:=by simpa using hk.size
 block:=by
  intro b hb hn;by_cases e:b=g
  ·subst e; exact absurd (hM 0) (hn 0)
  ·rw [(MapKept.heap_set hh).2 b e]; exact hk.block b hb hn
 cells:=by
  intro b c e fz hb;obtain ⟨c',h1,h2⟩:=hk.cells b c e fz hb;by_cases e':b=g
  ·subst e'; rw [hh] at h1; cases h1
  ·exact ⟨c',by rw [(MapKept.heap_set hh).2 b e']; exact h1,h2⟩
theorem QpS (hrep:RepB Z M N w0 β σ a w) (hd:QM o.dst σ.nt=true) (hg:GoP Z M N w0 σ o qo next) {t:TypeId} {r:Option Operand} (ho:o.op= .makeMap t r)
  (h:QL T o σ=some qo):o.wp P a w next Q:=by
 unfold QL Qaj at h;rw [ho] at h;simp only at h;split at h
 ·rename_i j hj;split at h
  ·rename_i hn;obtain rfl:=(Osj h).symm;unfold GoP at hg;rw [hj] at hd hg;refine QD (v:= .map (some w.heap.size)) (w':=w.alloc (.map #[] 0)) ?_ ?_
   ·unfold execOp;rw [ho];simp [Instr.makeMap]
   ·rw [hj];have hal:=MapKept.heap_alloc w (.map #[] 0)
    have hsz:(w.alloc (.map #[] 0)).heap.size=w.heap.size+1:=by
     rw [show (w.alloc (.map #[] 0)).heap=w.heap.push (.map #[] 0) from rfl]; simp
    refine hg _ _ ⟨β.put j (some (w.heap.size,0)),?_⟩
    have hnew:=hrep.new (ob:= .map []) (q:=some (w.heap.size,0)) hn (hrep.below.alloc _) hal.2 (by omega) (fun b p e _ hf=>by
     obtain rfl:=Osj e;rw [QnN hf]; omega) (fun S' β' H' _ _=>⟨w.heap.size,0, #[],0,rfl,hal.1,rfl,Nat.zero_le _⟩)
    have:=hnew.set (i:=j) (y:= .s (.mp j)) (v:= .map (some w.heap.size)) (by show j< σ.nt; simpa [QM] using hd) ((VV_s (by intros; simp)).2 (by
     simp only [VS,St.put,Qe,if_true];exact ⟨w.heap.size,0,Qz,rfl⟩))
    exact this
  ·cases h
 ·cases h
theorem QsD (hT:QR P T=true) (hrep:RepB Z M N w0 β σ a w) (hd:QM o.dst σ.nt=true) (hg:GoP Z M N w0 σ o qo next) {t:TypeId} {m x:Operand} {ok:Bool} (ho:o.op= .lookup t m x ok)
  (h:QL T o σ=some qo):o.wp P a w next Q:=by
 unfold QL Qaj at h;rw [ho] at h;simp only at h;split at h
 ·rename_i tk b n htk hm hx;split at h
  ·rename_i es hb;obtain rfl:=Qo h;obtain ⟨hu,⟨r,i,d,hrow⟩,q,hq,hqt⟩:=QdV hT (fun p hp=>hp) htk
   obtain ⟨i2,d2,z2,hrow2⟩:=QA hT hq;have e1:a.eval x= .int .i64 n:=Qbr (Qh hrep hx);have e2:VS w (RO Z β σ.H) β σ.H (.mp b) (a.eval m):=(VV_s (by intros; simp)).1 (Qh hrep hm)
   simp only [VS,hb] at e2;obtain ⟨g,base,hg1,hv⟩:=e2;obtain ⟨g',base',arr,clock,hq1,hh,harr,hcap⟩:=hrep.obj b _ hb;rw [hg1] at hq1;simp only [Oie,Pmi] at hq1;obtain ⟨rfl,rfl⟩:=hq1
   have hd2:d2= .int .i64:=by
    have:=hrow2.desc;unfold QaS at this;rw [hqt] at this;cases d2 <;> first | (simp at this; done) | (have e:=of_decide_eq_true this; subst e; rfl)
   subst hd2;have hfk:=MapKept.run_findKey (w:=w) hrow2.under (QhX (n:=n) (i:=0) ⟨.i64,rfl⟩ harr);have hck:(Instr.checkKey arr.isEmpty 10000 tk.2 (.int .i64 n)).run P w= .ok () w:=MapKept.run_checkKey hrow2.under (by simp [MapKept.IsKey]) _ 9999
   refine QD (v:= .bool (getM es n)) (w':=w) ?_ (hg _ _ ⟨β,hrep.val hd (Qbj ⟨rfl,rfl⟩)⟩);unfold execOp;rw [ho];simp only [e1,hv]
   have hlk:(Instr.lookup t (.map (some g)) (.int .i64 n) false).run P w= .ok (.bool (getM es n)) w:=by
    have hfin:=Qlt (xs:=es) (n:=n) (i:=0);simp only [Instr.lookup,Sem.run_bind,run_underlying hu,Result.andThen_ok,MapKept.run_getObj_map hh,Sem.run_pure,hck,hfk];cases hf:Qhm es n 0 with
    | none=>rw [hf] at hfin; simp only at hfin; simp [hrow.run_zero,hfin]
    | some q=>rw [hf] at hfin; simp only at hfin; simp [hfin]
   simp [hlk]
  ·cases h
 ·cases h
theorem Qnb {nm:Nat} (hT:QR P T=true) (hrep:RepB Z M N w0 β σ a w) (hg:GoOn Z M N w0 σ K y next) {t:TypeId} {m x v:Operand} (ho:o.op= .mapUpdate t m x v)
  (h:opR T G nm o σ K=some y):o.wp P a w next Q:=by
 unfold opR at h;rw [ho] at h;simp only at h;split at h
 ·rename_i tk b n yv hdst htk hm hx hyv;split at h
  ·rename_i es hb;obtain ⟨hu,⟨r,i,d,hrow⟩,q,hq,hqt⟩:=QdV hT (fun p hp=>hp) htk
   obtain ⟨i2,d2,z2,hrow2⟩:=QA hT hq;have e1:a.eval x= .int .i64 n:=Qbr (Qh hrep hx);have e3:a.eval v= .bool yv:=QdO (Qh hrep hyv);have e2:VS w (RO Z β σ.H) β σ.H (.mp b) (a.eval m):=(VV_s (by intros; simp)).1 (Qh hrep hm)
   simp only [VS,hb] at e2;obtain ⟨g,base,hg1,hv⟩:=e2;obtain ⟨g',base',arr,clock,hq1,hh,harr,hcap⟩:=hrep.obj b _ hb;rw [hg1] at hq1;simp only [Oie,Pmi] at hq1;obtain ⟨rfl,rfl⟩:=hq1
   have hd2:d2= .int .i64:=by
    have:=hrow2.desc;unfold QaS at this;rw [hqt] at this;cases d2 <;> first | (simp at this; done) | (have e:=of_decide_eq_true this; subst e; rfl)
   subst hd2;have hfk:=MapKept.run_findKey (w:=w) hrow2.under (QhX (n:=n) (i:=0) ⟨.i64,rfl⟩ harr);have hck:(Instr.checkKey false 10000 tk.2 (.int .i64 n)).run P w= .ok () w:=MapKept.run_checkKey hrow2.under (by simp [MapKept.IsKey]) _ 9999
   have hmay:=(hrep.own b _ g base hb rfl hg1).1;have hall: ∀i,M g i:=hmay;have hlen:arr.toList.length=es.length:=by have:=congrArg List.length harr; simpa using this
   have done: ∀(arr':Array MapEntry) (clock':Nat),(Instr.mapUpdate t (.map (some g)) (.int .i64 n) (.bool yv)).run P w= .ok () { w with heap:=w.heap.setIfInBounds g (.map arr' clock') }→
     arr'.toList.map (fun e=>(e.key,e.val))=(setM es n yv).map (fun p=>(Value.int .i64 p.1,Value.bool p.2))→o.wp P a w next Q:=by
    intro arr' clock' hrun harr';refine Qey (w':={ w with heap:=w.heap.setIfInBounds g (.map arr' clock') }) ?_ (hg _ h rfl _ _ ⟨β,?_⟩)
    ·unfold execOp;rw [ho];simp [e1,e3,hv,hrun]
    ·rw [hdst];have hs:=MapKept.heap_set (o':= .map arr' clock') hh;exact hrep.turn hb rfl rfl hg1 (fun _=>⟨⟨es,rfl⟩,rfl⟩) (fun b' hf=>by rw [QnN hf]; exact hmay) (fun _=>Iff.rfl) (QtZ hrep.below hh hall) (by simp) (fun b' hb'=>hs.2 b' fun e=>hb' (.inl e)) (fun S' H' _ _=>⟨g,base,arr',clock',hg1,hs.1,harr',hcap⟩)
   have hfs:=Qlu (y:=yv) (xs:=es) (n:=n) (i:=0);cases hf:Qhm es n 0 with
   | none=>
    rw [hf] at hfs hfk;simp only at hfs;refine done (arr.push { key:= .int .i64 n,val:= .bool yv,born:=clock }) (clock+1) ?_ (by rw [hfs]; simp [harr])
    simp [Instr.mapUpdate,run_underlying hu,MapKept.run_getObj_map hh,hck,hfk,MapKept.run_setObj_map _ hh,Result.andThen]
   | some q=>
    rw [hf] at hfs hfk;simp only [Nat.zero_add] at hfs;obtain ⟨j,h1,h2,h3,h4⟩:=hfs;have hjl:j< arr.size:=by rw [←Array.length_toList,hlen]; exact h2
    obtain ⟨p,hp⟩: ∃p,es[j]?=some p:=⟨_,List.getElem?_eq_getElem h2⟩;have hpn:p.1=n:=by rw [hp] at h4; simpa using h4
    have hej:(arr[j]).key= .int .i64 n:=by
     have:=congrArg (fun l=>l[j]?) harr
     simp only [List.getElem?_map,hp,Option.map_some,Array.getElem?_toList,Array.getElem?_eq_getElem hjl,Oie,Pmi] at this;rw [this.1,hpn]
    refine done (arr.modify j fun e=>{ e with key:= .int .i64 n,val:= .bool yv }) clock ?_ ?_
    ·have hstay:(Instr.keyThatStays (.int .i64 n) (.int .i64 n)).run P w= .ok (.int .i64 n) w:=by
      simp [Instr.keyThatStays,Instr.sameBits]
     have hst:(Instr.keyThatStays (((arr[q.1]?).map (·.key)).getD (.int .i64 n)) (.int .i64 n)).run P w= .ok (.int .i64 n) w:=by
      rw [h1,Array.getElem?_eq_getElem hjl];simp only [Option.map_some,Option.getD_some,hej];exact hstay
     obtain ⟨q1,q2⟩:=q;simp only at h1 hst;simp only [Instr.mapUpdate,Sem.run_bind,run_underlying hu,Result.andThen_ok,MapKept.run_getObj_map hh,hck,hfk,hst,MapKept.run_setObj_map _ hh];rw [h1]
    ·rw [h3,Array.toList_modify,List.map_set, ←harr];apply List.ext_getElem?;intro k;simp only [List.getElem?_map,List.getElem?_modify,List.getElem?_set];by_cases e:j=k
     ·subst e;have hjl':j< arr.toList.length:=by rw [hlen]; exact h2
      simp [hjl'];rw [if_pos hjl,Array.getElem?_eq_getElem hjl];simp
     ·simp [e]
  ·cases h
 ·cases h
end
section
open Go Go.RowKit
variable {P:Program} {T:Tab} {G:Env} {w w' w0:World} {Z:Nat→Prop} {M:Nat→Nat→Prop} {N:Nat→Option (Option (Nat×Nat))} {a:Act} {σ:St} {β:Qr} {l:List Nat}
variable {o:Oper} {next:Act→World→Prop} {Q:Exit→Act→World→Prop} {R:Type} {K:St→Option R} {y:R} {qo:Out}
theorem QpN {S:Nat→Prop} {H:Heap} {b:Bool} {xs:List SV} {vs:List Value} (h:nlOk b xs=true) (hv:All2 (VV w S β H) xs vs):nlV b vs:=by
 cases b with
 | false=>trivial
 | true=>
  cases hv with
  | nil=>simp [nlOk] at h
  | cons h1 _=>
   rename_i x v _ _ _;cases x with
   | g _=>simp [nlOk] at h
   | s c=>
    cases c <;> first | (simp [nlOk] at h; done) | skip
    obtain rfl:v=Value.slice none 0 0:=h1;exact ⟨_,rfl⟩
theorem Qmj {l:List Cap} {xs:List SV} {q:Nat×Nat×Nat×SV} (h:tokA l xs=some q):l=[]∧xs=[.s (.dp q.1 q.2.1 q.2.2.1 .tok),q.2.2.2]:=by
 unfold tokA at h;split at h
 ·obtain rfl:=Osj h;exact ⟨rfl,rfl⟩
 ·cases h
theorem QnH (hG:Qf P G) (hrep:RepB Z M N w0 β σ a w) (hd:QM o.dst σ.nt=true) (hg:GoOn Z M N w0 σ K y next) {g:FuncId} {cn:Con} (hcn:(g,cn)∈G) {b i off:Nat} {y2:SV} {v1 v2:Value}
  (htok:VS w (RO Z β σ.H) β σ.H (.dp b i off .tok) v1) (hv2:VV w (RO Z β σ.H) β σ.H y2 v2) (h:Qgv cn b i off y2 o.dst σ K=some y):o.upon P a next Q ((callFunc g [v1,v2].toArray).run P w):=by
 unfold Qgv at h;split at h
 ·rename_i e1 t1 t2 t3 F;split at h
  ·rename_i e u xs hb;split at h
   ·rename_i hc;obtain ⟨⟨⟨rfl,hd1⟩,hle,hdp⟩,h1,h2,h3⟩:=hc;obtain ⟨n,hn,h⟩:=Obs h;obtain ⟨z,hz,h⟩:=Obs h;obtain ⟨ys,hys,h⟩:=Obs h;obtain ⟨⟨⟨r,u1⟩,ys',u2⟩,hF,h⟩:=Obs h;obtain ⟨z',hz',h⟩:=Obs h;split at h
    ·rename_i hlen;obtain ⟨cs,hv,hr⟩:=Qbp hrep.owns (S':=RO Z β σ.H) (fun _ _ _ h=>h) (fun h=>by cases h) hv2 hn
     refine Qqw hrep hb htok hle hdp h1 hd1 hz hys hlen hz' h3 hF (hG _ hcn) ⟨cs,hv,Qcg h2 hr⟩ fun v w' hres hr'=>?_
     obtain ⟨cs3,h4,h5⟩:=hres;refine hg _ h (by rw [Qgl]; rfl) _ _ ⟨β,hr'.sets hd ⟨cs3,h4,Qcg h3 h5⟩⟩
    ·cases h
   ·cases h
  ·cases h
 ·cases h
theorem QvE {nm:Nat} (hG:Qf P G) (hrep:RepB Z M N w0 β σ a w) (hd:QM o.dst σ.nt=true) (hg:GoOn Z M N w0 σ K y next) {c:Call} (ho:o.op= .call c) {f:Operand} (hc:c.callee= .value f)
  (h:opR T G nm o σ K=some y):o.wp P a w next Q:=by
 unfold opR at h;rw [ho] at h;simp only [hc] at h;split at h
 ·rename_i g lc xs0 hf hxs0;obtain ⟨us,hfv,hus⟩: ∃us:List Value,a.eval f= .func (.func g) #[] us.toArray∧All2 (PR w (RO Z β σ.H) β σ.H) lc us:=(VV_s (by intros; simp)).1 (Qh hrep hf)
  have hcap: ∀{lc:List Cap} {us:List Value},All2 (PR w (RO Z β σ.H) β σ.H) lc us→All2 (VV w (RO Z β σ.H) β σ.H) (lc.map fun c=> .s (capS c)) us:=fun {lc us} h=>by
   induction h with
   | nil=>exact .nil
   | @cons c u _ _ h1 _ ih=>exact .cons (by cases c <;> exact h1) ih
  split at h
  ·rename_i q0 htk;obtain ⟨rfl,rfl⟩:=Qmj htk;split at h
   ·rename_i cn hcn;have hall:=QiV hrep hxs0;cases hus;generalize hvl:c.args.toList.map a.eval=vl at hall
    match vl,hall with
    | [v1,v2],.cons h1 (.cons h2 .nil)=>
     have hrun:(execOp a.eval o).run P w=(callFunc g [v1,v2].toArray).run P w:=by
      have e1:Array.map a.eval c.args++[].toArray=[v1,v2].toArray:=by
       rw [←Array.toList_inj]; simp [hvl]
      unfold execOp;rw [ho];simp [resolve,hc,hfv,Deferred.ofValue,invoke,e1]
     unfold Oper.wp;rw [hrun];exact QnH hG hrep hd hg (Qig hcn) h1 h2 h
   ·cases h
  rename_i htk;have hvs:=(QiV hrep hxs0).append (hcap hus);revert h;generalize (xs0++lc.map fun c=>SV.s (capS c))=xs at hvs⊢
  intro h;split at h
  ·rename_i cn hcn;unfold Qjm at h;obtain ⟨q,hq,h⟩:=Obs h;split at h
   ·rename_i hchk;obtain ⟨yy,hy,h⟩:=Obs h;simp only at h;split at h
    ·rename_i hchk2;simp only [Bool.and_eq_true] at hchk hchk2;obtain ⟨⟨⟨⟨⟨c0,c1⟩,c2⟩,c3⟩,c4⟩,c5⟩:=hchk
     let vs:=c.args.toList.map a.eval++us
     have hh:Hand Z M N w0 β σ a w cn.ps xs vs q.1 q.2.1 q.2.2:=⟨hrep,hq,Qan c1,Qan c2,c3,c4,hvs,c5⟩
     have hrun:(execOp a.eval o).run P w=(callFunc g vs.toArray).run P w:=by
      have e1:Array.map a.eval c.args++us.toArray=vs.toArray:=by
       rw [←Array.toList_inj]; simp [vs]
      unfold execOp;rw [ho];simp [resolve,hc,hfv,Deferred.ofValue,invoke,e1]
     unfold Oper.wp;rw [hrun];have hnl:nlV cn.nl vs:=QpN c0 hvs;refine hG (g,cn) (Qig hcn) q.1 yy hy w vs _ _ _ _ _ hh.pre hh.argsR hnl o a next Q fun v w' hpost=>?_
     exact hg _ h rfl _ _ (Qsa hh hpost hchk2.1 hchk2.2 hd)
    ·cases h
   ·cases h
  ·cases h
 ·cases h
theorem Qoj {p:Prop} [Decidable p] {α γ:Type} {x z:Option α} {f:α→Option γ}:(if p then x else z).bind f=if p then x.bind f else z.bind f:=by split <;> rfl
theorem QdF {K:Out→Option R}:Qaj T o σ K=(QL T o σ).bind K:=by
 unfold QL Qaj;simp only [QhQ]
 split <;> (repeat' split) <;> first | rfl | (simp only [kv,Option.bind_assoc,Qoj,Obn,Option.bind_none]; done) |
  (rw [Option.bind_assoc]; congr 1; funext v; split <;> first | rfl | (simp only [Option.bind_assoc,Qoj,Obn,Option.bind_none]; done))
theorem QhK {S:Nat→Prop} {H:Heap}: ∀{vs:List SV} {l:List Cap} {us:List Value},All2 (VV w S β H) vs us→mapO QuP vs=some l→All2 (PR w S β H) l us
 | [],_,_,.nil,h=>by
  simp only [mapO,Oie] at h;subst h; exact .nil
 | x::r,_,_,.cons h1 h2,h=>by
  simp only [mapO] at h;split at h
  ·rename_i y hy;split at h
   ·rename_i z hz;obtain rfl:=Osj h;refine .cons ?_ (QhK h2 hz);unfold QuP at hy;split at hy
    ·obtain rfl:=Osj hy; exact h1
    ·obtain rfl:=Osj hy; exact h1
    ·cases hy
   ·cases h
  ·cases h
theorem Qoq (hrep:RepB Z M N w0 β σ a w) (hd:QM o.dst σ.nt=true) (hg:GoP Z M N w0 σ o qo next) {fn:Fn} {first caps:Array Operand} (ho:o.op= .makeFunc fn first caps)
  (h:QL T o σ=some qo):o.wp P a w next Q:=by
 unfold QL Qaj at h;rw [ho] at h;simp only at h;split at h
 ·rename_i f vs hf1 hvs;split at h
  ·rename_i l hl;obtain rfl:=Qo h;have hall:=QhK (QiV hrep hvs) hl
   have hf0:first= #[]:=by
    apply Array.ext'; simpa using hf1
   refine QD (v:= .func (.func f) #[] (caps.map a.eval)) (w':=w) ?_ (hg _ _ ⟨β,hrep.val hd ?_⟩)
   ·unfold execOp;rw [ho,hf0];simp [Instr.makeFunc]
   ·refine (VV_s (by intros; simp)).2 ⟨_,?_,hall⟩
    congr 1;apply Array.ext';simp
  ·cases h
 ·cases h
theorem Qox (hT:QR P T=true) (hrep:RepB Z M N w0 β σ a w) (hd:QM o.dst σ.nt=true) (hg:GoP Z M N w0 σ o qo next) (h:QL T o σ=some qo):o.wp P a w next Q:=by
 cases ho:o.op with
 | move x=>exact Qrc hrep hd hg (.inl ho) (by unfold QL Qaj at h; rw [ho] at h; exact h)
 | assign x=>exact Qrc hrep hd hg (.inr ho) (by unfold QL Qaj at h; rw [ho] at h; exact h)
 | pick c x z=>exact QvH hrep hd hg ho h
 | alloc t=>exact Qus hT hrep hd hg ho h
 | box t x=>exact QwJ hT hrep hd hg ho h
 | build t ps=>exact Quu hT hrep hd hg ho h
 | buildSlice t n ps=>exact QkQ hT hrep hd hg ho h
 | load t x=>exact QvG hT hrep hd hg ho h
 | nilCheck x=>exact Qor hrep hd hg ho h
 | binOp op t x z t'=>exact Qut hrep hd hg ho hT h
 | unOp op t x=>exact QvI hrep hd hg ho h
 | convert t u x=>exact QpQ hT hrep hd hg ho h
 | makeSlice t x z=>exact Qna hT hrep hd hg ho h
 | slice t x lo hi mx=>exact Qux hT hrep hd hg ho h
 | fieldAddr t x k=>exact QmY hT hrep hd hg ho h
 | field t x k=>exact Quv hT hrep hd hg ho h
 | indexAddr t x z=>exact QmZ hT hrep hd hg ho h
 | index t x z=>exact Quw hT hrep hd hg ho h
 | extract x k=>exact QpR hrep hd hg ho h
 | makeFunc g fs cs=>exact Qoq hrep hd hg ho h
 | makeMap t r=>exact QpS hrep hd hg ho h
 | lookup t m x ok=>exact QsD hT hrep hd hg ho h
 | call c=>
  cases hc:c.callee with
  | builtin b=>
   cases b with
   | len=>exact QwK hT hrep hd hg ho hc h
   | max=>exact QwL hrep hd hg ho hc h
   | min=>exact QwM hrep hd hg ho hc h
   | copy=>exact QvF hT hrep hd hg ho hc h
   | _=>unfold QL Qaj at h; rw [ho] at h; simp only [hc] at h; cases h
  | _=>unfold QL Qaj at h; rw [ho] at h; simp only [hc] at h; cases h
 | _=>unfold QL Qaj at h; rw [ho] at h; cases h
theorem GoOn.pure (hg:GoOn Z M N w0 σ K y next) (h:K (addO σ o.dst qo)=some y):GoP Z M N w0 σ o qo next:=fun a' w' hr=>hg _ h rfl a' w' hr
theorem Qij {nm:Nat} (hT:QR P T=true) (hG:Qf P G) (hrep:RepB Z M N w0 β σ a w) (hd:QM o.dst σ.nt=true) (hg:GoOn Z M N w0 σ K y next) (h:opR T G nm o σ K=some y):o.wp P a w next Q:=by
 have pure:(QL T o σ).bind (fun q=>K (addO σ o.dst q))=some y→o.wp P a w next Q:=by
  intro h;obtain ⟨q,hq,h⟩:=Obs h;exact Qox hT hrep hd (hg.pure h) hq
 have pure:(Qaj T o σ fun q=>K (addO σ o.dst q))=some y→o.wp P a w next Q:=fun h=>pure (by rw [←QdF]; exact h)
 cases ho:o.op with
 | store t x z=>exact Quy hT hrep hd hg ho h
 | mapUpdate t m x v=>exact Qnb hT hrep hg ho h
 | call c=>
  cases hc:c.callee with
  | builtin b=>
   cases b with
   | append=>exact QsB hT hrep hd hg ho hc h
   | _=>refine pure ?_; unfold opR at h; rw [ho] at h; simp only [hc] at h; exact h
  | value f=>exact QvE hG hrep hd hg ho hc h
  | _=>refine pure ?_; unfold opR at h; rw [ho] at h; simp only [hc] at h; exact h
 | buildSlice t len parts=>exact QsC hT hrep hd hg pure ho h
 | _=>refine pure ?_; unfold opR at h; rw [ho] at h; exact h
theorem RepB.know (h:RepB Z M N w0 β σ a w) {i:Nat} {z:SV} (hi:i< a.tmps.size) (hv:VV w (RO Z β σ.H) β σ.H z (a.tmps.getD i undef)):RepB Z M N w0 β (σ.set i z) a w where
 fresh:=h.fresh
 whole:=h.whole
 pin:=h.pin
 laid:=h.laid
 bz:=h.bz
 defers:=h.defers
 size:=h.size
 below:=h.below
 hold:=h.hold
 one:=h.one
 obj:=h.obj
 env:=by
  intro k x hx;simp only [St.set,Qe] at hx;by_cases e:i=k
  ·subst e;rw [if_pos rfl] at hx;obtain rfl:=Osj hx;exact ⟨hi,hv⟩
  ·rw [if_neg e] at hx;exact h.env k x hx
theorem Qro (σ:St) (i:Option Nat):(σ.skip i).nt=σ.nt:=by cases i <;> rfl
theorem QkL {all:Array Oper} {j t:Nat} (ht:(all[j]?).bind (·.dst)=some t) (hb:look σ.env t=some (.t [])) (hrep:RepB Z M N w0 β σ a w):yielded all a.tmps j=none:=by
 obtain ⟨hi,vs,hv,hall⟩:=hrep.env t _ hb;cases hall;have hv:a.tmps.getD t undef= .tuple #[]:=hv
 have:a.tmps[t]?=some (.tuple #[]):=by
  rw [Array.getElem?_eq_getElem hi];rw [Array.getD_eq_getD_getElem?,Array.getElem?_eq_getElem hi] at hv;exact congrArg some hv
 simp [yielded,ht,this]
theorem QeP (hT:QR P T=true) (hG:Qf P G) {all:Array Oper}: ∀{ops:List Oper} {nm:Nat} {σ:St} {a:Act} {w:World},Rep Z M N w0 σ a w→opsR T G all nm ops σ K=some y→
  (∀σ',K σ'=some y→σ'.nt=σ.nt→ ∀a' w',Rep Z M N w0 σ' a' w'→Q .normal a' w')→wpList P all Q ops a w
 | [],_,σ,a,w,hrep,h,hK=>hK σ h rfl a w hrep
 | o::r,nm,σ,a,w,hrep,h,hK=>by
  obtain ⟨β,hrep⟩:=hrep;simp only [opsR] at h;split at h
  ·cases h
  ·rename_i hd;have hd:QM o.dst σ.nt=true:=by simpa using hd
   have go: ∀{σ1:St},σ1.nt=σ.nt→RepB Z M N w0 β σ1 a w→(opR T G nm o σ1 fun σ'=>opsR T G all (nm+500) r σ' K)=some y→o.wp P a w (wpList P all Q r) Q:=by
    intro σ1 hnt hrep1 h1;refine Qij hT hG hrep1 (by rw [hnt]; exact hd) (fun σ' h2 hn a' w' hr=>?_) h1
    exact QeP hT hG hr h2 fun σ'' h3 hn'=>hK σ'' h3 (by rw [hn',hn,hnt])
   unfold wpList;split at h
   ·rename_i hgd;have:Region.wanted o (yielded all a.tmps)=true:=by simp [Region.wanted,hgd]
    rw [if_pos this];exact .inl (go rfl hrep h)
   ·rename_i j want hgd;split at h
    ·rename_i t ht;split at h
     ·rename_i b hb;obtain ⟨hi,hv⟩:=hrep.env t _ hb;have hv:VV w (RO Z β σ.H) β σ.H (.s (.d .bool b)) (a.tmps.getD t undef):=hv;have hv':=QdO (S:=RO Z β σ.H) (β:=β) (H:=σ.H) hv
      have hy:yielded all a.tmps j=some b:=by
       have:a.tmps[t]?=some (.bool b):=by
        rw [Array.getElem?_eq_getElem hi];rw [Array.getD_eq_getD_getElem?,Array.getElem?_eq_getElem hi] at hv';exact congrArg some hv'
       simp [yielded,ht,this]
      split at h
      ·rename_i e;subst e;have:Region.wanted o (yielded all a.tmps)=true:=by simp [Region.wanted,hgd,hy]
       rw [if_pos this];exact .inl (go (σ1:=σ.set t (.s (.d .bool b))) rfl (hrep.know hi hv) h)
      ·rename_i e;have: ¬(Region.wanted o (yielded all a.tmps)=true):=by simpa [Region.wanted,hgd,hy] using e
       rw [if_neg this];have hb':b=!want:=by cases b <;> cases want <;> simp_all
       subst hb';refine QeP hT hG ⟨β,(hrep.know hi hv).skip hd⟩ h fun σ'' h3 hn'=>hK σ'' h3 (by rw [hn',Qro]; rfl)
     ·rename_i hb
      have: ¬(Region.wanted o (yielded all a.tmps)=true):=by
       have hy:=QkL ht hb hrep;simp [Region.wanted,hgd,hy]
      rw [if_neg this];refine QeP hT hG ⟨β,hrep.skip hd⟩ h fun σ'' h3 hn'=>hK σ'' h3 (by rw [hn',Qro])
     ·cases h
    ·cases h
end
section
open Go Go.RowKit
variable {T:Tab} {G:Env} {σ σ2:St} {o:Oper} {R:Type} {H H2:Heap} {own:Bool}
def agN (H H2:Heap) (l:List Nat):Prop:= ∀n∈l,look H2 n=look H n
theorem agN.sub {l m:List Nat} (h:agN H H2 l) (hs: ∀n∈m,n∈l):agN H H2 m:=fun n hn=>h n (hs n hn)
theorem agN.left {l m:List Nat} (h:agN H H2 (l++m)):agN H H2 l:=h.sub fun n hn=>List.mem_append_left _ hn
theorem agN.right {l m:List Nat} (h:agN H H2 (l++m)):agN H H2 m:=h.sub fun n hn=>List.mem_append_right _ hn
theorem agN.pre {l:List Nat} (h:agN H H2 l) (p:Heap):agN (p++H) (p++H2) l:=fun n hn=>by rw [QC,QC,h n hn]
theorem QeN {o:Nat} {cs:List S1} (h:look H o=some (.box cs)) {n:Nat} (hn:n∈cs.flatMap Qj):n∈Qhh H o:=by
 unfold Qhh; rw [h]; exact hn
theorem Qgd {l:List Nat} {o n:Nat} (ho:o∈l) (hn:n∈Qhh H o):n∈QaD H l:=List.mem_append_right _ (List.mem_flatMap.2 ⟨o,ho,hn⟩)
theorem QgL {l m:List Nat} (h: ∀n∈m,n∈l): ∀n∈QaD H m,n∈QaD H l:=by
 intro n hn;rcases List.mem_append.1 hn with hn | hn
 ·exact List.mem_append_left _ (h n hn)
 ·obtain ⟨o,ho,hn⟩:=List.mem_flatMap.1 hn;exact Qgd (h o ho) hn
theorem agN.close {l:List Nat} (h:agN H H2 (QaD H l)):agN H H2 l:=h.left
theorem agN.box {l:List Nat} (h:agN H H2 (QaD H l)) {o:Nat} (ho:o∈l) {cs:List S1} (hb:look H o=some (.box cs)):agN H H2 (cs.flatMap Qj):=
 h.sub fun n hn=>Qgd ho (QeN hb hn)
theorem Qcv {t:Ty} {s:S1} (h:agN H H2 (Qj s)):Qad own H2 t s=Qad own H t s:=by
 cases s with
 | sl o=>simp only [Qad]; rw [h o (by simp [Qj])]
 | vw o lo n=>simp only [Qad]; rw [h o (by simp [Qj])]
 | _=>rfl
theorem QiU: ∀{t:Ty} {cs:List S1},agN H H2 (cs.flatMap Qj)→gat own H2 t cs=gat own H t cs
 | .unit,cs,_=>rfl
 | .pair a b,cs,h=>by
  simp only [gat];rw [QiU (t:=a) h];cases hg:gat own H a cs with
  | none=>rfl
  | some q=>
   obtain ⟨x,r⟩:=q;obtain ⟨pre,e⟩:=QnQ hg;simp only;rw [QiU (t:=b) (cs:=r) (h.sub fun n hn=>by rw [e,List.flatMap_append]; exact List.mem_append_right _ hn)]
 | .int k,[],_=>rfl
 | .bool,[],_=>rfl
 | .str,[],_=>rfl
 | .opq,[],_=>rfl
 | .opq,c::r,h=>by
  simp only [gat]; rw [Qcv (h.sub fun n hn=>by simp [hn])]
 | .slice t,[],_=>rfl
 | .int k,c::r,h=>by
  simp only [gat]; rw [Qcv (h.sub fun n hn=>by simp [hn])]
 | .bool,c::r,h=>by
  simp only [gat]; rw [Qcv (h.sub fun n hn=>by simp [hn])]
 | .str,c::r,h=>by
  simp only [gat]; rw [Qcv (h.sub fun n hn=>by simp [hn])]
 | .slice t,c::r,h=>by
  simp only [gat]; rw [Qcv (h.sub fun n hn=>by simp [hn])]
theorem QrO {e1:TypeId}: ∀{t:Ty} {cs:List S1} {x:den t} {ns:List Nat} {r:List S1},dgat H e1 t cs=some (x,ns,r)→ ∃pre,cs=pre++r:=by
 intro t
 induction t with
 | pair a b iha ihb=>
  intro cs x ns r h;simp only [dgat] at h;split at h
  ·rename_i x1 n1 r1 h1;split at h
   ·rename_i x2 n2 r2 h2;simp only [Oie,Pmi] at h;obtain ⟨_,_,rfl⟩:=h;obtain ⟨p1,e1⟩:=iha h1;obtain ⟨p2,e2⟩:=ihb h2;exact ⟨p1++p2,by rw [e1,e2,List.append_assoc]⟩
   ·cases h
  ·cases h
 | unit=>
  intro cs x ns r h;simp only [dgat,Oie,Pmi] at h;exact ⟨[],by rw [←h.2.2]; rfl⟩
 | slice t ih=>
  intro cs x ns r h;cases cs with
  | nil=>simp [dgat] at h
  | cons c cs=>
   simp only [dgat] at h;split at h
   ·simp only [Oie,Pmi] at h;exact ⟨[.nls],by rw [←h.2.2]; rfl⟩
   ·rename_i o;split at h
    ·split at h
     ·split at h
      ·simp only [Oie,Pmi] at h;exact ⟨[.sl o],by rw [←h.2.2]; rfl⟩
      ·cases h
     ·cases h
    ·cases h
   ·cases h
 | opq=>
  intro cs x ns r h;cases cs <;> cases h
 | _=>
  intro cs x ns r h;cases cs with
  | nil=>simp [dgat] at h
  | cons c cs=>
   simp only [dgat] at h;split at h
   ·split at h
    ·simp only [Oie,Pmi] at h;exact ⟨[_],by rw [←h.2.2]; rfl⟩
    ·cases h
   ·cases h
theorem Qhj {e1:TypeId}: ∀{t:Ty} {cs:List S1},agN H H2 (cs.flatMap Qj)→dgat H2 e1 t cs=dgat H e1 t cs
 | .unit,cs,_=>rfl
 | .pair a b,cs,h=>by
  simp only [dgat];rw [Qhj (t:=a) h];cases hg:dgat H e1 a cs with
  | none=>rfl
  | some q=>
   obtain ⟨x,n,r⟩:=q;obtain ⟨pre,e⟩:=QrO hg;simp only;rw [Qhj (t:=b) (cs:=r) (h.sub fun n hn=>by rw [e,List.flatMap_append]; exact List.mem_append_right _ hn)]
 | .int k,[],_=>rfl
 | .bool,[],_=>rfl
 | .str,[],_=>rfl
 | .opq,[],_=>rfl
 | .opq,c::r,h=>rfl
 | .slice t,[],_=>rfl
 | .int k,c::r,h=>rfl
 | .bool,c::r,h=>rfl
 | .str,c::r,h=>rfl
 | .slice t,c::r,h=>by
  cases c with
  | sl o=>simp only [dgat]; rw [h o (by simp [Qj])]
  | _=>rfl
theorem QfT: ∀{t:Ty} {x:den t},(split t x).flatMap Qj=[]
 | .int _,_=>rfl
 | .bool,_=>rfl
 | .str,_=>rfl
 | .unit,_=>rfl
 | .opq,_=>rfl
 | .slice _,_=>rfl
 | .pair a b,x=>by simp only [split,List.flatMap_append]; rw [QfT,QfT]; rfl
theorem Qgw {y:SV}: ∀n∈(cellsOf y).flatMap Qj,n∈Qk y:=by
 intro n hn;cases y with
 | g cs=>exact hn
 | s c=>
  by_cases hd: ∃t x,c= .d t x
  ·obtain ⟨t,x,rfl⟩:=hd;simp only [cellsOf] at hn;rw [QfT] at hn;cases hn
  ·have e:cellsOf (.s c)=[c]:=by cases c <;> first | rfl | exact absurd ⟨_,_,rfl⟩ hd
   rw [e] at hn;simpa [Qk] using hn
theorem QbP {t:Ty} {x:SV} (h:agN H H2 (Qk x)):toD own H2 t x=toD own H t x:=by
 cases x with
 | s c=>exact Qcv h
 | g cs=>simp only [toD]; rw [QiU h]
theorem QfD {o:Nat}: ∀{cs:List S1},o∈QO cs→o∈cs.flatMap Qj:=by
 intro cs h;obtain ⟨c,hc,h⟩:=List.mem_filterMap.1 h;refine List.mem_flatMap.2 ⟨c,hc,?_⟩;cases c <;> simp at h
 all_goals (subst h; simp [Qj])
theorem QbI {x:SV} (h:agN H H2 (Qk x)):Qv H2 x=Qv H x:=by
 cases x with
 | g cs=>rfl
 | s c=>
  cases c with
  | p o off=>simp only [Qv]; rw [h o (by simp [Qk,Qj])]
  | fn f l=>
   simp only [Qv,List.flatMap_def];congr 1;refine List.map_congr_left fun c hc=>?_
   cases c with
   | pd t z=>rfl
   | p o off=>simp only; rw [h o (by simp only [Qk,Qj,List.mem_flatMap]; exact ⟨_,hc,by simp⟩)]
  | _=>rfl
theorem QeR {x:SV} (h:agN H H2 (Qk x)):Qcp H2 x=Qcp H x:=by
 cases x with
 | g ys=>rfl
 | s y=>
  cases y with
  | sl o=>simp only [Qcp]; rw [h o (by simp [Qk,Qj])]
  | vw o lo n=>simp only [Qcp]; rw [h o (by simp [Qk,Qj])]
  | _=>rfl
theorem Qpf {u:Ty} {x:SV} (h:agN H H2 (Qk x)):vwOf H2 u x=vwOf H u x:=by
 cases x with
 | g ys=>rfl
 | s y=>
  cases y with
  | sl o=>simp only [vwOf]; rw [h o (by simp [Qk,Qj])]
  | vw o lo n=>simp only [vwOf]; rw [h o (by simp [Qk,Qj])]
  | _=>rfl
theorem QpZ {x:SV}: ∀n∈Qv H x,n∈QaD H (Qk x):=by
 intro n hn;cases x with
 | g cs=>exact List.mem_append_left _ (QfD hn)
 | s c=>
  cases c with
  | p o off=>
   simp only [Qv] at hn;split at hn
   ·rename_i cs hb;exact Qgd (o:=o) (by simp [Qk,Qj]) (QeN hb (QfD hn))
   ·simp at hn
  | sl o=>exact List.mem_append_left _ (by simpa [Qv,Qk,Qj] using hn)
  | vw o lo n=>exact List.mem_append_left _ (by simpa [Qv,Qk,Qj] using hn)
  | pe o i off=>exact List.mem_append_left _ (by simpa [Qv,Qk,Qj] using hn)
  | fn f l=>
   simp only [Qv,List.mem_flatMap] at hn;obtain ⟨c,hc,hn⟩:=hn;cases c with
   | pd t z=>simp at hn
   | p o off=>
    simp only at hn;split at hn
    ·rename_i cs hb;exact Qgd (o:=o) (by simp only [Qk,Qj,List.mem_flatMap]; exact ⟨_,hc,by simp⟩) (QeN hb (QfD hn))
    ·simp at hn
  | _=>simp [Qv] at hn
theorem Qgi {x:SV} (h:agN H H2 (QaD H (Qk x))):agN H H2 (Qv H x):=h.sub QpZ
theorem Qho: ∀(l:List Nat), ∃p:Heap,frz H l=p++H∧ ∀H2,agN H H2 l→frz H2 l=p++H2
 | []=>⟨[],rfl,fun _ _=>rfl⟩
 | o::r=>by
  obtain ⟨p,hp,h2⟩:=Qho r
  have hl: ∀H2,agN H H2 (o::r)→look (frz H2 r) o=look (frz H r) o:=by
   intro H2 h;rw [h2 H2 (h.sub fun n hn=>List.mem_cons_of_mem _ hn),hp,QC,QC,h o (by simp)]
  cases hq:look (frz H r) o with
  | none=>
   refine ⟨p,by simp only [frz,hq]; exact hp,fun H2 h=>?_⟩
   simp only [frz,hl H2 h,hq]; exact h2 H2 (h.sub fun n hn=>List.mem_cons_of_mem _ hn)
  | some ob=>
   cases ob with
   | row e t xs=>
    refine ⟨(o,.fro t xs)::p,by simp only [frz,hq]; rw [hp]; rfl,fun H2 h=>?_⟩
    simp only [frz,hl H2 h,hq]; rw [h2 H2 (h.sub fun n hn=>List.mem_cons_of_mem _ hn)]; rfl
   | _=>
    refine ⟨p,by simp only [frz,hq]; exact hp,fun H2 h=>?_⟩
    simp only [frz,hl H2 h,hq]; exact h2 H2 (h.sub fun n hn=>List.mem_cons_of_mem _ hn)
theorem agN.frz {l m:List Nat} (h:agN H H2 m) (hl:agN H H2 l):agN (S.frz H l) (S.frz H2 l) m:=by
 obtain ⟨p,hp,h2⟩:=Qho (H:=H) l;rw [hp,h2 H2 hl];exact h.pre p
theorem Qst {t:Ty} {x:SV} (h:agN H H2 (Qk x)):lenOf t H2 x=lenOf t H x:=by
 cases t <;> try rfl
 cases x with
 | g cs=>rfl
 | s c=>
  cases c with
  | sl o=>simp only [lenOf]; rw [h o (by simp [Qk,Qj])]
  | vw o lo n=>simp only [lenOf]; rw [h o (by simp [Qk,Qj])]
  | d u z=>cases u <;> rfl
  | _=>rfl
theorem Qrw {c:CK} {s:S1} (h:agN H H2 (Qj s)):unC H2 c s=unC H c s:=by
 cases c with
 | dat t=>simp only [unC]; rw [Qcv h]
 | own e t=>
  cases s with
  | sl o=>simp only [unC]; rw [h o (by simp [Qj])]
  | _=>rfl
 | vw e t=>
  cases s with
  | sl o=>simp only [unC]; rw [h o (by simp [Qj])]
  | vw o lo n=>simp only [unC]; rw [h o (by simp [Qj])]
  | _=>rfl
 | ptr o off=>
  cases s with
  | p o' off'=>
   simp only [unC];by_cases e:o'=o∧off'=off
   ·rw [if_pos e,if_pos e, ←e.1,h o' (by simp [Qj])]
   ·rw [if_neg e,if_neg e]
  | _=>rfl
 | ref o=>
  cases s with
  | sl o'=>
   simp only [unC];by_cases e:o'=o
   ·rw [if_pos e,if_pos e, ←e,h o' (by simp [Qj])]
   ·rw [if_neg e,if_neg e]
  | _=>rfl
 | mp=>
  cases s with
  | mp o=>simp only [unC]; rw [h o (by simp [Qj])]
  | _=>rfl
 | _=>cases s <;> rfl
theorem QkB: ∀{ks:List CK} {ss:List S1},agN H H2 (ss.flatMap Qj)→unCs H2 ks ss=unCs H ks ss
 | [],[],_=>rfl
 | [],_::_,_=>rfl
 | _::_,[],_=>rfl
 | c::r,s::ss,h=>by
  simp only [unCs];rw [Qrw (h.sub fun n hn=>by simp [hn]),QkB (h.sub fun n hn=>by simp only [List.flatMap_cons]; exact List.mem_append_right _ hn)]
theorem QrX {l:List Nat} {c:CK} {s:S1} (h:agN H H2 (Qj s)):QdS H2 l c s=QdS H l c s:=by
 cases c with
 | dat t=>
  cases s with
  | sl o=>simp only [QdS]; rw [h o (by simp [Qj])]
  | vw o lo n=>simp only [QdS]; rw [h o (by simp [Qj])]
  | _=>rfl
 | _=>cases s <;> rfl
theorem QgO {l:List Nat}: ∀{ks:List CK} {ss:List S1},agN H H2 (ss.flatMap Qj)→Qcj H2 l ks ss=Qcj H l ks ss
 | [],[],_=>rfl
 | [],_::_,_=>rfl
 | _::_,[],_=>rfl
 | c::r,s::ss,h=>by
  simp only [Qcj];rw [QrX (h.sub fun n hn=>by simp [hn]),QgO (h.sub fun n hn=>by simp only [List.flatMap_cons]; exact List.mem_append_right _ hn)]
theorem Qfr {cs ds:List S1} (h: ∀c∈ds,c∈cs): ∀n∈ds.flatMap Qj,n∈cs.flatMap Qj:=by
 intro n hn;obtain ⟨c,hc,hn⟩:=List.mem_flatMap.1 hn;exact List.mem_flatMap.2 ⟨c,h c hc,hn⟩
theorem QpM {cs:List S1} {i j:Nat}: ∀c∈(cs.drop i).take j,c∈cs:=fun c hc=>List.mem_of_mem_drop (List.mem_of_mem_take hc)
theorem QnF {t:Ty} {cs:List S1} (h:agN H H2 (cs.flatMap Qj)):boxV H2 cs t=boxV H cs t:=by
 have key:gat true H2 t cs=gat true H t cs:=QiU h;cases t with
 | pair p q=>cases p <;> first | rfl | (simp only [boxV]; rw [key])
 | _=>simp only [boxV]; rw [key]
theorem QnI (f:FuncId): ∀{ts:List Ty} {l:List Cap},agN H H2 (QaD H (Qj (.fn f l)))→capD H2 ts l=capD H ts l
 | [],[],_=>rfl
 | [],_::_,_=>rfl
 | _::_,[],_=>rfl
 | t::r,c::l,h=>by
  have hr:agN H H2 (QaD H (Qj (.fn f l))):=h.sub (QgL fun n hn=>by
   simp only [Qj,List.flatMap_cons]; exact List.mem_append_right _ hn)
  simp only [capD];rw [QnI f hr];cases c with
  | pd s y=>rfl
  | p o off=>
   have ho:o∈Qj (.fn f (.p o off::l)):=by simp [Qj]
   simp only [capV];rw [h.close o ho];cases hb:look H o with
   | none=>rfl
   | some ob=>
    cases ob with
    | box cs=>
     simp only;rw [QnF ((h.box (o:=o) ho hb).sub (Qfr fun c hc=>List.mem_of_mem_drop hc))]
    | _=>rfl
theorem Qtu {k:PK} {x:SV} (hn:agN σ.H σ2.H (QaD σ.H (Qk x))):argD σ2 k x=argD σ k x:=by
 have h1:=hn.close;cases k with
 | val t=>simp only [argD]; rw [QbP h1]
 | ptr t=>
  cases x with
  | g cs=>rfl
  | s c=>
   cases c with
   | p o off=>
    simp only [argD];rw [h1 o (by simp [Qk,Qj])]
    cases hb:look σ.H o with
    | none=>rfl
    | some ob=>
     cases ob with
     | box cs=>
      simp only;rw [QnF ((hn.box (o:=o) (by simp [Qk,Qj]) hb).sub (Qfr fun c hc=>List.mem_of_mem_drop hc))]
     | _=>rfl
   | pe o i off=>
    simp only [argD];rw [h1 o (by simp [Qk,Qj])]
   | _=>rfl
 | box ci co=>
  cases x with
  | g cs=>rfl
  | s c=>
   cases c with
   | p o off=>
    simp only [argD];rw [h1 o (by simp [Qk,Qj])]
    cases hb:look σ.H o with
    | none=>rfl
    | some ob=>
     cases ob with
     | box cs=>
      simp only;rw [QkB ((hn.box (o:=o) (by simp [Qk,Qj]) hb).sub (Qfr QpM))]
     | _=>rfl
   | _=>rfl
 | row e t=>
  cases x with
  | g cs=>rfl
  | s c=>simp only [argD]; rw [Qrw h1]
 | agg cs=>
  cases x with
  | g ss=>simp only [argD]; rw [QkB h1]
  | s c=>rfl
 | fn f ts=>
  cases x with
  | g ss=>rfl
  | s c=>
   cases c with
   | fn g l=>simp only [argD]; rw [QnI g hn]
   | _=>rfl
theorem Qle: ∀{ps:List PK} {xs:List SV},(∀x∈xs,agN σ.H σ2.H (QaD σ.H (Qk x)))→Qbb σ2 ps xs=Qbb σ ps xs
 | [],[],_=>rfl
 | [],_::_,_=>rfl
 | _::_,[],_=>rfl
 | p::r,x::xs,h=>by
  simp only [Qbb];rw [Qtu (h x (by simp)),Qle fun y hy=>h y (by simp [hy])]
theorem QrW {l bs:List Nat} {k:PK} {x:SV} (hn:agN H H2 (QaD H (Qk x))):Qfs H2 l bs k x=Qfs H l bs k x:=by
 have h1:=hn.close;cases k with
 | val t=>simp only [Qfs]; rw [QbI h1]
 | ptr t=>simp only [Qfs]; rw [QbI h1]
 | row e t=>rfl
 | fn f ts=>simp only [Qfs]; rw [QbI h1]
 | box ci co=>
  cases x with
  | g cs=>rfl
  | s c=>
   cases c with
   | p o off=>
    simp only [Qfs];rw [h1 o (by simp [Qk,Qj])]
    cases hb:look H o with
    | none=>rfl
    | some ob=>
     cases ob with
     | box cs=>exact QgO ((hn.box (o:=o) (by simp [Qk,Qj]) hb).sub (Qfr QpM))
     | _=>rfl
   | _=>rfl
 | agg cs=>
  cases x with
  | g ss=>exact QgO h1
  | s c=>rfl
theorem Qjx {l bs:List Nat}: ∀{ps:List PK} {xs:List SV},(∀x∈xs,agN H H2 (QaD H (Qk x)))→Qft H2 l bs ps xs=Qft H l bs ps xs
 | [],[],_=>rfl
 | [],_::_,_=>rfl
 | _::_,[],_=>rfl
 | p::r,x::xs,h=>by
  simp only [Qft];rw [QrW (h x (by simp)),Qjx fun y hy=>h y (by simp [hy])]
theorem Qra {c:S1} (h:agN H H2 (Qj c)):nlC H2 c=nlC H c:=by
 cases c with
 | sl o=>simp only [nlC]; rw [h o (by simp [Qj])]
 | vw o lo n=>simp only [nlC]; rw [h o (by simp [Qj])]
 | _=>rfl
theorem QjU: ∀{cs:List S1},agN H H2 (cs.flatMap Qj)→cs.all (nlC H2)=cs.all (nlC H)
 | [],_=>rfl
 | c::r,h=>by
  simp only [List.all_cons];rw [Qra (h.sub fun n hn=>by simp [hn]),QjU (h.sub fun n hn=>by simp only [List.flatMap_cons,List.mem_append]; exact .inr hn)]
theorem QvC {k:PK} {x:SV} (hn:agN H H2 (QaD H (Qk x))):nlA H2 k x=nlA H k x:=by
 have h1:=hn.close;cases k with
 | row e t=>
  cases x with
  | g cs=>rfl
  | s c=>exact Qra h1
 | agg cs=>
  cases x with
  | g ss=>exact QjU h1
  | s c=>rfl
 | box ci co=>
  cases x with
  | g cs=>rfl
  | s c=>
   cases c with
   | p o off=>
    simp only [nlA];rw [h1 o (by simp [Qk,Qj])]
    cases hb:look H o with
    | none=>rfl
    | some ob=>
     cases ob with
     | box cs=>exact QjU ((hn.box (o:=o) (by simp [Qk,Qj]) hb).sub (Qfr QpM))
     | _=>rfl
   | _=>rfl
 | val t=>rfl
 | ptr t=>rfl
 | fn f ts=>rfl
theorem Qoo: ∀{ps:List PK} {xs:List SV},(∀x∈xs,agN H H2 (QaD H (Qk x)))→nlAs H2 ps xs=nlAs H ps xs
 | [],[],_=>rfl
 | [],_::_,_=>rfl
 | _::_,[],_=>rfl
 | p::r,x::xs,h=>by
  simp only [nlAs];rw [QvC (h x (by simp)),Qoo fun y hy=>h y (by simp [hy])]
theorem QdB: ∀{nm:Nat} {ps:List PK} {y:denQ ps} {xs:List SV},(∀x∈xs,agN H H2 (QaD H (Qk x)))→outA nm H2 ps y xs=outA nm H ps y xs
 | _,[],_,_,_=>rfl
 | _,.val _::_,_,[],_=>rfl
 | _,.ptr _::_,_,[],_=>rfl
 | _,.fn _ _::_,_,[],_=>rfl
 | _,.box _ _::_,_,[],_=>rfl
 | _,.row _ _::_,_,[],_=>rfl
 | _,.agg _::_,_,[],_=>rfl
 | nm,.val _::r,y,x::xs,h=>QdB (ps:=r) fun z hz=>h z (by simp [hz])
 | nm,.ptr _::r,y,x::xs,h=>QdB (ps:=r) fun z hz=>h z (by simp [hz])
 | nm,.fn _ _::r,y,x::xs,h=>QdB (ps:=r) fun z hz=>h z (by simp [hz])
 | nm,.row _ _::r,y,x::xs,h=>by simp only [outA]; rw [QdB (ps:=r) fun z hz=>h z (by simp [hz])]
 | nm,.agg _::r,y,x::xs,h=>by simp only [outA]; rw [QdB (ps:=r) fun z hz=>h z (by simp [hz])]
 | nm,.box _ _::r,y,x::xs,h=>by
  simp only [outA];rw [QdB (ps:=r) fun z hz=>h z (by simp [hz])]
  cases x with
  | g cs=>rfl
  | s c=>
   cases c with
   | p o off=>
    have h1:=(h (.s (.p o off)) (by simp)).close
    simp only;rw [h1 o (by simp [Qk,Qj])]
   | _=>rfl
theorem Qhx: ∀{l:List (Nat×Ob)},agN H H2 (l.map (·.1))→QcQ H2 l=QcQ H l
 | [],_=>rfl
 | p::r,h=>by
  simp only [QcQ,QV];rw [h p.1 (by simp),Qhx fun n hn=>h n (by simp at hn⊢; exact .inr hn)]
theorem Qmi {t:Ty} {x:SV} {y:den t} {H':Heap} (hn:agN H H2 (QaD H (Qk x))) (h:QoX H t x=some (y,H')):
  ∃p,H'=p++H∧QoX H2 t x=some (y,p++H2):=by
 obtain ⟨p,hp,h2⟩:=Qho (H:=H) (Qv H x);have h3:=h2 H2 (Qgi hn);unfold QoX at h⊢;rw [QbI hn.close,h3];rw [hp] at h;rw [QbP (hn.close.pre p)];split at h
 ·rename_i z hz;simp only [Oie,Pmi] at h;obtain ⟨rfl,rfl⟩:=h;exact ⟨p,rfl,rfl⟩
 ·cases h
theorem QbU {α β:Type} {f g:α→Option β}: ∀{l:List α},(∀x∈l,f x=g x)→mapO f l=mapO g l
 | [],_=>rfl
 | x::r,h=>by simp only [mapO]; rw [h x (by simp),QbU fun y hy=>h y (by simp [hy])]
theorem Qhw {α β:Type} {f:α→Option β}: ∀{l:List α} {r:List β},mapO f l=some r→ ∀y∈r, ∃x∈l,f x=some y
 | [],r,h,y,hy=>by simp [mapO] at h; subst h; simp at hy
 | x::l,r,h,y,hy=>by
  simp only [mapO] at h;split at h
  ·rename_i z hz;split at h
   ·rename_i zs hzs;obtain rfl:=Osj h;rcases List.mem_cons.1 hy with rfl | hy
    ·exact ⟨x,by simp,hz⟩
    ·obtain ⟨x',hx',e⟩:=Qhw hzs y hy;exact ⟨x',by simp [hx'],e⟩
   ·cases h
  ·cases h
end
section
open Go Go.RowKit
variable {T:Tab} {G:Env} {σ σ2:St} {o:Oper} {R:Type} {H H2:Heap} {own:Bool}
structure AgO (o:Oper) (σ σ2:St):Prop where
 nt:σ2.nt=σ.nt
 ev: ∀x∈o.op.operands,S.ev σ2 x=S.ev σ x
 env: ∀t,Operand.tmp t∈o.op.operands→look σ2.env t=look σ.env t
 nma:isAd o.op=true→ ∀x∈o.op.operands, ∀v,S.ev σ x=some v→agN σ.H σ2.H (Qk v)
 nmv:isMv o.op=false→isAd o.op=false→ ∀x∈o.op.operands, ∀v,S.ev σ x=some v→agN σ.H σ2.H (QaD σ.H (Qk v))
theorem Qay {j:Nat} (h:agN H H2 [j]):QV H2 j=QV H j:=by
 unfold QV; rw [h j (by simp)]
theorem Qos (hg:AgO o σ σ2) {d:Int} {x:Option Operand} (hx: ∀y,x=some y→y∈o.op.operands):optB σ2 d x=optB σ d x:=by
 cases x with
 | none=>rfl
 | some y=>simp only [optB]; rw [hg.ev y (hx y rfl)]
theorem QuX {H:Heap} {u:Ty} {x:SV} {v:Nat×Nat×Nat} (h:vwOf H u x=some v):v.1∈Qk x:=by
 unfold vwOf at h;split at h
 ·split at h
  ·split at h
   ·obtain rfl:=Osj h; simp [Qk,Qj]
   ·cases h
  ·cases h
 ·split at h
  ·split at h
   ·obtain rfl:=Osj h; simp [Qk,Qj]
   ·cases h
  ·cases h
 ·cases h
theorem Qmm (hg:AgO o σ σ2) {x:Operand} (hx:x∈o.op.operands):Qml σ2 x=Qml σ x:=by
 cases x with
 | tmp t=>simp only [Qml]; rw [hg.env t hx]
 | _=>rfl
theorem QsG (hg:AgO o σ σ2) {q:Out} (h:QL T o σ=some q) (hq:agN σ.H σ2.H (q.n.map (·.1))):QL T o σ2=some q∧agN σ.H σ2.H q.fr:=by
 have nf:q.fr=[]→QL T o σ2=some q→QL T o σ2=some q∧agN σ.H σ2.H q.fr:=fun e h=>⟨h,by rw [e]; intro n hn; simp at hn⟩
 unfold QL Qaj at h nf⊢;cases ho:o.op with
 | move x=>
  rw [ho] at h nf;have e:=hg.ev x (by simp [ho,Op.operands])
  have e':=Qmm hg (x:=x) (by simp [ho,Op.operands])
  simp only at h nf⊢;rw [e,e'] at nf⊢;refine nf ?_ h;split at h
  ·obtain rfl:=Osj h; rfl
  ·split at h
   ·obtain rfl:=Osj h; rfl
   ·cases h
 | assign x=>
  rw [ho] at h nf;have e:=hg.ev x (by simp [ho,Op.operands])
  have e':=Qmm hg (x:=x) (by simp [ho,Op.operands])
  simp only at h nf⊢;rw [e,e'] at nf⊢;refine nf ?_ h;split at h
  ·obtain rfl:=Osj h; rfl
  ·split at h
   ·obtain rfl:=Osj h; rfl
   ·cases h
 | pick c x z=>
  rw [ho] at h nf;have e1:=hg.ev c (by simp [ho,Op.operands])
  have e2:=hg.ev x (by simp [ho,Op.operands])
  have e3:=hg.ev z (by simp [ho,Op.operands])
  simp only at h nf⊢;rw [e1,e2,e3] at nf⊢;refine nf ?_ h;split at h
  ·split at h <;> (obtain rfl:=Osj h; rfl)
  ·cases h
 | alloc t=>
  rw [ho] at h nf;simp only at h nf⊢;split at h
  ·rename_i r j h1 h2;split at h
   ·rename_i hj;obtain rfl:=Osj h;simp only [h1,h2] at nf⊢;refine nf (by trivial) ?_
    rw [Qay (H:=σ.H) (by simpa using hq),if_pos hj]
   ·cases h
  ·cases h
 | box t x=>
  rw [ho] at h nf;have e:=hg.ev x (by simp [ho,Op.operands])
  simp only at h nf⊢;rw [e] at nf⊢;split at h
  ·rename_i r z j h1 h2 h3;split at h
   ·rename_i hj;obtain rfl:=Osj h;simp only [h1,h2,h3] at nf⊢;refine nf (by trivial) ?_
    rw [Qay (H:=σ.H) (by simpa using hq),if_pos hj]
   ·cases h
  ·cases h
 | build t ps=>
  rw [ho] at h nf
  have e:mapO (fun p:Nat×Operand=>(S.ev σ2 p.2).map fun y=>(p.1,cellsOf y)) ps.toList=mapO (fun p:Nat×Operand=>(S.ev σ p.2).map fun y=>(p.1,cellsOf y)) ps.toList:=
   QbU fun p hp=>by rw [hg.ev p.2 (by simp only [ho,Op.operands]; simp; exact ⟨p.1,by simpa using hp⟩)]
  simp only at h nf⊢;rw [e] at nf⊢;refine nf ?_ h;split at h
  ·split at h
   ·cases h
   ·split at h
    ·split at h
     ·obtain rfl:=Osj h; rfl
     ·cases h
    ·cases h
  ·cases h
 | buildSlice t len ps=>
  rw [ho] at h;have hm: ∀p∈ps.toList,p.2∈o.op.operands:=fun p hp=>by simp only [ho,Op.operands]; simp; exact ⟨p.1,by simpa using hp⟩
  have e:mapO (fun p:Nat×Operand=>S.ev σ2 p.2) ps.toList=mapO (fun p:Nat×Operand=>S.ev σ p.2) ps.toList:=
   QbU fun p hp=>by rw [hg.ev p.2 (hm p hp)]
  simp only at h⊢;rw [e];split at h
  ·rename_i r j h1 h2
   try simp only [h1,h2]
   split at h
   ·rename_i q' xs h3 h4
    have hxs: ∀x∈xs,agN σ.H σ2.H (QaD σ.H (Qk x)):=fun x hx=>by
     obtain ⟨p,hp,hpx⟩:=Qhw h4 x hx;exact hg.nmv (by rw [ho]; rfl) (by rw [ho]; rfl) p.2 (hm p hp) x hpx
    have hrows:xs.flatMap (Qv σ2.H)=xs.flatMap (Qv σ.H):=by
     rw [List.flatMap_def,List.flatMap_def];congr 1;exact List.map_congr_left fun x hx=>QbI (hxs x hx).close
    have hfr:agN σ.H σ2.H (xs.flatMap (Qv σ.H)):=fun n hn=>by
     obtain ⟨x,hx,hn⟩:=List.mem_flatMap.1 hn;exact Qgi (hxs x hx) n hn
    try simp only [h3,h4]
    rw [hrows];split at h
    ·rename_i hc;split at h
     ·rename_i ys hys;obtain rfl:=Osj h;have hnn:QV σ2.H j=QV σ.H j:=Qay (by simpa using hq)
      rw [if_pos (by rw [hnn]; exact hc)]
      have e2:mapO (toD false (frz σ2.H (xs.flatMap (Qv σ.H))) q'.ty) xs=mapO (toD false (frz σ.H (xs.flatMap (Qv σ.H))) q'.ty) xs:=
       QbU fun x hx=>QbP ((hxs x hx).close.frz hfr)
      rw [e2,hys];exact ⟨rfl,hfr⟩
     ·cases h
    ·cases h
   ·cases h
  ·cases h
 | load t x=>
  rw [ho] at h nf;have e:=hg.ev x (by simp [ho,Op.operands])
  simp only at h nf⊢;rw [e] at nf⊢;have hn:=hg.nma (by rw [ho]; rfl) x (by simp [ho,Op.operands])
  split at h
  ·rename_i r b off h1 h2;simp only [h1,h2] at nf⊢;have hl:=(hn _ h2) b (by simp [Qk,Qj])
   rw [hl] at nf⊢;refine nf ?_ h;split at h
   ·split at h
    ·split at h
     ·obtain rfl:=Osj h; rfl
     ·split at h
      ·obtain rfl:=Osj h; rfl
      ·cases h
    ·cases h
   ·cases h
  ·rename_i r b i off h1 h2;simp only [h1,h2] at nf⊢;have hl:=(hn _ h2) b (by simp [Qk,Qj])
   rw [hl] at nf⊢;refine nf ?_ h;split at h
   ·obtain ⟨z,hz,h⟩:=Obs h;obtain ⟨z',hz',h⟩:=Obs h;obtain rfl:=Osj h; rfl
   ·cases h
  ·rename_i r b i off h1 h2;simp only [h1,h2] at nf⊢;have hl:=(hn _ h2) b (by simp [Qk,Qj])
   rw [hl] at nf⊢;refine nf ?_ h;split at h
   ·obtain ⟨z,hz,h⟩:=Obs h;obtain ⟨z',hz',h⟩:=Obs h;split at h
    ·cases h
    split at h
    ·obtain rfl:=Osj h; rfl
    ·split at h
     ·obtain rfl:=Osj h; rfl
     ·cases h
   ·cases h
  ·rename_i r u z h1 h2;simp only [h1,h2] at nf⊢;refine nf ?_ h;obtain ⟨z',hz',h⟩:=Obs h;obtain rfl:=Osj h; rfl
  ·cases h
 | nilCheck x=>
  rw [ho] at h nf;have e:=hg.ev x (by simp [ho,Op.operands])
  simp only at h nf⊢;rw [e] at nf⊢;have hn:=hg.nma (by rw [ho]; rfl) x (by simp [ho,Op.operands])
  split at h
  ·rename_i b off h2;simp only [h2] at nf⊢;have hl:=(hn _ h2) b (by simp [Qk,Qj])
   rw [hl] at nf⊢;refine nf ?_ h;split at h
   ·obtain rfl:=Osj h; rfl
   ·cases h
  ·rename_i u z h2;simp only [h2] at nf⊢;refine nf ?_ h;obtain rfl:=Osj h; rfl
  ·rename_i b i off h2;simp only [h2] at nf⊢;have hl:=(hn _ h2) b (by simp [Qk,Qj])
   rw [hl] at nf⊢;refine nf ?_ h;split at h
   ·obtain rfl:=Osj h; rfl
   ·cases h
  ·cases h
 | binOp op t x z t'=>
  rw [ho] at h nf;have e1:=hg.ev x (by simp [ho,Op.operands])
  have e2:=hg.ev z (by simp [ho,Op.operands])
  simp only at h nf⊢;rw [e1,e2] at nf⊢;refine nf ?_ h;split at h
  ·rw [QhQ] at h;obtain ⟨z',hz',h⟩:=Obs h;obtain rfl:=Osj h; rfl
  ·cases h
 | unOp op t x=>
  rw [ho] at h nf;have e:=hg.ev x (by simp [ho,Op.operands])
  simp only at h nf⊢;rw [e] at nf⊢;refine nf ?_ h;split at h
  ·obtain rfl:=Osj h; rfl
  ·obtain rfl:=Osj h; rfl
  ·cases h
 | convert t u x=>
  rw [ho] at h nf;have e:=hg.ev x (by simp [ho,Op.operands])
  simp only at h nf⊢;rw [e] at nf⊢;refine nf ?_ h;split at h
  ·split at h
   ·obtain rfl:=Osj h; rfl
   ·cases h
  ·cases h
 | makeSlice t l c=>
  rw [ho] at h nf;have e1:=hg.ev l (by simp [ho,Op.operands])
  have e2:=hg.ev c (by simp [ho,Op.operands])
  simp only at h nf⊢;rw [e1,e2] at nf⊢;split at h
  ·rename_i r j n m h1 h2 h3 h4;simp only [h1,h2,h3,h4] at nf⊢;split at h
   ·rename_i q' h5;simp only [h5] at nf⊢;split at h
    ·rename_i hc;split at h
     ·rename_i hc2;obtain rfl:=Osj h;refine nf (by trivial) ?_
      rw [Qay (H:=σ.H) (by simpa using hq),if_pos hc,if_pos hc2]
     ·cases h
    ·cases h
   ·cases h
  ·cases h
 | slice t x lo hi mx=>
  rw [ho] at h;have e:=hg.ev x (by simp [ho,Op.operands])
  have hn:=hg.nmv (by rw [ho]; rfl) (by rw [ho]; rfl) x (by simp [ho,Op.operands])
  have el: ∀d,optB σ2 d lo=optB σ d lo:=fun d=>Qos hg fun y hy=>by simp [ho,Op.operands,hy]
  have eh: ∀d,optB σ2 d hi=optB σ d hi:=fun d=>Qos hg fun y hy=>by simp [ho,Op.operands,hy]
  simp only at h⊢;rw [e];split at h
  ·rename_i r z h1 h2
   try simp only [h1,h2]
   split at h
   ·rename_i hty
    try simp only [hty]
    split at h
    ·rename_i s
     try simp only
     rw [el];have e3:(optB σ 0 lo).bind (fun l=>(optB σ2 (s.length:Int) hi).bind fun h=>if 0≤l∧l≤h∧h≤(s.length:Int) then kv (R:=Out) some (.s (.d .str ((s.drop l.toNat).take (h.toNat-l.toNat)))) else none)=(optB σ 0 lo).bind (fun l=>(optB σ (s.length:Int) hi).bind fun h=>if 0≤l∧l≤h∧h≤(s.length:Int) then kv (R:=Out) some (.s (.d .str ((s.drop l.toNat).take (h.toNat-l.toNat)))) else none):=by rw [eh]
     refine ⟨e3.trans h,?_⟩;obtain ⟨z1,_,h⟩:=Obs h;obtain ⟨z2,_,h⟩:=Obs h;split at h
     ·obtain rfl:=Osj h; intro n hn; simp at hn
     ·cases h
    ·cases h
   ·rename_i u hty
    try simp only [hty]
    rw [QbP (hn _ h2).close,QbI (hn _ h2).close,Qpf (hn _ h2).close];split at h
    ·rename_i b l0 n0 hvw
     try simp only [hvw]
     rw [el,eh];refine ⟨h,?_⟩;obtain ⟨z1,_,h⟩:=Obs h;obtain ⟨z2,_,h⟩:=Obs h;split at h
     ·obtain rfl:=Osj h; intro n hn; simp at hn
     ·cases h
    rename_i hvw
    try simp only [hvw]
    obtain ⟨xs,hxs,h⟩:=Obs h;rw [hxs,Obn];rw [el,eh];refine ⟨h,?_⟩;obtain ⟨z1,_,h⟩:=Obs h;obtain ⟨z2,_,h⟩:=Obs h;split at h
    ·obtain rfl:=Osj h; exact Qgi (hn _ h2)
    ·cases h
   ·cases h
  ·cases h
 | fieldAddr s x f=>
  rw [ho] at h nf;have e:=hg.ev x (by simp [ho,Op.operands])
  have hn:=hg.nma (by rw [ho]; rfl) x (by simp [ho,Op.operands])
  simp only at h nf⊢;rw [e] at nf⊢;split at h
  ·rename_i r h1;simp only [h1] at nf⊢;split at h
   ·cases h
   ·rename_i hag;rw [if_neg hag] at nf⊢;split at h
    ·rename_i off u h2;simp only [h2] at nf⊢;split at h
     ·rename_i q' h3;simp only [h3] at nf⊢;split at h
      ·cases h
      ·rename_i hz;rw [if_neg hz] at nf⊢;split at h
       ·rename_i b k h4;simp only [h4] at nf⊢;have hl:=(hn _ h4) b (by simp [Qk,Qj])
        rw [hl] at nf⊢;refine nf ?_ h;split at h
        ·obtain rfl:=Osj h; rfl
        ·cases h
       ·rename_i b i k h4;simp only [h4] at nf⊢;have hl:=(hn _ h4) b (by simp [Qk,Qj])
        rw [hl] at nf⊢;refine nf ?_ h;split at h
        ·obtain rfl:=Osj h; rfl
        ·cases h
       ·rename_i b i k h4;simp only [h4] at nf⊢;have hl:=(hn _ h4) b (by simp [Qk,Qj])
        rw [hl] at nf⊢;refine nf ?_ h;split at h
        ·obtain ⟨_,h⟩:=Qcl h;obtain rfl:=Osj h; rfl
        ·cases h
       ·rename_i w z h4;simp only [h4] at nf⊢;refine nf ?_ h;obtain ⟨_,h⟩:=Qcl h;obtain ⟨z1,_,h⟩:=Obs h;obtain rfl:=Osj h; rfl
       ·cases h
     ·cases h
    ·cases h
  ·cases h
 | field s x f=>
  rw [ho] at h nf;have e:=hg.ev x (by simp [ho,Op.operands])
  simp only at h nf⊢;rw [e] at nf⊢;refine nf ?_ h;split at h
  ·split at h
   ·cases h
   ·split at h
    ·split at h
     ·split at h
      ·split at h
       ·obtain rfl:=Osj h; rfl
       ·split at h
        ·obtain rfl:=Osj h; rfl
        ·cases h
      ·cases h
     ·split at h
      ·obtain ⟨z1,_,h⟩:=Obs h;obtain rfl:=Osj h; rfl
      ·cases h
     ·cases h
    ·cases h
  ·cases h
 | indexAddr t x ix=>
  rw [ho] at h nf;have e1:=hg.ev x (by simp [ho,Op.operands])
  have e2:=hg.ev ix (by simp [ho,Op.operands])
  have hn:=hg.nmv (by rw [ho]; rfl) (by rw [ho]; rfl) x (by simp [ho,Op.operands])
  simp only at h nf⊢;rw [e1,e2] at nf⊢;split at h
  ·rename_i r b k i h1 h2 h3;simp only [h1,h2,h3] at nf⊢;have hl:=(hn _ h2).close b (by simp [Qk,Qj])
   rw [hl] at nf⊢;refine nf ?_ h;split at h
   ·split at h
    ·split at h
     ·obtain rfl:=Osj h; rfl
     ·cases h
    ·cases h
   ·split at h
    ·split at h
     ·obtain ⟨z1,_,h⟩:=Obs h;obtain rfl:=Osj h; rfl
     ·cases h
    ·cases h
   ·cases h
  ·rename_i r b lo n k i h1 h2 h3;simp only [h1,h2,h3] at nf⊢;have hl:=(hn _ h2).close b (by simp [Qk,Qj])
   rw [hl] at nf⊢;refine nf ?_ h;split at h
   ·split at h
    ·split at h
     ·obtain rfl:=Osj h; rfl
     ·cases h
    ·cases h
   ·split at h
    ·split at h
     ·obtain ⟨z1,_,h⟩:=Obs h;obtain rfl:=Osj h; rfl
     ·cases h
    ·cases h
   ·cases h
  ·rename_i r b i off k j h1 h2 h3;simp only [h1,h2,h3] at nf⊢;have hl:=(hn _ h2).close b (by simp [Qk,Qj])
   rw [hl] at nf⊢;refine nf ?_ h;split at h
   ·split at h
    ·split at h
     ·obtain ⟨z1,_,h⟩:=Obs h;obtain ⟨z2,_,h⟩:=Obs h;split at h
      ·obtain rfl:=Osj h; rfl
      ·cases h
     ·cases h
    ·cases h
   ·cases h
  ·rename_i r u xs k i h1 h2 h3;simp only [h1,h2,h3] at nf⊢;refine nf ?_ h;split at h
   ·split at h
    ·obtain ⟨z1,_,h⟩:=Obs h;obtain rfl:=Osj h; rfl
    ·cases h
   ·cases h
  ·cases h
 | index t x ix=>
  rw [ho] at h nf;have e1:=hg.ev x (by simp [ho,Op.operands])
  have e2:=hg.ev ix (by simp [ho,Op.operands])
  simp only at h nf⊢;rw [e1,e2] at nf⊢;refine nf ?_ h;split at h
  ·split at h
   ·split at h
    ·obtain ⟨z1,_,h⟩:=Obs h;obtain rfl:=Osj h; rfl
    ·cases h
   ·cases h
  ·cases h
 | extract x i=>
  rw [ho] at h nf;simp only at h nf⊢;cases x with
  | tmp t=>
   have e:=hg.env t (by simp [ho,Op.operands])
   simp only at h nf⊢;rw [e] at nf⊢;refine nf ?_ h;split at h
   ·split at h
    ·obtain rfl:=Osj h; rfl
    ·cases h
   ·cases h
  | _=>cases h
 | makeMap t r=>
  rw [ho] at h nf;simp only at h nf⊢;split at h
  ·rename_i j h1;split at h
   ·rename_i hj;obtain rfl:=Osj h;simp only [h1] at nf⊢;refine nf (by trivial) ?_
    rw [Qay (H:=σ.H) (by simpa using hq),if_pos hj]
   ·cases h
  ·cases h
 | lookup t m x ok=>
  rw [ho] at h nf;have e1:=hg.ev m (by simp [ho,Op.operands])
  have e2:=hg.ev x (by simp [ho,Op.operands])
  have hn:=hg.nmv (by rw [ho]; rfl) (by rw [ho]; rfl) m (by simp [ho,Op.operands])
  simp only at h nf⊢;rw [e1,e2] at nf⊢;split at h
  ·rename_i tk b n h1 h2 h3;simp only [h1,h2,h3] at nf⊢;rw [(hn _ h2).close b (by simp [Qk,Qj])] at nf⊢
   refine nf ?_ h;split at h
   ·obtain rfl:=Osj h; rfl
   ·cases h
  ·cases h
 | makeFunc g first caps=>
  rw [ho] at h nf
  have e:mapO (S.ev σ2) caps.toList=mapO (S.ev σ) caps.toList:=QbU fun x hx=>hg.ev x (by
   simp only [ho,Op.operands]; simp at hx; simp [hx])
  simp only at h nf⊢;rw [e] at nf⊢;refine nf ?_ h;split at h
  ·split at h
   ·obtain rfl:=Osj h; rfl
   ·cases h
  ·cases h
 | call c=>
  rw [ho] at h nf
  have hm: ∀x∈c.args.toList,x∈o.op.operands:=fun x hx=>by
   simp only [ho,Op.operands,Call.operands]; simp at hx; simp [hx]
  simp only at h nf⊢;cases hc:c.callee with
  | builtin b=>
   simp only [hc] at h nf⊢;cases b with
   | len=>
    simp only at h nf⊢;split at h
    ·rename_i x t h1 h2;have hx:=hm x (by rw [h1]; simp)
     have e:=hg.ev x hx;have hn:=hg.nmv (by rw [ho]; rfl) (by rw [ho]; rfl) x hx
     simp only [h1,h2] at nf⊢;rw [e] at nf⊢;split at h
     ·rename_i r z h3 h4;simp only [h3,h4] at nf⊢;rw [Qst (hn _ h4).close] at nf⊢;refine nf ?_ h;obtain ⟨z1,_,h⟩:=Obs h;obtain rfl:=Osj h; rfl
     ·cases h
    ·cases h
   | max=>
    simp only at h nf⊢;split at h
    ·rename_i x z h1;have e1:=hg.ev x (hm x (by rw [h1]; simp))
     have e2:=hg.ev z (hm z (by rw [h1]; simp))
     simp only [h1] at nf⊢;rw [e1,e2] at nf⊢;refine nf ?_ h;split at h
     ·split at h
      ·obtain rfl:=Osj h; rfl
      ·cases h
     ·cases h
    ·cases h
   | min=>
    simp only at h nf⊢;split at h
    ·rename_i x z h1;have e1:=hg.ev x (hm x (by rw [h1]; simp))
     have e2:=hg.ev z (hm z (by rw [h1]; simp))
     simp only [h1] at nf⊢;rw [e1,e2] at nf⊢;refine nf ?_ h;split at h
     ·split at h
      ·obtain rfl:=Osj h; rfl
      ·cases h
     ·cases h
    ·cases h
   | copy=>
    simp only at h nf⊢;split at h
    ·rename_i x z t t' h1 h2;have e1:=hg.ev x (hm x (by rw [h1]; simp))
     have e2:=hg.ev z (hm z (by rw [h1]; simp))
     have n1:=hg.nmv (by rw [ho]; rfl) (by rw [ho]; rfl) x (hm x (by rw [h1]; simp))
     have n2:=hg.nmv (by rw [ho]; rfl) (by rw [ho]; rfl) z (hm z (by rw [h1]; simp))
     simp only [h1,h2] at nf⊢;rw [e1,e2] at nf⊢;split at h
     ·rename_i r d y h3 h4 h5;simp only [h3,h4,h5] at nf⊢;split at h
      ·rename_i qr h6;simp only [h6] at nf⊢;split at h
       ·rename_i hty;rw [if_pos hty] at nf⊢;rw [Qpf (n1 _ h4).close] at nf⊢;obtain ⟨v,hv,h⟩:=Obs h;rw [hv,Obn] at nf⊢;rw [(n1 _ h4).close v.1 (QuX hv),QbP (n2 _ h5).close,QeR (n2 _ h5).close] at nf⊢;refine nf ?_ h;split at h
        ·obtain ⟨ys,_,h⟩:=Obs h;obtain ⟨xs',_,h⟩:=Obs h;split at h
         ·split at h
          ·obtain rfl:=Osj h; rfl
          ·cases h
         ·cases h
        ·cases h
       ·cases h
      ·cases h
     ·cases h
    ·cases h
   | _=>cases h
  | _=>simp only [hc] at h; cases h
 | _=>rw [ho] at h; cases h
end
end Go.Proofs.YtkkljegcnnfanaaGreatDoor.S
