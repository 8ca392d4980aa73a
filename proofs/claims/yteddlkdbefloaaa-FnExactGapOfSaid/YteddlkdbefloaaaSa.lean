/- The words of the machinery S: typed data, what a slot may be known to hold, and a run of a function's code over such slots. Plain definitions, over any program. -/
import Derived.Below
import Derived.Orders
import Derived.Tactics
import Derived.KernelRfl
namespace Go.Proofs.Yteddlkdbefloaaa.S
open Go Go.RowKit

/-- Kinds of plain data. -/
inductive Ty
  | int (k : IntKind)
  | bool
  | str
  | unit
  | pair (a b : Ty)
  | slice (t : Ty)
  deriving DecidableEq

/-- What data of a kind is. -/
@[reducible] def den : Ty → Type
  | .int _ => Int
  | .bool => Bool
  | .str => List UInt8
  | .unit => Unit
  | .pair a b => den a × den b
  | .slice t => List (den t)

/-- How many cells it takes. -/
def sz : Ty → Nat
  | .int _ => 1
  | .bool => 1
  | .str => 1
  | .unit => 0
  | .pair a b => sz a + sz b
  | .slice _ => 1

/-- Is it an aggregate (a struct)? -/
def isAg : Ty → Bool
  | .unit => true
  | .pair _ _ => true
  | _ => false

def cst (s t : Ty) (x : den s) : Option (den t) := if h : s = t then some (h ▸ x) else none

/-- A pointer that a function's value has with it: to a box of the call's own, or to data that is only read. -/
inductive Cap
  | p (o off : Nat)
  | pd (t : Ty) (x : den t)

@[reducible] def denT : List Ty → Type
  | [] => Unit
  | t :: r => den t × denT r

/-- What is known of one cell. -/
inductive S1
  | any
  | d (t : Ty) (x : den t)
  | nls
  | sl (o : Nat)
  | mp (o : Nat)
  | p (o off : Nat)
  | pe (o i off : Nat)
  | pd (t : Ty) (x : den t)
  | fn (f : FuncId) (l : List Cap)

/-- What is known of a value: one cell (or plain data of any kind), or an aggregate cell by cell. -/
inductive SV
  | s (x : S1)
  | g (xs : List S1)

/-- What is known of a slot: a value, or several results together. -/
inductive Sl
  | v (x : SV)
  | t (xs : List SV)

/-- Memory of the call's own: a boxed variable, a row behind a slice, a row that is not written any more. -/
inductive Ob
  | dead
  | box (cs : List S1)
  | row (e : TypeId) (t : Ty) (xs : List (den t))
  | fro (t : Ty) (xs : List (den t))
  | map (es : List (Int × Bool))

structure St where
  nt : Nat
  env : List (Nat × Sl)
  H : List (Nat × Ob)

def look {α : Type} : List (Nat × α) → Nat → Option α
  | [], _ => none
  | (k, x) :: r, i => if k = i then some x else look r i

def St.set (σ : St) (i : Nat) (x : SV) : St := { σ with env := (i, .v x) :: σ.env }
def St.sets (σ : St) (i : Option Nat) (x : SV) : St := match i with | some j => σ.set j x | none => σ
/-- A slot that an operation that is passed over leaves. -/
def St.skip (σ : St) (i : Option Nat) : St := match i with | some j => { σ with env := (j, .t []) :: σ.env } | none => σ
def newName (H : List (Nat × Ob)) (o : Nat) : Bool := (look H o).isNone
def St.put (σ : St) (o : Nat) (x : Ob) : St := { σ with H := (o, x) :: σ.H }

/-- A type's row: its kind of data, a struct's fields (offset, type), a slice's element type, an element's bytes. -/
structure Row where
  ty : Ty
  fields : List (Nat × TypeId)
  elem : TypeId
  bytes : Nat

abbrev Tab := List (TypeId × Row)

def constV : Value → Option SV
  | .int k n => some (.s (.d (.int k) n))
  | .bool b => some (.s (.d .bool b))
  | .string s => some (.s (.d .str s.data.toList))
  | .slice none 0 0 => some (.s .nls)
  | _ => none

def ev (σ : St) : Operand → Option SV
  | .tmp t => match look σ.env t with
    | some (.v x) => some x
    | some (.t _) => some (.s .any)
    | none => none
  | .const v => constV v
  | .func f => some (.s (.fn f []))
  | .global _ => none

/-- Plain data as cells. -/
def split : (t : Ty) → den t → List S1
  | .int k, x => [.d (.int k) x]
  | .bool, x => [.d .bool x]
  | .str, x => [.d .str x]
  | .unit, _ => []
  | .pair a b, x => split a x.1 ++ split b x.2
  | .slice t, x => [.d (.slice t) x]

def known : S1 → Bool
  | .any => false
  | _ => true

def cellsOf : SV → List S1
  | .s (.d t x) => split t x
  | .s y => [y]
  | .g xs => xs

/-- One cell read as data; 'own': may it be memory of the call's own? -/
def cell1 (own : Bool) (H : List (Nat × Ob)) (t : Ty) : S1 → Option (den t)
  | .d s x => cst s t x
  | .nls => match t with | .slice _ => some [] | _ => none
  | .sl o => match look H o with
    | some (.row _ s xs) => if own then cst (.slice s) t xs else none
    | some (.fro s xs) => cst (.slice s) t xs
    | _ => none
  | _ => none

/-- Cells read as data; what is left of them. -/
def gat (own : Bool) (H : List (Nat × Ob)) : (t : Ty) → List S1 → Option (den t × List S1)
  | .unit, cs => some ((), cs)
  | .pair a b, cs => match gat own H a cs with
    | some (x, r) => match gat own H b r with
      | some (y, r') => some ((x, y), r')
      | none => none
    | none => none
  | .int k, c :: r => match cell1 own H (.int k) c with | some x => some (x, r) | none => none
  | .bool, c :: r => match cell1 own H .bool c with | some x => some (x, r) | none => none
  | .str, c :: r => match cell1 own H .str c with | some x => some (x, r) | none => none
  | .slice t, c :: r => match cell1 own H (.slice t) c with | some x => some (x, r) | none => none
  | _, [] => none

def toD (own : Bool) (H : List (Nat × Ob)) (t : Ty) : SV → Option (den t)
  | .s x => cell1 own H t x
  | .g cs => if isAg t then (match gat own H t cs with | some (x, []) => some x | _ => none) else none

/-- A part of data, off cells behind its beginning. -/
def sub : (t : Ty) → den t → Nat → (u : Ty) → Option (den u)
  | .pair a b, x, off, u =>
    if off = 0 ∧ Ty.pair a b = u then cst (.pair a b) u x
    else if off < sz a then sub a x.1 off u else sub b x.2 (off - sz a) u
  | t, x, off, u => if off = 0 then cst t u x else none

/-- The same data with a part turned. -/
def upd : (t : Ty) → den t → Nat → (u : Ty) → den u → Option (den t)
  | .pair a b, x, off, u, y =>
    if off = 0 ∧ Ty.pair a b = u then cst u (.pair a b) y
    else if off < sz a then (match upd a x.1 off u y with | some z => some (z, x.2) | none => none)
    else (match upd b x.2 (off - sz a) u y with | some z => some (x.1, z) | none => none)
  | t, _, off, u, y => if off = 0 then cst u t y else none

def zeroD : (t : Ty) → den t
  | .int _ => (0 : Int)
  | .bool => false
  | .str => []
  | .unit => ()
  | .pair a b => (zeroD a, zeroD b)
  | .slice _ => []

/-- The cells of the zero value. -/
def zeroC : Ty → List S1
  | .int k => [.d (.int k) (0 : Int)]
  | .bool => [.d .bool false]
  | .str => [.d .str []]
  | .unit => []
  | .pair a b => zeroC a ++ zeroC b
  | .slice _ => [.nls]

/-- What a cell is to be known as where pieces of code meet. -/
inductive CK
  | dat (t : Ty)
  | own (e : TypeId) (t : Ty)
  | ptr (o off : Nat)
  | ref (o : Nat)
  | pd (t : Ty)
  | fn (f : FuncId) (ts : List Ty)
  | mp
  | bx (t : Ty)
  | any

@[reducible] def CK.den : CK → Type
  | .dat t => S.den t
  | .own _ t => List (S.den t)
  | .pd t => S.den t
  | .fn _ ts => denT ts
  | .mp => List (Int × Bool)
  | .bx t => S.den t
  | _ => Unit

inductive VK
  | s (c : CK)
  | g (cs : List CK)

@[reducible] def denC : List CK → Type
  | [] => Unit
  | c :: r => c.den × denC r

@[reducible] def VK.den : VK → Type
  | .s c => c.den
  | .g cs => denC cs

/-- A parameter: data by value, a pointer to data that is only read, a pointer to a variable of the caller's own (what it holds before, and behind), a value with rows of the caller's own in it that may be written. -/
inductive PK
  | val (t : Ty)
  | ptr (t : Ty)
  | box (ci co : List CK)
  | row (e : TypeId) (t : Ty)
  | agg (cs : List CK)
  | fn (f : FuncId) (ts : List Ty)

@[reducible] def PK.den : PK → Type
  | .val t => S.den t
  | .ptr t => S.den t
  | .box ci _ => denC ci
  | .row _ t => List (S.den t)
  | .agg cs => denC cs
  | .fn _ ts => denT ts

@[reducible] def denP : List PK → Type
  | [] => Unit
  | p :: r => p.den × denP r

/-- The rows alone. -/
@[reducible] def denCw : List CK → Type
  | [] => Unit
  | .own _ t :: r => List (den t) × denCw r
  | .dat _ :: r => denCw r
  | .ptr _ _ :: r => denCw r
  | .ref _ :: r => denCw r
  | .pd _ :: r => denCw r
  | .fn _ _ :: r => denCw r
  | .mp :: r => denCw r
  | .bx _ :: r => denCw r
  | .any :: r => denCw r

/-- What becomes of what is written. -/
@[reducible] def denQ : List PK → Type
  | [] => Unit
  | .box _ co :: r => denC co × denQ r
  | .row _ t :: r => List (den t) × denQ r
  | .agg cs :: r => denCw cs × denQ r
  | .val _ :: r => denQ r
  | .ptr _ :: r => denQ r
  | .fn _ _ :: r => denQ r

@[reducible] def denV : List VK → Type
  | [] => Unit
  | k :: r => k.den × denV r

@[reducible] def denW : List (Nat × TypeId × Ty) → Type
  | [] => Unit
  | c :: r => List (den c.2.2) × denW r

/-- What is promised of a function: its parameters, its results, what they are. -/
structure Con where
  ps : List PK
  rs : List VK
  F : denP ps → Option (denV rs × denQ ps)
  nl : Bool := false

abbrev Env := List (FuncId × Con)

/-- Do the functions among the arguments agree with what the contract was made for? -/
def fitsP : List PK → List SV → Bool
  | .fn f _ :: r, .s (.fn g _) :: xs => g == f && fitsP r xs
  | _ :: r, _ :: xs => fitsP r xs
  | _, _ => true

def lookC : Env → FuncId → List SV → Option Con
  | [], _, _ => none
  | (k, cn) :: r, g, xs => if k = g ∧ fitsP cn.ps xs = true then some cn else lookC r g xs

def capS : Cap → S1
  | .p o off => .p o off
  | .pd t x => .pd t x

def hasSl : Ty → Bool
  | .slice _ => true
  | .pair a b => hasSl a || hasSl b
  | _ => false

def CK.sl : CK → Bool
  | .dat t => hasSl t
  | .own _ t => hasSl t
  | .pd _ => true
  | .bx _ => true
  | _ => false

def VK.sl : VK → Bool
  | .s c => c.sl
  | .g cs => cs.any CK.sl

def PK.sl : PK → Bool
  | .box _ co => co.any CK.sl
  | .row _ t => hasSl t
  | .agg cs => cs.any CK.sl
  | _ => false

/-- May an answer show memory that the call was only given to read? -/
def roRes (ps : List PK) (rs : List VK) : Bool := rs.any VK.sl || ps.any PK.sl

def mapO {α β : Type} (f : α → Option β) : List α → Option (List β)
  | [] => some []
  | x :: r => match f x with
    | some y => match mapO f r with | some z => some (y :: z) | none => none
    | none => none

def slNames (cs : List S1) : List Nat := cs.filterMap fun c => match c with | .sl o => some o | _ => none

/-- The rows that a value shows. -/
def rowsOf (H : List (Nat × Ob)) : SV → List Nat
  | .s (.sl o) => [o]
  | .s (.p o _) => match look H o with
    | some (.box cs) => slNames cs
    | _ => []
  | .s (.pe o _ _) => [o]
  | .s (.fn _ l) => l.flatMap fun c => match c with
    | .p o _ => match look H o with
      | some (.box cs) => slNames cs
      | _ => []
    | .pd _ _ => []
  | .s _ => []
  | .g cs => slNames cs

/-- Rows that are written no more. -/
def frz (H : List (Nat × Ob)) : List Nat → List (Nat × Ob)
  | [] => H
  | o :: r => match look (frz H r) o with
    | some (.row _ t xs) => (o, .fro t xs) :: frz H r
    | _ => frz H r

/-- Numbers compared, in a form that does not count a literal down where the kernel compares two of them. -/
def ltI : Int → Int → Bool
  | .ofNat m, .ofNat n => Nat.ble (Nat.succ m) n
  | .ofNat _, .negSucc _ => false
  | .negSucc _, .ofNat _ => true
  | .negSucc m, .negSucc n => Nat.ble (Nat.succ n) m

def leI (x y : Int) : Bool := match ltI y x with
  | true => false
  | false => true

theorem ltI_eq (x y : Int) : ltI x y = decide (x < y) := by
  cases x <;> cases y <;> simp only [ltI]
  · rename_i m n
    rw [Bool.eq_iff_iff, decide_eq_true_eq, Nat.ble_eq]
    show m < n ↔ Int.ofNat m < Int.ofNat n
    exact Int.ofNat_lt.symm
  · rename_i m n
    have : ¬ (Int.ofNat m < Int.negSucc n) := by
      have h1 : (0 : Int) ≤ Int.ofNat m := Int.natCast_nonneg m
      have h2 : Int.negSucc n < 0 := Int.negSucc_lt_zero n
      omega
    exact (decide_eq_false this).symm
  · rename_i m n
    have : Int.negSucc m < Int.ofNat n := by
      have h1 : (0 : Int) ≤ Int.ofNat n := Int.natCast_nonneg n
      have h2 : Int.negSucc m < 0 := Int.negSucc_lt_zero m
      omega
    exact (decide_eq_true this).symm
  · rename_i m n
    rw [Bool.eq_iff_iff, decide_eq_true_eq, Nat.ble_eq]
    rw [Int.negSucc_eq, Int.negSucc_eq]
    omega

theorem leI_eq (x y : Int) : leI x y = decide (x ≤ y) := by
  unfold leI
  rw [ltI_eq]
  by_cases h : y < x
  · have h' : ¬ x ≤ y := by omega
    simp [h, h']
  · have h' : x ≤ y := by omega
    simp [h, h']

/-- Integer arithmetic as the model has it. -/
def bin (op : BinOp) (k : IntKind) (x y : Int) : Option S1 :=
  match op with
  | .add => some (.d (.int k) (k.wrap (x + y) : Int))
  | .sub => some (.d (.int k) (k.wrap (x - y) : Int))
  | .mul => some (.d (.int k) (k.wrap (x * y) : Int))
  | .quo => if y = 0 then none else some (.d (.int k) (k.wrap (x.tdiv y) : Int))
  | .rem => if y = 0 then none else some (.d (.int k) (x.tmod y : Int))
  | .and => some (.d (.int k) (k.wrap (BitVec.ofInt k.bits x &&& BitVec.ofInt k.bits y).toNat : Int))
  | .or => some (.d (.int k) (k.wrap (BitVec.ofInt k.bits x ||| BitVec.ofInt k.bits y).toNat : Int))
  | .xor => some (.d (.int k) (k.wrap (BitVec.ofInt k.bits x ^^^ BitVec.ofInt k.bits y).toNat : Int))
  | .eql => some (.d .bool (x == y))
  | .neq => some (.d .bool (x != y))
  | .lss => some (.d .bool (ltI x y))
  | .leq => some (.d .bool (leI x y))
  | .gtr => some (.d .bool (ltI y x))
  | .geq => some (.d .bool (leI y x))
  | _ => none

def shf (op : BinOp) (k : IntKind) (x y : Int) : Option S1 :=
  if y < 0 then none else
  match op with
  | .shl => some (.d (.int k) (k.wrap (x * 2 ^ (min y.toNat k.bits)) : Int))
  | .shr => some (.d (.int k) (x.fdiv (2 ^ (min y.toNat k.bits)) : Int))
  | _ => none

def isShift : BinOp → Bool
  | .shl => true
  | .shr => true
  | _ => false

/-- Are two data of a kind without slices the same? -/
def eqD : (t : Ty) → den t → den t → Bool
  | .int _, x, y => let a : Int := x; let b : Int := y; a == b
  | .bool, x, y => let a : Bool := x; let b : Bool := y; a == b
  | .str, x, y => let a : List UInt8 := x; let b : List UInt8 := y; a == b
  | .unit, _, _ => true
  | .pair a b, x, y => eqD a x.1 y.1 && eqD b x.2 y.2
  | .slice _, _, _ => false

/-- Two structs compared. -/
def eqA (T : Tab) (t : TypeId) (op : BinOp) (a b : SV) : Option S1 :=
  match look T t with
  | some r => if isAg r.ty && r.elem == 1 then (match toD false [] r.ty a, toD false [] r.ty b with
    | some x, some y => match op with
      | .eql => some (.d .bool (eqD r.ty x y))
      | .neq => some (.d .bool (!eqD r.ty x y))
      | _ => none
    | _, _ => none) else none
  | none => none

def bin2 (T : Tab) (t : TypeId) (op : BinOp) (a b : SV) : Option S1 :=
  match a, b with
  | .s (.d (.int k) x), .s (.d (.int l) y) => if isShift op then shf op k x y else if k = l then bin op k x y else none
  | .s (.d .str x), .s (.d .str y) => match op with
    | .add => if x.length + y.length ≤ 9223372036854775807 then some (.d .str (x ++ y)) else none
    | .eql => some (.d .bool (x == y))
    | .neq => some (.d .bool (!(x == y)))
    | _ => none
  | .s (.d .bool x), .s (.d .bool y) => match look T t with
    | none => none
    | some r => if r.ty = .bool then (match op with
      | .eql => some (.d .bool (x == y))
      | .neq => some (.d .bool (!(x == y)))
      | _ => none) else none
  | a, b => eqA T t op a b

/-- Are all names new, and no two the same? -/
def newNames (H : List (Nat × Ob)) : List (Nat × Ob) → Bool
  | [] => true
  | p :: r => newName H p.1 && newName r p.1 && newNames H r

def mkCap : (ts : List Ty) → denT ts → List Cap
  | [], _ => []
  | t :: r, x => .pd t x.1 :: mkCap r x.2

def unCap : (ts : List Ty) → List Cap → Option (denT ts)
  | [], [] => some ()
  | t :: r, .pd s y :: l => match cst s t y, unCap r l with
    | some z, some q => some (z, q)
    | _, _ => none
  | _, _ => none

def mkC (nm : Nat) : (c : CK) → c.den → S1 × List (Nat × Ob)
  | .dat t, x => (.d t x, [])
  | .own e t, x => (.sl nm, [(nm, .row e t x)])
  | .ptr o off, _ => (.p o off, [])
  | .ref o, _ => (.sl o, [])
  | .pd t, x => (.pd t x, [])
  | .fn f ts, x => (.fn f (mkCap ts x), [])
  | .mp, x => (.mp nm, [(nm, .map x)])
  | .bx t, x => (.p nm 0, [(nm, .box (split t x))])
  | .any, _ => (.any, [])

def mkCs (nm : Nat) : (cs : List CK) → denC cs → List S1 × List (Nat × Ob)
  | [], _ => ([], [])
  | c :: r, x => let q := mkC nm c x.1; let q' := mkCs (nm + 1) r x.2; (q.1 :: q'.1, q.2 ++ q'.2)

def mkV (nm : Nat) : (c : VK) → c.den → SV × List (Nat × Ob)
  | .s c, x => let q := mkC nm c x; (.s q.1, q.2)
  | .g cs, x => let q := mkCs nm cs x; (.g q.1, q.2)

/-- A cell read as what it is to be known as: the data, the rows that stay the call's own. -/
def unC (H : List (Nat × Ob)) : (c : CK) → S1 → Option (c.den × List Nat)
  | .dat t, s => match cell1 true H t s with | some x => some (x, []) | none => none
  | .own e t, s => match s with
    | .nls => some ([], [])
    | .sl o => match look H o with
      | some (.row e' t' xs) => if e' = e then (match cst (.slice t') (.slice t) xs with | some ys => some (ys, [o]) | none => none) else none
      | _ => none
    | _ => none
  | .ptr o off, s => match s with
    | .p o' off' => if o' = o ∧ off' = off then (match look H o with | some (.box _) => some ((), []) | _ => none) else none
    | _ => none
  | .ref o, s => match s with
    | .sl o' => if o' = o then (match look H o with | some (.row _ _ _) => some ((), []) | _ => none) else none
    | _ => none
  | .pd t, s => match s with
    | .pd s' y => match cst s' t y with | some z => some (z, []) | none => none
    | _ => none
  | .fn f ts, s => match s with
    | .fn g l => if g = f then (match unCap ts l with | some x => some (x, []) | none => none) else none
    | _ => none
  | .mp, s => match s with
    | .mp o => match look H o with
      | some (.map es) => some (es, [o])
      | _ => none
    | _ => none
  | .bx _, _ => none
  | .any, _ => some ((), [])

def unCs (H : List (Nat × Ob)) : (cs : List CK) → List S1 → Option (denC cs × List Nat)
  | [], [] => some ((), [])
  | c :: r, s :: ss => match unC H c s with
    | some (x, l) => match unCs H r ss with
      | some (y, m) => some ((x, y), l ++ m)
      | none => none
    | none => none
  | _, _ => none

def unV (H : List (Nat × Ob)) : (c : VK) → SV → Option (c.den × List Nat)
  | .s (.dat t), v => match toD true H t v with | some x => some (x, []) | none => none
  | .s c, .s s => unC H c s
  | .s _, .g _ => none
  | .g cs, .g ss => unCs H cs ss
  | .g cs, .s (.d t x) => if isAg t then unCs H cs (split t x) else none
  | .g _, _ => none

def nodupB : List Nat → Bool
  | [] => true
  | x :: r => !(r.contains x) && nodupB r

/-- Do all data cells avoid the rows that stay the call's own? -/
def freeC (H : List (Nat × Ob)) (l : List Nat) : CK → S1 → Bool
  | .dat _, .sl o => !(l.contains o) || (match look H o with | some (.row _ _ _) => false | _ => true)
  | _, _ => true

def freeCs (H : List (Nat × Ob)) (l : List Nat) : List CK → List S1 → Bool
  | c :: r, s :: ss => freeC H l c s && freeCs H l r ss
  | _, _ => true

def freeV (H : List (Nat × Ob)) (l : List Nat) : VK → SV → Bool
  | .s (.dat t), v => (cellsOf v).all (freeC H l (.dat t))
  | .s c, .s s => freeC H l c s
  | .s _, .g _ => true
  | .g cs, v => freeCs H l cs (cellsOf v)

/-! ### calls -/
def capV (H : List (Nat × Ob)) (t : Ty) : Cap → Option (den t)
  | .pd s y => cst s t y
  | .p o off => match look H o with
    | some (.box cs) => match gat true H t (cs.drop off) with | some q => some q.1 | none => none
    | _ => none

def capD (H : List (Nat × Ob)) : (ts : List Ty) → List Cap → Option (denT ts)
  | [], [] => some ()
  | t :: r, c :: l => match capV H t c with
    | some y => match capD H r l with
      | some z => some (y, z)
      | none => none
    | none => none
  | _, _ => none

/-- An argument: its data, which rows and boxes are handed over. -/
def argD (σ : St) (k : PK) (x : SV) : Option (k.den × List Nat × List Nat) :=
  match k with
  | .val t => match toD true σ.H t x with | some y => some (y, [], []) | none => none
  | .ptr t => match x with
    | .s (.pd s y) => match cst s t y with | some z => some (z, [], []) | none => none
    | .s (.p o off) => match look σ.H o with
      | some (.box cs) => (match gat true σ.H t (cs.drop off) with | some (y, _) => some (y, [], []) | none => none)
      | _ => none
    | .s (.pe o i off) => match look σ.H o with
      | some (.row _ s xs) => (xs[i]?).bind fun y => (sub s y off t).bind fun z => some (z, [], [])
      | _ => none
    | _ => none
  | .box ci _ => match x with
    | .s (.p o off) => match look σ.H o with
      | some (.box cs) => if off + ci.length ≤ cs.length then (match unCs σ.H ci ((cs.drop off).take ci.length) with | some q => some (q.1, q.2, [o]) | none => none) else none
      | _ => none
    | _ => none
  | .row e t => match x with
    | .s s => (match unC σ.H (.own e t) s with | some q => some (q.1, q.2, []) | none => none)
    | _ => none
  | .agg cs => match x with
    | .g ss => (match unCs σ.H cs ss with | some q => some (q.1, q.2, []) | none => none)
    | _ => none
  | .fn f ts => match x with
    | .s (.fn g l) => if g = f then (match capD σ.H ts l with | some y => some (y, [], []) | none => none) else none
    | _ => none

def argsD (σ : St) : (ps : List PK) → List SV → Option (denP ps × List Nat × List Nat)
  | [], [] => some ((), [], [])
  | p :: r, x :: xs => match argD σ p x with
    | some y => match argsD σ r xs with
      | some z => some ((y.1, z.1), y.2.1 ++ z.2.1, y.2.2 ++ z.2.2)
      | none => none
    | none => none
  | _, _ => none

def capFree (bs : List Nat) : Cap → Bool
  | .p o _ => !(bs.contains o)
  | .pd _ _ => true

/-- Does an argument that is only read avoid what is handed over? -/
def freeA (H : List (Nat × Ob)) (l bs : List Nat) : PK → SV → Bool
  | .val _, x => (rowsOf H x).all fun o => !(l.contains o)
  | .ptr _, x => (rowsOf H x).all (fun o => !(l.contains o)) && (match x with | .s (.p o _) => !(bs.contains o) | _ => true)
  | .box ci _, x => match x with
    | .s (.p o off) => match look H o with
      | some (.box cs) => freeCs H l ci ((cs.drop off).take ci.length)
      | _ => true
    | _ => true
  | .row _ _, _ => true
  | .agg cs, x => match x with
    | .g ss => freeCs H l cs ss
    | _ => true
  | .fn _ _, x => (rowsOf H x).all (fun o => !(l.contains o)) && (match x with | .s (.fn _ q) => q.all (capFree bs) | _ => true)

def freeAs (H : List (Nat × Ob)) (l bs : List Nat) : List PK → List SV → Bool
  | p :: r, x :: xs => freeA H l bs p x && freeAs H l bs r xs
  | _, _ => true

/-- The rows of a value that was handed over, as they are behind. -/
def reR (e : TypeId) (t : Ty) (xs : List (den t)) : S1 → List (Nat × Ob)
  | .sl o => [(o, .row e t xs)]
  | _ => []

def reCs : (cs : List CK) → denCw cs → List S1 → List (Nat × Ob)
  | [], _, _ => []
  | .own e t :: r, y, s :: ss => reR e t y.1 s ++ reCs r y.2 ss
  | .dat _ :: r, y, _ :: ss => reCs r y ss
  | .ptr _ _ :: r, y, _ :: ss => reCs r y ss
  | .ref _ :: r, y, _ :: ss => reCs r y ss
  | .pd _ :: r, y, _ :: ss => reCs r y ss
  | .fn _ _ :: r, y, _ :: ss => reCs r y ss
  | .mp :: r, y, _ :: ss => reCs r y ss
  | .bx _ :: r, y, _ :: ss => reCs r y ss
  | .any :: r, y, _ :: ss => reCs r y ss
  | _ :: _, _, [] => []

/-- A row that is written in place keeps its length. -/
def lenCs : (cs : List CK) → denC cs → denCw cs → Bool
  | [], _, _ => true
  | .own _ _ :: r, x, y => x.1.length == y.1.length && lenCs r x.2 y.2
  | .dat _ :: r, x, y => lenCs r x.2 y
  | .ptr _ _ :: r, x, y => lenCs r x.2 y
  | .ref _ :: r, x, y => lenCs r x.2 y
  | .pd _ :: r, x, y => lenCs r x.2 y
  | .fn _ _ :: r, x, y => lenCs r x.2 y
  | .mp :: r, x, y => lenCs r x.2 y
  | .bx _ :: r, x, y => lenCs r x.2 y
  | .any :: r, x, y => lenCs r x.2 y

def lenQ : (ps : List PK) → denP ps → denQ ps → Bool
  | [], _, _ => true
  | .val _ :: r, x, y => lenQ r x.2 y
  | .ptr _ :: r, x, y => lenQ r x.2 y
  | .fn _ _ :: r, x, y => lenQ r x.2 y
  | .box _ _ :: r, x, y => lenQ r x.2 y.2
  | .row _ _ :: r, x, y => x.1.length == y.1.length && lenQ r x.2 y.2
  | .agg cs :: r, x, y => lenCs cs x.1 y.1 && lenQ r x.2 y.2

def replC (cs : List S1) (off : Nat) (ys : List S1) : List S1 := cs.take off ++ ys ++ cs.drop (off + ys.length)

/-- What a call leaves of what was handed over: rows that are new, and what is written over. -/
def outA (nm : Nat) (H : List (Nat × Ob)) : (ps : List PK) → denQ ps → List SV → List (Nat × Ob) × List (Nat × Ob)
  | .val _ :: r, y, _ :: xs => outA nm H r y xs
  | .ptr _ :: r, y, _ :: xs => outA nm H r y xs
  | .fn _ _ :: r, y, _ :: xs => outA nm H r y xs
  | .box _ co :: r, y, x :: xs =>
    let q := outA (nm + 30) H r y.2 xs
    match x with
    | .s (.p o off) => match look H o with
      | some (.box cs) => let c := mkCs nm co y.1; (c.2 ++ q.1, (o, .box (replC cs off c.1)) :: q.2)
      | _ => q
    | _ => q
  | .row e t :: r, y, x :: xs =>
    let q := outA nm H r y.2 xs
    (q.1, (match x with | .s s => reR e t y.1 s | _ => []) ++ q.2)
  | .agg cs :: r, y, x :: xs =>
    let q := outA nm H r y.2 xs
    (q.1, (match x with | .g ss => reCs cs y.1 ss | _ => []) ++ q.2)
  | _, _, _ => ([], [])

def mkVs (nm : Nat) : (rs : List VK) → denV rs → List SV × List (Nat × Ob)
  | [], _ => ([], [])
  | k :: r, y => let q := mkV nm k y.1; let q' := mkVs (nm + 30) r y.2; (q.1 :: q'.1, q.2 ++ q'.2)

def tup : List SV → Sl
  | [x] => .v x
  | l => .t l

/-- A value whose rows have names. -/
def refCs (nm : Nat) : List CK → List CK
  | [] => []
  | .own _ _ :: r => .ref nm :: refCs (nm + 1) r
  | .dat t :: r => .dat t :: refCs (nm + 1) r
  | .ptr o f :: r => .ptr o f :: refCs (nm + 1) r
  | .ref o :: r => .ref o :: refCs (nm + 1) r
  | .pd t :: r => .pd t :: refCs (nm + 1) r
  | .fn f ts :: r => .fn f ts :: refCs (nm + 1) r
  | .mp :: r => .mp :: refCs (nm + 1) r
  | .bx t :: r => .bx t :: refCs (nm + 1) r
  | .any :: r => .any :: refCs (nm + 1) r

def refX (nm : Nat) : (cs : List CK) → denC cs → denC (refCs nm cs)
  | [], _ => ()
  | .own _ _ :: r, x => ((), refX (nm + 1) r x.2)
  | .dat _ :: r, x => (x.1, refX (nm + 1) r x.2)
  | .ptr _ _ :: r, x => (x.1, refX (nm + 1) r x.2)
  | .ref _ :: r, x => (x.1, refX (nm + 1) r x.2)
  | .pd _ :: r, x => (x.1, refX (nm + 1) r x.2)
  | .fn _ _ :: r, x => (x.1, refX (nm + 1) r x.2)
  | .mp :: r, x => (x.1, refX (nm + 1) r x.2)
  | .bx _ :: r, x => (x.1, refX (nm + 1) r x.2)
  | .any :: r, x => (x.1, refX (nm + 1) r x.2)

/-- The rows of a value, and what they hold; ahead of others. -/
def rowCs (nm : Nat) (z : List (Nat × TypeId × Ty)) : List CK → List (Nat × TypeId × Ty)
  | [] => z
  | .own e t :: r => (nm, e, t) :: rowCs (nm + 1) z r
  | .dat _ :: r => rowCs (nm + 1) z r
  | .ptr _ _ :: r => rowCs (nm + 1) z r
  | .ref _ :: r => rowCs (nm + 1) z r
  | .pd _ :: r => rowCs (nm + 1) z r
  | .fn _ _ :: r => rowCs (nm + 1) z r
  | .mp :: r => rowCs (nm + 1) z r
  | .bx _ :: r => rowCs (nm + 1) z r
  | .any :: r => rowCs (nm + 1) z r

def rowX (nm : Nat) {z : List (Nat × TypeId × Ty)} (d : denW z) : (cs : List CK) → denC cs → denW (rowCs nm z cs)
  | [], _ => d
  | .own _ _ :: r, x => (x.1, rowX (nm + 1) d r x.2)
  | .dat _ :: r, x => rowX (nm + 1) d r x.2
  | .ptr _ _ :: r, x => rowX (nm + 1) d r x.2
  | .ref _ :: r, x => rowX (nm + 1) d r x.2
  | .pd _ :: r, x => rowX (nm + 1) d r x.2
  | .fn _ _ :: r, x => rowX (nm + 1) d r x.2
  | .mp :: r, x => rowX (nm + 1) d r x.2
  | .bx _ :: r, x => rowX (nm + 1) d r x.2
  | .any :: r, x => rowX (nm + 1) d r x.2

/-- A function's parameters as it finds them. -/
def parSl (i : Nat) : List PK → List (Nat × VK)
  | [] => []
  | .val t :: r => (i, .s (.dat t)) :: parSl (i + 1) r
  | .ptr t :: r => (i, .s (.pd t)) :: parSl (i + 1) r
  | .fn f ts :: r => (i, .s (.fn f ts)) :: parSl (i + 1) r
  | .box _ _ :: r => (i, .s (.ptr (9000000 + i) 0)) :: parSl (i + 1) r
  | .row _ _ :: r => (i, .s (.ref (9000100 + 100 * i))) :: parSl (i + 1) r
  | .agg cs :: r => (i, .g (refCs (9000100 + 100 * i) cs)) :: parSl (i + 1) r

def parBx (i : Nat) : List PK → List (Nat × List CK)
  | [] => []
  | .val _ :: r => parBx (i + 1) r
  | .ptr _ :: r => parBx (i + 1) r
  | .fn _ _ :: r => parBx (i + 1) r
  | .box ci _ :: r => (9000000 + i, ci) :: parBx (i + 1) r
  | .row _ _ :: r => parBx (i + 1) r
  | .agg _ :: r => parBx (i + 1) r

def parRw (i : Nat) : List PK → List (Nat × TypeId × Ty)
  | [] => []
  | .val _ :: r => parRw (i + 1) r
  | .ptr _ :: r => parRw (i + 1) r
  | .fn _ _ :: r => parRw (i + 1) r
  | .box _ _ :: r => parRw (i + 1) r
  | .row e t :: r => (9000100 + 100 * i, e, t) :: parRw (i + 1) r
  | .agg cs :: r => rowCs (9000100 + 100 * i) (parRw (i + 1) r) cs

def ptrC (bs : List Nat) : CK → Bool
  | .ptr o _ => bs.contains o
  | .ref o => bs.contains o
  | .bx _ => false
  | _ => true

/-- Neither pointer nor map. -/
def aggC : CK → Bool
  | .ptr _ _ => false
  | .ref _ => false
  | .mp => false
  | .bx _ => false
  | _ => true

/-- No pointer at all. -/
def resC : CK → Bool
  | .ptr _ _ => false
  | .ref _ => false
  | .pd _ => false
  | .fn _ ts => ts.isEmpty
  | .mp => false
  | .bx _ => false
  | _ => true

def resK : VK → Bool
  | .s c => resC c
  | .g cs => cs.all resC

/-- No pointer to a box among what is handed over. -/
def noPtr : PK → Bool
  | .box ci co => ci.all aggC && co.all resC
  | .agg cs => cs.all aggC
  | _ => true

def psOk (ps : List PK) : Bool := nodupB ((parBx 0 ps).map (·.1) ++ (parRw 0 ps).map (·.1)) && ps.all noPtr

def setDst (dst : Option Nat) (x : Sl) (env : List (Nat × Sl)) : List (Nat × Sl) := match dst with | some j => (j, x) :: env | none => env

/-- Is the first argument the nil slice, where the promise asks that? -/
def nlOk : Bool → List SV → Bool
  | false, _ => true
  | true, .s .nls :: _ => true
  | _, _ => false

/-- A call of a function of which something is promised. -/
def callR {R : Type} (nm : Nat) (cn : Con) (xs : List SV) (dst : Option Nat) (σ : St) (K : St → Option R) : Option R :=
  (argsD σ cn.ps xs).bind fun q =>
    if nlOk cn.nl xs && nodupB q.2.1 && nodupB q.2.2 && freeAs σ.H q.2.1 q.2.2 cn.ps xs && psOk cn.ps then
      (cn.F q.1).bind fun y =>
        let rv := mkVs nm cn.rs y.1
        let ov := outA (nm + 250) σ.H cn.ps y.2 xs
        let fr := if roRes cn.ps cn.rs then (xs.flatMap (rowsOf σ.H)).filter (fun o => !(q.2.1.contains o)) else []
        if lenQ cn.ps q.1 y.2 && newNames σ.H (rv.2 ++ ov.1) then
          K { nt := σ.nt, env := setDst dst (tup rv.1) σ.env,
              H := (rv.2 ++ ov.1) ++ (ov.2 ++ (q.2.1.map (fun o => (o, Ob.dead)) ++ frz σ.H fr)) }
        else none
    else none

section
variable {R : Type}

/-- A value that is stored among data: what it shows of the call's own is written no more. -/
def takeD (H : List (Nat × Ob)) (t : Ty) (x : SV) : Option (den t × List (Nat × Ob)) :=
  match toD false (frz H (rowsOf H x)) t x with
  | some y => some (y, frz H (rowsOf H x))
  | none => none

def seqParts : Nat → List (Nat × Operand) → Bool
  | _, [] => true
  | n, (i, _) :: r => i == n && seqParts (n + 1) r

def fillC (fields : List (Nat × TypeId)) (szs : TypeId → Option Nat) (cs : List S1) : List (Nat × List S1) → Option (List S1)
  | [] => some cs
  | (i, ys) :: r => match fields[i]? with
    | some (off, t) => if szs t = some ys.length ∧ off + ys.length ≤ cs.length then fillC fields szs (replC cs off ys) r else none
    | none => none

def lenOf (t : Ty) (H : List (Nat × Ob)) (x : SV) : Option Nat :=
  match t with
  | .str => match x with
    | .s (.d .str s) => some s.length
    | _ => none
  | .slice _ => match x with
    | .s (.d (.slice _) xs) => some xs.length
    | .s .nls => some 0
    | .s (.sl o) => match look H o with
      | some (.row _ _ xs) => some xs.length
      | some (.fro _ xs) => some xs.length
      | _ => none
    | _ => none
  | _ => none

def natOf : SV → Option Int
  | .s (.d (.int .i64) x) => some x
  | _ => none

def optB (σ : St) (d : Int) : Option Operand → Option Int
  | none => some d
  | some o => match ev σ o with | some x => natOf x | none => none

/-- What an operation that writes nothing gives: its value, what it makes, which rows are written no more. -/
structure Out where
  x : Sl
  n : List (Nat × Ob)
  fr : List Nat

def toCap : SV → Option Cap
  | .s (.p o off) => some (.p o off)
  | .s (.pd t x) => some (.pd t x)
  | _ => none

/-- A map type from whole numbers to truth values: the table's row of the second kind says so. -/
def mapIn : Tab → TypeId → Option (TypeId × TypeId)
  | [], _ => none
  | (t, r) :: l, m => match r.ty with
    | .bool => match look r.fields m with
      | some k => some (t, k)
      | none => mapIn l m
    | _ => mapIn l m

def getM : List (Int × Bool) → Int → Bool
  | [], _ => false
  | p :: r, n => if p.1 = n then p.2 else getM r n

def setM : List (Int × Bool) → Int → Bool → List (Int × Bool)
  | [], n, b => [(n, b)]
  | p :: r, n, b => if p.1 = n then (n, b) :: r else p :: setM r n b

/-- Several results, if the operand names them. -/
def tupOf (σ : St) : Operand → Option (List SV)
  | .tmp t => match look σ.env t with
    | some (.t xs) => some xs
    | _ => none
  | _ => none

/-- The same, with what follows inside, so that what stops the run stands outside. -/
def binC (T : Tab) (t : TypeId) (op : BinOp) (a b : SV) (K : S1 → Option R) : Option R :=
  match op, a, b with
  | .quo, .s (.d (.int k) x), .s (.d (.int l) y) => if k = l then (if y = 0 then none else K (.d (.int k) (k.wrap (x.tdiv y) : Int))) else none
  | .rem, .s (.d (.int k) x), .s (.d (.int l) y) => if k = l then (if y = 0 then none else K (.d (.int k) (x.tmod y : Int))) else none
  | .shl, .s (.d (.int k) x), .s (.d (.int _) y) => if y < 0 then none else K (.d (.int k) (k.wrap (x * 2 ^ (min y.toNat k.bits)) : Int))
  | .shr, .s (.d (.int k) x), .s (.d (.int _) y) => if y < 0 then none else K (.d (.int k) (x.fdiv (2 ^ (min y.toNat k.bits)) : Int))
  | .add, .s (.d .str x), .s (.d .str y) => if x.length + y.length ≤ 9223372036854775807 then K (.d .str (x ++ y)) else none
  | op, a, b => (bin2 T t op a b).bind K

def val1 (x : SV) : Option Out := some { x := .v x, n := [], fr := [] }

def kv (K : Out → Option R) (x : SV) : Option R := K { x := .v x, n := [], fr := [] }

/-- An operation that writes nothing. -/
def pureC (T : Tab) (o : Oper) (σ : St) (K : Out → Option R) : Option R :=
  match o.op with
  | .move x | .assign x => match tupOf σ x with
    | some xs => K { x := .t xs, n := [], fr := [] }
    | none => match ev σ x with
      | some y => kv K y
      | none => none
  | .pick c a b => match ev σ c, ev σ a, ev σ b with
    | some (.s (.d .bool y)), some va, some vb => if y then kv K va else kv K vb
    | _, _, _ => none
  | .alloc t => match look T t, o.dst with
    | some r, some j => if newName σ.H j = true then K { x := .v (.s (.p j 0)), n := [(j, .box (zeroC r.ty))], fr := [] } else none
    | _, _ => none
  | .box t x => match look T t, ev σ x, o.dst with
    | some r, some y, some j => if (cellsOf y).length = sz r.ty ∧ newName σ.H j = true ∧ (cellsOf y).all known = true then
        K { x := .v (.s (.p j 0)), n := [(j, .box (cellsOf y))], fr := [] } else none
    | _, _, _ => none
  | .build t parts => match look T t, mapO (fun p => (ev σ p.2).map fun y => (p.1, cellsOf y)) parts.toList with
    | some r, some ps => if isAg r.ty = false then none else match fillC r.fields (fun u => (look T u).map fun q => sz q.ty) (zeroC r.ty) ps with
      | some cs => if ps.all (fun p => p.2.all known) = true then kv K (.g cs) else none
      | none => none
    | _, _ => none
  | .buildSlice t len parts => match look T t, o.dst with
    | some r, some j => match look T r.elem, mapO (fun p => ev σ p.2) parts.toList with
      | some q, some xs =>
        if len = parts.toList.length ∧ seqParts 0 parts.toList = true ∧ len * sz q.ty ≤ 1000 ∧ newName σ.H j = true ∧ (r.ty = .slice q.ty) then
          match mapO (toD false (frz σ.H (xs.flatMap (rowsOf σ.H))) q.ty) xs with
          | some ys => K { x := .v (.s (.sl j)), n := [(j, .row r.elem q.ty ys)], fr := xs.flatMap (rowsOf σ.H) }
          | none => none
        else none
      | _, _ => none
    | _, _ => none
  | .load t a => match look T t, ev σ a with
    | some r, some (.s (.p b off)) => match look σ.H b with
      | some (.box cs) =>
        if off + sz r.ty ≤ cs.length then
          (if isAg r.ty then kv K (.g ((cs.drop off).take (sz r.ty))) else match cs[off]? with | some c => kv K (.s c) | none => none)
        else none
      | _ => none
    | some r, some (.s (.pe b i off)) => match look σ.H b with
      | some (.row _ u xs) => (xs[i]?).bind fun y => (sub u y off r.ty).bind fun z => kv K (.s (.d r.ty z))
      | _ => none
    | some r, some (.s (.pd u y)) => (sub u y 0 r.ty).bind fun z => kv K (.s (.d r.ty z))
    | _, _ => none
  | .nilCheck x => match ev σ x with
    | some (.s (.p b off)) => match look σ.H b with
      | some (.box _) => kv K (.s (.p b off))
      | _ => none
    | some (.s (.pd u y)) => kv K (.s (.pd u y))
    | some (.s (.pe b i off)) => match look σ.H b with
      | some (.row _ _ _) => kv K (.s (.pe b i off))
      | _ => none
    | _ => none
  | .binOp op t x y _ => match ev σ x, ev σ y with
    | some a, some b => binC T t op a b fun r => kv K (.s r)
    | _, _ => none
  | .unOp op _ x => match op, ev σ x with
    | .not, some (.s (.d .bool b)) => kv K (.s (.d .bool (!b)))
    | .neg, some (.s (.d (.int k) n)) => kv K (.s (.d (.int k) (k.wrap (0 - n) : Int)))
    | _, _ => none
  | .convert u' u x => match look T u', look T u, ev σ x with
    | some _, some r, some (.s (.d (.int _) n)) => match r.ty with
      | .int l => kv K (.s (.d (.int l) (l.wrap n : Int)))
      | _ => none
    | _, _, _ => none
  | .makeSlice t l c => match look T t, o.dst, ev σ l, ev σ c with
    | some r, some j, some (.s (.d (.int .i64) n)), some (.s (.d (.int .i64) m)) => match look T r.elem with
      | some q => if r.ty = .slice q.ty ∧ newName σ.H j = true then (if n = m ∧ 0 ≤ n ∧ n * q.bytes ≤ 140737488355328 ∧ n ≤ 9223372036854775807 then
          K { x := .v (.s (.sl j)), n := [(j, .row r.elem q.ty (List.replicate n.toNat (zeroD q.ty)))], fr := [] } else none) else none
      | none => none
    | _, _, _, _ => none
  | .slice t x lo hi mx => match mx, look T t, ev σ x with
    | none, some r, some y => match r.ty with
      | .str => match y with
        | .s (.d .str s) => (optB σ 0 lo).bind fun l => (optB σ s.length hi).bind fun h =>
          if 0 ≤ l ∧ l ≤ h ∧ h ≤ s.length then kv K (.s (.d .str ((s.drop l.toNat).take (h.toNat - l.toNat)))) else none
        | _ => none
      | .slice u => (toD true σ.H (.slice u) y).bind fun xs => (optB σ 0 lo).bind fun l => (optB σ xs.length hi).bind fun h =>
            if 0 ≤ l ∧ l ≤ h ∧ h ≤ xs.length then
              K { x := .v (.s (.d (.slice u) ((xs.drop l.toNat).take (h.toNat - l.toNat)))), n := [], fr := rowsOf σ.H y } else none
      | _ => none
    | _, _, _ => none
  | .fieldAddr s x f => match look T s with
    | some r => if isAg r.ty = false then none else match r.fields[f]? with
      | some (off, u) => match look T u with
        | some q => if sz q.ty = 0 then none else match ev σ x with
          | some (.s (.p b k)) => match look σ.H b with
            | some (.box _) => kv K (.s (.p b (k + off)))
            | _ => none
          | some (.s (.pe b i k)) => match look σ.H b with
            | some (.row _ _ _) => kv K (.s (.pe b i (k + off)))
            | _ => none
          | some (.s (.pd w y)) => (sub w y off q.ty).bind fun z => kv K (.s (.pd q.ty z))
          | _ => none
        | none => none
      | none => none
    | none => none
  | .field s x f => match look T s with
    | some r => if isAg r.ty = false then none else match r.fields[f]? with
      | some (off, u) => match look T u, ev σ x with
        | some q, some (.g cs) => if off + sz q.ty ≤ cs.length then
            (if isAg q.ty then kv K (.g ((cs.drop off).take (sz q.ty))) else match cs[off]? with | some c => kv K (.s c) | none => none) else none
        | some q, some (.s (.d w y)) => if isAg w then (sub w y off q.ty).bind fun z => kv K (.s (.d q.ty z)) else none
        | _, _ => none
      | none => none
    | none => none
  | .indexAddr t x ix => match look T t, ev σ x, ev σ ix with
    | some r, some (.s (.sl b)), some (.s (.d (.int _) i)) => match look σ.H b with
      | some (.row _ u xs) => if r.ty = .slice u then (if 0 ≤ i ∧ i < xs.length then kv K (.s (.pe b i.toNat 0)) else none) else none
      | some (.fro u xs) => if r.ty = .slice u then (if 0 ≤ i then (xs[i.toNat]?).bind fun y => kv K (.s (.pd u y)) else none) else none
      | _ => none
    | some r, some (.s (.d (.slice u) xs)), some (.s (.d (.int _) i)) => if r.ty = .slice u then (if 0 ≤ i then (xs[i.toNat]?).bind fun y => kv K (.s (.pd u y)) else none) else none
    | _, _, _ => none
  | .index t x ix => match look T t, ev σ x, ev σ ix with
    | some r, some (.s (.d .str s)), some (.s (.d (.int _) i)) => if r.ty = .str then (if 0 ≤ i then (s[i.toNat]?).bind fun c => kv K (.s (.d (.int .u8) (c.toNat : Int))) else none) else none
    | _, _, _ => none
  | .extract x i => match x with
    | .tmp t => match look σ.env t with
      | some (.t xs) => match xs[i]? with
        | some y => kv K y
        | none => none
      | _ => none
    | _ => none
  | .call c => match c.callee with
    | .builtin .len => match c.args.toList, c.argTypes.toList with
      | [a], [t] => match look T t, ev σ a with
        | some r, some x => (lenOf r.ty σ.H x).bind fun n => kv K (.s (.d (.int .i64) (n : Int)))
        | _, _ => none
      | _, _ => none
    | .builtin .max => match c.args.toList with
      | [a, b] => match ev σ a, ev σ b with
        | some (.s (.d (.int k) x)), some (.s (.d (.int l) y)) => if k = l then kv K (.s (.d (.int k) (if y > x then y else x : Int))) else none
        | _, _ => none
      | _ => none
    | .builtin .min => match c.args.toList with
      | [a, b] => match ev σ a, ev σ b with
        | some (.s (.d (.int k) x)), some (.s (.d (.int l) y)) => if k = l then kv K (.s (.d (.int k) (if y < x then y else x : Int))) else none
        | _, _ => none
      | _ => none
    | _ => none
  | .makeMap _ r => match r, o.dst with
    | none, some j => if newName σ.H j = true then K { x := .v (.s (.mp j)), n := [(j, .map [])], fr := [] } else none
    | _, _ => none
  | .lookup t m x ok => match ok, mapIn T t, ev σ m, ev σ x with
    | false, some _, some (.s (.mp b)), some (.s (.d (.int .i64) n)) => match look σ.H b with
      | some (.map es) => kv K (.s (.d .bool (getM es n)))
      | _ => none
    | _, _, _, _ => none
  | .makeFunc g first caps => match g, first.toList, mapO (ev σ) caps.toList with
    | .func f, [], some vs => match mapO toCap vs with
      | some l => kv K (.s (.fn f l))
      | none => none
    | _, _, _ => none
  | _ => none

def pureR (T : Tab) (o : Oper) (σ : St) : Option Out := pureC T o σ some

def addO (σ : St) (dst : Option Nat) (q : Out) : St :=
  { nt := σ.nt, env := match dst with | some j => (j, q.x) :: σ.env | none => σ.env, H := q.n ++ frz σ.H q.fr }

/-- An operation: what is known behind it. -/
def opR (T : Tab) (G : Env) (nm : Nat) (o : Oper) (σ : St) (K : St → Option R) : Option R :=
  match o.op with
  | .store t a x => match look T t, ev σ a, ev σ x with
    | some r, some (.s (.p b off)), some y => match look σ.H b with
      | some (.box cs) =>
        if (cellsOf y).length = sz r.ty ∧ off + sz r.ty ≤ cs.length ∧ (cellsOf y).all known = true then K ((σ.put b (.box (replC cs off (cellsOf y)))).sets o.dst (.s .any)) else none
      | _ => none
    | some r, some (.s (.pe b i off)), some y => match takeD σ.H r.ty y with
      | some (v, H') => match look H' b with
        | some (.row e u xs) => (xs[i]?).bind fun z => (upd u z off r.ty v).bind fun z' => K (({ σ with H := H' }.put b (.row e u (xs.set i z'))).sets o.dst (.s .any))
        | _ => none
      | none => none
    | _, _, _ => none
  | .mapUpdate t m x v => match o.dst, mapIn T t, ev σ m, ev σ x, ev σ v with
    | none, some _, some (.s (.mp b)), some (.s (.d (.int .i64) n)), some (.s (.d .bool y)) => match look σ.H b with
      | some (.map es) => K (σ.put b (.map (setM es n y)))
      | _ => none
    | _, _, _, _, _ => none
  | .call c => match c.callee with
    | .builtin .append => match c.args.toList, c.argTypes.toList, o.dst with
      | [s, x], [t, t'], some j => match look T t with
        | some r => match look T r.elem with
          | some q => if r.ty = .slice q.ty ∧ t = t' then (match ev σ s, ev σ x with
            | some (.s (.sl b)), some y => match look σ.H b with
              | some (.row e u xs) =>
                (toD true σ.H (.slice q.ty) y).bind fun ys => (cst (.slice u) (.slice q.ty) xs).bind fun xs' =>
                  if e = r.elem ∧ 0 < q.bytes ∧ (rowsOf σ.H y).contains b = false ∧ newName σ.H nm = true then (if (xs'.length + ys.length) * q.bytes ≤ 140737488355328 then
                    K (((σ.put b .dead).put nm (.row r.elem q.ty (xs' ++ ys))).set j (.s (.sl nm))) else none) else none
              | _ => none
            | some (.s .nls), some y =>
              (toD true σ.H (.slice q.ty) y).bind fun ys => if 0 < q.bytes ∧ newName σ.H nm = true then (if ys.length * q.bytes ≤ 140737488355328 then
                K ((σ.put nm (.row r.elem q.ty ys)).set j (.s (.sl nm))) else none) else none
            | _, _ => none) else none
          | none => none
        | none => none
      | _, _, _ => none
    | .value f => match ev σ f, mapO (ev σ) c.args.toList with
      | some (.s (.fn g l)), some xs => match lookC G g (xs ++ l.map fun c => .s (capS c)) with
        | some cn => callR nm cn (xs ++ l.map fun c => .s (capS c)) o.dst σ K
        | none => none
      | _, _ => none
    | _ => pureC T o σ fun q => K (addO σ o.dst q)
  | _ => pureC T o σ fun q => K (addO σ o.dst q)

def dstOk : Option Nat → Nat → Bool
  | none, _ => true
  | some j, n => decide (j < n)

/-- Operations one behind another, in the text's order. A guarded one is done or passed over. -/
def opsR (T : Tab) (G : Env) (all : Array Oper) : Nat → List Oper → St → (St → Option R) → Option R
  | _, [], σ, K => K σ
  | nm, o :: r, σ, K => if dstOk o.dst σ.nt = false then none else match o.guard with
    | none => opR T G nm o σ fun σ' => opsR T G all (nm + 500) r σ' K
    | some (j, want) => match ((all[j]?).bind (·.dst)) with
      | some t => match look σ.env t with
        | some (.v (.s (.d .bool b))) =>
          if b = want then opR T G nm o (σ.set t (.s (.d .bool want))) fun σ' => opsR T G all (nm + 500) r σ' K
          else opsR T G all (nm + 500) r ((σ.set t (.s (.d .bool (!want)))).skip o.dst) K
        | some (.t []) => opsR T G all (nm + 500) r (σ.skip o.dst) K
        | _ => none
      | none => none

/-! ### operations in any order -/
def namesC : S1 → List Nat
  | .fn _ l => l.flatMap fun c => match c with | .p o _ => [o] | .pd _ _ => []
  | .sl o => [o]
  | .p o _ => [o]
  | .pe o _ _ => [o]
  | .mp o => [o]
  | _ => []

def namesV : SV → List Nat
  | .s x => namesC x
  | .g cs => cs.flatMap namesC

def namesL : Sl → List Nat
  | .v x => namesV x
  | .t xs => xs.flatMap namesV

def boxNames (H : List (Nat × Ob)) (o : Nat) : List Nat := match look H o with | some (.box cs) => cs.flatMap namesC | _ => []

def argNames (σ : St) (l : List Nat) : List Nat := l.flatMap fun t => match look σ.env t with | some s => namesL s | none => []

def closeN (H : List (Nat × Ob)) (l : List Nat) : List Nat := l ++ l.flatMap (boxNames H)

/-- An operation of several that may be done in any order: which must be ahead of it (as bits), which slots it reads, which it writes, which names it looks at, which it writes. -/
structure It where
  anc : Nat
  rd : List Nat
  dst : Option Nat
  tch : List Nat
  wr : List Nat

def depsOf (o : Oper) : List Nat := (o.after.toList.filter (Region.binds .any)).map (·.on)

/-- 'n' of them are done; 'acc' has the last one first. -/
def ancOf (n : Nat) (acc : List It) (o : Oper) : Nat := (depsOf o).foldl (fun m e => Nat.lor m (Nat.lor (Nat.pow 2 e) (match acc[Nat.sub (Nat.sub n 1) e]? with | some it => it.anc | none => 0))) 0

def wrOf (σ σ' : St) : List Nat := (σ'.H.take (σ'.H.length - σ.H.length)).map (·.1)

def itOf (all : Array Oper) (anc : Nat) (o : Oper) (σ σ' : St) : It :=
  { anc, rd := o.looksAt all, dst := o.dst, tch := closeN σ.H (argNames σ (o.looksAt all)) ++ wrOf σ σ', wr := wrOf σ σ' }

def itSkip (all : Array Oper) (anc : Nat) (o : Oper) : It :=
  { anc, rd := o.looksAt all, dst := o.dst, tch := [], wr := [] }

def disj (l m : List Nat) : Bool := l.all fun x => !(m.contains x)

def apartI (x y : It) : Bool :=
  disj x.wr y.tch && disj y.wr x.tch && disj x.wr y.wr && (match x.dst with | some d => !(y.rd.contains d) && !(y.dst == some d) | none => true) &&
    (match y.dst with | some d => !(x.rd.contains d) | none => true)

/-- Is an operation apart from those ahead of it that it need not follow? 'rest': these, as bits. -/
def chkI : Nat → Nat → Nat → List It → It → Bool
  | 0, rest, _, _, _ => Nat.beq rest 0
  | n + 1, rest, k, acc, y => match Nat.beq rest 0 with
    | true => true
    | false => match acc[Nat.sub (Nat.sub k 1) (Nat.log2 rest)]? with
      | some x => apartI x y && chkI n (Nat.sub rest (Nat.pow 2 (Nat.log2 rest))) k acc y
      | none => false

def chkN (k : Nat) (acc : List It) (y : It) : Bool := chkI k (Nat.xor (Nat.sub (Nat.pow 2 k) 1) y.anc) k acc y

/-- Operations of which the text does not fix the order: done in the text's order, and what each looks at and writes is kept count of. -/
def opsD (T : Tab) (G : Env) (all : Array Oper) : Nat → List Oper → St → Nat → List It → (St → Option R) → Option R
  | _, [], σ, _, _, K => K σ
  | nm, o :: r, σ, k, acc, K => if dstOk o.dst σ.nt = false ∨ (depsOf o).all (fun e => Nat.blt e k) = false then none else match o.guard with
    | none => opR T G nm o σ fun σ' => if chkN k acc (itOf all (ancOf k acc o) o σ σ') = true then opsD T G all (nm + 500) r σ' (k + 1) (itOf all (ancOf k acc o) o σ σ' :: acc) K else none
    | some (j, want) => match ((all[j]?).bind (·.dst)) with
      | some t => match look σ.env t with
        | some (.v (.s (.d .bool b))) =>
          if b = want then opR T G nm o (σ.set t (.s (.d .bool want))) fun σ' =>
            if chkN k acc (itOf all (ancOf k acc o) o (σ.set t (.s (.d .bool want))) σ') = true then opsD T G all (nm + 500) r σ' (k + 1) (itOf all (ancOf k acc o) o (σ.set t (.s (.d .bool want))) σ' :: acc) K else none
          else if chkN k acc (itSkip all (ancOf k acc o) o) = true then opsD T G all (nm + 500) r ((σ.set t (.s (.d .bool (!want)))).skip o.dst) (k + 1) (itSkip all (ancOf k acc o) o :: acc) K else none
        | some (.t []) => if chkN k acc (itSkip all (ancOf k acc o) o) = true then opsD T G all (nm + 500) r (σ.skip o.dst) (k + 1) (itSkip all (ancOf k acc o) o :: acc) K else none
        | _ => none
      | none => none

end

/-- How a piece of code is left. -/
inductive Ex
  | normal
  | exit (id : Nat)
  | ret
  deriving DecidableEq

@[reducible] def denS : List (Nat × VK) → Type
  | [] => Unit
  | c :: r => c.2.den × denS r

@[reducible] def denB : List (Nat × List CK) → Type
  | [] => Unit
  | c :: r => denC c.2 × denB r

/-- What is known where pieces of code meet: slots, and boxes. -/
structure Shp where
  slots : List (Nat × VK)
  boxes : List (Nat × List CK)
  rows : List (Nat × TypeId × Ty) := []

@[reducible] def Shp.den (s : Shp) : Type := denS s.slots × denB s.boxes × denW s.rows

def mkS (nm : Nat) : (l : List (Nat × VK)) → denS l → List (Nat × Sl) × List (Nat × Ob)
  | [], _ => ([], [])
  | (i, c) :: r, x => let q := mkV nm c x.1; let q' := mkS (nm + 30) r x.2; ((i, .v q.1) :: q'.1, q.2 ++ q'.2)

/-- Boxes, and their rows. -/
def mkB (nm : Nat) : (l : List (Nat × List CK)) → denB l → List (Nat × Ob) × List (Nat × Ob)
  | [], _ => ([], [])
  | (i, cs) :: r, x => let q := mkCs nm cs x.1; let q' := mkB (nm + 30) r x.2; ((i, .box q.1) :: q'.1, q.2 ++ q'.2)

def mkW : (l : List (Nat × TypeId × Ty)) → denW l → List (Nat × Ob)
  | [], _ => []
  | (o, e, t) :: r, x => (o, .row e t x.1) :: mkW r x.2

/-- The state that data of a shape stands for. Rows are named from 500000 on (slots), from 600000 on (boxes). -/
def mk (nt : Nat) (s : Shp) (x : s.den) : St :=
  let q := mkS 500000 s.slots x.1
  let b := mkB 600000 s.boxes x.2.1
  { nt, env := q.1, H := (q.2 ++ (b.2 ++ mkW s.rows x.2.2)) ++ b.1 }

def namesOk (σ : St) : Bool := nodupB (σ.H.map (·.1))

def ptrV (bs : List Nat) : VK → Bool
  | .s c => ptrC bs c
  | .g cs => cs.all (ptrC bs)

def ptrsOk (s : Shp) : Bool :=
  let bs := s.boxes.map (·.1) ++ s.rows.map (·.1)
  s.slots.all (fun p => ptrV bs p.2) && s.boxes.all (fun p => p.2.all (ptrC bs))

def unS (H : List (Nat × Ob)) (env : List (Nat × Sl)) : (l : List (Nat × VK)) → Option (denS l × List Nat)
  | [] => some ((), [])
  | (i, c) :: r => match look env i with
    | some (.v v) => match unV H c v with
      | some (x, l) => match unS H env r with
        | some (y, m) => some ((x, y), l ++ m)
        | none => none
      | none => none
    | _ => none

def unB (H : List (Nat × Ob)) : (l : List (Nat × List CK)) → Option (denB l × List Nat)
  | [] => some ((), [])
  | (i, cs) :: r => match look H i with
    | some (.box ss) => match unCs H cs ss with
      | some (x, l) => match unB H r with
        | some (y, m) => some ((x, y), l ++ m)
        | none => none
      | none => none
    | _ => none

def freeS (H : List (Nat × Ob)) (env : List (Nat × Sl)) (l : List Nat) : List (Nat × VK) → Bool
  | [] => true
  | (i, c) :: r => (match look env i with | some (.v v) => freeV H l c v | _ => true) && freeS H env l r

def freeB (H : List (Nat × Ob)) (l : List Nat) : List (Nat × List CK) → Bool
  | [] => true
  | (i, cs) :: r => (match look H i with | some (.box ss) => freeCs H l cs ss | _ => true) && freeB H l r

def unW (H : List (Nat × Ob)) : (l : List (Nat × TypeId × Ty)) → Option (denW l)
  | [] => some ()
  | (o, e, t) :: r => match look H o with
    | some (.row e' t' xs) => if e' = e then (match cst (.slice t') (.slice t) xs with
      | some ys => match unW H r with
        | some y => some (ys, y)
        | none => none
      | none => none) else none
    | _ => none

/-- The state as data of a shape. -/
def un (s : Shp) (σ : St) : Option s.den :=
  match unS σ.H σ.env s.slots with
  | some (x, l) => match unB σ.H s.boxes with
    | some (y, m) => match unW σ.H s.rows with
      | some z =>
        let n := s.rows.map (·.1)
        if nodupB ((l ++ m) ++ n) && nodupB (s.boxes.map (·.1)) && ptrsOk s && freeS σ.H σ.env ((l ++ m) ++ n) s.slots && freeB σ.H ((l ++ m) ++ n) s.boxes && namesOk (mk 0 s (x, y, z)) &&
            σ.H.all (fun p => decide (p.1 < 9000000) || (s.boxes.map (·.1) ++ n).contains p.1) then some (x, y, z) else none
      | none => none
    | none => none
  | none => none

/-- All ways out of a piece of code. -/
@[reducible] def denO : List (Ex × Shp) → Type
  | [] => Empty
  | p :: r => p.2.den ⊕ denO r

def outK : (os : List (Ex × Shp)) → Ex → St → Option (denO os)
  | [], _, _ => none
  | (e, s) :: r, e', σ => if e = e' then (match un s σ with | some x => some (.inl x) | none => none) else (match outK r e' σ with | some y => some (.inr y) | none => none)

def goOn {R : Type} (nt : Nat) (K : Ex → St → Option R) : (os : List (Ex × Shp)) → denO os → Option R
  | [], _ => none
  | (e, s) :: r, y => match y with
    | .inl x => K e (mk nt s x)
    | .inr z => goOn nt K r z

/-- A piece of code by what it does. -/
structure Cut where
  inn : Shp
  outs : List (Ex × Shp)
  F : inn.den → Option (denO outs)

def firstRegion : Code → Nat
  | .region id _ _ => id
  | .seq a _ => firstRegion a
  | .block _ c => firstRegion c
  | .loop c => firstRegion c
  | _ => 0

section
variable {R : Type}

def useCut (K : Ex → St → Option R) (σ : St) : Option Cut → Option R
  | none => none
  | some c => (un c.inn σ).bind fun x => (c.F x).bind fun y => goOn σ.nt K c.outs y

/-- Code: what is known behind it, however it is left. -/
def run (T : Tab) (G : Env) (L : List (Nat × Cut)) : Code → St → (Ex → St → Option R) → Option R
  | .skip, σ, K => K .normal σ
  | .region id ops draw, σ, K =>
    if draw then opsD T G ops (1000000 + id * 32000) ops.toList σ 0 [] (K .normal)
    else opsR T G ops (1000000 + id * 32000) ops.toList σ (K .normal)
  | .seq a b, σ, K => run T G L a σ fun e σ' => match e with
    | .normal => run T G L b σ' K
    | .exit i => K (.exit i) σ'
    | .ret => K .ret σ'
  | .cond c a b, σ, K => match ev σ c with
    | some (.s (.d .bool y)) => if y then run T G L a σ K else run T G L b σ K
    | _ => none
  | .block id c, σ, K => match look L (100000 + id) with
    | some q => useCut K σ (some q)
    | none => run T G L c σ fun e σ' => match e with
      | .normal => K .normal σ'
      | .exit i => if i = id then K .normal σ' else K (.exit i) σ'
      | .ret => K .ret σ'
  | .loop c, σ, K => useCut K σ (look L (firstRegion c))
  | .exit id, σ, K => K (.exit id) σ
  | .ret, σ, K => K .ret σ
  | _, _, _ => none

end

/-- A function's result out of its state. -/
def resV (T : Tab) (σ : St) : ResultVar → Option SV
  | .tmp t => match look σ.env t with
    | some (.v v) => some v
    | _ => none
  | .cell a t => match look T t, look σ.env a with
    | some r, some (.v (.s (.p b off))) => match look σ.H b with
      | some (.box cs) =>
        if off + sz r.ty ≤ cs.length then
          (if isAg r.ty then some (.g ((cs.drop off).take (sz r.ty))) else match cs[off]? with | some c => some (.s c) | none => none)
        else none
      | _ => none
    | _, _ => none

def unVs (H : List (Nat × Ob)) : (rs : List VK) → List SV → Option (denV rs × List Nat)
  | [], [] => some ((), [])
  | k :: r, x :: xs => match unV H k x with
    | some q => match unVs H r xs with
      | some q' => some ((q.1, q'.1), q.2 ++ q'.2)
      | none => none
    | none => none
  | _, _ => none

def freeVs (H : List (Nat × Ob)) (l : List Nat) : List VK → List SV → Bool
  | k :: r, x :: xs => freeV H l k x && freeVs H l r xs
  | _, _ => true

/-- A function's parameters as it finds them. -/
def parXs (i : Nat) : (ps : List PK) → denP ps → denS (parSl i ps)
  | [], _ => ()
  | .val _ :: r, x => (x.1, parXs (i + 1) r x.2)
  | .ptr _ :: r, x => (x.1, parXs (i + 1) r x.2)
  | .fn _ _ :: r, x => (x.1, parXs (i + 1) r x.2)
  | .box _ _ :: r, x => ((), parXs (i + 1) r x.2)
  | .row _ _ :: r, x => ((), parXs (i + 1) r x.2)
  | .agg cs :: r, x => (refX (9000100 + 100 * i) cs x.1, parXs (i + 1) r x.2)

def parXb (i : Nat) : (ps : List PK) → denP ps → denB (parBx i ps)
  | [], _ => ()
  | .val _ :: r, x => parXb (i + 1) r x.2
  | .ptr _ :: r, x => parXb (i + 1) r x.2
  | .fn _ _ :: r, x => parXb (i + 1) r x.2
  | .box _ _ :: r, x => (x.1, parXb (i + 1) r x.2)
  | .row _ _ :: r, x => parXb (i + 1) r x.2
  | .agg _ :: r, x => parXb (i + 1) r x.2

def parXr (i : Nat) : (ps : List PK) → denP ps → denW (parRw i ps)
  | [], _ => ()
  | .val _ :: r, x => parXr (i + 1) r x.2
  | .ptr _ :: r, x => parXr (i + 1) r x.2
  | .fn _ _ :: r, x => parXr (i + 1) r x.2
  | .box _ _ :: r, x => parXr (i + 1) r x.2
  | .row _ _ :: r, x => (x.1, parXr (i + 1) r x.2)
  | .agg cs :: r, x => rowX (9000100 + 100 * i) (parXr (i + 1) r x.2) cs x.1

/-- A row that has a name, as it is behind. -/
def unR (H : List (Nat × Ob)) (o : Nat) (e : TypeId) (t : Ty) : Option (List (den t)) :=
  match look H o with
  | some (.row e' t' ys) => if e' = e then (match cst (.slice t') (.slice t) ys with
    | some zs => some zs
    | none => none) else none
  | _ => none

def unRs (H : List (Nat × Ob)) (nm : Nat) : (cs : List CK) → denC cs → Option (denCw cs × List Nat)
  | [], _ => some ((), [])
  | .own e t :: r, x => match unR H nm e t, unRs H (nm + 1) r x.2 with
    | some y, some z => some ((y, z.1), nm :: z.2)
    | _, _ => none
  | .dat _ :: r, x => unRs H (nm + 1) r x.2
  | .ptr _ _ :: r, x => unRs H (nm + 1) r x.2
  | .ref _ :: r, x => unRs H (nm + 1) r x.2
  | .pd _ :: r, x => unRs H (nm + 1) r x.2
  | .fn _ _ :: r, x => unRs H (nm + 1) r x.2
  | .mp :: r, x => unRs H (nm + 1) r x.2
  | .bx _ :: r, x => unRs H (nm + 1) r x.2
  | .any :: r, x => unRs H (nm + 1) r x.2

/-- What has become of what was handed over. -/
def unA (H : List (Nat × Ob)) (i : Nat) : (ps : List PK) → denP ps → Option (denQ ps × List Nat)
  | [], _ => some ((), [])
  | .val _ :: r, x => unA H (i + 1) r x.2
  | .ptr _ :: r, x => unA H (i + 1) r x.2
  | .fn _ _ :: r, x => unA H (i + 1) r x.2
  | .box ci co :: r, x => match look H (9000000 + i) with
    | some (.box cs) => if cs.length = ci.length ∧ co.length = ci.length then (match unCs H co cs with
      | some q => match unA H (i + 1) r x.2 with
        | some q' => some ((q.1, q'.1), q.2 ++ q'.2)
        | none => none
      | none => none) else none
    | _ => none
  | .row e t :: r, x => match unR H (9000100 + 100 * i) e t, unA H (i + 1) r x.2 with
    | some y, some q' => some ((y, q'.1), (9000100 + 100 * i) :: q'.2)
    | _, _ => none
  | .agg cs :: r, x => match unRs H (9000100 + 100 * i) cs x.1, unA H (i + 1) r x.2 with
    | some q, some q' => some ((q.1, q'.1), q.2 ++ q'.2)
    | _, _ => none

/-- Does what was handed over and is given back avoid the rows given back? -/
def freeO (H : List (Nat × Ob)) (l : List Nat) (i : Nat) : List PK → Bool
  | [] => true
  | .box _ co :: r => (match look H (9000000 + i) with | some (.box cs) => freeCs H l co cs | _ => true) && freeO H l (i + 1) r
  | _ :: r => freeO H l (i + 1) r

/-- What a function answers, out of the state at its end. -/
def endK (T : Tab) (fn : Func) (ps : List PK) (rs : List VK) (x : denP ps) (σ : St) : Option (denV rs × denQ ps) :=
  match mapO (resV T σ) fn.results.toList with
  | none => none
  | some vs => match unVs σ.H rs vs with
    | none => none
    | some y => match unA σ.H 0 ps x with
      | none => none
      | some z => if nodupB (y.2 ++ z.2) && freeVs σ.H (y.2 ++ z.2) rs vs && freeO σ.H (y.2 ++ z.2) 0 ps then (if lenQ ps x z.1 = true then some (y.1, z.1) else none) else none

def endE (T : Tab) (fn : Func) (ps : List PK) (rs : List VK) (x : denP ps) (e : Ex) (σ : St) : Option (denV rs × denQ ps) :=
  match e with
  | .exit _ => none
  | .normal => endK T fn ps rs x σ
  | .ret => endK T fn ps rs x σ

/-- A function by its code. -/
def runFn (T : Tab) (G : Env) (L : List (Nat × Cut)) (fn : Func) (ps : List PK) (rs : List VK) (x : denP ps) : Option (denV rs × denQ ps) :=
  match fn.body with
  | none => none
  | some c =>
    let σ0 := mk (Nat.max fn.ntmps ps.length) { slots := parSl 0 ps, boxes := parBx 0 ps, rows := parRw 0 ps } (parXs 0 ps x, parXb 0 ps x, parXr 0 ps x)
    if namesOk σ0 = false ∨ (ps.all noPtr && rs.all resK) = false then none else run T G L c σ0 (endE T fn ps rs x)

end Go.Proofs.Yteddlkdbefloaaa.S
