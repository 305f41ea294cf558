/-
  A small evaluator of the model's code over data without memory, and the words for it. Nothing of the program is named here.
-/
import Derived.Orders
import Derived.Below
import Derived.Laws.AppendOwn
import Derived.Laws.Entries
namespace Go.Proofs.YthhmpjnmmhfngaaDoor.Ev
open Go

/-- types of plain data; what is no struct takes one cell -/
inductive Ty where
  | int (k : IntKind)
  | str
  | bool
  | list (t : Ty)
  | pair (a b : Ty)
  | struct (t : Ty)
  | unit
  /-- the program's trees: a sign, a number, subtrees -/
  | tree
  /-- a map, read only -/
  | map (k e : Ty)
  /-- a pointer to data, read only -/
  | ref (t : Ty)

inductive GTree where
  | node (sign : List UInt8) (rule : Int) (kids : List GTree)
def GTree.sign : GTree → List UInt8
  | .node s _ _ => s
def GTree.rule : GTree → Int
  | .node _ r _ => r
def GTree.kids : GTree → List GTree
  | .node _ _ k => k

def Den : Ty → Type
  | .int _ => Int
  | .str => List UInt8
  | .bool => Bool
  | .list t => List (Den t)
  | .pair a b => Den a × Den b
  | .struct t => Den t
  | .unit => Unit
  | .tree => GTree
  | .map k e => List (Den k × Den e)
  | .ref t => Den t

/-- What one cell holds, read only. -/
inductive R where
  | v (x : Value)
  | sl (sz n : Nat) (get : Nat → Nat → R)
  | rop (m : Nat) (get : Nat → R)
  | li (t : Ty) (l : List (Den t))
  | mp (k e : Ty) (m : List (Den k × Den e))
  | rf (t : Ty) (x : Den t)

/-- What one cell or temporary holds: read only data, or a reference to an object of the call's own. -/
inductive C where
  | r (x : R)
  | own (id : Nat)
  | ptr (id off : Nat)
  | eptr (id sz i off : Nat)
  | fn (f : FuncId) (caps : List Nat)
  /-- the slice at a path of an object of nested slices -/
  | dsl (id : Nat) (p : List Nat)
  /-- a pointer into it: element k, cell off -/
  | dptr (id : Nat) (p : List Nat) (sz k off : Nat)
  | junk

inductive D where
  | one (c : C)
  | agg (cs : List C)

inductive T where
  | d (x : D)
  | tup (xs : List D)
  /-- there if slot s holds this bool; nothing else -/
  | when (s : Nat) (want : Bool) (x : D)
  /-- whether a slice of n elements is nil -/
  | nilq (n : Nat)
  | und
  | unk

/-- An object of the call's own: a variable, or a slice that the call owns. -/
inductive Obj where
  | box (t : TypeId) (cells : List C)
  | arr (t : TypeId) (sz n : Nat) (get : Nat → Nat → R)
  | lis (t : TypeId) (e : Ty) (l : List (Den e))
  | map (k e : Ty) (m : List (Den k × Den e))
  /-- a slice of slices (of slices), all of them the call's own; the types of the elements of each depth -/
  | deep (ts : List TypeId) (e : Ty) (l : List (Den e))

abbrev Heap := List (Nat × Option Obj)
abbrev Ups := List (Nat × Option Obj)

structure St where
  env : List (Nat × T)
  heap : Heap

def look {α : Type} : List (Nat × α) → Nat → Option α
  | [], _ => none
  | (k, x) :: l, t => bif Nat.beq k t then some x else look l t

/-- A choice by a test that need not be decided. -/
def branch {α : Type} (b : Bool) (x y : Option α) : Option α := bif b then x else y

structure TI where
  info : TypeInfo
  desc : TypeDesc
  ez : List R
  ty : Option Ty

/-- values without memory -/
def plain : Value → Bool
  | .string s => Nat.ble s.data.toList.length 9223372036854775807
  | .int k n => decide (k.wrap n = n)
  | .bool _ | .pointer none | .nilFunc | .nilIface | .map none | .slice none 0 0 => true
  | _ => false

abbrev mk (l : List UInt8) : ByteArray := ⟨l.toArray⟩

def width : Ty → Nat
  | .int _ | .str | .bool | .list _ => 1
  | .pair a b => width a + width b
  | .struct t => width t
  | .unit => 0
  | .tree => 3
  | .map _ _ => 1
  | .ref _ => 1

def dflt : (t : Ty) → Den t
  | .int _ => (0 : Int)
  | .str => ([] : List UInt8)
  | .bool => false
  | .list t => ([] : List (Den t))
  | .pair a b => (dflt a, dflt b)
  | .struct t => dflt t
  | .unit => ()
  | .tree => .node [] 0 []
  | .map k e => ([] : List (Den k × Den e))
  | .ref t => dflt t

def z0 : R := .v (.bool false)

/-- the cells of typed data -/
def cellsR : (t : Ty) → Den t → List R
  | .int k, n => [.v (.int k n)]
  | .str, s => [.v (.string (mk s))]
  | .bool, b => [.v (.bool b)]
  | .list t, l => [.li t l]
  | .pair a b, x => cellsR a x.1 ++ cellsR b x.2
  | .struct t, x => cellsR t x
  | .unit, _ => []
  | .tree, x => [.v (.string (mk (GTree.sign x))), .v (.int .i64 (GTree.rule x)), .li .tree (GTree.kids x)]
  | .map k e, m => [.mp k e m]
  | .ref t, x => [.rf t x]

def getL (t : Ty) (l : List (Den t)) : Nat → Nat → R := fun i j => (cellsR t (l.getD i (dflt t))).getD j z0

def tyEq : (a b : Ty) → Option (PLift (a = b))
  | .int k, .int k' => if h : k = k' then some ⟨by rw [h]⟩ else none
  | .str, .str => some ⟨rfl⟩
  | .bool, .bool => some ⟨rfl⟩
  | .list a, .list b => match tyEq a b with
    | some h => some ⟨by rw [h.down]⟩
    | none => none
  | .pair a b, .pair c d => match tyEq a c, tyEq b d with
    | some h, some g => some ⟨by rw [h.down, g.down]⟩
    | _, _ => none
  | .struct a, .struct b => match tyEq a b with
    | some h => some ⟨by rw [h.down]⟩
    | none => none
  | .unit, .unit => some ⟨rfl⟩
  | .tree, .tree => some ⟨rfl⟩
  | .map a b, .map c d => match tyEq a c, tyEq b d with
    | some h, some g => some ⟨by rw [h.down, g.down]⟩
    | _, _ => none
  | .ref a, .ref b => match tyEq a b with
    | some h => some ⟨by rw [h.down]⟩
    | none => none
  | _, _ => none

def castL (t e : Ty) (l : List (Den t)) : Option (List (Den e)) := match tyEq t e with
  | some h => some (h.down ▸ l)
  | none => none

def intR (k : IntKind) : R → Option Int
  | .v (.int k' n) => match decide (k = k') with
    | true => some n
    | false => none
  | _ => none
def strR : R → Option (List UInt8)
  | .v (.string s) => some s.data.toList
  | _ => none
def boolR : R → Option Bool
  | .v (.bool b) => some b
  | _ => none
def listR (t : Ty) : R → Option (List (Den t))
  | .li e l => castL e t l
  | .v (.slice none 0 0) => some []
  | _ => none

def castM (k e k' e' : Ty) (m : List (Den k × Den e)) : Option (List (Den k' × Den e')) := match tyEq k k', tyEq e e' with
  | some h, some g => some (h.down ▸ g.down ▸ m)
  | _, _ => none
def mapR (k e : Ty) : R → Option (List (Den k × Den e))
  | .mp k' e' m => castM k' e' k e m
  | _ => none
def treeR : List R → Option (GTree × List R)
  | a :: b :: c :: rs => match strR a, intR .i64 b, listR .tree c with
    | some s, some n, some l => some (.node s n l, rs)
    | _, _, _ => none
  | _ => none
def refC (t t' : Ty) (x : Den t) : Option (Den t') := match tyEq t t' with
  | some h => some (h.down ▸ x)
  | none => none
def refR (t : Ty) (n : Nat) (f : List R → Option (Den t × List R)) : R → Option (Den t)
  | .rf t' x => refC t' t x
  | .rop m get => match Nat.beq m n with
    | true => match f ((List.range n).map get) with
      | some (x, []) => some x
      | _ => none
    | false => none
  | _ => none

def headR {α : Type} (f : R → Option α) : List R → Option (α × List R)
  | [] => none
  | r :: rs => match f r with
    | some x => some (x, rs)
    | none => none

/-- typed data out of cells, and what is left of them -/
def parseR : (t : Ty) → List R → Option (Den t × List R)
  | .int k, rs => headR (intR k) rs
  | .str, rs => headR strR rs
  | .bool, rs => headR boolR rs
  | .list t, rs => headR (listR t) rs
  | .pair a b, rs => match parseR a rs with
    | some (x, rs) => match parseR b rs with
      | some (y, rs) => some ((x, y), rs)
      | none => none
    | none => none
  | .struct t, rs => parseR t rs
  | .unit, rs => some ((), rs)
  | .tree, rs => treeR rs
  | .map k e, rs => headR (mapR k e) rs
  | .ref t, rs => headR (refR t (width t) (parseR t)) rs

def asR (t : Ty) (rs : List R) : Option (Den t) := match parseR t rs with
  | some (x, []) => some x
  | _ => none

def cellOf (v : Value) : Option C := bif plain v then some (.r (.v v)) else none

def evConst : Value → Option T
  | .agg cs => (cs.toList.mapM cellOf).map fun l => .d (.agg l)
  | v => (cellOf v).map fun c => .d (.one c)

def evOpd (env : List (Nat × T)) : Operand → Option T
  | .tmp t => look env t
  | .const v => evConst v
  | .func f => some (.d (.one (.fn f [])))
  | .global _ => none

def D.cells : D → List C
  | .one c => [c]
  | .agg cs => cs

/-! ### references -/
def C.refs : C → List Nat
  | .own i | .ptr i _ | .eptr i _ _ _ | .dsl i _ | .dptr i _ _ _ _ => [i]
  | .fn _ l => l
  | _ => []
def D.refs (d : D) : List Nat := d.cells.flatMap C.refs
def T.refs : T → List Nat
  | .d x => x.refs
  | .tup xs => xs.flatMap D.refs
  | .when _ _ x => x.refs
  | _ => []
def Obj.refs : Obj → List Nat
  | .box _ cs => cs.flatMap C.refs
  | .arr .. => []
  | .lis .. => []
  | .map .. => []
  | .deep .. => []

def elemNat (i : Nat) : List Nat → Bool
  | [] => false
  | a :: l => bif Nat.beq a i then true else elemNat i l

def addNew : List Nat → List Nat → List Nat
  | acc, [] => acc
  | acc, i :: l => bif elemNat i acc then addNew acc l else addNew (acc ++ [i]) l

def hget (h : Nat → Option Obj) (i : Nat) : List Nat := match h i with | some o => o.refs | none => []

/-- The ids that references lead to, through the variables that they lie in. -/
def closure (h : Nat → Option Obj) : Nat → List Nat → List Nat
  | 0, l => l
  | k + 1, l => closure h k (addNew l (l.flatMap (hget h)))

def live (h : Heap) (i : Nat) : Option Obj := match look h i with | some (some o) => some o | _ => none

/-! ### read only forms -/
def toR (h : Nat → Option Obj) : C → Option R
  | .r x => some x
  | .own i => match h i with
    | some (.arr _ sz n get) => some (.sl sz n get)
    | some (.lis _ e l) => some (.li e l)
    | some (.map k e m) => some (.mp k e m)
    | _ => none
  | .dsl i [] => match h i with
    | some (.deep _ e l) => some (.li e l)
    | _ => none
  | _ => none

def allR (h : Nat → Option Obj) : List C → Option (List R)
  | [] => some []
  | c :: cs => match toR h c, allR h cs with
    | some r, some rs => some (r :: rs)
    | _, _ => none

def ownIds : List C → List Nat
  | [] => []
  | .own i :: l => i :: ownIds l
  | .dsl i _ :: l => i :: ownIds l
  | _ :: l => ownIds l

def D.toR (h : Nat → Option Obj) (d : D) : Option D :=
  match d with
  | .one (.ptr i off) => match h i with
    | some (.box _ cs) => (allR h (cs.drop off)).map fun rs => .one (.r (.rop rs.length fun j => rs.getD j z0))
    | _ => none
  | .one (.fn f []) => some (.one (.fn f []))
  | .one c => (Ev.toR h c).map fun r => .one (.r r)
  | .agg cs => (allR h cs).map fun rs => .agg (rs.map .r)

/-- no memory behind it -/
def C.flat : C → Bool
  | .r (.v _) => true
  | .fn _ [] => true
  | _ => false
def D.flat (d : D) : Bool := d.cells.all C.flat
def T.flat : T → Bool
  | .d x => x.flat
  | .tup xs => xs.all D.flat
  | .when _ _ x => x.flat
  | _ => true

/-! ### renaming -/
def C.ren (ρ : Nat → Option Nat) : C → C
  | .own i => match ρ i with | some j => .own j | none => .junk
  | .ptr i o => match ρ i with | some j => .ptr j o | none => .junk
  | .eptr i s k o => match ρ i with | some j => .eptr j s k o | none => .junk
  | .fn f l => match l.mapM ρ with | some l' => .fn f l' | none => .junk
  | .dsl i p => match ρ i with | some j => .dsl j p | none => .junk
  | .dptr i p s k o => match ρ i with | some j => .dptr j p s k o | none => .junk
  | c => c
def D.ren (ρ : Nat → Option Nat) : D → D
  | .one c => .one (c.ren ρ)
  | .agg cs => .agg (cs.map (C.ren ρ))
def T.ren (ρ : Nat → Option Nat) : T → T
  | .d x => .d (x.ren ρ)
  | .tup xs => .tup (xs.map (D.ren ρ))
  | .when s b x => .when s b (x.ren ρ)
  | x => x
def Obj.ren (ρ : Nat → Option Nat) : Obj → Obj
  | .box t cs => .box t (cs.map (C.ren ρ))
  | o => o

/-! ### contracts of functions -/
/-- What a function tells: the result, and what has become of the objects: those that were handed in have the ids 0, 1, ..; new ones 1000, 1001, .. -/
abbrev Fin := T × Heap
/-- a condition, if there is one, ahead of what is told -/
abbrev Fun := List D → List Obj → Option (Option Bool × T × Heap)

structure Con where
  ro : Bool
  f : Fun

def sid (t k : Nat) : Nat := 1000 + 64 * t + k

/-- from the callee's ids to the caller's -/
def backTo (ids : List Nat) (t : Nat) (i : Nat) : Option Nat := bif Nat.blt i 1000 then ids[i]? else bif Nat.blt i 1064 then some (sid t (i - 1000)) else none

def idxOf (ids : List Nat) (i : Nat) : Option Nat :=
  match ids with
  | [] => none
  | a :: l => bif Nat.beq a i then some 0 else (idxOf l i).map (· + 1)

def allSome {α : Type} : List (Option α) → Option (List α)
  | [] => some []
  | none :: _ => none
  | some a :: l => (allSome l).map (a :: ·)

def renUps (ρ : Nat → Option Nat) : Heap → Option Ups
  | [] => some []
  | (i, o) :: l => match ρ i, renUps ρ l with
    | some j, some r => some ((j, o.map (Obj.ren ρ)) :: r)
    | _, _ => none

def nodupN : List Nat → Bool
  | [] => true
  | i :: l => !elemNat i l && nodupN l

/-- typed data without memory behind it -/
def tyFlat : Ty → Bool
  | .list _ => false
  | .pair a b => tyFlat a && tyFlat b
  | .struct t => tyFlat t
  | .tree => false
  | .map _ _ => false
  | .ref _ => false
  | _ => true
/-- slices of slices of plain data -/
def tyNest : Ty → Bool
  | .list t => tyNest t
  | t => tyFlat t
def C.fresh : C → Bool
  | .r (.v _) => true
  | .own _ => true
  | .dsl _ [] => true
  | _ => false
def T.fresh : T → Bool
  | .d x => x.cells.all C.fresh
  | .tup xs => xs.all fun x => x.cells.all C.fresh
  | _ => false
def objFresh : Nat × Option Obj → Bool
  | (_, some (.lis _ e _)) => tyFlat e
  | (_, some (.deep _ e _)) => tyNest e
  | (_, some (.map k e _)) => tyFlat k && tyFlat e
  | _ => false

def evCall (con : Con) (t : Nat) (ds : List D) (h : Nat → Option Obj) : Option (Option Bool × T × Ups) :=
  match con.ro with
  | true =>
    match allSome (ds.map (D.toR h)) with
    | none => none
    | some ds' =>
      match con.f ds' [] with
      | none => none
      | some (c, r, []) =>
        match r.flat with
        | true => some (c, r, [])
        | false => some (c, r.ren (backTo [] t), (closure h 3 (addNew [] (ds.flatMap D.refs))).map fun i => (i, none))
      | some (c, r, objs) =>
        match renUps (backTo [] t) objs with
        | none => none
        | some ups => match r.fresh && objs.all objFresh with
          | true => some (c, r.ren (backTo [] t), ups)
          | false => some (c, r.ren (backTo [] t), ups ++ (closure h 3 (addNew [] (ds.flatMap D.refs))).map fun i => (i, none))
  | false =>
    let ids := closure h 3 (addNew [] (ds.flatMap D.refs))
    match allSome (ids.map h), nodupN ids && Nat.ble ids.length 1000 with
    | some os, true =>
      match con.f (ds.map (D.ren (idxOf ids))) (os.map (Obj.ren (idxOf ids))) with
      | none => none
      | some (c, r, objs) =>
        match renUps (backTo ids t) objs with
        | none => none
        | some ups => some (c, r.ren (backTo ids t), ups)
    | _, _ => none

/-! ### operations on plain values -/
def seq (x y : ByteArray) : Bool := decide (x.data.toList = y.data.toList)

def evBin : BinOp → Value → Value → Option (Option Bool × Value)
  | op, .int k x, .int k' y =>
    match decide (k = k') with
    | false => none
    | true =>
      match op with
      | .add => some (none, .int k (k.wrap (x + y)))
      | .sub => some (none, .int k (k.wrap (x - y)))
      | .mul => some (none, .int k (k.wrap (x * y)))
      | .quo => some (some (!decide (y = 0)), .int k (k.wrap (x.tdiv y)))
      | .rem => some (some (!decide (y = 0)), .int k (x.tmod y))
      | .xor => some (none, .int k (k.wrap ((BitVec.ofInt k.bits x) ^^^ (BitVec.ofInt k.bits y)).toNat))
      | .and => some (none, .int k (k.wrap ((BitVec.ofInt k.bits x) &&& (BitVec.ofInt k.bits y)).toNat))
      | .or => some (none, .int k (k.wrap ((BitVec.ofInt k.bits x) ||| (BitVec.ofInt k.bits y)).toNat))
      | .eql => some (none, .bool (decide (x = y)))
      | .neq => some (none, .bool (!decide (x = y)))
      | .lss => some (none, .bool (decide (x < y)))
      | .leq => some (none, .bool (decide (x ≤ y)))
      | .gtr => some (none, .bool (decide (y < x)))
      | .geq => some (none, .bool (decide (y ≤ x)))
      | _ => none
  | op, .string x, .string y =>
    match op with
    | .add => some (some (decide (x.data.toList.length + y.data.toList.length ≤ 9223372036854775807)), .string (mk (x.data.toList ++ y.data.toList)))
    | .eql => some (none, .bool (seq x y))
    | .neq => some (none, .bool (!seq x y))
    | .lss => some (none, .bool (Op.bytesLess x.data.toList y.data.toList))
    | .leq => some (none, .bool (Op.bytesLess x.data.toList y.data.toList || seq x y))
    | .gtr => some (none, .bool (!(Op.bytesLess x.data.toList y.data.toList || seq x y)))
    | .geq => some (none, .bool (!Op.bytesLess x.data.toList y.data.toList))
    | _ => none
  | _, _, _ => none

def evUn : UnOp → Value → Option Value
  | .neg, .int k n => some (.int k (k.wrap (0 - n)))
  | .not, .bool b => some (.bool !b)
  | _, _ => none

/-- equality of two cells of one plain kind -/
def eqCell : TypeDesc → C → C → Option Bool
  | .int _, .r (.v (.int k x)), .r (.v (.int k' y)) => match decide (k = k') with | true => some (decide (x = y)) | false => none
  | .string, .r (.v (.string x)), .r (.v (.string y)) => some (seq x y)
  | .bool, .r (.v (.bool x)), .r (.v (.bool y)) => some (x == y)
  | _, _, _ => none

def eqCells : List TypeDesc → List C → List C → Option Bool
  | [], [], [] => some true
  | t :: ts, x :: xs, y :: ys => match eqCell t x y, eqCells ts xs ys with
    | some b, some r => some (b && r)
    | _, _ => none
  | _, _, _ => none

def descs (TT : TypeId → Option TI) : List Field → Nat → Option (List TypeDesc)
  | [], _ => some []
  | f :: fs, k => match TT f.type, descs TT fs (k + 1), Nat.beq f.offset k with
    | some ti, some r, true => match Nat.beq ti.info.size 1 with
      | true => some (ti.desc :: r)
      | false => none
    | _, _, _ => none

def inb (i : Int) (n : Nat) : Bool := decide (0 ≤ i ∧ i < (n : Int))
def inr (l h : Int) (n : Nat) : Bool := decide (0 ≤ l ∧ l ≤ h ∧ h ≤ (n : Int))
def byteAt (s : List UInt8) (i : Int) : Int := ((s.getD i.toNat 0).toNat : Int)
def room : Nat := 140737488355328
def fits (n bytes : Nat) : Bool := decide (n * bytes ≤ 140737488355328)
def arrApp (n : Nat) (get : Nat → Nat → R) (get' : Nat → Nat → R) : Nat → Nat → R := fun i => if i < n then get i else get' (i - n)
def arrSet (get : Nat → Nat → R) (k : Nat) (off : Nat) (r : R) : Nat → Nat → R := fun i j => if i = k ∧ j = off then r else get i j
def arrSetAll (get : Nat → Nat → R) (k : Nat) (off : Nat) (rs : List R) : Nat → Nat → R := fun i j => if i = k ∧ off ≤ j ∧ j < off + rs.length then rs.getD (j - off) z0 else get i j
def ezAt (ez : List R) : Nat → R := fun j => ez.getD j z0
def arrSub (get : Nat → Nat → R) (lo n : Nat) (ez : List R) : Nat → Nat → R := fun i => if i < n then get (lo + i) else ezAt ez

def allInts : IntKind → List (List R) → Option (List Int)
  | _, [] => some []
  | k, [.v (.int k' n)] :: l => match decide (k = k') with | true => (allInts k l).map (n :: ·) | false => none
  | _, _ => none
def allStrs : List (List R) → Option (List ByteArray)
  | [] => some []
  | [.v (.string s)] :: l => (allStrs l).map (s :: ·)
  | _ => none

/-- what a slice of written out elements reads as -/
def rowsGet (desc : TypeDesc) (ez : List R) (rows : List (List R)) : Nat → Nat → R :=
  match desc with
  | .int k => match allInts k rows with
    | some l => fun i _ => .v (.int k (l.getD i 0))
    | none => fun i j => (rows.getD i ez).getD j z0
  | .string => match allStrs rows with
    | some l => fun i _ => .v (.string (l.getD i (mk [])))
    | none => fun i j => (rows.getD i ez).getD j z0
  | _ => fun i j => (rows.getD i ez).getD j z0

/-- a slice's contents, elements of so many cells: ids that are used up, element count, reading -/
def sliceIn (h : Nat → Option Obj) (sz : Nat) (ez : List R) : C → Option (List Nat × Nat × (Nat → Nat → R))
  | .r (.sl s n get) => match Nat.beq s sz with
    | true => some ([], n, get)
    | false => none
  | .r (.v (.slice none 0 0)) => some ([], 0, fun _ => ezAt ez)
  | .own i => match h i with
    | some (.arr _ s n get) => match Nat.beq s sz with
      | true => some ([i], n, get)
      | false => none
    | _ => none
  | _ => none

def sliceLen (h : Nat → Option Obj) : C → Option Nat
  | .r (.sl _ n _) => some n
  | .r (.v (.slice none 0 0)) => some 0
  | .own i => match h i with
    | some (.arr _ _ n _) => some n
    | _ => none
  | _ => none

def byteOf : R → UInt8
  | .v (.int .u8 n) => UInt8.ofNat n.toNat
  | _ => 0
def isByte : R → Bool
  | .v (.int .u8 _) => true
  | _ => false
def bytesOf (n : Nat) (get : Nat → Nat → R) : List UInt8 := (List.range n).map fun i => byteOf (get i 0)
def areBytes (n : Nat) (get : Nat → Nat → R) : Bool := (List.range n).all fun i => isByte (get i 0)
def strGet (l : List UInt8) : Nat → Nat → R := fun i _ => .v (.int .u8 ((l.getD i 0).toNat : Int))

def dropIds (l : List Nat) : Ups := l.map fun i => (i, none)

def setCells : List C → Nat → List C → List C
  | cs, _, [] => cs
  | cs, off, x :: xs => setCells (cs.set off x) (off + 1) xs

def zeroCells (ti : TI) : Option (List C) :=
  match ti.info.zero with
  | some z => allSome (z.cells.toList.map cellOf)
  | none => none

def D.mkOf (ti : TI) (cs : List C) : Option D :=
  match ti.desc with
  | .struct _ => some (.agg cs)
  | .array _ _ => some (.agg cs)
  | _ => match cs with
    | [c] => some (.one c)
    | _ => none

/-- the cells that a pointer leads to, from it on -/
def cellsAt (h : Nat → Option Obj) (n : Nat) : C → Option (List C)
  | .ptr i off => match h i with
    | some (.box _ cs) => match Nat.ble (off + n) cs.length with
      | true => some ((cs.drop off).take n)
      | false => none
    | _ => none
  | .eptr i s k off => match h i with
    | some (.arr _ sz _ get) => match Nat.ble (off + n) sz && Nat.beq s sz with
      | true => some ((List.range n).map fun j => .r (get k (off + j)))
      | false => none
    | _ => none
  | .r (.rop m get) => match Nat.ble n m with
    | true => some ((List.range n).map fun j => .r (get j))
    | false => none
  | _ => none

def fieldsOf (ti : TI) : Option (Array Field) := match ti.desc with | .struct fs => some fs | _ => none

def buildCells (TT : TypeId → Option TI) (fs : Array Field) : List C → List (Nat × Operand) → List T → Option (List C)
  | cs, [], [] => some cs
  | cs, (i, _) :: ps, .d x :: xs =>
    match fs[i]? with
    | some f => match TT f.type with
      | some ti => match Nat.beq x.cells.length ti.info.size, Nat.ble (f.offset + x.cells.length) cs.length with
        | true, true => buildCells TT fs (setCells cs f.offset x.cells) ps xs
        | _, _ => none
      | none => none
    | none => none
  | _, _, _ => none

def sliceRows (h : Nat → Option Obj) (sz : Nat) : List (List R) → List (Nat × Operand) → List T → Option (List (List R))
  | rows, [], [] => some rows
  | rows, (i, _) :: ps, .d x :: xs =>
    match allR h x.cells with
    | some rs => match Nat.beq rs.length sz, Nat.blt i rows.length with
      | true, true => sliceRows h sz (rows.set i rs) ps xs
      | _, _ => none
    | none => none
  | _, _, _ => none

def repl {α : Type} (x : α) : Nat → List α
  | 0 => []
  | n + 1 => x :: repl x n

def intD : T → Option Int
  | .d (.one (.r (.v (.int _ n)))) => some n
  | _ => none

def foldMin : Value → List T → Option Value
  | v, [] => some v
  | .int k x, .d (.one (.r (.v (.int k' y)))) :: l => match decide (k = k') with
    | true => foldMin (.int k (if y < x then y else x)) l
    | false => none
  | _, _ => none
def foldMax : Value → List T → Option Value
  | v, [] => some v
  | .int k x, .d (.one (.r (.v (.int k' y)))) :: l => match decide (k = k') with
    | true => foldMax (.int k (if y > x then y else x)) l
    | false => none
  | _, _ => none

def dsOf : List T → Option (List D)
  | [] => some []
  | .d x :: l => (dsOf l).map (x :: ·)
  | _ => none

/-! ### one operation -/
abbrev Types := TypeId → Option TI
abbrev Env := FuncId → Option Con

/-- 'ei': the element type; 'ez': what is read behind the end -/
def evAppend (ei : TI) (et : TypeId) (ez : List R) (t : Nat) (h : Nat → Option Obj) (x y : C) : Option (Option Bool × T × Ups) :=
  match zeroCells ei, sliceIn h ei.info.size ez y with
  | some zs, some (_, m, get') =>
    match Nat.beq zs.length ei.info.size && Nat.blt 0 ei.info.size && Nat.blt 0 ei.info.bytes with
    | true =>
      match x with
      | .r (.v (.slice none 0 0)) => some (some (fits m ei.info.bytes), .d (.one (.own (sid t 0))), [(sid t 0, some (.arr et ei.info.size m get'))])
      | .own i => match h i with
        | some (.arr at_ sz n get) => match Nat.beq at_ et && Nat.beq sz ei.info.size with
          | true => some (some (fits (n + m) ei.info.bytes), .d (.one (.own (sid t 0))), [(i, none), (sid t 0, some (.arr et ei.info.size (n + m) (arrApp n get get')))])
          | false => none
        | _ => none
      | _ => none
    | false => none
  | _, _ => none

def isStr : TypeDesc → Bool
  | .string => true
  | _ => false

def tri {α : Type} (lo hi mx : Option Int) (a : α) (b : Option Int → Option Int → α) : Option α := match mx with
  | none => some (b lo hi)
  | some m => match lo, hi, m with
    | none, some 0, 0 => some a
    | _, _, _ => none

theorem tri_some {α : Type} {lo hi mx : Option Int} {a r : α} {b : Option Int → Option Int → α} (h : tri lo hi mx a b = some r) : (lo = none ∧ hi = some 0 ∧ mx = some 0 ∧ r = a) ∨ (mx = none ∧ r = b lo hi) := by
  unfold tri at h
  split at h
  · cases h; exact .inr ⟨rfl, rfl⟩
  · split at h
    · cases h; exact .inl ⟨rfl, rfl, rfl, rfl⟩
    · cases h

/-- is it the call's own slice of that type, cut at its far end alone? -/
def ownAt (h : Nat → Option Obj) (e : TypeId) (lo : Option Int) (c : C) : Option Nat := match lo, c with
  | none, .own i => match h i with
    | some (.arr at_ _ _ _) => match Nat.beq at_ e with
      | true => some i
      | false => none
    | _ => none
  | _, _ => none

def evSlice (TT : Types) (x : D) (xt : TypeId) (lo hi mx : Option Int) (h : Nat → Option Obj) (t : Nat) : Option (Option Bool × T × Ups) :=
  match x with
  | .one (.r (.v (.string s))) => match mx with
    | some _ => none
    | none => match TT xt with
     | none => none
     | some ti => match isStr ti.desc with
     | false => none
     | true =>
      let l := lo.getD 0
      let r := hi.getD (s.data.toList.length : Int)
      some (some (inr l r s.data.toList.length), .d (.one (.r (.v (.string (mk ((s.data.toList.drop l.toNat).take (r.toNat - l.toNat))))))), [])
  | .one c => match (TT xt).bind fun ti => match ti.desc with | .slice e => (TT e).map fun ei => (e, ei, ti.ez) | _ => none with
    | none => none
    | some (e, ei, ez) => match sliceIn h ei.info.size ez c with
      | none => none
      | some (ids, n, get) => tri lo hi mx (none, .d (.one (.own (sid t 0))), [(sid t 0, some (.arr e ei.info.size 0 fun _ => ezAt ez))])
          fun lo hi => match ownAt h e lo c with
            | some i => (some (inr 0 (hi.getD (n : Int)) n), .d (.one (.own (sid t 0))), [(i, none), (sid t 0, some (.arr e ei.info.size (hi.getD (n : Int)).toNat (arrSub get 0 (hi.getD (n : Int)).toNat ez)))])
            | none => (some (inr (lo.getD 0) (hi.getD (n : Int)) n), .d (.one (.r (.sl ei.info.size ((hi.getD (n : Int)).toNat - (lo.getD 0).toNat) (arrSub get (lo.getD 0).toNat ((hi.getD (n : Int)).toNat - (lo.getD 0).toNat) ez)))), dropIds ids)
  | _ => none

def evStore (h : Nat → Option Obj) (a : C) (x : D) (n : Nat) : Option (Ups) :=
  match Nat.beq x.cells.length n with
  | false => none
  | true => match a with
    | .ptr i off => match h i with
      | some (.box t cs) => match Nat.ble (off + n) cs.length with
        | true => some [(i, some (.box t (setCells cs off x.cells)))]
        | false => none
      | _ => none
    | .eptr i s k off => match h i with
      | some (.arr t sz m get) => match allR h x.cells, Nat.ble (off + n) sz && Nat.beq s sz, elemNat i (ownIds x.cells) with
        | some rs, true, false => some ((i, some (.arr t sz m (match rs with | [r] => arrSet get k off r | rs => arrSetAll get k off rs))) :: dropIds (ownIds x.cells))
        | _, _, _ => none
      | _ => none
    | _ => none

/-- conversion: 'byt': the source is a slice of bytes -/
def evConv (byt : Bool) (d : TypeDesc) (ez : List R) (h : Nat → Option Obj) : C → Option (Option Bool × C)
  | .r (.v (.int _ n)) => match d with
    | .int k' => some (none, .r (.v (.int k' (k'.wrap n))))
    | .string => some (none, .r (.v (.string (Utf8.encode n))))
    | _ => none
  | .r (.v (.string x)) => match d with
    | .string => some (none, .r (.v (.string x)))
    | _ => none
  | c => match byt, d with
    | true, .string => match sliceIn h 1 ez c with
      | some (_, n, get) => some (some (areBytes n get), .r (.v (.string (mk (bytesOf n get)))))
      | none => none
    | _, _ => none

def isBytes (TT : Types) : TypeDesc → Bool
  | .slice e => match TT e with
    | some ei => match ei.desc with
      | .int .u8 => Nat.beq ei.info.size 1
      | _ => false
    | none => false
  | _ => false

def evLen (h : Nat → Option Obj) : TypeDesc → T → Option Int
  | .string, .d (.one (.r (.v (.string s)))) => some (s.data.toList.length : Int)
  | .slice _, .d (.one c) => match sliceLen h c with
    | some n => some (n : Int)
    | none => none
  | _, _ => none

def evBuiltin (TT : Types) (b : Builtin) (ats : Array TypeId) (t : Nat) (xs : List T) (h : Nat → Option Obj) : Option (Option Bool × T × Ups) :=
  match b, xs with
  | .len, [x] => match (ats[0]?).bind TT with
    | some ti => (evLen h ti.desc x).map fun n => (none, .d (.one (.r (.v (.int .i64 n)))), [])
    | none => none
  | .append, [.d (.one x), .d (.one y)] =>
    match (match ats.toList with | [t1, t2] => (bif Nat.beq t1 t2 then some t1 else none) | _ => none) with
    | none => none
    | some st => match TT st with
      | none => none
      | some ti => match ti.desc with
        | .slice e => match TT e with
          | some ei => evAppend ei e ti.ez t h x y
          | none => none
        | _ => none
  | .min, .d (.one (.r (.v (.int k x)))) :: l => (foldMin (.int k x) l).map fun v => (none, .d (.one (.r (.v v))), [])
  | .max, .d (.one (.r (.v (.int k x)))) :: l => (foldMax (.int k x) l).map fun v => (none, .d (.one (.r (.v v))), [])
  | _, _ => none

def pickOpt (flag : Option Operand) (xs : List T) : Option (Option Int × List T) :=
  match flag, xs with
  | none, xs => some (none, xs)
  | some _, x :: xs => (intD x).map fun n => (some n, xs)
  | some _, [] => none

/-- a pointer or function value that is known not to be nil -/
def isThere (h : Nat → Option Obj) : C → Bool
  | .ptr i _ => match h i with | some (.box _ _) => true | _ => false
  | .eptr i _ _ _ => match h i with | some _ => true | none => false
  | .r (.rop _ _) => true
  | .r (.rf _ _) => true
  | .fn _ [] => true
  | _ => false

def areBoxes (h : Nat → Option Obj) : List Nat → Bool
  | [] => true
  | i :: l => match h i with
    | some (.box _ _) => areBoxes h l
    | _ => false

def isBool : TypeDesc → Bool
  | .bool => true
  | _ => false

/-- a bool that is there, or is there where slot c holds 'want' -/
def pickBool (c : Operand) (want : Bool) (_ : Operand) : T → Option Bool
  | .d (.one (.r (.v (.bool b)))) => some b
  | .when s w (.one (.r (.v (.bool b)))) => match c with
    | .tmp t => match Nat.beq s t && (w == want) with
      | true => some b
      | false => none
    | _ => none
  | _ => none

/-- an element of an array that a pointer leads to -/
def evArr (TT : Types) (ty : TypeId) (c : C) (i : Int) (h : Nat → Option Obj) : Option (Option Bool × T × Ups) :=
  match (TT ty).bind fun ti => match ti.desc with | .array n e => (TT e).map fun ei => (n, ei.info.size) | _ => none with
  | some (n, es) => match c with
    | .r (.rop m get) => match Nat.ble (n * es) m with
      | true => some (some (inb i n), .d (.one (.r (.rop es fun j => get (i.toNat * es + j)))), [])
      | false => none
    | .ptr id off => match h id with
      | some (.box _ cs) => match Nat.ble (off + n * es) cs.length with
        | true => some (some (inb i n), .d (.one (.ptr id (off + i.toNat * es))), [])
        | false => none
      | _ => none
    | _ => none
  | none => none

def evOp (TT : Types) (Γ : Env) (o : Oper) (xs : List T) (h : Nat → Option Obj) : Option (Option Bool × T × Ups) :=
  let t := o.dst.getD 0
  match o.op, xs with
  | .move _, [.d x] => some (none, .d x, [])
  | .move _, [.tup x] => some (none, .tup x, [])
  | .assign _, [.d x] => some (none, .d x, [])
  | .assign _, [.tup x] => some (none, .tup x, [])
  | .pick c a b, [.d (.one (.r (.v (.bool t)))), x, y] => match pickBool c true a x, pickBool c false b y with
    | some x, some y => some (none, .d (.one (.r (.v (.bool (bif t then x else y))))), [])
    | _, _ => none
  | .box e _, [.d x] => match TT e with
    | some ti => match Nat.beq x.cells.length ti.info.size with
      | true => some (none, .d (.one (.ptr (sid t 0) 0)), [(sid t 0, some (.box e x.cells))])
      | false => none
    | none => none
  | .alloc e, [] => match TT e with
    | some ti => match zeroCells ti with
      | some cs => some (none, .d (.one (.ptr (sid t 0) 0)), [(sid t 0, some (.box e cs))])
      | none => none
    | none => none
  | .build ty ps, xs => match TT ty with
    | some ti => match fieldsOf ti, zeroCells ti with
      | some fs, some z => match fs.toList.all (fun f => (TT f.type).isSome), buildCells TT fs z ps.toList xs with
        | true, some cs => some (none, .d (.agg cs), [])
        | _, _ => none
      | _, _ => none
    | none => none
  | .buildSlice ty n ps, xs => match TT ty with
    | some ti => match ti.desc with
      | .slice e => match TT e with
        | some ei => match zeroCells ei with
          | some z => match allR (fun _ => none) z with
            | some zr => match Nat.ble (n * ei.info.size) 16777216 && Nat.beq zr.length ei.info.size && Nat.blt 0 ei.info.size, sliceRows h ei.info.size (repl zr n) ps.toList xs with
              | true, some rows => some (none, .d (.one (.own (sid t 0))), (sid t 0, some (.arr e ei.info.size n (rowsGet ei.desc ti.ez rows))) :: dropIds (xs.flatMap T.refs))
              | _, _ => none
            | none => none
          | none => none
        | none => none
      | _ => none
    | none => none
  | .load ty _, [.d (.one a)] => match TT ty with
    | some ti => match cellsAt h ti.info.size a with
      | some cs => (D.mkOf ti cs).map fun d => (none, .d d, [])
      | none => none
    | none => none
  | .store ty _ _, [.d (.one a), .d x] => match TT ty with
    | some ti => (evStore h a x ti.info.size).map fun u => (none, .und, u)
    | none => none
  | .nilCheck _, [.d (.one c)] => match isThere h c with
    | true => some (none, .d (.one c), [])
    | false => none
  | .binOp op ty _ _ _, [.d (.one (.r (.v (.bool x)))), .d (.one (.r (.v (.bool y))))] => match (match TT ty with | some ti => isBool ti.desc | none => false) with
    | true => match op with
      | .eql => some (none, .d (.one (.r (.v (.bool (x == y))))), [])
      | .neq => some (none, .d (.one (.r (.v (.bool (!(x == y)))))), [])
      | _ => none
    | false => none
  | .binOp op _ _ _ _, [.d (.one (.r (.v x))), .d (.one (.r (.v y)))] => (evBin op x y).map fun (c, v) => (c, .d (.one (.r (.v v))), [])
  | .binOp op ty _ _ _, [.d (.agg x), .d (.agg y)] => match TT ty with
    | some ti => match fieldsOf ti with
      | some fs => match descs TT fs.toList 0, fs.toList.all (fun f => f.name != "_") with
        | some ts, true => match eqCells ts x y with
          | some b => match op with
            | .eql => some (none, .d (.one (.r (.v (.bool b)))), [])
            | .neq => some (none, .d (.one (.r (.v (.bool !b)))), [])
            | _ => none
          | none => none
        | _, _ => none
      | none => none
    | none => none
  | .unOp op _ _, [.d (.one (.r (.v x)))] => (evUn op x).map fun v => (none, .d (.one (.r (.v v))), [])
  | .convert s d _, [.d (.one c)] => match TT s, TT d with
    | some si, some di => (evConv (isBytes TT si.desc) di.desc si.ez h c).map fun (b, c) => (b, .d (.one c), [])
    | _, _ => none
  | .makeFunc (.func f) _ cap, xs => match dsOf xs with
    | some ds => match allSome (ds.map fun | .one (.ptr i 0) => some i | _ => none), Nat.beq cap.size xs.length with
      | some ids, true => some (none, .d (.one (.fn f ids)), [])
      | _, _ => none
    | none => none
  | .makeSlice ty _ _, [n, c] => match TT ty, intD n, intD c with
    | some ti, some n, some c => match ti.desc with
      | .slice e => match TT e with
        | some ei => match zeroCells ei with
          | some z => match allR (fun _ => none) z with
            | some zr => match Nat.beq zr.length ei.info.size && Nat.blt 0 ei.info.size with
              | true => some (some (decide (0 ≤ n ∧ n ≤ c ∧ c * ei.info.bytes ≤ 140737488355328 ∧ c ≤ 9223372036854775807)), .d (.one (.own (sid t 0))), [(sid t 0, some (.arr e ei.info.size n.toNat fun i => if i < n.toNat then ezAt zr else ezAt ti.ez))])
              | false => none
            | none => none
          | none => none
        | none => none
      | _ => none
    | _, _, _ => none
  | .slice ty _ lo hi mx, .d x :: xs => match pickOpt lo xs with
    | some (lo, xs) => match pickOpt hi xs with
      | some (hi, xs) => match pickOpt mx xs with
        | some (mx, []) => evSlice TT x ty lo hi mx h t
        | _ => none
      | none => none
    | none => none
  | .fieldAddr s _ k, [.d (.one a)] => match TT s with
    | some ti => match (fieldsOf ti).bind (·[k]?) with
      | some f => match (match TT f.type with | some fi => Nat.blt 0 fi.info.size | none => false) && isThere h a, a with
        | true, .ptr i off => some (none, .d (.one (.ptr i (off + f.offset))), [])
        | true, .eptr i sz n off => some (none, .d (.one (.eptr i sz n (off + f.offset))), [])
        | true, .r (.rop m get) => match Nat.ble f.offset m with
          | true => some (none, .d (.one (.r (.rop (m - f.offset) fun j => get (f.offset + j)))), [])
          | false => none
        | _, _ => none
      | none => none
    | none => none
  | .field s _ k, [.d (.agg cs)] => match TT s with
    | some ti => match (fieldsOf ti).bind (·[k]?) with
      | some f => match TT f.type with
        | some fi => match Nat.ble (f.offset + fi.info.size) cs.length with
          | true => (D.mkOf fi ((cs.drop f.offset).take fi.info.size)).map fun d => (none, .d d, [])
          | false => none
        | none => none
      | none => none
    | none => none
  | .indexAddr ty _ _, [.d (.one c), i] => match (TT ty).bind fun ti => match ti.desc with | .slice e => (TT e).map (·.info.size) | _ => none, intD i with
    | some es, some i => match c with
      | .r (.sl sz n get) => match Nat.beq es sz with
        | true => some (some (inb i n), .d (.one (.r (.rop sz (get i.toNat)))), [])
        | false => none
      | .own id => match h id with
        | some (.arr _ sz n _) => match Nat.beq es sz with
          | true => some (some (inb i n), .d (.one (.eptr id sz i.toNat 0)), [])
          | false => none
        | _ => none
      | _ => none
    | none, some i => evArr TT ty c i h
    | _, _ => none
  | .index ty _ _, [.d (.one (.r (.v (.string s)))), i] => match (match TT ty with | some ti => isStr ti.desc | none => false), intD i with
    | true, some i => some (some (inb i s.data.toList.length), .d (.one (.r (.v (.int .u8 (byteAt s.data.toList i))))), [])
    | _, _ => none
  | .extract _ k, [.tup xs] => match xs[k]? with
    | some x => some (none, .d x, [])
    | none => none
  | .call c, xs => match c.callee, xs with
    | .builtin b, xs => evBuiltin TT b c.argTypes t xs h
    | .value _, .d (.one (.fn f caps)) :: xs => match Γ f, dsOf xs, areBoxes h caps with
      | some con, some ds, true => evCall con t (ds ++ caps.map fun i => .one (.ptr i 0)) h
      | _, _, _ => none
    | _, _ => none
  | _, _ => none

/-! ### typed data -/
def Obj.er : Obj → Obj
  | .lis t e l => .arr t (width e) l.length (getL e l)
  | o => o
def T.er : T → T
  | .d (.one (.r (.rf t x))) => .d (.one (.r (.rop (width t) fun j => (cellsR t x).getD j z0)))
  | .d (.one (.r (.li e l))) => .d (.one (.r (.sl (width e) l.length (getL e l))))
  | x => x

structure Pay where
  t : Ty
  l : List (Den t)

def payOf (h : Nat → Option Obj) (e : Ty) : C → Option (List (Den e))
  | .r (.li t l) => castL t e l
  | .r (.v (.slice none 0 0)) => some []
  | .own i => match h i with
    | some (.lis _ t l) => castL t e l
    | _ => none
  | _ => none

def allDen (t : Ty) : List (List R) → Option (List (Den t))
  | [] => some []
  | rs :: l => match asR t rs, allDen t l with
    | some x, some xs => some (x :: xs)
    | _, _ => none

def isStruct : Ty → Bool
  | .struct _ | .pair _ _ | .unit | .tree => true
  | _ => false

/-- typed data as an argument or a result -/
def ofD : (t : Ty) → Den t → D
  | .int k, n => .one (.r (.v (.int k n)))
  | .str, s => .one (.r (.v (.string (mk s))))
  | .bool, b => .one (.r (.v (.bool b)))
  | .list t, l => .one (.r (.li t l))
  | .struct t, x => .agg ((cellsR t x).map .r)
  | .pair a b, x => .agg ((cellsR (.pair a b) x).map .r)
  | .unit, _ => .agg []
  | .tree, x => .agg ((cellsR .tree x).map .r)
  | .map k e, m => .one (.r (.mp k e m))
  | .ref t, x => .one (.r (.rf t x))

def rOfC : C → Option R
  | .r x => some x
  | _ => none

def asD (t : Ty) (d : D) : Option (Den t) := match isStruct t, d with
  | true, .agg cs => match allSome (cs.map rOfC) with
    | some rs => asR t rs
    | none => none
  | false, .one (.r r) => asR t [r]
  | _, _ => none

/-! ### maps -/
def eqI (a b : Int) : Bool := decide (a = b)
def eqS (a b : List UInt8) : Bool := decide (a = b)
def eqB (a b : Bool) : Bool := a == b
def eqDen : (t : Ty) → Den t → Den t → Bool
  | .int _, a, b => eqI a b
  | .str, a, b => eqS a b
  | .bool, a, b => eqB a b
  | .pair s t, a, b => eqDen s a.1 b.1 && eqDen t a.2 b.2
  | .struct t, a, b => eqDen t a b
  | .unit, _, _ => true
  | _, _, _ => false

def mget (k e : Ty) (x : Den k) : List (Den k × Den e) → Option (Den e)
  | [] => none
  | (a, v) :: m => bif eqDen k x a then some v else mget k e x m

def mset (k e : Ty) (x : Den k) (v : Den e) : List (Den k × Den e) → List (Den k × Den e)
  | [] => [(x, v)]
  | (a, u) :: m => bif eqDen k x a then (x, v) :: m else (a, u) :: mset k e x v m

/-- fields of a struct as the parts of a type -/
def keyFs (TT : TypeId → Option TI) (kb : TypeId → Ty → Bool) : List Field → Nat → Ty → Bool
  | [], _, .unit => true
  | [f], off, t => keyF TT kb f off t
  | f :: fs, off, .pair a b => keyF TT kb f off a && keyFs TT kb fs (off + width a) b
  | _, _, _ => false
where
  keyF (TT : TypeId → Option TI) (kb : TypeId → Ty → Bool) (f : Field) (off : Nat) (t : Ty) : Bool :=
    kb f.type t && Nat.beq f.offset off && f.name != "_" && (match TT f.type with | some ti => Nat.beq ti.info.size (width t) | none => false)

/-- may data of this type be keys of that type? -/
def keyB (TT : TypeId → Option TI) : Nat → TypeId → Ty → Bool
  | 0, _, _ => false
  | n + 1, kt, k => match TT kt with
    | none => false
    | some ti => match ti.desc, k with
      | .int a, .int b => decide (a = b)
      | .string, .str => true
      | .bool, .bool => true
      | .struct fs, .struct s => keyFs TT (keyB TT n) fs.toList 0 s
      | _, _ => false

def isAggV : Value → Bool
  | .agg _ => true
  | _ => false

/-- key type, key data, element's type, element data, the zero element -/
def mapTy (TT : TypeId → Option TI) (ty : TypeId) : Option (TypeId × Ty × TI × Ty) := match TT ty with
  | some ti => match ti.desc with
    | .map kt et => match TT kt, TT et with
      | some ki, some ei => match ki.ty, ei.ty, ei.info.zero with
        | some k, some e, some z => bif keyB TT 4 kt k && tyFlat k && (isAggV z == isStruct e) then some (kt, k, ei, e) else none
        | _, _, _ => none
      | _, _ => none
    | _ => none
  | none => none

def zeroDen (ei : TI) (e : Ty) : Option (Den e) := match zeroCells ei with
  | some z => match allR (fun _ => none) z with
    | some zr => asR e zr
    | none => none
  | none => none

def mapOf (h : Nat → Option Obj) (k e : Ty) : C → Option (List (Den k × Den e))
  | .own i => match h i with
    | some (.map k' e' m) => castM k' e' k e m
    | _ => none
  | .r (.mp k' e' m) => castM k' e' k e m
  | _ => none

def denOf (h : Nat → Option Obj) (t : Ty) (d : D) : Option (Den t) := match isStruct t, d with
  | true, .agg cs => match allR h cs with
    | some rs => asR t rs
    | none => none
  | false, .one c => match allR h [c] with
    | some rs => asR t rs
    | none => none
  | _, _ => none

/-! ### slices of slices of the call's own -/
def setR : List R → Nat → List R → List R
  | cs, _, [] => cs
  | cs, off, x :: xs => setR (cs.set off x) (off + 1) xs

def subPay : List Nat → Pay → Option Pay
  | [], P => some P
  | k :: p, ⟨.list e, l⟩ => subPay p ⟨e, List.getD l k ([] : List (Den e))⟩
  | _ :: _, _ => none

def setSub : List Nat → (e : Ty) → List (Den e) → Nat → Nat → List R → Option (List (Den e))
  | [], e, l, k, off, rs => match asR e (setR (cellsR e (l.getD k (dflt e))) off rs) with
    | some y => some (l.set k y)
    | none => none
  | k0 :: p, .list e, l, k, off, rs => match setSub p e (List.getD l k0 ([] : List (Den e))) k off rs with
    | some m => some (List.set l k0 m)
    | none => none
  | _ :: _, _, _, _, _, _ => none

/-- the element types of each depth -/
def tsOf (TT : TypeId → Option TI) : Ty → TypeId → Option (List TypeId)
  | .list e, t => match TT t with
    | some ti => match ti.desc with
      | .slice t' => match tsOf TT e t' with
        | some l => bif Nat.beq ti.info.size 1 then some (t :: l) else none
        | none => none
      | _ => none
    | none => none
  | e, t => match TT t with
    | some ti => bif tyFlat e && Nat.beq ti.info.size (width e) then some [t] else none
    | none => none

def eqNats : List Nat → List Nat → Bool
  | [], [] => true
  | a :: l, b :: m => Nat.beq a b && eqNats l m
  | _, _ => false

def isDeepLeaf : Ty → Bool
  | .int _ | .str | .bool | .pair _ _ | .struct _ => true
  | _ => false

/-- an own slice as the content of a deeper one -/
def rowOf (h : Nat → Option Obj) : C → Option (Nat × List TypeId × Pay)
  | .own i => match h i with
    | some (.lis t e l) => bif tyFlat e && isDeepLeaf e then some (i, [t], ⟨e, l⟩) else none
    | _ => none
  | .dsl i [] => match h i with
    | some (.deep ts e l) => some (i, ts, ⟨e, l⟩)
    | _ => none
  | _ => none

def sliceOf (TT : TypeId → Option TI) (ty : TypeId) : Option (TypeId × TI) := match TT ty with
  | some ti => match ti.desc with
    | .slice e => match TT e with
      | some ei => some (e, ei)
      | none => none
    | _ => none
  | none => none

def isSliceD : TypeDesc → Bool
  | .slice _ => true
  | _ => false

def isListTy : Ty → Bool
  | .list _ => true
  | _ => false

/-- the element type of a slice type, where it is plain and takes its size -/
def elemTy (TT : Types) (ty : TypeId) : Option (TI × Ty) := match TT ty with
  | some ti => match ti.desc with
    | .slice e => match TT e with
      | some ei => match ei.ty with
        | some t => match Nat.beq (width t) ei.info.size with
          | true => some (ei, t)
          | false => none
        | none => none
      | none => none
    | _ => none
  | none => none

/-- the list that an operation makes -/
def payOp (TT : Types) (o : Oper) (xs : List T) (h : Nat → Option Obj) : Option Pay :=
  match o.op, xs with
  | .buildSlice ty n ps, xs => match elemTy TT ty with
    | some (ei, t) => match zeroCells ei with
      | some z => match allR (fun _ => none) z with
        | some zr => match sliceRows h ei.info.size (repl zr n) ps.toList xs with
          | some rows => match allDen t rows with
            | some l => some ⟨t, l⟩
            | none => none
          | none => none
        | none => none
      | none => none
    | none => none
  | .makeSlice ty _ _, [n, _] => match elemTy TT ty, intD n with
    | some (ei, t), some n => match zeroCells ei with
      | some z => match allR (fun _ => none) z with
        | some zr => match asR t zr with
          | some x => some ⟨t, List.replicate n.toNat x⟩
          | none => none
        | none => none
      | none => none
    | _, _ => none
  | .slice ty _ lo hi mx, .d (.one c) :: xs => match elemTy TT ty with
    | some (_, t) => match payOf h t c, pickOpt lo xs with
      | some l, some (lo, xs) => match pickOpt hi xs with
        | some (hi, xs) => match pickOpt mx xs with
          | some (mx, []) => tri lo hi mx ⟨t, []⟩ fun lo hi => ⟨t, (l.drop (lo.getD 0).toNat).take ((hi.getD (l.length : Int)).toNat - (lo.getD 0).toNat)⟩
          | _ => none
        | none => none
      | _, _ => none
    | none => none
  | .store _ _ _, [.d (.one (.eptr i _ k off)), .d x] => match h i, allR h x.cells with
    | some (.lis _ t l), some rs => match asR t (setR (cellsR t (l.getD k (dflt t))) off rs) with
      | some y => some ⟨t, l.set k y⟩
      | none => none
    | _, _ => none
  | .call c, [.d (.one x), .d (.one y)] => match c.callee, (c.argTypes[0]?).bind (elemTy TT) with
    | .builtin .append, some (_, t) => match payOf h t x, payOf h t y with
      | some l, some m => some ⟨t, l ++ m⟩
      | _, _ => none
    | _, _ => none
  | _, _ => none

/-- operations on maps and on slices of slices of the call's own -/
def xOp (TT : Types) (o : Oper) (xs : List T) (h : Nat → Option Obj) : Option (Option Bool × T × Ups) :=
  let t := o.dst.getD 0
  match o.op, xs with
  | .makeMap ty none, [] => match mapTy TT ty with
    | some (_, k, _, e) => some (none, .d (.one (.own (sid t 0))), [(sid t 0, some (.map k e []))])
    | none => none
  | .lookup ty _ _ ok, [.d (.one c), .d key] => match mapTy TT ty with
    | some (_, k, ei, e) => match mapOf h k e c, denOf h k key, zeroDen ei e, ownIds key.cells with
      | some m, some x, some z, [] => match ok with
        | true => some (none, .tup [ofD e ((mget k e x m).getD z), .one (.r (.v (.bool (mget k e x m).isSome)))], [])
        | false => some (none, .d (ofD e ((mget k e x m).getD z)), [])
      | _, _, _, _ => none
    | none => none
  | .mapUpdate ty _ _ _, [.d (.one (.own i)), .d key, .d x] | .insert ty _ _ _, [.d (.one (.own i)), .d key, .d x] => match mapTy TT ty with
    | some (_, k, _, e) => match mapOf h k e (.own i), denOf h k key, denOf h e x, elemNat i (ownIds x.cells), ownIds key.cells with
      | some m, some y, some v, false, [] => some (none, .und, (i, some (.map k e (mset k e y v m))) :: dropIds (ownIds x.cells))
      | _, _, _, _, _ => none
    | none => none
  | .indexAddr ty _ _, [.d (.one (.dsl i p)), n] => match h i, sliceOf TT ty, intD n with
    | some (.deep _ e l), some (_, ei), some n => match subPay p ⟨e, l⟩ with
      | some q => bif Nat.beq ei.info.size (width q.t) then some (some (inb n q.l.length), .d (.one (.dptr i p ei.info.size n.toNat 0)), []) else none
      | none => none
    | _, _, _ => none
  | .load ty _, [.d (.one (.dptr i p sz k off))] => match h i, TT ty with
    | some (.deep _ e l), some ti => match subPay p ⟨e, l⟩ with
      | some ⟨.list _, _⟩ => bif Nat.beq off 0 && Nat.beq sz 1 && Nat.beq ti.info.size 1 && isSliceD ti.desc then some (none, .d (.one (.dsl i (p ++ [k]))), []) else none
      | some q => bif Nat.ble (off + ti.info.size) (width q.t) && Nat.beq sz (width q.t) && tyFlat q.t then (D.mkOf ti ((((cellsR q.t (q.l.getD k (dflt q.t))).drop off).take ti.info.size).map .r)).map fun d => (none, .d d, []) else none
      | none => none
    | _, _ => none
  | .store ty _ _, [.d (.one (.dptr i p sz k off)), .d x] => match h i, TT ty with
    | some (.deep ts e l), some ti => match subPay p ⟨e, l⟩, allR (fun _ => none) x.cells with
      | some q, some rs => match Nat.beq rs.length ti.info.size && Nat.ble (off + rs.length) (width q.t) && Nat.beq sz (width q.t) && tyFlat q.t, setSub p e l k off rs with
        | true, some l' => some (none, .und, [(i, some (.deep ts e l'))])
        | _, _ => none
      | _, _ => none
    | _, _ => none
  | .call c, xs => match c.callee, xs with
    | .builtin .len, [.d (.one (.dsl i p))] => match h i, (c.argTypes[0]?).bind (sliceOf TT) with
      | some (.deep _ e l), some _ => match subPay p ⟨e, l⟩ with
        | some q => some (none, .d (.one (.r (.v (.int .i64 (q.l.length : Int))))), [])
        | none => none
      | _, _ => none
    | .builtin .append, [.d (.one a), .d (.one (.dsl j []))] => match c.argTypes.toList, h j with
      | [t1, t2], some (.deep (et :: ts) e m) => match sliceOf TT t1 with
        | some (et', ei) => match zeroCells ei with
          | some zs => match Nat.beq t1 t2 && Nat.beq et et' && Nat.beq ei.info.size 1 && Nat.beq zs.length 1 && Nat.blt 0 ei.info.bytes && isListTy e, a with
            | true, .r (.v (.slice none 0 0)) => some (some (fits (List.length m) ei.info.bytes), .d (.one (.dsl (sid t 0) [])), [(j, none), (sid t 0, some (.deep (et :: ts) e m))])
            | true, .dsl i [] => match h i with
              | some (.deep ts' e' l) => match castL e' e l, eqNats ts' (et :: ts) && !Nat.beq i j with
                | some l, true => some (some (fits (List.length l + List.length m) ei.info.bytes), .d (.one (.dsl (sid t 0) [])), [(i, none), (j, none), (sid t 0, some (.deep (et :: ts) e (l ++ m)))])
                | _, _ => none
              | _ => none
            | _, _ => none
          | none => none
        | none => none
      | _, _ => none
    | _, _ => none
  | .buildSlice ty n ps, xs => match sliceOf TT ty, (elemTy TT ty) with
    | some (et, ei), some (_, .list e) => match tsOf TT (.list e) et, zeroCells ei with
      | some ts, some zs => match n, ps.toList, xs, Nat.beq zs.length 1 with
        | 0, [], [], true => some (none, .d (.one (.dsl (sid t 0) [])), [(sid t 0, some (.deep ts (.list e) []))])
        | 1, [(0, _)], [.d (.one c)], true => match rowOf h c with
          | some (i, ts', q) => match castL q.t e q.l, eqNats (et :: ts') ts with
            | some l, true => some (none, .d (.one (.dsl (sid t 0) [])), [(i, none), (sid t 0, some (.deep ts (.list e) [l]))])
            | _, _ => none
          | none => none
        | _, _, _, _ => none
      | _, _ => none
    | _, _ => none
  | _, _ => none

def retO (p : Pay) : Nat × Option Obj → Nat × Option Obj
  | (i, some (.arr t _ _ _)) => (i, some (.lis t p.t p.l))
  | q => q
def retX (p : Pay) : T → T
  | .d (.one (.r (.sl _ _ _))) => .d (.one (.r (.li p.t p.l)))
  | x => x

/-- does an operation see lists as what lies in their cells? -/
def erases (o : Oper) : Bool := match o.op with
  | .load _ _ | .store _ _ _ | .slice _ _ _ _ _ | .indexAddr _ _ _ | .convert _ _ _ => true
  | .call c => match c.callee with | .builtin _ => true | _ => false
  | _ => false
def erasesX (o : Oper) : Bool := match o.op with
  | .slice _ _ _ _ _ | .indexAddr _ _ _ | .convert _ _ _ | .load _ _ | .fieldAddr _ _ _ => true
  | .call c => match c.callee with | .builtin _ => true | _ => false
  | _ => false

def byteL (l : List Int) : List UInt8 := l.map fun n => UInt8.ofNat n.toNat

/-- bytes that are made a string -/
def bytesPay (o : Oper) (xs : List T) (h : Nat → Option Obj) : Option (List (Den (.int .u8))) := match o.op, xs with
  | .convert _ _ _, [.d (.one (.r (.li t l)))] => castL t (.int .u8) l
  | .convert _ _ _, [.d (.one (.own i))] => match h i with
    | some (.lis _ t l) => castL t (.int .u8) l
    | _ => none
  | _, _ => none

def isSlc (TT : Types) (ty : TypeId) : Bool := match TT ty with
  | some ti => match ti.desc with
    | .slice _ => true
    | _ => false
  | none => false

/-- a slice compared with nil -/
def nilOp (TT : Types) (o : Oper) (xs : List T) : Option T := match o.op, xs with
  | .binOp .eql ty _ _ _, [.d (.one c), .d (.one (.r (.v (.slice none 0 0))))] => match isSlc TT ty with
    | true => match c with
      | .r (.li _ l) => some (.nilq l.length)
      | .r (.sl _ n _) => some (.nilq n)
      | .r (.v (.slice none 0 0)) => some (.d (.one (.r (.v (.bool true)))))
      | _ => none
    | false => none
  | _, _ => none

def evOpT (TT : Types) (Γ : Env) (o : Oper) (xs : List T) (h : Nat → Option Obj) : Option (Option Bool × T × Ups) :=
  match nilOp TT o xs with
  | some x => some (none, x, [])
  | none =>
  match xOp TT o xs h with
  | some r => some r
  | none =>
  match evOp TT Γ o (bif erasesX o then xs.map T.er else xs) (bif erases o then fun i => (h i).map Obj.er else h) with
  | some (c, x, ups) => match bytesPay o xs h with
    | some l => some (none, .d (.one (.r (.v (.string (mk (byteL l)))))), ups)
    | none => match payOp TT o xs h with
      | some p => some (c, retX p x, ups.map (retO p))
      | none => some (c, x, ups)
  | none => none

/-- the ids that an operation may look at -/
def foot (o : Oper) (xs : List T) (h : Nat → Option Obj) : List Nat :=
  match o.op with
  | .move _ | .assign _ | .pick _ _ _ | .build _ _ | .extract _ _ | .field _ _ _ | .makeFunc _ _ _ | .alloc _ | .box _ _ => []
  | .call c => match c.callee with
    | .builtin _ => addNew [] (xs.flatMap T.refs)
    | _ => closure h 3 (addNew [] (xs.flatMap T.refs))
  | _ => addNew [] (xs.flatMap T.refs)

def within (h : Nat → Option Obj) (ids : List Nat) : Nat → Option Obj := fun i => bif elemNat i ids then h i else none

def isNew (t : Nat) (i : Nat) : Bool := Nat.ble (sid t 0) i && Nat.blt i (sid t 64)

def missing (h : Heap) (i : Nat) : Bool := match look h i with | none => true | some _ => false

def upsOk (ids : List Nat) (o : Oper) (h : Heap) : Ups → Bool
  | [] => true
  | (i, _) :: l => (match o.dst with | some t => (bif isNew t i then missing h i else elemNat i ids && !missing h i) | none => bif isNew 0 i then false else elemNat i ids && !missing h i) && upsOk ids o h l

/-- ids of an operation: looked at, turned -/
structure Marks where
  op : Oper
  seen : List Nat
  wrote : List Nat

def St.put (st : St) (dst : Option Nat) (x : T) : St := match dst with | some t => { st with env := (t, x) :: st.env } | none => st

/-- an operand of an operation that runs where slot s holds this bool -/
def unwrap (g : Option (Nat × Bool)) : T → T
  | .when s w x => match g with
    | some (s', w') => bif Nat.beq s s' && (w == w') then .d x else .when s w x
    | none => .when s w x
  | x => x

def opds (env : List (Nat × T)) (g : Option (Nat × Bool)) (o : Oper) : Option (List T) := allSome (o.op.operands.toList.map fun x => (evOpd env x).map (unwrap g))

inductive Ex where
  | normal
  | exit (id : Nat)
  | ret

abbrev Cont := Ex → St → Option Fin

/-- what a function's text is read with: types, contracts, how many temporaries, slots that are kept at a loop's head (by the number of its first region) and behind a block (by its number; 1000000: behind all), regions whose guards part the ways, what loops come to (by the number of the first region) -/
structure Cx where
  TT : Types
  Γ : Env
  size : Nat
  heads : List (Nat × List Nat)
  ends : List (Nat × List Nat)
  parts : List Nat
  /-- slices that may be nil at a loop's head: slot, element type -/
  nils : List (Nat × List (Nat × TypeId × Ty))
  loops : Nat → Option (St → Cont → Option Fin)

def choice (c : Option Bool) (x : Option Fin) : Option Fin := match c with | none => x | some b => branch b x none

/-- no entry hangs on slot t -/
def noWhen (t : Nat) : List (Nat × T) → Bool
  | [] => true
  | (_, .when s _ _) :: l => bif Nat.beq s t then false else noWhen t l
  | _ :: l => noWhen t l

def putOk (gd : Bool) (cx : Cx) (o : Oper) (env : List (Nat × T)) : Bool := match o.dst with
  | some t => Nat.blt t cx.size && (bif gd then noWhen t env && (match look env t with | some (.when _ _ _) => false | _ => true) else true)
  | none => true

def isWhen : T → Bool
  | .when _ _ _ => true
  | _ => false

/-- an operation that runs -/
def run1 (cx : Cx) (gd : Bool) (o : Oper) (st : St) (K : St → Marks → Option Fin) : Option Fin :=
  match opds st.env none o with
  | none => none
  | some xs =>
    let ids := foot o xs (live st.heap)
    match evOpT cx.TT cx.Γ o xs (within (live st.heap) ids) with
    | none => none
    | some (c, x, ups) => match upsOk ids o st.heap ups && putOk gd cx o st.env && !isWhen x with
      | true => choice c (K ((St.mk st.env (ups ++ st.heap)).put o.dst x) ⟨o, ids, ups.map (·.1)⟩)
      | false => none

/-- does slot s hold this bool? -/
def holds (env : List (Nat × T)) : Nat → Nat → Bool → Option Bool
  | 0, _, _ => none
  | k + 1, s, w => match look env s with
    | some .und => some false
    | some (.d (.one (.r (.v (.bool b))))) => some (b == w)
    | some (.when s' w' (.one (.r (.v (.bool b))))) => match holds env k s' w' with
      | some v => some (v && (b == w))
      | none => none
    | _ => none

def choiceIf (v : Bool) (c : Option Bool) (x : Option Fin) : Option Fin := match c with | none => x | some b => branch (bif v then b else true) x none

def dstNe (o : Oper) (s : Nat) : Bool := match o.dst with | some t => !Nat.beq t s | none => true

/-- an operation that runs where slot s holds this bool, and turns no memory -/
def run2 (cx : Cx) (s : Nat) (w : Bool) (o : Oper) (st : St) (K : St → Marks → Option Fin) : Option Fin :=
  match holds st.env 20 s w with
  | none => none
  | some v =>
    match opds st.env (some (s, w)) o with
    | none => none
    | some xs =>
      let ids := foot o xs (live st.heap)
      match evOpT cx.TT cx.Γ o xs (within (live st.heap) ids) with
      | some (c, .d x, []) => match putOk true cx o st.env && dstNe o s with
        | true => choiceIf v c (K (st.put o.dst (.when s w x)) ⟨o, ids, []⟩)
        | false => none
      | _ => none

def boolD : T → Option Bool
  | .d (.one (.r (.v (.bool b)))) => some b
  | _ => none

def step (cx : Cx) (gd part : Bool) (ops : Array Oper) (o : Oper) (st : St) (K : St → Marks → Option Fin) : Option Fin :=
  match o.guard with
  | none => run1 cx gd o st K
  | some (g, want) => match (ops[g]?).bind (·.dst) with
    | none => none
    | some d => match part with
      | false => run2 cx d want o st K
      | true => match holds st.env 20 d want with
        | some v => branch v (run1 cx true o st K) (bif putOk true cx o st.env then K (st.put o.dst .und) ⟨o, [], []⟩ else none)
        | none => none

def steps (cx : Cx) (gd part : Bool) (ops : Array Oper) : List Oper → St → (St → List Marks → Option Fin) → Option Fin
  | [], st, K => K st []
  | o :: l, st, K => step cx gd part ops o st fun st m => steps cx gd part ops l st fun st ms => K st (m :: ms)

def disj (a b : List Nat) : Bool := a.all fun i => !elemNat i b

def bitOf (n i : Nat) : Bool := n.testBit i

/-- operations i < j that no edge orders do not touch each other's temporaries and objects -/
def indep (ops : Array Oper) (x y : Marks) : Bool :=
  x.op.apart ops y.op && disj x.wrote y.seen && disj x.wrote y.wrote && disj y.wrote x.seen

/-- the operations that edges put ahead of each, as bits -/
def befOf (acc : List Nat) : List Edge → Nat
  | [] => 0
  | e :: l => (bif Region.binds .any e then (2 ^ e.on ||| acc.getD e.on 0) else 0) ||| befOf acc l
def befs : List Oper → List Nat → List Nat
  | [], acc => acc
  | o :: l, acc => befs l (acc ++ [befOf acc o.after.toList])

def okAfter (ops : Array Oper) (bs : List Nat) (i : Nat) (m : Marks) : Nat → List Marks → Bool
  | _, [] => true
  | k, x :: xs => ((bs.getD k 0).testBit i || indep ops m x) && okAfter ops bs i m (k + 1) xs
def okOrder (ops : Array Oper) (bs : List Nat) : Nat → List Marks → Bool
  | _, [] => true
  | i, m :: ms => okAfter ops bs i m (i + 1) ms && okOrder ops bs (i + 1) ms

/-- edges lead back -/
def edgesOk : Nat → List Oper → Bool
  | _, [] => true
  | i, o :: l => o.after.toList.all (fun e => !Region.binds .any e || Nat.blt e.on i) && edgesOk (i + 1) l

def noSel (ops : List Oper) : Bool := ops.all fun o => match o.op with | .select .. => false | _ => true

/-- what is there only where a slot holds something is forgotten -/
def dropWhen : List (Nat × T) → List (Nat × T)
  | [] => []
  | (t, .when _ _ _) :: l => (t, .unk) :: dropWhen l
  | x :: l => x :: dropWhen l

def guarded : List Oper → Bool
  | [] => false
  | o :: l => match o.guard with | some _ => true | none => guarded l

def region (cx : Cx) (id : Nat) (ops : Array Oper) (draw : Bool) (st : St) (K : St → Option Fin) : Option Fin :=
  match guarded ops.toList with
  | false => steps cx false false ops ops.toList st fun st ms => tail draw ms (K st)
  | true => steps cx true (elemNat id cx.parts) ops ops.toList st fun st ms => tail draw ms (K ⟨dropWhen st.env, st.heap⟩)
where
  tail (draw : Bool) (ms : List Marks) (x : Option Fin) : Option Fin := match draw with
    | false => x
    | true => match edgesOk 0 ops.toList && okOrder ops (befs ops.toList []) 0 ms with
      | true => x
      | false => none

/-! ### what is kept where code meets again -/
/-- ids of what slots hold, in order -/
def rootsOf (env : List (Nat × T)) : List Nat → List Nat
  | [] => []
  | t :: l => (match look env t with | some x => x.refs | none => []) ++ rootsOf env l

def keepEnv (env : List (Nat × T)) (ρ : Nat → Option Nat) : List Nat → List (Nat × T)
  | [] => []
  | t :: l => match look env t with
    | some x => (t, x.ren ρ) :: keepEnv env ρ l
    | none => keepEnv env ρ l

def freshAt (k : Nat) : List Nat → List (Nat × Nat)
  | [] => []
  | i :: l => bif Nat.blt i 1000 then (i, i) :: freshAt k l else (i, 500000 + k) :: freshAt (k + 1) l

def liveOnly (h : Heap) : List Nat → List Nat
  | [] => []
  | i :: l => match live h i with | some _ => i :: liveOnly h l | none => liveOnly h l

def keepHeap (h : Heap) (ρ : Nat → Option Nat) : List (Nat × Nat) → Heap
  | [] => []
  | (i, j) :: l => match live h i with
    | some o => (j, some (o.ren ρ)) :: keepHeap h ρ l
    | none => keepHeap h ρ l

def passed (h : Heap) : List Nat := addNew [] (h.filterMap fun (i, o) => bif Nat.blt i 1000 then (match o with | some _ => some i | none => none) else none)

def tabOk (tab : List (Nat × Nat)) : Bool := nodupN (tab.map (·.1)) && nodupN (tab.map (·.2))

/-- Of the state just these slots, and what they lead to, under new ids. -/
def prune (keep : List Nat) (st : St) : St :=
  let tab := freshAt 0 (liveOnly st.heap (closure (live st.heap) 4 (addNew [] (rootsOf st.env keep ++ passed st.heap))))
  match tabOk tab with
  | true => ⟨keepEnv st.env (look tab) keep, keepHeap st.heap (look tab) tab⟩
  | false => ⟨[], []⟩

def firstRegion : Code → Option Nat
  | .region id _ _ => some id
  | .seq a b => match firstRegion a with | some i => some i | none => firstRegion b
  | .cond _ a b => match firstRegion a with | some i => some i | none => firstRegion b
  | .block _ c => firstRegion c
  | .loop c => firstRegion c
  | .scope c => firstRegion c
  | _ => none

def pruneAt (l : List (Nat × List Nat)) (i : Nat) (st : St) : St := match look l i with | some keep => prune keep st | none => st

/-- nil slices become slices of no elements that the call owns -/
def ownNils : List (Nat × TypeId × Ty) → St → St
  | [], st => st
  | (s, t, e) :: l, st => match look st.env s with
    | some (.d (.one (.r (.v (.slice none 0 0))))) => match missing st.heap (400000 + s) with
      | true => ownNils l ⟨(s, .d (.one (.own (400000 + s)))) :: st.env, (400000 + s, some (.lis t e [])) :: st.heap⟩
      | false => ownNils l st
    | _ => ownNils l st

/-- what is kept at a loop's head -/
def headAt (cx : Cx) (id : Nat) (st : St) : St := pruneAt cx.heads id (match look cx.nils id with | some l => ownNils l st | none => st)

/-- rounds of a loop -/
def iter (f : St → Cont → Option Fin) (head : St → St) : Nat → St → Cont → Option Fin
  | 0, _, _ => none
  | n + 1, st, K => f st fun e st' => match e with
    | .normal => iter f head n (head st') K
    | e => K e st'

def nilD : T → Option Nat
  | .nilq n => some n
  | _ => none

open Classical in
/-- both come to the same -/
noncomputable def both (x y : Option Fin) : Option Fin := if x = y then x else none

noncomputable def evC (cx : Cx) : Code → St → Cont → Option Fin
  | .skip, st, K => K .normal st
  | .region id ops draw, st, K => region cx id ops draw st fun st => K .normal st
  | .seq a b, st, K => evC cx a st fun e st' => match e with
    | .normal => evC cx b st' K
    | e => K e st'
  | .cond c a b, st, K => match (evOpd st.env c).bind nilD with
    | some n => branch (Nat.blt 0 n) (evC cx b st K) (both (evC cx a st K) (evC cx b st K))
    | none => match (evOpd st.env c).bind boolD with
      | some t => branch t (evC cx a st K) (evC cx b st K)
      | none => none
  | .block id c, st, K => evC cx c st fun e st' => match e with
    | .exit i => bif Nat.beq i id then K .normal st' else K (.exit i) st'
    | e => K e st'
  | .loop c, st, K => match cx.loops ((firstRegion c).getD 0) with
    | some g => g (headAt cx ((firstRegion c).getD 0) st) K
    | none => none
  | .exit id, st, K => K (.exit id) (pruneAt cx.ends id st)
  | .ret, st, K => K .ret (pruneAt cx.ends 1000000 st)
  | _, _, _ => none

/-- the loops of a text -/
def loopsOf : Code → List (Nat × Code)
  | .seq a b => loopsOf a ++ loopsOf b
  | .cond _ a b => loopsOf a ++ loopsOf b
  | .block _ c => loopsOf c
  | .loop c => ((firstRegion c).getD 0, c) :: loopsOf c
  | _ => []

/-! ### a function -/
def resOf (st : St) : ResultVar → Types → Option D
  | .tmp t, _ => match look st.env t with | some (.d x) => some x | _ => none
  | .cell a ty, TT => match look st.env a, TT ty with
    | some (.d (.one a)), some ti => (cellsAt (live st.heap) ti.info.size a).bind (D.mkOf ti)
    | _, _ => none

def resAll (TT : Types) (st : St) : List ResultVar → Option (List D)
  | [] => some []
  | r :: l => match resOf st r TT, resAll TT st l with
    | some d, some ds => some (d :: ds)
    | _, _ => none

/-- nil slices as slices of no elements -/
def nilCell (TT : Types) (ti : TI) : C → C
  | .r (.v (.slice none 0 0)) => match ti.desc with
    | .slice e => match TT e with
      | some ei => match ei.ty with
        | some t => .r (.li t [])
        | none => .r (.sl ei.info.size 0 fun _ => ezAt ti.ez)
      | none => .r (.v (.slice none 0 0))
    | _ => .r (.v (.slice none 0 0))
  | c => c

def nilCells (TT : Types) : List Field → List C → List C
  | f :: fs, c :: cs => (match TT f.type with | some ti => (bif Nat.beq ti.info.size 1 then nilCell TT ti c else c) | none => c) :: nilCells TT fs cs
  | _, cs => cs

def D.nils (TT : Types) (ty : TypeId) : D → D
  | .one c => match TT ty with | some ti => .one (nilCell TT ti c) | none => .one c
  | .agg cs => match TT ty with
    | some ti => match ti.desc with
      | .struct fs => bif fs.toList.all (fun f => match TT f.type with | some fi => Nat.beq fi.info.size 1 | none => false) then .agg (nilCells TT fs.toList cs) else .agg cs
      | _ => .agg cs
    | none => .agg cs

def nilsAll (TT : Types) : List TypeId → List D → List D
  | t :: ts, d :: ds => d.nils TT t :: nilsAll TT ts ds
  | _, ds => ds

def mkRes : List D → T
  | [d] => .d d
  | ds => .tup ds

def startEnv : Nat → List D → List (Nat × T)
  | _, [] => []
  | k, d :: ds => (k, .d d) :: startEnv (k + 1) ds

/-- nil slices among cells become slices of no elements that the call owns -/
def ownCell (TT : Types) (ty : TypeId) (c : C) (hp : Heap) (k : Nat) : Option (C × Heap) := match c, TT ty with
  | .r (.v (.slice none 0 0)), some ti => match ti.desc with
    | .slice e => match TT e with
      | some ei => match ei.ty with
        | some t => match missing hp (600000 + k) with
          | true => some (.own (600000 + k), (600000 + k, some (.lis e t [])) :: hp)
          | false => none
        | none => none
      | none => none
    | _ => none
  | _, _ => none

def ownCells (TT : Types) : List TypeId → List C → Heap → Nat → List C × Heap
  | t :: ts, c :: cs, hp, k => match ownCell TT t c hp k with
    | some (c', hp') => let r := ownCells TT ts cs hp' (k + 1); (c' :: r.1, r.2)
    | none => let r := ownCells TT ts cs hp (k + 1); (c :: r.1, r.2)
  | _, cs, hp, _ => (cs, hp)

/-- the types of the cells of data of this type, where each is one cell -/
def cellTys (TT : Types) (ty : TypeId) : List TypeId := match TT ty with
  | some ti => match ti.desc with
    | .struct fs => bif fs.toList.all (fun f => match TT f.type with | some fi => Nat.beq fi.info.size 1 | none => false) then fs.toList.map (·.type) else []
    | _ => [ty]
  | none => []

def ownRes (TT : Types) : List TypeId → List D → Heap → Nat → List D × Heap
  | t :: ts, .one c :: ds, hp, k => match ownCells TT (cellTys TT t) [c] hp (k * 64) with
    | ([c'], hp') => let r := ownRes TT ts ds hp' (k + 1); (.one c' :: r.1, r.2)
    | _ => (.one c :: ds, hp)
  | t :: ts, .agg cs :: ds, hp, k => let q := ownCells TT (cellTys TT t) cs hp (k * 64); let r := ownRes TT ts ds q.2 (k + 1); (.agg q.1 :: r.1, r.2)
  | _, ds, hp, _ => (ds, hp)

def startHeap : Nat → List Obj → Heap
  | _, [] => []
  | k, o :: os => (k, some o) :: startHeap (k + 1) os

def backIds (k : Nat) : List Nat → List (Nat × Nat)
  | [] => []
  | i :: l => bif Nat.blt i 1000 then (i, i) :: backIds k l else (i, 1000 + k) :: backIds (k + 1) l

def gone (h : Heap) : Nat → Heap
  | 0 => []
  | n + 1 => (match live h n with | some _ => [] | none => [(n, none)]) ++ gone h n

def sameIds (m : Nat) : List (Nat × Nat) := (List.range m).map fun i => (i, i)

/-- a function's end: results as read only data ('ro'), or with the objects that they lead to -/
def fin (TT : Types) (fn : Func) (ro : Bool) (m : Nat) (st : St) : Option Fin :=
  match resAll TT st fn.results.toList with
  | none => none
  | some ds =>
    match ro with
    | true => match allSome (ds.map (D.toR (live st.heap))) with
      | some rs =>
        let h := dropIds (closure (live st.heap) 3 (addNew [] (ds.flatMap D.refs))) ++ st.heap
        some (mkRes (nilsAll TT fn.resultTypes.toList rs), keepHeap h (look (sameIds m)) (sameIds m) ++ gone h m)
      | none => none
    | false =>
      let q := ownRes TT fn.resultTypes.toList ds st.heap 0
      let tab := backIds 0 (liveOnly q.2 (closure (live q.2) 4 (addNew [] (q.1.flatMap D.refs ++ List.range m))))
      match tabOk tab with
      | true => some (mkRes (nilsAll TT fn.resultTypes.toList (q.1.map (D.ren (look tab)))), keepHeap q.2 (look tab) tab ++ gone q.2 m)
      | false => none

noncomputable def evFn (cx : Cx) (fn : Func) (ro : Bool) (ds : List D) (os : List Obj) : Option Fin :=
  match fn.body with
  | some c => match Nat.ble ds.length cx.size && Nat.ble os.length 1000 with
    | true => evC cx c ⟨startEnv 0 ds, startHeap 0 os⟩ fun e st => match e with
      | .exit _ => none
      | _ => fin cx.TT fn ro os.length st
    | false => none
  | none => none

end Go.Proofs.YthhmpjnmmhfngaaDoor.Ev
